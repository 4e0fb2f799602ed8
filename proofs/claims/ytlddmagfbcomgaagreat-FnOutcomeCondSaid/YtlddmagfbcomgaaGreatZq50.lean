/-
  Parts of the reference's step with one memory: places of registers, the value that is written, whether all is done, the outcome. Condition: bounds on lengths and numbers.
-/
import Derived.Test.YtlddmagfbcomgaaGreatZq12
import Derived.Test.YtlddmagfbcomgaaGreatZq06
import Derived.Laws.BytesArg
import Derived.Laws.DeepStrings4
import Derived.Test.YtlddmagfbcomgaaGreatZq04
import Derived.Deep.RegionHeld3
import Derived.Deep.DeepCutAuto
import Derived.Deep.RegionLaw
import Derived.Test.YtlddmagfbcomgaaGreatZq05
set_option maxHeartbeats 6400000
set_option maxRecDepth 100000
namespace Go.Proofs.YtlddmagfbcomgaaGreat
open Go.RowKit
abbrev keyB (l:List Int):ByteArray:=strOfNums l
theorem keyB_inj {l l':List Int} (h:∀ x∈l,0≤x∧x≤255) (h':∀ x∈l',0≤x∧x≤255) (e:keyB l=keyB l'):l=l':=by
 have e1:(l.map fun x=>UInt8.ofNat x.toNat)=l'.map fun x=>UInt8.ofNat x.toNat:=by
  have:=congrArg (fun b:ByteArray=>b.data.toList) e
  simpa [strOfNums] using this
 clear e
 induction l generalizing l' with
 | nil=>cases l' with
  | nil=>rfl
  | cons y l'=>simp at e1
 | cons x l ih =>
  cases l' with
  | nil=>simp at e1
  | cons y l' =>
   simp only [List.map_cons,List.cons.injEq] at e1
   have h1:=h x (by simp)
   have h2:=h' y (by simp)
   have e2:=congrArg UInt8.toNat e1.1
   simp only [UInt8.toNat_ofNat'] at e2
   rw [Nat.mod_eq_of_lt (by omega),Nat.mod_eq_of_lt (by omega)] at e2
   rw [ih (fun z hz=>h z (by simp [hz])) (fun z hz=>h' z (by simp [hz])) e1.2,show x=y by omega]
def hashL (l:List UInt8):Nat:=l.foldl (fun n c=>(n * 31+c.toNat) % 4096) 0
def hashB (s:ByteArray):Nat:=hashL s.data.toList
theorem hashL_snoc (l:List UInt8) (c:UInt8):hashL (l++[c])=(hashL l * 31+c.toNat) % 4096:=by simp [hashL]
theorem hashL_lt (l:List UInt8):hashL l < 4096:=by
 rcases List.eq_nil_or_concat l with rfl | ⟨l',c,rfl⟩
 ·simp [hashL]
 ·rw [List.concat_eq_append,hashL_snoc];exact Nat.mod_lt _ (by decide)
theorem hashB_lt (s:ByteArray):hashB s < 4096:=hashL_lt _
def rowT (ks:List ByteArray) (h:Nat):List ByteArray:=ks.filter fun k=>hashB k==h
def rowsT (ks:List ByteArray):List (List ByteArray):=(List.range 4096).map (rowT ks)
theorem rowsT_length (ks:List ByteArray):(rowsT ks).length=4096:=by simp [rowsT]
theorem rowsT_get (ks:List ByteArray) {h:Nat} (hh:h < 4096):(rowsT ks)[h]? = some (rowT ks h):=by
 unfold rowsT
 rw [List.getElem?_map,List.getElem?_range hh];rfl
theorem rowsT_nil:rowsT []=List.replicate 4096 []:=by
 apply List.ext_getElem?
 intro k
 by_cases h:k < 4096
 ·rw [rowsT_get _ h,List.getElem?_replicate,if_pos h];rfl
 ·rw [List.getElem?_eq_none (by rw [rowsT_length];omega),List.getElem?_eq_none (by rw [List.length_replicate];omega)]
theorem rowsT_mark (ks:List ByteArray) (s:ByteArray):(rowsT ks).set (hashB s) (rowT ks (hashB s)++[s])=rowsT (ks++[s]):=by
 apply List.ext_getElem?
 intro k
 by_cases h:k < 4096
 ·rw [rowsT_get _ h,List.getElem?_set]
  by_cases e:hashB s=k
  ·rw [if_pos e,if_pos (by rw [rowsT_length];omega)]
   subst e
   simp [rowT,List.filter_append]
  ·rw [if_neg e,rowsT_get _ h]
   have e2:(hashB s==k)=false:=by simpa using e
   simp [rowT,List.filter_append,e2]
 ·rw [List.getElem?_eq_none (by rw [List.length_set,rowsT_length];omega),List.getElem?_eq_none (by rw [rowsT_length];omega)]
theorem rowT_mem (ks:List ByteArray) (s:ByteArray):s∈rowT ks (hashB s)↔s∈ks:=by simp [rowT]
theorem rowT_le (ks:List ByteArray) (h:Nat):(rowT ks h).length≤ks.length:=List.length_filter_le _ _
end Go.Proofs.YtlddmagfbcomgaaGreat
namespace Go.Proofs.YtlddmagfbcomgaaGreat
open Go.RowKit
theorem byteGetM {s:ByteArray} {k:Nat} (h:k < s.size):s.data.toList[k]? = some (s[k]'h):=by
 rw [List.getElem?_eq_getElem (by rw [Array.length_toList];exact h),Array.getElem_toList];rfl
theorem l3Hash_any (s:ByteArray) (w:World) (hs:s.size≤1000000) :
 Calls Tryz.prog 214 #[.string s] w fun e w'=>e = .returned (.int .i64 (hashB s:Nat))∧w=w':=by
 have HH:Hid (hashB s=hashL s.data.toList):=hide rfl
 have HN:Hid (s.data.toList.length=s.size):=hide (by rw [Array.length_toList];rfl)
 have HG:=hide (fun (k:Nat) (h:k < s.size)=>byteGetM h)
 generalize hl:s.data.toList=l at *
 clear hl
 go_enter Tryz.func214,Tryz.ntmps214
 go_wp2_with fail
 go_loopw [3,4] (fun n i wr => ∃ k:Nat,k≤s.size∧i = .int .i64 k∧n = .int .i64 (hashL (l.take k):Nat)∧w=wr) (fun _ i _=>s.size - (intOf i).toNat)
 case atStart=>exact ⟨0,Nat.zero_le _,rfl,by simp [hashL],rfl⟩
 case round =>
  obtain ⟨k,hk,rfl,rfl,rfl⟩:=hrel
  by_cases hlt:k < s.size
  ·have hlt':=nat_of_lt hlt
   have hki:0≤(k:Int)∧(k:Int) < s.size:=by omega
   have hg:=HG.out k hlt
   have HS:Hid (hashL (l.take (k+1))=(hashL (l.take k) * 31+(s[k]'hlt).toNat) % 4096):=hide (by rw [List.take_add_one,hg];exact hashL_snoc _ _)
   have hb:=(s[k]'hlt).toNat_lt
   have hq:=hashL_lt (l.take k)
   generalize hashL (l.take k)=q at *
   clear hg
   go_wp2_with fail
   go_roundw
   case rel=>exact ⟨k+1,by omega,by go_num,by rw [HS.out];go_num,by trivial⟩
   case measure=>simp [intOf];omega
  ·have e:k=s.size:=by omega
   subst e
   have E:Hid (hashL (l.take s.size)=hashB s):=hide (by rw [HH.out,List.take_of_length_le (by rw [HN.out];exact Nat.le_refl _)])
   go_wp2_with fail
   go_ret
   rw [E.out]
   exact ⟨rfl,rfl⟩
abbrev Tab (w:World) (base:Nat) (v:Value) (ks:List ByteArray):Prop:=Own2 StrE 118 9 w base v (rowsT ks)
theorem Rep.strM {w:World} {a:Option Addr} {n c:Nat} {xs:List ByteArray} (h:Rep StrE w (.slice a n c) xs) {k:Nat} {x:ByteArray} (hx:xs[k]? = some x) :
 ∃ b o,a=some ⟨b,o,none⟩∧b < w.heap.size∧w.cell? ⟨b,o+k,none⟩=some (.string x):=by
 obtain ⟨a',c',hv,_,_,h⟩:=h
 simp only [Value.slice.injEq] at hv
 obtain ⟨rfl,rfl,rfl⟩:=hv
 obtain ⟨b,o,rfl,h'⟩:=h k x hx
 have:=h' 0 _ rfl
 simp only [StrE,Nat.mul_one,Nat.add_zero] at this
 exact ⟨b,o,rfl,lt_of_cell this,this⟩
theorem strEqM (a b:ByteArray) {D:Bool} (hD:D=true↔a=b):(a.toList==b.toList)=D:=by
 rw [ByteArray.toList_eq,ByteArray.toList_eq]
 rcases hq:(a.data.toList==b.data.toList) with _ | _
 ·symm
  rw [Bool.eq_false_iff]
  intro h
  have:=hD.1 h
  subst this
  simp at hq
 ·symm
  exact hD.2 (ByteArray.ext (Array.toList_inj.1 (by simpa using hq)))
def RetIfM (w:World) (q:Prop) (e:Ending) (w':World):Prop:=∃ D:Bool,e = .returned (.bool D)∧(D=true↔q)∧w=w'
theorem l3Found_any (vt:Value) (ks:List ByteArray) (s:ByteArray) (w:World) (hr:Rep2 StrE w vt (rowsT ks)) (hs:s.size≤1000000) :
 Calls Tryz.prog 199 #[vt, .string s] w (RetIfM w (s∈ks)):=by
 obtain ⟨a,c,rfl,hc1,hc2,hc3,hr⟩:=hr.open
 have hh:=hashB_lt s
 obtain ⟨b,o,ra,rc,rfl,hbl,i0,i1⟩:=hr.row (rowsT_get ks hh)
 obtain ⟨_,_,_,_,hrl,_,_⟩:=i1.open
 rw [rowsT_length] at hc1 hc2 ⊢
 have HI:=hide i1
 have HH:=hide (l3Hash_any s w hs)
 have hh':(hashB s:Int) < 4096:=by omega
 have HM:Hid (s∈rowT ks (hashB s)↔s∈ks):=hide (rowT_mem ks s)
 generalize rowT ks (hashB s)=R at *
 generalize (s∈ks)=D at *
 generalize hashB s=H at *
 generalize hn:R.length=n at *
 have HN:=hide hn
 clear hn i1 hr
 go_enter Tryz.func199,Tryz.ntmps199
 go_wp2_with (go_at_call 214;(with_reducible refine HH.out.mono ?_);rintro e w1 ⟨rfl,rfl⟩)
 go_loopw [6] (fun i wr => ∃ k:Nat,k≤n∧i = .int .i64 k∧Hid (s∉R.take k)∧w=wr) (fun i _=>n - (intOf i).toNat)
 case atStart=>exact ⟨0,Nat.zero_le _,rfl,hide (by simp),rfl⟩
 case round =>
  obtain ⟨k,hk,rfl,hno,rfl⟩:=hrel
  by_cases hlt:k < n
  ·have hlt':=nat_of_lt hlt
   obtain ⟨y,hy⟩:=get_of_lt (xs:=R) (k:=k) (by rw [HN.out];exact hlt)
   obtain ⟨b',o',rfl,hbl',j0⟩:=HI.out.strM hy
   have Y:=hide hy;clear hy
   by_cases e:y=s
   ·have hq':(y.toList==s.toList)=true:=strEqM y s (by simp [e])
    have E:Hid D:=hide (HM.out.1 (by rw [← e];exact List.mem_of_getElem? Y.out))
    clear e
    go_wp2_with fail
    go_ret
    exact ⟨true,rfl,by simp [E.out],rfl⟩
   ·have hq':(y.toList==s.toList)=false:=strEqM y s (by simp [e])
    have NO:Hid (s∉R.take (k+1)):=hide (by
     rw [List.take_add_one,Y.out]
     simp only [Option.toList_some,List.mem_append,List.mem_singleton,not_or]
     exact ⟨hno.out,fun q=>e q.symm⟩)
    clear e
    go_wp2_with fail
    go_roundw
    case rel=>exact ⟨k+1,by omega,by go_num,NO,by trivial⟩
    case measure=>simp [intOf];omega
  ·have E:Hid (¬ D):=hide (by
    rw [← HM.out]
    have h:=hno.out
    rwa [List.take_of_length_le (by rw [HN.out];omega)] at h)
   have hlt':¬ (k:Int) < n:=by omega
   go_wp2_with fail
   go_ret
   exact ⟨false,rfl,by simp [E.out],rfl⟩
def RetMark (w:World) (base:Nat) (vt:Value) (ks:List ByteArray) (e:Ending) (w':World):Prop:=e = .returned (.tuple #[])∧Tab w' base vt ks∧KpT [118,9] base w w'
theorem l3Mark_any (vt:Value) (ks:List ByteArray) (s:ByteArray) (base:Nat) (w:World) (hr:Tab w base vt ks) (hs:s.size≤1000000) (hk:ks.length≤68719476736) (hB:base≤w.heap.size) :
 Calls Tryz.prog 193 #[vt, .string s] w (RetMark w base vt (ks++[s])):=by
 obtain ⟨us,hU, -⟩:=hr.told
 have hh:=hashB_lt s
 have HH:=hide (fun w'=>l3Hash_any s w' hs)
 rcases hU.2.1.shape with ⟨_,hn⟩ | ⟨g,cap,rfl,hg1,hg2,hg3,hg4⟩
 ·have:=hU.1
  rw [hn,rowsT_length] at this
  simp at this
 have hul:us.length=4096:=by rw [hU.1,rowsT_length]
 rw [hul] at hU ⊢
 obtain ⟨u,hu,hgl,hcell,hrow, -⟩:=hU.row (rowsT_get ks hh)
 have hfz:w.frozen? ⟨g,hashB s,none⟩=false:=hU.2.1.frozen _
 have hl:(rowT ks (hashB s)).length≤68719476736:=Nat.le_trans (rowT_le _ _) hk
 have HU:=hide hU;have HUS:=hide hu
 have HMk:=hide (rowsT_mark ks s)
 have hh':(hashB s:Int) < 4096:=by omega
 have HR:=hide hrow
 have HT:=hide hr
 generalize rowT ks (hashB s)=R at *
 generalize hashB s=H at *
 clear hrow hu hU hr hul
 have hne:u.v.ownBlock≠some g:=fun e=>HU.out.2.2.2.2 H u HUS.out g e rfl
 have hx1:((w.alloc (.cells #[.string s] 9)).cell? ⟨g,H,none⟩)=some (.slice u.a u.n u.cap):=(World.cell?_alloc_lt w _ _ hgl).trans hcell
 go_enter Tryz.func193,Tryz.ntmps193
 go_wp2_with (first
  | (go_at_call 214;(with_reducible refine (HH.out _).mono ?_);rintro e w1 ⟨rfl,rfl⟩)
  | (at_builtin;refine wpList_appAt StrE 9 Tryz.infoStr rfl Tryz.underlying118 base _ R s (HR.out.alloc _) (by decide) hl (by simp;omega) rfl _ _ rfl rfl _ 0 1 rfl news_alloc ?_;intro v4 w4 hown4 hgr4 hat4;obtain ⟨⟨a4,n4,c4⟩,rfl, -⟩:=hown4.toSlc;have hgb:=hgr4.block g (by simp;omega) (fun e=>hne e.symm);have hx4:w4.cell? ⟨g,H,none⟩=some (.slice u.a u.n u.cap):=(cell_of_block3 hgb H).trans hx1;have hf4:w4.frozen? ⟨g,H,none⟩=false:=(by unfold World.frozen?;rw [hgb,heap_alloc_old _ _ hgl]:w4.frozen? ⟨g,H,none⟩=w.frozen? ⟨g,H,none⟩).trans hfz;have hgl4:=lt_of_cell hx4;have O4:=hide hown4;have G4:=hide hgr4;have A4:=hide hat4;clear hown4 hgr4 hat4 hgb))
 have hU1:=HU.out.below (belowAlloc w (.cells #[.string s] 9))
 have hN:=hU1.rowput2 HUS.out O4.out G4.out A4.out
 rw [HMk.out] at hN
 refine bodyPost_ret (v:=.tuple #[]) (by simp [results,Tryz.results193,go_sem]) rfl ⟨rfl,hN.own, ?_⟩
 obtain ⟨a9,ha9⟩:=(HU.out.2.1.below (belowAlloc w (.cells #[.string s] 9))).typeT (g:=g) rfl
 have hgb4:=(G4.out.block g (by simp;omega) (fun e=>hne e.symm)).trans ha9
 exact ((KpT.alloc w _).trans (KpT.grown (HR.out.alloc _) (by decide) (Nat.le_refl _) G4.out)).trans (KpT.set hgb4 (by decide) hg1 _)
end Go.Proofs.YtlddmagfbcomgaaGreat
namespace Go.Proofs.YtlddmagfbcomgaaGreat
open Go.RowKit
def laneA (fa ff:Bool) (A:Nat) (f:Slc):Slc:=if ff=true then f else if fa=true then ⟨some ⟨A,0,none⟩,0,0⟩ else ⟨none,0,0⟩
def laneL (ff:Bool) (l:List Int):List Int:=if ff=true then l else []
structure JCp (A0:World) (pc rg mm:List Int) (a1 f1 a2 f2 a3 f3 fo:Bool) (A B C:Nat) (f g h:Slc) (O:Nat) (W:World):Prop where
 out:Below A0.heap.size A0 W
 ln:Lanes W A0.heap.size (laneA a1 f1 A f) (laneA a2 f2 B g) (laneA a3 f3 C h) (laneL f1 pc) (laneL f2 rg) (laneL f3 mm)
 i1:f1=true→a1=true
 i2:f2=true→a2=true
 i3:f3=true→a3=true
 ob:fo=true→W.heap[O]? = some (.cells #[.slice none 0 0, .slice none 0 0, .slice none 0 0, .slice none 0 0] 195 (0,0))∧A0.heap.size≤O
section
variable {A0 W w' : World} {pc rg mm : List Int} {a1 f1 a2 f2 a3 f3 fo : Bool} {A B C O : Nat} {f g h s' : Slc}
theorem JCp.start (hb:Below A0.heap.size A0 W):JCp A0 pc rg mm false false false false false false false A B C f g h O W:=⟨hb,Lanes.nil _ _,fun e=>(nomatch e),fun e=>(nomatch e),fun e=>(nomatch e),fun e=>(nomatch e)⟩
theorem JCp.obB (hJ:JCp A0 pc rg mm a1 f1 a2 f2 a3 f3 fo A B C f g h O W) (hb:Below W.heap.size W w'):fo=true→w'.heap[O]? = some (.cells #[.slice none 0 0, .slice none 0 0, .slice none 0 0, .slice none 0 0] 195 (0,0))∧A0.heap.size≤O:=fun e =>
 ⟨(hb.block O (Array.getElem?_eq_some_iff.1 (hJ.ob e).1).1).trans (hJ.ob e).1,(hJ.ob e).2⟩
theorem JCp.obG (hJ:JCp A0 pc rg mm a1 f1 a2 f2 a3 f3 fo A B C f g h O W) {c:Slc} {l:List Int} {base:Nat} (ho:Own IntE 3 W base c.v l) (hg:W.grownBy w' c.v.ownBlock):fo=true→w'.heap[O]? = some (.cells #[.slice none 0 0, .slice none 0 0, .slice none 0 0, .slice none 0 0] 195 (0,0))∧A0.heap.size≤O:=fun e=>by
 have h1:=(hJ.ob e).1
 refine ⟨(hg.block O (Array.getElem?_eq_some_iff.1 h1).1 fun q => ?_).trans h1,(hJ.ob e).2⟩
 obtain ⟨a,ha⟩:=ho.typeT q.symm
 rw [h1] at ha
 simp at ha
theorem JCp.outG (hJ:JCp A0 pc rg mm a1 f1 a2 f2 a3 f3 fo A B C f g h O W) {c:Slc} {l:List Int} (ho:Own IntE 3 W A0.heap.size c.v l) (hg:W.grownBy w' c.v.ownBlock):Below A0.heap.size A0 w':=
 hJ.out.grown hg hJ.out.size fun q hq=>(World.ownsRow.lt ho q hq).1
theorem JCp.lit1 (hJ:JCp A0 pc rg mm false f1 a2 f2 a3 f3 fo A B C f g h O W) (hB:A0.heap.size≤W.heap.size):JCp A0 pc rg mm true f1 a2 f2 a3 f3 fo W.heap.size B C f g h O (W.alloc (.cells #[] 3)):=by
 have hb:=(Below.refl W.heap.size W).alloc (Nat.le_refl _) (.cells #[] 3)
 cases hf:f1 with
 | true=>exact (nomatch hJ.i1 hf)
 | false =>
  subst hf
  exact ⟨hJ.out.alloc hB _,hJ.ln.put1 (c1':=⟨some ⟨W.heap.size,0,none⟩,0,0⟩) (Own.empty _ _ hB) (grown_of_below hb _) (.inr fun q hq=>by simp [Value.ownBlock] at hq;omega),fun e=>(nomatch e),hJ.i2,hJ.i3,hJ.obB hb⟩
theorem JCp.lit2 (hJ:JCp A0 pc rg mm a1 f1 false f2 a3 f3 fo A B C f g h O W) (hB:A0.heap.size≤W.heap.size):JCp A0 pc rg mm a1 f1 true f2 a3 f3 fo A W.heap.size C f g h O (W.alloc (.cells #[] 3)):=by
 have hb:=(Below.refl W.heap.size W).alloc (Nat.le_refl _) (.cells #[] 3)
 cases hf:f2 with
 | true=>exact (nomatch hJ.i2 hf)
 | false =>
  subst hf
  exact ⟨hJ.out.alloc hB _,hJ.ln.put2 (c2':=⟨some ⟨W.heap.size,0,none⟩,0,0⟩) (Own.empty _ _ hB) (grown_of_below hb _) (.inr fun q hq=>by simp [Value.ownBlock] at hq;omega),hJ.i1,fun e=>(nomatch e),hJ.i3,hJ.obB hb⟩
theorem JCp.lit3 (hJ:JCp A0 pc rg mm a1 f1 a2 f2 false f3 fo A B C f g h O W) (hB:A0.heap.size≤W.heap.size):JCp A0 pc rg mm a1 f1 a2 f2 true f3 fo A B W.heap.size f g h O (W.alloc (.cells #[] 3)):=by
 have hb:=(Below.refl W.heap.size W).alloc (Nat.le_refl _) (.cells #[] 3)
 cases hf:f3 with
 | true=>exact (nomatch hJ.i3 hf)
 | false =>
  subst hf
  exact ⟨hJ.out.alloc hB _,hJ.ln.put3 (c3':=⟨some ⟨W.heap.size,0,none⟩,0,0⟩) (Own.empty _ _ hB) (grown_of_below hb _) (.inr fun q hq=>by simp [Value.ownBlock] at hq;omega),hJ.i1,hJ.i2,fun e=>(nomatch e),hJ.obB hb⟩
theorem JCp.app1 (hJ:JCp A0 pc rg mm true false a2 f2 a3 f3 fo A B C f g h O W) (ho:Own IntE 3 w' A0.heap.size s'.v ([]++pc)) (hg:W.grownBy w' (Slc.v ⟨some ⟨A,0,none⟩,0,0⟩).ownBlock) (hat:s'.v.ownBlock=(Slc.v ⟨some ⟨A,0,none⟩,0,0⟩).ownBlock∨∀ q,s'.v.ownBlock=some q→W.heap.size≤q):JCp A0 pc rg mm true true a2 f2 a3 f3 fo A B C s' g h O w':=
 ⟨hJ.outG hJ.ln.o1 hg,hJ.ln.put1 ho hg hat,fun _=>rfl,hJ.i2,hJ.i3,hJ.obG hJ.ln.o1 hg⟩
theorem JCp.app2 (hJ:JCp A0 pc rg mm a1 f1 true false a3 f3 fo A B C f g h O W) (ho:Own IntE 3 w' A0.heap.size s'.v ([]++rg)) (hg:W.grownBy w' (Slc.v ⟨some ⟨B,0,none⟩,0,0⟩).ownBlock) (hat:s'.v.ownBlock=(Slc.v ⟨some ⟨B,0,none⟩,0,0⟩).ownBlock∨∀ q,s'.v.ownBlock=some q→W.heap.size≤q):JCp A0 pc rg mm a1 f1 true true a3 f3 fo A B C f s' h O w':=
 ⟨hJ.outG hJ.ln.o2 hg,hJ.ln.put2 ho hg hat,hJ.i1,fun _=>rfl,hJ.i3,hJ.obG hJ.ln.o2 hg⟩
theorem JCp.app3 (hJ:JCp A0 pc rg mm a1 f1 a2 f2 true false fo A B C f g h O W) (ho:Own IntE 3 w' A0.heap.size s'.v ([]++mm)) (hg:W.grownBy w' (Slc.v ⟨some ⟨C,0,none⟩,0,0⟩).ownBlock) (hat:s'.v.ownBlock=(Slc.v ⟨some ⟨C,0,none⟩,0,0⟩).ownBlock∨∀ q,s'.v.ownBlock=some q→W.heap.size≤q):JCp A0 pc rg mm a1 f1 a2 f2 true true fo A B C f g s' O w':=
 ⟨hJ.outG hJ.ln.o3 hg,hJ.ln.put3 ho hg hat,hJ.i1,hJ.i2,fun _=>rfl,hJ.obG hJ.ln.o3 hg⟩
theorem JCp.obj (hJ:JCp A0 pc rg mm a1 f1 a2 f2 a3 f3 false A B C f g h O W):JCp A0 pc rg mm a1 f1 a2 f2 a3 f3 true A B C f g h W.heap.size (W.alloc (.cells #[.slice none 0 0, .slice none 0 0, .slice none 0 0, .slice none 0 0] 195)):=
 ⟨hJ.out.alloc hJ.out.size _,hJ.ln.below ((Below.refl _ _).alloc (Nat.le_refl _) _),hJ.i1,hJ.i2,hJ.i3,fun _=>⟨heap_alloc_new W _,hJ.out.size⟩⟩
end
theorem below_litM {w w':World} {l:Array Value} {T:TypeId} {n c:Nat} (hg:(w.alloc (.cells l T)).drew.grownBy w' (Slc.v ⟨some ⟨w.heap.size,0,none⟩,n,c⟩).ownBlock):Below w.heap.size w w':=
 ((Below.refl w.heap.size w).alloc (Nat.le_refl _) (.cells l T)).drew.grown hg (by simp) (fun q hq=>by simp [Value.ownBlock] at hq;omega)
structure CpS (w:World) (B O m:Nat) (vs:List Value) (x:SV) (s:St) (k:Nat):Prop where
 bx:w.heap[B]? = some (.cells vs.toArray 195 (0,0))
 br:w.heap[B+1]? = some (.cells #[.slice none 0 0, .slice none 0 0, .slice none 0 0, .slice none 0 0] 195 (0,0))
 bo:w.heap[O]? = some (.cells #[.slice x.p.a x.p.n x.p.cap, .slice x.r.a x.r.n x.r.cap, .slice x.m.a x.m.n x.m.cap, .slice x.b.a x.b.n x.b.cap] 195 (0,0))
 ln:Lanes w B x.p x.r x.m s.pc s.rg s.mm
 bf:Own2 IntE 40 3 w m x.b.v (s.bf.take k)
 p1:∀ q,x.p.v.ownBlock=some q→q < m
 p2:∀ q,x.r.v.ownBlock=some q→q < m
 p3:∀ q,x.m.v.ownBlock=some q→q < m
 lO:O < m
 lB:B+1 < O
 lm:m≤w.heap.size
 zz:True
theorem l3Copy_any (x:SV) (s:St) (w:World) (hx:RepSt w x s) (h1:s.pc.length≤1048576) (h2:s.rg.length≤1048576) (h3:s.mm.length≤1048576) (h4:s.bf.length≤1048576) (h5:∀ o∈s.bf,o.length≤1048576) :
 Calls Tryz.prog 216 #[.agg #[.slice x.p.a x.p.n x.p.cap, .slice x.r.a x.r.n x.r.cap, .slice x.m.a x.m.n x.m.cap, .slice x.b.a x.b.n x.b.cap]] w (RetSt w s):=by
 obtain ⟨⟨pa,pn,pk⟩,⟨ra,rn,rk⟩,⟨ma,mn,mk⟩,⟨ba,bn,bk⟩⟩:=x
 have HX:=hide hx
 obtain ⟨ba',bc',hv, -, -, -, -⟩:=hx.bf.open
 simp only [Slc.v,Value.slice.injEq] at hv
 obtain ⟨rfl,hbn,rfl⟩:=hv
 have HBN:=hide hbn
 have hbn4:bn≤1048576:=by rw [hbn];exact h4
 clear hx
 have HB0:=hide (((Below.refl w.heap.size w).alloc (Nat.le_refl _) (.cells #[.slice pa pn pk, .slice ra rn rk, .slice ma mn mk, .slice ba bn bk] 195)).alloc (by simp) (.cells #[.slice none 0 0, .slice none 0 0, .slice none 0 0, .slice none 0 0] 195))
 obtain ⟨A0,hA0⟩:∃ A0,A0=(w.alloc (.cells #[.slice pa pn pk, .slice ra rn rk, .slice ma mn mk, .slice ba bn bk] 195)).alloc (.cells #[.slice none 0 0, .slice none 0 0, .slice none 0 0, .slice none 0 0] 195):=⟨_,rfl⟩
 have hz:A0.heap.size=w.heap.size+2:=by rw [hA0];simp
 have HX2:Hid (A0.heap[w.heap.size]? = some (.cells #[.slice pa pn pk, .slice ra rn rk, .slice ma mn mk, .slice ba bn bk] 195 (0,0))):=hide (by
  rw [hA0,heap_alloc_old _ _ (by simp)];exact heap_alloc_new w _)
 have HR2:Hid (A0.heap[w.heap.size+1]? = some (.cells #[.slice none 0 0, .slice none 0 0, .slice none 0 0, .slice none 0 0] 195 (0,0))):=hide (by
  have h:=heap_alloc_new (w.alloc (.cells #[.slice pa pn pk, .slice ra rn rk, .slice ma mn mk, .slice ba bn bk] 195)) (.cells #[.slice none 0 0, .slice none 0 0, .slice none 0 0, .slice none 0 0] 195)
  rw [hA0];simpa using h)
 have HB:Hid (Below w.heap.size w A0):=hide (by rw [hA0];exact HB0.out)
 clear HB0
 have HA0:=hide hA0
 clear hA0 hbn
 go_enter Tryz.func216,Tryz.ntmps216
 go_wp2_with fail
 rw [← HA0.out]
 -- reg copy
 refine wp_region_inv3 (n:=14) (by kernel_rfl) rfl (by kernel_rfl) (by kernel_rfl) (fun A ls a' W => ∃ (ga:Nat) (gb:Nat) (gc:Nat) (f:Slc) (g:Slc) (h:Slc) (O:Nat) (x5 x6 x7 x8 x9 x10 x11 x12 x13 x14 x15 x16 x17 x3:Value),a'=putAll A [(5,x5),(6,x6),(7,x7),(8,x8),(9,x9),(10,x10),(11,x11),(12,x12),(13,x13),(14,x14),(15,x15),(16,x16),(17,x17),(3,x3)]∧Vd ls 0 [] x5 (.slice (some ⟨ga,0,none⟩) 0 0)∧Vd ls 1 [] x6 (.pointer (some ⟨w.heap.size,0,none⟩))∧Vd ls 2 [] x7 (.slice pa pn pk)∧Vd ls 3 [0] x8 (.slice f.a f.n f.cap)∧Vd ls 4 [] x9 (.slice (some ⟨gb,0,none⟩) 0 0)∧Vd ls 5 [] x10 (.pointer (some ⟨w.heap.size,1,none⟩))∧Vd ls 6 [] x11 (.slice ra rn rk)∧Vd ls 7 [4] x12 (.slice g.a g.n g.cap)∧Vd ls 8 [] x13 (.slice (some ⟨gc,0,none⟩) 0 0)∧Vd ls 9 [] x14 (.pointer (some ⟨w.heap.size,2,none⟩))∧Vd ls 10 [] x15 (.slice ma mn mk)∧Vd ls 11 [8] x16 (.slice h.a h.n h.cap)∧Vd ls 12 [0,3,4,7,8,11] x17 (.agg #[.slice f.a f.n f.cap, .slice g.a g.n g.cap, .slice h.a h.n h.cap, .slice none 0 0])∧Vd ls 13 [] x3 (.pointer (some ⟨O,0,none⟩))∧JCp A0 s.pc s.rg s.mm (fl ls 0) (fl ls 3) (fl ls 4) (fl ls 7) (fl ls 8) (fl ls 11) (fl ls 13) ga gb gc f g h O W) ?r0 ?rs ?re
 case r0 =>
  exact ⟨0,0,0,⟨none,0,0⟩,⟨none,0,0⟩,⟨none,0,0⟩,0,undef,undef,undef,undef,undef,undef,undef,undef,undef,undef,undef,undef,undef,undef,by simp only [putAll,Act.put,List.setIfInBounds_toArray,List.set_cons_succ,List.set_cons_zero],Vd.start,Vd.start,Vd.start,Vd.start,Vd.start,Vd.start,Vd.start,Vd.start,Vd.start,Vd.start,Vd.start,Vd.start,Vd.start,Vd.start,by simp only [fl_start];exact JCp.start (hz ▸ (Below.refl _ _).drew)⟩
 case rs =>
  rintro ls a' W hs hnl ⟨ga,gb,gc,f,g,h,O,x5,x6,x7,x8,x9,x10,x11,x12,x13,x14,x15,x16,x17,x3,ha,cv0,cv1,cv2,cv3,cv4,cv5,cv6,cv7,cv8,cv9,cv10,cv11,cv12,cv13,hJ⟩ k o hkn mc K hK
  simp only [putAll,Act.put,List.setIfInBounds_toArray,List.set_cons_succ,List.set_cons_zero] at ha
  subst ha
  have hkc:k=0∨k=1∨k=2∨k=3∨k=4∨k=5∨k=6∨k=7∨k=8∨k=9∨k=10∨k=11∨k=12∨k=13:=by omega
  have hop:=mc.op
  have haf:=mc.after
  rcases hkc with rfl | rfl | rfl | rfl | rfl | rfl | rfl | rfl | rfl | rfl | rfl | rfl | rfl | rfl
  ·simp at hop;subst hop;simp [Region.binds] at haf
   have f0:=fl_no mc.new;rw [f0] at hJ
   go_simp
   exact hK _ _ ⟨W.heap.size,gb,gc,f,g,h,O,_,_,_,_,_,_,_,_,_,_,_,_,_,_,by simp only [putAll,Act.put,List.setIfInBounds_toArray,List.set_cons_succ,List.set_cons_zero],Vd.same (by simp),cv1.set (by decide),cv2.set (by decide),cv3.void (by decide) (by decide) mc.new,cv4.set (by decide),cv5.set (by decide),cv6.set (by decide),cv7.set (by decide),cv8.set (by decide),cv9.set (by decide),cv10.set (by decide),cv11.set (by decide),cv12.void (by decide) (by decide) mc.new,cv13.set (by decide),by rw [fl_got hs (by decide),fl_set (show 0≠3 by decide),fl_set (show 0≠4 by decide),fl_set (show 0≠7 by decide),fl_set (show 0≠8 by decide),fl_set (show 0≠11 by decide),fl_set (show 0≠13 by decide)];exact hJ.lit1 hJ.out.size⟩
  ·simp at hop;subst hop;simp [Region.binds] at haf
   go_simp
   exact hK _ _ ⟨ga,gb,gc,f,g,h,O,_,_,_,_,_,_,_,_,_,_,_,_,_,_,by simp only [putAll,Act.put,List.setIfInBounds_toArray,List.set_cons_succ,List.set_cons_zero],cv0.set (by decide),Vd.same (by simp),cv2.set (by decide),cv3.set (by decide),cv4.set (by decide),cv5.set (by decide),cv6.set (by decide),cv7.set (by decide),cv8.set (by decide),cv9.set (by decide),cv10.set (by decide),cv11.set (by decide),cv12.set (by decide),cv13.set (by decide),by rw [fl_set (show 1≠0 by decide),fl_set (show 1≠3 by decide),fl_set (show 1≠4 by decide),fl_set (show 1≠7 by decide),fl_set (show 1≠8 by decide),fl_set (show 1≠11 by decide),fl_set (show 1≠13 by decide)];exact hJ⟩
  ·simp at hop;subst hop;simp [Region.binds] at haf
   obtain rfl:=(cv1.get (by simp [haf])).symm
   have hbk:=(hJ.out.block w.heap.size (by omega)).trans HX2.out
   have d0:W.cell? ⟨w.heap.size,0,none⟩=some (.slice pa pn pk):=cellH hbk (k:=0) rfl
   have d1:W.cell? ⟨w.heap.size,1,none⟩=some (.slice ra rn rk):=cellH hbk (k:=1) rfl
   have d2:W.cell? ⟨w.heap.size,2,none⟩=some (.slice ma mn mk):=cellH hbk (k:=2) rfl
   have dl:=lt_of_cell d0
   go_simp
   exact hK _ _ ⟨ga,gb,gc,f,g,h,O,_,_,_,_,_,_,_,_,_,_,_,_,_,_,by simp only [putAll,Act.put,List.setIfInBounds_toArray,List.set_cons_succ,List.set_cons_zero],cv0.set (by decide),cv1.set (by decide),Vd.same (by simp),cv3.set (by decide),cv4.set (by decide),cv5.set (by decide),cv6.set (by decide),cv7.set (by decide),cv8.set (by decide),cv9.set (by decide),cv10.set (by decide),cv11.set (by decide),cv12.set (by decide),cv13.set (by decide),by rw [fl_set (show 2≠0 by decide),fl_set (show 2≠3 by decide),fl_set (show 2≠4 by decide),fl_set (show 2≠7 by decide),fl_set (show 2≠8 by decide),fl_set (show 2≠11 by decide),fl_set (show 2≠13 by decide)];exact hJ⟩
  ·simp at hop;subst hop;simp [Region.binds] at haf
   obtain rfl:=(cv0.get (by simp [haf])).symm
   obtain rfl:=(cv2.get (by simp [haf])).symm
   have f3:=fl_no mc.new;rw [f3] at hJ
   have f0:=fl_yes (show ls[0]? = some true by simp [haf]);rw [f0] at hJ
   refine step_appSAtM IntE 3 Tryz.infoInt rfl Tryz.underlying40 A0.heap.size ⟨some ⟨ga,0,none⟩,0,0⟩ [] s.pc _ (by have h:=hJ.ln.o1;simpa [laneA,laneL] using h) ((HX.out.pc.below HB.out).below (hz ▸ hJ.out)) (by decide) (by simp;omega) (by have:=hJ.out.size;omega) (by rfl) _ _ (by rfl) (by rfl) (by rfl) ?_;intro s6 w6 hown6 hgr6 hat6
   exact hK _ _ ⟨ga,gb,gc,s6,g,h,O,_,_,_,_,_,_,_,_,_,_,_,_,_,_,by simp only [putAll,Act.put,List.setIfInBounds_toArray,List.set_cons_succ,List.set_cons_zero],cv0.set (by decide),cv1.set (by decide),cv2.set (by decide),Vd.same (by simp [haf]),cv4.set (by decide),cv5.set (by decide),cv6.set (by decide),cv7.set (by decide),cv8.set (by decide),cv9.set (by decide),cv10.set (by decide),cv11.set (by decide),cv12.void (by decide) (by decide) mc.new,cv13.set (by decide),by rw [fl_set (show 3≠0 by decide),fl_got hs (by decide),fl_set (show 3≠4 by decide),fl_set (show 3≠7 by decide),fl_set (show 3≠8 by decide),fl_set (show 3≠11 by decide),fl_set (show 3≠13 by decide),f0];exact hJ.app1 hown6 hgr6 hat6⟩
  ·simp at hop;subst hop;simp [Region.binds] at haf
   have f4:=fl_no mc.new;rw [f4] at hJ
   go_simp
   exact hK _ _ ⟨ga,W.heap.size,gc,f,g,h,O,_,_,_,_,_,_,_,_,_,_,_,_,_,_,by simp only [putAll,Act.put,List.setIfInBounds_toArray,List.set_cons_succ,List.set_cons_zero],cv0.set (by decide),cv1.set (by decide),cv2.set (by decide),cv3.set (by decide),Vd.same (by simp),cv5.set (by decide),cv6.set (by decide),cv7.void (by decide) (by decide) mc.new,cv8.set (by decide),cv9.set (by decide),cv10.set (by decide),cv11.set (by decide),cv12.void (by decide) (by decide) mc.new,cv13.set (by decide),by rw [fl_set (show 4≠0 by decide),fl_set (show 4≠3 by decide),fl_got hs (by decide),fl_set (show 4≠7 by decide),fl_set (show 4≠8 by decide),fl_set (show 4≠11 by decide),fl_set (show 4≠13 by decide)];exact hJ.lit2 hJ.out.size⟩
  ·simp at hop;subst hop;simp [Region.binds] at haf
   go_simp
   exact hK _ _ ⟨ga,gb,gc,f,g,h,O,_,_,_,_,_,_,_,_,_,_,_,_,_,_,by simp only [putAll,Act.put,List.setIfInBounds_toArray,List.set_cons_succ,List.set_cons_zero],cv0.set (by decide),cv1.set (by decide),cv2.set (by decide),cv3.set (by decide),cv4.set (by decide),Vd.same (by simp),cv6.set (by decide),cv7.set (by decide),cv8.set (by decide),cv9.set (by decide),cv10.set (by decide),cv11.set (by decide),cv12.set (by decide),cv13.set (by decide),by rw [fl_set (show 5≠0 by decide),fl_set (show 5≠3 by decide),fl_set (show 5≠4 by decide),fl_set (show 5≠7 by decide),fl_set (show 5≠8 by decide),fl_set (show 5≠11 by decide),fl_set (show 5≠13 by decide)];exact hJ⟩
  ·simp at hop;subst hop;simp [Region.binds] at haf
   obtain rfl:=(cv5.get (by simp [haf])).symm
   have hbk:=(hJ.out.block w.heap.size (by omega)).trans HX2.out
   have d0:W.cell? ⟨w.heap.size,0,none⟩=some (.slice pa pn pk):=cellH hbk (k:=0) rfl
   have d1:W.cell? ⟨w.heap.size,1,none⟩=some (.slice ra rn rk):=cellH hbk (k:=1) rfl
   have d2:W.cell? ⟨w.heap.size,2,none⟩=some (.slice ma mn mk):=cellH hbk (k:=2) rfl
   have dl:=lt_of_cell d0
   go_simp
   exact hK _ _ ⟨ga,gb,gc,f,g,h,O,_,_,_,_,_,_,_,_,_,_,_,_,_,_,by simp only [putAll,Act.put,List.setIfInBounds_toArray,List.set_cons_succ,List.set_cons_zero],cv0.set (by decide),cv1.set (by decide),cv2.set (by decide),cv3.set (by decide),cv4.set (by decide),cv5.set (by decide),Vd.same (by simp),cv7.set (by decide),cv8.set (by decide),cv9.set (by decide),cv10.set (by decide),cv11.set (by decide),cv12.set (by decide),cv13.set (by decide),by rw [fl_set (show 6≠0 by decide),fl_set (show 6≠3 by decide),fl_set (show 6≠4 by decide),fl_set (show 6≠7 by decide),fl_set (show 6≠8 by decide),fl_set (show 6≠11 by decide),fl_set (show 6≠13 by decide)];exact hJ⟩
  ·simp at hop;subst hop;simp [Region.binds] at haf
   obtain rfl:=(cv4.get (by simp [haf])).symm
   obtain rfl:=(cv6.get (by simp [haf])).symm
   have f7:=fl_no mc.new;rw [f7] at hJ
   have f4:=fl_yes (show ls[4]? = some true by simp [haf]);rw [f4] at hJ
   refine step_appSAtM IntE 3 Tryz.infoInt rfl Tryz.underlying40 A0.heap.size ⟨some ⟨gb,0,none⟩,0,0⟩ [] s.rg _ (by have h:=hJ.ln.o2;simpa [laneA,laneL] using h) ((HX.out.rg.below HB.out).below (hz ▸ hJ.out)) (by decide) (by simp;omega) (by have:=hJ.out.size;omega) (by rfl) _ _ (by rfl) (by rfl) (by rfl) ?_;intro s6 w6 hown6 hgr6 hat6
   exact hK _ _ ⟨ga,gb,gc,f,s6,h,O,_,_,_,_,_,_,_,_,_,_,_,_,_,_,by simp only [putAll,Act.put,List.setIfInBounds_toArray,List.set_cons_succ,List.set_cons_zero],cv0.set (by decide),cv1.set (by decide),cv2.set (by decide),cv3.set (by decide),cv4.set (by decide),cv5.set (by decide),cv6.set (by decide),Vd.same (by simp [haf]),cv8.set (by decide),cv9.set (by decide),cv10.set (by decide),cv11.set (by decide),cv12.void (by decide) (by decide) mc.new,cv13.set (by decide),by rw [fl_set (show 7≠0 by decide),fl_set (show 7≠3 by decide),fl_set (show 7≠4 by decide),fl_got hs (by decide),fl_set (show 7≠8 by decide),fl_set (show 7≠11 by decide),fl_set (show 7≠13 by decide),f4];exact hJ.app2 hown6 hgr6 hat6⟩
  ·simp at hop;subst hop;simp [Region.binds] at haf
   have f8:=fl_no mc.new;rw [f8] at hJ
   go_simp
   exact hK _ _ ⟨ga,gb,W.heap.size,f,g,h,O,_,_,_,_,_,_,_,_,_,_,_,_,_,_,by simp only [putAll,Act.put,List.setIfInBounds_toArray,List.set_cons_succ,List.set_cons_zero],cv0.set (by decide),cv1.set (by decide),cv2.set (by decide),cv3.set (by decide),cv4.set (by decide),cv5.set (by decide),cv6.set (by decide),cv7.set (by decide),Vd.same (by simp),cv9.set (by decide),cv10.set (by decide),cv11.void (by decide) (by decide) mc.new,cv12.void (by decide) (by decide) mc.new,cv13.set (by decide),by rw [fl_set (show 8≠0 by decide),fl_set (show 8≠3 by decide),fl_set (show 8≠4 by decide),fl_set (show 8≠7 by decide),fl_got hs (by decide),fl_set (show 8≠11 by decide),fl_set (show 8≠13 by decide)];exact hJ.lit3 hJ.out.size⟩
  ·simp at hop;subst hop;simp [Region.binds] at haf
   go_simp
   exact hK _ _ ⟨ga,gb,gc,f,g,h,O,_,_,_,_,_,_,_,_,_,_,_,_,_,_,by simp only [putAll,Act.put,List.setIfInBounds_toArray,List.set_cons_succ,List.set_cons_zero],cv0.set (by decide),cv1.set (by decide),cv2.set (by decide),cv3.set (by decide),cv4.set (by decide),cv5.set (by decide),cv6.set (by decide),cv7.set (by decide),cv8.set (by decide),Vd.same (by simp),cv10.set (by decide),cv11.set (by decide),cv12.set (by decide),cv13.set (by decide),by rw [fl_set (show 9≠0 by decide),fl_set (show 9≠3 by decide),fl_set (show 9≠4 by decide),fl_set (show 9≠7 by decide),fl_set (show 9≠8 by decide),fl_set (show 9≠11 by decide),fl_set (show 9≠13 by decide)];exact hJ⟩
  ·simp at hop;subst hop;simp [Region.binds] at haf
   obtain rfl:=(cv9.get (by simp [haf])).symm
   have hbk:=(hJ.out.block w.heap.size (by omega)).trans HX2.out
   have d0:W.cell? ⟨w.heap.size,0,none⟩=some (.slice pa pn pk):=cellH hbk (k:=0) rfl
   have d1:W.cell? ⟨w.heap.size,1,none⟩=some (.slice ra rn rk):=cellH hbk (k:=1) rfl
   have d2:W.cell? ⟨w.heap.size,2,none⟩=some (.slice ma mn mk):=cellH hbk (k:=2) rfl
   have dl:=lt_of_cell d0
   go_simp
   exact hK _ _ ⟨ga,gb,gc,f,g,h,O,_,_,_,_,_,_,_,_,_,_,_,_,_,_,by simp only [putAll,Act.put,List.setIfInBounds_toArray,List.set_cons_succ,List.set_cons_zero],cv0.set (by decide),cv1.set (by decide),cv2.set (by decide),cv3.set (by decide),cv4.set (by decide),cv5.set (by decide),cv6.set (by decide),cv7.set (by decide),cv8.set (by decide),cv9.set (by decide),Vd.same (by simp),cv11.set (by decide),cv12.set (by decide),cv13.set (by decide),by rw [fl_set (show 10≠0 by decide),fl_set (show 10≠3 by decide),fl_set (show 10≠4 by decide),fl_set (show 10≠7 by decide),fl_set (show 10≠8 by decide),fl_set (show 10≠11 by decide),fl_set (show 10≠13 by decide)];exact hJ⟩
  ·simp at hop;subst hop;simp [Region.binds] at haf
   obtain rfl:=(cv8.get (by simp [haf])).symm
   obtain rfl:=(cv10.get (by simp [haf])).symm
   have f11:=fl_no mc.new;rw [f11] at hJ
   have f8:=fl_yes (show ls[8]? = some true by simp [haf]);rw [f8] at hJ
   refine step_appSAtM IntE 3 Tryz.infoInt rfl Tryz.underlying40 A0.heap.size ⟨some ⟨gc,0,none⟩,0,0⟩ [] s.mm _ (by have h:=hJ.ln.o3;simpa [laneA,laneL] using h) ((HX.out.mm.below HB.out).below (hz ▸ hJ.out)) (by decide) (by simp;omega) (by have:=hJ.out.size;omega) (by rfl) _ _ (by rfl) (by rfl) (by rfl) ?_;intro s6 w6 hown6 hgr6 hat6
   exact hK _ _ ⟨ga,gb,gc,f,g,s6,O,_,_,_,_,_,_,_,_,_,_,_,_,_,_,by simp only [putAll,Act.put,List.setIfInBounds_toArray,List.set_cons_succ,List.set_cons_zero],cv0.set (by decide),cv1.set (by decide),cv2.set (by decide),cv3.set (by decide),cv4.set (by decide),cv5.set (by decide),cv6.set (by decide),cv7.set (by decide),cv8.set (by decide),cv9.set (by decide),cv10.set (by decide),Vd.same (by simp [haf]),cv12.void (by decide) (by decide) mc.new,cv13.set (by decide),by rw [fl_set (show 11≠0 by decide),fl_set (show 11≠3 by decide),fl_set (show 11≠4 by decide),fl_set (show 11≠7 by decide),fl_set (show 11≠8 by decide),fl_got hs (by decide),fl_set (show 11≠13 by decide),f8];exact hJ.app3 hown6 hgr6 hat6⟩
  ·simp at hop;subst hop;simp [Region.binds] at haf
   have q3:=(cv3 (by simp [haf])).1;simp at q3
   have q7:=(cv7 (by simp [haf])).1;simp at q7
   have q11:=(cv11 (by simp [haf])).1;simp at q11
   obtain rfl:=(cv3.get (by simp [haf])).symm
   obtain rfl:=(cv7.get (by simp [haf])).symm
   obtain rfl:=(cv11.get (by simp [haf])).symm
   go_simp
   exact hK _ _ ⟨ga,gb,gc,f,g,h,O,_,_,_,_,_,_,_,_,_,_,_,_,_,_,by simp only [putAll,Act.put,List.setIfInBounds_toArray,List.set_cons_succ,List.set_cons_zero],cv0.set (by decide),cv1.set (by decide),cv2.set (by decide),cv3.set (by decide),cv4.set (by decide),cv5.set (by decide),cv6.set (by decide),cv7.set (by decide),cv8.set (by decide),cv9.set (by decide),cv10.set (by decide),cv11.set (by decide),Vd.same (by simp [haf,q3,q7,q11]),cv13.set (by decide),by rw [fl_set (show 12≠0 by decide),fl_set (show 12≠3 by decide),fl_set (show 12≠4 by decide),fl_set (show 12≠7 by decide),fl_set (show 12≠8 by decide),fl_set (show 12≠11 by decide),fl_set (show 12≠13 by decide)];exact hJ⟩
  ·simp at hop;subst hop;simp [Region.binds] at haf
   have f13:=fl_no mc.new;rw [f13] at hJ
   go_simp
   exact hK _ _ ⟨ga,gb,gc,f,g,h,W.heap.size,_,_,_,_,_,_,_,_,_,_,_,_,_,_,by simp only [putAll,Act.put,List.setIfInBounds_toArray,List.set_cons_succ,List.set_cons_zero],cv0.set (by decide),cv1.set (by decide),cv2.set (by decide),cv3.set (by decide),cv4.set (by decide),cv5.set (by decide),cv6.set (by decide),cv7.set (by decide),cv8.set (by decide),cv9.set (by decide),cv10.set (by decide),cv11.set (by decide),cv12.set (by decide),Vd.same (by simp),by rw [fl_set (show 13≠0 by decide),fl_set (show 13≠3 by decide),fl_set (show 13≠4 by decide),fl_set (show 13≠7 by decide),fl_set (show 13≠8 by decide),fl_set (show 13≠11 by decide),fl_got hs (by decide)];exact hJ.obj⟩
 case re =>
  rintro ls a' W hall ⟨ga,gb,gc,f,g,h,O,x5,x6,x7,x8,x9,x10,x11,x12,x13,x14,x15,x16,x17,x3,ha,cv0,cv1,cv2,cv3,cv4,cv5,cv6,cv7,cv8,cv9,cv10,cv11,cv12,cv13,hJ⟩ o hop
  simp only [putAll,Act.put,List.setIfInBounds_toArray,List.set_cons_succ,List.set_cons_zero] at ha
  subst ha
  simp at hop;subst hop
  obtain rfl:=(cv0.get (hall 0 (by decide))).symm
  obtain rfl:=(cv1.get (hall 1 (by decide))).symm
  obtain rfl:=(cv2.get (hall 2 (by decide))).symm
  obtain rfl:=(cv3.get (hall 3 (by decide))).symm
  obtain rfl:=(cv4.get (hall 4 (by decide))).symm
  obtain rfl:=(cv5.get (hall 5 (by decide))).symm
  obtain rfl:=(cv6.get (hall 6 (by decide))).symm
  obtain rfl:=(cv7.get (hall 7 (by decide))).symm
  obtain rfl:=(cv8.get (hall 8 (by decide))).symm
  obtain rfl:=(cv9.get (hall 9 (by decide))).symm
  obtain rfl:=(cv10.get (hall 10 (by decide))).symm
  obtain rfl:=(cv11.get (hall 11 (by decide))).symm
  obtain rfl:=(cv12.get (hall 12 (by decide))).symm
  obtain rfl:=(cv13.get (hall 13 (by decide))).symm
  rw [fl_yes (hall 0 (by decide))] at hJ
  rw [fl_yes (hall 3 (by decide))] at hJ
  rw [fl_yes (hall 4 (by decide))] at hJ
  rw [fl_yes (hall 7 (by decide))] at hJ
  rw [fl_yes (hall 8 (by decide))] at hJ
  rw [fl_yes (hall 11 (by decide))] at hJ
  rw [fl_yes (hall 13 (by decide))] at hJ
  obtain ⟨hbo,hbB⟩:=hJ.ob rfl
  have hln:=hJ.ln
  simp only [laneA,laneL,if_true] at hln
  have hbk:=(hJ.out.block w.heap.size (by omega)).trans HX2.out
  have hbr:=(hJ.out.block (w.heap.size+1) (by omega)).trans HR2.out
  have d3:W.cell? ⟨w.heap.size,3,none⟩=some (.slice ba bn bk):=cellH hbk (k:=3) rfl
  have dl:=lt_of_cell d3
  have hne1:w.heap.size≠O:=by omega
  have c0:W.cell? ⟨O,0,none⟩=some (.slice none 0 0):=cellH hbo (k:=0) rfl
  have c1:W.cell? ⟨O,1,none⟩=some (.slice none 0 0):=cellH hbo (k:=1) rfl
  have c2:W.cell? ⟨O,2,none⟩=some (.slice none 0 0):=cellH hbo (k:=2) rfl
  have c3:W.cell? ⟨O,3,none⟩=some (.slice none 0 0):=cellH hbo (k:=3) rfl
  have cfz:=frozH hbo
  have cl:=lt_of_cell c0
  go_simp
  have hb0:=heap_setCell_same W O 0 _ _ (.slice f.a f.n f.cap) hbo
  have hb1:=heap_setCell_same (W.setCell ⟨O,0,none⟩ (.slice f.a f.n f.cap)) O 1 _ _ (.slice g.a g.n g.cap) hb0
  have hb2:=heap_setCell_same ((W.setCell ⟨O,0,none⟩ (.slice f.a f.n f.cap)).setCell ⟨O,1,none⟩ (.slice g.a g.n g.cap)) O 2 _ _ (.slice h.a h.n h.cap) hb1
  have hb3:=heap_setCell_same (((W.setCell ⟨O,0,none⟩ (.slice f.a f.n f.cap)).setCell ⟨O,1,none⟩ (.slice g.a g.n g.cap)).setCell ⟨O,2,none⟩ (.slice h.a h.n h.cap)) O 3 _ _ (.slice none 0 0) hb2
  have hl3:=(((hln.setOther (j:=0) (u:=.slice f.a f.n f.cap) (by decide) hbo).setOther (j:=1) (u:=.slice g.a g.n g.cap) (by decide) hb0).setOther (j:=2) (u:=.slice h.a h.n h.cap) (by decide) hb1).setOther (j:=3) (u:=.slice none 0 0) (by decide) hb2
  have hO:=(((hJ.out.setCell (p:=⟨O,0,none⟩) hbB (.slice f.a f.n f.cap)).setCell (p:=⟨O,1,none⟩) hbB (.slice g.a g.n g.cap)).setCell (p:=⟨O,2,none⟩) hbB (.slice h.a h.n h.cap)).setCell (p:=⟨O,3,none⟩) hbB (.slice none 0 0)
  have HO:=hide hO;have HL3:=hide hl3;have HB3:=hide hb3;have HBO:=hide hbB
  have HWS:Hid (W.heap.size=W.heap.size):=hide rfl
  have HC0:=hide (CpS.mk (x:=⟨f,g,h,⟨none,0,0⟩⟩) (m:=W.heap.size) (B:=w.heap.size) (k:=0) (s:=s) ((hO.block w.heap.size (by omega)).trans HX2.out) ((hO.block (w.heap.size+1) (by omega)).trans HR2.out) hb3 (hl3.mono (by omega)) (Own2.nil _ _ _ _) (fun q hq=>(World.ownsRow.lt hln.o1 q hq).2) (fun q hq=>(World.ownsRow.lt hln.o2 q hq).2) (fun q hq=>(World.ownsRow.lt hln.o3 q hq).2) (by omega) (by omega) (by simp) trivial)
  have HB9:=hide (HB.out.trans (hO.mono HB.out.size))
  clear hb0 hb1 hb2 hb3 hl3 hO hbB hJ hln hbk hbr c0 c1 c2 c3 cfz cl hbo
  go_wp2_with fail
  clear d3 dl hne1
  go_loopw [4] (fun i wr => ∃ k:Nat,k≤bn∧i = .int .i64 k∧(∃ sv:Slc,CpS wr w.heap.size O W.heap.size [.slice pa pn pk, .slice ra rn rk, .slice ma mn mk, .slice ba bn bk] ⟨f,g,h,sv⟩ s k)∧Below w.heap.size w wr) (fun i _=>bn - (intOf i).toNat)
  case atStart=>exact ⟨0,Nat.zero_le _,rfl,⟨_,HC0.out⟩,HB9.out⟩
  case round =>
   obtain ⟨k,hk,rfl,⟨⟨sa,sn,sc⟩,hc⟩,hbr⟩:=hrel
   have x3:wr.cell? ⟨w.heap.size,3,none⟩=some (.slice ba bn bk):=cellH hc.bx (k:=3) rfl
   have o3:wr.cell? ⟨O,3,none⟩=some (.slice sa sn sc):=cellH hc.bo (k:=3) rfl
   have ofz:=frozH hc.bo
   have xl:=lt_of_cell x3
   have ol:=lt_of_cell o3
   by_cases hlt:k < bn
   ·obtain ⟨r,hrk⟩:=get_of_lt (xs:=s.bf) (k:=k) (by rw [← HBN.out];exact hlt)
    have hltk:=nat_of_lt hlt
    obtain ⟨b2,o2,qa,qc,rfl,hbl2,q0,q1⟩:=(show Rep2 IntE w (.slice ba bn bk) s.bf from HX.out.bf).row hrk
    have q0:=(hbr.cell (p:=⟨b2,o2+k,none⟩) hbl2).trans q0
    have hbl2':=Nat.lt_of_lt_of_le hbl2 hbr.size
    have RS:Hid (s.bf.take (k+1)=s.bf.take k++[r]):=hide (by rw [List.take_add_one,hrk];rfl)
    have hn1:([]:List Int).length+r.length≤68719476736:=by have:=h5 r (List.mem_of_getElem? hrk);simp;omega
    have HRP:=hide ((q1.below hbr).below ((Below.refl wr.heap.size wr).alloc (Nat.le_refl _) (.cells #[] 3)).drew)
    have HLT:Hid (Own IntE 3 (wr.alloc (.cells #[] 3)).drew wr.heap.size (.slice (some ⟨wr.heap.size,0,none⟩) 0 0) []):=hide (Own.empty (E:=IntE) 3 wr (Nat.le_refl _))
    have hlen:(s.bf.take k).length≤68719476736:=by rw [List.length_take];omega
    have HC:=hide hc
    obtain ⟨us,hU, -⟩:=hc.bf.told
    have HU:=hide hU
    have HUL:Hid (us.length≤68719476736):=hide (by rw [hU.1];exact hlen)
    have HBR:=hide hbr
    have hbs:w.heap.size≤wr.heap.size:=hbr.size
    have hm:=hc.lm
    have hlO:=hc.lO
    have hlB:=hc.lB
    have HBN2:=HBN
    clear HBN
    clear hrk q1 hlen hU hbr hc
    go_wp2_with fail
    go_region_law (first
     | (refine step_appSAtM IntE 3 Tryz.infoInt rfl Tryz.underlying40 wr.heap.size ⟨some ⟨wr.heap.size,0,none⟩,0,0⟩ [] r _ HLT.out HRP.out (by decide) hn1 (by simp) (by rfl) _ _ (by rfl) (by rfl) (by rfl) ?_;rintro ⟨a6,n6,c6⟩ w6 hown6 hgr6 -;have O6:=hide hown6;have B6:=hide (below_litM hgr6);have hk6:(∀ o,w6.cell? ⟨O,o,none⟩=wr.cell? ⟨O,o,none⟩):=(fun o=>B6.out.cell (p:=⟨O,o,none⟩) ol);have hb6:=B6.out.size;have ol6:O < w6.heap.size:=(Nat.lt_of_lt_of_le ol hb6);clear hown6 hgr6)
     | (refine step_app SlcE 40 Tryz.infoIntSM rfl Tryz.underlying31 W.heap.size _ us ⟨a6,n6,c6⟩ ((HU.out.2.1.below B6.out).alloc _) (by decide) HUL.out (by simp;omega) (by rfl) _ _ (by rfl) (by rfl) w6.heap.size 0 1 (by rfl) news_alloc ?_;intro v8 w8 hown8 hgr8;obtain ⟨⟨a8,n8,c8⟩,rfl, -⟩:=hown8.toSlc;have K8:=(KpT.of_below (L:=[40]) (B:=0) (B6.out.alloc hb6 (.cells #[.slice a6 n6 c6] 40))).trans (KpT.grown ((HU.out.2.1.below B6.out).alloc _) (by decide) (Nat.zero_le _) hgr8);have bo8:=K8.same HC.out.bo (by decide);have o8:w8.cell? ⟨O,3,none⟩=some (.slice sa sn sc):=cellH bo8 (k:=3) rfl;have ofz8:=frozH bo8;have ol8:=lt_of_cell o8))
    all_goals
     have R8:=Own2U.app (by decide) HU.out (B6.out.alloc hb6 (.cells #[.slice a6 n6 c6] 40)) hm (O6.out.alloc _) hown8 hgr8
     rw [List.nil_append,← RS.out] at R8
     have B8:=(HBR.out.trans (B6.out.mono hbs)).alloc (by omega) (.cells #[.slice a6 n6 c6] 40)
     have B9:=B8.grown hgr8 (by simp;omega) (fun q hq=>by have:=(World.ownsRow.lt HU.out.2.1 q hq).1;omega)
     have bx8:=K8.same HC.out.bx (by decide)
     have br8:=K8.same HC.out.br (by decide)
     have C9:CpS (w8.setCell ⟨O,3,none⟩ (.slice a8 n8 c8)) w.heap.size O W.heap.size [.slice pa pn pk, .slice ra rn rk, .slice ma mn mk, .slice (some ⟨b2,o2,none⟩) bn bk] ⟨f,g,h,⟨a8,n8,c8⟩⟩ s (k+1):=
      ⟨(heap_setCell_other w8 ⟨O,3,none⟩ _ _ (show w.heap.size≠O by omega)).trans bx8,(heap_setCell_other w8 ⟨O,3,none⟩ _ _ (show w.heap.size+1≠O by omega)).trans br8,heap_setCell_same w8 O 3 _ _ _ bo8,
       (HC.out.ln.kp K8 (by decide)).setOther (by decide) bo8,R8.setOther (by decide) (by decide) bo8,HC.out.p1,HC.out.p2,HC.out.p3,hlO,hlB,by have:=K8.size;simp;omega,trivial⟩
     have HC9:=hide C9
     have HB10:=hide (B9.setCell (p:=⟨O,3,none⟩) (show w.heap.size≤O by omega) (.slice a8 n8 c8))
     clear C9 R8 B8 B9 bx8 br8 K8 bo8
     go_wp2_with fail
     go_roundw
     case rel=>exact ⟨k+1,by omega,by go_num,⟨⟨a8,n8,c8⟩,HC9.out⟩,HB10.out⟩
     case measure=>simp [intOf];omega
   ·obtain rfl:k=bn:=by omega
    have o0:wr.cell? ⟨O,0,none⟩=some (.slice f.a f.n f.cap):=cellH hc.bo (k:=0) rfl
    have o1:wr.cell? ⟨O,1,none⟩=some (.slice g.a g.n g.cap):=cellH hc.bo (k:=1) rfl
    have o2:wr.cell? ⟨O,2,none⟩=some (.slice h.a h.n h.cap):=cellH hc.bo (k:=2) rfl
    have r0:wr.cell? ⟨w.heap.size+1,0,none⟩=some (.slice none 0 0):=cellH hc.br (k:=0) rfl
    have r1:wr.cell? ⟨w.heap.size+1,1,none⟩=some (.slice none 0 0):=cellH hc.br (k:=1) rfl
    have r2:wr.cell? ⟨w.heap.size+1,2,none⟩=some (.slice none 0 0):=cellH hc.br (k:=2) rfl
    have r3:wr.cell? ⟨w.heap.size+1,3,none⟩=some (.slice none 0 0):=cellH hc.br (k:=3) rfl
    have rfz:=frozH hc.br
    have rl:=lt_of_cell r0
    have HC:=hide hc
    have hE:s.bf.take k=s.bf:=List.take_of_length_le (by rw [← HBN.out];exact Nat.le_refl _)
    have HE:=hide hE
    have HBR:=hide hbr
    clear hc hE hbr
    go_wp2_with fail
    have hS:OwnSt wr w.heap.size W.heap.size ⟨f,g,h,⟨sa,sn,sc⟩⟩ s:=⟨HC.out.ln,by have q:=HC.out.bf;rw [HE.out] at q;exact q,HC.out.p1,HC.out.p2,HC.out.p3,by have:=HC.out.lB;have:=HC.out.lO;omega,HC.out.lm⟩
    have t0:TyB 195 wr (w.heap.size+1):=⟨_,HC.out.br⟩
    refine bodyPost_ret (v:=.agg #[.slice f.a f.n f.cap, .slice g.a g.n g.cap, .slice h.a h.n h.cap, .slice sa sn sc]) (by simp [results,Tryz.results216,go_sem, *]) rfl ⟨⟨f,g,h,⟨sa,sn,sc⟩⟩,W.heap.size,rfl, ?_, ?_⟩
    ·exact (((hS.setT (by decide) (by decide) t0).setT (by decide) (by decide) (t0.set _ _ _)).setT (by decide) (by decide) ((t0.set _ _ _).set _ _ _)).setT (by decide) (by decide) (((t0.set _ _ _).set _ _ _).set _ _ _)
    ·exact (((HBR.out.setCell (p:=⟨w.heap.size+1,0,none⟩) (show w.heap.size≤w.heap.size+1 by omega) _).setCell (p:=⟨w.heap.size+1,1,none⟩) (show w.heap.size≤w.heap.size+1 by omega) _).setCell (p:=⟨w.heap.size+1,2,none⟩) (show w.heap.size≤w.heap.size+1 by omega) _).setCell (p:=⟨w.heap.size+1,3,none⟩) (show w.heap.size≤w.heap.size+1 by omega) _
 -- end copy
end Go.Proofs.YtlddmagfbcomgaaGreat
namespace Go.Proofs.YtlddmagfbcomgaaGreat
open Go.RowKit
section
variable {A0 W w' : World} {pc rg mm : List Int} {a1 f1 a2 f2 a3 f3 fo : Bool} {A B C O n : Nat} {f g h : Slc}
theorem JCp.mk1 (hJ:JCp A0 pc rg mm false false a2 f2 a3 f3 fo A B C f g h O W) (ho:Own IntE 3 w' W.heap.size (.slice (some ⟨W.heap.size,0,none⟩) n n) pc) (hg:W.grownBy w' none):JCp A0 pc rg mm true true a2 f2 a3 f3 fo A B C ⟨some ⟨W.heap.size,0,none⟩,n,n⟩ g h O w':=
 ⟨hJ.out.grown hg hJ.out.size (fun q hq=>nomatch hq),hJ.ln.put1 (c1':=⟨some ⟨W.heap.size,0,none⟩,n,n⟩) (ho.mono hJ.out.size) hg (.inr fun q hq=>by simp [Value.ownBlock] at hq;omega),fun _=>rfl,hJ.i2,hJ.i3,hJ.obB ((Below.refl _ _).grown hg (Nat.le_refl _) (fun q hq=>nomatch hq))⟩
theorem JCp.mk2 (hJ:JCp A0 pc rg mm a1 f1 false false a3 f3 fo A B C f g h O W) (ho:Own IntE 3 w' W.heap.size (.slice (some ⟨W.heap.size,0,none⟩) n n) rg) (hg:W.grownBy w' none):JCp A0 pc rg mm a1 f1 true true a3 f3 fo A B C f ⟨some ⟨W.heap.size,0,none⟩,n,n⟩ h O w':=
 ⟨hJ.out.grown hg hJ.out.size (fun q hq=>nomatch hq),hJ.ln.put2 (c2':=⟨some ⟨W.heap.size,0,none⟩,n,n⟩) (ho.mono hJ.out.size) hg (.inr fun q hq=>by simp [Value.ownBlock] at hq;omega),hJ.i1,fun _=>rfl,hJ.i3,hJ.obB ((Below.refl _ _).grown hg (Nat.le_refl _) (fun q hq=>nomatch hq))⟩
theorem JCp.mk3 (hJ:JCp A0 pc rg mm a1 f1 a2 f2 false false fo A B C f g h O W) (ho:Own IntE 3 w' W.heap.size (.slice (some ⟨W.heap.size,0,none⟩) n n) mm) (hg:W.grownBy w' none):JCp A0 pc rg mm a1 f1 a2 f2 true true fo A B C f g ⟨some ⟨W.heap.size,0,none⟩,n,n⟩ O w':=
 ⟨hJ.out.grown hg hJ.out.size (fun q hq=>nomatch hq),hJ.ln.put3 (c3':=⟨some ⟨W.heap.size,0,none⟩,n,n⟩) (ho.mono hJ.out.size) hg (.inr fun q hq=>by simp [Value.ownBlock] at hq;omega),hJ.i1,hJ.i2,fun _=>rfl,hJ.obB ((Below.refl _ _).grown hg (Nat.le_refl _) (fun q hq=>nomatch hq))⟩
end
theorem l3Start_any (pa:Option Addr) (pk n nb:Nat) (w:World) (hn:n≤1048576) (hnb:nb≤1048576) :
 Calls Tryz.prog 192 #[.slice pa n pk, .int .i64 (nb:Int)] w (RetSt w ⟨List.replicate n 0,List.replicate (n * 3) 0,List.replicate 3 0,List.replicate nb []⟩):=by
 obtain ⟨A0,hA0⟩:∃ A0,A0=w.alloc (.cells #[.slice none 0 0, .slice none 0 0, .slice none 0 0, .slice none 0 0] 195):=⟨_,rfl⟩
 have HB:Hid (Below w.heap.size w A0):=hide (by rw [hA0];exact belowAlloc _ _)
 have hz:A0.heap.size=w.heap.size+1:=by rw [hA0];simp
 have HR2:Hid (A0.heap[w.heap.size]? = some (.cells #[.slice none 0 0, .slice none 0 0, .slice none 0 0, .slice none 0 0] 195 (0,0))):=hide (by rw [hA0];exact heap_alloc_new w _)
 have HA0:=hide hA0
 clear hA0
 go_enter Tryz.func192,Tryz.ntmps192
 go_wp2_with fail
 rw [← HA0.out]
 -- reg start
 refine wp_region_inv3 (n:=10) (by kernel_rfl) rfl (by kernel_rfl) (by kernel_rfl) (fun A ls a' W => ∃ (f:Slc) (g:Slc) (h:Slc) (O:Nat) (x6 x7 x8 x9 x10 x11 x12 x13 x14 x5:Value),a'=putAll A [(6,x6),(7,x7),(8,x8),(9,x9),(10,x10),(11,x11),(12,x12),(13,x13),(14,x14),(5,x5)]∧Vd ls 0 [] x6 (.slice pa n pk)∧Vd ls 1 [] x7 (.int .i64 (n:Int))∧Vd ls 2 [] x8 (.slice f.a f.n f.cap)∧Vd ls 3 [] x9 (.slice pa n pk)∧Vd ls 4 [] x10 (.int .i64 (n:Int))∧Vd ls 5 [] x11 (.int .i64 ((n:Int) * 3))∧Vd ls 6 [] x12 (.slice g.a g.n g.cap)∧Vd ls 7 [] x13 (.slice h.a h.n h.cap)∧Vd ls 8 [2,6,7] x14 (.agg #[.slice f.a f.n f.cap, .slice g.a g.n g.cap, .slice h.a h.n h.cap, .slice none 0 0])∧Vd ls 9 [] x5 (.pointer (some ⟨O,0,none⟩))∧JCp A0 (List.replicate n 0) (List.replicate (n * 3) 0) (List.replicate 3 0) (fl ls 2) (fl ls 2) (fl ls 6) (fl ls 6) (fl ls 7) (fl ls 7) (fl ls 9) 0 0 0 f g h O W) ?r0 ?rs ?re
 case r0 =>
  exact ⟨⟨none,0,0⟩,⟨none,0,0⟩,⟨none,0,0⟩,0,undef,undef,undef,undef,undef,undef,undef,undef,undef,undef,by simp only [putAll,Act.put,List.setIfInBounds_toArray,List.set_cons_succ,List.set_cons_zero],Vd.start,Vd.start,Vd.start,Vd.start,Vd.start,Vd.start,Vd.start,Vd.start,Vd.start,Vd.start,by simp only [fl_start];exact JCp.start (hz ▸ (Below.refl _ _).drew)⟩
 case rs =>
  rintro ls a' W hs hnl ⟨f,g,h,O,x6,x7,x8,x9,x10,x11,x12,x13,x14,x5,ha,cv0,cv1,cv2,cv3,cv4,cv5,cv6,cv7,cv8,cv9,hJ⟩ k o hkn mc K hK
  simp only [putAll,Act.put,List.setIfInBounds_toArray,List.set_cons_succ,List.set_cons_zero] at ha
  subst ha
  have hkc:k=0∨k=1∨k=2∨k=3∨k=4∨k=5∨k=6∨k=7∨k=8∨k=9:=by omega
  have hop:=mc.op
  have haf:=mc.after
  rcases hkc with rfl | rfl | rfl | rfl | rfl | rfl | rfl | rfl | rfl | rfl
  ·simp at hop;subst hop;simp [Region.binds] at haf
   go_simp
   exact hK _ _ ⟨f,g,h,O,_,_,_,_,_,_,_,_,_,_,by simp only [putAll,Act.put,List.setIfInBounds_toArray,List.set_cons_succ,List.set_cons_zero],Vd.same (by simp),cv1.set (by decide),cv2.set (by decide),cv3.set (by decide),cv4.set (by decide),cv5.set (by decide),cv6.set (by decide),cv7.set (by decide),cv8.set (by decide),cv9.set (by decide),by rw [fl_set (show 0≠2 by decide),fl_set (show 0≠6 by decide),fl_set (show 0≠7 by decide),fl_set (show 0≠9 by decide)];exact hJ⟩
  ·simp at hop;subst hop;simp [Region.binds] at haf
   obtain rfl:=(cv0.get (by simp [haf])).symm
   go_simp
   exact hK _ _ ⟨f,g,h,O,_,_,_,_,_,_,_,_,_,_,by simp only [putAll,Act.put,List.setIfInBounds_toArray,List.set_cons_succ,List.set_cons_zero],cv0.set (by decide),Vd.same (by simp),cv2.set (by decide),cv3.set (by decide),cv4.set (by decide),cv5.set (by decide),cv6.set (by decide),cv7.set (by decide),cv8.set (by decide),cv9.set (by decide),by rw [fl_set (show 1≠2 by decide),fl_set (show 1≠6 by decide),fl_set (show 1≠7 by decide),fl_set (show 1≠9 by decide)];exact hJ⟩
  ·simp at hop;subst hop;simp [Region.binds] at haf
   obtain rfl:=(cv1.get (by simp [haf])).symm
   have f2:=fl_no mc.new;rw [f2] at hJ
   have hsz:=hJ.out.size
   refine step_mk IntE 3 0 Tryz.infoInt rfl Tryz.underlying40 (n) (by decide) (by omega) (by rfl) _ _ (by rfl) (by rfl) (by rfl) ?_;intro w6 ho6 hg6
   exact hK _ _ ⟨⟨some ⟨W.heap.size,0,none⟩,n,n⟩,g,h,O,_,_,_,_,_,_,_,_,_,_,by simp only [putAll,Act.put,List.setIfInBounds_toArray,List.set_cons_succ,List.set_cons_zero],cv0.set (by decide),cv1.set (by decide),Vd.same (by simp),cv3.set (by decide),cv4.set (by decide),cv5.set (by decide),cv6.set (by decide),cv7.set (by decide),cv8.void (by decide) (by decide) mc.new,cv9.set (by decide),by rw [fl_got hs (by decide),fl_set (show 2≠6 by decide),fl_set (show 2≠7 by decide),fl_set (show 2≠9 by decide)];exact hJ.mk1 ho6 hg6⟩
  ·simp at hop;subst hop;simp [Region.binds] at haf
   go_simp
   exact hK _ _ ⟨f,g,h,O,_,_,_,_,_,_,_,_,_,_,by simp only [putAll,Act.put,List.setIfInBounds_toArray,List.set_cons_succ,List.set_cons_zero],cv0.set (by decide),cv1.set (by decide),cv2.set (by decide),Vd.same (by simp),cv4.set (by decide),cv5.set (by decide),cv6.set (by decide),cv7.set (by decide),cv8.set (by decide),cv9.set (by decide),by rw [fl_set (show 3≠2 by decide),fl_set (show 3≠6 by decide),fl_set (show 3≠7 by decide),fl_set (show 3≠9 by decide)];exact hJ⟩
  ·simp at hop;subst hop;simp [Region.binds] at haf
   obtain rfl:=(cv3.get (by simp [haf])).symm
   go_simp
   exact hK _ _ ⟨f,g,h,O,_,_,_,_,_,_,_,_,_,_,by simp only [putAll,Act.put,List.setIfInBounds_toArray,List.set_cons_succ,List.set_cons_zero],cv0.set (by decide),cv1.set (by decide),cv2.set (by decide),cv3.set (by decide),Vd.same (by simp),cv5.set (by decide),cv6.set (by decide),cv7.set (by decide),cv8.set (by decide),cv9.set (by decide),by rw [fl_set (show 4≠2 by decide),fl_set (show 4≠6 by decide),fl_set (show 4≠7 by decide),fl_set (show 4≠9 by decide)];exact hJ⟩
  ·simp at hop;subst hop;simp [Region.binds] at haf
   obtain rfl:=(cv4.get (by simp [haf])).symm
   have hw5:IntKind.i64.wrap ((n:Int) * 3)=(n:Int) * 3:=wrapM (by omega) (by omega)
   go_simp
   exact hK _ _ ⟨f,g,h,O,_,_,_,_,_,_,_,_,_,_,by simp only [putAll,Act.put,List.setIfInBounds_toArray,List.set_cons_succ,List.set_cons_zero],cv0.set (by decide),cv1.set (by decide),cv2.set (by decide),cv3.set (by decide),cv4.set (by decide),Vd.same (by simp),cv6.set (by decide),cv7.set (by decide),cv8.set (by decide),cv9.set (by decide),by rw [fl_set (show 5≠2 by decide),fl_set (show 5≠6 by decide),fl_set (show 5≠7 by decide),fl_set (show 5≠9 by decide)];exact hJ⟩
  ·simp at hop;subst hop;simp [Region.binds] at haf
   obtain rfl:=(cv5.get (by simp [haf])).symm
   have f6:=fl_no mc.new;rw [f6] at hJ
   have hsz:=hJ.out.size
   refine step_mk IntE 3 0 Tryz.infoInt rfl Tryz.underlying40 (n * 3) (by decide) (by omega) (by rfl) _ _ (by rfl) (by show Value.int .i64 ((n:Int) * 3)=_;congr 1) (by show Value.int .i64 ((n:Int) * 3)=_;congr 1) ?_;intro w6 ho6 hg6
   exact hK _ _ ⟨f,⟨some ⟨W.heap.size,0,none⟩,n * 3,n * 3⟩,h,O,_,_,_,_,_,_,_,_,_,_,by simp only [putAll,Act.put,List.setIfInBounds_toArray,List.set_cons_succ,List.set_cons_zero],cv0.set (by decide),cv1.set (by decide),cv2.set (by decide),cv3.set (by decide),cv4.set (by decide),cv5.set (by decide),Vd.same (by simp),cv7.set (by decide),cv8.void (by decide) (by decide) mc.new,cv9.set (by decide),by rw [fl_set (show 6≠2 by decide),fl_got hs (by decide),fl_set (show 6≠7 by decide),fl_set (show 6≠9 by decide)];exact hJ.mk2 ho6 hg6⟩
  ·simp at hop;subst hop;simp [Region.binds] at haf
   have f7:=fl_no mc.new;rw [f7] at hJ
   have hsz:=hJ.out.size
   refine step_mk IntE 3 0 Tryz.infoInt rfl Tryz.underlying40 (3) (by decide) (by omega) (by rfl) _ _ (by rfl) (by rfl) (by rfl) ?_;intro w6 ho6 hg6
   exact hK _ _ ⟨f,g,⟨some ⟨W.heap.size,0,none⟩,3,3⟩,O,_,_,_,_,_,_,_,_,_,_,by simp only [putAll,Act.put,List.setIfInBounds_toArray,List.set_cons_succ,List.set_cons_zero],cv0.set (by decide),cv1.set (by decide),cv2.set (by decide),cv3.set (by decide),cv4.set (by decide),cv5.set (by decide),cv6.set (by decide),Vd.same (by simp),cv8.void (by decide) (by decide) mc.new,cv9.set (by decide),by rw [fl_set (show 7≠2 by decide),fl_set (show 7≠6 by decide),fl_got hs (by decide),fl_set (show 7≠9 by decide)];exact hJ.mk3 ho6 hg6⟩
  ·simp at hop;subst hop;simp [Region.binds] at haf
   obtain rfl:=(cv2.get (by simp [haf])).symm
   obtain rfl:=(cv6.get (by simp [haf])).symm
   obtain rfl:=(cv7.get (by simp [haf])).symm
   go_simp
   exact hK _ _ ⟨f,g,h,O,_,_,_,_,_,_,_,_,_,_,by simp only [putAll,Act.put,List.setIfInBounds_toArray,List.set_cons_succ,List.set_cons_zero],cv0.set (by decide),cv1.set (by decide),cv2.set (by decide),cv3.set (by decide),cv4.set (by decide),cv5.set (by decide),cv6.set (by decide),cv7.set (by decide),Vd.same (by simp [haf]),cv9.set (by decide),by rw [fl_set (show 8≠2 by decide),fl_set (show 8≠6 by decide),fl_set (show 8≠7 by decide),fl_set (show 8≠9 by decide)];exact hJ⟩
  ·simp at hop;subst hop;simp [Region.binds] at haf
   have f9:=fl_no mc.new;rw [f9] at hJ
   go_simp
   exact hK _ _ ⟨f,g,h,W.heap.size,_,_,_,_,_,_,_,_,_,_,by simp only [putAll,Act.put,List.setIfInBounds_toArray,List.set_cons_succ,List.set_cons_zero],cv0.set (by decide),cv1.set (by decide),cv2.set (by decide),cv3.set (by decide),cv4.set (by decide),cv5.set (by decide),cv6.set (by decide),cv7.set (by decide),cv8.set (by decide),Vd.same (by simp),by rw [fl_set (show 9≠2 by decide),fl_set (show 9≠6 by decide),fl_set (show 9≠7 by decide),fl_got hs (by decide)];exact hJ.obj⟩
 case re =>
  rintro ls a' W hall ⟨f,g,h,O,x6,x7,x8,x9,x10,x11,x12,x13,x14,x5,ha,cv0,cv1,cv2,cv3,cv4,cv5,cv6,cv7,cv8,cv9,hJ⟩ o hop
  simp only [putAll,Act.put,List.setIfInBounds_toArray,List.set_cons_succ,List.set_cons_zero] at ha
  subst ha
  simp at hop;subst hop
  obtain rfl:=(cv0.get (hall 0 (by decide))).symm
  obtain rfl:=(cv1.get (hall 1 (by decide))).symm
  obtain rfl:=(cv2.get (hall 2 (by decide))).symm
  obtain rfl:=(cv3.get (hall 3 (by decide))).symm
  obtain rfl:=(cv4.get (hall 4 (by decide))).symm
  obtain rfl:=(cv5.get (hall 5 (by decide))).symm
  obtain rfl:=(cv6.get (hall 6 (by decide))).symm
  obtain rfl:=(cv7.get (hall 7 (by decide))).symm
  obtain rfl:=(cv8.get (hall 8 (by decide))).symm
  obtain rfl:=(cv9.get (hall 9 (by decide))).symm
  rw [fl_yes (hall 2 (by decide))] at hJ
  rw [fl_yes (hall 6 (by decide))] at hJ
  rw [fl_yes (hall 7 (by decide))] at hJ
  rw [fl_yes (hall 9 (by decide))] at hJ
  obtain ⟨hbo,hbB⟩:=hJ.ob rfl
  have hln:=hJ.ln
  simp only [laneA,laneL,if_true] at hln
  have hbr:=(hJ.out.block w.heap.size (by omega)).trans HR2.out
  have c0:W.cell? ⟨O,0,none⟩=some (.slice none 0 0):=cellH hbo (k:=0) rfl
  have c1:W.cell? ⟨O,1,none⟩=some (.slice none 0 0):=cellH hbo (k:=1) rfl
  have c2:W.cell? ⟨O,2,none⟩=some (.slice none 0 0):=cellH hbo (k:=2) rfl
  have c3:W.cell? ⟨O,3,none⟩=some (.slice none 0 0):=cellH hbo (k:=3) rfl
  have cfz:=frozH hbo
  have cl:=lt_of_cell c0
  go_simp
  have hb0:=heap_setCell_same W O 0 _ _ (.slice f.a f.n f.cap) hbo
  have hb1:=heap_setCell_same (W.setCell ⟨O,0,none⟩ (.slice f.a f.n f.cap)) O 1 _ _ (.slice g.a g.n g.cap) hb0
  have hb2:=heap_setCell_same ((W.setCell ⟨O,0,none⟩ (.slice f.a f.n f.cap)).setCell ⟨O,1,none⟩ (.slice g.a g.n g.cap)) O 2 _ _ (.slice h.a h.n h.cap) hb1
  have hb3:=heap_setCell_same (((W.setCell ⟨O,0,none⟩ (.slice f.a f.n f.cap)).setCell ⟨O,1,none⟩ (.slice g.a g.n g.cap)).setCell ⟨O,2,none⟩ (.slice h.a h.n h.cap)) O 3 _ _ (.slice none 0 0) hb2
  have hl3:=(((hln.setOther (j:=0) (u:=.slice f.a f.n f.cap) (by decide) hbo).setOther (j:=1) (u:=.slice g.a g.n g.cap) (by decide) hb0).setOther (j:=2) (u:=.slice h.a h.n h.cap) (by decide) hb1).setOther (j:=3) (u:=.slice none 0 0) (by decide) hb2
  have hO:=(((hJ.out.setCell (p:=⟨O,0,none⟩) hbB (.slice f.a f.n f.cap)).setCell (p:=⟨O,1,none⟩) hbB (.slice g.a g.n g.cap)).setCell (p:=⟨O,2,none⟩) hbB (.slice h.a h.n h.cap)).setCell (p:=⟨O,3,none⟩) hbB (.slice none 0 0)
  have HO:=hide hO;have HL3:=hide hl3;have HB3:=hide hb3;have HBO:=hide hbB
  have P1:=hide (fun q hq=>(World.ownsRow.lt hln.o1 q hq).2);have P2:=hide (fun q hq=>(World.ownsRow.lt hln.o2 q hq).2);have P3:=hide (fun q hq=>(World.ownsRow.lt hln.o3 q hq).2)
  obtain ⟨WB,hWB⟩:∃ WB,WB=(((W.setCell ⟨O,0,none⟩ (.slice f.a f.n f.cap)).setCell ⟨O,1,none⟩ (.slice g.a g.n g.cap)).setCell ⟨O,2,none⟩ (.slice h.a h.n h.cap)).setCell ⟨O,3,none⟩ (.slice none 0 0):=⟨_,rfl⟩
  have hWs:WB.heap.size=W.heap.size:=by rw [hWB];simp
  rw [← hWB] at HO HL3 HB3
  simp at HB3
  rw [← hWB]
  have hOW:O < W.heap.size:=(Array.getElem?_eq_some_iff.1 hbo).1
  clear hb0 hb1 hb2 hb3 hl3 hO hJ hln hbr c0 c1 c2 c3 cfz cl hbo hWB
  have e3:WB.cell? ⟨O,3,none⟩=some (.slice none 0 0):=cellH HB3.out (k:=3) rfl
  have efz:=frozH HB3.out
  have el:=lt_of_cell e3
  go_wp2_with (at_make;refine wpList_make SlcE 40 ⟨none,0,0⟩ Tryz.infoIntSM rfl Tryz.underlying31 nb (by decide) (by omega) rfl _ _ rfl rfl rfl ?_;intro w5 hown5 hgr5;have hbo5:=(hgr5.block O el (by simp)).trans HB3.out;have g0:w5.cell? ⟨O,0,none⟩=some (.slice f.a f.n f.cap):=cellH hbo5 (k:=0) rfl;have g1:w5.cell? ⟨O,1,none⟩=some (.slice g.a g.n g.cap):=cellH hbo5 (k:=1) rfl;have g2:w5.cell? ⟨O,2,none⟩=some (.slice h.a h.n h.cap):=cellH hbo5 (k:=2) rfl;have g3:w5.cell? ⟨O,3,none⟩=some (.slice none 0 0):=cellH hbo5 (k:=3) rfl;have gfz:=frozH hbo5;have gl:=lt_of_cell g0;have hbr5:=(hgr5.block w.heap.size (by omega) (by simp)).trans ((HO.out.block w.heap.size (by omega)).trans HR2.out);have r0:w5.cell? ⟨w.heap.size,0,none⟩=some (.slice none 0 0):=cellH hbr5 (k:=0) rfl;have r1:w5.cell? ⟨w.heap.size,1,none⟩=some (.slice none 0 0):=cellH hbr5 (k:=1) rfl;have r2:w5.cell? ⟨w.heap.size,2,none⟩=some (.slice none 0 0):=cellH hbr5 (k:=2) rfl;have r3:w5.cell? ⟨w.heap.size,3,none⟩=some (.slice none 0 0):=cellH hbr5 (k:=3) rfl;have rfz:=frozH hbr5;have rl:=lt_of_cell r0;have O5:=hide hown5;have G5:=hide hgr5;have HBO5:=hide hbo5;have HBR5:=hide hbr5;have hne5:O≠w.heap.size:=(by omega);clear hown5 hgr5 hbo5 hbr5)
  have B5:=(Below.refl WB.heap.size WB).grown G5.out (Nat.le_refl _) (fun q hq=>nomatch hq)
  have hS:OwnSt w5 A0.heap.size WB.heap.size ⟨f,g,h,⟨some ⟨WB.heap.size,0,none⟩,nb,nb⟩⟩ ⟨List.replicate n 0,List.replicate (n * 3) 0,List.replicate 3 0,List.replicate nb []⟩:=
   ⟨HL3.out.below B5,Own2.made O5.out,fun q hq=>by have:=P1.out q hq;omega,fun q hq=>by have:=P2.out q hq;omega,fun q hq=>by have:=P3.out q hq;omega,by have:=HO.out.size;omega,B5.size⟩
  have t0:TyB 195 w5 O:=⟨_,HBO5.out⟩
  have t1:TyB 195 w5 w.heap.size:=⟨_,HBR5.out⟩
  refine bodyPost_ret (v:=.agg #[.slice f.a f.n f.cap, .slice g.a g.n g.cap, .slice h.a h.n h.cap, .slice (some ⟨WB.heap.size,0,none⟩) nb nb]) (by simp [results,Tryz.results192,go_sem, *]) rfl ⟨⟨f,g,h,⟨some ⟨WB.heap.size,0,none⟩,nb,nb⟩⟩,WB.heap.size,rfl, ?_, ?_⟩
  ·exact ((((((hS.setT (j:=3) (by decide) (by decide) t0).setT (by decide) (by decide) (t1.set _ _ _)).setT (by decide) (by decide) ((t1.set _ _ _).set _ _ _)).setT (by decide) (by decide) (((t1.set _ _ _).set _ _ _).set _ _ _)).setT (by decide) (by decide) ((((t1.set _ _ _).set _ _ _).set _ _ _).set _ _ _))).mono (by omega)
  ·have hb9:=(HB.out.trans (HO.out.mono HB.out.size)).trans (B5.mono (by omega))
   exact ((((hb9.setCell (p:=⟨O,3,none⟩) (show w.heap.size≤O by omega) _).setCell (p:=⟨w.heap.size,0,none⟩) (Nat.le_refl _) _).setCell (p:=⟨w.heap.size,1,none⟩) (Nat.le_refl _) _).setCell (p:=⟨w.heap.size,2,none⟩) (Nat.le_refl _) _).setCell (p:=⟨w.heap.size,3,none⟩) (Nat.le_refl _) _
 -- end start
end Go.Proofs.YtlddmagfbcomgaaGreat
namespace Go.Proofs.YtlddmagfbcomgaaGreat
open Go.RowKit
abbrev St.q (s:St):Sq:=⟨s.pc,s.rg,s.mm⟩
theorem l3Reg_M (t r:Nat) (w:World) (h0:t≤2) (h1:r≤2):Calls Tryz.prog 76 #[.int .i64 (t:Int), .int .i64 (r:Int)] w fun e w'=>e = .returned (.int .i64 ((t * 3+r:Nat):Int))∧w=w':=by
 go_enter Tryz.func76,Tryz.ntmps76
 go_wp2_with fail
 go_ret
 refine ⟨congrArg Ending.returned (congrArg (Value.int .i64) ?_),rfl⟩
 omega
theorem sqVal_yes {s:Sq} {t:Nat} {i:Ins} (h:i.op=3):sqVal s t i=s.rg.getD (t * 3+i.reg.toNat) 0:=by unfold sqVal;rw [if_pos h]
theorem sqVal_no {s:Sq} {t:Nat} {i:Ins} (h:i.op≠3):sqVal s t i=i.val:=by unfold sqVal;rw [if_neg h]
theorem l3Value_any (x:SV) (s:St) (t r:Nat) (op loc val:Int) (w:World) (hx:RepSt w x s) (ht:t≤2) (h1:r≤2) (hl:t * 3+r < s.rg.length) :
 Calls Tryz.prog 217 #[.agg #[.slice x.p.a x.p.n x.p.cap, .slice x.r.a x.r.n x.r.cap, .slice x.m.a x.m.n x.m.cap, .slice x.b.a x.b.n x.b.cap], .int .i64 (t:Int), .agg #[.int .i64 op, .int .i64 loc, .int .i64 (r:Int), .int .i64 val]] w
  fun e w'=>e = .returned (.int .i64 (sqVal s.q t ⟨op,loc,r,val⟩))∧Below w.heap.size w w':=by
 obtain ⟨⟨pa,pn,pk⟩,⟨ra,rn,rk⟩,⟨ma,mn,mk⟩,⟨ba,bn,bk⟩⟩:=x
 obtain ⟨y,hy⟩:=get_of_lt (xs:=s.rg) (k:=t * 3+r) hl
 obtain ⟨_,_,hv2, -, -, -, -⟩:=hx.rg.open
 simp only [Slc.v,Value.slice.injEq] at hv2
 obtain ⟨rfl,hn2,rfl⟩:=hv2
 obtain ⟨b,o,rfl,hbl,i0⟩:=(show Rep IntE w (.slice ra rn rk) s.rg from hx.rg).int hy
 have HREG:=hide (fun w'=>l3Reg_M t r w' ht h1)
 have hlt:((t * 3+r:Nat):Int) < (rn:Int):=by omega
 have hb0:=(belowAlloc w (.cells #[.slice pa pn pk, .slice (some ⟨b,o,none⟩) rn rk, .slice ma mn mk, .slice ba bn bk] 195)).alloc (by simp) (.cells #[.int .i64 op, .int .i64 loc, .int .i64 (r:Int), .int .i64 val] 74)
 have HB0:=hide hb0
 obtain ⟨A0,hA0⟩:∃ A0,A0=(w.alloc (.cells #[.slice pa pn pk, .slice (some ⟨b,o,none⟩) rn rk, .slice ma mn mk, .slice ba bn bk] 195)).alloc (.cells #[.int .i64 op, .int .i64 loc, .int .i64 (r:Int), .int .i64 val] 74):=⟨_,rfl⟩
 rw [← hA0] at HB0
 have hbl1:b < A0.heap.size:=Nat.lt_of_lt_of_le hbl HB0.out.size
 have i1:=(HB0.out.cell (p:=⟨b,o+(t * 3+r),none⟩) hbl).trans i0
 have hX1:A0.heap[w.heap.size]? = some (.cells #[.slice pa pn pk, .slice (some ⟨b,o,none⟩) rn rk, .slice ma mn mk, .slice ba bn bk] 195 (0,0)):=by
  rw [hA0,heap_alloc_old _ _ (by simp)];exact heap_alloc_new w _
 have hX2:A0.heap[w.heap.size+1]? = some (.cells #[.int .i64 op, .int .i64 loc, .int .i64 (r:Int), .int .i64 val] 74 (0,0)):=by
  have h:=heap_alloc_new (w.alloc (.cells #[.slice pa pn pk, .slice (some ⟨b,o,none⟩) rn rk, .slice ma mn mk, .slice ba bn bk] 195)) (.cells #[.int .i64 op, .int .i64 loc, .int .i64 (r:Int), .int .i64 val] 74)
  rw [hA0];simpa using h
 have a1:A0.cell? ⟨w.heap.size,1,none⟩=some (.slice (some ⟨b,o,none⟩) rn rk):=cellH hX1 (k:=1) rfl
 have a2:A0.cell? ⟨w.heap.size+1,2,none⟩=some (.int .i64 (r:Int)):=cellH hX2 (k:=2) rfl
 have a3:A0.cell? ⟨w.heap.size+1,0,none⟩=some (.int .i64 op):=cellH hX2 (k:=0) rfl
 have a4:A0.cell? ⟨w.heap.size+1,3,none⟩=some (.int .i64 val):=cellH hX2 (k:=3) rfl
 have al:=lt_of_cell a1
 have al2:=lt_of_cell a2
 have HA0:=hide hA0
 clear hX1 hX2 hA0
 have E1:Hid (op=3→sqVal s.q t ⟨op,loc,r,val⟩=y):=hide fun h=>by rw [sqVal_yes h];simp only [Int.toNat_natCast,List.getD_eq_getElem?_getD,hy,Option.getD_some]
 have E2:Hid (op≠3→sqVal s.q t ⟨op,loc,r,val⟩=val):=hide fun h=>sqVal_no h
 generalize sqVal s.q t ⟨op,loc,r,val⟩=R at *
 generalize t * 3+r=q at *
 clear hx hy hl hb0 hn2 i0 hbl
 by_cases h3:op=3
 ·obtain rfl:=E1.out h3
  subst h3
  clear E1 E2
  go_enter Tryz.func217,Tryz.ntmps217
  go_wp2_with fail
  rw [← HA0.out]
  go_wp2_with fail
  refine wp_region_bw (by kernel_rfl) (by kernel_rfl) ?_
  repeat (go_big_quiet_step ((go_at_call 76;(with_reducible exact Calls.bw_same (HREG.out _)))))
  refine wpQuiet_nil ?_
  intro w1 hw1
  go_wp2_with fail
  go_ret
  exact ⟨rfl,HB0.out.trans (hw1.mono HB0.out.size)⟩
 ·obtain rfl:=E2.out h3
  have h3':(op==3)=false:=by simpa using h3
  clear E1 E2 h3
  go_enter Tryz.func217,Tryz.ntmps217
  go_wp2_with fail
  go_ret
  exact ⟨rfl,by rw [← HA0.out];exact HB0.out⟩
theorem doneF {p:List (List Ins)} {s:Sq} {t:Nat} {k:Int} {r:List Ins} (hk:s.pc[t]? = some k) (hr:p[t]? = some r) (h:k < r.length):sqDone p s=false:=by
 unfold sqDone
 rw [List.all_eq_false]
 refine ⟨t,List.mem_range.2 (List.getElem?_eq_some_iff.1 hr).1, ?_⟩
 simp [List.getD_eq_getElem?_getD,hk,hr]
 omega
theorem doneT {p:List (List Ins)} {s:Sq} (h:∀ t < p.length,∃ k r,s.pc[t]? = some k∧p[t]? = some r∧(r.length:Int)≤k):sqDone p s=true:=by
 unfold sqDone
 rw [List.all_eq_true]
 intro t ht
 obtain ⟨k,r,hk,hr,hn⟩:=h t (List.mem_range.1 ht)
 simp [List.getD_eq_getElem?_getD,hk,hr]
 omega
theorem l3Done_any (vp:Value) (p:List (List Ins)) (x:SV) (s:St) (w:World) (hp:RepP w vp p) (hx:RepSt w x s) (hl:s.pc.length=p.length) (hpl:p.length≤1048576) :
 Calls Tryz.prog 195 #[vp, .agg #[.slice x.p.a x.p.n x.p.cap, .slice x.r.a x.r.n x.r.cap, .slice x.m.a x.m.n x.m.cap, .slice x.b.a x.b.n x.b.cap]] w
  fun e w'=>e = .returned (.bool (sqDone p s.q))∧Below w.heap.size w w':=by
 obtain ⟨⟨pa,pn,pk⟩,⟨ra,rn,rk⟩,⟨ma,mn,mk⟩,⟨ba,bn,bk⟩⟩:=x
 obtain ⟨va,vc,rfl,hc1,hc2,hc3,hp⟩:=hp.open
 obtain ⟨_,_,hv2, -, -, -, -⟩:=hx.pc.open
 simp only [Slc.v,Value.slice.injEq] at hv2
 obtain ⟨rfl,hn2,rfl⟩:=hv2
 have HX:Hid (Rep IntE w (.slice pa pn pk) s.pc):=hide hx.pc
 have HP:=hide hp
 have HL:=hide hl
 obtain ⟨A0,hA0⟩:∃ A0,A0=w.alloc (.cells #[.slice pa pn pk, .slice ra rn rk, .slice ma mn mk, .slice ba bn bk] 195):=⟨_,rfl⟩
 have HB:Hid (Below w.heap.size w A0):=hide (by rw [hA0];exact belowAlloc _ _)
 have hz:A0.heap.size=w.heap.size+1:=by rw [hA0];simp
 have HX2:Hid (A0.heap[w.heap.size]? = some (.cells #[.slice pa pn pk, .slice ra rn rk, .slice ma mn mk, .slice ba bn bk] 195 (0,0))):=hide (by rw [hA0];exact heap_alloc_new w _)
 have HA0:=hide hA0
 have hpn:pn=p.length:=by omega
 generalize hn:p.length=n at *
 have HN:=hide hn
 clear hA0 hx hp hl hn2 hn
 subst hpn
 go_enter Tryz.func195,Tryz.ntmps195
 go_wp2_with fail
 rw [← HA0.out]
 go_loopw [5] (fun i wr => ∃ k:Nat,k≤pn∧i = .int .i64 k∧Hid (∀ t < k,∃ c r,s.pc[t]? = some c∧p[t]? = some r∧(r.length:Int)≤c)∧Below A0.heap.size A0 wr) (fun i _=>pn - (intOf i).toNat)
 case atStart=>exact ⟨0,Nat.zero_le _,rfl,hide (fun t h=>absurd h (Nat.not_lt_zero t)),Below.refl _ _⟩
 case round =>
  obtain ⟨k,hk,rfl,hno,hb⟩:=hrel
  by_cases hlt:k < pn
  ·have hlt':=nat_of_lt hlt
   have hbw:=HB.out.trans (hb.mono HB.out.size)
   have d0:wr.cell? ⟨w.heap.size,0,none⟩=some (.slice pa pn pk):=cellH ((hb.block w.heap.size (by omega)).trans HX2.out) (k:=0) rfl
   have dl:=lt_of_cell d0
   obtain ⟨y,hy⟩:=get_of_lt (xs:=s.pc) (k:=k) (by rw [HL.out];exact hlt)
   obtain ⟨r,hrk⟩:=get_of_lt (xs:=p) (k:=k) (by rw [HN.out];exact hlt)
   obtain ⟨b,o,rfl,hbl,i0⟩:=(HX.out.below hbw).int hy
   obtain ⟨b2,o2,qa,qc,rfl,hbl2,q0,q1⟩:=(HP.out.below hbw).row hrk
   obtain ⟨_,_,_,_,hrl,_,_⟩:=q1.open
   have HBR:=hide hb
   have HBS:=hide hb.size
   have Y:=hide hy;have RK:=hide hrk
   clear hy hrk q1 hb hbw
   by_cases hlt2:y < (r.length:Int)
   ·have E:Hid (sqDone p s.q=false):=hide (doneF (s:=s.q) Y.out RK.out hlt2)
    go_wp2_with fail
    refine wp_region_bw (by kernel_rfl) (by kernel_rfl) ?_
    repeat (go_big_quiet_step (fail))
    refine wpQuiet_nil ?_
    intro w1 hw1
    go_wp2_with fail
    go_ret
    rw [E.out]
    exact ⟨rfl,HB.out.trans ((HBR.out.trans (hw1.mono HBS.out)).mono HB.out.size)⟩
   ·have NO:Hid (∀ t < k+1,∃ c r,s.pc[t]? = some c∧p[t]? = some r∧(r.length:Int)≤c):=hide fun t ht=>by
     by_cases e:t=k
     ·subst e;exact ⟨y,r,Y.out,RK.out,Int.not_lt.1 hlt2⟩
     ·exact hno.out t (by omega)
    have hlt3:(r.length:Int)≤y:=Int.not_lt.1 hlt2
    clear hlt2
    go_wp2_with fail
    refine wp_region_bw (by kernel_rfl) (by kernel_rfl) ?_
    repeat (go_big_quiet_step (fail))
    refine wpQuiet_nil ?_
    intro w1 hw1
    go_wp2_with fail
    go_roundw
    case rel=>exact ⟨k+1,by omega,by go_num,NO,HBR.out.trans (hw1.mono HBS.out)⟩
    case measure=>simp [intOf];omega
  ·obtain rfl:k=pn:=by omega
   have E:Hid (sqDone p s.q=true):=hide (doneT (s:=s.q) (fun t ht=>hno.out t (by rw [HN.out] at ht;exact ht)))
   go_wp2_with fail
   go_ret
   rw [E.out]
   exact ⟨rfl,HB.out.trans (hb.mono HB.out.size)⟩
end Go.Proofs.YtlddmagfbcomgaaGreat