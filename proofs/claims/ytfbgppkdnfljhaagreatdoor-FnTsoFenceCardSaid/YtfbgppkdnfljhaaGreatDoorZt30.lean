/-
  The program's parser of expressions: levels. Condition: a bound on the text.
-/
import Derived.Test.YtfbgppkdnfljhaaGreatDoorZt21
import Derived.Test.YtfbgppkdnfljhaaGreatDoorZt26
import Derived.Test.YtfbgppkdnfljhaaGreatDoorZt05
import Derived.Laws.DeepStrings4
import Derived.Test.YtfbgppkdnfljhaaGreatDoorZt14
import Derived.Test.YtfbgppkdnfljhaaGreatDoorZt07
set_option maxHeartbeats 6400000
set_option maxRecDepth 100000
namespace Go.Proofs.YtfbgppkdnfljhaaGreatDoor
open Go.RowKit
def strQ (l:List UInt8):ByteArray:=⟨l.toArray⟩
theorem strQ_size (l:List UInt8):(strQ l).size=l.length:=by simp [strQ,ByteArray.size]
theorem strQ_data (s:ByteArray):strQ s.data.toList=s:=by simp [strQ]
theorem strQ_tail (c:UInt8) (l:List UInt8):(strQ (c :: l)).extract 1 (strQ (c :: l)).size=strQ l:=by
 apply ByteArray.ext
 rw [ByteArray.data_extract]
 apply Array.toList_inj.1
 simp [strQ,ByteArray.size]
theorem strQ_drop (l:List UInt8) (k:Nat):(strQ l).extract k (strQ l).size=strQ (l.drop k):=by
 apply ByteArray.ext
 rw [ByteArray.data_extract]
 apply Array.toList_inj.1
 simp [strQ,ByteArray.size]
 exact List.take_of_length_le (by simp)
theorem strQ_take (l:List UInt8) (k:Nat):(strQ l).extract 0 k=strQ (l.take k):=by
 apply ByteArray.ext
 rw [ByteArray.data_extract]
 apply Array.toList_inj.1
 simp [strQ]
theorem strQ_head (c:UInt8) (l:List UInt8) (h:0 < (strQ (c :: l)).size):(strQ (c :: l))[0]'h=c:=rfl
theorem strQ_get (l:List UInt8) (k:Nat) (h:k < (strQ l).size):l[k]? = some ((strQ l)[k]'h):=by
 have h2:k < l.length:=by rw [strQ_size] at h;exact h
 rw [List.getElem?_eq_getElem h2]
 rfl
theorem strQ_ne (c:UInt8) (l:List UInt8):(strQ (c :: l)).toList.isEmpty=false:=by rw [ByteArray.toList_eq];rfl
theorem strQ_ne2 (c:UInt8) (l:List UInt8):((strQ (c :: l)).toList==[])=false:=by rw [ByteArray.toList_eq];rfl
theorem strQ_nil:strQ []=⟨#[]⟩:=rfl
structure PQ (w:World) (pb:Nat) (l:List UInt8) (f:Bool):Prop where
 lt:pb < w.heap.size
 c0:w.cell? ⟨pb,0,none⟩=some (.string (strQ l))
 c1:w.cell? ⟨pb,1,none⟩=some (.bool f)
 fr:∀ j,w.frozen? ⟨pb,j,none⟩=false
theorem PQ.below {w w':World} {pb:Nat} {l:List UInt8} {f:Bool} (h:PQ w pb l f) (hb:Below w.heap.size w w'):PQ w' pb l f:=
 ⟨Nat.lt_of_lt_of_le h.lt hb.size,(hb.cell (p:=⟨pb,0,none⟩) h.lt).trans h.c0,(hb.cell (p:=⟨pb,1,none⟩) h.lt).trans h.c1,fun j=>(hb.frozen (p:=⟨pb,j,none⟩) h.lt).trans (h.fr j)⟩
theorem PQ.setNew {w:World} {pb:Nat} {l:List UInt8} {f:Bool} (h:PQ w pb l f) {g:Nat} (hg:g≠pb) (j:Nat) (v:Value):PQ (w.setCell ⟨g,j,none⟩ v) pb l f:=by
 obtain ⟨hlt,c0,c1,hf⟩:=h
 have e:=heap_setCell_other w ⟨g,j,none⟩ pb v (fun e=>hg e.symm)
 exact ⟨by simpa using hlt,(cell_of_block e 0).trans c0,(cell_of_block e 1).trans c1,fun i=>by
  have h1:=hf i
  unfold World.frozen? at *
  rw [e];exact h1⟩
theorem PQ.allocNew {w:World} {pb:Nat} {l:List UInt8} {f:Bool} (h:PQ w pb l f) (o:Obj):PQ (w.alloc o) pb l f:=h.below (belowAlloc w o)
def StepQ (w:World) (pb:Nat) (v:Value) (l:List UInt8) (f:Bool) (e:Ending) (w':World):Prop:=e = .returned v∧PQ w' pb l f∧Outside pb (pb+1) w w'
theorem outside_rowQ {pb:Nat} {w w':World} (h:w.grownBy w' (some pb)):Outside pb (pb+1) w w':=⟨h.os,h.tape,h.output,h.size,fun k hk hlh=>h.block k hk (by simp;omega)⟩
theorem outside_setQ (w:World) (pb j:Nat) (v:Value):Outside pb (pb+1) w (w.setCell ⟨pb,j,none⟩ v):=outside_rowQ (grown_set (grown_of_below (Below.refl _ _) _) _ _)
theorem take_any (pb:Nat) (l:List UInt8) (f:Bool) (k:UInt8) (c:Int) (hk:(k.toNat:Int)=c) (w:World) (h:PQ w pb l f) :
 Calls Tryz.prog 214 #[.pointer (some ⟨pb,0,none⟩), .int .u8 c] w (StepQ w pb (.bool (tkI k l f)) (if tkI k l f=true then l.tail else l) f):=by
 have HH:=hide h
 obtain ⟨hlt,c0,c1,hfr⟩:=h
 have f1:=hfr 1
 have f0:=hfr 0
 cases f
 ·cases l with
  | nil =>
   have P0:tkI k [] false=false:=rfl
   rw [strQ_nil] at c0
   rw [P0]
   clear P0
   go_enter Tryz.func214,Tryz.ntmps214
   go_wp2_with fail
   go_ret
   exact ⟨rfl,HH.out,Outside.refl _ _ _⟩
  | cons a l =>
   have h1:=strQ_ne a l
   have h1':=strQ_ne2 a l
   have h2:=strQ_tail a l
   have h3:0 < (strQ (a :: l)).size:=by rw [strQ_size];simp
   have h4:=strQ_head a l h3
   have hu:=a.toNat_lt
   have H2:=hide h2
   by_cases e:a=k
   ·have P0:tkI k (a :: l) false=true:=by simp [tkI,e]
    rw [P0]
    have g:(((((strQ (a :: l))[0]'h3).toNat:Int)) != c)=false:=by rw [h4,e,hk];simp
    clear h2 h4 P0 HH
    generalize strQ (a :: l)=s at *
    go_enter Tryz.func214,Tryz.ntmps214
    go_wp2_with fail
    go_ret
    refine ⟨rfl,⟨by simp;exact hlt,by show _=some (Value.string (strQ l));rw [← H2.out];simp [go_sem, *],by simp [go_sem, *],fun j=>by simp [go_sem, *]⟩,outside_setQ _ _ _ _⟩
   ·have P0:tkI k (a :: l) false=false:=by simp [tkI,e]
    rw [P0]
    have g:(((((strQ (a :: l))[0]'h3).toNat:Int)) != c)=true:=by
     rw [h4,← hk]
     simp only [bne_iff_ne,ne_eq]
     intro e2
     exact e (UInt8.toNat_inj.1 (by omega))
    clear h2 h4 P0
    generalize strQ (a :: l)=s at *
    go_enter Tryz.func214,Tryz.ntmps214
    go_wp2_with fail
    go_ret
    exact ⟨rfl,HH.out,Outside.refl _ _ _⟩
 ·have P0:tkI k l true=false:=rfl
  rw [P0]
  clear P0
  go_enter Tryz.func214,Tryz.ntmps214
  go_wp2_with fail
  go_ret
  exact ⟨rfl,HH.out,Outside.refl _ _ _⟩
theorem nmI_lt:∀ {l:List UInt8} {k:Nat} {c:UInt8},k≤nmI l→l[k]? = some c→(isLow c=true↔k < nmI l)
 | [],k,c,_,h=>by simp at h
 | a :: l,0,c,_,h=>by
  simp at h;subst h
  unfold nmI
  split <;> simp_all
 | a :: l,k+1,c,hk,h=>by
  simp at h
  unfold nmI at hk ⊢
  split at hk
  ·rename_i ha
   rw [if_pos ha]
   have:=nmI_lt (l:=l) (k:=k) (by omega) h
   rw [this];omega
  ·omega
theorem name_any (pb:Nat) (l:List UInt8) (f:Bool) (w:World) (hl:l.length≤300) (h:PQ w pb l f) :
 Calls Tryz.prog 259 #[.pointer (some ⟨pb,0,none⟩)] w (StepQ w pb (.string (strQ (l.take (nmI l)))) (l.drop (nmI l)) f):=by
 obtain ⟨hlt,c0,c1,hfr⟩:=h
 have f1:=hfr 1
 have f0:=hfr 0
 have LT:=hide (fun (k:Nat)=>strQ_take l k)
 have LD:=hide (fun (k:Nat)=>strQ_drop l k)
 have LS:Hid ((strQ l).size=l.length):=hide (strQ_size l)
 have LA:Hid (strQ (l.take (strQ l).size)=strQ l):=hide (by rw [strQ_size,List.take_length])
 have LZ:Hid (strQ (l.drop (strQ l).size)=ByteArray.empty):=hide (by rw [strQ_size,List.drop_length];rfl)
 have LG:=hide (fun k hk=>strQ_get l k hk)
 have NL:=hide (fun (k:Nat) (c:UInt8) (h1:k≤nmI l) (h2:l[k]? = some c)=>nmI_lt h1 h2)
 have NB:=nmI_le l
 have hsz:(strQ l).size≤300:=by rw [LS.out];exact hl
 generalize nmI l=N at *
 generalize strQ l=s at *
 go_enter Tryz.func259,Tryz.ntmps259
 go_wp2_with fail
 go_loop [3] (fun q => ∃ j:Nat,q = .int .i64 j∧j≤N) (fun q=>s.size - (intOf q).toNat)
 case atStart=>exact ⟨0,rfl,Nat.zero_le _⟩
 case round =>
  obtain ⟨j,rfl,hj⟩:=hrel
  have hjs:j≤s.size:=by rw [LS.out];omega
  have fin:j=N→True:=fun _=>trivial
  by_cases hltj:j < s.size
  ·have hlt':(j:Int) < s.size:=by omega
   have hki:0≤(j:Int)∧(j:Int) < s.size:=by omega
   have hsj:=LG.out j hltj
   have hn:=NL.out j _ hj hsj
   by_cases g1:((s[j]'hltj).toNat:Int)≥97
   ·have g1':decide (((s[j]'hltj).toNat:Int)≥97)=true:=decide_eq_true g1
    by_cases g2:((s[j]'hltj).toNat:Int)≤122
    ·have g2':decide (((s[j]'hltj).toNat:Int)≤122)=true:=decide_eq_true g2
     have hN:j < N:=hn.1 (by unfold isLow;rw [decide_eq_true (by omega),decide_eq_true (by omega)];rfl)
     clear hsj hn g1 g2
     go_wp2_with fail
     go_round
     case rel=>exact ⟨j+1,by go_num,by omega⟩
     case measure=>simp [intOf];omega
    ·have g2':decide (((s[j]'hltj).toNat:Int)≤122)=false:=decide_eq_false g2
     obtain rfl:j=N:=by
      have h3:isLow (s[j]'hltj)=false:=by unfold isLow;rw [decide_eq_false (show ¬ (s[j]'hltj).toNat≤122 by omega),Bool.and_false]
      rw [h3] at hn
      have h4:¬ j < N:=fun h=>by simpa using hn.2 h
      omega
     clear hsj hn g1 g2
     go_wp2_with fail
     go_ret
     exact ⟨by rw [← LT.out];rfl,⟨by simp;exact hlt,by rw [← LD.out];simp [go_sem, *],by simp [go_sem, *],fun j=>by simp [go_sem, *]⟩,outside_setQ _ _ _ _⟩
   ·have g1':decide (((s[j]'hltj).toNat:Int)≥97)=false:=decide_eq_false g1
    obtain rfl:j=N:=by
     have h3:isLow (s[j]'hltj)=false:=by unfold isLow;rw [decide_eq_false (show ¬ 97≤(s[j]'hltj).toNat by omega)];rfl
     rw [h3] at hn
     have h4:¬ j < N:=fun h=>by simpa using hn.2 h
     omega
    clear hsj hn g1
    go_wp2_with fail
    go_ret
    exact ⟨by rw [← LT.out];rfl,⟨by simp;exact hlt,by rw [← LD.out];simp [go_sem, *],by simp [go_sem, *],fun j=>by simp [go_sem, *]⟩,outside_setQ _ _ _ _⟩
  ·obtain rfl:j=s.size:=by omega
   have hltf:decide ((s.size:Int) < (s.size:Int))=false:=decide_eq_false (by omega)
   obtain rfl:N=s.size:=by have:=LS.out;omega
   clear hltj
   go_wp2_with fail
   go_ret
   exact ⟨by rw [LA.out];rfl,⟨by simp;exact hlt,by rw [LZ.out];simp [go_sem, *],by simp [go_sem, *],fun j=>by simp [go_sem, *]⟩,outside_setQ _ _ _ _⟩
theorem relLevel_op (o:Int) (h2:2≤o) (h5:o≤5) (w:World):Calls Tryz.prog 169 #[.int .i64 o] w fun e w'=>e = .returned (.tuple #[.int .i64 (lvlR o), .string (sgnR o), .int .i64 2])∧w=w':=by
 have h:o=2∨o=3∨o=4∨o=5:=by omega
 rcases h with rfl | rfl | rfl | rfl
 ·go_enter Tryz.func169,Tryz.ntmps169
  go_wp2
  refine bodyPost_ret (v:=.tuple #[.int .i64 3, .string ⟨#[124]⟩, .int .i64 2]) (by simp [results,Tryz.results169,go_sem]) rfl ⟨rfl,rfl⟩
 ·go_enter Tryz.func169,Tryz.ntmps169
  go_wp2
  refine bodyPost_ret (v:=.tuple #[.int .i64 2, .string ⟨#[38]⟩, .int .i64 2]) (by simp [results,Tryz.results169,go_sem]) rfl ⟨rfl,rfl⟩
 ·go_enter Tryz.func169,Tryz.ntmps169
  go_wp2
  refine bodyPost_ret (v:=.tuple #[.int .i64 2, .string ⟨#[45]⟩, .int .i64 2]) (by simp [results,Tryz.results169,go_sem]) rfl ⟨rfl,rfl⟩
 ·go_enter Tryz.func169,Tryz.ntmps169
  go_wp2
  refine bodyPost_ret (v:=.tuple #[.int .i64 1, .string ⟨#[59]⟩, .int .i64 2]) (by simp [results,Tryz.results169,go_sem]) rfl ⟨rfl,rfl⟩
theorem relLevel_all (o:Int) (h1:1≤o) (h7:o≤7) (w:World):Calls Tryz.prog 169 #[.int .i64 o] w fun e w'=>e = .returned (.tuple #[.int .i64 (lvlR o), .string (sgnR o), .int .i64 (kidsO o)])∧w=w':=by
 have h:o=1∨(2≤o∧o≤5)∨o=6∨o=7:=by omega
 rcases h with rfl | ⟨h2,h5⟩ | rfl | rfl
 ·go_enter Tryz.func169,Tryz.ntmps169
  go_wp2
  refine bodyPost_ret (v:=.tuple #[.int .i64 0, .string ⟨#[]⟩, .int .i64 0]) (by simp [results,Tryz.results169,go_sem]) rfl ⟨rfl,rfl⟩
 ·have hk:kidsO o=2:=by
   have h:o=2∨o=3∨o=4∨o=5:=by omega
   rcases h with rfl | rfl | rfl | rfl <;> rfl
  rw [hk]
  exact relLevel_op o h2 h5 w
 ·go_enter Tryz.func169,Tryz.ntmps169
  go_wp2
  refine bodyPost_ret (v:=.tuple #[.int .i64 0, .string ⟨#[126]⟩, .int .i64 1]) (by simp [results,Tryz.results169,go_sem]) rfl ⟨rfl,rfl⟩
 ·go_enter Tryz.func169,Tryz.ntmps169
  go_wp2
  refine bodyPost_ret (v:=.tuple #[.int .i64 0, .string ⟨#[43]⟩, .int .i64 1]) (by simp [results,Tryz.results169,go_sem]) rfl ⟨rfl,rfl⟩
end Go.Proofs.YtfbgppkdnfljhaaGreatDoor
namespace Go.Proofs.YtfbgppkdnfljhaaGreatDoor
open Go.RowKit
def RetPI (w:World) (pb:Nat) (r:Re × List UInt8 × Bool) (e:Ending) (w':World):Prop:=
 ∃ (o:Int) (nm:ByteArray) (ks:List Re) (s:Slc),r.1 = .mk o nm ks∧e = .returned (.agg #[.int .i64 o, .string nm, .slice s.a s.n s.cap])∧OwnR 52 w' (Made' w w') s ks∧PQ w' pb r.2.1 r.2.2∧Outside pb (pb+1) w w'
def AtomAt (n:Nat):Prop:=∀ (pb:Nat) (l:List UInt8) (f:Bool) (r:Re × List UInt8 × Bool) (w:World),pI n .atom l f=some r→l.length≤300→PQ w pb l f→Calls Tryz.prog 213 #[.pointer (some ⟨pb,0,none⟩)] w (RetPI w pb r)
def LevelAt (n:Nat):Prop:=∀ (pb:Nat) (lv:Int) (l:List UInt8) (f:Bool) (r:Re × List UInt8 × Bool) (w:World),pI n (.level lv) l f=some r→l.length≤300→0≤lv→lv≤3→PQ w pb l f→Calls Tryz.prog 166 #[.pointer (some ⟨pb,0,none⟩), .int .i64 lv] w (RetPI w pb r)
theorem OwnR.outP {T:TypeId} {w w':World} {S:Nat→Prop} {s:Slc} {ks:List Re} {pb:Nat} (h:OwnR T w S s ks) (ho:Outside pb (pb+1) w w') (hp:¬ S pb):OwnR T w' S s ks:=
 h.keep fun q h1 h2=>ho.block q h2 (by have:q≠pb:=fun e=>hp (e ▸ h1);omega)
theorem BoxR.outP {w w':World} {g pb:Nat} {o:Int} {p:ByteArray} {s:Slc} (h:BoxR w g o p s) (ho:Outside pb (pb+1) w w') (hg:g≠pb):BoxR w' g o p s:=by
 have e:=ho.block g h.lt (by omega)
 obtain ⟨h1,h2,h3,h4,h5⟩:=h
 exact ⟨Nat.lt_of_lt_of_le h1 ho.size,(cell_of_block e _).trans h2,(cell_of_block e _).trans h3,(cell_of_block e _).trans h4,fun k=>by
  have h6:=h5 k
  unfold World.frozen? at h6 ⊢
  rw [e];exact h6⟩
theorem take_yes {pb:Nat} {l:List UInt8} {f:Bool} {k:UInt8} {c:Int} (hk:(k.toNat:Int)=c) (h:tkI k l f=true):Hid (∀ w,PQ w pb l f→Calls Tryz.prog 214 #[.pointer (some ⟨pb,0,none⟩), .int .u8 c] w (StepQ w pb (.bool true) l.tail f)):=hide fun w hp=>by
 have:=take_any pb l f k c hk w hp
 rw [h,if_pos rfl] at this;exact this
theorem take_no {pb:Nat} {l:List UInt8} {f:Bool} {k:UInt8} {c:Int} (hk:(k.toNat:Int)=c) (h:tkI k l f=false):Hid (∀ w,PQ w pb l f→Calls Tryz.prog 214 #[.pointer (some ⟨pb,0,none⟩), .int .u8 c] w (StepQ w pb (.bool false) l f)):=hide fun w hp=>by
 have:=take_any pb l f k c hk w hp
 rw [h,if_neg (by simp)] at this;exact this
abbrev zObj:Obj:=.cells #[.int .i64 0, .string ⟨#[]⟩, .slice none 0 0] 52
theorem PQ.fail {w:World} {pb:Nat} {l:List UInt8} {f:Bool} (h:PQ w pb l f):PQ (w.setCell ⟨pb,1,none⟩ (.bool true)) pb l true:=by
 obtain ⟨h1,h2,h3,h4⟩:=h
 exact ⟨by simpa using h1,by simp [go_sem,h2],by simp [go_sem,h3],fun j=>by simp [go_sem,h4]⟩
theorem atom_word (pb:Nat) (l:List UInt8) (f:Bool) (w:World) (hl:l.length≤300) (h1:tkI 40 l f=false) (h2:tkI 126 l f=false) (h3:tkI 43 l f=false) (h:PQ w pb l f) :
 Calls Tryz.prog 213 #[.pointer (some ⟨pb,0,none⟩)] w (RetPI w pb (.mk 1 ⟨(l.take (nmI l)).toArray⟩ [],l.drop (nmI l),f||(nmI l==0))):=by
 have HB:=hide (belowAlloc w zObj)
 have BX:=hide (BoxR.new w 0 ⟨#[]⟩ ⟨none,0,0⟩ 52)
 have hz0:(w.alloc zObj).heap.size=w.heap.size+1:=by simp
 have hpw:=h.lt
 have hne:w.heap.size≠pb:=by omega
 have P0:=hide (h.allocNew zObj)
 have O0:=hide (Outside.of_below (lo:=pb) (hi:=pb+1) HB.out)
 have T1:=take_no (pb:=pb) (k:=40) (c:=40) rfl h1
 have T2:=take_no (pb:=pb) (k:=126) (c:=126) rfl h2
 have T3:=take_no (pb:=pb) (k:=43) (c:=43) rfl h3
 have HN:=hide (fun w' h'=>name_any pb l f w' hl h')
 have NZ:Hid ((strQ (l.take (nmI l))).toList=[]↔nmI l=0):=hide (by
  rw [ByteArray.toList_eq]
  have:=nmI_le l
  constructor
  ·intro e
   have e2:=congrArg List.length e
   simp [strQ] at e2
   rcases e2 with e2 | e2
   ·exact e2
   ·subst e2;rfl
  ·intro e;rw [e];rfl)
 have NE:Hid ((⟨(l.take (nmI l)).toArray⟩:ByteArray)=strQ (l.take (nmI l))):=hide rfl
 rw [NE.out]
 clear h1 h2 h3 h NE
 generalize strQ (l.take (nmI l))=nm at *
 generalize hr:l.drop (nmI l)=rest at *
 clear hr
 by_cases hz:nmI l=0
 ·have g:(nm.toList==[])=true:=by rw [beq_iff_eq];exact NZ.out.2 hz
  have RE:(f||(nmI l==0))=true:=by rw [hz];simp
  rw [RE]
  clear hz NZ RE
  go_enter Tryz.func213,Tryz.ntmps213
  go_wp2_with fail
  (with_reducible refine (T1.out _ P0.out).mono ?_);rintro e w1 ⟨rfl,hp1,ho1⟩
  go_wp2_with fail
  (with_reducible refine (T2.out _ hp1).mono ?_);rintro e w2 ⟨rfl,hp2,ho2⟩
  go_wp2_with fail
  (with_reducible refine (T3.out _ hp2).mono ?_);rintro e w3 ⟨rfl,hp3,ho3⟩
  go_wp2_with fail
  (with_reducible refine (HN.out _ hp3).mono ?_);rintro e w4 ⟨rfl,hp4,ho4⟩
  have OA:=hide (((ho1.trans ho2).trans ho3).trans ho4)
  obtain ⟨bl,r0,r1,r2,rf⟩:=BX.out.outP OA.out hne
  have HP4:=hide hp4
  obtain ⟨pl,p0,p1,pf⟩:=hp4
  have pf1:=pf 1
  have OO:=hide (O0.out.trans OA.out)
  have hbw:w.heap.size < w4.heap.size:=bl
  clear hp1 hp2 hp3 ho1 ho2 ho3 ho4 P0
  go_wp2_with fail
  refine bodyPost_ret (v:=.agg #[.int .i64 1, .string nm, .slice none 0 0]) (by simp [results,Tryz.results213,go_sem, *]) rfl ⟨1,nm,[],⟨none,0,0⟩,rfl,rfl, .nil, ?_, ?_⟩
  ·exact (((HP4.out.fail).setNew hne _ _).setNew hne _ _).setNew hne _ _
  ·exact (((OO.out.trans (outside_setQ _ _ _ _)).setNew (Nat.le_refl _) _ _).setNew (Nat.le_refl _) _ _).setNew (Nat.le_refl _) _ _
 ·have g:(nm.toList==[])=false:=by rw [beq_eq_false_iff_ne];exact fun e=>hz (NZ.out.1 e)
  have RE:(f||(nmI l==0))=f:=by rw [beq_eq_false_iff_ne.2 hz];simp
  rw [RE]
  clear hz NZ RE
  go_enter Tryz.func213,Tryz.ntmps213
  go_wp2_with fail
  (with_reducible refine (T1.out _ P0.out).mono ?_);rintro e w1 ⟨rfl,hp1,ho1⟩
  go_wp2_with fail
  (with_reducible refine (T2.out _ hp1).mono ?_);rintro e w2 ⟨rfl,hp2,ho2⟩
  go_wp2_with fail
  (with_reducible refine (T3.out _ hp2).mono ?_);rintro e w3 ⟨rfl,hp3,ho3⟩
  go_wp2_with fail
  (with_reducible refine (HN.out _ hp3).mono ?_);rintro e w4 ⟨rfl,hp4,ho4⟩
  have OA:=hide (((ho1.trans ho2).trans ho3).trans ho4)
  obtain ⟨bl,r0,r1,r2,rf⟩:=BX.out.outP OA.out hne
  have HP4:=hide hp4
  obtain ⟨pl,p0,p1,pf⟩:=hp4
  have pf1:=pf 1
  have OO:=hide (O0.out.trans OA.out)
  have hbw:w.heap.size < w4.heap.size:=bl
  clear hp1 hp2 hp3 ho1 ho2 ho3 ho4 P0
  go_wp2_with fail
  refine bodyPost_ret (v:=.agg #[.int .i64 1, .string nm, .slice none 0 0]) (by simp [results,Tryz.results213,go_sem, *]) rfl ⟨1,nm,[],⟨none,0,0⟩,rfl,rfl, .nil, ?_, ?_⟩
  ·exact (((HP4.out).setNew hne _ _).setNew hne _ _).setNew hne _ _
  ·exact ((OO.out.setNew (Nat.le_refl _) _ _).setNew (Nat.le_refl _) _ _).setNew (Nat.le_refl _) _ _
theorem atom_par (n:Nat) (IQ:LevelAt n) (pb:Nat) (l:List UInt8) (f:Bool) (w:World) (hl:l.length≤300) (h1:tkI 40 l f=true) (ex:Re) (l1:List UInt8) (f1:Bool) (hq:pI n (.level 3) l.tail f=some (ex,l1,f1)) (h:PQ w pb l f) :
 Calls Tryz.prog 213 #[.pointer (some ⟨pb,0,none⟩)] w (RetPI w pb (if tkI 41 l1 f1=true then (ex,l1.tail,f1) else (ex,l1,true))):=by
 have HB:=hide (belowAlloc w zObj)
 have BX:=hide (BoxR.new w 0 ⟨#[]⟩ ⟨none,0,0⟩ 52)
 have hz0:(w.alloc zObj).heap.size=w.heap.size+1:=by simp
 have hpw:=h.lt
 have hne:w.heap.size≠pb:=by omega
 have P0:=hide (h.allocNew zObj)
 have O0:=hide (Outside.of_below (lo:=pb) (hi:=pb+1) HB.out)
 have T1:=take_yes (pb:=pb) (k:=40) (c:=40) rfl h1
 have HQ:=hide (fun w' h'=>IQ pb 3 l.tail f (ex,l1,f1) w' hq (by simp;omega) (by omega) (by omega) h')
 obtain ⟨eo,en,ek⟩:=ex
 clear h1 hq h IQ
 by_cases hc:tkI 41 l1 f1=true
 ·rw [if_pos hc]
  have T2:=take_yes (pb:=pb) (k:=41) (c:=41) rfl hc
  clear hc
  go_enter Tryz.func213,Tryz.ntmps213
  go_wp2_with fail
  (with_reducible refine (T1.out _ P0.out).mono ?_);rintro e w1 ⟨rfl,hp1,ho1⟩
  go_wp2_with fail
  (with_reducible refine (HQ.out _ hp1).mono ?_);rintro e w2 ⟨eo',en',ek',s,he,rfl,own,hp2,ho2⟩
  simp only [Re.mk.injEq] at he
  obtain ⟨rfl,rfl,rfl⟩:=he
  have hz1:=ho1.size
  have hz2:=ho2.size
  rw [hz0] at hz1
  have O2:=hide (ho1.trans ho2)
  have X2:=hide (BX.out.outP O2.out hne)
  have HBL:=hide (belowAlloc w2 (.cells #[.int .i64 eo, .string en, .slice s.a s.n s.cap] 52))
  have BL:=hide (BoxR.new w2 eo en s 52)
  have HP3:=hide (hp2.allocNew (.cells #[.int .i64 eo, .string en, .slice s.a s.n s.cap] 52))
  have OWN:=hide (own.bel HBL.out)
  have hz3:(w2.alloc (.cells #[.int .i64 eo, .string en, .slice s.a s.n s.cap] 52)).heap.size=w2.heap.size+1:=by simp
  have X3:=hide (X2.out.below HBL.out)
  have hSq:∀ q,Made' w1 w2 q→w.heap.size+1≤q∧q < w2.heap.size:=fun q hq=>⟨by have:=hq.1;omega,hq.2⟩
  generalize Made' w1 w2=S at *
  have hSp:¬ S pb:=fun hq=>by have:=hSq _ hq;omega
  have hS0:¬ S w.heap.size:=fun hq=>by have:=hSq _ hq;omega
  have hbn:w2.heap.size≠pb:=by omega
  clear hp1 hp2 own X2 BX P0 HQ
  go_wp2_with fail
  (with_reducible refine (T2.out _ HP3.out).mono ?_);rintro e w4 ⟨rfl,hp4,ho4⟩
  have hz4:=ho4.size
  rw [hz3] at hz4
  have OO:=hide ((O0.out.trans O2.out).trans ((Outside.of_below (lo:=pb) (hi:=pb+1) HBL.out).trans ho4))
  obtain ⟨bl,r0,r1,r2,rf⟩:=X3.out.outP ho4 hne
  obtain ⟨cl,d0,d1,d2,df⟩:=BL.out.outP ho4 hbn
  have OWN4:=hide (OWN.out.outP ho4 hSp)
  have HP4:=hide hp4
  obtain ⟨pl,p0,p1,pf⟩:=hp4
  have pf1:=pf 1
  clear ho4 ho1 ho2 HP3 X3 BL OWN
  go_wp2_with fail
  refine bodyPost_ret (v:=.agg #[.int .i64 eo, .string en, .slice s.a s.n s.cap]) (by simp [results,Tryz.results213,go_sem, *]) rfl ⟨eo,en,ek,s,rfl,rfl, ?_, ?_, ?_⟩
  ·exact (((OWN4.out.set hS0 _ _).set hS0 _ _).set hS0 _ _).wide fun q hq=>⟨by have:=(hSq q hq).1;omega,by have:=(hSq q hq).2;simp;omega⟩
  ·exact (((HP4.out).setNew hne _ _).setNew hne _ _).setNew hne _ _
  ·exact ((OO.out.setNew (Nat.le_refl _) _ _).setNew (Nat.le_refl _) _ _).setNew (Nat.le_refl _) _ _
 ·rw [if_neg hc]
  have hc':tkI 41 l1 f1=false:=by simpa using hc
  have T2:=take_no (pb:=pb) (k:=41) (c:=41) rfl hc'
  clear hc hc'
  go_enter Tryz.func213,Tryz.ntmps213
  go_wp2_with fail
  (with_reducible refine (T1.out _ P0.out).mono ?_);rintro e w1 ⟨rfl,hp1,ho1⟩
  go_wp2_with fail
  (with_reducible refine (HQ.out _ hp1).mono ?_);rintro e w2 ⟨eo',en',ek',s,he,rfl,own,hp2,ho2⟩
  simp only [Re.mk.injEq] at he
  obtain ⟨rfl,rfl,rfl⟩:=he
  have hz1:=ho1.size
  have hz2:=ho2.size
  rw [hz0] at hz1
  have O2:=hide (ho1.trans ho2)
  have X2:=hide (BX.out.outP O2.out hne)
  have HBL:=hide (belowAlloc w2 (.cells #[.int .i64 eo, .string en, .slice s.a s.n s.cap] 52))
  have BL:=hide (BoxR.new w2 eo en s 52)
  have HP3:=hide (hp2.allocNew (.cells #[.int .i64 eo, .string en, .slice s.a s.n s.cap] 52))
  have OWN:=hide (own.bel HBL.out)
  have hz3:(w2.alloc (.cells #[.int .i64 eo, .string en, .slice s.a s.n s.cap] 52)).heap.size=w2.heap.size+1:=by simp
  have X3:=hide (X2.out.below HBL.out)
  have hSq:∀ q,Made' w1 w2 q→w.heap.size+1≤q∧q < w2.heap.size:=fun q hq=>⟨by have:=hq.1;omega,hq.2⟩
  generalize Made' w1 w2=S at *
  have hSp:¬ S pb:=fun hq=>by have:=hSq _ hq;omega
  have hS0:¬ S w.heap.size:=fun hq=>by have:=hSq _ hq;omega
  have hbn:w2.heap.size≠pb:=by omega
  clear hp1 hp2 own X2 BX P0 HQ
  go_wp2_with fail
  (with_reducible refine (T2.out _ HP3.out).mono ?_);rintro e w4 ⟨rfl,hp4,ho4⟩
  have hz4:=ho4.size
  rw [hz3] at hz4
  have OO:=hide ((O0.out.trans O2.out).trans ((Outside.of_below (lo:=pb) (hi:=pb+1) HBL.out).trans ho4))
  obtain ⟨bl,r0,r1,r2,rf⟩:=X3.out.outP ho4 hne
  obtain ⟨cl,d0,d1,d2,df⟩:=BL.out.outP ho4 hbn
  have OWN4:=hide (OWN.out.outP ho4 hSp)
  have HP4:=hide hp4
  obtain ⟨pl,p0,p1,pf⟩:=hp4
  have pf1:=pf 1
  clear ho4 ho1 ho2 HP3 X3 BL OWN
  go_wp2_with fail
  refine bodyPost_ret (v:=.agg #[.int .i64 eo, .string en, .slice s.a s.n s.cap]) (by simp [results,Tryz.results213,go_sem, *]) rfl ⟨eo,en,ek,s,rfl,rfl, ?_, ?_, ?_⟩
  ·exact ((((OWN4.out.set hSp _ _).set hS0 _ _).set hS0 _ _).set hS0 _ _).wide fun q hq=>⟨by have:=(hSq q hq).1;omega,by have:=(hSq q hq).2;simp;omega⟩
  ·exact (((HP4.out.fail).setNew hne _ _).setNew hne _ _).setNew hne _ _
  ·exact (((OO.out.trans (outside_setQ _ _ _ _)).setNew (Nat.le_refl _) _ _).setNew (Nat.le_refl _) _ _).setNew (Nat.le_refl _) _ _
theorem atom_un6 (n:Nat) (IP:AtomAt n) (pb:Nat) (l:List UInt8) (f:Bool) (w:World) (hl:l.length≤300) (h1:tkI 40 l f=false) (h3:tkI 126 l f=true) (ex:Re) (l1:List UInt8) (f1:Bool) (hq:pI n .atom l.tail f=some (ex,l1,f1)) (h:PQ w pb l f) :
 Calls Tryz.prog 213 #[.pointer (some ⟨pb,0,none⟩)] w (RetPI w pb (.mk 6 ⟨#[]⟩ [ex],l1,f1)):=by
 have HB:=hide (belowAlloc w zObj)
 have BX:=hide (BoxR.new w 0 ⟨#[]⟩ ⟨none,0,0⟩ 52)
 have hz0:(w.alloc zObj).heap.size=w.heap.size+1:=by simp
 have hpw:=h.lt
 have hne:w.heap.size≠pb:=by omega
 have P0:=hide (h.allocNew zObj)
 have O0:=hide (Outside.of_below (lo:=pb) (hi:=pb+1) HB.out)
 have T1:=take_no (pb:=pb) (k:=40) (c:=40) rfl h1
 have T3:=take_yes (pb:=pb) (k:=126) (c:=126) rfl h3
 have HQ:=hide (fun w' h'=>IP pb l.tail f (ex,l1,f1) w' hq (by simp;omega) h')
 obtain ⟨eo,en,ek⟩:=ex
 clear h1 h3 hq h IP
 go_enter Tryz.func213,Tryz.ntmps213
 go_wp2_with fail
 (with_reducible refine (T1.out _ P0.out).mono ?_);rintro e wa ⟨rfl,hpa,hoa⟩
 go_wp2_with fail
 (with_reducible refine (T3.out _ hpa).mono ?_);rintro e w1 ⟨rfl,hp1,ho1'⟩
 have ho1:=hoa.trans ho1'
 go_wp2_with fail
 (with_reducible refine (HQ.out _ hp1).mono ?_);rintro e w2 ⟨eo',en',ek',s,he,rfl,own,hp2,ho2⟩
 simp only [Re.mk.injEq] at he
 obtain ⟨rfl,rfl,rfl⟩:=he
 have hz1:=ho1.size
 have hz2:=ho2.size
 rw [hz0] at hz1
 have O2:=hide (ho1.trans ho2)
 obtain ⟨bl,r0,r1,r2,rf⟩:=BX.out.outP O2.out hne
 have OWN:=hide own
 have HP2:=hide hp2
 have hSq:∀ q,Made' w1 w2 q→w.heap.size+1≤q∧q < w2.heap.size:=fun q hq=>⟨by have:=hq.1;omega,hq.2⟩
 generalize Made' w1 w2=S at *
 have hS0:¬ S w.heap.size:=fun hq=>by have:=hSq _ hq;omega
 have OO:=hide (O0.out.trans O2.out)
 clear hp1 hp2 own BX P0 HQ hpa hoa ho1' ho1 ho2
 go_wp2_with fail
 refine bodyPost_ret (v:=.agg #[.int .i64 6, .string ⟨#[]⟩, .slice (some ⟨w2.heap.size,0,none⟩) 1 1]) (by simp [results,Tryz.results213,go_sem, *]) rfl ⟨6,⟨#[]⟩,[.mk eo en ek],⟨some ⟨w2.heap.size,0,none⟩,1,1⟩,rfl,rfl, ?_, ?_, ?_⟩
 ·have h2:=((OWN.out.set hS0 0 (.int .i64 6)).set hS0 1 (.string ⟨#[]⟩)).set hS0 2 (.slice (some ⟨w2.heap.size,0,none⟩) 1 1)
  have h3:=OwnR.one (S':=fun q=>w.heap.size+1≤q∧q < w2.heap.size+1) h2 (fun q hq=>by have:=(hSq q hq).2;simp;omega) (fun q hq=>⟨(hSq q hq).1,by have:=(hSq q hq).2;omega⟩) ⟨by simp;omega,by simp⟩ eo en
  refine OwnR.wide (S:=fun q=>w.heap.size+1≤q∧q < w2.heap.size+1) (by simpa using h3) fun q hq=>⟨by omega,by simp;omega⟩
 ·exact (((HP2.out.setNew hne _ _).setNew hne _ _).setNew hne _ _).allocNew _
 ·exact (((OO.out.setNew (Nat.le_refl _) _ _).setNew (Nat.le_refl _) _ _).setNew (Nat.le_refl _) _ _).allocNew _
theorem atom_un7 (n:Nat) (IP:AtomAt n) (pb:Nat) (l:List UInt8) (f:Bool) (w:World) (hl:l.length≤300) (h1:tkI 40 l f=false) (h2:tkI 126 l f=false) (h3:tkI 43 l f=true) (ex:Re) (l1:List UInt8) (f1:Bool) (hq:pI n .atom l.tail f=some (ex,l1,f1)) (h:PQ w pb l f) :
 Calls Tryz.prog 213 #[.pointer (some ⟨pb,0,none⟩)] w (RetPI w pb (.mk 7 ⟨#[]⟩ [ex],l1,f1)):=by
 have HB:=hide (belowAlloc w zObj)
 have BX:=hide (BoxR.new w 0 ⟨#[]⟩ ⟨none,0,0⟩ 52)
 have hz0:(w.alloc zObj).heap.size=w.heap.size+1:=by simp
 have hpw:=h.lt
 have hne:w.heap.size≠pb:=by omega
 have P0:=hide (h.allocNew zObj)
 have O0:=hide (Outside.of_below (lo:=pb) (hi:=pb+1) HB.out)
 have T1:=take_no (pb:=pb) (k:=40) (c:=40) rfl h1
 have T2:=take_no (pb:=pb) (k:=126) (c:=126) rfl h2
 have T3:=take_yes (pb:=pb) (k:=43) (c:=43) rfl h3
 have HQ:=hide (fun w' h'=>IP pb l.tail f (ex,l1,f1) w' hq (by simp;omega) h')
 obtain ⟨eo,en,ek⟩:=ex
 clear h1 h2 h3 hq h IP
 go_enter Tryz.func213,Tryz.ntmps213
 go_wp2_with fail
 (with_reducible refine (T1.out _ P0.out).mono ?_);rintro e wa ⟨rfl,hpa,hoa⟩
 go_wp2_with fail
 (with_reducible refine (T2.out _ hpa).mono ?_);rintro e wb ⟨rfl,hpb,hob⟩
 go_wp2_with fail
 (with_reducible refine (T3.out _ hpb).mono ?_);rintro e w1 ⟨rfl,hp1,ho1'⟩
 have ho1:=(hoa.trans hob).trans ho1'
 go_wp2_with fail
 (with_reducible refine (HQ.out _ hp1).mono ?_);rintro e w2 ⟨eo',en',ek',s,he,rfl,own,hp2,ho2⟩
 simp only [Re.mk.injEq] at he
 obtain ⟨rfl,rfl,rfl⟩:=he
 have hz1:=ho1.size
 have hz2:=ho2.size
 rw [hz0] at hz1
 have O2:=hide (ho1.trans ho2)
 obtain ⟨bl,r0,r1,r2,rf⟩:=BX.out.outP O2.out hne
 have OWN:=hide own
 have HP2:=hide hp2
 have hSq:∀ q,Made' w1 w2 q→w.heap.size+1≤q∧q < w2.heap.size:=fun q hq=>⟨by have:=hq.1;omega,hq.2⟩
 generalize Made' w1 w2=S at *
 have hS0:¬ S w.heap.size:=fun hq=>by have:=hSq _ hq;omega
 have OO:=hide (O0.out.trans O2.out)
 clear hp1 hp2 own BX P0 HQ hpa hoa ho1' ho1 ho2
 go_wp2_with fail
 refine bodyPost_ret (v:=.agg #[.int .i64 7, .string ⟨#[]⟩, .slice (some ⟨w2.heap.size,0,none⟩) 1 1]) (by simp [results,Tryz.results213,go_sem, *]) rfl ⟨7,⟨#[]⟩,[.mk eo en ek],⟨some ⟨w2.heap.size,0,none⟩,1,1⟩,rfl,rfl, ?_, ?_, ?_⟩
 ·have h2:=((OWN.out.set hS0 0 (.int .i64 7)).set hS0 1 (.string ⟨#[]⟩)).set hS0 2 (.slice (some ⟨w2.heap.size,0,none⟩) 1 1)
  have h3:=OwnR.one (S':=fun q=>w.heap.size+1≤q∧q < w2.heap.size+1) h2 (fun q hq=>by have:=(hSq q hq).2;simp;omega) (fun q hq=>⟨(hSq q hq).1,by have:=(hSq q hq).2;omega⟩) ⟨by simp;omega,by simp⟩ eo en
  refine OwnR.wide (S:=fun q=>w.heap.size+1≤q∧q < w2.heap.size+1) (by simpa using h3) fun q hq=>⟨by omega,by simp;omega⟩
 ·exact (((HP2.out.setNew hne _ _).setNew hne _ _).setNew hne _ _).allocNew _
 ·exact (((OO.out.setNew (Nat.le_refl _) _ _).setNew (Nat.le_refl _) _ _).setNew (Nat.le_refl _) _ _).allocNew _
theorem atom_step (n:Nat) (IP:AtomAt n) (IQ:LevelAt n):AtomAt (n+1):=by
 intro pb l f r w h hl hp
 unfold pI at h
 split at h
 ·rename_i h1
  split at h
  ·cases h
  ·rename_i e l1 f1 hq
   have h2:=atom_par n IQ pb l f w hl h1 e l1 f1 hq hp
   split at h
   ·rename_i hb
    rw [if_pos hb] at h2
    simp only [Option.some.injEq] at h;subst h;exact h2
   ·rename_i hb
    rw [if_neg hb] at h2
    simp only [Option.some.injEq] at h;subst h;exact h2
 ·rename_i h1
  have h1':tkI 40 l f=false:=by simpa using h1
  split at h
  ·rename_i h2
   split at h
   ·cases h
   ·rename_i e l1 f1 hq
    simp only [Option.some.injEq] at h;subst h
    exact atom_un6 n IP pb l f w hl h1' h2 e l1 f1 hq hp
  ·rename_i h2
   have h2':tkI 126 l f=false:=by simpa using h2
   split at h
   ·rename_i h3
    split at h
    ·cases h
    ·rename_i e l1 f1 hq
     simp only [Option.some.injEq] at h;subst h
     exact atom_un7 n IP pb l f w hl h1' h2' h3 e l1 f1 hq hp
   ·rename_i h3
    simp only [Option.some.injEq] at h;subst h
    exact atom_word pb l f w hl h1' h2' (by simpa using h3) hp
end Go.Proofs.YtfbgppkdnfljhaaGreatDoor
namespace Go.Proofs.YtfbgppkdnfljhaaGreatDoor
open Go.RowKit
theorem level_zero (n:Nat) (IP:AtomAt n) (pb:Nat) (l:List UInt8) (f:Bool) (r:Re × List UInt8 × Bool) (w:World) (hq:pI n .atom l f=some r) (hl:l.length≤300) (h:PQ w pb l f) :
 Calls Tryz.prog 166 #[.pointer (some ⟨pb,0,none⟩), .int .i64 0] w (RetPI w pb r):=by
 have HB:=hide (belowAlloc w zObj)
 have BX:=hide (BoxR.new w 0 ⟨#[]⟩ ⟨none,0,0⟩ 52)
 have hz0:(w.alloc zObj).heap.size=w.heap.size+1:=by simp
 have hpw:=h.lt
 have hne:w.heap.size≠pb:=by omega
 have P0:=hide (h.allocNew zObj)
 have O0:=hide (Outside.of_below (lo:=pb) (hi:=pb+1) HB.out)
 have HQ:=hide (fun w' h'=>IP pb l f r w' hq hl h')
 clear hq h IP
 go_enter Tryz.func166,Tryz.ntmps166
 go_wp2_with fail
 (with_reducible refine (HQ.out _ P0.out).mono ?_);rintro e w2 ⟨eo,en,ek,s,he,rfl,own,hp2,ho2⟩
 obtain ⟨re,rl,rf⟩:=r
 simp only at he hp2
 subst he
 have hz2:=ho2.size
 have O2:=hide ho2
 obtain ⟨bl,r0,r1,r2,rf⟩:=BX.out.outP O2.out hne
 have OWN:=hide own
 have HP2:=hide hp2
 have hSq:∀ q,Made' (w.alloc zObj) w2 q→w.heap.size+1≤q∧q < w2.heap.size:=fun q hq=>⟨by have:=hq.1;rw [hz0] at this;omega,hq.2⟩
 generalize Made' (w.alloc zObj) w2=S at *
 have hS0:¬ S w.heap.size:=fun hq=>by have:=hSq _ hq;omega
 have OO:=hide (O0.out.trans O2.out)
 clear hp2 own BX P0 HQ ho2
 go_wp2_with fail
 refine bodyPost_ret (v:=.agg #[.int .i64 eo, .string en, .slice s.a s.n s.cap]) (by simp [results,Tryz.results166,go_sem, *]) rfl ⟨eo,en,ek,s,rfl,rfl, ?_, ?_, ?_⟩
 ·exact (((OWN.out.set hS0 _ _).set hS0 _ _).set hS0 _ _).wide fun q hq=>⟨by have:=(hSq q hq).1;omega,by have:=(hSq q hq).2;simp;omega⟩
 ·exact (((HP2.out).setNew hne _ _).setNew hne _ _).setNew hne _ _
 ·exact ((OO.out.setNew (Nat.le_refl _) _ _).setNew (Nat.le_refl _) _ _).setNew (Nat.le_refl _) _ _
def opK (lv:Int) (l:List UInt8) (f:Bool):Nat→Int
 | 0=>0
 | k+1=>if opK lv l f k=0 then (if hitI lv ((k:Int)+2) l f=true then (k:Int)+2 else 0) else opK lv l f k
theorem opK_four (lv:Int) (l:List UInt8) (f:Bool):opK lv l f 4=opI lv l f:=by
 simp only [opK,opI]
 by_cases h2:hitI lv 2 l f=true
 ·simp [h2]
 ·by_cases h3:hitI lv 3 l f=true
  ·simp [h2,h3]
  ·by_cases h4:hitI lv 4 l f=true
   ·simp [h2,h3,h4]
   ·simp [h2,h3,h4]
def restK (q:Int) (l:List UInt8):List UInt8:=if q=0 then l else l.tail
def msP (pb:Nat) (w:World):Nat:=match w.cell? ⟨pb,0,none⟩ with
 | some (.string s)=>s.size
 | _=>0
theorem PQ.ms {w:World} {pb:Nat} {l:List UInt8} {f:Bool} (h:PQ w pb l f):msP pb w=l.length:=by
 unfold msP
 rw [h.c0]
 exact strQ_size l
structure JV (w3:World) (pb:Nat) (l l1:List UInt8) (f f1:Bool) (lo:Int) (ln:ByteArray) (lk:List Re) (S:Nat→Prop) (ro:Int) (rn:ByteArray) (rk:List Re) (b5 b6:Bool) (sr:Slc) (G:Nat) (W:World):Prop where
 out:Outside pb (pb+1) w3 W
 q0:b5=false→PQ W pb l f
 q1:b5=true→PQ W pb l1 f1
 own:b5=true→b6=false→OwnR 52 W (Made' w3 W) sr rk
 imp:b6=true→b5=true
 fin:b6=true→OwnR 52 W (fun q=>S q∨(w3.heap.size≤q∧q < W.heap.size)) ⟨some ⟨G,0,none⟩,2,2⟩ [.mk lo ln lk, .mk ro rn rk]
theorem JV.start {w3:World} {pb:Nat} {l l1:List UInt8} {f f1:Bool} {lo:Int} {ln:ByteArray} {lk:List Re} {S:Nat→Prop} {ro:Int} {rn:ByteArray} {rk:List Re} {sr:Slc} {G:Nat} (h:PQ w3 pb l f):JV w3 pb l l1 f f1 lo ln lk S ro rn rk false false sr G w3.drew:=
 ⟨Outside.of_below (Below.refl _ _).drew,fun _=>h.below (Below.refl _ _).drew,fun h=>(nomatch h),fun h=>(nomatch h),fun h=>(nomatch h),fun h=>(nomatch h)⟩
theorem JV.call {w3 W W':World} {pb:Nat} {l l1:List UInt8} {f f1:Bool} {lo:Int} {ln:ByteArray} {lk:List Re} {S:Nat→Prop} {ro:Int} {rn:ByteArray} {rk:List Re} {sr sr':Slc} {b6:Bool} {G:Nat} (h:JV w3 pb l l1 f f1 lo ln lk S ro rn rk false b6 sr G W)
 (ho:OwnR 52 W' (Made' W W') sr' rk) (hq:PQ W' pb l1 f1) (hu:Outside pb (pb+1) W W'):JV w3 pb l l1 f f1 lo ln lk S ro rn rk true b6 sr' G W':=by
 obtain rfl:b6=false:=by
  cases b6
  ·rfl
  ·exact nomatch h.imp rfl
 exact ⟨h.out.trans hu,fun h=>(nomatch h),fun _=>hq,fun _ _=>ho.wide fun q hq=>⟨Nat.le_trans h.out.size hq.1,hq.2⟩,fun _=>rfl,fun h=>(nomatch h)⟩
theorem JV.lit {w3 W:World} {pb:Nat} {l l1:List UInt8} {f f1:Bool} {lo:Int} {ln:ByteArray} {lk:List Re} {S:Nat→Prop} {ro:Int} {rn:ByteArray} {rk:List Re} {sr sl:Slc} {G:Nat} (h:JV w3 pb l l1 f f1 lo ln lk S ro rn rk true false sr G W)
 (hl:OwnR 52 w3 S sl lk) (hS:∀ q,S q→q < w3.heap.size) (hp:¬ S pb) :
 JV w3 pb l l1 f f1 lo ln lk S ro rn rk true true sr W.heap.size (W.alloc (.cells #[.int .i64 lo, .string ln, .slice sl.a sl.n sl.cap, .int .i64 ro, .string rn, .slice sr.a sr.n sr.cap] 52)):=by
 have hsz:=h.out.size
 refine ⟨h.out.trans (Outside.of_below (belowAlloc _ _)),fun h=>(nomatch h),fun _=>(h.q1 rfl).allocNew _,fun _ h=>(nomatch h),fun _=>rfl,fun _ => ?_⟩
 exact OwnR.two (hl.outP h.out hp) (h.own rfl rfl) (fun q hq=>by have:=hS q hq;omega) (fun q hq=>hq.2) (fun q a b=>by have:=hS q a;have:=b.1;omega) (fun q hq => .inl hq) (fun q hq => .inr ⟨hq.1,by have:=hq.2;simp;omega⟩) (.inr ⟨hsz,by simp⟩) lo ro ln rn
theorem level_more (n:Nat) (IQ:∀ m,m≤n→LevelAt m) (pb:Nat) (lv:Int) (l:List UInt8) (f:Bool) (e:Re) (l1:List UInt8) (f1:Bool) (r:Re × List UInt8 × Bool) (w:World) (hp:pI n (.level (lv - 1)) l f=some (e,l1,f1)) (hlp:pI n (.loop lv e) l1 f1=some r) (hl:l.length≤300) (hlv:1≤lv) (hlv2:lv≤3) (h:PQ w pb l f) :
 Calls Tryz.prog 166 #[.pointer (some ⟨pb,0,none⟩), .int .i64 lv] w (RetPI w pb r):=by
 have hlv0:(lv==0)=false:=by simp;omega
 have HB:=hide (belowAlloc w zObj)
 have BX:=hide (BoxR.new w 0 ⟨#[]⟩ ⟨none,0,0⟩ 52)
 have hz0:(w.alloc zObj).heap.size=w.heap.size+1:=by simp
 have hpw:=h.lt
 have hne:w.heap.size≠pb:=by omega
 have P0:=hide (h.allocNew zObj)
 have O0:=hide (Outside.of_below (lo:=pb) (hi:=pb+1) HB.out)
 have HQ:=hide (fun w' h'=>IQ n (Nat.le_refl _) pb (lv - 1) l f (e,l1,f1) w' hp hl (by omega) (by omega) h')
 have hl1:l1.length≤300:=by have h1:l1.length≤l.length:=pI_len _ _ _ _ _ hp;omega
 have HIQ:=hide (fun (m:Nat) (hm:m≤n) (l:List UInt8) (f:Bool) (b:Re) (l1:List UInt8) (f1:Bool) (h:pI m (.level (lv - 1)) l f=some (b,l1,f1)) (hl:l.length≤300) (w':World) (h':PQ w' pb l f)=>IQ m hm pb (lv - 1) l f (b,l1,f1) w' h hl (by omega) (by omega) h')
 have HL:=hide hlp
 obtain ⟨eo,en,ek⟩:=e
 clear hp hlp h IQ
 go_enter Tryz.func166,Tryz.ntmps166
 go_wp2_with fail
 (with_reducible refine (HQ.out _ P0.out).mono ?_);rintro e w1 ⟨eo',en',ek',sl,he,rfl,own,hp1,ho1⟩
 simp only [Re.mk.injEq] at he
 obtain ⟨rfl,rfl,rfl⟩:=he
 have hz1:=ho1.size
 rw [hz0] at hz1
 have O1:=hide (O0.out.trans ho1)
 have X1:=hide (BX.out.outP ho1 hne)
 have HBL:=hide (belowAlloc w1 (.cells #[.int .i64 eo, .string en, .slice sl.a sl.n sl.cap] 52))
 have BL:=hide (BoxR.new w1 eo en sl 52)
 have HP1:=hide (hp1.allocNew (.cells #[.int .i64 eo, .string en, .slice sl.a sl.n sl.cap] 52))
 have hz2:(w1.alloc (.cells #[.int .i64 eo, .string en, .slice sl.a sl.n sl.cap] 52)).heap.size=w1.heap.size+1:=by simp
 have OWN:=hide ((own.bel HBL.out).wide (S':=fun q=>w.heap.size+1≤q∧q≠w1.heap.size∧q < w1.heap.size+1) (fun q hq=>⟨by have:=hq.1;rw [hz0] at this;exact this,by have:=hq.2;omega,by have:=hq.2;omega⟩))
 rw [← hz2] at OWN
 have X2:=hide (X1.out.below HBL.out)
 have O2:=hide (O1.out.trans (Outside.of_below (lo:=pb) (hi:=pb+1) HBL.out))
 have hbn:w1.heap.size≠pb:=by omega
 clear own hp1 ho1 HQ BX X1 P0
 generalize hW:w1.alloc (.cells #[.int .i64 eo, .string en, .slice sl.a sl.n sl.cap] 52)=w2 at *
 go_wp2_with fail
 clear hW
 go_loopw [6] (fun _ wr => ∃ (g:Nat) (lo:Int) (ln:ByteArray) (lk:List Re) (sl:Slc) (l2:List UInt8) (f2:Bool),g≤n∧Hid (pI g (.loop lv (.mk lo ln lk)) l2 f2=some r)∧l2.length≤300∧Hid (BoxR wr w1.heap.size lo ln sl)∧Hid (OwnR 52 wr (fun q=>w.heap.size+1≤q∧q≠w1.heap.size∧q < wr.heap.size) sl lk)∧Hid (BoxR wr w.heap.size 0 ⟨#[]⟩ ⟨none,0,0⟩)∧Hid (PQ wr pb l2 f2)∧Hid (Outside pb (pb+1) w wr)) (fun _ wr=>msP pb wr)
 case atStart=>exact ⟨n,eo,en,ek,sl,l1,f1,Nat.le_refl _,HL,hl1,BL,OWN,X2,HP1,O2⟩
 case round =>
  obtain ⟨wo,hwo⟩:∃ wo,wo=wr:=⟨_,rfl⟩
  subst hwo
  obtain ⟨g,lo,ln,lk,sl,l2,f2,hgn,HLP,hl2,BL,OWN,BXR,HPR,OUT⟩:=hrel
  have HMS:=hide HPR.out.ms
  have hwr:w.heap.size < wo.heap.size:=BXR.out.lt
  have hwr1:w1.heap.size < wo.heap.size:=BL.out.lt
  have hwpb:pb < wo.heap.size:=HPR.out.lt
  have OL:=hide (Outside.of_below (lo:=pb) (hi:=pb+1) (belowAlloc wo (.cells #[.int .i64 2, .int .i64 3, .int .i64 4, .int .i64 5] 3)))
  have HPL:=hide (HPR.out.allocNew (.cells #[.int .i64 2, .int .i64 3, .int .i64 4, .int .i64 5] 3))
  have LIT:Hid (∀ k:Nat,k < 4→(wo.alloc (.cells #[.int .i64 2, .int .i64 3, .int .i64 4, .int .i64 5] 3)).cell? ⟨wo.heap.size,k,none⟩=some (.int .i64 ((k:Int)+2))):=hide (by
   intro k hk
   have:k=0∨k=1∨k=2∨k=3:=by omega
   rcases this with rfl | rfl | rfl | rfl <;> simp [go_sem])
  have hzL:(wo.alloc (.cells #[.int .i64 2, .int .i64 3, .int .i64 4, .int .i64 5] 3)).heap.size=wo.heap.size+1:=by simp
  have HEND:=hide (fun h=>pI_loop_end HLP.out h)
  have HMORE:=hide (fun h=>pI_loop_more HLP.out h)
  have HLT:=hide (fun h=>opI_cons (lv:=lv) (l:=l2) (f:=f2) h)
  have K0:Hid (opK lv l2 f2 0=0):=hide rfl
  have KS:Hid (∀ k,opK lv l2 f2 (k+1)=if opK lv l2 f2 k=0 then (if hitI lv ((k:Int)+2) l2 f2=true then (k:Int)+2 else 0) else opK lv l2 f2 k):=hide fun _=>rfl
  have K4:=hide (opK_four lv l2 f2)
  rw [← K4.out] at HEND HMORE HLT
  clear HLP K4
  generalize opK lv l2 f2=OK at *
  generalize hWL:wo.alloc (.cells #[.int .i64 2, .int .i64 3, .int .i64 4, .int .i64 5] 3)=wL at *
  go_wp2_with fail
  clear hWL
  go_loopw [6,22] (fun q i wi => ∃ k:Nat,k≤4∧i = .int .i64 k∧q = .int .i64 (OK k)∧Hid (PQ wi pb (restK (OK k) l2) f2)∧Hid (Outside pb (pb+1) wL wi)) (fun _ i _=>4 - (intOf i).toNat)
  case atStart=>exact ⟨0,by omega,rfl,by rw [K0.out],by rw [K0.out];exact HPL,hide (Outside.refl _ _ _)⟩
  case round =>
   obtain ⟨k,hk4,rfl,rfl,HPI,HOI⟩:=hrel
   by_cases hkl:k < 4
   ·have hkl':(k:Int) < 4:=by omega
    obtain ⟨o,ho⟩:∃ o:Int,o=(k:Int)+2:=⟨_,rfl⟩
    have c0:=((ocell HOI.out).1 wo.heap.size k (by omega) (by omega)).trans (LIT.out k hkl)
    rw [← ho] at c0
    have cl:=lt_of_cell c0
    have ho2:2≤o:=by omega
    have ho5:o≤5:=by omega
    have HRL:=hide (fun w'=>relLevel_op o ho2 ho5 w')
    obtain ⟨hs0,hsv⟩:∃ h:0 < (sgnR o).size,((sgB o).toNat:Int)=((((sgnR o)[0]'h).toNat:Nat):Int):=by
     have:o=2∨o=3∨o=4∨o=5:=by omega
     rcases this with rfl | rfl | rfl | rfl <;> exact ⟨by decide,by decide⟩
    have hsb:=(sgB o).toNat_lt
    have HIT:Hid (hitI lv o l2 f2=((lvlR o==lv)&&tkI (sgB o) l2 f2)):=hide rfl
    have KS1:=hide (KS.out k)
    rw [← ho] at KS1
    have HTK:=hide (fun w' h'=>take_any pb l2 f2 (sgB o) _ hsv w' h')
    have HSV:=hide hsv
    clear hsv ho
    generalize hitI lv o l2 f2=hb at *
    generalize sgnR o=sg at *
    generalize lvlR o=lo' at *
    generalize tkI (sgB o) l2 f2=tk at *
    by_cases hq:OK k=0
    ·rw [hq] at HPI
     rw [if_pos hq] at KS1
     have hq':(OK k==0)=true:=by simp [hq]
     have HPI':Hid (PQ wr pb l2 f2):=hide (by have:=HPI.out;simpa [restK] using this)
     by_cases hL:lo'=lv
     ·have hL':(lo'==lv)=true:=by simp [hL]
      cases tk
      ·have KS2:Hid (OK (k+1)=0):=hide (by rw [KS1.out,HIT.out];simp)
       clear hL
       go_wp2_with fail
       (with_reducible refine (HRL.out _).mono ?_);rintro e w3 ⟨rfl,rfl⟩
       go_wp2_with fail
       (with_reducible refine (HTK.out _ HPI'.out).mono ?_);rintro e w4 ⟨rfl,hp4,ho4⟩
       have HP4:Hid (PQ w4 pb l2 f2):=hide (by simpa using hp4)
       have HO4:=hide (HOI.out.trans ho4)
       clear hp4 ho4
       go_wp2_with fail
       go_roundw
       case rel=>exact ⟨k+1,by omega,by go_num,by rw [KS2.out],by rw [KS2.out];exact HP4,HO4⟩
       case measure=>simp [intOf];omega
      ·have KS2:Hid (OK (k+1)=o):=hide (by rw [KS1.out,HIT.out];simp [hL])
       clear hL
       go_wp2_with fail
       (with_reducible refine (HRL.out _).mono ?_);rintro e w3 ⟨rfl,rfl⟩
       go_wp2_with fail
       (with_reducible refine (HTK.out _ HPI'.out).mono ?_);rintro e w4 ⟨rfl,hp4,ho4⟩
       have HP4:Hid (PQ w4 pb (restK o l2) f2):=hide (by unfold restK;rw [if_neg (by omega)];simpa using hp4)
       have HO4:=hide (HOI.out.trans ho4)
       clear hp4 ho4
       go_wp2_with fail
       go_roundw
       case rel=>exact ⟨k+1,by omega,by go_num,by rw [KS2.out],by rw [KS2.out];exact HP4,HO4⟩
       case measure=>simp [intOf];omega
     ·have hL':(lo'==lv)=false:=by simp [hL]
      have KS2:Hid (OK (k+1)=0):=hide (by rw [KS1.out,HIT.out,hL'];simp)
      clear hL
      go_wp2_with fail
      (with_reducible refine (HRL.out _).mono ?_);rintro e w3 ⟨rfl,rfl⟩
      go_wp2_with fail
      go_roundw
      case rel=>exact ⟨k+1,by omega,by go_num,by rw [KS2.out],by rw [KS2.out];unfold restK;rw [if_pos rfl];exact HPI',HOI⟩
      case measure=>simp [intOf];omega
    ·have hq':(OK k==0)=false:=by simp [hq]
     rw [if_neg hq] at KS1
     have KS2:=KS1
     clear hq KS1
     go_wp2_with fail
     (with_reducible refine (HRL.out _).mono ?_);rintro e w3 ⟨rfl,rfl⟩
     go_wp2_with fail
     go_roundw
     case rel=>exact ⟨k+1,by omega,by go_num,by rw [KS2.out],by rw [KS2.out];exact HPI,HOI⟩
     case measure=>simp [intOf];omega
   ·have hk:k=4:=by omega
    have hkf:¬ (k:Int) < 4:=by omega
    rw [← hk] at HEND HMORE HLT
    clear hk hkl hk4
    have OI:=hide (OL.out.trans HOI.out)
    have hzi:=HOI.out.size
    rw [hzL] at hzi
    have BLI:=hide (BL.out.outP OI.out hbn)
    have BXI:=hide (BXR.out.outP OI.out hne)
    have OWI:=hide (OWN.out.outP OI.out (pb:=pb) (fun hq=>by have:=hq.1;omega))
    have OUI:=hide (OUT.out.trans OI.out)
    clear BL BXR OWN OUT HPL LIT KS K0 OL
    by_cases hq:OK k=0
    ·have hq':(OK k==0)=true:=by simp [hq]
     obtain rfl:=HEND.out hq
     have HPI':Hid (PQ wr pb l2 f2):=hide (by have:=HPI.out;rw [hq] at this;simpa [restK] using this)
     obtain ⟨cl,d0,d1,d2,df⟩:=BLI.out
     obtain ⟨bl,r0,r1,r2,rf⟩:=BXI.out
     clear hq
     go_wp2_with fail
     refine bodyPost_ret (v:=.agg #[.int .i64 lo, .string ln, .slice sl.a sl.n sl.cap]) (by simp [results,Tryz.results166,go_sem, *]) rfl ⟨lo,ln,lk,sl,rfl,rfl, ?_, ?_, ?_⟩
     ·exact (((OWI.out.set (g:=w.heap.size) (fun hq=>by have:=hq.1;omega) _ _).set (g:=w.heap.size) (fun hq=>by have:=hq.1;omega) _ _).set (g:=w.heap.size) (fun hq=>by have:=hq.1;omega) _ _).wide fun q hq=>⟨by have:=hq.1;omega,by have:=hq.2.2;simp;omega⟩
     ·exact (((HPI'.out).setNew hne _ _).setNew hne _ _).setNew hne _ _
     ·exact ((OUI.out.setNew (Nat.le_refl _) _ _).setNew (Nat.le_refl _) _ _).setNew (Nat.le_refl _) _ _
    ·have hq':(OK k==0)=false:=by simp [hq]
     obtain ⟨m,bb,l3,f3,rfl,hpar,hloop⟩:=HMORE.out hq
     have hl2t:l2.tail.length < l2.length:=by
      obtain ⟨-,cc,hcc⟩:=HLT.out hq
      have:=congrArg List.length hcc
      simp only [List.length_cons] at this;omega
     have hl3:l3.length≤l2.tail.length:=pI_len _ _ _ _ _ hpar
     have HPI':Hid (PQ wr pb l2.tail f2):=hide (by have:=HPI.out;unfold restK at this;rw [if_neg hq] at this;exact this)
     have HP3:=hide (fun w' h'=>HIQ.out m (by omega) l2.tail f2 bb l3 f3 hpar (by omega) w' h')
     have HLP:=hide hloop
     obtain ⟨ro,rn,rk⟩:=bb
     generalize OK k=q4 at *
     clear hq hpar hloop HEND HMORE HPI HLT
     have hn1:w1.heap.size≠w.heap.size:=by omega
     have hwl:IntKind.i64.wrap (lv - 1)=lv - 1:=by rw [IntKind.wrap_i64];omega
     go_wp2_with fail
     -- reg join
     refine wp_region_inv (n:=8) (by kernel_rfl) rfl (by kernel_rfl) (by kernel_rfl) (fun A ls a' W => ∃ (sr:Slc) (G:Nat) (x50 x51 x52 x53 x54 x55 x56 x57:Value),a'=putAll A [(50,x50),(51,x51),(52,x52),(53,x53),(54,x54),(55,x55),(56,x56),(57,x57)]∧Vd ls 0 [] x50 (.int .i64 q4)∧Vd ls 1 [] x51 (.agg #[.int .i64 lo, .string ln, .slice sl.a sl.n sl.cap])∧Vd ls 2 [] x52 (.pointer (some ⟨pb,0,none⟩))∧Vd ls 3 [] x53 (.int .i64 lv)∧Vd ls 4 [] x54 (.int .i64 (lv - 1))∧Vd ls 5 [] x55 (.agg #[.int .i64 ro, .string rn, .slice sr.a sr.n sr.cap])∧Vd ls 6 [5] x56 (.slice (some ⟨G,0,none⟩) 2 2)∧Vd ls 7 [5,6] x57 (.agg #[.int .i64 q4, .string ⟨#[]⟩, .slice (some ⟨G,0,none⟩) 2 2])∧JV wr pb l2.tail l3 f2 f3 lo ln lk (fun q=>w.heap.size+1≤q∧q≠w1.heap.size∧q < wo.heap.size) ro rn rk (fl ls 5) (fl ls 6) sr G W) ?r0 ?rs ?re
     case r0 =>
      exact ⟨⟨none,0,0⟩,0,u50,u51,u52,u53,u54,u55,u56,u57,by simp only [putAll,Act.put,List.setIfInBounds_toArray,List.set_cons_succ,List.set_cons_zero],Vd.start,Vd.start,Vd.start,Vd.start,Vd.start,Vd.start,Vd.start,Vd.start,by simp only [fl_start];exact JV.start HPI'.out⟩
     case rs =>
      rintro ls a' W hs hnl ⟨sr,G,x50,x51,x52,x53,x54,x55,x56,x57,ha,cv0,cv1,cv2,cv3,cv4,cv5,cv6,cv7,hJ⟩ k o hkn mc K hK
      simp only [putAll,Act.put,List.setIfInBounds_toArray,List.set_cons_succ,List.set_cons_zero] at ha
      subst ha
      have hkc:k=0∨k=1∨k=2∨k=3∨k=4∨k=5∨k=6∨k=7:=by omega
      have hop:=mc.op
      have haf:=mc.after
      rcases hkc with rfl | rfl | rfl | rfl | rfl | rfl | rfl | rfl
      ·simp at hop;subst hop;simp [Region.binds] at haf
       go_simp
       exact hK _ _ ⟨sr,G,_,_,_,_,_,_,_,_,by simp only [putAll,Act.put,List.setIfInBounds_toArray,List.set_cons_succ,List.set_cons_zero],Vd.same (by simp),cv1.set (by decide),cv2.set (by decide),cv3.set (by decide),cv4.set (by decide),cv5.set (by decide),cv6.set (by decide),cv7.set (by decide),by rw [fl_set (show 0≠5 by decide),fl_set (show 0≠6 by decide)];exact hJ⟩
      ·simp at hop;subst hop;simp [Region.binds] at haf
       obtain ⟨xl,x0,x1,x2, -⟩:=BLI.out.outP hJ.out hbn
       go_simp
       exact hK _ _ ⟨sr,G,_,_,_,_,_,_,_,_,by simp only [putAll,Act.put,List.setIfInBounds_toArray,List.set_cons_succ,List.set_cons_zero],cv0.set (by decide),Vd.same (by simp),cv2.set (by decide),cv3.set (by decide),cv4.set (by decide),cv5.set (by decide),cv6.set (by decide),cv7.set (by decide),by rw [fl_set (show 1≠5 by decide),fl_set (show 1≠6 by decide)];exact hJ⟩
      ·simp at hop;subst hop;simp [Region.binds] at haf
       go_simp
       exact hK _ _ ⟨sr,G,_,_,_,_,_,_,_,_,by simp only [putAll,Act.put,List.setIfInBounds_toArray,List.set_cons_succ,List.set_cons_zero],cv0.set (by decide),cv1.set (by decide),Vd.same (by simp),cv3.set (by decide),cv4.set (by decide),cv5.set (by decide),cv6.set (by decide),cv7.set (by decide),by rw [fl_set (show 2≠5 by decide),fl_set (show 2≠6 by decide)];exact hJ⟩
      ·simp at hop;subst hop;simp [Region.binds] at haf
       go_simp
       exact hK _ _ ⟨sr,G,_,_,_,_,_,_,_,_,by simp only [putAll,Act.put,List.setIfInBounds_toArray,List.set_cons_succ,List.set_cons_zero],cv0.set (by decide),cv1.set (by decide),cv2.set (by decide),Vd.same (by simp),cv4.set (by decide),cv5.set (by decide),cv6.set (by decide),cv7.set (by decide),by rw [fl_set (show 3≠5 by decide),fl_set (show 3≠6 by decide)];exact hJ⟩
      ·simp at hop;subst hop;simp [Region.binds] at haf
       obtain rfl:=(cv3.get (by simp [haf])).symm
       go_simp
       exact hK _ _ ⟨sr,G,_,_,_,_,_,_,_,_,by simp only [putAll,Act.put,List.setIfInBounds_toArray,List.set_cons_succ,List.set_cons_zero],cv0.set (by decide),cv1.set (by decide),cv2.set (by decide),cv3.set (by decide),Vd.same (by simp),cv5.set (by decide),cv6.set (by decide),cv7.set (by decide),by rw [fl_set (show 4≠5 by decide),fl_set (show 4≠6 by decide)];exact hJ⟩
      ·simp at hop;subst hop;simp [Region.binds] at haf
       obtain rfl:=(cv2.get (by simp [haf])).symm
       obtain rfl:=(cv4.get (by simp [haf])).symm
       have f5:=fl_no mc.new;rw [f5] at hJ
       go_simp
       go_at_call 166
       (with_reducible refine (HP3.out W (hJ.q0 rfl)).mono ?_);rintro e u ⟨ro',rn',rk',⟨s1,s2,s3⟩,he,rfl,own,hq,hu⟩
       simp only [Re.mk.injEq] at he
       obtain ⟨rfl,rfl,rfl⟩:=he
       exact hK _ _ ⟨⟨s1,s2,s3⟩,G,_,_,_,_,_,_,_,_,by simp only [putAll,Act.put,List.setIfInBounds_toArray,List.set_cons_succ,List.set_cons_zero],cv0.set (by decide),cv1.set (by decide),cv2.set (by decide),cv3.set (by decide),cv4.set (by decide),Vd.same (by simp),cv6.void (by decide) (by decide) mc.new,cv7.void (by decide) (by decide) mc.new,by rw [fl_got hs (by decide),fl_set (show 5≠6 by decide)];exact hJ.call own hq hu⟩
      ·simp at hop;subst hop;simp [Region.binds] at haf
       obtain rfl:=(cv1.get (by simp [haf])).symm
       obtain rfl:=(cv5.get (by simp [haf])).symm
       have f6:=fl_no mc.new;rw [f6] at hJ
       have f5:=fl_yes (show ls[5]? = some true by simp [haf]);rw [f5] at hJ
       go_simp
       exact hK _ _ ⟨sr,W.heap.size,_,_,_,_,_,_,_,_,by simp only [putAll,Act.put,List.setIfInBounds_toArray,List.set_cons_succ,List.set_cons_zero],cv0.set (by decide),cv1.set (by decide),cv2.set (by decide),cv3.set (by decide),cv4.set (by decide),cv5.set (by decide),Vd.same (by simp [haf]),cv7.void (by decide) (by decide) mc.new,by rw [fl_set (show 6≠5 by decide),fl_got hs (by decide),f5];exact hJ.lit OWI.out (fun q hq=>by have:=hq.2.2;omega) (fun hq=>by have:=hq.1;omega)⟩
      ·simp at hop;subst hop;simp [Region.binds] at haf
       have q6:=(cv6 (by simp [haf])).1;simp at q6
       obtain rfl:=(cv0.get (by simp [haf])).symm
       obtain rfl:=(cv6.get (by simp [haf])).symm
       go_simp
       exact hK _ _ ⟨sr,G,_,_,_,_,_,_,_,_,by simp only [putAll,Act.put,List.setIfInBounds_toArray,List.set_cons_succ,List.set_cons_zero],cv0.set (by decide),cv1.set (by decide),cv2.set (by decide),cv3.set (by decide),cv4.set (by decide),cv5.set (by decide),cv6.set (by decide),Vd.same (by simp [haf,q6]),by rw [fl_set (show 7≠5 by decide),fl_set (show 7≠6 by decide)];exact hJ⟩
     case re =>
      rintro ls a' W hall ⟨sr,G,x50,x51,x52,x53,x54,x55,x56,x57,ha,cv0,cv1,cv2,cv3,cv4,cv5,cv6,cv7,hJ⟩ o hop
      simp only [putAll,Act.put,List.setIfInBounds_toArray,List.set_cons_succ,List.set_cons_zero] at ha
      subst ha
      simp at hop;subst hop
      obtain rfl:=(cv0.get (hall 0 (by decide))).symm
      obtain rfl:=(cv1.get (hall 1 (by decide))).symm
      obtain rfl:=(cv2.get (hall 2 (by decide))).symm
      obtain rfl:=(cv3.get (hall 3 (by decide))).symm
      obtain rfl:=(cv4.get (hall 4 (by decide))).symm
      obtain rfl:=(cv5.get (hall 5 (by decide))).symm
      obtain rfl:=(cv6.get (hall 6 (by decide))).symm
      obtain rfl:=(cv7.get (hall 7 (by decide))).symm
      rw [fl_yes (hall 5 (by decide))] at hJ
      rw [fl_yes (hall 6 (by decide))] at hJ
      obtain ⟨xl,x0,x1,x2,xf⟩:=BLI.out.outP hJ.out hbn
      go_simp
      have hJO:=hide hJ
      have hzW:=hJ.out.size
      clear hJ
      go_wp2_with fail
      have BL4:=hide ((BLI.out.outP hJO.out.out hbn).put q4 ⟨#[]⟩ ⟨some ⟨G,0,none⟩,2,2⟩)
      have PQ4:=hide ((((hJO.out.q1 rfl).setNew hbn 0 (.int .i64 q4)).setNew hbn 1 (.string ⟨#[]⟩)).setNew hbn 2 (.slice (some ⟨G,0,none⟩) 2 2))
      have OW4:=hide ((((hJO.out.fin rfl).set (g:=w1.heap.size) (fun hq=>by rcases hq with hq | hq <;> omega) 0 (.int .i64 q4)).set (g:=w1.heap.size) (fun hq=>by rcases hq with hq | hq <;> omega) 1 (.string ⟨#[]⟩)).set (g:=w1.heap.size) (fun hq=>by rcases hq with hq | hq <;> omega) 2 (.slice (some ⟨G,0,none⟩) 2 2))
      have BX4:=hide ((((BXI.out.outP hJO.out.out hne).other (b:=w1.heap.size) (j:=0) (u:=.int .i64 q4) (by omega)).other (b:=w1.heap.size) (j:=1) (u:=.string ⟨#[]⟩) (by omega)).other (b:=w1.heap.size) (j:=2) (u:=.slice (some ⟨G,0,none⟩) 2 2) (by omega))
      have OU4:=hide ((((OUI.out.trans hJO.out.out).setNew (g:=w1.heap.size) (by omega) 0 (.int .i64 q4)).setNew (g:=w1.heap.size) (by omega) 1 (.string ⟨#[]⟩)).setNew (g:=w1.heap.size) (by omega) 2 (.slice (some ⟨G,0,none⟩) 2 2))
      have hz5:(((W.setCell ⟨w1.heap.size,0,none⟩ (.int .i64 q4)).setCell ⟨w1.heap.size,1,none⟩ (.string ⟨#[]⟩)).setCell ⟨w1.heap.size,2,none⟩ (.slice (some ⟨G,0,none⟩) 2 2)).heap.size=W.heap.size:=by simp
      clear hJO
      go_roundw
      case rel=>exact ⟨m,q4,⟨#[]⟩,[.mk lo ln lk, .mk ro rn rk],⟨some ⟨G,0,none⟩,2,2⟩,l3,f3,by omega,HLP,by omega,BL4,hide (OW4.out.wide fun q hq=>by rw [hz5];rcases hq with hq | hq <;> omega),BX4,PQ4,OU4⟩
      case measure=>rw [PQ4.out.ms,HMS.out];omega
     -- end join
end Go.Proofs.YtfbgppkdnfljhaaGreatDoor