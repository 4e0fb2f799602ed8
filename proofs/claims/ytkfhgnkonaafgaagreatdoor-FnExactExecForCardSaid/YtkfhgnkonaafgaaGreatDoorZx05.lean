/-
  The laws' own marks on lists of lists of numbers. No condition but bounds on lengths.
-/
import Derived.Test.YtkfhgnkonaafgaaGreatDoorZx00
import Derived.Deep.RegionHeld3
import Derived.Deep.DeepCutAuto
import Derived.Test.YtkfhgnkonaafgaaGreatDoorZx02
import Derived.Lib.OwnBridge
import Derived.Deep.AppendLies
set_option maxHeartbeats 6400000
set_option maxRecDepth 100000
namespace Go.Proofs.YtkfhgnkonaafgaaGreatDoor
open Go.RowKit
theorem toInstrSS_any (v:Value) (xs:List (List Ins)) (w:World) (hx:RepP w v xs) (hl:xs.length≤1048576) (hl2:∀ r∈xs,r.length≤1048576) :
 Calls Tryz.prog 9 #[v] w (RetOwn2 InsE 71 103 w xs):=by
 obtain ⟨a,c,rfl,hc1,hc2,hc3,hx⟩:=hx.open
 have HX:=hide hx;clear hx
 have HL2:=hide hl2;clear hl2
 generalize hn:xs.length=n at *
 have H:=hide hn;clear hn
 go_enter Tryz.func9,Tryz.ntmps9
 go_wp2_with (at_make;refine wpList_make SlcE 71 ⟨none,0,0⟩ Tryz.infoInsS rfl Tryz.underlying32 n (by decide) (by omega) rfl _ _ rfl rfl rfl ?_;intro w1 hown hgr)
 have hb1:=below_of_grown hgr
 go_loopw [4] (fun i wr => ∃ k:Nat,k≤n∧i = .int .i64 k∧OwnP wr w.heap.size (.slice (some ⟨w.heap.size,0,none⟩) n n) (xs.take k++List.replicate (n - k) [])∧Below w.heap.size w wr) (fun i _=>n - (intOf i).toNat)
 case atStart=>exact ⟨0,Nat.zero_le _,rfl,by simpa using Own2.made hown,hb1⟩
 case round =>
  obtain ⟨k,hk,rfl,ho,hb⟩:=hrel
  by_cases hlt:k < n
  ·obtain ⟨x,hxk⟩:=get_of_lt (xs:=xs) (k:=k) (by rw [H.out];exact hlt)
   obtain ⟨b,o,ra,rc,rfl,hbl,i0,i1⟩:=(HX.out.below hb).row hxk
   have hlt':=nat_of_lt hlt
   have hxl:x.length≤1048576:=HL2.out x (List.mem_of_getElem? hxk)
   have X:=hide hxk;clear hxk
   have I1:=hide i1;clear i1
   go_wp2_with (go_at_call 39;refine (toInstrS_any _ x _ I1.out hxl).mono ?_;rintro e w2 ⟨u,rfl,hu,hb2⟩;obtain ⟨s,rfl, -⟩:=hu.toSlc;obtain ⟨hgl,⟨_,f0⟩,hfr⟩:=(ho.below hb2).cellAt (k:=k) (by rw [← H.out,length_pad _ _ (by rw [H.out];omega),H.out];exact hlt))
   have ho2:=ho.put hb2 hb.size (k:=k) (by rw [← H.out,length_pad _ _ (by rw [H.out];omega),H.out];exact hlt) hu
   rw [← H.out,set_pad xs _ X.out,H.out] at ho2
   go_roundw
   case rel=>exact ⟨k+1,by omega,by go_num,ho2,(hb.trans (hb2.mono hb.size)).setCell (Nat.le_refl _) _⟩
   case measure=>simp [intOf];omega
  ·go_wp2_with fail
   go_ret
   rw [← H.out,pad_all xs _ (by rw [H.out];omega),H.out] at ho
   exact ⟨_,rfl,ho,hb⟩
def markI (m:Int):Ins:=⟨m,m+1,m+1+1,m+1+1+1⟩
def marksI:Nat→Int→List Ins
 | 0,_=>[]
 | n+1,m=>markI m :: marksI n (m+4)
theorem marksI_length (n:Nat) (m:Int):(marksI n m).length=n:=by
 induction n generalizing m with
 | zero=>rfl
 | succ n ih=>simp [marksI,ih]
theorem marksI_get (n:Nat) (m:Int) {k:Nat} (h:k < n):(marksI n m)[k]? = some (markI (m+4 * k)):=by
 induction n generalizing m k with
 | zero=>omega
 | succ n ih =>
  cases k with
  | zero=>simp [marksI]
  | succ k=>simp only [marksI,List.getElem?_cons_succ];rw [ih _ (by omega)];congr 2;omega
theorem marks_step (xs:List Ins) (m:Int) {k:Nat} (hk:k < xs.length):((marksI k m)++xs.drop k).set k (markI (m+4 * k))=marksI (k+1) m++xs.drop (k+1):=by
 have h1:marksI (k+1) m=marksI k m++[markI (m+4 * k)]:=by
  apply List.ext_getElem?
  intro i
  by_cases hi:i < k
  ·rw [marksI_get _ _ (by omega),List.getElem?_append_left (by rw [marksI_length];exact hi),marksI_get _ _ hi]
  ·by_cases hi2:i=k
   ·subst hi2
    rw [marksI_get _ _ (by omega),List.getElem?_append_right (by rw [marksI_length];omega),marksI_length];simp
   ·rw [List.getElem?_eq_none (by rw [marksI_length];omega),List.getElem?_eq_none (by simp [marksI_length];omega)]
 rw [List.set_append_right _ _ (by rw [marksI_length];omega),marksI_length,Nat.sub_self,List.drop_eq_getElem_cons hk,List.set_cons_zero,h1]
 simp
theorem markInstrS_any (v:Value) (xs:List Ins) (m:Int) (w:World) (base:Nat) (hx:OwnI w base v xs) (hl:xs.length≤1099511627776) (hm0:0≤m) (hm1:m≤1099511627776) :
 Calls Tryz.prog 47 #[v, .int .i64 m] w fun e w'=>e = .returned (.int .i64 (m+4 * xs.length))∧OwnI w' base v (marksI xs.length m)∧w.grownBy w' v.ownBlock:=by
 rcases hx.shape with ⟨rfl,rfl⟩ | ⟨g,c,rfl,hg1,hg2,hc1,hc2⟩
 ·go_enter Tryz.func47,Tryz.ntmps47
  go_wp2_with fail
  go_loopw [1,5] (fun q i wr=>i = .int .i64 0∧q = .int .i64 m∧wr=w) (fun _ i _=>(intOf i).toNat)
  case atStart=>exact ⟨rfl,rfl,rfl⟩
  case round =>
   obtain ⟨rfl,rfl,rfl⟩:=hrel
   go_wp2_with fail
   go_ret
   exact ⟨by simp,hx,World.grownBy.refl _ _⟩
 ·generalize hn:xs.length=n at *
  have H:=hide hn;clear hn
  go_enter Tryz.func47,Tryz.ntmps47
  go_wp2_with fail
  go_loopw [1,5] (fun q i wr => ∃ k:Nat,k≤n∧i = .int .i64 k∧q = .int .i64 (m+4 * k)∧OwnI wr base (.slice (some ⟨g,0,none⟩) n c) (marksI k m++xs.drop k)∧w.grownBy wr (some g)) (fun _ i _=>n - (intOf i).toNat)
  case atStart=>exact ⟨0,Nat.zero_le _,rfl,by simp,by simpa [marksI] using hx,World.grownBy.refl _ _⟩
  case round =>
   obtain ⟨k,hk,rfl,rfl,ho,hb⟩:=hrel
   by_cases hlt:k < n
   ·obtain ⟨x,hxk⟩:=get_of_lt (xs:=xs) (k:=k) (by rw [H.out];exact hlt)
    have hlt':=nat_of_lt hlt
    have hget:(marksI k m++xs.drop k)[k]? = some x:=by rw [List.getElem?_append_right (by rw [marksI_length];omega),marksI_length,Nat.sub_self,List.getElem?_drop];simpa using hxk
    obtain ⟨hgl,f0,f1,f2,f3,hfr⟩:=ho.ins hget
    have ho2:=ho.setIns hget (markI (m+4 * k))
    rw [marks_step xs m (by rw [H.out];exact hlt)] at ho2
    have X:=hide hxk;clear hxk
    have G:=hide hget;clear hget
    go_wp2_with fail
    go_roundw
    case rel=>exact ⟨k+1,by omega,by go_num,by go_num,ho2,grown_set (grown_set (grown_set (grown_set hb _ _) _ _) _ _) _ _⟩
    case measure=>simp [intOf];omega
   ·have e:k=n:=by omega
    subst e
    go_wp2_with fail
    go_ret
    rw [List.drop_of_length_le (by rw [H.out];omega),List.append_nil] at ho
    exact ⟨rfl,ho,hb⟩
def marksP:List Nat→Int→List (List Ins)
 | [],_=>[]
 | n :: ns,m=>marksI n m :: marksP ns (m+4 * n)
def sumN:List Nat→Nat
 | []=>0
 | n :: ns=>n+sumN ns
theorem sumN_take_succ (ns:List Nat) {k n:Nat} (h:ns[k]? = some n):sumN (ns.take (k+1))=sumN (ns.take k)+n:=by
 induction ns generalizing k with
 | nil=>simp at h
 | cons x ns ih =>
  cases k with
  | zero=>simp at h;simp [sumN,h]
  | succ k=>simp only [List.take_succ_cons,sumN];rw [ih (by simpa using h)];omega
theorem sumN_take_le (ns:List Nat) (k:Nat):sumN (ns.take k)≤sumN ns:=by
 induction ns generalizing k with
 | nil=>simp [sumN]
 | cons x ns ih=>cases k with
  | zero=>simp [sumN]
  | succ k=>simp only [List.take_succ_cons,sumN];have:=ih k;omega
theorem le_sumN {ns:List Nat} {k n:Nat} (h:ns[k]? = some n):sumN (ns.take k)+n≤sumN ns:=by
 rw [← sumN_take_succ ns h];exact sumN_take_le ns _
theorem marksP_length (ns:List Nat) (m:Int):(marksP ns m).length=ns.length:=by
 induction ns generalizing m with
 | nil=>rfl
 | cons n ns ih=>simp [marksP,ih]
theorem marksP_get (ns:List Nat) (m:Int) {k n:Nat} (h:ns[k]? = some n):(marksP ns m)[k]? = some (marksI n (m+4 * sumN (ns.take k))):=by
 induction ns generalizing m k with
 | nil=>simp at h
 | cons x ns ih =>
  cases k with
  | zero=>simp at h;simp [marksP,sumN,h]
  | succ k=>simp only [marksP,List.getElem?_cons_succ];rw [ih _ (by simpa using h)];simp only [List.take_succ_cons,sumN];congr 2;omega
theorem marksP_step (p:List (List Ins)) (m:Int) {k:Nat} {r:List Ins} (hr:p[k]? = some r) :
 (marksP ((p.map List.length).take k) m++p.drop k).set k (marksI r.length (m+4 * sumN ((p.map List.length).take k)))=marksP ((p.map List.length).take (k+1)) m++p.drop (k+1):=by
 have hk:=(List.getElem?_eq_some_iff.1 hr).1
 have hl:(marksP ((p.map List.length).take k) m).length=k:=by rw [marksP_length];simp;omega
 rw [List.set_append_right _ _ (by omega),hl,Nat.sub_self,List.drop_eq_getElem_cons hk,List.set_cons_zero]
 have hn:(p.map List.length)[k]? = some r.length:=by simp [hr]
 have e:marksP ((p.map List.length).take (k+1)) m=marksP ((p.map List.length).take k) m++[marksI r.length (m+4 * sumN ((p.map List.length).take k))]:=by
  apply List.ext_getElem?
  intro i
  by_cases hi:i < k
  ·obtain ⟨q,hq⟩:=get_of_lt (xs:=p.map List.length) (k:=i) (by simp;omega)
   rw [List.getElem?_append_left (by omega),marksP_get _ m (k:=i) (n:=q) (by rw [List.getElem?_take,if_pos (by omega)];exact hq),marksP_get _ m (k:=i) (n:=q) (by rw [List.getElem?_take,if_pos (by omega)];exact hq),List.take_take,List.take_take,Nat.min_eq_left (by omega),Nat.min_eq_left (by omega)]
  ·by_cases hi2:i=k
   ·subst hi2
    rw [List.getElem?_append_right (by omega),hl,marksP_get _ m (k:=i) (n:=r.length) (by rw [List.getElem?_take,if_pos (by omega)];exact hn),List.take_take,Nat.min_eq_left (by omega)];simp
   ·rw [List.getElem?_eq_none (by rw [marksP_length];simp;omega),List.getElem?_eq_none (by simp [hl];omega)]
 rw [e];simp
theorem markInstrSS_any (v:Value) (p:List (List Ins)) (m:Int) (w0 w:World) (base:Nat) (hx:OwnP w0 base v p) (hw:Below w0.heap.size w0 w) (hl:sumN (p.map List.length)≤268435456) (hpl:p.length≤1048576) (hm0:0≤m) (hm1:m≤1048576) :
 Calls Tryz.prog 17 #[v, .int .i64 m] w fun e w'=>e = .returned (.int .i64 (m+4 * sumN (p.map List.length)))∧OwnP w' base v (marksP (p.map List.length) m)∧Outside base w0.heap.size w w':=by
 obtain ⟨us,hU,hlt⟩:=hx.told
 have HLT:=hide hlt;clear hlt
 have hU:=hU.below hw
 generalize hsz:w0.heap.size=hi at *
 clear hx hsz hw
 rcases hU.2.1.shape with ⟨rfl,h0⟩ | ⟨g,c,rfl,hg1,hg2,hc1,hc2⟩
 ·subst h0
  obtain rfl:p=[]:=List.eq_nil_of_length_eq_zero hU.1.symm
  go_enter Tryz.func17,Tryz.ntmps17
  go_wp2_with fail
  go_loopw [1,5] (fun q i wr=>i = .int .i64 0∧q = .int .i64 m∧wr=w) (fun _ i _=>(intOf i).toNat)
  case atStart=>exact ⟨rfl,rfl,rfl⟩
  case round =>
   obtain ⟨rfl,rfl,rfl⟩:=hrel
   go_wp2_with fail
   go_ret
   exact ⟨by simp [sumN],hU.own,Outside.refl _ _ _⟩
 ·have hul:=hU.1
  generalize hn:us.length=n at *
  have H:=hide hul;clear hul
  have hnb:n≤1048576:=by have:=H.out;omega
  clear hn
  go_enter Tryz.func17,Tryz.ntmps17
  go_wp2_with fail
  go_loopw [1,5] (fun q i wr => ∃ k:Nat,k≤n∧i = .int .i64 k∧q = .int .i64 (m+4 * sumN ((p.map List.length).take k))∧Own2U InsE 71 103 us wr base (.slice (some ⟨g,0,none⟩) n c) (marksP ((p.map List.length).take k) m++p.drop k)∧Outside base hi w wr) (fun _ i _=>n - (intOf i).toNat)
  case atStart=>exact ⟨0,Nat.zero_le _,rfl,by simp [sumN],by simpa [marksP] using hU,Outside.refl _ _ _⟩
  case round =>
   obtain ⟨k,hk,rfl,rfl,ho,hb⟩:=hrel
   by_cases hlt:k < n
   ·obtain ⟨x,hxk⟩:=get_of_lt (xs:=p) (k:=k) (by rw [← H.out];exact hlt)
    have hlt':=nat_of_lt hlt
    have hget:(marksP ((p.map List.length).take k) m++p.drop k)[k]? = some x:=by
     have hl:(marksP ((p.map List.length).take k) m).length=k:=by rw [marksP_length];simp;have:=H.out;omega
     rw [List.getElem?_append_right (by omega),hl,Nat.sub_self,List.getElem?_drop];simpa using hxk
    obtain ⟨s,hs,hgl,f0,hrow,hback⟩:=ho.row hget
    have hsum:=le_sumN (ns:=p.map List.length) (k:=k) (n:=x.length) (by simp [hxk])
    have hst:=marksP_step p m hxk
    have hsum2:=sumN_take_succ (p.map List.length) (k:=k) (n:=x.length) (by simp [hxk])
    generalize hS:sumN ((p.map List.length).take k)=S at *
    have ST:=hide hst;have S2:=hide hsum2;have SS:=hide hS;have G:=hide hget;have SK:=hide hs;have X:=hide hxk;have BK:=hide hback;have RW:=hide hrow
    clear hst hsum2 hS hget hs hxk hback hrow
    go_wp2_with (go_at_call 47;refine (markInstrS_any s.v x _ _ base RW.out (by omega) (by omega) (by omega)).mono ?_;rintro e w2 ⟨rfl,hu,hgr⟩)
    have ho2:=BK.out _ _ hu hgr
    rw [ST.out] at ho2
    go_roundw
    case rel=>exact ⟨k+1,by omega,by go_num,by rw [S2.out];go_num,ho2,hb.grown hgr (fun q hq=>HLT.out k s SK.out q hq)⟩
    case measure=>simp [intOf];omega
   ·have e:k=n:=by omega
    subst e
    go_wp2_with fail
    go_ret
    rw [List.drop_of_length_le (by rw [← H.out];omega),List.append_nil,List.take_of_length_le (by simp [← H.out])] at ho
    rw [List.take_of_length_le (by simp [← H.out])]
    exact ⟨rfl,ho.own,hb⟩
end Go.Proofs.YtkfhgnkonaafgaaGreatDoor
namespace Go.Proofs.YtkfhgnkonaafgaaGreatDoor
open Go.RowKit
theorem Tryz.infoInt:(Tryz.prog.info? 3).map (fun i=>(i.zero,i.size,i.bytes))=some (some (.int .i64 0),1,8):=by kernel_rfl
abbrev OwnN (w:World) (base:Nat) (v:Value) (xs:List Int):Prop:=Own IntE 3 w base v xs
theorem Own.int {T:TypeId} {w:World} {base g n cap:Nat} {xs:List Int} (h:Own IntE T w base (.slice (some ⟨g,0,none⟩) n cap) xs) {k:Nat} {x:Int} (hx:xs[k]? = some x) :
 g < w.heap.size∧w.cell? ⟨g,k,none⟩=some (.int .i64 x)∧∀ j,w.frozen? ⟨g,j,none⟩=false:=by
 have:=h.cell hx (j:=0) rfl
 simp only [IntE,Nat.mul_one,Nat.add_zero] at this
 exact ⟨(World.ownsRow.lt h g rfl).2,this,fun j=>h.frozen j⟩
theorem Own.setInt {T:TypeId} {w:World} {base g n cap:Nat} {xs:List Int} (h:Own IntE T w base (.slice (some ⟨g,0,none⟩) n cap) xs) {k:Nat} {z:Int} (hz:xs[k]? = some z) (x:Int) :
 Own IntE T (w.setCell ⟨g,k,none⟩ (.int .i64 x)) base (.slice (some ⟨g,0,none⟩) n cap) (xs.set k x):=by
 have h0:=h.set (i:=k) (j:=0) x (u:=.int .i64 x) (by decide) hz rfl
 simp only [IntE,Nat.mul_one,Nat.add_zero] at h0
 exact h0
theorem eqIntS_any (v v':Value) (xs ys:List Int) (w:World) (hx:Rep IntE w v xs) (hy:Rep IntE w v' ys) :
 Calls Tryz.prog 16 #[v,v'] w fun e w'=>e = .returned (.bool (decide (xs=ys)))∧Below w.heap.size w w':=by
 obtain ⟨a,c,rfl,hc1,hc2,hc3,hx⟩:=hx.open
 obtain ⟨a',c',rfl,hc1',hc2',hc3',hy⟩:=hy.open
 have HX:=hide hx;clear hx
 have HY:=hide hy;clear hy
 generalize hn:xs.length=n at *
 generalize hn':ys.length=n' at *
 have H:=hide hn;clear hn
 have H':=hide hn';clear hn'
 by_cases hc:n=n'
 ·subst hc
  have hc':((n:Int) != n)=false:=by simp
  go_enter Tryz.func16,Tryz.ntmps16
  go_wp2_with fail
  go_loopw [5] (fun v wr => ∃ k:Nat,k≤n∧v = .int .i64 k∧Hid (xs.take k=ys.take k)∧Below w.heap.size w wr) (fun v _=>n - (intOf v).toNat)
  case atStart=>exact ⟨0,Nat.zero_le _,rfl,hide (by simp),Below.refl _ _⟩
  case round =>
   obtain ⟨k,hk,rfl,T,hb⟩:=hrel
   by_cases hlt:k < n
   ·obtain ⟨x,hxk⟩:=get_of_lt (xs:=xs) (k:=k) (by rw [H.out];exact hlt)
    obtain ⟨y,hyk⟩:=get_of_lt (xs:=ys) (k:=k) (by rw [H'.out];exact hlt)
    obtain ⟨b,o,rfl,hbl,i0⟩:=(HX.out.below hb).int hxk
    obtain ⟨b',o',rfl,hbl',j0⟩:=(HY.out.below hb).int hyk
    have hlt':=nat_of_lt hlt
    have X:=hide hxk;clear hxk
    have Y:=hide hyk;clear hyk
    by_cases hxy:x=y
    ·have T':=hide (take_eq_succ T.out X.out Y.out hxy)
     have hd:(x != y)=false:=by simp [hxy]
     clear hxy
     go_wp2_with fail
     refine wp_region_bw (by kernel_rfl) (by kernel_rfl) ?_
     repeat (go_big_quiet_step (fail))
     refine wpQuiet_nil ?_
     intro w1 hb1
     have hb2:=hb.trans (hb1.mono hb.size)
     go_wp2_with fail
     go_roundw
     case rel=>exact ⟨k+1,by omega,by go_num,T',hb2⟩
     case measure=>simp [intOf];omega
    ·have hq:=ne_of_get X.out Y.out hxy
     have hd:(x != y)=true:=by simp [hxy]
     clear hxy
     go_wp2_with fail
     refine wp_region_bw (by kernel_rfl) (by kernel_rfl) ?_
     repeat (go_big_quiet_step (fail))
     refine wpQuiet_nil ?_
     intro w1 hb1
     have hb2:=hb.trans (hb1.mono hb.size)
     go_wp2_with fail
     go_ret
     exact ⟨by simp [hq],hb2⟩
   ·have e2:xs=ys:=take_all_eq T.out (by rw [H.out];omega) (by rw [H'.out];omega)
    subst e2
    go_wp2_with fail
    go_ret
    exact ⟨by simp,hb⟩
 ·have hc':((n:Int) != n')=true:=by simp;omega
  have hq:xs≠ys:=fun h=>hc (by rw [← H.out,← H'.out,h])
  go_enter Tryz.func16,Tryz.ntmps16
  go_wp2_with fail
  go_ret
  exact ⟨by simp [hq],Below.refl _ _⟩
theorem toIntS_any (v:Value) (xs:List Int) (w:World) (hx:Rep IntE w v xs) (hl:xs.length≤1048576) :
 Calls Tryz.prog 11 #[v] w (RetOwn IntE 3 w xs):=by
 obtain ⟨a,c,rfl,hc1,hc2,hc3,hx⟩:=hx.open
 have HX:=hide hx;clear hx
 generalize hn:xs.length=n at *
 have H:=hide hn;clear hn
 go_enter Tryz.func11,Tryz.ntmps11
 go_wp2_with (at_make;refine wpList_make IntE 3 0 Tryz.infoInt rfl Tryz.underlying24 n (by decide) (by omega) rfl _ _ rfl rfl rfl ?_;intro w1 hown hgr)
 have hb1:=below_of_grown hgr
 go_loopw [4] (fun i wr => ∃ k:Nat,k≤n∧i = .int .i64 k∧OwnN wr w.heap.size (.slice (some ⟨w.heap.size,0,none⟩) n n) (xs.take k++List.replicate (n - k) 0)∧Below w.heap.size w wr) (fun i _=>n - (intOf i).toNat)
 case atStart=>exact ⟨0,Nat.zero_le _,rfl,by simpa using hown,hb1⟩
 case round =>
  obtain ⟨k,hk,rfl,ho,hb⟩:=hrel
  by_cases hlt:k < n
  ·obtain ⟨x,hxk⟩:=get_of_lt (xs:=xs) (k:=k) (by rw [H.out];exact hlt)
   obtain ⟨b,o,rfl,hbl,i0⟩:=(HX.out.below hb).int hxk
   have hlt':=nat_of_lt hlt
   have X:=hide hxk;clear hxk
   have hg:(xs.take k++List.replicate (n - k) 0)[k]? = some 0:=by rw [← H.out];exact get_pad xs _ (by rw [H.out];exact hlt)
   obtain ⟨hgl,f0,hfr⟩:=ho.int hg
   have ho2:=ho.setInt hg x
   rw [← H.out,set_pad xs _ X.out,H.out] at ho2
   have HO2:=hide ho2;clear ho2 hg
   go_wp2_with fail
   go_roundw
   case rel=>exact ⟨k+1,by omega,by go_num,HO2.out,hb.setCell (Nat.le_refl _) _⟩
   case measure=>simp [intOf];omega
  ·go_wp2_with fail
   go_ret
   rw [← H.out,pad_all xs _ (by rw [H.out];omega),H.out] at ho
   exact ⟨_,rfl,ho,hb⟩
def markN (m:Int):Int:=m
def marksN:Nat→Int→List Int
 | 0,_=>[]
 | n+1,m=>markN m :: marksN n (m+1)
theorem marksN_length (n:Nat) (m:Int):(marksN n m).length=n:=by
 induction n generalizing m with
 | zero=>rfl
 | succ n ih=>simp [marksN,ih]
theorem marksN_get (n:Nat) (m:Int) {k:Nat} (h:k < n):(marksN n m)[k]? = some (markN (m+k)):=by
 induction n generalizing m k with
 | zero=>omega
 | succ n ih =>
  cases k with
  | zero=>simp [marksN]
  | succ k=>simp only [marksN,List.getElem?_cons_succ];rw [ih _ (by omega)];congr 2;omega
theorem marksN_step (xs:List Int) (m:Int) {k:Nat} (hk:k < xs.length):((marksN k m)++xs.drop k).set k (markN (m+k))=marksN (k+1) m++xs.drop (k+1):=by
 have h1:marksN (k+1) m=marksN k m++[markN (m+k)]:=by
  apply List.ext_getElem?
  intro i
  by_cases hi:i < k
  ·rw [marksN_get _ _ (by omega),List.getElem?_append_left (by rw [marksN_length];exact hi),marksN_get _ _ hi]
  ·by_cases hi2:i=k
   ·subst hi2
    rw [marksN_get _ _ (by omega),List.getElem?_append_right (by rw [marksN_length];omega),marksN_length];simp
   ·rw [List.getElem?_eq_none (by rw [marksN_length];omega),List.getElem?_eq_none (by simp [marksN_length];omega)]
 rw [List.set_append_right _ _ (by rw [marksN_length];omega),marksN_length,Nat.sub_self,List.drop_eq_getElem_cons hk,List.set_cons_zero,h1]
 simp
theorem markIntS_any (v:Value) (xs:List Int) (m:Int) (w:World) (base:Nat) (hx:OwnN w base v xs) (hl:xs.length≤1099511627776) (hm0:0≤m) (hm1:m≤1099511627776) :
 Calls Tryz.prog 19 #[v, .int .i64 m] w fun e w'=>e = .returned (.int .i64 (m+xs.length))∧OwnN w' base v (marksN xs.length m)∧w.grownBy w' v.ownBlock:=by
 rcases hx.shape with ⟨rfl,rfl⟩ | ⟨g,c,rfl,hg1,hg2,hc1,hc2⟩
 ·go_enter Tryz.func19,Tryz.ntmps19
  go_wp2_with fail
  go_loopw [1,5] (fun q i wr=>i = .int .i64 0∧q = .int .i64 m∧wr=w) (fun _ i _=>(intOf i).toNat)
  case atStart=>exact ⟨rfl,rfl,rfl⟩
  case round =>
   obtain ⟨rfl,rfl,rfl⟩:=hrel
   go_wp2_with fail
   go_ret
   exact ⟨by simp,hx,World.grownBy.refl _ _⟩
 ·generalize hn:xs.length=n at *
  have H:=hide hn;clear hn
  go_enter Tryz.func19,Tryz.ntmps19
  go_wp2_with fail
  go_loopw [1,5] (fun q i wr => ∃ k:Nat,k≤n∧i = .int .i64 k∧q = .int .i64 (m+k)∧OwnN wr base (.slice (some ⟨g,0,none⟩) n c) (marksN k m++xs.drop k)∧w.grownBy wr (some g)) (fun _ i _=>n - (intOf i).toNat)
  case atStart=>exact ⟨0,Nat.zero_le _,rfl,by simp,by simpa [marksN] using hx,World.grownBy.refl _ _⟩
  case round =>
   obtain ⟨k,hk,rfl,rfl,ho,hb⟩:=hrel
   by_cases hlt:k < n
   ·obtain ⟨x,hxk⟩:=get_of_lt (xs:=xs) (k:=k) (by rw [H.out];exact hlt)
    have hlt':=nat_of_lt hlt
    have hget:(marksN k m++xs.drop k)[k]? = some x:=by rw [List.getElem?_append_right (by rw [marksN_length];omega),marksN_length,Nat.sub_self,List.getElem?_drop];simpa using hxk
    obtain ⟨hgl,f0,hfr⟩:=ho.int hget
    have ho2:=ho.setInt hget (markN (m+k))
    rw [marksN_step xs m (by rw [H.out];exact hlt)] at ho2
    have X:=hide hxk;clear hxk
    have G:=hide hget;clear hget
    go_wp2_with fail
    go_roundw
    case rel=>exact ⟨k+1,by omega,by go_num,by go_num,ho2,grown_set hb _ _⟩
    case measure=>simp [intOf];omega
   ·have e:k=n:=by omega
    subst e
    go_wp2_with fail
    go_ret
    rw [List.drop_of_length_le (by rw [H.out];omega),List.append_nil] at ho
    exact ⟨rfl,ho,hb⟩
theorem heldIntS_any (v:Value) (n:Nat) (m:Int) (w:World) (hx:Rep IntE w v (marksN n m)) (hl:n≤1099511627776) (hm0:0≤m) (hm1:m≤1099511627776) :
 Calls Tryz.prog 50 #[v, .int .i64 m] w fun e w'=>e = .returned (.int .i64 (m+n))∧w=w':=by
 obtain ⟨a,c,rfl,hc1,hc2,hc3,hx⟩:=hx.open
 rw [marksN_length] at *
 go_enter Tryz.func50,Tryz.ntmps50
 go_wp2_with fail
 go_loop [1,5] (fun q i => ∃ k:Nat,k≤n∧i = .int .i64 k∧q = .int .i64 (m+k)) (fun _ i=>n - (intOf i).toNat)
 case atStart=>exact ⟨0,Nat.zero_le _,rfl,by simp⟩
 case round =>
  obtain ⟨k,hk,rfl,rfl⟩:=hrel
  by_cases hlt:k < n
  ·obtain ⟨b,o,rfl,hbl,i0⟩:=hx.int (marksN_get n m hlt)
   simp only [markN] at i0
   have hlt':=nat_of_lt hlt
   go_wp2_with fail
   go_round
   case rel=>exact ⟨k+1,by omega,by go_num,by go_num⟩
   case measure=>simp [intOf];omega
  ·have e:k=n:=by omega
   subst e
   go_wp2_with fail
   go_ret
   exact ⟨rfl,rfl⟩
end Go.Proofs.YtkfhgnkonaafgaaGreatDoor
namespace Go.Proofs.YtkfhgnkonaafgaaGreatDoor
open Go.RowKit
end Go.Proofs.YtkfhgnkonaafgaaGreatDoor
namespace Go.Proofs.YtkfhgnkonaafgaaGreatDoor
open Go.RowKit
theorem szP_eq (p:List (List Ins)) (l:Int) (h:0≤szP p l):szP p l=l - p.flatten.length∨p=[]:=by
 induction p generalizing l with
 | nil=>exact .inr rfl
 | cons r p ih =>
  left
  simp only [szP] at h ⊢
  split at h
  ·omega
  ·rename_i hl
   rw [if_neg hl]
   rcases ih _ h with h1 | h1
   ·rw [h1];simp;omega
   ·subst h1;simp [szP]
theorem sumN_flatten (p:List (List Ins)):sumN (p.map List.length)=p.flatten.length:=by
 induction p with
 | nil=>rfl
 | cons r p ih=>simp [sumN,ih]
theorem Below.next {a b c:World} (h:Below a.heap.size a b) (k:Below b.heap.size b c):Below a.heap.size a c:=h.trans (k.mono h.size)
theorem below_row {w w':World} {row:Option Nat} (hg:w.grownBy w' row) {B:Nat} (hB:B≤w.heap.size) (hr:∀ k,row=some k→B≤k):Below B w w':=(Below.refl B w).grown hg hB hr
end Go.Proofs.YtkfhgnkonaafgaaGreatDoor
namespace Go.Proofs.YtkfhgnkonaafgaaGreatDoor
open Go.RowKit
theorem run_append_none {P:Program} {w:World} {base:Nat} {t ty e:TypeId} {i:TypeInfo} {size:Nat} (ht:P.underlying t=some (.slice e)) (hi:P.info? e=some i)
 {v:Value} {n c:Nat} {xs:List Value} (hown:w.ownsRow base e size v n xs):(Builtin.append_ #[t,t] ty #[v, .slice none 0 c]).run P w = .ok v w:=by
 rcases hown.2 with ⟨rfl,rfl⟩ | ⟨g,cap,cur,rfl,_,_,hnc,_⟩
 ·simp [Builtin.append_,run_underlying ht,sizeOf,typeInfo,hi,Builtin.lenOf,Builtin.firstCells]
 ·simp [Builtin.append_,run_underlying ht,sizeOf,typeInfo,hi,Builtin.lenOf,Builtin.firstCells,hnc,storeCells]
theorem wpList_appS {α:Type} (E:El α) {P:Program} {w:World} {ops:Array Oper} {rest:List Oper} {o:Oper} {a:Act} {Q:Exit→Act→World→Prop}
 (T:TypeId) {zv:Value} {bytes:Nat} (hinfo:(P.info? T).map (fun i=>(i.zero,i.size,i.bytes))=some (some zv,E.sz,bytes)) (hz:zv.cells.size=E.sz) {t:TypeId} (h1:P.underlying t=some (.slice T))
 (base:Nat) (v:Value) (xs ys:List α) (u:Value) (hown:Own E T w base v xs) (hrep:Rep E w u ys) (hby:bytes≤256) (hn:xs.length+ys.length≤68719476736) (hbase:base≤w.heap.size)
 (hg:o.guard=none) (s y:Operand) (hop:o.op = .call { callee:=.builtin .append,args:=#[s,y],argTypes:=#[t,t] })
 (hs:a.eval s=v) (hy:a.eval y=u)
 (hK:∀ v' w',Own E T w' base v' (xs++ys)→w.grownBy w' v.ownBlock→wpList P ops Q rest (a.put o.dst v') w') :
 wpList P ops Q (o :: rest) a w:=by
 obtain ⟨it,hi,hz0,hz1,hz2⟩:=info_parts hinfo
 obtain ⟨ad,c,rfl,hc1,hc2,hcell⟩:=hrep
 cases ad with
 | none =>
  have hys:ys=[]:=by
   cases ys with
   | nil=>rfl
   | cons y ys=>obtain ⟨b,o,hb,_⟩:=hcell 0 y rfl;cases hb
  subst hys
  refine wpList_plain hg fun K hK' => ?_
  have hrun:=run_append_none (P:=P) (w:=w) (ty:=o.type) (c:=c) h1 hi hown
  unfold Oper.wp
  simp [execOp,hop,resolve,invoke,builtin,hs,hy,hrun,Result.andThen]
  exact hK' _ _ (hK _ _ (by simpa using hown) (World.grownBy.refl _ _))
 | some ad =>
  refine wpList_append_own w hg s y t hop base T it zv E.sz bytes h1 hi hz0 hz1 hz2 hz E.pos v xs.length _ hs hown ad ys.length c (ys.flatMap E.c) hy (E.length ys) ?_ ?_ (by unfold maxLen;omega) ?_ hbase ?_
  ·intro j u hu
   have hpos:=E.pos
   have hj:j=j / E.sz * E.sz+j % E.sz:=by rw [Nat.mul_comm];exact (Nat.div_add_mod j E.sz).symm
   have hm:j % E.sz < E.sz:=Nat.mod_lt _ hpos
   have hu2:=hu
   rw [hj,E.get ys _ _ hm] at hu2
   cases hx:ys[j / E.sz]? with
   | none=>rw [hx] at hu2;cases hu2
   | some x =>
    rw [hx] at hu2
    obtain ⟨b,o,hb,h⟩:=hcell _ x hx
    simp only [Option.some.injEq] at hb
    subst hb
    have hc:=h (j % E.sz) u hu2
    rw [Addr.add_lit,hj,← Nat.add_assoc]
    exact hc
  ·intro u hu
   rw [List.mem_flatMap] at hu
   obtain ⟨x,_,hx⟩:=hu
   exact E.one x u hx
  ·have:=Nat.mul_le_mul (show xs.length+ys.length≤68719476736 from hn) hby
   omega
  ·intro v' w' h2 h3 _
   refine hK v' w' ?_ h3
   unfold Own
   simpa [List.flatMap_append] using h2
theorem own_ne {α β:Type} {E:El α} {F:El β} {T U:TypeId} (hT:T≠U) {w:World} {base base':Nat} {v u:Value} {xs:List α} {ys:List β} (h:Own E T w base v xs) (k:Own F U w base' u ys):∀ q,u.ownBlock=some q→v.ownBlock≠some q:=by
 intro q hq hv
 rcases h.2 with ⟨rfl,_⟩ | ⟨g,cap,cur,rfl,_,hg,_⟩
 ·simp [Value.ownBlock] at hv
 ·rcases k.2 with ⟨rfl,_⟩ | ⟨g',cap',cur',rfl,_,hg',_⟩
  ·simp [Value.ownBlock] at hq
  ·simp [Value.ownBlock] at hq hv
   subst hq
   subst hv
   rw [hg] at hg'
   simp at hg'
   exact hT hg'.2
theorem Own2.mono {α:Type} {E:El α} {T1 T2:TypeId} {w:World} {base base':Nat} {v:Value} {p:List (List α)} (h:Own2 E T1 T2 w base v p) (hb:base'≤base):Own2 E T1 T2 w base' v p:=by
 obtain ⟨us,h1,h2,h3,h4,h5⟩:=h
 exact ⟨us,h1,h2.mono hb,fun i u r hu hr=>(h3 i u r hu hr).mono hb,h4,h5⟩
end Go.Proofs.YtkfhgnkonaafgaaGreatDoor
namespace Go.Proofs.YtkfhgnkonaafgaaGreatDoor
open Go.RowKit
theorem belowAlloc (w:World) (o:Obj):Below w.heap.size w (w.alloc o):=(Below.refl _ _).alloc (Nat.le_refl _) o
end Go.Proofs.YtkfhgnkonaafgaaGreatDoor
namespace Go.Proofs.YtkfhgnkonaafgaaGreatDoor
open Go.RowKit
def IdxOf {α:Type} (f:α→Bool) (xs:List α) (q:Int):Prop:=(q = -1∧∀ x∈xs,f x=false)∨∃ (t:Nat) (x:α),q=t∧xs[t]? = some x∧f x=true∧∀ y∈xs.take t,f y=false
theorem none_succ {α:Type} {f:α→Bool} {xs:List α} {t:Nat} {x:α} (h:∀ y∈xs.take t,f y=false) (hx:xs[t]? = some x) (hf:f x=false):∀ y∈xs.take (t+1),f y=false:=by
 intro y hy
 rw [List.take_add_one,hx] at hy
 simp at hy
 rcases hy with hy | rfl
 ·exact h y hy
 ·exact hf
theorem IdxOf.any {α:Type} {f:α→Bool} {xs:List α} {q:Int} (h:IdxOf f xs q):decide (0≤q)=xs.any f:=by
 rcases h with ⟨rfl,h⟩ | ⟨t,x,rfl,hx,hf, -⟩
 ·rw [List.any_eq_false.2 (fun x hx=>by rw [h x hx];simp)];rfl
 ·rw [List.any_eq_true.2 ⟨x,List.mem_of_getElem? hx,hf⟩];simp
end Go.Proofs.YtkfhgnkonaafgaaGreatDoor
namespace Go.Proofs.YtkfhgnkonaafgaaGreatDoor
open Go.RowKit
end Go.Proofs.YtkfhgnkonaafgaaGreatDoor
namespace Go.Proofs.YtkfhgnkonaafgaaGreatDoor
open Go.RowKit
theorem Tryz.infoIntS:(Tryz.prog.info? 24).map (fun i=>(i.zero,i.size,i.bytes))=some (some (.slice none 0 0),1,24):=by kernel_rfl
abbrev OwnNN (w:World) (base:Nat) (v:Value) (p:List (List Int)):Prop:=Own2 IntE 24 3 w base v p
abbrev RepNN (w:World) (v:Value) (p:List (List Int)):Prop:=Rep2 IntE w v p
theorem EqualN_any (v v':Value) (xs ys:List Int) (w:World) (hx:Rep IntE w v xs) (hy:Rep IntE w v' ys) :
 Calls Tryz.prog 44 #[v,v'] w fun e w'=>e = .returned (.bool (decide (xs=ys)))∧Below w.heap.size w w':=by
 obtain ⟨a,c,rfl,hc1,hc2,hc3,hx⟩:=hx.open
 obtain ⟨a',c',rfl,hc1',hc2',hc3',hy⟩:=hy.open
 have HX:=hide hx;clear hx
 have HY:=hide hy;clear hy
 generalize hn:xs.length=n at *
 generalize hn':ys.length=n' at *
 have H:=hide hn;clear hn
 have H':=hide hn';clear hn'
 by_cases hc:n=n'
 ·subst hc
  have hc':((n:Int) != n)=false:=by simp
  go_enter Tryz.func44,Tryz.ntmps44
  go_wp2_with fail
  go_loopw [13] (fun v wr => ∃ k:Nat,k≤n∧v = .int .i64 k∧Hid (xs.take k=ys.take k)∧Below w.heap.size w wr) (fun v _=>n - (intOf v).toNat)
  case atStart=>exact ⟨0,Nat.zero_le _,rfl,hide (by simp),Below.refl _ _⟩
  case round =>
   obtain ⟨k,hk,rfl,T,hb⟩:=hrel
   by_cases hlt:k < n
   ·obtain ⟨x,hxk⟩:=get_of_lt (xs:=xs) (k:=k) (by rw [H.out];exact hlt)
    obtain ⟨y,hyk⟩:=get_of_lt (xs:=ys) (k:=k) (by rw [H'.out];exact hlt)
    obtain ⟨b,o,rfl,hbl,i0⟩:=(HX.out.below hb).int hxk
    obtain ⟨b',o',rfl,hbl',j0⟩:=(HY.out.below hb).int hyk
    have hlt':=nat_of_lt hlt
    have X:=hide hxk;clear hxk
    have Y:=hide hyk;clear hyk
    by_cases hxy:x=y
    ·have T':=hide (take_eq_succ T.out X.out Y.out hxy)
     have hd:(x != y)=false:=by simp [hxy]
     clear hxy
     go_wp2_with fail
     refine wp_region_bw (by kernel_rfl) (by kernel_rfl) ?_
     repeat (go_big_quiet_step (fail))
     refine wpQuiet_nil ?_
     intro w1 hb1
     have hb2:=hb.trans (hb1.mono hb.size)
     go_wp2_with fail
     go_roundw
     case rel=>exact ⟨k+1,by omega,by go_num,T',hb2⟩
     case measure=>simp [intOf];omega
    ·have hq:=ne_of_get X.out Y.out hxy
     have hd:(x != y)=true:=by simp [hxy]
     clear hxy
     go_wp2_with fail
     refine wp_region_bw (by kernel_rfl) (by kernel_rfl) ?_
     repeat (go_big_quiet_step (fail))
     refine wpQuiet_nil ?_
     intro w1 hb1
     have hb2:=hb.trans (hb1.mono hb.size)
     go_wp2_with fail
     go_ret
     exact ⟨by simp [hq],hb2⟩
   ·have e2:xs=ys:=take_all_eq T.out (by rw [H.out];omega) (by rw [H'.out];omega)
    subst e2
    go_wp2_with fail
    go_ret
    exact ⟨by simp,hb⟩
 ·have hc':((n:Int) != n')=true:=by simp;omega
  have hq:xs≠ys:=fun h=>hc (by rw [← H.out,← H'.out,h])
  go_enter Tryz.func44,Tryz.ntmps44
  go_wp2_with fail
  go_ret
  exact ⟨by simp [hq],Below.refl _ _⟩
theorem eqIntSS_any (v v':Value) (xs ys:List (List Int)) (w:World) (hx:RepNN w v xs) (hy:RepNN w v' ys) :
 Calls Tryz.prog 24 #[v,v'] w fun e w'=>e = .returned (.bool (decide (xs=ys)))∧Below w.heap.size w w':=by
 obtain ⟨a,c,rfl,hc1,hc2,hc3,hx⟩:=hx.open
 obtain ⟨a',c',rfl,hc1',hc2',hc3',hy⟩:=hy.open
 have HX:=hide hx;clear hx
 have HY:=hide hy;clear hy
 generalize hn:xs.length=n at *
 generalize hn':ys.length=n' at *
 have H:=hide hn;clear hn
 have H':=hide hn';clear hn'
 by_cases hc:n=n'
 ·subst hc
  have hc':((n:Int) != n)=false:=by simp
  go_enter Tryz.func24,Tryz.ntmps24
  go_wp2_with fail
  go_loopw [5] (fun v wr => ∃ k:Nat,k≤n∧v = .int .i64 k∧Hid (xs.take k=ys.take k)∧Below w.heap.size w wr) (fun v _=>n - (intOf v).toNat)
  case atStart=>exact ⟨0,Nat.zero_le _,rfl,hide (by simp),Below.refl _ _⟩
  case round =>
   obtain ⟨k,hk,rfl,T,hb⟩:=hrel
   by_cases hlt:k < n
   ·obtain ⟨x,hxk⟩:=get_of_lt (xs:=xs) (k:=k) (by rw [H.out];exact hlt)
    obtain ⟨y,hyk⟩:=get_of_lt (xs:=ys) (k:=k) (by rw [H'.out];exact hlt)
    obtain ⟨b,o,ra,rc,rfl,hbl,i0,i1⟩:=(HX.out.below hb).row hxk
    obtain ⟨b',o',ra',rc',rfl,hbl',j0,j1⟩:=(HY.out.below hb).row hyk
    have hlt':=nat_of_lt hlt
    have X:=hide hxk;clear hxk
    have Y:=hide hyk;clear hyk
    have I1:=hide i1;clear i1
    have J1:=hide j1;clear j1
    go_wp2_with fail
    refine wp_region_bw (by kernel_rfl) (by kernel_rfl) ?_
    repeat (go_big_quiet_step ((go_at_call 16;exact Calls.bw (eqIntS_any _ _ x y _ (I1.out.below (BW.prop _)) (J1.out.below (BW.prop _))))))
    refine wpQuiet_nil ?_
    intro w1 hb1
    have hb2:=hb.trans (hb1.mono hb.size)
    generalize hd:decide (x=y)=d
    cases d
    ·have hq:=ne_of_get X.out Y.out (of_decide_eq_false hd)
     clear hd
     go_wp2_with fail
     go_ret
     exact ⟨by simp [hq],hb2⟩
    ·have T':=hide (take_eq_succ T.out X.out Y.out (of_decide_eq_true hd))
     clear hd
     go_wp2_with fail
     go_roundw
     case rel=>exact ⟨k+1,by omega,by go_num,T',hb2⟩
     case measure=>simp [intOf];omega
   ·have e2:xs=ys:=take_all_eq T.out (by rw [H.out];omega) (by rw [H'.out];omega)
    subst e2
    go_wp2_with fail
    go_ret
    exact ⟨by simp,hb⟩
 ·have hc':((n:Int) != n')=true:=by simp;omega
  have hq:xs≠ys:=fun h=>hc (by rw [← H.out,← H'.out,h])
  go_enter Tryz.func24,Tryz.ntmps24
  go_wp2_with fail
  go_ret
  exact ⟨by simp [hq],Below.refl _ _⟩
end Go.Proofs.YtkfhgnkonaafgaaGreatDoor
namespace Go.Proofs.YtkfhgnkonaafgaaGreatDoor
open Go.RowKit
end Go.Proofs.YtkfhgnkonaafgaaGreatDoor
namespace Go.Proofs.YtkfhgnkonaafgaaGreatDoor
open Go.RowKit
end Go.Proofs.YtkfhgnkonaafgaaGreatDoor
namespace Go.Proofs.YtkfhgnkonaafgaaGreatDoor
open Go.RowKit
end Go.Proofs.YtkfhgnkonaafgaaGreatDoor
namespace Go.Proofs.YtkfhgnkonaafgaaGreatDoor
open Go.RowKit
theorem zeroCells_eq {α:Type} (E:El α) (z:α) (zv:Value) (hz:zv.cells.toList=E.c z) (n:Nat):(Builtin.zeroCells zv.cells n).toList=(List.replicate n z).flatMap E.c:=by
 have h:=made_eq (E:=E) z zv hz n
 have hsz:zv.cells.size=E.sz:=by rw [← Array.length_toList,hz,E.len]
 rw [← h]
 simp [Builtin.zeroCells,madeCells,hsz]
theorem El.take {α:Type} (E:El α) (xs:List α) (i:Nat):(xs.flatMap E.c).take (i * E.sz)=(xs.take i).flatMap E.c:=by
 induction xs generalizing i with
 | nil=>simp
 | cons x xs ih =>
  cases i with
  | zero=>simp
  | succ i =>
   rw [List.flatMap_cons,List.take_succ_cons,List.flatMap_cons,List.take_append,E.len,List.take_of_length_le (by rw [E.len,Nat.add_mul];omega),
    show (i+1) * E.sz - E.sz=i * E.sz by rw [Nat.add_mul];omega,ih]
section
variable {α : Type} {E : El α} {T : TypeId}
theorem Own.cut {w:World} {base g n cap:Nat} {xs:List α} (h:Own E T w base (.slice (some ⟨g,0,none⟩) n cap) xs) {i:Nat} (hi:i≤n):Own E T w base (.slice (some ⟨g,0,none⟩) i cap) (xs.take i):=by
 have hn:=h.len
 subst hn
 unfold Own at *
 have hl:(xs.take i).length=i:=by rw [List.length_take];omega
 rcases h.2 with ⟨h1,_⟩ | ⟨g',cap',cur,h1,h2,h3,h4,h5,h6,h7⟩
 ·simp at h1
 ·simp only [Value.slice.injEq,Option.some.injEq,Addr.mk.injEq,and_true,true_and] at h1
  obtain ⟨rfl,rfl⟩:=h1
  rw [hl]
  refine ⟨by rw [E.length,hl], .inr ⟨g,cap,cur,rfl,h2,h3,by omega,h5,h6, ?_⟩⟩
  rw [← E.take,← h7,List.take_take,Nat.min_eq_left (Nat.mul_le_mul_right _ hi)]
theorem run_clear {P:Program} {w:World} {base g n cap i c':Nat} {xs:List α} (z:α) {zv:Value} {bytes:Nat} (hinfo:(P.info? T).map (fun i=>(i.zero,i.size,i.bytes))=some (some zv,E.sz,bytes)) (hz:zv.cells.toList=E.c z)
 {t ty:TypeId} (h1:P.underlying t=some (.slice T)) (hown:Own E T w base (.slice (some ⟨g,0,none⟩) n cap) xs) (hi:i < n) :
 ∃ w',(Builtin.clear_ #[t] ty #[.slice (some ⟨g,i * E.sz,none⟩) (n - i) c']).run P w = .ok (.tuple #[]) w'∧Own E T w' base (.slice (some ⟨g,0,none⟩) n cap) (xs.take i++List.replicate (n - i) z)∧w.grownBy w' (some g):=by
 have hn:=hown.len
 subst hn
 obtain ⟨it,hi1,hz0,hz1,hz2⟩:=info_parts hinfo
 rcases hown.2 with ⟨h2,_⟩ | ⟨g',cap',cur,h2,hb,hg,hnc,hcm,hcs,htake⟩
 ·simp at h2
 ·simp only [Value.slice.injEq,Option.some.injEq,Addr.mk.injEq,and_true,true_and] at h2
  obtain ⟨rfl,rfl⟩:=h2
  have hzl:(Builtin.zeroCells zv.cells (xs.length - i)).toList=(List.replicate (xs.length - i) z).flatMap E.c:=zeroCells_eq E z zv hz _
  have hlen:((List.replicate (xs.length - i) z).flatMap E.c).length=(xs.length - i) * E.sz:=by rw [E.length];simp
  have hmul:i * E.sz+(xs.length - i) * E.sz=xs.length * E.sz:=by rw [← Nat.add_mul];congr 1;omega
  have hmul2:xs.length * E.sz≤cap * E.sz:=Nat.mul_le_mul_right _ hnc
  have hst:=run_storeCells_at P g (i * E.sz) T ((List.replicate (xs.length - i) z).flatMap E.c) 0 cur w hg (by rw [hlen,hcs];omega) (fun v hv=>by
   rw [List.mem_flatMap] at hv
   obtain ⟨x,_,hx⟩:=hv
   exact E.one x v hx)
  simp only [Nat.add_zero] at hst
  refine ⟨w.setRow g (cur.toList.take (i * E.sz)++(List.replicate (xs.length - i) z).flatMap E.c++cur.toList.drop (i * E.sz+((List.replicate (xs.length - i) z).flatMap E.c).length)).toArray, ?_, ?_,⟨rfl,rfl,rfl,by simp,fun k _ hk=>setRow_other w g k _ (fun e=>hk (by simp [e]))⟩⟩
  ·have hne:xs.length - i≠0:=by omega
   obtain ⟨m,hm⟩:=Nat.exists_eq_succ_of_ne_zero hne
   rw [hm] at hst hzl ⊢
   simp only [Nat.succ_eq_add_one] at hst hzl ⊢
   simp [Builtin.clear_,run_underlying h1,zeroValue,typeInfo,hi1,hz0,hzl,hst]
  ·have hl2:(xs.take i++List.replicate (xs.length - i) z).length=xs.length:=by simp;omega
   unfold Own
   rw [hl2]
   refine ⟨by rw [E.length,hl2], .inr ⟨g,cap,_,rfl,hb,setRow_heap w g cur _ T _ hg,hnc,hcm, ?_, ?_⟩⟩
   ·simp only [List.size_toArray,List.length_append,List.length_take,List.length_drop,Array.length_toList,hlen,hcs]
    omega
   ·rw [List.flatMap_append,← E.take,← htake,List.take_take,Nat.min_eq_left (by omega)]
    rw [show xs.length * E.sz=(cur.toList.take (i * E.sz)++(List.replicate (xs.length - i) z).flatMap E.c).length by
     have hcl:cur.toList.length=cap * E.sz:=by rw [Array.length_toList,hcs]
     rw [List.length_append,hlen,List.length_take,hcl];omega]
    exact List.take_left
end
structure DelInv {α:Type} (f:α→Bool) (xs L:List α) (i j:Nat):Prop where
 take:L.take i=(xs.take j).filter fun x => !f x
 drop:L.drop j=xs.drop j
theorem filter_all {α:Type} {f:α→Bool} {xs:List α} (h:∀ x∈xs,f x=true):xs.filter f=xs:=List.filter_eq_self.2 h
theorem del_start {α:Type} {f:α→Bool} {xs:List α} {t:Nat} {x:α} (hx:xs[t]? = some x) (hf:f x=true) (hno:∀ y∈xs.take t,f y=false):DelInv f xs xs t (t+1):=by
 refine ⟨?_,rfl⟩
 rw [List.take_add_one,hx,List.filter_append,filter_all (fun y hy=>by rw [hno y hy];rfl)]
 simp [hf]
section
variable {α : Type} {f : α → Bool} {xs L : List α} {i j : Nat}
theorem DelInv.get (h:DelInv f xs L i j) {x:α} (hx:xs[j]? = some x):L[j]? = some x:=by
 have h1:(L.drop j)[0]? = (xs.drop j)[0]?:=by rw [h.drop]
 rw [List.getElem?_drop,List.getElem?_drop,Nat.add_zero] at h1
 rw [h1,hx]
theorem DelInv.keep (h:DelInv f xs L i j) (hij:i < j) {x:α} (hx:xs[j]? = some x) (hf:f x=false):DelInv f xs (L.set i x) (i+1) (j+1):=by
 have hL:=h.get hx
 have hjl:=(List.getElem?_eq_some_iff.1 hL).1
 refine ⟨?_, ?_⟩
 ·rw [List.take_add_one,List.take_add_one,hx,List.filter_append,← h.take,List.getElem?_set,if_pos rfl,if_pos (by omega)]
  rw [List.take_set_of_le (Nat.le_refl _)]
  simp [hf]
 ·rw [List.drop_set_of_lt (by omega)]
  have h1:(L.drop j).drop 1=(xs.drop j).drop 1:=by rw [h.drop]
  simpa [List.drop_drop] using h1
theorem DelInv.skip (h:DelInv f xs L i j) {x:α} (hx:xs[j]? = some x) (hf:f x=true):DelInv f xs L i (j+1):=by
 refine ⟨?_, ?_⟩
 ·rw [List.take_add_one,hx,List.filter_append,h.take];simp [hf]
 ·have h1:(L.drop j).drop 1=(xs.drop j).drop 1:=by rw [h.drop]
  simpa [List.drop_drop] using h1
theorem DelInv.done (h:DelInv f xs L i j) (hj:xs.length≤j):L.take i=xs.filter fun x => !f x:=by
 rw [h.take,List.take_of_length_le hj]
end
theorem grown_of_below {w w':World} (h:Below w.heap.size w w') (row:Option Nat):w.grownBy w' row:=⟨h.os,h.tape,h.output,h.size,fun k hk _=>h.block k hk⟩
theorem grown_trans {w w' w'':World} {row:Option Nat} (h:w.grownBy w' row) (k:w'.grownBy w'' row):w.grownBy w'' row:=
 ⟨k.os.trans h.os,k.tape.trans h.tape,k.output.trans h.output,Nat.le_trans h.size k.size,fun q hq hne=>(k.block q (Nat.lt_of_lt_of_le hq h.size) hne).trans (h.block q hq hne)⟩
def DelPost {α:Type} (E:El α) (T:TypeId) (w:World) (base:Nat) (v:Value) (ys:List α) (e:Ending) (w':World):Prop:=∃ v',e = .returned v'∧Own E T w' base v' ys∧w.grownBy w' v.ownBlock∧v'.ownBlock=v.ownBlock
theorem wpList_clear {α:Type} (E:El α) {P:Program} {w:World} {ops:Array Oper} {rest:List Oper} {o:Oper} {a:Act} {Q:Exit→Act→World→Prop}
 (T:TypeId) (z:α) {zv:Value} {bytes:Nat} (hinfo:(P.info? T).map (fun i=>(i.zero,i.size,i.bytes))=some (some zv,E.sz,bytes)) (hz:zv.cells.toList=E.c z) {t:TypeId} (h1:P.underlying t=some (.slice T))
 (base g n cap i c':Nat) (xs:List α) (hown:Own E T w base (.slice (some ⟨g,0,none⟩) n cap) xs) (hi:i < n) (hg:o.guard=none) (y:Operand)
 (hop:o.op = .call { callee:=.builtin .clear,args:=#[y],argTypes:=#[t] }) (hy:a.eval y = .slice (some ⟨g,i * E.sz,none⟩) (n - i) c')
 (hK:∀ w',Own E T w' base (.slice (some ⟨g,0,none⟩) n cap) (xs.take i++List.replicate (n - i) z)→w.grownBy w' (some g)→wpList P ops Q rest (a.put o.dst (.tuple #[])) w') :
 wpList P ops Q (o :: rest) a w:=by
 refine wpList_plain hg fun K hK' => ?_
 obtain ⟨w',hrun,r1,r2⟩:=run_clear (ty:=o.type) (c':=c') z hinfo hz h1 hown hi
 unfold Oper.wp
 simp [execOp,hop,resolve,invoke,builtin,hy,hrun,Result.andThen]
 exact hK' _ _ (hK w' r1 r2)
end Go.Proofs.YtkfhgnkonaafgaaGreatDoor
namespace Go.Proofs.YtkfhgnkonaafgaaGreatDoor
open Go.RowKit
def IdxOfS {α:Type} (f:α→Bool) (xs:List α) (q:Int):Prop:=(q = -1∧∀ x∈xs,f x=false)∨∃ (t:Nat) (x:α),q=t∧xs[t]? = some x∧f x=true∧∀ y∈xs.take t,f y=false
theorem none_succS {α:Type} {f:α→Bool} {xs:List α} {t:Nat} {x:α} (h:∀ y∈xs.take t,f y=false) (hx:xs[t]? = some x) (hf:f x=false):∀ y∈xs.take (t+1),f y=false:=by
 intro y hy
 rw [List.take_add_one,hx] at hy
 simp at hy
 rcases hy with hy | rfl
 ·exact h y hy
 ·exact hf
end Go.Proofs.YtkfhgnkonaafgaaGreatDoor
namespace Go.Proofs.YtkfhgnkonaafgaaGreatDoor
open Go.RowKit Go.Shelf Go.Sort
theorem intE_mapK (xs:List Int):xs.flatMap IntE.c=xs.map (Value.int .i64):=by
 induction xs with
 | nil=>rfl
 | cons x xs ih=>rw [List.flatMap_cons,ih];rfl
theorem grownBy_put {w:World} {g n:Nat} (d:Array Int):w.grownBy (putRow (Value.int .i64) (Sort.ahead w n) g 0 d) (some g):=by
 refine ⟨rfl,rfl,rfl,by simp [putRow,mapBlock,Sort.ahead],fun k hk hne => ?_⟩
 have:g≠k:=fun e=>hne (by rw [e])
 simp [putRow,mapBlock,Sort.ahead,Array.getElem?_modify,this]
theorem Delete_any (v:Value) (xs:List Int) (w:World) (base i:Nat) (h:Own IntE 3 w base v xs) (hi:i < xs.length) :
 Calls Tryz.prog 138 #[v, .int .i64 i, .int .i64 ((i:Int)+1)] w fun e w' => ∃ u:Slc,e = .returned (.slice u.a u.n u.cap)∧Own IntE 3 w' base u.v (xs.eraseIdx i)∧w.grownBy w' v.ownBlock:=by
 have hne:v≠.slice none 0 0:=by
  rintro rfl
  rcases h.shape with ⟨-,h0⟩ | ⟨g,cap,h1, -⟩
  ·rw [h0] at hi;simp at hi
  ·cases h1
 unfold Own at h
 rw [intE_mapK] at h
 have h':w.ownsRow base 3 1 v xs.length (xs.map (Value.int .i64)):=h
 obtain ⟨g,cap,rfl,hg1,hg2,hc1,hc2, -,hH⟩:=Lib.holds_of_ownsRow h' hne
 have hc:=Any.slices_Delete_int Tryz.laysDel g 0 cap i (i+1) xs w hH hc1 (by unfold maxLen at hc2;omega) (by omega) (by omega)
 have hcast:((i+1:Nat):Int)=(i:Int)+1:=by omega
 rw [hcast] at hc
 change Calls Tryz.prog 138 _ _ _ at hc
 refine hc.mono fun _ w' ⟨a,q,b⟩ => ?_
 subst b
 have hs:i+1 - i=1:=by omega
 rw [hs] at a ⊢
 have hl:(xs.take i++xs.drop (i+1)++List.replicate 1 (0:Int)).length=xs.length:=by simp;omega
 have h2:=Lib.ownsRow_putRow (q:=q) (k:=xs.length - 1) h' hl (by omega)
 have he:(xs.take i++xs.drop (i+1)++List.replicate 1 (0:Int)).take (xs.length - 1)=xs.eraseIdx i:=by
  rw [List.eraseIdx_eq_take_drop_succ,List.take_append_of_le_length (by simp;omega),List.take_of_length_le (by simp;omega)]
 rw [he] at h2
 refine ⟨⟨some ⟨g,0,none⟩,xs.length - 1,cap⟩,a, ?_,grownBy_put _⟩
 unfold Own
 rw [intE_mapK,show (xs.eraseIdx i).length=xs.length - 1 by rw [List.length_eraseIdx,if_pos hi]]
 exact h2
end Go.Proofs.YtkfhgnkonaafgaaGreatDoor
namespace Go.Proofs.YtkfhgnkonaafgaaGreatDoor
open Go.RowKit
structure KpT (L:List TypeId) (B:Nat) (w w':World):Prop where
 os:w'.os=w.os
 tape:w'.tape=w.tape
 output:w'.output=w.output
 size:w.heap.size≤w'.heap.size
 block:∀ k ob,w.heap[k]? = some ob→(k < B∨∀ a T fz,ob = .cells a T fz→T∉L)→w'.heap[k]? = some ob
theorem KpT.refl (L:List TypeId) (B:Nat) (w:World):KpT L B w w:=⟨rfl,rfl,rfl,Nat.le_refl _,fun _ _ h _=>h⟩
theorem KpT.trans {L:List TypeId} {B:Nat} {a b c:World} (h:KpT L B a b) (k:KpT L B b c):KpT L B a c:=
 ⟨k.os.trans h.os,k.tape.trans h.tape,k.output.trans h.output,Nat.le_trans h.size k.size,fun q ob hq hl=>k.block q ob (h.block q ob hq hl) hl⟩
theorem KpT.of_below {L:List TypeId} {B:Nat} {w w':World} (h:Below w.heap.size w w'):KpT L B w w':=
 ⟨h.os,h.tape,h.output,h.size,fun k _ hk _=>(h.block k (Array.getElem?_eq_some_iff.1 hk).1).trans hk⟩
theorem KpT.below {L:List TypeId} {B:Nat} {w w':World} (h:KpT L B w w') (hB:B≤w.heap.size):Below B w w':=
 ⟨h.os,h.tape,h.output,h.size,fun k hk=>by
  have hk':k < w.heap.size:=by omega
  have e:w.heap[k]? = some (w.heap[k]'hk'):=Array.getElem?_eq_getElem hk'
  rw [e];exact h.block k _ e (.inl hk)⟩
theorem Own.typeT {α:Type} {E:El α} {T:TypeId} {w:World} {base g:Nat} {v:Value} {xs:List α} (h:Own E T w base v xs) (hg:v.ownBlock=some g):∃ a,w.heap[g]? = some (.cells a T (0,0)):=by
 rcases h.2 with ⟨rfl,_⟩ | ⟨g',cap,cur,rfl,_,hg',_⟩
 ·simp [Value.ownBlock] at hg
 ·simp [Value.ownBlock] at hg
  subst hg
  exact ⟨cur,hg'⟩
theorem Own.sameT {α:Type} {E:El α} {T:TypeId} {w w':World} {base:Nat} {v:Value} {xs:List α} (h:Own E T w base v xs) (hs:∀ q,v.ownBlock=some q→w'.heap[q]? = w.heap[q]?):Own E T w' base v xs:=by
 refine ⟨h.1, ?_⟩
 rcases h.2 with hn | ⟨g,cap,cur,rfl,hb1,hgg,rest⟩
 ·exact .inl hn
 ·exact .inr ⟨g,cap,cur,rfl,hb1,(hs g rfl).trans hgg,rest⟩
theorem KpT.grown {α:Type} {E:El α} {T:TypeId} {L:List TypeId} {B base:Nat} {w w':World} {v:Value} {xs:List α} (ho:Own E T w base v xs) (hT:T∈L) (hB:B≤base) (hg:w.grownBy w' v.ownBlock):KpT L B w w':=
 ⟨hg.os,hg.tape,hg.output,hg.size,fun k ob hk hl=>(hg.block k (Array.getElem?_eq_some_iff.1 hk).1 (fun e=>by
  obtain ⟨a,ha⟩:=ho.typeT e.symm
  have hbk:=(World.ownsRow.lt ho k e.symm).1
  rw [hk] at ha
  rcases hl with hl | hl
  ·omega
  ·exact hl a T _ (Option.some.inj ha) hT)).trans hk⟩
theorem KpT.set {T:TypeId} {L:List TypeId} {B g j:Nat} {w:World} {a:Array Value} {fz:Nat × Nat} (hg:w.heap[g]? = some (.cells a T fz)) (hT:T∈L) (hB:B≤g) (u:Value):KpT L B w (w.setCell ⟨g,j,none⟩ u):=
 ⟨rfl,rfl,rfl,by simp,fun k ob hk hl=>(heap_setCell_other w ⟨g,j,none⟩ k u (show k≠g by
  rintro rfl
  rw [hg] at hk
  rcases hl with hl | hl
  ·omega
  ·exact hl a T fz (Option.some.inj hk).symm hT)).trans hk⟩
structure LocT (L:List TypeId) (B:Nat) (w:World) (φ:World→Prop):Prop where
 now:φ w
 keep:∀ w',KpT L B w w'→φ w'
theorem LocT.step {L:List TypeId} {B:Nat} {w w':World} {φ:World→Prop} (h:LocT L B w φ) (k:KpT L B w w'):LocT L B w' φ:=⟨h.keep w' k,fun w'' k'=>h.keep w'' (k.trans k')⟩
theorem LocT.own {α:Type} {E:El α} {T:TypeId} {L:List TypeId} {B base:Nat} {w:World} {v:Value} {xs:List α} (h:Own E T w base v xs) (hT:T∉L):LocT L B w (fun W=>Own E T W base v xs):=
 ⟨h,fun w' k=>h.sameT fun q hq=>by
  obtain ⟨a,ha⟩:=h.typeT hq
  rw [k.block q _ ha (.inr fun a' T' fz e=>by simp at e;rw [← e.2.1];exact hT),ha]⟩
structure St where
 pc:List Int
 rg:List Int
 mm:List Int
 bf:List (List Int)
structure SV where
 p:Slc
 r:Slc
 m:Slc
 b:Slc
def TyB (T:TypeId) (w:World) (g:Nat):Prop:=∃ a,w.heap[g]? = some (.cells a T (0,0))
theorem KpT.setT {T:TypeId} {L:List TypeId} {B g j:Nat} {w:World} (hg:TyB T w g) (hT:T∈L) (hB:B≤g) (u:Value):KpT L B w (w.setCell ⟨g,j,none⟩ u):=by
 obtain ⟨a,ha⟩:=hg
 exact .set ha hT hB u
theorem Tryz.infoIntSM:(Tryz.prog.info? 24).map (fun i=>(i.zero,i.size,i.bytes))=some (some (.slice none 0 0),1,24):=by kernel_rfl
end Go.Proofs.YtkfhgnkonaafgaaGreatDoor
namespace Go.Proofs.YtkfhgnkonaafgaaGreatDoor
open Go.RowKit
def marksQ:List Nat→Int→List (List Int)
 | [],_=>[]
 | n :: ns,m=>marksN n m :: marksQ ns (m+n)
theorem marksQ_length (ns:List Nat) (m:Int):(marksQ ns m).length=ns.length:=by
 induction ns generalizing m with
 | nil=>rfl
 | cons n ns ih=>simp [marksQ,ih]
theorem marksQ_get (ns:List Nat) (m:Int) {k n:Nat} (h:ns[k]? = some n):(marksQ ns m)[k]? = some (marksN n (m+sumN (ns.take k))):=by
 induction ns generalizing m k with
 | nil=>simp at h
 | cons x ns ih =>
  cases k with
  | zero=>simp at h;simp [marksQ,sumN,h]
  | succ k=>simp only [marksQ,List.getElem?_cons_succ];rw [ih _ (by simpa using h)];simp only [List.take_succ_cons,sumN];congr 2;omega
theorem marksQ_step (p:List (List Int)) (m:Int) {k:Nat} {r:List Int} (hr:p[k]? = some r) :
 (marksQ ((p.map List.length).take k) m++p.drop k).set k (marksN r.length (m+sumN ((p.map List.length).take k)))=marksQ ((p.map List.length).take (k+1)) m++p.drop (k+1):=by
 have hk:=(List.getElem?_eq_some_iff.1 hr).1
 have hl:(marksQ ((p.map List.length).take k) m).length=k:=by rw [marksQ_length];simp;omega
 rw [List.set_append_right _ _ (by omega),hl,Nat.sub_self,List.drop_eq_getElem_cons hk,List.set_cons_zero]
 have hn:(p.map List.length)[k]? = some r.length:=by simp [hr]
 have e:marksQ ((p.map List.length).take (k+1)) m=marksQ ((p.map List.length).take k) m++[marksN r.length (m+sumN ((p.map List.length).take k))]:=by
  apply List.ext_getElem?
  intro i
  by_cases hi:i < k
  ·obtain ⟨q,hq⟩:=get_of_lt (xs:=p.map List.length) (k:=i) (by simp;omega)
   rw [List.getElem?_append_left (by omega),marksQ_get _ m (k:=i) (n:=q) (by rw [List.getElem?_take,if_pos (by omega)];exact hq),marksQ_get _ m (k:=i) (n:=q) (by rw [List.getElem?_take,if_pos (by omega)];exact hq),List.take_take,List.take_take,Nat.min_eq_left (by omega),Nat.min_eq_left (by omega)]
  ·by_cases hi2:i=k
   ·subst hi2
    rw [List.getElem?_append_right (by omega),hl,marksQ_get _ m (k:=i) (n:=r.length) (by rw [List.getElem?_take,if_pos (by omega)];exact hn),List.take_take,Nat.min_eq_left (by omega)];simp
   ·rw [List.getElem?_eq_none (by rw [marksQ_length];simp;omega),List.getElem?_eq_none (by simp [hl];omega)]
 rw [e];simp
theorem markIntSS_any (v:Value) (p:List (List Int)) (m:Int) (w0 w:World) (base:Nat) (hx:OwnNN w0 base v p) (hw:Below w0.heap.size w0 w) (hl:sumN (p.map List.length)≤268435456) (hpl:p.length≤1048576) (hm0:0≤m) (hm1:m≤1073741824) :
 Calls Tryz.prog 25 #[v, .int .i64 m] w fun e w'=>e = .returned (.int .i64 (m+sumN (p.map List.length)))∧OwnNN w' base v (marksQ (p.map List.length) m)∧Outside base w0.heap.size w w':=by
 obtain ⟨us,hU,hlt⟩:=hx.told
 have HLT:=hide hlt;clear hlt
 have hU:=hU.below hw
 generalize hsz:w0.heap.size=hi at *
 clear hx hsz hw
 rcases hU.2.1.shape with ⟨rfl,h0⟩ | ⟨g,c,rfl,hg1,hg2,hc1,hc2⟩
 ·subst h0
  obtain rfl:p=[]:=List.eq_nil_of_length_eq_zero hU.1.symm
  go_enter Tryz.func25,Tryz.ntmps25
  go_wp2_with fail
  go_loopw [1,5] (fun q i wr=>i = .int .i64 0∧q = .int .i64 m∧wr=w) (fun _ i _=>(intOf i).toNat)
  case atStart=>exact ⟨rfl,rfl,rfl⟩
  case round =>
   obtain ⟨rfl,rfl,rfl⟩:=hrel
   go_wp2_with fail
   go_ret
   exact ⟨by simp [sumN],hU.own,Outside.refl _ _ _⟩
 ·have hul:=hU.1
  generalize hn:us.length=n at *
  have H:=hide hul;clear hul
  have hnb:n≤1048576:=by have:=H.out;omega
  clear hn
  go_enter Tryz.func25,Tryz.ntmps25
  go_wp2_with fail
  go_loopw [1,5] (fun q i wr => ∃ k:Nat,k≤n∧i = .int .i64 k∧q = .int .i64 (m+sumN ((p.map List.length).take k))∧Own2U IntE 24 3 us wr base (.slice (some ⟨g,0,none⟩) n c) (marksQ ((p.map List.length).take k) m++p.drop k)∧Outside base hi w wr) (fun _ i _=>n - (intOf i).toNat)
  case atStart=>exact ⟨0,Nat.zero_le _,rfl,by simp [sumN],by simpa [marksQ] using hU,Outside.refl _ _ _⟩
  case round =>
   obtain ⟨k,hk,rfl,rfl,ho,hb⟩:=hrel
   by_cases hlt:k < n
   ·obtain ⟨x,hxk⟩:=get_of_lt (xs:=p) (k:=k) (by rw [← H.out];exact hlt)
    have hlt':=nat_of_lt hlt
    have hget:(marksQ ((p.map List.length).take k) m++p.drop k)[k]? = some x:=by
     have hl:(marksQ ((p.map List.length).take k) m).length=k:=by rw [marksQ_length];simp;have:=H.out;omega
     rw [List.getElem?_append_right (by omega),hl,Nat.sub_self,List.getElem?_drop];simpa using hxk
    obtain ⟨s,hs,hgl,f0,hrow,hback⟩:=ho.row hget
    have hsum:=le_sumN (ns:=p.map List.length) (k:=k) (n:=x.length) (by simp [hxk])
    have hst:=marksQ_step p m hxk
    have hsum2:=sumN_take_succ (p.map List.length) (k:=k) (n:=x.length) (by simp [hxk])
    generalize hS:sumN ((p.map List.length).take k)=S at *
    have ST:=hide hst;have S2:=hide hsum2;have SS:=hide hS;have G:=hide hget;have SK:=hide hs;have X:=hide hxk;have BK:=hide hback;have RW:=hide hrow
    clear hst hsum2 hS hget hs hxk hback hrow
    go_wp2_with (go_at_call 19;refine (markIntS_any s.v x _ _ base RW.out (by omega) (by omega) (by omega)).mono ?_;rintro e w2 ⟨rfl,hu,hgr⟩)
    have ho2:=BK.out _ _ hu hgr
    rw [ST.out] at ho2
    go_roundw
    case rel=>exact ⟨k+1,by omega,by go_num,by rw [S2.out];go_num,ho2,hb.grown hgr (fun q hq=>HLT.out k s SK.out q hq)⟩
    case measure=>simp [intOf];omega
   ·have e:k=n:=by omega
    subst e
    go_wp2_with fail
    go_ret
    rw [List.drop_of_length_le (by rw [← H.out];omega),List.append_nil,List.take_of_length_le (by simp [← H.out])] at ho
    rw [List.take_of_length_le (by simp [← H.out])]
    exact ⟨rfl,ho.own,hb⟩
theorem heldIntSS_any (v:Value) (ns:List Nat) (m:Int) (w:World) (hx:RepNN w v (marksQ ns m)) (hl:sumN ns≤268435456) (hm0:0≤m) (hm1:m≤1073741824) :
 Calls Tryz.prog 26 #[v, .int .i64 m] w fun e w'=>e = .returned (.int .i64 (m+sumN ns))∧w=w':=by
 obtain ⟨a,c,rfl,hc1,hc2,hc3,hx⟩:=hx.open
 rw [marksQ_length] at *
 have HX:=hide hx;clear hx
 generalize hn:ns.length=n at *
 have H:=hide hn;clear hn
 go_enter Tryz.func26,Tryz.ntmps26
 go_wp2_with fail
 go_loop [1,5] (fun q i => ∃ k:Nat,k≤n∧i = .int .i64 k∧q = .int .i64 (m+sumN (ns.take k))) (fun _ i=>n - (intOf i).toNat)
 case atStart=>exact ⟨0,Nat.zero_le _,rfl,by simp [sumN]⟩
 case round =>
  obtain ⟨k,hk,rfl,rfl⟩:=hrel
  by_cases hlt:k < n
  ·obtain ⟨x,hxk⟩:=get_of_lt (xs:=ns) (k:=k) (by rw [H.out];exact hlt)
   obtain ⟨b,o,ra,rc,rfl,hbl,i0,i1⟩:=HX.out.row (marksQ_get ns m hxk)
   have hlt':=nat_of_lt hlt
   have hsum:=le_sumN hxk
   have S2:=hide (sumN_take_succ ns hxk)
   rw [marksN_length] at i0 i1
   have I1:=hide i1;clear i1 hxk
   generalize hS:sumN (ns.take k)=S at *
   clear hS
   go_wp2_with (go_at_call 50;refine (heldIntS_any _ x _ _ I1.out (by omega) (by omega) (by omega)).mono ?_;rintro e w2 ⟨rfl,rfl⟩)
   go_round
   case rel=>exact ⟨k+1,by omega,by go_num,by rw [S2.out];go_num⟩
   case measure=>simp [intOf];omega
  ·have e:k=n:=by omega
   subst e
   go_wp2_with fail
   go_ret
   rw [List.take_of_length_le (by rw [H.out];exact Nat.le_refl _)]
   exact ⟨rfl,rfl⟩
end Go.Proofs.YtkfhgnkonaafgaaGreatDoor