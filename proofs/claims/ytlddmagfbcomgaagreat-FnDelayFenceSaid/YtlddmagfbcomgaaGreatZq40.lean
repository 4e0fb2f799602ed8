/-
  Plain: delays between instructions are delays between events; what fences put into gaps leave of them. No condition.
-/
import Derived.Test.YtlddmagfbcomgaaGreatZq37
import Derived.Test.YtlddmagfbcomgaaGreatZq38
import Derived.Test.YtlddmagfbcomgaaGreatZq25
import Derived.Test.YtlddmagfbcomgaaGreatZq05
import Derived.Test.YtlddmagfbcomgaaGreatZq02
import Derived.Test.YtlddmagfbcomgaaGreatZq32
import Derived.Test.YtlddmagfbcomgaaGreatZq39
set_option maxHeartbeats 6400000
set_option maxRecDepth 100000
namespace Go.Proofs.YtlddmagfbcomgaaGreat
open Go.RowKit
def poB (L:List Ev) (i k:Nat):Bool:=match L[i]?,L[k]? with
 | some a,some b=>decide (0≤a.t)&&((a.t==b.t)&&decide (a.i < b.i))
 | _,_=>false
theorem poB_eq {L:List Ev} {i k:Nat} {a b:Ev} (hi:L[i]? = some a) (hk:L[k]? = some b):poB L i k=(decide (0≤a.t)&&((a.t==b.t)&&decide (a.i < b.i))):=by
 unfold poB;rw [hi,hk]
def TestsP_del (a1:Addr) (n:Nat) (f:Nat→Nat→Bool) (w0:World):Prop:=∀ (i k:Nat) (w:World),i < n→k < n→Below w0.heap.size w0 w →
 Calls Tryz.prog 139 #[.int .i64 i, .int .i64 k, .pointer (some a1)] w fun e w'=>e = .returned (.bool (f i k))∧Below w.heap.size w w'
theorem pairsOf_del (a1:Addr) (n:Nat) (f:Nat→Nat→Bool) (w:World) (hn:n≤60) (hf:TestsP_del a1 n f w) :
 Calls Tryz.prog 138 #[.int .i64 n, .func (.func 139) #[] #[.pointer (some a1)]] w (RetOwn IntE 3 w (relOf n f)):=by
 have HF:=hide hf;clear hf
 go_enter Tryz.func138,Tryz.ntmps138
 go_wp2_with (at_make;refine wpList_make IntE 3 0 Tryz.infoInt rfl Tryz.underlying40 n (by decide) (by omega) rfl _ _ rfl rfl rfl ?_;intro w1 hown hgr)
 have hb1:=below_of_grown hgr
 go_loopw [11] (fun i wr => ∃ t:Nat,t≤n∧i = .int .i64 t∧OwnN wr w.heap.size (.slice (some ⟨w.heap.size,0,none⟩) n n) ((relOf n f).take t++List.replicate (n - t) 0)∧Below w.heap.size w wr) (fun i _=>n - (intOf i).toNat)
 case atStart=>exact ⟨0,by omega,rfl,by simpa using hown,hb1⟩
 case round =>
  obtain ⟨t,ht,rfl,ho,hb⟩:=hrel
  by_cases hlt:t < n
  ·have hlt':=nat_of_lt hlt
   go_wp2_with fail
   go_loopw [15] (fun i wr => ∃ k:Nat,k≤n∧i = .int .i64 k∧OwnN wr w.heap.size (.slice (some ⟨w.heap.size,0,none⟩) n n) (((relOf n f).take t++List.replicate (n - t) 0).set t (bitsTo (f t) k))∧Below w.heap.size w wr) (fun i _=>n - (intOf i).toNat)
   case atStart=>exact ⟨0,by omega,rfl,by rw [rel_start n t f hlt];exact ho,hb⟩
   case round =>
    obtain ⟨k,hk,rfl,ho,hb⟩:=hrel
    by_cases hlt2:k < n
    ·have hlt2':=nat_of_lt hlt2
     have HC:=hide (HF.out t k wr hlt hlt2 hb)
     have BS:Hid (bitsTo (f t) (k+1)=if f t k=true then bits .or .i64 (bitsTo (f t) k) (wrap64 ((2:Int) ^ k)) else bitsTo (f t) k):=hide rfl
     generalize f t k=fb at *
     cases fb
     ·go_wp2_with fail
      (with_reducible refine HC.out.mono ?_);rintro e w2 ⟨rfl,hb2⟩
      go_wp2_with fail
      go_roundw
      case rel=>exact ⟨k+1,by omega,by go_num,by rw [BS.out];exact ho.below hb2,hb.trans (hb2.mono hb.size)⟩
      case measure=>simp [intOf];omega
     ·go_wp2_with fail
      (with_reducible refine HC.out.mono ?_);rintro e w2 ⟨rfl,hb2⟩
      have ho2:=ho.below hb2
      obtain ⟨hgl,c0,hfr⟩:=ho2.int (rel_get n t k f hlt)
      have ho3:=ho2.setInt (rel_get n t k f hlt) (bits .or .i64 (bitsTo (f t) k) (wrap64 ((2:Int) ^ k)))
      rw [List.set_set] at ho3
      have HO3:=hide ho3;clear ho3
      go_wp2_with fail
      go_region
      go_wp2_with fail
      go_roundw
      case rel=>exact ⟨k+1,by omega,by go_num,by rw [BS.out];exact HO3.out.below (Below.refl _ _).drew,((hb.trans (hb2.mono hb.size)).setCell (Nat.le_refl _) _).drew⟩
      case measure=>simp [intOf];omega
    ·have e:k=n:=by omega
     rw [e,rel_done n t f hlt] at ho
     go_wp2_with fail
     go_roundw
     case rel=>exact ⟨t+1,by omega,by go_num,ho,hb⟩
     case measure=>simp [intOf];omega
  ·have e:t=n:=by omega
   rw [e,Nat.sub_self,List.replicate_zero,List.append_nil,List.take_of_length_le (by rw [relOf_length];exact Nat.le_refl _)] at ho
   go_wp2_with fail
   go_ret
   exact ⟨_,rfl,ho,hb⟩
theorem delayRel_1 (B lc:Nat) (la:Option Addr) (L:List Ev) (w0:World) (h1:w0.cell? ⟨B,0,none⟩=some (.slice la L.length lc)) (hL:Rep EvE w0 (.slice la L.length lc) L):TestsP_del ⟨B,0,none⟩ L.length (poB L) w0:=by
 intro i k w hi hk hb
 have q1:=(hb.cell (p:=⟨B,0,none⟩) (lt_of_cell h1)).trans h1
 obtain ⟨a,ha⟩:=get_of_lt hi
 obtain ⟨b,hbb⟩:=get_of_lt hk
 obtain ⟨d,o,rfl,hd,i0,i1,i2,i3,i4⟩:=(hL.below hb).ev ha
 obtain ⟨d',o',hde,hd',j0,j1,j2,j3,j4⟩:=(hL.below hb).ev hbb
 simp only [Option.some.injEq,Addr.mk.injEq,and_true] at hde
 obtain ⟨rfl,rfl⟩:=hde
 have hB1:=lt_of_cell q1
 have CE:=hide (poB_eq ha hbb)
 have hi':=nat_of_lt hi;have hk':=nat_of_lt hk
 clear ha hbb hL h1 hb
 generalize poB L i k=R at *
 generalize L.length=n at *
 generalize a.t=at' at *;generalize b.t=bt' at *;generalize a.i=ai at *;generalize b.i=bi at *
 rcases Bool.eq_false_or_eq_true (decide (0≤at')) with g0 | g0
 ·rcases Bool.eq_false_or_eq_true ((at'==bt')) with g1 | g1
  ·rcases Bool.eq_false_or_eq_true (decide (ai < bi)) with g2 | g2
   ·obtain rfl:R=true:=by rw [CE.out];simp [g0,g1,g2]
    go_enter Tryz.func139,Tryz.ntmps139
    go_wp2_with fail
    refine wp_region_bw (by kernel_rfl) (by kernel_rfl) ?_
    repeat (go_big_quiet_step (fail))
    refine wpQuiet_nil ?_
    intro w5 hb5
    go_wp2_with fail
    go_ret
    exact ⟨rfl,hb5⟩
   ·obtain rfl:R=false:=by rw [CE.out];simp [g0,g1,g2]
    go_enter Tryz.func139,Tryz.ntmps139
    go_wp2_with fail
    refine wp_region_bw (by kernel_rfl) (by kernel_rfl) ?_
    repeat (go_big_quiet_step (fail))
    refine wpQuiet_nil ?_
    intro w5 hb5
    go_wp2_with fail
    go_ret
    exact ⟨rfl,hb5⟩
  ·obtain rfl:R=false:=by rw [CE.out];simp [g0,g1]
   go_enter Tryz.func139,Tryz.ntmps139
   go_wp2_with fail
   refine wp_region_bw (by kernel_rfl) (by kernel_rfl) ?_
   repeat (go_big_quiet_step (fail))
   refine wpQuiet_nil ?_
   intro w5 hb5
   go_wp2_with fail
   go_ret
   exact ⟨rfl,hb5⟩
 ·obtain rfl:R=false:=by rw [CE.out];simp [g0]
  go_enter Tryz.func139,Tryz.ntmps139
  go_wp2_with fail
  refine wp_region_bw (by kernel_rfl) (by kernel_rfl) ?_
  repeat (go_big_quiet_step (fail))
  refine wpQuiet_nil ?_
  intro w5 hb5
  go_wp2_with fail
  go_ret
  exact ⟨rfl,hb5⟩
def delF (n:Nat) (c po:Nat→Nat→Bool):Nat→Nat→Bool:=fAnd po (fInv (fOr (fComp n c c) (fComp n (fComp n c (fClo n (fOr c po))) c)))
def delays (p:List (List Ins)):List Int:=relOf (evAll p).length (delF (evAll p).length (confB (evAll p)) (poB (evAll p)))
def delayV (p:List (List Ins)):List Int:=if progValid p=true then delays p else []
theorem delF_spec (n:Nat) (c po:Nat→Nat→Bool):fAnd po (fInv (fOr (fComp n c (fComp n (fClo n (fOr po c)) c)) (fComp n c c)))=delF n c po:=by
 unfold delF
 have e1:fOr po c=fOr c po:=by funext i k;unfold fOr;exact Bool.or_comm _ _
 have e2:fOr (fComp n c (fComp n (fClo n (fOr c po)) c)) (fComp n c c)=fOr (fComp n c c) (fComp n (fComp n c (fClo n (fOr c po))) c):=by
  funext i k
  unfold fOr
  rw [Bool.or_comm,← fComp_assoc]
 rw [e1,e2]
theorem delayRel_any (v:Value) (p:List (List Ins)) (w:World) (hp:RepP w v p) (hl:p.flatten.length≤50) (hn:(evAll p).length≤16) :
 Calls Tryz.prog 84 #[v] w (RetOwn IntE 3 w (delays p)):=by
 have HP:=hide hp
 have HE:=hide (events_any v p w hp (by omega))
 have HCF:=hide (fun w' h=>conflictRel_any v p w' h hl)
 have CD:Hid (delays p=relOf (evAll p).length (delF (evAll p).length (confB (evAll p)) (poB (evAll p)))):=hide rfl
 have CC:Hid (conflicts p=relOf (evAll p).length (confB (evAll p))):=hide rfl
 clear hp
 go_enter Tryz.func84,Tryz.ntmps84
 go_wp2_with fail
 (with_reducible refine HE.out.mono ?_);rintro e w2 ⟨v2,rfl,o2,hb2⟩
 rw [CC.out] at HCF
 generalize evAll p=L at *
 obtain ⟨a2,c2,rfl, -, -, -, -⟩:=o2.rep.open
 have hb3:=belowAlloc0 w2 (.cells #[.slice a2 L.length c2] 108)
 have HB3:=hide (hb2.trans (hb3.mono hb2.size))
 have m1:(w2.alloc (.cells #[.slice a2 L.length c2] 108)).cell? ⟨w2.heap.size,0,none⟩=some (.slice a2 L.length c2):=by simp [go_sem]
 have HC:=hide (pairsOf_del ⟨w2.heap.size,0,none⟩ L.length (poB L) _ (by omega) (delayRel_1 w2.heap.size c2 a2 L _ m1 (o2.rep.below hb3)))
 have HP3:=hide (HP.out.below HB3.out)
 clear m1 hb3 hb2 o2 HE HP
 generalize hP':poB L=po at *
 generalize hC':confB L=cf at *
 clear hP' hC'
 generalize L.length=n at *
 go_wp2_with fail
 (with_reducible refine HC.out.mono ?_);rintro e w4 ⟨u4,rfl,o4,hb4⟩
 have PO4:=hide o4.rep;have HB4:=hide (HB3.out.trans (hb4.mono HB3.out.size));have HP4:=hide (HP3.out.below hb4)
 clear o4 hb4 HC HB3 HP3
 go_wp2_with fail
 (with_reducible refine (HCF.out _ HP4.out).mono ?_);rintro e w5 ⟨u5,rfl,o5,hb5⟩
 have CF5:=hide o5.rep;have HB5:=hide (HB4.out.trans (hb5.mono HB4.out.size));have PO5:=hide (PO4.out.below hb5)
 clear o5 hb5 HCF HB4 HP4 PO4
 go_wp2_with fail
 (with_reducible refine (ComposeRel_any u5 u5 n cf cf _ CF5.out CF5.out hn).mono ?_);rintro e w6 ⟨u6,rfl,o6,hb6⟩
 have CC6:=hide o6.rep;have CF6:=hide (CF5.out.below hb6);have HB6:=hide (HB5.out.trans (hb6.mono HB5.out.size));have PO6:=hide (PO5.out.below hb6)
 clear o6 hb6 CF5 HB5 PO5
 go_wp2_with fail
 (with_reducible refine (UnionRel_any u5 u4 n cf po _ CF6.out PO6.out hn).mono ?_);rintro e w7 ⟨u7,rfl,o7,hb7⟩
 have CC7:=hide (CC6.out.below hb7);have CF7:=hide (CF6.out.below hb7);have HB7:=hide (HB6.out.trans (hb7.mono HB6.out.size));have PO7:=hide (PO6.out.below hb7);have U7:=hide o7.rep
 clear o7 hb7 CF6 HB6 PO6 CC6
 go_wp2_with fail
 (with_reducible refine (ClosureRel_any u7 n (fOr cf po) _ U7.out hn).mono ?_);rintro e w8 ⟨u8,rfl,o8,hb8⟩
 have CC8:=hide (CC7.out.below hb8);have CF8:=hide (CF7.out.below hb8);have HB8:=hide (HB7.out.trans (hb8.mono HB7.out.size));have PO8:=hide (PO7.out.below hb8);have U8:=hide o8.rep
 clear o8 hb8 CF7 HB7 PO7 CC7 U7
 go_wp2_with fail
 (with_reducible refine (ComposeRel_any u5 u8 n cf (fClo n (fOr cf po)) _ CF8.out U8.out hn).mono ?_);rintro e w9 ⟨u9,rfl,o9,hb9⟩
 have CC9:=hide (CC8.out.below hb9);have CF9:=hide (CF8.out.below hb9);have HB9:=hide (HB8.out.trans (hb9.mono HB8.out.size));have PO9:=hide (PO8.out.below hb9);have U9:=hide o9.rep
 clear o9 hb9 CF8 HB8 PO8 CC8 U8
 go_wp2_with fail
 (with_reducible refine (ComposeRel_any u9 u5 n (fComp n cf (fClo n (fOr cf po))) cf _ U9.out CF9.out hn).mono ?_);rintro e w10 ⟨u10,rfl,o10,hb10⟩
 have CC10:=hide (CC9.out.below hb10);have HB10:=hide (HB9.out.trans (hb10.mono HB9.out.size));have PO10:=hide (PO9.out.below hb10);have U10:=hide o10.rep
 clear o10 hb10 CF9 HB9 PO9 CC9 U9
 go_wp2_with fail
 (with_reducible refine (UnionRel_any u6 u10 n (fComp n cf cf) (fComp n (fComp n cf (fClo n (fOr cf po))) cf) _ CC10.out U10.out hn).mono ?_);rintro e w11 ⟨u11,rfl,o11,hb11⟩
 have HB11:=hide (HB10.out.trans (hb11.mono HB10.out.size));have PO11:=hide (PO10.out.below hb11);have U11:=hide o11.rep
 clear o11 hb11 HB10 PO10 CC10 U10
 go_wp2_with fail
 (with_reducible refine (InverseRel_any u11 n _ _ U11.out hn).mono ?_);rintro e w12 ⟨u12,rfl,o12,hb12⟩
 have HB12:=hide (HB11.out.trans (hb12.mono HB11.out.size));have PO12:=hide (PO11.out.below hb12);have U12:=hide o12.rep
 clear o12 hb12 HB11 PO11 U11
 go_wp2_with fail
 (with_reducible refine (MeetRel_any u4 u12 n po _ _ PO12.out U12.out hn).mono ?_);rintro e w13 ⟨u13,rfl,o13,hb13⟩
 have HO:=hide o13;have HB13:=hide (HB12.out.trans (hb13.mono HB12.out.size));have hsz:=HB12.out.size
 clear o13 hb13 HB12 PO12 U12
 go_wp2_with fail
 go_ret
 rw [CD.out]
 exact ⟨_,rfl,HO.out.mono hsz,HB13.out⟩
theorem DelayRel_any (v:Value) (p:List (List Ins)) (w:World) (hp:RepP w v p) (hl:p.flatten.length≤1048576) :
 Calls Tryz.prog 33 #[v] w (RetOwn IntE 3 w (delayV p)):=by
 have HP:=hide hp;clear hp
 have HV:=hide (fun w' h=>ProgramValid_any v p w' h hl)
 have E2:Hid (delayV p=if progValid p=true then delays p else []):=hide rfl
 have HF:Hid (progValid p=true→p.flatten.length≤50∧(evAll p).length≤16):=hide (fun h=>by
  obtain ⟨hv1, -,hv3, -, -⟩:=valid_le h
  have:=flatten_le7' (p:=p) (fun r hr=>(hv3 r hr).1)
  have:=evAll_le h
  omega)
 obtain ⟨a,c,rfl, -, -, -, -⟩:=HP.out.open
 generalize progValid p=b at *
 cases b
 ·go_enter Tryz.func33,Tryz.ntmps33
  go_wp2_with fail
  (with_reducible refine (HV.out _ HP.out).mono ?_);rintro e w1 ⟨rfl,hb1⟩
  go_wp2_with fail
  go_ret
  rw [E2.out]
  exact ⟨_,rfl,Own.nil _ _ _,hb1⟩
 ·have E3:Hid (delayV p=delays p):=hide (by rw [E2.out];rfl)
  have HC:=hide (fun w' h=>delayRel_any (.slice a p.length c) p w' h (HF.out rfl).1 (HF.out rfl).2)
  go_enter Tryz.func33,Tryz.ntmps33
  go_wp2_with fail
  (with_reducible refine (HV.out _ HP.out).mono ?_);rintro e w1 ⟨rfl,hb1⟩
  go_wp2_with fail
  (with_reducible refine (HC.out _ (HP.out.below hb1)).mono ?_);rintro e w2 ⟨v2,rfl,o2,hb2⟩
  go_wp2_with fail
  go_ret
  rw [E3.out]
  exact ⟨_,rfl,o2.mono hb1.size,hb1.trans (hb2.mono hb1.size)⟩
theorem l10Po_any (v:Value) (p:List (List Ins)) (w:World) (hp:RepP w v p) (hl:p.flatten.length≤50) :
 Calls Tryz.prog 146 #[v] w (RetOwn IntE 3 w (relOf (evAll p).length (poB (evAll p)))):=by
 obtain ⟨a,c,rfl, -, -, -,hp⟩:=hp.open
 have HP:=hide hp;clear hp
 have HE:=hide (fun w' h=>l6Events_any (.slice a p.length c) p w' h (by omega))
 have hn:(evAll p).length≤60:=by have:=evAll_length p;omega
 go_enter Tryz.func146,Tryz.ntmps146
 go_wp2_with fail
 (with_reducible refine (HE.out _ HP.out).mono ?_);rintro e w2 ⟨v2,rfl,o2,hb2⟩
 generalize evAll p=L at *
 obtain ⟨a2,c2,rfl, -, -, -, -⟩:=o2.rep.open
 generalize hnn:L.length=n at *
 have H:=hide hnn;clear hnn
 have hown:=Own.empty (E:=IntE) 3 w2 (Nat.le_refl _)
 have hb3:=belowAlloc0 w2 (.cells #[] 3)
 have HL:=hide o2.rep
 have HB2:=hide hb2
 clear o2 hb2
 go_wp2_with fail
 go_loopw [4,5] (fun s i wr => ∃ t:Nat,t≤n∧i = .int .i64 t∧Hid (OwnN wr w2.heap.size s ((relOf n (poB L)).take t))∧Hid (Below w2.heap.size w2 wr)) (fun _ i _=>n - (intOf i).toNat)
 case atStart=>exact ⟨0,by omega,rfl,hide (by simpa using hown),hide hb3⟩
 case round =>
  obtain ⟨t,ht,rfl,HO,HB⟩:=hrel
  by_cases hlt:t < n
  ·have hlt':=nat_of_lt hlt
   have TS:=hide (take_rel n t (poB L) hlt)
   have TL:((relOf n (poB L)).take t).length≤68719476736:=by rw [List.length_take,relOf_length];omega
   generalize (relOf n (poB L)).take t=G at *
   obtain ⟨ea,hea⟩:=get_of_lt (xs:=L) (k:=t) (by rw [H.out];exact hlt)
   go_wp2_with fail
   go_loopw [6,7] (fun q i wr => ∃ k:Nat,k≤n∧i = .int .i64 k∧q = .int .i64 (bitsTo (poB L t) k)∧Hid (OwnN wr w2.heap.size u4 G)∧Hid (Below w2.heap.size w2 wr)) (fun _ i _=>n - (intOf i).toNat)
   case atStart=>exact ⟨0,by omega,rfl,rfl,HO,HB⟩
   case round =>
    obtain ⟨k,hk,rfl,rfl,HO,HB⟩:=hrel
    by_cases hlt2:k < n
    ·have hlt2':=nat_of_lt hlt2
     obtain ⟨eb,heb⟩:=get_of_lt (xs:=L) (k:=k) (by rw [H.out];exact hlt2)
     obtain ⟨d,o1,rfl,hd,i0,i1,i2,i3,i4⟩:=(HL.out.below HB.out).ev hea
     obtain ⟨d',o1',hde,hd',j0,j1,j2,j3,j4⟩:=(HL.out.below HB.out).ev heb
     simp only [Option.some.injEq,Addr.mk.injEq,and_true] at hde
     obtain ⟨rfl,rfl⟩:=hde
     have CE:=hide (poB_eq hea heb)
     have BS:=hide (bitsTo_step (poB L t) k)
     generalize hR:poB L t k=R at *
     generalize bitsTo (poB L t) k=row at *
     generalize hrow2:bitsTo (poB L t) (k+1)=row2 at *
     have RW2:=hide hrow2;clear hrow2 hR
     have HEB:=hide heb;have HEA:=hide hea
     clear heb
     generalize ea.t=at' at *;generalize eb.t=bt' at *;generalize ea.i=ai at *;generalize eb.i=bi at *
     rcases Bool.eq_false_or_eq_true (decide (0≤at')) with g0 | g0
     ·rcases Bool.eq_false_or_eq_true ((at'==bt')) with g1 | g1
      ·rcases Bool.eq_false_or_eq_true (decide (ai < bi)) with g2 | g2
       ·obtain rfl:R=true:=by rw [CE.out];simp [g0,g1,g2]
        obtain rfl:row2=bits .or .i64 row (wrap64 ((2:Int) ^ k)):=by rw [BS.out];rfl
        clear CE BS
        go_wp2_with fail
        refine wp_region_bw (by kernel_rfl) (by kernel_rfl) ?_
        repeat (go_big_quiet_step (fail))
        refine wpQuiet_nil ?_
        intro w5 hb5
        have HO5:=hide (HO.out.below hb5);have HB5:=hide (HB.out.trans (hb5.mono HB.out.size))
        clear hb5
        go_wp2_with fail
        go_roundw
        case rel=>exact ⟨k+1,by omega,by go_num,by rw [RW2.out],HO5,HB5⟩
        case measure=>simp [intOf];omega
       ·obtain rfl:R=false:=by rw [CE.out];simp [g0,g1,g2]
        obtain rfl:row2=row:=by rw [BS.out];rfl
        clear CE BS
        go_wp2_with fail
        refine wp_region_bw (by kernel_rfl) (by kernel_rfl) ?_
        repeat (go_big_quiet_step (fail))
        refine wpQuiet_nil ?_
        intro w5 hb5
        have HO5:=hide (HO.out.below hb5);have HB5:=hide (HB.out.trans (hb5.mono HB.out.size))
        clear hb5
        go_wp2_with fail
        go_roundw
        case rel=>exact ⟨k+1,by omega,by go_num,by rw [RW2.out],HO5,HB5⟩
        case measure=>simp [intOf];omega
      ·obtain rfl:R=false:=by rw [CE.out];simp [g0,g1]
       obtain rfl:row2=row:=by rw [BS.out];rfl
       clear CE BS
       go_wp2_with fail
       refine wp_region_bw (by kernel_rfl) (by kernel_rfl) ?_
       repeat (go_big_quiet_step (fail))
       refine wpQuiet_nil ?_
       intro w5 hb5
       have HO5:=hide (HO.out.below hb5);have HB5:=hide (HB.out.trans (hb5.mono HB.out.size))
       clear hb5
       go_wp2_with fail
       go_roundw
       case rel=>exact ⟨k+1,by omega,by go_num,by rw [RW2.out],HO5,HB5⟩
       case measure=>simp [intOf];omega
     ·obtain rfl:R=false:=by rw [CE.out];simp [g0]
      obtain rfl:row2=row:=by rw [BS.out];rfl
      clear CE BS
      go_wp2_with fail
      refine wp_region_bw (by kernel_rfl) (by kernel_rfl) ?_
      repeat (go_big_quiet_step (fail))
      refine wpQuiet_nil ?_
      intro w5 hb5
      have HO5:=hide (HO.out.below hb5);have HB5:=hide (HB.out.trans (hb5.mono HB.out.size))
      clear hb5
      go_wp2_with fail
      go_roundw
      case rel=>exact ⟨k+1,by omega,by go_num,by rw [RW2.out],HO5,HB5⟩
      case measure=>simp [intOf];omega
    ·have e:k=n:=by omega
     subst e
     have HO1:=hide (HO.out.alloc (.cells #[.int .i64 (bitsTo (poB L t) k)] 3))
     have hsz:=HB.out.size
     go_wp2_with (at_builtin;refine wpList_app IntE 3 Tryz.infoInt rfl Tryz.underlying40 w2.heap.size _ G (bitsTo (poB L t) k) HO1.out (by decide) TL (by simp;omega) rfl _ _ rfl rfl wr.heap.size 0 1 rfl news_alloc ?_;intro v' w1 hown1 hgr1)
     have HOWN6:=hide hown1;have HB6:=hide (below_app HB.out HO.out hgr1)
     clear hown1 hgr1
     go_roundw
     case rel=>exact ⟨t+1,by omega,by go_num,hide (by rw [TS.out];exact HOWN6.out),HB6⟩
     case measure=>simp [intOf];omega
  ·have e:t=n:=by omega
   subst e
   have ho:=HO.out
   rw [List.take_of_length_le (by rw [relOf_length];exact Nat.le_refl _)] at ho
   have HO2:=hide ho
   clear ho
   go_wp2_with fail
   go_ret
   exact ⟨_,rfl,HO2.out.mono HB2.out.size,HB2.out.trans (HB.out.mono HB2.out.size)⟩
theorem l10Delays_any (v:Value) (p:List (List Ins)) (w:World) (hp:RepP w v p) (hl:p.flatten.length≤50) :
 Calls Tryz.prog 85 #[v] w (RetOwn IntE 3 w (delays p)):=by
 have HP:=hide hp
 have HPO:=hide (l10Po_any v p w hp hl)
 have HCF:=hide (fun w' h=>l10Conflicts_any v p w' h hl)
 have hn:(evAll p).length≤60:=by have:=evAll_length p;omega
 have CD:Hid (delays p=relOf (evAll p).length (delF (evAll p).length (confB (evAll p)) (poB (evAll p)))):=hide rfl
 have CC:Hid (conflicts p=relOf (evAll p).length (confB (evAll p))):=hide rfl
 rw [CC.out] at HCF
 clear hp
 generalize evAll p=L at *
 generalize hP':poB L=po at *
 generalize hC':confB L=cf at *
 clear hP' hC'
 generalize L.length=n at *
 have DS:=hide (delF_spec n cf po)
 go_enter Tryz.func85,Tryz.ntmps85
 go_wp2_with fail
 (with_reducible refine HPO.out.mono ?_);rintro e w4 ⟨u4,rfl,o4,hb4⟩
 have PO4:=hide o4.rep;have HB4:=hide hb4;have HP4:=hide (HP.out.below hb4)
 clear o4 hb4 HPO HP
 go_wp2_with fail
 (with_reducible refine (HCF.out _ HP4.out).mono ?_);rintro e w5 ⟨u5,rfl,o5,hb5⟩
 have CF5:=hide o5.rep;have HB5:=hide (HB4.out.trans (hb5.mono HB4.out.size));have PO5:=hide (PO4.out.below hb5)
 clear o5 hb5 HCF HB4 HP4 PO4
 go_wp2_with fail
 (with_reducible refine (l2Union_any u4 u5 n po cf _ PO5.out CF5.out hn).mono ?_);rintro e w6 ⟨u6,rfl,o6,hb6⟩
 have U6:=hide o6.rep;have CF6:=hide (CF5.out.below hb6);have HB6:=hide (HB5.out.trans (hb6.mono HB5.out.size));have PO6:=hide (PO5.out.below hb6)
 clear o6 hb6 CF5 HB5 PO5
 go_wp2_with fail
 (with_reducible refine (l2Closure_any u6 n _ _ U6.out hn).mono ?_);rintro e w7 ⟨u7,rfl,o7,hb7⟩
 have U7:=hide o7.rep;have CF7:=hide (CF6.out.below hb7);have HB7:=hide (HB6.out.trans (hb7.mono HB6.out.size));have PO7:=hide (PO6.out.below hb7)
 clear o7 hb7 CF6 HB6 PO6 U6
 go_wp2_with fail
 (with_reducible refine (l2Compose_any u7 u5 n _ cf _ U7.out CF7.out hn).mono ?_);rintro e w8 ⟨u8,rfl,o8,hb8⟩
 have U8:=hide o8.rep;have CF8:=hide (CF7.out.below hb8);have HB8:=hide (HB7.out.trans (hb8.mono HB7.out.size));have PO8:=hide (PO7.out.below hb8)
 clear o8 hb8 CF7 HB7 PO7 U7
 go_wp2_with fail
 (with_reducible refine (l2Compose_any u5 u8 n cf _ _ CF8.out U8.out hn).mono ?_);rintro e w9 ⟨u9,rfl,o9,hb9⟩
 have U9:=hide o9.rep;have CF9:=hide (CF8.out.below hb9);have HB9:=hide (HB8.out.trans (hb9.mono HB8.out.size));have PO9:=hide (PO8.out.below hb9)
 clear o9 hb9 CF8 HB8 PO8 U8
 go_wp2_with fail
 (with_reducible refine (l2Compose_any u5 u5 n cf cf _ CF9.out CF9.out hn).mono ?_);rintro e w10 ⟨u10,rfl,o10,hb10⟩
 have U10:=hide o10.rep;have U9':=hide (U9.out.below hb10);have HB10:=hide (HB9.out.trans (hb10.mono HB9.out.size));have PO10:=hide (PO9.out.below hb10)
 clear o10 hb10 CF9 HB9 PO9 U9
 go_wp2_with fail
 (with_reducible refine (l2Union_any u9 u10 n _ _ _ U9'.out U10.out hn).mono ?_);rintro e w11 ⟨u11,rfl,o11,hb11⟩
 have U11:=hide o11.rep;have HB11:=hide (HB10.out.trans (hb11.mono HB10.out.size));have PO11:=hide (PO10.out.below hb11)
 clear o11 hb11 HB10 PO10 U9' U10
 go_wp2_with fail
 (with_reducible refine (l2Inverse_any u11 n _ _ U11.out hn).mono ?_);rintro e w12 ⟨u12,rfl,o12,hb12⟩
 have U12:=hide o12.rep;have HB12:=hide (HB11.out.trans (hb12.mono HB11.out.size));have PO12:=hide (PO11.out.below hb12)
 clear o12 hb12 HB11 PO11 U11
 go_wp2_with fail
 (with_reducible refine (l2Meet_any u4 u12 n po _ _ PO12.out U12.out hn).mono ?_);rintro e w13 ⟨u13,rfl,o13,hb13⟩
 have HO:=hide o13;have HB13:=hide (HB12.out.trans (hb13.mono HB12.out.size));have hsz:=HB12.out.size
 clear o13 hb13 HB12 PO12 U12
 go_wp2_with fail
 go_ret
 rw [CD.out,← DS.out]
 exact ⟨_,rfl,HO.out.mono hsz,HB13.out⟩
theorem sDelayRel_any (v:Value) (p:List (List Ins)) (w:World) (hp:RepP w v p) (hl:p.flatten.length≤1048576) (hpl:p.length≤1048576) :
 Calls Tryz.prog 34 #[v] w (RetOwn IntE 3 w (delayV p)):=by
 have HP:=hide hp;clear hp
 have HV:=hide (fun w' h=>sProgramValid_any v p w' h hl hpl)
 have E2:Hid (delayV p=if progValid p=true then delays p else []):=hide rfl
 have HF:Hid (progValid p=true→p.flatten.length≤50):=hide (fun h=>by
  obtain ⟨hv1, -,hv3, -, -⟩:=valid_le h
  have:=flatten_le7' (p:=p) (fun r hr=>(hv3 r hr).1)
  omega)
 obtain ⟨a,c,rfl, -, -, -, -⟩:=HP.out.open
 generalize progValid p=b at *
 cases b
 ·go_enter Tryz.func34,Tryz.ntmps34
  go_wp2_with fail
  (with_reducible refine (HV.out _ HP.out).mono ?_);rintro e w1 ⟨rfl,hb1⟩
  go_wp2_with fail
  go_ret
  rw [E2.out]
  exact ⟨_,rfl,Own.empty _ _ hb1.size,hb1.trans ((belowAlloc0 _ _).mono hb1.size)⟩
 ·have E3:Hid (delayV p=delays p):=hide (by rw [E2.out];rfl)
  have HC:=hide (fun w' h=>l10Delays_any (.slice a p.length c) p w' h (HF.out rfl))
  go_enter Tryz.func34,Tryz.ntmps34
  go_wp2_with fail
  (with_reducible refine (HV.out _ HP.out).mono ?_);rintro e w1 ⟨rfl,hb1⟩
  go_wp2_with fail
  (with_reducible refine (HC.out _ (HP.out.below hb1)).mono ?_);rintro e w2 ⟨v2,rfl,o2,hb2⟩
  go_wp2_with fail
  go_ret
  rw [E3.out]
  exact ⟨_,rfl,o2.mono hb1.size,hb1.trans (hb2.mono hb1.size)⟩
end Go.Proofs.YtlddmagfbcomgaaGreat
namespace Go.Proofs.YtlddmagfbcomgaaGreat
open Go.RowKit
def IdxOfB {α:Type} (f:α→Bool) (xs:List α) (q:Int):Prop:=(q = -1∧∀ x∈xs,f x=false)∨∃ (t:Nat) (x:α),q=t∧xs[t]? = some x∧f x=true∧∀ y∈xs.take t,f y=false
theorem none_succB {α:Type} {f:α→Bool} {xs:List α} {t:Nat} {x:α} (h:∀ y∈xs.take t,f y=false) (hx:xs[t]? = some x) (hf:f x=false):∀ y∈xs.take (t+1),f y=false:=by
 intro y hy
 rw [List.take_add_one,hx] at hy
 simp at hy
 rcases hy with hy | rfl
 ·exact h y hy
 ·exact hf
theorem below_of_row {B g:Nat} {w w':World} (h:w.grownBy w' (some g)) (hg:B≤g) (hs:B≤w.heap.size):Below B w w':=⟨h.os,h.tape,h.output,h.size,fun k hk=>h.block k (by omega) (by simp;omega)⟩
def anyTo (f:Nat→Bool):Nat→Bool
 | 0=>false
 | m+1=>anyTo f m||f m
theorem anyTo_true {f:Nat→Bool} {k m:Nat} (h:f k=true) (hk:k < m):anyTo f m=true:=by
 induction m with
 | zero=>omega
 | succ m ih =>
  unfold anyTo
  by_cases e:k=m
  ·subst e;rw [h,Bool.or_true]
  ·rw [ih (by omega),Bool.true_or]
def hitB (L:List Ev) (D:Nat→Nat→Bool) (g:Gp) (i k:Nat):Bool:=match L[i]?,L[k]? with
 | some a,some b=>(a.t==g.t)&&(D i k&&(decide (a.i < g.i)&&decide (g.i≤b.i)))
 | _,_=>false
theorem hitB_eq {L:List Ev} {D:Nat→Nat→Bool} {g:Gp} {i k:Nat} {a b:Ev} (hi:L[i]? = some a) (hk:L[k]? = some b):hitB L D g i k=((a.t==g.t)&&(D i k&&(decide (a.i < g.i)&&decide (g.i≤b.i)))):=by
 unfold hitB;rw [hi,hk]
def needB (L:List Ev) (D:Nat→Nat→Bool) (g:Gp):Bool:=anyTo (fun i=>anyTo (hitB L D g i) L.length) L.length
def TestsG (a1 a2:Addr) (f:Gp→Bool) (w0:World):Prop:=∀ (x:Gp) (w:World),Below w0.heap.size w0 w→Calls Tryz.prog 95 #[.agg #[.int .i64 x.t, .int .i64 x.i], .pointer (some a1), .pointer (some a2)] w fun e w'=>e = .returned (.bool (f x))∧Below w.heap.size w w'
theorem IndexFunc_dg (a1 a2:Addr) (v:Value) (xs:List Gp) (f:Gp→Bool) (w0 w:World) (hx:Rep GapE w v xs) (hf:TestsG a1 a2 f w0) (hw:Below w0.heap.size w0 w) :
 Calls Tryz.prog 104 #[v, .func (.func 95) #[] #[.pointer (some a1), .pointer (some a2)]] w fun e w'=>(∃ q:Int,e = .returned (.int .i64 q)∧IdxOfB f xs q)∧Below w.heap.size w w':=by
 obtain ⟨a,c,rfl,hc1,hc2,hc3,hx⟩:=hx.open
 have HX:=hide hx;clear hx
 have HF:=hide hf;clear hf
 generalize hn:xs.length=n at *
 have H:=hide hn;clear hn
 go_enter Tryz.func104,Tryz.ntmps104
 go_wp2_with fail
 go_loopw [8] (fun i wr => ∃ t:Nat,t≤n∧i = .int .i64 t∧Hid (∀ x∈xs.take t,f x=false)∧Below w.heap.size w wr) (fun i _=>n - (intOf i).toNat)
 case atStart=>exact ⟨0,Nat.zero_le _,rfl,hide (by simp),Below.refl _ _⟩
 case round =>
  obtain ⟨t,ht,rfl,hno,hb⟩:=hrel
  by_cases hlt:t < n
  ·obtain ⟨x,hxk⟩:=get_of_lt (xs:=xs) (k:=t) (by rw [H.out];exact hlt)
   obtain ⟨b,o,rfl,hbl,i0,i1⟩:=(HX.out.below hb).gap hxk
   have hlt':=nat_of_lt hlt
   have X:=hide hxk;clear hxk
   generalize hfx:f x=fx
   have FX:=hide hfx;clear hfx
   have hcall:=HF.out x _ (hw.trans (hb.mono hw.size))
   rw [FX.out] at hcall
   have HC:=hide hcall;clear hcall
   cases fx
   ·have NO:Hid (∀ x∈xs.take (t+1),f x=false):=hide (none_succB hno.out X.out FX.out)
    go_wp2_with fail
    (with_reducible refine HC.out.mono ?_);rintro e w2 ⟨rfl,hb2⟩
    go_wp2_with fail
    go_roundw
    case rel=>exact ⟨t+1,by omega,by go_num,NO,hb.trans (hb2.mono hb.size)⟩
    case measure=>simp [intOf];omega
   ·go_wp2_with fail
    (with_reducible refine HC.out.mono ?_);rintro e w2 ⟨rfl,hb2⟩
    go_wp2_with fail
    go_ret
    exact ⟨⟨_,rfl, .inr ⟨t,x,rfl,X.out,FX.out,hno.out⟩⟩,hb.trans (hb2.mono hb.size)⟩
  ·go_wp2_with fail
   go_ret
   refine ⟨⟨_,rfl, .inl ⟨rfl, ?_⟩⟩,hb⟩
   have h:=hno.out
   rwa [List.take_of_length_le (by rw [H.out];omega)] at h
theorem DeleteFunc_dg (a1 a2:Addr) (v:Value) (xs:List Gp) (f:Gp→Bool) (w0 w:World) (base:Nat) (hx:Own GapE 64 w base v xs) (hl:xs.length≤1048576) (hf:TestsG a1 a2 f w0) (hw:Below w0.heap.size w0 w) (hbase:w0.heap.size≤base) :
 Calls Tryz.prog 94 #[v, .func (.func 95) #[] #[.pointer (some a1), .pointer (some a2)]] w fun e w'=>DelPost GapE 64 w base v (xs.filter fun x => !f x) e w':=by
 have DP:Hid (∀ v' w',Own GapE 64 w' base v' (xs.filter fun x => !f x)→w.grownBy w' v.ownBlock→v'.ownBlock=v.ownBlock→DelPost GapE 64 w base v (xs.filter fun x => !f x) (.returned v') w'):=hide (fun v' w' h1 h2 h3=>⟨v',rfl,h1,h2,h3⟩)
 have HF:=hide hf;clear hf
 have HX:=hide hx;clear hx
 have HI:=hide (fun h=>IndexFunc_dg a1 a2 v xs f w0 w h HF.out hw)
 generalize hG:(xs.filter fun x => !f x)=G at *
 have HG:=hide hG;clear hG
 go_enter Tryz.func94,Tryz.ntmps94
 go_wp2_with fail
 (with_reducible refine (HI.out HX.out.rep).mono ?_);rintro e w1 ⟨⟨q,rfl,hq⟩,hb1⟩
 have HX1:=hide (HX.out.below hb1)
 have hg1:=grown_of_below hb1 v.ownBlock
 rcases hq with ⟨rfl,hno⟩ | ⟨t,x0,rfl,ht,hft,hno⟩
 ·have e1:G=xs:=by rw [← HG.out];exact filter_all (fun x h=>by rw [hno x h];rfl)
  have HE:=hide e1;clear e1 hno
  go_wp2_with fail
  go_ret
  exact DP.out _ _ (by rw [HE.out];exact HX1.out) hg1 rfl
 ·rcases HX.out.shape with ⟨-,rfl⟩ | ⟨g,c,rfl,hg,hgl,hc1,hc2⟩
  ·simp at ht
  ·have htl:=(List.getElem?_eq_some_iff.1 ht).1
   have hstart:=del_start ht hft hno
   have ST:=hide hstart;clear hstart ht hft hno
   generalize hn:xs.length=n at *
   have H:=hide hn;clear hn
   have htl':=nat_of_lt htl
   have hm1:((t:Int) == -1)=false:=by rw [beq_eq_false_iff_ne];omega
   go_wp2_with fail
   go_loopw [5,6] (fun si sj wr => ∃ (i j:Nat) (L:List Gp),i < j∧j≤n∧si = .int .i64 i∧sj = .int .i64 j∧Own GapE 64 wr base (.slice (some ⟨g,0,none⟩) n c) L∧Hid (DelInv f xs L i j)∧w.grownBy wr (some g)) (fun _ sj _=>n - (intOf sj).toNat)
   case atStart=>exact ⟨t,t+1,xs,by omega,by omega,rfl,rfl,HX1.out,hide ST.out,hg1⟩
   case round =>
    obtain ⟨i,j,L,hij,hj,rfl,rfl,ho,hI,hgr⟩:=hrel
    have hLl:L.length=n:=ho.len.symm
    have HLL:=hide hLl;clear hLl
    have hbr:=hw.trans (below_of_row hgr (by omega) hw.size)
    by_cases hlt:j < n
    ·obtain ⟨x,hxk⟩:=get_of_lt (xs:=xs) (k:=j) (by rw [H.out];exact hlt)
     have hLj:=hI.out.get hxk
     obtain ⟨y,hyi⟩:=get_of_lt (xs:=L) (k:=i) (by rw [HLL.out];omega)
     obtain ⟨-,m0,m1, -⟩:=ho.gap hyi
     obtain ⟨hgl2,j0,j1,hfr⟩:=ho.gap hLj
     have hset:=ho.setGap hyi x
     have hlt':=nat_of_lt hlt
     have hij':=nat_of_lt hij
     have X:=hide hxk;have SET:=hide hset;have YI:=hide hyi;have LJ:=hide hLj
     clear hxk hset hyi hLj
     have hcall:=HF.out x _ (hbr.alloc hbr.size (.cells #[.int .i64 x.t, .int .i64 x.i] 64))
     generalize hfx:f x=fx at *
     have FX:=hide hfx;have HC:=hide hcall
     clear hfx hcall
     cases fx
     ·have KEEP:=hide (hI.out.keep hij X.out FX.out)
      go_wp2_with fail
      (with_reducible refine HC.out.mono ?_);rintro e w2 ⟨rfl,hb2⟩
      obtain ⟨hc2,hf2⟩:=bcell hb2
      have hsz2:wr.heap.size+1≤w2.heap.size:=by have:=hb2.size;simp at this;omega
      have hset2:=(ho.alloc (.cells #[.int .i64 x.t, .int .i64 x.i] 64)).below hb2
      have hset3:=hset2.setGap YI.out x
      have S3:=hide hset3;clear hset2 hset3
      have hgr2:=grown_trans hgr (grown_trans (World.grownBy_alloc wr (.cells #[.int .i64 x.t, .int .i64 x.i] 64) (some g)) (grown_of_below hb2 (some g)))
      go_wp2_with fail
      go_roundw
      case rel=>exact ⟨i+1,j+1,L.set i x,by omega,by omega,by go_num,by go_num,S3.out,hide KEEP.out,grown_set (grown_set hgr2 _ _) _ _⟩
      case measure=>simp [intOf];omega
     ·have SKIP:=hide (hI.out.skip X.out FX.out)
      go_wp2_with fail
      (with_reducible refine HC.out.mono ?_);rintro e w2 ⟨rfl,hb2⟩
      have hset2:=(ho.alloc (.cells #[.int .i64 x.t, .int .i64 x.i] 64)).below hb2
      have hgr2:=grown_trans hgr (grown_trans (World.grownBy_alloc wr (.cells #[.int .i64 x.t, .int .i64 x.i] 64) (some g)) (grown_of_below hb2 (some g)))
      go_wp2_with fail
      go_roundw
      case rel=>exact ⟨i,j+1,L,by omega,by omega,rfl,by go_num,hset2,hide SKIP.out,hgr2⟩
      case measure=>simp [intOf];omega
    ·have e:j=n:=by omega
     subst e
     have hin:=hij
     have hin':=nat_of_lt hij
     have hic:i≤c:=by omega
     have DONE:=hide (hI.out.done (by rw [H.out];exact Nat.le_refl _))
     go_wp2_with (refine wpList_clear GapE 64 ⟨0,0⟩ Tryz.infoGap rfl Tryz.underlying24 base g _ c i _ L ho hin rfl _ rfl rfl ?_;intro w3 ho3 hgr3)
     go_ret
     have hcut:=ho3.cut (i:=i) (by omega)
     have hLi:(L.take i).length=i:=by rw [List.length_take,HLL.out];omega
     rw [List.take_append_of_le_length (by omega),List.take_take,Nat.min_self,DONE.out,HG.out] at hcut
     exact DP.out _ _ hcut (grown_trans hgr hgr3) rfl
end Go.Proofs.YtlddmagfbcomgaaGreat
namespace Go.Proofs.YtlddmagfbcomgaaGreat
open Go.RowKit
theorem box_keep {w w':World} {ab:Nat} {cs:Array Value} {T:TypeId} (hb:w.heap[ab]? = some (.cells cs T (0,0))) (h:Below w.heap.size w w'):w'.heap[ab]? = some (.cells cs T (0,0)):=(h.block ab (Array.getElem?_eq_some_iff.1 hb).1).trans hb
theorem box_at {w:World} {ab:Nat} {cs:Array Value} {T:TypeId} (hb:w.heap[ab]? = some (.cells cs T (0,0))) (j:Nat):w.cell? ⟨ab,j,none⟩=cs[j]?:=cell_of_row w ab j cs T (0,0) hb
theorem anyTo_succ_false {f:Nat→Bool} {m:Nat} (h:anyTo f m=false) (h2:f m=false):anyTo f (m+1)=false:=by
 show (anyTo f m||f m)=false
 rw [h,h2];rfl
theorem DelayGaps_1 (B1 B2 lc lc2:Nat) (la la2:Option Addr) (L:List Ev) (D:Nat→Nat→Bool) (w0:World) (h1:w0.cell? ⟨B1,0,none⟩=some (.slice la L.length lc)) (hL:Rep EvE w0 (.slice la L.length lc) L)
 (h2:w0.cell? ⟨B2,0,none⟩=some (.slice la2 L.length lc2)) (hD:Rep IntE w0 (.slice la2 L.length lc2) (relOf L.length D)) (hn:L.length≤16):TestsG ⟨B1,0,none⟩ ⟨B2,0,none⟩ (fun g => !needB L D g) w0:=by
 intro g w hb
 have q1:=(hb.cell (p:=⟨B1,0,none⟩) (lt_of_cell h1)).trans h1
 have q2:=(hb.cell (p:=⟨B2,0,none⟩) (lt_of_cell h2)).trans h2
 have HL:=hide (hL.below hb);have HD:=hide (hD.below hb)
 have HR:=hide (fun i k w' h hi hk=>related_any (.slice la2 L.length lc2) L.length i k D w' h (by omega) hi hk)
 have HE:=hide (fun i k (a b:Ev) (hi:L[i]? = some a) (hk:L[k]? = some b)=>hitB_eq (D:=D) (g:=g) hi hk)
 have NE:Hid (needB L D g=anyTo (fun i=>anyTo (hitB L D g i) L.length) L.length):=hide rfl
 have hB1:=lt_of_cell q1;have hB2:=lt_of_cell q2
 have Q1:=hide q1;have Q2:=hide q2
 clear h1 h2 hb hL hD q2
 show Calls _ _ _ _ fun e w'=>e = .returned (.bool (!needB L D g))∧_
 generalize hN:needB L D g=N at *
 generalize hP:hitB L D g=P at *
 clear hN hP
 generalize hnn:L.length=n at *
 have H:=hide hnn;clear hnn
 go_enter Tryz.func95,Tryz.ntmps95
 go_wp2_with fail
 go_loopw [11] (fun i wr => ∃ t:Nat,t≤n∧i = .int .i64 t∧Hid (anyTo (fun i=>anyTo (P i) n) t=false)∧Hid (wr.heap[w.heap.size]? = some (.cells #[.int .i64 g.t, .int .i64 g.i] 64 (0,0)))∧Hid (Below w.heap.size w wr)) (fun i _=>n - (intOf i).toNat)
 case atStart=>exact ⟨0,Nat.zero_le _,rfl,hide rfl,hide (heap_alloc_new w _),hide (belowAlloc0 w _)⟩
 case round =>
  obtain ⟨t,ht,rfl,HNO,HBX,HB⟩:=hrel
  by_cases hlt:t < n
  ·obtain ⟨wm,rfl⟩:∃ wm:World,wm=wr:=⟨_,rfl⟩
   obtain ⟨ea,hea⟩:=get_of_lt (xs:=L) (k:=t) (by rw [H.out];exact hlt)
   obtain ⟨d,o,rfl,hd,i0,i1,i2,i3,i4⟩:=(HL.out.below HB.out).ev hea
   have hlt':=nat_of_lt hlt
   have c1:=(HB.out.cell (p:=⟨B1,0,none⟩) hB1).trans Q1.out
   have hc1:=lt_of_cell c1
   have HEA:=hide hea;clear hea
   go_wp2_with fail
   go_loopw [18] (fun i wr => ∃ k:Nat,k≤n∧i = .int .i64 k∧Hid (anyTo (P t) k=false)∧Hid (wr.heap[w.heap.size]? = some (.cells #[.int .i64 g.t, .int .i64 g.i] 64 (0,0)))∧Hid (wr.heap[wm.heap.size]? = some (.cells #[.int .i64 ea.t, .int .i64 ea.i, .int .i64 ea.l, .bool ea.r, .bool ea.w] 112 (0,0)))∧Hid (Below w.heap.size w wr)) (fun i _=>n - (intOf i).toNat)
   case atStart=>exact ⟨0,Nat.zero_le _,rfl,hide rfl,hide (box_keep HBX.out (belowAlloc0 wm _)),hide (heap_alloc_new wm _),hide (HB.out.alloc HB.out.size _)⟩
   case round =>
    obtain ⟨k,hk,rfl,HNI,HBX,HBA,HB⟩:=hrel
    by_cases hlt2:k < n
    ·obtain ⟨eb,heb⟩:=get_of_lt (xs:=L) (k:=k) (by rw [H.out];exact hlt2)
     obtain ⟨d',o',hde,hd',j0,j1,j2,j3,j4⟩:=(HL.out.below HB.out).ev heb
     simp only [Option.some.injEq,Addr.mk.injEq,and_true] at hde
     obtain ⟨rfl,rfl⟩:=hde
     have hlt2':=nat_of_lt hlt2
     have CE:=hide (HE.out t k _ _ HEA.out heb)
     have HN1:Hid (P t k=true→N=true):=hide (fun h=>by rw [NE.out];exact anyTo_true (k:=t) (anyTo_true h hlt2) hlt)
     have HN2:Hid (P t k=false→anyTo (P t) (k+1)=false):=hide (fun h=>anyTo_succ_false HNI.out h)
     have hbl1:w.heap.size < wr.heap.size:=(Array.getElem?_eq_some_iff.1 HBX.out).1
     have hbl2:wm.heap.size < wr.heap.size:=(Array.getElem?_eq_some_iff.1 HBA.out).1
     have x0:=box_at HBX.out 0
     have x1:=box_at HBX.out 1
     have y0:=box_at HBA.out 0
     have y1:=box_at HBA.out 1
     have c2:=(HB.out.cell (p:=⟨B2,0,none⟩) hB2).trans Q2.out
     have hc2:=lt_of_cell c2
     have HB3:=hide (HB.out.alloc HB.out.size (.cells #[.int .i64 eb.t, .int .i64 eb.i, .int .i64 eb.l, .bool eb.r, .bool eb.w] 112))
     have HBX3:=hide (box_keep HBX.out (belowAlloc0 wr (.cells #[.int .i64 eb.t, .int .i64 eb.i, .int .i64 eb.l, .bool eb.r, .bool eb.w] 112)))
     have HBA3:=hide (box_keep HBA.out (belowAlloc0 wr (.cells #[.int .i64 eb.t, .int .i64 eb.i, .int .i64 eb.l, .bool eb.r, .bool eb.w] 112)))
     have HC:=hide (HR.out t k _ (HD.out.below HB3.out) hlt hlt2)
     have HEB:=hide heb
     clear heb i0 i1 i2 i3 i4 c1 hc1
     generalize hR:P t k=R at *
     clear hR
     rcases Bool.eq_false_or_eq_true (ea.t==g.t) with g0 | g0
     ·rcases Bool.eq_false_or_eq_true (D t k) with g1 | g1
      ·rw [g1] at HC
       rcases Bool.eq_false_or_eq_true (decide (ea.i < g.i)) with g2 | g2
       ·rcases Bool.eq_false_or_eq_true (decide (g.i≤eb.i)) with g3 | g3
        ·obtain rfl:R=true:=by rw [CE.out];simp [g0,g1,g2,g3]
         obtain rfl:=HN1.out rfl
         go_wp2_with fail
         (with_reducible refine HC.out.mono ?_);rintro e w2 ⟨rfl,rfl⟩
         go_wp2_with fail
         go_ret
         exact ⟨rfl,HB3.out⟩
        ·obtain rfl:R=false:=by rw [CE.out];simp [g0,g1,g2,g3]
         have HN3:=hide (HN2.out rfl);clear HN1 HN2 CE
         go_wp2_with fail
         (with_reducible refine HC.out.mono ?_);rintro e w2 ⟨rfl,rfl⟩
         go_wp2_with fail
         go_roundw
         case rel=>exact ⟨k+1,by omega,by go_num,HN3,HBX3,HBA3,HB3⟩
         case measure=>simp [intOf];omega
       ·obtain rfl:R=false:=by rw [CE.out];simp [g0,g1,g2]
        have HN3:=hide (HN2.out rfl);clear HN1 HN2 CE
        go_wp2_with fail
        (with_reducible refine HC.out.mono ?_);rintro e w2 ⟨rfl,rfl⟩
        go_wp2_with fail
        go_roundw
        case rel=>exact ⟨k+1,by omega,by go_num,HN3,HBX3,HBA3,HB3⟩
        case measure=>simp [intOf];omega
      ·rw [g1] at HC
       obtain rfl:R=false:=by rw [CE.out];simp [g0,g1]
       have HN3:=hide (HN2.out rfl);clear HN1 HN2 CE
       go_wp2_with fail
       (with_reducible refine HC.out.mono ?_);rintro e w2 ⟨rfl,rfl⟩
       go_wp2_with fail
       go_roundw
       case rel=>exact ⟨k+1,by omega,by go_num,HN3,HBX3,HBA3,HB3⟩
       case measure=>simp [intOf];omega
     ·obtain rfl:R=false:=by rw [CE.out];simp [g0]
      have HN3:=hide (HN2.out rfl);clear HN1 HN2 CE
      go_wp2_with fail
      go_roundw
      case rel=>exact ⟨k+1,by omega,by go_num,HN3,HBX3,HBA3,HB3⟩
      case measure=>simp [intOf];omega
    ·have e:k=n:=by omega
     subst e
     have HN3:=hide (anyTo_succ_false HNO.out HNI.out)
     go_wp2_with fail
     go_roundw
     case rel=>exact ⟨t+1,by omega,by go_num,HN3,HBX,HB⟩
     case measure=>simp [intOf];omega
  ·have e:t=n:=by omega
   subst e
   obtain rfl:N=false:=by rw [NE.out];exact HNO.out
   go_wp2_with fail
   go_ret
   exact ⟨rfl,HB.out⟩
def delayGapsP (p:List (List Ins)):List Gp:=(gapsP p).filter (needB (evAll p) (delF (evAll p).length (confB (evAll p)) (poB (evAll p))))
def delayGapsV (p:List (List Ins)):List Gp:=if progValid p=true then delayGapsP p else []
theorem DelayGaps_any (v:Value) (p:List (List Ins)) (w:World) (hp:RepP w v p) (hl:p.flatten.length≤1048576) :
 Calls Tryz.prog 39 #[v] w (RetOwn GapE 64 w (delayGapsV p)):=by
 have HP:=hide hp;clear hp
 have HV:=hide (fun w' h=>ProgramValid_any v p w' h hl)
 have HG:=hide (fun w' h=>gaps_any v p w' h hl)
 have HE:=hide (fun w' h h2=>events_any v p w' h h2)
 have HDR:=hide (fun w' h h1 h2=>delayRel_any v p w' h h1 h2)
 have E2:Hid (delayGapsV p=if progValid p=true then delayGapsP p else []):=hide rfl
 have E3:Hid (delayGapsP p=(gapsP p).filter (needB (evAll p) (delF (evAll p).length (confB (evAll p)) (poB (evAll p))))):=hide rfl
 have CD:Hid (delays p=relOf (evAll p).length (delF (evAll p).length (confB (evAll p)) (poB (evAll p)))):=hide rfl
 have HGL:Hid ((gapsP p).length≤1048576):=hide (by
  have:=gapsTo_length p p.length (Nat.le_refl _)
  rw [List.take_length] at this
  unfold gapsP
  omega)
 have HF:Hid (progValid p=true→p.flatten.length≤50∧(evAll p).length≤16):=hide (fun h=>by
  obtain ⟨hv1, -,hv3, -, -⟩:=valid_le h
  have:=flatten_le7' (p:=p) (fun r hr=>(hv3 r hr).1)
  have:=evAll_le h
  omega)
 obtain ⟨a,c,rfl, -, -, -, -⟩:=HP.out.open
 generalize progValid p=b at *
 cases b
 ·go_enter Tryz.func39,Tryz.ntmps39
  go_wp2_with fail
  (with_reducible refine (HV.out _ HP.out).mono ?_);rintro e w1 ⟨rfl,hb1⟩
  go_wp2_with fail
  go_ret
  rw [E2.out]
  exact ⟨_,rfl,Own.nil _ _ _,hb1⟩
 ·have E4:Hid (delayGapsV p=delayGapsP p):=hide (by rw [E2.out];rfl)
  obtain ⟨hf1,hf2⟩:=HF.out rfl
  generalize delayGapsP p=Z at *
  generalize delF (evAll p).length (confB (evAll p)) (poB (evAll p))=D at *
  generalize evAll p=L at *
  generalize gapsP p=G at *
  generalize delays p=DL at *
  go_enter Tryz.func39,Tryz.ntmps39
  go_wp2_with fail
  (with_reducible refine (HV.out _ HP.out).mono ?_);rintro e w1 ⟨rfl,hb1⟩
  have HB1:=hide hb1;have HP1:=hide (HP.out.below hb1);clear hb1
  go_wp2_with fail
  (with_reducible refine (HE.out _ HP1.out (by omega)).mono ?_);rintro e w2 ⟨v2,rfl,o2,hb2⟩
  obtain ⟨a2,c2,rfl, -, -, -, -⟩:=o2.rep.open
  have HB2:=hide (HB1.out.trans (hb2.mono HB1.out.size));have HP2:=hide (HP1.out.below hb2);have L2:=hide o2.rep
  clear o2 hb2 HP1 HB1
  go_wp2_with fail
  (with_reducible refine (HDR.out _ HP2.out hf1 hf2).mono ?_);rintro e w3 ⟨v3,rfl,o3,hb3⟩
  rw [CD.out] at o3
  obtain ⟨a3,c3,rfl, -, -, -, -⟩:=o3.rep.open
  rw [relOf_length] at *
  have HB3:=hide (HB2.out.trans (hb3.mono HB2.out.size));have HP3:=hide (HP2.out.below hb3);have L3:=hide (L2.out.below hb3);have D3:=hide o3.rep
  clear o3 hb3 HP2 HB2 L2
  have hb4:=(belowAlloc0 w3 (.cells #[.slice a2 L.length c2] 108))
  have hb5:=hb4.trans ((belowAlloc0 (w3.alloc (.cells #[.slice a2 L.length c2] 108)) (.cells #[.slice a3 L.length c3] 40)).mono hb4.size)
  have m1:((w3.alloc (.cells #[.slice a2 L.length c2] 108)).alloc (.cells #[.slice a3 L.length c3] 40)).cell? ⟨w3.heap.size,0,none⟩=some (.slice a2 L.length c2):=by simp [go_sem]
  have m2:((w3.alloc (.cells #[.slice a2 L.length c2] 108)).alloc (.cells #[.slice a3 L.length c3] 40)).cell? ⟨w3.heap.size+1,0,none⟩=some (.slice a3 L.length c3):=by simp [go_sem]
  have HT:=hide (DelayGaps_1 w3.heap.size (w3.heap.size+1) c2 c3 a2 a3 L D _ m1 (L3.out.below hb5) m2 (D3.out.below hb5) hf2)
  have HP5:=hide (HP3.out.below hb5);have HB5:=hide (HB3.out.trans (hb5.mono HB3.out.size))
  clear m1 m2 hb4 hb5 HP3 HB3 L3 D3
  go_wp2_with fail
  (with_reducible refine (HG.out _ HP5.out).mono ?_);rintro e w6 ⟨v6,rfl,o6,hb6⟩
  have HD:=hide (DeleteFunc_dg ⟨w3.heap.size,0,none⟩ ⟨w3.heap.size+1,0,none⟩ v6 G (fun g => !needB L D g) _ w6 _ o6 HGL.out HT.out hb6 (Nat.le_refl _))
  have HB6:=hide (HB5.out.trans (hb6.mono HB5.out.size));have HO6:=hide o6;have hs5:=HB5.out.size
  clear hb6 o6
  go_wp2_with fail
  (with_reducible refine HD.out.mono ?_);rintro e w7 ⟨v7,rfl,o7,hg7, -⟩
  have hb7:=below_row hg7 (B:=w.heap.size) HB6.out.size (fun k hk=>Nat.le_trans hs5 (HO6.out.lo k hk).1)
  have HO7:=hide o7;have HB7:=hide (HB6.out.trans hb7)
  clear o7 hg7 hb7
  go_wp2_with fail
  go_ret
  have ho:=HO7.out
  rw [E4.out,E3.out]
  rw [show (fun x => !(!needB L D x))=needB L D by funext x;simp] at ho
  exact ⟨_,rfl,ho.mono hs5,HB7.out⟩
end Go.Proofs.YtlddmagfbcomgaaGreat
namespace Go.Proofs.YtlddmagfbcomgaaGreat
def evv (t i:Nat) (x:Ins):Ev:=⟨t,i,x.loc,isRop x.op,isWop x.op⟩
theorem evRow_has {t i:Nat} {r:List Ins} {x:Ins} (hx:r[i]? = some x) (h4:x.op≠4) {k:Nat} (hk:i < k):evv t i x∈evRow t r k:=by
 unfold evRow
 rw [List.mem_flatMap]
 refine ⟨i,List.mem_range.2 hk, ?_⟩
 rw [hx]
 simp [evOf,h4,evv]
theorem evAll_has {p:List (List Ins)} {t i:Nat} {x:Ins} (h:Evt p t i x):∃ a:Nat,(evAll p)[a]? = some (evv t i x):=by
 obtain ⟨⟨r,hr,hx⟩,h4⟩:=h
 refine List.mem_iff_getElem?.1 ?_
 unfold evAll
 refine List.mem_append.2 (.inr ?_)
 unfold evTo
 rw [List.mem_flatMap]
 refine ⟨t,List.mem_range.2 (List.getElem?_eq_some_iff.1 hr).1, ?_⟩
 rw [hr]
 exact evRow_has hx h4 (List.getElem?_eq_some_iff.1 hx).1
theorem pw_getE {α:Type} {R:α→α→Prop} {l:List α} (h:l.Pairwise R) {a b:Nat} {x y:α} (ha:l[a]? = some x) (hb:l[b]? = some y) (hab:a < b):R x y:=by
 obtain ⟨ha1,ha2⟩:=List.getElem?_eq_some_iff.1 ha
 obtain ⟨hb1,hb2⟩:=List.getElem?_eq_some_iff.1 hb
 have:=List.pairwise_iff_getElem.1 h a b ha1 hb1 hab
 rw [ha2,hb2] at this
 exact this
theorem ev_lex {p:List (List Ins)} {a b:Nat} {e f:Ev} (ha:(evAll p)[a]? = some e) (hb:(evAll p)[b]? = some f) (hab:a < b):lexE e f:=pw_getE (evAll_lex p) ha hb hab
theorem ev_uniq {p:List (List Ins)} {a b:Nat} {e f:Ev} (ha:(evAll p)[a]? = some e) (hb:(evAll p)[b]? = some f) (h1:e.t=f.t) (h2:e.i=f.i):a=b:=by
 rcases Nat.lt_trichotomy a b with q | q | q
 ·have:=ev_lex ha hb q;unfold lexE at this;omega
 ·exact q
 ·have:=ev_lex hb ha q;unfold lexE at this;omega
def EPos (p:List (List Ins)) (e:Nat × Nat) (a:Nat):Prop:=∃ x,Evt p e.1 e.2 x∧(evAll p)[a]? = some (evv e.1 e.2 x)
theorem EPos.lt {p:List (List Ins)} {e:Nat × Nat} {a:Nat} (h:EPos p e a):a < (evAll p).length:=by
 obtain ⟨x, -,h⟩:=h
 exact (List.getElem?_eq_some_iff.1 h).1
theorem EPos.uniq {p:List (List Ins)} {e:Nat × Nat} {a b:Nat} (h:EPos p e a) (k:EPos p e b):a=b:=by
 obtain ⟨x, -,h⟩:=h
 obtain ⟨y, -,k⟩:=k
 exact ev_uniq h k rfl rfl
theorem Cf.conf {p:List (List Ins)} {e f:Nat × Nat} {a b:Nat} (h:Cf p e f) (ha:EPos p e a) (hb:EPos p f b):confB (evAll p) a b=true:=by
 obtain ⟨hne,x,y,hx,hy,hl,hw⟩:=h
 obtain ⟨x',hx',ha⟩:=ha
 obtain ⟨y',hy',hb⟩:=hb
 obtain rfl:=hx.1.uniq hx'.1
 obtain rfl:=hy.1.uniq hy'.1
 rw [confB_eq ha hb]
 simp only [evv,Bool.and_eq_true,Bool.or_eq_true]
 exact ⟨decide_eq_true (Int.natCast_nonneg _),decide_eq_true (Int.natCast_nonneg _),bne_iff_ne.2 (fun q=>hne (Int.ofNat.inj q)),beq_iff_eq.2 hl,hw⟩
theorem Po.po {p:List (List Ins)} {e f:Nat × Nat} {a b:Nat} (h:Po p e f) (ha:EPos p e a) (hb:EPos p f b):poB (evAll p) a b=true:=by
 obtain ⟨h1,h2, -, -⟩:=h
 obtain ⟨x',hx',ha⟩:=ha
 obtain ⟨y',hy',hb⟩:=hb
 rw [poB_eq ha hb]
 simp only [evv,Bool.and_eq_true]
 exact ⟨decide_eq_true (Int.natCast_nonneg _),beq_iff_eq.2 (congrArg Int.ofNat h1),decide_eq_true (Int.ofNat_lt.2 h2)⟩
theorem Cf.pos2 {p:List (List Ins)} {e f:Nat × Nat} (h:Cf p e f):∃ b,EPos p f b:=by
 obtain ⟨-,x,y,hx,hy, -⟩:=h
 obtain ⟨b,hb⟩:=evAll_has hy
 exact ⟨b,y,hy,hb⟩
theorem Cf.pos1 {p:List (List Ins)} {e f:Nat × Nat} (h:Cf p e f):∃ b,EPos p e b:=by
 obtain ⟨-,x,y,hx,hy, -⟩:=h
 obtain ⟨b,hb⟩:=evAll_has hx
 exact ⟨b,x,hx,hb⟩
theorem Po.pos2 {p:List (List Ins)} {e f:Nat × Nat} (h:Po p e f):∃ b,EPos p f b:=by
 obtain ⟨-, -, -,y,hy⟩:=h
 obtain ⟨b,hb⟩:=evAll_has hy
 exact ⟨b,y,hy,hb⟩
theorem WPth.pth {p:List (List Ins)} {e f:Nat × Nat} (h:WPth p e f):∀ {a b:Nat},EPos p e a→EPos p f b→a=b∨Pth (evAll p).length (fOr (confB (evAll p)) (poB (evAll p))) a b:=by
 induction h with
 | refl e=>intro a b ha hb;exact .inl (ha.uniq hb)
 | cf h _ ih =>
  intro a b ha hb
  obtain ⟨c,hc⟩:=h.pos2
  have h1:fOr (confB (evAll p)) (poB (evAll p)) a c=true:=by unfold fOr;rw [h.conf ha hc];rfl
  rcases ih hc hb with rfl | g
  ·exact .inr (.one ha.lt hc.lt h1)
  ·exact .inr (.more ha.lt hc.lt h1 g)
 | po h _ ih =>
  intro a b ha hb
  obtain ⟨c,hc⟩:=h.pos2
  have h1:fOr (confB (evAll p)) (poB (evAll p)) a c=true:=by unfold fOr;rw [h.po ha hc];simp
  rcases ih hc hb with rfl | g
  ·exact .inr (.one ha.lt hc.lt h1)
  ·exact .inr (.more ha.lt hc.lt h1 g)
theorem fComp_of {m:Nat} {f g:Nat→Nat→Bool} {i j k:Nat} (hj:j < m) (h1:f i j=true) (h2:g j k=true):fComp m f g i k=true:=by
 unfold fComp
 rw [List.any_eq_true]
 exact ⟨j,List.mem_range.2 hj,by rw [h1,h2];rfl⟩
theorem Delayed.told {p:List (List Ins)} {t i k:Nat} (h:Delayed p t i k):∃ a b,EPos p (t,i) a∧EPos p (t,k) b∧delF (evAll p).length (confB (evAll p)) (poB (evAll p)) a b=true:=by
 obtain ⟨hik,⟨x,hx⟩,⟨y,hy⟩,u,v,h1,h2,h3⟩:=h
 obtain ⟨a,ha⟩:=evAll_has hx
 obtain ⟨b,hb⟩:=evAll_has hy
 have Ha:EPos p (t,i) a:=⟨x,hx,ha⟩
 have Hb:EPos p (t,k) b:=⟨y,hy,hb⟩
 obtain ⟨c,hc⟩:=h1.pos2
 obtain ⟨d,hd⟩:=h3.pos1
 have hpo:poB (evAll p) a b=true:=Po.po (e:=(t,i)) (f:=(t,k)) ⟨rfl,hik,⟨x,hx⟩,y,hy⟩ Ha Hb
 refine ⟨a,b,Ha,Hb, ?_⟩
 unfold delF fAnd fInv
 rw [hpo,Bool.true_and]
 unfold fOr
 rw [Bool.or_eq_true]
 rcases h2.pth hc hd with rfl | g
 ·exact .inl (fComp_of hc.lt (h1.conf Hb hc) (h3.conf hd Ha))
 ·refine .inr (fComp_of hd.lt (fComp_of hc.lt (h1.conf Hb hc) ?_) (h3.conf hd Ha))
  exact (fClo_iff hc.lt hd.lt).2 g
def posF (f:Int→Bool) (r:List Ins) (m:Nat):Nat:=(putTo f r m).length+if f m=true then 1 else 0
theorem posF_succ {f:Int→Bool} {r:List Ins} {m:Nat} (hm:m < r.length):posF f r (m+1)=posF f r m+1+if f ((m+1:Nat):Int)=true then 1 else 0:=by
 obtain ⟨x,hx⟩:=get_of_lt (xs:=r) (k:=m) hm
 unfold posF
 rw [putTo_succ hx]
 by_cases e:f m=true
 ·simp [e]
 ·simp [e]
theorem posF_mono {f:Int→Bool} {r:List Ins} {m n:Nat} (hmn:m < n) (hn:n < r.length):posF f r m < posF f r n:=by
 induction n with
 | zero=>omega
 | succ n ih =>
  have h1:=posF_succ (f:=f) (r:=r) (m:=n) (by omega)
  rcases Nat.lt_or_ge m n with q | q
  ·have:=ih q (by omega);omega
  ·obtain rfl:m=n:=by omega
   omega
theorem putTo_get {f:Int→Bool} {r:List Ins}:∀ n,n≤r.length→∀ j,j < (putTo f r n).length→∃ m,m < n∧((j=posF f r m∧(putTo f r n)[j]? = r[m]?)∨(f m=true∧j+1=posF f r m∧(putTo f r n)[j]? = some fenceI)):=by
 intro n
 induction n with
 | zero=>intro _ j hj;simp [putTo] at hj
 | succ n ih =>
  intro hn j hj
  obtain ⟨x,hx⟩:=get_of_lt (xs:=r) (k:=n) (by omega)
  have hp:posF f r n=(putTo f r n).length+if f n=true then 1 else 0:=rfl
  rw [putTo_succ hx] at hj ⊢
  rcases Nat.lt_or_ge j (putTo f r n).length with q | q
  ·obtain ⟨m,hm,h⟩:=ih (by omega) j q
   refine ⟨m,by omega, ?_⟩
   rw [List.getElem?_append_left q]
   exact h
  ·refine ⟨n,by omega, ?_⟩
   rw [List.getElem?_append_right q]
   by_cases e:f n=true
   ·rw [if_pos e] at hj hp ⊢
    rw [List.length_append] at hj
    simp only [List.length_cons,List.length_nil] at hj
    rcases Nat.lt_or_ge (putTo f r n).length j with g | g
    ·left
     rw [show j - (putTo f r n).length=1 by omega,hx]
     exact ⟨by omega,rfl⟩
    ·right
     rw [show j - (putTo f r n).length=0 by omega]
     exact ⟨e,by omega,rfl⟩
   ·rw [if_neg e] at hj hp ⊢
    rw [List.length_append] at hj
    simp only [List.length_cons,List.length_nil] at hj
    left
    rw [show j - (putTo f r n).length=0 by omega,hx]
    exact ⟨by omega,rfl⟩
theorem put_evt {f:Gp→Bool} {p:List (List Ins)} {t j:Nat} {x:Ins} (h:Evt (putP f p) t j x):∃ r m,p[t]? = some r∧r[m]? = some x∧j=posF (fun i=>f ⟨t,i⟩) r m:=by
 obtain ⟨⟨q,hq,hx⟩,h4⟩:=h
 have ht:t < p.length:=by rw [← putP_length f p];exact (List.getElem?_eq_some_iff.1 hq).1
 obtain ⟨r,hr⟩:=get_of_lt (xs:=p) (k:=t) ht
 rw [putP_get hr,Option.some.injEq] at hq
 subst hq
 have hj:=(List.getElem?_eq_some_iff.1 hx).1
 obtain ⟨m,hm,⟨g1,g2⟩ | ⟨-, -,g3⟩⟩:=putTo_get r.length (Nat.le_refl _) j hj
 ·refine ⟨r,m,hr, ?_,g1⟩
  rw [← g2];exact hx
 ·have:(putI (fun i=>f ⟨t,i⟩) r)[j]? = some fenceI:=g3
  rw [this,Option.some.injEq] at hx
  exact absurd (by rw [← hx];rfl) h4
theorem put_next {f:Gp→Bool} {p:List (List Ins)} {t j:Nat} {x y:Ins} (h:Evt (putP f p) t j x) (k:Evt (putP f p) t (j+1) y):∃ r m,p[t]? = some r∧r[m]? = some x∧r[m+1]? = some y∧j=posF (fun i=>f ⟨t,i⟩) r m∧f ⟨t,((m+1:Nat):Int)⟩=false:=by
 obtain ⟨r,m,h1,h2,h3⟩:=put_evt h
 obtain ⟨r',m',k1,k2,k3⟩:=put_evt k
 rw [h1,Option.some.injEq] at k1
 subst k1
 have hm:=(List.getElem?_eq_some_iff.1 h2).1
 have hm':=(List.getElem?_eq_some_iff.1 k2).1
 have hlt:m < m':=by
  rcases Nat.lt_trichotomy m m' with q | q | q
  ·exact q
  ·subst q;omega
  ·have:=posF_mono (f:=fun i=>f ⟨t,i⟩) q hm;omega
 have hs:=posF_succ (f:=fun i=>f ⟨t,i⟩) (r:=r) (m:=m) hm
 have e:m'=m+1:=by
  rcases Nat.lt_or_ge (m+1) m' with q | q
  ·have:=posF_mono (f:=fun i=>f ⟨t,i⟩) q hm';omega
  ·omega
 subst e
 refine ⟨r,m,h1,h2,k2,h3, ?_⟩
 cases hf:f ⟨t,((m+1:Nat):Int)⟩ with
 | false=>rfl
 | true=>simp only [hf,if_true] at hs;omega
theorem gapsP_has {p:List (List Ins)} {t m:Nat} {r:List Ins} {x y:Ins} (hr:p[t]? = some r) (hx:r[m]? = some x) (hy:r[m+1]? = some y) (h1:x.op≠4) (h2:y.op≠4):(⟨t,((m+1:Nat):Int)⟩:Gp)∈gapsP p:=by
 unfold gapsP gapsTo
 rw [List.mem_flatMap]
 refine ⟨t,List.mem_range.2 (List.getElem?_eq_some_iff.1 hr).1, ?_⟩
 rw [hr]
 show _∈rowGaps t r r.length
 unfold rowGaps
 rw [List.mem_map]
 refine ⟨m+1, ?_,rfl⟩
 rw [List.mem_filter]
 refine ⟨List.mem_range.2 (List.getElem?_eq_some_iff.1 hy).1, ?_⟩
 unfold gapAt
 rw [show m+1 - 1=m by omega,hx,hy]
 simp [h1,h2]
theorem full_next {p:List (List Ins)} {t j:Nat} {x y:Ins} (h:Evt (putP (inL (gapsP p)) p) t j x) (k:Evt (putP (inL (gapsP p)) p) t (j+1) y):False:=by
 obtain ⟨r,m,h1,h2,h3, -,h5⟩:=put_next h k
 have:=gapsP_has h1 h2 h3 h.2 k.2
 unfold inL at h5
 rw [decide_eq_false_iff_not] at h5
 exact h5 this
theorem full_sep {p:List (List Ins)} {t i k:Nat} (h:Delayed (putP (inL (gapsP p)) p) t i k):Sep (putP (inL (gapsP p)) p) t i k:=by
 obtain ⟨hik,⟨x,hx⟩,⟨y,hy⟩, -⟩:=h
 obtain ⟨z,hz⟩:=At.of (p:=putP (inL (gapsP p)) p) (t:=t) (i:=i+1) hx.1.lt (by have:=hy.1.ilt;omega)
 by_cases e:z.op=4
 ·exact ⟨i+1,z,by omega,by omega,hz, .inl e⟩
 ·exact absurd (full_next hx ⟨hz,e⟩) id
theorem full_gaps (p:List (List Ins)):gapsP (putP (inL (gapsP p)) p)=[]:=by
 apply List.eq_nil_iff_forall_not_mem.2
 intro g hg
 obtain ⟨t,i,r,rfl,h1,h2,h3,h4⟩:=gapsP_mem hg
 obtain ⟨x,hx⟩:=get_of_lt (xs:=r) (k:=i - 1) (by omega)
 obtain ⟨y,hy⟩:=get_of_lt (xs:=r) (k:=i) (by omega)
 unfold gapAt at h4
 rw [hx,hy] at h4
 simp only [Bool.and_eq_true,bne_iff_ne] at h4
 exact full_next (j:=i - 1) ⟨⟨r,h1,hx⟩,h4.2.1⟩ ⟨⟨r,h1,by rw [show i - 1+1=i by omega];exact hy⟩,h4.2.2⟩
def Cp (f:Gp→Bool) (p:List (List Ins)) (e d:Nat × Nat):Prop:=e.1=d.1∧∃ r x,p[d.1]? = some r∧r[d.2]? = some x∧x.op≠4∧e.2=posF (fun i=>f ⟨e.1,i⟩) r d.2
theorem posF_inj {f:Int→Bool} {r:List Ins} {m n:Nat} (hm:m < r.length) (hn:n < r.length) (h:posF f r m=posF f r n):m=n:=by
 rcases Nat.lt_trichotomy m n with q | q | q
 ·have:=posF_mono (f:=f) q hn;omega
 ·exact q
 ·have:=posF_mono (f:=f) q hm;omega
theorem Cp.uniq {f:Gp→Bool} {p:List (List Ins)} {e d d':Nat × Nat} (h:Cp f p e d) (k:Cp f p e d'):d=d':=by
 obtain ⟨h1,r,x,h2,h3,h4,h5⟩:=h
 obtain ⟨k1,r',x',k2,k3,k4,k5⟩:=k
 obtain ⟨d1,d2⟩:=d
 obtain ⟨d1',d2'⟩:=d'
 simp only at *
 subst h1;subst k1
 rw [h2,Option.some.injEq] at k2
 subst k2
 rw [posF_inj (List.getElem?_eq_some_iff.1 h3).1 (List.getElem?_eq_some_iff.1 k3).1 (h5.symm.trans k5)]
theorem Cp.of {f:Gp→Bool} {p:List (List Ins)} {t j:Nat} {x:Ins} (h:Evt (putP f p) t j x):∃ d,Cp f p (t,j) d∧Evt p d.1 d.2 x:=by
 obtain ⟨r,m,h1,h2,h3⟩:=put_evt h
 exact ⟨(t,m),⟨rfl,r,x,h1,h2,h.2,h3⟩,⟨r,h1,h2⟩,h.2⟩
theorem Cp.cf {f:Gp→Bool} {p:List (List Ins)} {e g d c:Nat × Nat} (h:Cf (putP f p) e g) (hd:Cp f p e d) (hc:Cp f p g c):Cf p d c:=by
 obtain ⟨hne,x,y,hx,hy,hcf⟩:=h
 obtain ⟨d',h1,h2⟩:=Cp.of hx
 obtain ⟨c',k1,k2⟩:=Cp.of hy
 obtain rfl:=hd.uniq h1
 obtain rfl:=hc.uniq k1
 exact ⟨by rw [← hd.1,← hc.1];exact hne,x,y,h2,k2,hcf⟩
theorem Cp.po {f:Gp→Bool} {p:List (List Ins)} {e g d c:Nat × Nat} (h:Po (putP f p) e g) (hd:Cp f p e d) (hc:Cp f p g c):Po p d c:=by
 obtain ⟨he,hlt,⟨x,hx⟩,y,hy⟩:=h
 obtain ⟨d',h1,h2⟩:=Cp.of hx
 obtain ⟨c',k1,k2⟩:=Cp.of hy
 obtain rfl:=hd.uniq h1
 obtain rfl:=hc.uniq k1
 refine ⟨by rw [← hd.1,← hc.1];exact he, ?_,⟨x,h2⟩,y,k2⟩
 obtain ⟨q1,r,x1,q2,q3, -,q4⟩:=hd
 obtain ⟨z1,r',y1,z2,z3, -,z4⟩:=hc
 rw [← z1,← he,q1,q2,Option.some.injEq] at z2
 subst z2
 rw [← he] at z4
 have b1:=(List.getElem?_eq_some_iff.1 q3).1
 rcases Nat.lt_or_ge d.2 c.2 with q | q
 ·exact q
 ·rcases Nat.lt_or_ge c.2 d.2 with w | w
  ·have:=posF_mono (f:=fun i=>f ⟨e.1,i⟩) w b1;omega
  ·have:d.2=c.2:=by omega
   rw [this] at q4
   omega
theorem Cp.pth {f:Gp→Bool} {p:List (List Ins)} {e g:Nat × Nat} (h:WPth (putP f p) e g):∀ {d c},Cp f p e d→Cp f p g c→WPth p d c:=by
 induction h with
 | refl e=>intro d c hd hc;obtain rfl:=hd.uniq hc;exact .refl _
 | cf h _ ih =>
  intro d c hd hc
  have h0:=h
  obtain ⟨-, -,y, -,hy, -⟩:=h0
  obtain ⟨b,hb, -⟩:=Cp.of hy
  exact .cf (Cp.cf h hd hb) (ih hb hc)
 | po h _ ih =>
  intro d c hd hc
  have h0:=h
  obtain ⟨-, -, -,y,hy⟩:=h0
  obtain ⟨b,hb, -⟩:=Cp.of hy
  exact .po (Cp.po h hd hb) (ih hb hc)
theorem Cp.delayed {f:Gp→Bool} {p:List (List Ins)} {t i k:Nat} {d c:Nat × Nat} (h:Delayed (putP f p) t i k) (hd:Cp f p (t,i) d) (hc:Cp f p (t,k) c):d.1=t∧c.1=t∧Delayed p t d.2 c.2:=by
 obtain ⟨hik,⟨x,hx⟩,⟨y,hy⟩,u,v,h1,h2,h3⟩:=h
 have hpo:=Cp.po (e:=(t,i)) (g:=(t,k)) ⟨rfl,hik,⟨x,hx⟩,y,hy⟩ hd hc
 have e1:=hd.1
 have e2:=hc.1
 obtain ⟨d1,d2⟩:=d
 obtain ⟨c1,c2⟩:=c
 simp only at e1 e2
 subst e1;subst e2
 obtain ⟨-,g1,g2,g3⟩:=hpo
 have h10:=h1
 have h30:=h3
 obtain ⟨-, -,y1, -,hy1, -⟩:=h10
 obtain ⟨-,x3, -,hx3, -, -⟩:=h30
 obtain ⟨u',hu', -⟩:=Cp.of hy1
 obtain ⟨v',hv', -⟩:=Cp.of hx3
 exact ⟨rfl,rfl,g1,g2,g3,u',v',Cp.cf h1 hc hu',Cp.pth h2 hu' hv',Cp.cf h3 hv' hd⟩
theorem gaps_sep {p:List (List Ins)} {t i k:Nat} (h:Delayed (putP (inL ((gapsP p).filter (needB (evAll p) (delF (evAll p).length (confB (evAll p)) (poB (evAll p)))))) p) t i k):Sep (putP (inL ((gapsP p).filter (needB (evAll p) (delF (evAll p).length (confB (evAll p)) (poB (evAll p)))))) p) t i k:=by
 generalize hL:(gapsP p).filter (needB (evAll p) (delF (evAll p).length (confB (evAll p)) (poB (evAll p))))=L at *
 have h0:=h
 obtain ⟨hik,⟨x,hx⟩,⟨y,hy⟩, -⟩:=h0
 obtain ⟨z,hz⟩:=At.of (p:=putP (inL L) p) (t:=t) (i:=i+1) hx.1.lt (by have:=hy.1.ilt;omega)
 by_cases e:z.op=4
 ·exact ⟨i+1,z,by omega,by omega,hz, .inl e⟩
 ·exfalso
  obtain ⟨r,m,h1,h2,h3,h4,h5⟩:=put_next hx ⟨hz,e⟩
  have hd:Cp (inL L) p (t,i) (t,m):=⟨rfl,r,x,h1,h2,hx.2,h4⟩
  obtain ⟨c,hc, -⟩:=Cp.of hy
  obtain ⟨-,e2,hdl⟩:=Cp.delayed h hd hc
  obtain ⟨c1,c2⟩:=c
  simp only at e2 hdl
  subst e2
  have hlt:=hdl.1
  obtain ⟨a,b,⟨x',hx',ha⟩,⟨y',hy',hb⟩,hf⟩:=hdl.told
  unfold inL at h5
  rw [decide_eq_false_iff_not] at h5
  refine h5 ?_
  rw [← hL,List.mem_filter]
  refine ⟨gapsP_has h1 h2 h3 hx.2 e, ?_⟩
  unfold needB
  refine anyTo_true (k:=a) (anyTo_true (k:=b) ?_ (List.getElem?_eq_some_iff.1 hb).1) (List.getElem?_eq_some_iff.1 ha).1
  rw [hitB_eq ha hb,hf]
  simp only [evv,Bool.true_and,Bool.and_eq_true]
  exact ⟨beq_iff_eq.2 rfl,decide_eq_true (Int.ofNat_lt.2 (Nat.lt_succ_self m)),decide_eq_true (Int.ofNat_le.2 hlt)⟩
end Go.Proofs.YtlddmagfbcomgaaGreat