/-
  OutcomeOf of both sides. Condition: bounds on lengths.
-/
import Derived.Test.YtkfhgnkonaafgaaGreatDoorZs25
import Derived.Test.YtkfhgnkonaafgaaGreatDoorZs04
import Derived.Test.YtkfhgnkonaafgaaGreatDoorZs12
import Derived.Test.YtkfhgnkonaafgaaGreatDoorZs24
import Derived.Test.YtkfhgnkonaafgaaGreatDoorZs21
set_option maxHeartbeats 6400000
set_option maxRecDepth 100000
namespace Go.Proofs.YtkfhgnkonaafgaaGreatDoor
open Go.RowKit
def TestsP_rel (a1 a2 a3 a4:Addr) (n:Nat) (f:Nat→Nat→Bool) (w0:World):Prop:=∀ (i k:Nat) (w:World),i < n→k < n→Below w0.heap.size w0 w →
 Calls Tryz.prog 207 #[.int .i64 i, .int .i64 k, .pointer (some a1), .pointer (some a2), .pointer (some a3), .pointer (some a4)] w fun e w'=>e = .returned (.bool (f i k))∧Below w.heap.size w w'
theorem pairsOf_rel (a1 a2 a3 a4:Addr) (n:Nat) (f:Nat→Nat→Bool) (w:World) (hn:n≤60) (hf:TestsP_rel a1 a2 a3 a4 n f w) :
 Calls Tryz.prog 206 #[.int .i64 n, .func (.func 207) #[] #[.pointer (some a1), .pointer (some a2), .pointer (some a3), .pointer (some a4)]] w (RetOwn IntE 3 w (relOf n f)):=by
 have HF:=hide hf;clear hf
 go_enter Tryz.func206,Tryz.ntmps206
 go_wp2_with (at_make;refine wpList_make IntE 3 0 Tryz.infoInt rfl Tryz.underlying24 n (by decide) (by omega) rfl _ _ rfl rfl rfl ?_;intro w1 hown hgr)
 have hb1:=below_of_grown hgr
 go_loopw [11] (fun i wr => ∃ t:Nat,t≤n∧i = .int .i64 t∧OwnN wr w.heap.size (.slice (some ⟨w.heap.size,0,none⟩) n n) ((relOf n f).take t++List.replicate (n - t) 0)∧Below w.heap.size w wr) (fun i _=>n - (intOf i).toNat)
 case atStart=>exact ⟨0,by omega,rfl,by simpa using hown,hb1⟩
 case round =>
  obtain ⟨t,ht,rfl,ho,hb⟩:=hrel
  by_cases hlt:t < n
  ·have hlt':=nat_of_lt hlt
   go_wp2_with fail
   go_loopw [15] (fun i wr => ∃ k:Nat,k≤n∧i = .int .i64 k∧OwnN wr w.heap.size (.slice (some ⟨w.heap.size,0,none⟩) n n) (((relOf n f).take t++List.replicate (n - t) 0).set t (bitsTo (f t) k))∧Below w.heap.size w wr) (fun i _=>n - (intOf i).toNat)
   case atStart=>exact ⟨0,by omega,rfl,by rw [rel_start n t f hlt];exact ho,hb⟩
   case round =>
    obtain ⟨k,hk,rfl,ho,hb⟩:=hrel
    by_cases hlt2:k < n
    ·have hlt2':=nat_of_lt hlt2
     have HC:=hide (HF.out t k wr hlt hlt2 hb)
     have BS:Hid (bitsTo (f t) (k+1)=if f t k=true then bits .or .i64 (bitsTo (f t) k) (wrap64 ((2:Int) ^ k)) else bitsTo (f t) k):=hide rfl
     generalize f t k=fb at *
     cases fb
     ·go_wp2_with fail
      (with_reducible refine HC.out.mono ?_);rintro e w2 ⟨rfl,hb2⟩
      go_wp2_with fail
      go_roundw
      case rel=>exact ⟨k+1,by omega,by go_num,by rw [BS.out];exact ho.below hb2,hb.trans (hb2.mono hb.size)⟩
      case measure=>simp [intOf];omega
     ·go_wp2_with fail
      (with_reducible refine HC.out.mono ?_);rintro e w2 ⟨rfl,hb2⟩
      have ho2:=ho.below hb2
      obtain ⟨hgl,c0,hfr⟩:=ho2.int (rel_get n t k f hlt)
      have ho3:=ho2.setInt (rel_get n t k f hlt) (bits .or .i64 (bitsTo (f t) k) (wrap64 ((2:Int) ^ k)))
      rw [List.set_set] at ho3
      have HO3:=hide ho3;clear ho3
      go_wp2_with fail
      go_region
      go_wp2_with fail
      go_roundw
      case rel=>exact ⟨k+1,by omega,by go_num,by rw [BS.out];exact HO3.out.below (Below.refl _ _).drew,((hb.trans (hb2.mono hb.size)).setCell (Nat.le_refl _) _).drew⟩
      case measure=>simp [intOf];omega
    ·have e:k=n:=by omega
     rw [e,rel_done n t f hlt] at ho
     go_wp2_with fail
     go_roundw
     case rel=>exact ⟨t+1,by omega,by go_num,ho,hb⟩
     case measure=>simp [intOf];omega
  ·have e:t=n:=by omega
   rw [e,Nat.sub_self,List.replicate_zero,List.append_nil,List.take_of_length_le (by rw [relOf_length];exact Nat.le_refl _)] at ho
   go_wp2_with fail
   go_ret
   exact ⟨_,rfl,ho,hb⟩
def IsPairAt (p:List (List Ins)) (x:Xc) (nm:ByteArray) (f:Nat→Nat→Bool):Prop:=∀ (pv:Value) (f1 o1 la:Option Addr) (f2 f3 o2 o3 lc:Nat) (i k:Nat) (w:World),RepP w pv p→RepX w (.slice f1 f2 f3) (.slice o1 o2 o3) x→Rep EvE w (.slice la (evAll p).length lc) (evAll p)→i < (evAll p).length→k < (evAll p).length →
 Calls Tryz.prog 208 #[pv, .agg #[.slice f1 f2 f3, .slice o1 o2 o3], .slice la (evAll p).length lc, .string nm, .int .i64 i, .int .i64 k] w fun e w'=>e = .returned (.bool (f i k))∧Below w.heap.size w w'
theorem bytes_inj {a b:ByteArray} (h:a.toList=b.toList):a=b:=by
 rw [ByteArray.toList_eq,ByteArray.toList_eq] at h
 cases a;cases b;simp_all
theorem name_at {nm:ByteArray} (hn:isName nm=true):nameTab[nameId nm]? = some nm:=by
 unfold isName at hn
 have hlt:nameId nm < nameTab.length:=List.findIdx_lt_length.2 (by simpa using (List.any_eq_true.1 hn):∃ x∈nameTab,(nm.toList==x.toList)=true)
 have h1:(nm.toList==(nameTab[nameId nm]'hlt).toList)=true:=List.findIdx_getElem (xs:=nameTab) (p:=fun s:ByteArray=>nm.toList==s.toList) (w:=hlt)
 have h2:nm=nameTab[nameId nm]'hlt:=bytes_inj (beq_iff_eq.1 h1)
 rw [List.getElem?_eq_getElem hlt]
 exact congrArg some h2.symm
theorem isPairAt_any {p:List (List Ins)} {x:Xc} (hX:execOk p x=true) {nm:ByteArray} (hn:isName nm=true):IsPairAt p x nm (relN p x (nameId nm)):=by
 have h1:=name_at hn
 have hlt:nameId nm < 10:=(List.getElem?_eq_some_iff.1 h1).1
 generalize nameId nm=c at *
 intro pv f1 o1 la f2 f3 o2 o3 lc i k w a1 a2 a3 a4 a5
 have hc:c=0∨c=1∨c=2∨c=3∨c=4∨c=5∨c=6∨c=7∨c=8∨c=9:=by omega
 rcases hc with rfl | rfl | rfl | rfl | rfl | rfl | rfl | rfl | rfl | rfl <;> obtain rfl:=(Option.some.inj h1)
 ·exact isPair_plain _ 0 (hide (.inl ⟨rfl,rfl⟩)) pv f1 o1 la f2 f3 o2 o3 lc p x i k w a1 a2 a3 a4 a5
 ·exact isPair_plain _ 1 (hide (.inr (.inl ⟨rfl,rfl⟩))) pv f1 o1 la f2 f3 o2 o3 lc p x i k w a1 a2 a3 a4 a5
 ·exact isPair_plain _ 2 (hide (.inr (.inr (.inl ⟨rfl,rfl⟩)))) pv f1 o1 la f2 f3 o2 o3 lc p x i k w a1 a2 a3 a4 a5
 ·exact isPair_rf pv f1 o1 la f2 f3 o2 o3 lc p x i k w a1 a2 a3 a4 a5 hX
 ·exact isPair_co pv f1 o1 la f2 f3 o2 o3 lc p x i k w a1 a2 a3 a4 a5 hX
 ·exact isPair_fr pv f1 o1 la f2 f3 o2 o3 lc p x i k w a1 a2 a3 a4 a5 hX
 ·exact isPair_fence pv f1 o1 la f2 f3 o2 o3 lc p x i k w a1 a2 a3 a4 a5
 ·exact isPair_plain _ 7 (hide (.inr (.inr (.inr (.inl ⟨rfl,rfl⟩))))) pv f1 o1 la f2 f3 o2 o3 lc p x i k w a1 a2 a3 a4 a5
 ·exact isPair_plain _ 8 (hide (.inr (.inr (.inr (.inr (.inl ⟨rfl,rfl⟩)))))) pv f1 o1 la f2 f3 o2 o3 lc p x i k w a1 a2 a3 a4 a5
 ·exact isPair_plain _ 9 (hide (.inr (.inr (.inr (.inr (.inr (⟨rfl,rfl⟩))))))) pv f1 o1 la f2 f3 o2 o3 lc p x i k w a1 a2 a3 a4 a5
theorem relOf_1 (B1 B2 B3 B4:Nat) (pa f1 o1 la:Option Addr) (pn pc f2 f3 o2 o3 lc:Nat) (nm:ByteArray) (p:List (List Ins)) (x:Xc) (f:Nat→Nat→Bool) (w0:World) (hI:IsPairAt p x nm f) (h1:w0.cell? ⟨B1,0,none⟩=some (.slice pa pn pc)) (h2:w0.cell? ⟨B2,0,none⟩=some (.slice f1 f2 f3)) (h2':w0.cell? ⟨B2,1,none⟩=some (.slice o1 o2 o3))
 (h3:w0.cell? ⟨B3,0,none⟩=some (.slice la (evAll p).length lc)) (h4:w0.cell? ⟨B4,0,none⟩=some (.string nm)) (hP:RepP w0 (.slice pa pn pc) p) (hX:RepX w0 (.slice f1 f2 f3) (.slice o1 o2 o3) x) (hL:Rep EvE w0 (.slice la (evAll p).length lc) (evAll p)) :
 TestsP_rel ⟨B1,0,none⟩ ⟨B2,0,none⟩ ⟨B3,0,none⟩ ⟨B4,0,none⟩ (evAll p).length f w0:=by
 intro i k w hi hk hb
 have q1:=(hb.cell (p:=⟨B1,0,none⟩) (lt_of_cell h1)).trans h1
 have q2:=(hb.cell (p:=⟨B2,0,none⟩) (lt_of_cell h2)).trans h2
 have q2':=(hb.cell (p:=⟨B2,1,none⟩) (lt_of_cell h2)).trans h2'
 have q3:=(hb.cell (p:=⟨B3,0,none⟩) (lt_of_cell h3)).trans h3
 have q4:=(hb.cell (p:=⟨B4,0,none⟩) (lt_of_cell h4)).trans h4
 have l1:=lt_of_cell q1;have l2:=lt_of_cell q2;have l3:=lt_of_cell q3;have l4:=lt_of_cell q4
 have HC:=hide (hI _ f1 o1 la f2 f3 o2 o3 lc i k w (hP.below hb) (hX.below hb) (hL.below hb) hi hk)
 clear hP hX hL hI h1 h2 h2' h3 h4 hb
 generalize (evAll p).length=n at *
 go_enter Tryz.func207,Tryz.ntmps207
 go_wp2_with fail
 (with_reducible refine HC.out.mono ?_);rintro e w1 ⟨rfl,hb1⟩
 go_wp2_with fail
 go_ret
 exact ⟨rfl,hb1⟩
theorem relOf_any (pv:Value) (f1 o1:Option Addr) (f2 f3 o2 o3:Nat) (nm:ByteArray) (p:List (List Ins)) (x:Xc) (f:Nat→Nat→Bool) (w:World) (hI:IsPairAt p x nm f) (hp:RepP w pv p) (hx:RepX w (.slice f1 f2 f3) (.slice o1 o2 o3) x) (hpv:progValid p=true) (hl:p.flatten.length≤1048576) :
 Calls Tryz.prog 183 #[pv, .agg #[.slice f1 f2 f3, .slice o1 o2 o3], .string nm] w (RetOwn IntE 3 w (relOf (evAll p).length f)):=by
 obtain ⟨pa,pc,rfl, -,hpn, -, -⟩:=hp.open
 have hen:=evAll_le hpv
 generalize hA:((w.alloc (.cells #[.slice pa p.length pc] 32)).alloc (.cells #[.slice f1 f2 f3, .slice o1 o2 o3] 29)).alloc (.cells #[.string nm] 9)=A0
 have HB:Hid (Below w.heap.size w A0):=hide (by rw [← hA];exact (((Below.refl _ _).alloc (Nat.le_refl _) _).alloc (by simp) _).alloc (by simp;omega) _)
 have Z1:Hid (A0.heap[w.heap.size]? = some (.cells #[.slice pa p.length pc] 32 (0,0))):=hide (by rw [← hA,heap_alloc_old _ _ (by simp;omega),heap_alloc_old _ _ (by simp)];exact heap_alloc_new w _)
 have Z2:Hid (A0.heap[w.heap.size+1]? = some (.cells #[.slice f1 f2 f3, .slice o1 o2 o3] 29 (0,0))):=hide (by
  rw [← hA,heap_alloc_old _ _ (by simp)]
  have h:=heap_alloc_new (w.alloc (.cells #[.slice pa p.length pc] 32)) (.cells #[.slice f1 f2 f3, .slice o1 o2 o3] 29);simpa using h)
 have Z4:Hid (A0.heap[w.heap.size+1+1]? = some (.cells #[.string nm] 9 (0,0))):=hide (by
  rw [← hA]
  have h:=heap_alloc_new ((w.alloc (.cells #[.slice pa p.length pc] 32)).alloc (.cells #[.slice f1 f2 f3, .slice o1 o2 o3] 29)) (.cells #[.string nm] 9);simpa using h)
 have c1:A0.cell? ⟨w.heap.size,0,none⟩=some (.slice pa p.length pc):=cell_of_heapV Z1.out (k:=0) rfl
 have cl:=lt_of_cell c1
 have HP:=hide (hp.below HB.out);have HX:=hide (hx.below HB.out)
 have HEV:=hide (events_any _ p A0 HP.out hl)
 have HIS:=hide hI
 clear hp hx hI
 have HN:=hide hen
 clear hen
 go_enter Tryz.func183,Tryz.ntmps183
 go_wp2_with fail
 clear hA
 (with_reducible refine HEV.out.mono ?_);rintro e w1 ⟨ve,rfl,oe,hb1⟩
 obtain ⟨ea,ec,rfl, -, -, -, -⟩:=oe.rep.open
 have k1:=(hb1.block w.heap.size (by omega)).trans Z1.out
 have k2:=(hb1.block (w.heap.size+1) (Array.getElem?_eq_some_iff.1 Z2.out).1).trans Z2.out
 have k4:=(hb1.block (w.heap.size+1+1) (Array.getElem?_eq_some_iff.1 Z4.out).1).trans Z4.out
 have HB2:Hid (Below w1.heap.size w1 (w1.alloc (.cells #[.slice ea (evAll p).length ec] 96))):=hide ((Below.refl _ _).alloc (Nat.le_refl _) _)
 have K1:=heap_alloc_new w1 (.cells #[.slice ea (evAll p).length ec] 96)
 have T:=relOf_1 w.heap.size (w.heap.size+1) w1.heap.size (w.heap.size+1+1) pa f1 o1 ea p.length pc f2 f3 o2 o3 ec nm p x f (w1.alloc (.cells #[.slice ea (evAll p).length ec] 96)) HIS.out
  (cell_of_heapV ((HB2.out.block _ (Array.getElem?_eq_some_iff.1 k1).1).trans k1) (k:=0) rfl) (cell_of_heapV ((HB2.out.block _ (Array.getElem?_eq_some_iff.1 k2).1).trans k2) (k:=0) rfl) (cell_of_heapV ((HB2.out.block _ (Array.getElem?_eq_some_iff.1 k2).1).trans k2) (k:=1) rfl)
  (cell_of_heapV K1 (k:=0) rfl) (cell_of_heapV ((HB2.out.block _ (Array.getElem?_eq_some_iff.1 k4).1).trans k4) (k:=0) rfl) ((HP.out.below hb1).below HB2.out) ((HX.out.below hb1).below HB2.out) (oe.rep.below HB2.out)
 have HPA:=hide (pairsOf_rel _ _ _ _ (evAll p).length f _ (by have:=HN.out;omega) T)
 have HBA:=hide (HB.out.trans ((hb1.trans (HB2.out.mono hb1.size)).mono HB.out.size))
 clear T K1 k1 k2 k4 oe hb1 HEV HIS c1 cl
 generalize (evAll p).length=n at *
 go_wp2_with fail
 (with_reducible refine HPA.out.mono ?_);rintro e w5 ⟨v5,rfl,o5,hb5⟩
 have HO5:=hide (o5.mono HBA.out.size);have HB5:=hide (HBA.out.trans (hb5.mono HBA.out.size))
 clear o5 hb5
 go_wp2_with fail
 go_ret
 exact ⟨_,rfl,HO5.out,HB5.out⟩
end Go.Proofs.YtkfhgnkonaafgaaGreatDoor
namespace Go.Proofs.YtkfhgnkonaafgaaGreatDoor
open Go.RowKit
theorem l6Outcome_any (v vf vo vv:Value) (p:List (List Ins)) (x:Xc) (w:World) (hp:RepP w v p) (hx:RepX w vf vo x) (hvv:Rep IntE w vv (valsL p x.fr)) (hl:p.flatten.length≤1048576) (hok:execOk p x=true) (hvo:valsOk p x.fr=true) :
 Calls Tryz.prog 38 #[v, .agg #[vf,vo],vv] w (RetOwn IntE 3 w (outL p (evAll p) x (valsL p x.fr))):=by
 have HE:=hide (fun w' h=>l6Events_any v p w' h hl)
 have hok2:=hok
 unfold execOk at hok2
 simp only [Bool.and_eq_true,decide_eq_true_eq] at hok2
 obtain ⟨hpv,hfl,hol, -, -⟩:=hok2
 have hen:=evAll_le hpv
 have hp3:=(valid_le hpv).1
 have HVR:=hide (fun k e h1 h2=>val_read (k:=k) (e:=e) hok hvo h1 h2)
 have HVD:=hide (fun l h1=>val_order (l:=l) hok hvo h1)
 have HOLN:=hide (fun l o (h1:l < 3) h2=>order_le (l:=l) (o:=o) hok h1 h2)
 have HLR:=hide (fun ve t idx reg w' h h'=>l6Reg_any v ve p (evAll p) rfl t idx reg w' h h' (by omega))
 have HLC:=hide (fun t idx g=>lastRd_cases p (evAll p) t idx g)
 have HTS:=hide (fun j r h=>outTo_succ (p:=p) (evAll p) x.fr (valsL p x.fr) (j:=j) (r:=r) h)
 have HT0:Hid (outTo p (evAll p) x.fr (valsL p x.fr) 0=[]):=hide rfl
 have HTL:=hide (fun j h=>outTo_length p (evAll p) x.fr (valsL p x.fr) j h)
 have HRS:=hide (fun t n k=>outRow_succ p (evAll p) x.fr (valsL p x.fr) t n k)
 have HR0:Hid (∀ t n,outRow p (evAll p) x.fr (valsL p x.fr) t n 0=[]):=hide (fun _ _=>rfl)
 have HRL:=hide (fun t n k=>outRow_length p (evAll p) x.fr (valsL p x.fr) t n k)
 have HMS:=hide (fun k=>outMem_succ x.od (valsL p x.fr) k)
 have HM0:Hid (outMem x.od (valsL p x.fr) 0=[]):=hide rfl
 have HML:=hide (fun k=>outMem_length x.od (valsL p x.fr) k)
 have HRG:Hid (∀ t idx g,regV p (evAll p) x.fr (valsL p x.fr) t idx g=regOf x.fr (valsL p x.fr) (lastRd p (evAll p) t idx g)):=hide (fun _ _ _=>rfl)
 have HOUT:Hid (outL p (evAll p) x (valsL p x.fr)=outTo p (evAll p) x.fr (valsL p x.fr) p.length++outMem x.od (valsL p x.fr) 3):=hide rfl
 clear hpv
 have HP:=hide hp;have HX:=hide hx;have HU:=hide hvv
 have HFLE:=hide hfl;have HOLE:=hide hol
 obtain ⟨pa,pc,rfl, -,hpn, -, -⟩:=hp.open
 obtain ⟨fa,fc,rfl, -,hfn, -, -⟩:=hx.fr.open
 obtain ⟨oa,oc,rfl, -,hon, -, -⟩:=hx.od.open
 obtain ⟨ua,uc,rfl, -,hun, -, -⟩:=hvv.open
 clear hp hx hvv hok hfl hol hvo
 have HB0:=hide ((Below.refl w.heap.size w).alloc (Nat.le_refl _) (.cells #[.slice fa x.fr.length fc, .slice oa x.od.length oc] 29))
 have HBX:=hide (heap_alloc_new w (.cells #[.slice fa x.fr.length fc, .slice oa x.od.length oc] 29))
 have HP0:=hide (HP.out.below HB0.out);have HX0:=hide (HX.out.below HB0.out);have HU0:=hide (HU.out.below HB0.out)
 have hz1:w.heap.size < (w.alloc (.cells #[.slice fa x.fr.length fc, .slice oa x.od.length oc] 29)).heap.size:=by simp
 clear HP HX HU
 generalize outL p (evAll p) x (valsL p x.fr)=R at *
 generalize hvl:valsL p x.fr=vals at *
 generalize hes:evAll p=es at *
 clear hvl hes
 generalize hfn':x.fr.length=fn at *
 generalize hon':x.od.length=on at *
 generalize hpn':p.length=pn at *
 generalize hen':es.length=en at *
 generalize hvn':vals.length=vn at *
 have HFN:=hide hfn';have HON:=hide hon';have HPN:=hide hpn';have HEN:=hide hen';have HVN:=hide hvn'
 clear hfn' hon' hpn' hen' hvn'
 go_enter Tryz.func38,Tryz.ntmps38
 go_wp2_with fail
 have hsz:(w.alloc (.cells #[.slice fa fn fc, .slice oa on oc] 29)).heap.size=w.heap.size+1:=by simp
 generalize hw1:w.alloc (.cells #[.slice fa fn fc, .slice oa on oc] 29)=w1 at *
 clear hw1
 have ha:=(Below.refl w1.heap.size w1).alloc (Nat.le_refl _) (.cells #[] 3)
 have HA:=hide ha
 have OA:=hide (Own.empty (E:=IntE) 3 w1 (Nat.le_refl _))
 (with_reducible refine (HE.out _ (HP0.out.below ha)).mono ?_);rintro e w2 ⟨ve,rfl,oe,hb2⟩
 have OE2:=hide (oe.mono ha.size)
 have OA2:Hid (OwnN w2 w1.heap.size (.slice (some ⟨w.heap.size+1,0,none⟩) 0 0) []):=hide (by have h:=OA.out.below hb2;rw [hsz] at h ⊢;exact h)
 have HB2:=hide (ha.trans (hb2.mono ha.size))
 obtain ⟨⟨ea,en',ec⟩,rfl,heq⟩:=oe.toSlc
 clear heq
 have HSZ:=hide hsz
 clear oe hb2 ha OA HA HE hsz
 go_wp2_with fail
 go_loopw [7,9] (fun s i wr => ∃ t:Nat,t≤pn∧i = .int .i64 t∧OwnN wr w1.heap.size s (outTo p es x.fr vals t)∧Own EvE 99 wr w1.heap.size (.slice ea en' ec) es∧Below w1.heap.size w1 wr) (fun _ i _=>pn - (intOf i).toNat)
 case atStart=>exact ⟨0,Nat.zero_le _,rfl,by rw [HT0.out];exact OA2.out,OE2.out,HB2.out⟩
 case round =>
  obtain ⟨t,ht,rfl,hown,hoe,hbr⟩:=hrel
  by_cases hlt:t < pn
  ·obtain ⟨r,hpt⟩:=get_of_lt (xs:=p) (k:=t) (by rw [HPN.out];exact hlt)
   have hlt':=nat_of_lt hlt
   have TS:=hide (HTS.out t r hpt)
   have HTLt:=hide (HTL.out t ht)
   have HPT:=hide hpt
   have HOW:=hide hown;have HOE:=hide hoe;have HBR:=hide hbr
   generalize outTo p es x.fr vals t=G at *
   clear hpt hown hoe hbr
   go_wp2_with fail
   go_loopw [7,10] (fun s i wr => ∃ g:Nat,g≤3∧i = .int .i64 g∧OwnN wr w1.heap.size s (G++outRow p es x.fr vals t r.length g)∧Own EvE 99 wr w1.heap.size (.slice ea en' ec) es∧Below w1.heap.size w1 wr) (fun _ i _=>3 - (intOf i).toNat)
   case atStart=>exact ⟨0,by omega,rfl,by rw [HR0.out,List.append_nil];exact HOW.out,HOE.out,HBR.out⟩
   case round =>
    obtain ⟨g,hg,rfl,hown,hoe,hbr⟩:=hrel
    by_cases hg3:g < 3
    ·have hg2:(g:Int)≤2:=by omega
     have hlen:(G++outRow p es x.fr vals t r.length g).length≤68719476736:=by rw [List.length_append,HTLt.out,HRL.out];omega
     have RS:=hide (HRS.out t r.length g)
     have RG:=hide (HRG.out (t:Int) (r.length:Int) (g:Int))
     have HL:=hide (HLR.out _ (t:Int) (r.length:Int) (g:Int) wr (HP0.out.below hbr) hoe.rep)
     have hcs:=HLC.out (t:Int) (r.length:Int) (g:Int)
     obtain ⟨b2,o2,ra,rc,rfl,hbl2,q0,q1⟩:=(HP0.out.below hbr).row HPT.out
     have OWr:=hide hown;have OEr:=hide hoe;have BRr:=hide hbr
     generalize outRow p es x.fr vals t r.length g=G2 at *
     clear hown hoe hbr q1
     go_wp2_with fail
     (with_reducible refine HL.out.mono ?_);rintro e w5 ⟨rfl,hb5⟩
     have OW5:=hide (OWr.out.below hb5);have OE5:=hide (OEr.out.below hb5)
     have B5:=hide (BRr.out.trans (hb5.mono BRr.out.size))
     clear hb5 q0 HL OWr OEr BRr
     rcases hcs with hlr | ⟨k,e2,hlr,hek,her⟩
     ·have RV:Hid (G++outRow p es x.fr vals t r.length (g+1)=(G++G2)++[0]):=hide (by rw [RS.out,List.append_assoc,RG.out,hlr];rfl)
      rw [hlr]
      clear hlr RG
      generalize hGG:G++G2=GG at *
      clear hGG
      go_wp2_with (at_builtin;refine wpList_app IntE 3 Tryz.infoInt rfl Tryz.underlying24 w1.heap.size _ GG 0 (OW5.out.alloc _) (by decide) hlen (by have:=B5.out.size;simp;omega) rfl _ _ rfl rfl _ 0 1 rfl (news_allocV (by simp)) ?_;intro v' w6 hown6 hgr6;have B6:=hide (below_app B5.out OW5.out hgr6);have E6:=hide ((OE5.out.alloc (.cells #[.int .i64 0] 3)).grown hgr6 (own_or (by decide) OW5.out OE5.out));have O6:=hide hown6;clear hown6 hgr6)
      go_roundw
      case rel=>exact ⟨g+1,by omega,by go_num,by rw [RV.out];exact O6.out,E6.out,B6.out⟩
      case measure=>simp [intOf];omega
     ·obtain ⟨j,vv,hfj,hvj,hv0,hv3⟩:=HVR.out k e2 hek her
      have RV:Hid (G++outRow p es x.fr vals t r.length (g+1)=(G++G2)++[vv]):=hide (by
       rw [RS.out,List.append_assoc,RG.out,hlr]
       unfold regOf
       rw [if_neg (by omega),valAt_eq hfj hvj])
      rw [hlr]
      obtain ⟨b4,o4,rfl,hbl4,f0⟩:=HX0.out.fr.int hfj
      obtain ⟨b5,o5,rfl,hbl5,u0⟩:=HU0.out.int hvj
      have hkf:(k:Int) < (fn:Int):=by have:=(List.getElem?_eq_some_iff.1 hfj).1;have:=HFN.out;omega
      have hjv:(j:Int) < (vn:Int):=by have:=(List.getElem?_eq_some_iff.1 hvj).1;have:=HVN.out;omega
      have f0:=(B5.out.cell (p:=⟨b4,o4+k,none⟩) hbl4).trans f0
      have u0:=(B5.out.cell (p:=⟨b5,o5+j,none⟩) hbl5).trans u0
      have x0:=(B5.out.cell (p:=⟨w.heap.size,0,none⟩) hz1).trans (cell_of_heapV HBX.out (k:=0) rfl)
      have l4:=Nat.lt_of_lt_of_le hbl4 B5.out.size
      have l5:=Nat.lt_of_lt_of_le hbl5 B5.out.size
      have l6:=Nat.lt_of_lt_of_le hz1 B5.out.size
      have hk0:decide ((k:Int) < 0)=false:=by simp
      clear hlr RG hfj hvj hek her
      generalize hGG:G++G2=GG at *
      clear hGG
      go_wp2_with (at_builtin;refine wpList_app IntE 3 Tryz.infoInt rfl Tryz.underlying24 w1.heap.size _ GG vv (OW5.out.alloc _) (by decide) hlen (by have:=B5.out.size;simp;omega) rfl _ _ rfl rfl _ 0 1 rfl (news_allocV (by simp)) ?_;intro v' w6 hown6 hgr6;have B6:=hide (below_app B5.out OW5.out hgr6);have E6:=hide ((OE5.out.alloc (.cells #[.int .i64 vv] 3)).grown hgr6 (own_or (by decide) OW5.out OE5.out));have O6:=hide hown6;clear hown6 hgr6)
      go_roundw
      case rel=>exact ⟨g+1,by omega,by go_num,by rw [RV.out];exact O6.out,E6.out,B6.out⟩
      case measure=>simp [intOf];omega
    ·obtain rfl:g=3:=by omega
     rw [← TS.out] at hown
     go_wp2_with fail
     go_roundw
     case rel=>exact ⟨t+1,by omega,by go_num,hown,hoe,hbr⟩
     case measure=>simp [intOf];omega
  ·obtain rfl:t=pn:=by omega
   have HTLt:=hide (HTL.out t (Nat.le_refl _))
   have HOW:=hide hown;have HBR:=hide hbr
   generalize outTo p es x.fr vals t=G at *
   clear hown hoe hbr
   go_wp2_with fail
   go_loopw [7,12] (fun s i wr => ∃ l:Nat,l≤3∧i = .int .i64 l∧OwnN wr w1.heap.size s (G++outMem x.od vals l)∧Below w1.heap.size w1 wr) (fun _ i _=>3 - (intOf i).toNat)
   case atStart=>exact ⟨0,by omega,rfl,by rw [HM0.out,List.append_nil];exact HOW.out,HBR.out⟩
   case round =>
    obtain ⟨l,hl3,rfl,hown,hbr⟩:=hrel
    by_cases hlt3:l < 3
    ·obtain ⟨o,j,vv,hod,ho0,hoj,hvj,hv0,hv3⟩:=HVD.out l hlt3
     have holn:=HOLN.out l o hlt3 hod
     obtain ⟨b2,o2,ra,rc,rfl,hbl2,q0,q1⟩:=HX0.out.od.row hod
     obtain ⟨b4,o4,rfl,hbl4,f0⟩:=q1.int hoj
     obtain ⟨b5,o5,rfl,hbl5,u0⟩:=HU0.out.int hvj
     have hlon:(l:Int) < (on:Int):=by have:=HON.out;have:=HOLE.out;omega
     have hl2:(l:Int)≤2:=by omega
     have hjv:(j:Int) < (vn:Int):=by have:=(List.getElem?_eq_some_iff.1 hvj).1;have:=HVN.out;omega
     have q0:=(hbr.cell (p:=⟨b2,o2+l,none⟩) hbl2).trans q0
     have f0:=(hbr.cell (p:=⟨b4,o4+(o.length - 1),none⟩) hbl4).trans f0
     have u0:=(hbr.cell (p:=⟨b5,o5+j,none⟩) hbl5).trans u0
     have x1:=(hbr.cell (p:=⟨w.heap.size,1,none⟩) hz1).trans (cell_of_heapV HBX.out (k:=1) rfl)
     have l2:=Nat.lt_of_lt_of_le hbl2 hbr.size
     have l4:=Nat.lt_of_lt_of_le hbl4 hbr.size
     have l5:=Nat.lt_of_lt_of_le hbl5 hbr.size
     have l6:=Nat.lt_of_lt_of_le hz1 hbr.size
     obtain ⟨q,hq⟩:∃ q,o.length=q+1:=⟨o.length - 1,by omega⟩
     rw [hq] at f0 q0 holn
     simp only [Nat.add_sub_cancel] at f0
     have hwq:wrap64 (q:Int)=q:=by unfold wrap64;omega
     have hqq:((q+1:Nat):Int) - 1=(q:Int):=by omega
     have hq1:(q:Int) < ((q+1:Nat):Int):=by omega
     have hlen:(G++outMem x.od vals l).length≤68719476736:=by rw [List.length_append,HTLt.out,HML.out];omega
     have RV:Hid (G++outMem x.od vals (l+1)=(G++outMem x.od vals l)++[vv]):=hide (by rw [HMS.out,memV_eq hod hoj hvj,List.append_assoc])
     have OWr:=hide hown;have BRr:=hide hbr
     clear hod hoj hvj hown hbr q1 ho0 hq
     generalize G++outMem x.od vals l=GG at *
     go_wp2_with (at_builtin;refine wpList_app IntE 3 Tryz.infoInt rfl Tryz.underlying24 w1.heap.size _ GG vv (OWr.out.alloc _) (by decide) hlen (by have:=BRr.out.size;simp;omega) rfl _ _ rfl rfl _ 0 1 rfl (news_allocV (by simp)) ?_;intro v' w6 hown6 hgr6;have B6:=hide (below_app BRr.out OWr.out hgr6);have O6:=hide hown6;clear hown6 hgr6)
     go_roundw
     case rel=>exact ⟨l+1,by omega,by go_num,by rw [RV.out];exact O6.out,B6.out⟩
     case measure=>simp [intOf];omega
    ·obtain rfl:l=3:=by omega
     go_wp2_with fail
     go_ret
     exact ⟨_,rfl,by rw [HOUT.out];exact hown.mono HB0.out.size,HB0.out.trans (hbr.mono HB0.out.size)⟩
end Go.Proofs.YtkfhgnkonaafgaaGreatDoor
namespace Go.Proofs.YtkfhgnkonaafgaaGreatDoor
open Go.RowKit
end Go.Proofs.YtkfhgnkonaafgaaGreatDoor