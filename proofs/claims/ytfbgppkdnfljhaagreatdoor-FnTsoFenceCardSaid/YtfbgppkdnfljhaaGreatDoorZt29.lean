/-
  slices.DeleteFunc on candidates. Condition: the function value tests as told.
-/
import Derived.Test.YtfbgppkdnfljhaaGreatDoorZt25
import Derived.Test.YtfbgppkdnfljhaaGreatDoorZt04
import Derived.Test.YtfbgppkdnfljhaaGreatDoorZt12
import Derived.Test.YtfbgppkdnfljhaaGreatDoorZt05
import Derived.Test.YtfbgppkdnfljhaaGreatDoorZt27
set_option maxHeartbeats 6400000
set_option maxRecDepth 100000
namespace Go.Proofs.YtfbgppkdnfljhaaGreatDoor
open Go.RowKit
def TestsP_rel (a1 a2 a3 a4:Addr) (n:Nat) (f:Nat→Nat→Bool) (w0:World):Prop:=∀ (i k:Nat) (w:World),i < n→k < n→Below w0.heap.size w0 w →
 Calls Tryz.prog 232 #[.int .i64 i, .int .i64 k, .pointer (some a1), .pointer (some a2), .pointer (some a3), .pointer (some a4)] w fun e w'=>e = .returned (.bool (f i k))∧Below w.heap.size w w'
theorem pairsOf_rel (a1 a2 a3 a4:Addr) (n:Nat) (f:Nat→Nat→Bool) (w:World) (hn:n≤60) (hf:TestsP_rel a1 a2 a3 a4 n f w) :
 Calls Tryz.prog 231 #[.int .i64 n, .func (.func 232) #[] #[.pointer (some a1), .pointer (some a2), .pointer (some a3), .pointer (some a4)]] w (RetOwn IntE 3 w (relOf n f)):=by
 have HF:=hide hf;clear hf
 go_enter Tryz.func231,Tryz.ntmps231
 go_wp2_with (at_make;refine wpList_make IntE 3 0 Tryz.infoInt rfl Tryz.underlying57 n (by decide) (by omega) rfl _ _ rfl rfl rfl ?_;intro w1 hown hgr)
 have hb1:=below_of_grown hgr
 go_loopw [11] (fun i wr => ∃ t:Nat,t≤n∧i = .int .i64 t∧OwnN wr w.heap.size (.slice (some ⟨w.heap.size,0,none⟩) n n) ((relOf n f).take t++List.replicate (n - t) 0)∧Below w.heap.size w wr) (fun i _=>n - (intOf i).toNat)
 case atStart=>exact ⟨0,by omega,rfl,by simpa using hown,hb1⟩
 case round =>
  obtain ⟨t,ht,rfl,ho,hb⟩:=hrel
  by_cases hlt:t < n
  ·have hlt':=nat_of_lt hlt
   go_wp2_with fail
   go_loopw [15] (fun i wr => ∃ k:Nat,k≤n∧i = .int .i64 k∧OwnN wr w.heap.size (.slice (some ⟨w.heap.size,0,none⟩) n n) (((relOf n f).take t++List.replicate (n - t) 0).set t (bitsTo (f t) k))∧Below w.heap.size w wr) (fun i _=>n - (intOf i).toNat)
   case atStart=>exact ⟨0,by omega,rfl,by rw [rel_start n t f hlt];exact ho,hb⟩
   case round =>
    obtain ⟨k,hk,rfl,ho,hb⟩:=hrel
    by_cases hlt2:k < n
    ·have hlt2':=nat_of_lt hlt2
     have HC:=hide (HF.out t k wr hlt hlt2 hb)
     have BS:Hid (bitsTo (f t) (k+1)=if f t k=true then bits .or .i64 (bitsTo (f t) k) (wrap64 ((2:Int) ^ k)) else bitsTo (f t) k):=hide rfl
     generalize f t k=fb at *
     cases fb
     ·go_wp2_with fail
      (with_reducible refine HC.out.mono ?_);rintro e w2 ⟨rfl,hb2⟩
      go_wp2_with fail
      go_roundw
      case rel=>exact ⟨k+1,by omega,by go_num,by rw [BS.out];exact ho.below hb2,hb.trans (hb2.mono hb.size)⟩
      case measure=>simp [intOf];omega
     ·go_wp2_with fail
      (with_reducible refine HC.out.mono ?_);rintro e w2 ⟨rfl,hb2⟩
      have ho2:=ho.below hb2
      obtain ⟨hgl,c0,hfr⟩:=ho2.int (rel_get n t k f hlt)
      have ho3:=ho2.setInt (rel_get n t k f hlt) (bits .or .i64 (bitsTo (f t) k) (wrap64 ((2:Int) ^ k)))
      rw [List.set_set] at ho3
      have HO3:=hide ho3;clear ho3
      go_wp2_with fail
      go_region
      go_wp2_with fail
      go_roundw
      case rel=>exact ⟨k+1,by omega,by go_num,by rw [BS.out];exact HO3.out.below (Below.refl _ _).drew,((hb.trans (hb2.mono hb.size)).setCell (Nat.le_refl _) _).drew⟩
      case measure=>simp [intOf];omega
    ·have e:k=n:=by omega
     rw [e,rel_done n t f hlt] at ho
     go_wp2_with fail
     go_roundw
     case rel=>exact ⟨t+1,by omega,by go_num,ho,hb⟩
     case measure=>simp [intOf];omega
  ·have e:t=n:=by omega
   rw [e,Nat.sub_self,List.replicate_zero,List.append_nil,List.take_of_length_le (by rw [relOf_length];exact Nat.le_refl _)] at ho
   go_wp2_with fail
   go_ret
   exact ⟨_,rfl,ho,hb⟩
def IsPairAt (p:List (List Ins)) (x:Xc) (nm:ByteArray) (f:Nat→Nat→Bool):Prop:=∀ (pv:Value) (f1 o1 la:Option Addr) (f2 f3 o2 o3 lc:Nat) (i k:Nat) (w:World),RepP w pv p→RepX w (.slice f1 f2 f3) (.slice o1 o2 o3) x→Rep EvE w (.slice la (evAll p).length lc) (evAll p)→i < (evAll p).length→k < (evAll p).length →
 Calls Tryz.prog 233 #[pv, .agg #[.slice f1 f2 f3, .slice o1 o2 o3], .slice la (evAll p).length lc, .string nm, .int .i64 i, .int .i64 k] w fun e w'=>e = .returned (.bool (f i k))∧Below w.heap.size w w'
theorem bytes_inj {a b:ByteArray} (h:a.toList=b.toList):a=b:=by
 rw [ByteArray.toList_eq,ByteArray.toList_eq] at h
 cases a;cases b;simp_all
theorem name_at {nm:ByteArray} (hn:isName nm=true):nameTab[nameId nm]? = some nm:=by
 unfold isName at hn
 have hlt:nameId nm < nameTab.length:=List.findIdx_lt_length.2 (by simpa using (List.any_eq_true.1 hn):∃ x∈nameTab,(nm.toList==x.toList)=true)
 have h1:(nm.toList==(nameTab[nameId nm]'hlt).toList)=true:=List.findIdx_getElem (xs:=nameTab) (p:=fun s:ByteArray=>nm.toList==s.toList) (w:=hlt)
 have h2:nm=nameTab[nameId nm]'hlt:=bytes_inj (beq_iff_eq.1 h1)
 rw [List.getElem?_eq_getElem hlt]
 exact congrArg some h2.symm
theorem isPairAt_any {p:List (List Ins)} {x:Xc} (hX:execOk p x=true) {nm:ByteArray} (hn:isName nm=true):IsPairAt p x nm (relN p x (nameId nm)):=by
 have h1:=name_at hn
 have hlt:nameId nm < 10:=(List.getElem?_eq_some_iff.1 h1).1
 generalize nameId nm=c at *
 intro pv f1 o1 la f2 f3 o2 o3 lc i k w a1 a2 a3 a4 a5
 have hc:c=0∨c=1∨c=2∨c=3∨c=4∨c=5∨c=6∨c=7∨c=8∨c=9:=by omega
 rcases hc with rfl | rfl | rfl | rfl | rfl | rfl | rfl | rfl | rfl | rfl <;> obtain rfl:=(Option.some.inj h1)
 ·exact isPair_plain _ 0 (hide (.inl ⟨rfl,rfl⟩)) pv f1 o1 la f2 f3 o2 o3 lc p x i k w a1 a2 a3 a4 a5
 ·exact isPair_plain _ 1 (hide (.inr (.inl ⟨rfl,rfl⟩))) pv f1 o1 la f2 f3 o2 o3 lc p x i k w a1 a2 a3 a4 a5
 ·exact isPair_plain _ 2 (hide (.inr (.inr (.inl ⟨rfl,rfl⟩)))) pv f1 o1 la f2 f3 o2 o3 lc p x i k w a1 a2 a3 a4 a5
 ·exact isPair_rf pv f1 o1 la f2 f3 o2 o3 lc p x i k w a1 a2 a3 a4 a5 hX
 ·exact isPair_co pv f1 o1 la f2 f3 o2 o3 lc p x i k w a1 a2 a3 a4 a5 hX
 ·exact isPair_fr pv f1 o1 la f2 f3 o2 o3 lc p x i k w a1 a2 a3 a4 a5 hX
 ·exact isPair_fence pv f1 o1 la f2 f3 o2 o3 lc p x i k w a1 a2 a3 a4 a5
 ·exact isPair_plain _ 7 (hide (.inr (.inr (.inr (.inl ⟨rfl,rfl⟩))))) pv f1 o1 la f2 f3 o2 o3 lc p x i k w a1 a2 a3 a4 a5
 ·exact isPair_plain _ 8 (hide (.inr (.inr (.inr (.inr (.inl ⟨rfl,rfl⟩)))))) pv f1 o1 la f2 f3 o2 o3 lc p x i k w a1 a2 a3 a4 a5
 ·exact isPair_plain _ 9 (hide (.inr (.inr (.inr (.inr (.inr (⟨rfl,rfl⟩))))))) pv f1 o1 la f2 f3 o2 o3 lc p x i k w a1 a2 a3 a4 a5
theorem relOf_1 (B1 B2 B3 B4:Nat) (pa f1 o1 la:Option Addr) (pn pc f2 f3 o2 o3 lc:Nat) (nm:ByteArray) (p:List (List Ins)) (x:Xc) (f:Nat→Nat→Bool) (w0:World) (hI:IsPairAt p x nm f) (h1:w0.cell? ⟨B1,0,none⟩=some (.slice pa pn pc)) (h2:w0.cell? ⟨B2,0,none⟩=some (.slice f1 f2 f3)) (h2':w0.cell? ⟨B2,1,none⟩=some (.slice o1 o2 o3))
 (h3:w0.cell? ⟨B3,0,none⟩=some (.slice la (evAll p).length lc)) (h4:w0.cell? ⟨B4,0,none⟩=some (.string nm)) (hP:RepP w0 (.slice pa pn pc) p) (hX:RepX w0 (.slice f1 f2 f3) (.slice o1 o2 o3) x) (hL:Rep EvE w0 (.slice la (evAll p).length lc) (evAll p)) :
 TestsP_rel ⟨B1,0,none⟩ ⟨B2,0,none⟩ ⟨B3,0,none⟩ ⟨B4,0,none⟩ (evAll p).length f w0:=by
 intro i k w hi hk hb
 have q1:=(hb.cell (p:=⟨B1,0,none⟩) (lt_of_cell h1)).trans h1
 have q2:=(hb.cell (p:=⟨B2,0,none⟩) (lt_of_cell h2)).trans h2
 have q2':=(hb.cell (p:=⟨B2,1,none⟩) (lt_of_cell h2)).trans h2'
 have q3:=(hb.cell (p:=⟨B3,0,none⟩) (lt_of_cell h3)).trans h3
 have q4:=(hb.cell (p:=⟨B4,0,none⟩) (lt_of_cell h4)).trans h4
 have l1:=lt_of_cell q1;have l2:=lt_of_cell q2;have l3:=lt_of_cell q3;have l4:=lt_of_cell q4
 have HC:=hide (hI _ f1 o1 la f2 f3 o2 o3 lc i k w (hP.below hb) (hX.below hb) (hL.below hb) hi hk)
 clear hP hX hL hI h1 h2 h2' h3 h4 hb
 generalize (evAll p).length=n at *
 go_enter Tryz.func232,Tryz.ntmps232
 go_wp2_with fail
 (with_reducible refine HC.out.mono ?_);rintro e w1 ⟨rfl,hb1⟩
 go_wp2_with fail
 go_ret
 exact ⟨rfl,hb1⟩
theorem relOf_any (pv:Value) (f1 o1:Option Addr) (f2 f3 o2 o3:Nat) (nm:ByteArray) (p:List (List Ins)) (x:Xc) (f:Nat→Nat→Bool) (w:World) (hI:IsPairAt p x nm f) (hp:RepP w pv p) (hx:RepX w (.slice f1 f2 f3) (.slice o1 o2 o3) x) (hpv:progValid p=true) (hl:p.flatten.length≤1048576) :
 Calls Tryz.prog 174 #[pv, .agg #[.slice f1 f2 f3, .slice o1 o2 o3], .string nm] w (RetOwn IntE 3 w (relOf (evAll p).length f)):=by
 obtain ⟨pa,pc,rfl, -,hpn, -, -⟩:=hp.open
 have hen:=evAll_le hpv
 generalize hA:((w.alloc (.cells #[.slice pa p.length pc] 28)).alloc (.cells #[.slice f1 f2 f3, .slice o1 o2 o3] 60)).alloc (.cells #[.string nm] 9)=A0
 have HB:Hid (Below w.heap.size w A0):=hide (by rw [← hA];exact (((Below.refl _ _).alloc (Nat.le_refl _) _).alloc (by simp) _).alloc (by simp;omega) _)
 have Z1:Hid (A0.heap[w.heap.size]? = some (.cells #[.slice pa p.length pc] 28 (0,0))):=hide (by rw [← hA,heap_alloc_old _ _ (by simp;omega),heap_alloc_old _ _ (by simp)];exact heap_alloc_new w _)
 have Z2:Hid (A0.heap[w.heap.size+1]? = some (.cells #[.slice f1 f2 f3, .slice o1 o2 o3] 60 (0,0))):=hide (by
  rw [← hA,heap_alloc_old _ _ (by simp)]
  have h:=heap_alloc_new (w.alloc (.cells #[.slice pa p.length pc] 28)) (.cells #[.slice f1 f2 f3, .slice o1 o2 o3] 60);simpa using h)
 have Z4:Hid (A0.heap[w.heap.size+1+1]? = some (.cells #[.string nm] 9 (0,0))):=hide (by
  rw [← hA]
  have h:=heap_alloc_new ((w.alloc (.cells #[.slice pa p.length pc] 28)).alloc (.cells #[.slice f1 f2 f3, .slice o1 o2 o3] 60)) (.cells #[.string nm] 9);simpa using h)
 have c1:A0.cell? ⟨w.heap.size,0,none⟩=some (.slice pa p.length pc):=cell_of_heapV Z1.out (k:=0) rfl
 have cl:=lt_of_cell c1
 have HP:=hide (hp.below HB.out);have HX:=hide (hx.below HB.out)
 have HEV:=hide (events_any _ p A0 HP.out hl)
 have HIS:=hide hI
 clear hp hx hI
 have HN:=hide hen
 clear hen
 go_enter Tryz.func174,Tryz.ntmps174
 go_wp2_with fail
 clear hA
 (with_reducible refine HEV.out.mono ?_);rintro e w1 ⟨ve,rfl,oe,hb1⟩
 obtain ⟨ea,ec,rfl, -, -, -, -⟩:=oe.rep.open
 have k1:=(hb1.block w.heap.size (by omega)).trans Z1.out
 have k2:=(hb1.block (w.heap.size+1) (Array.getElem?_eq_some_iff.1 Z2.out).1).trans Z2.out
 have k4:=(hb1.block (w.heap.size+1+1) (Array.getElem?_eq_some_iff.1 Z4.out).1).trans Z4.out
 have HB2:Hid (Below w1.heap.size w1 (w1.alloc (.cells #[.slice ea (evAll p).length ec] 127))):=hide ((Below.refl _ _).alloc (Nat.le_refl _) _)
 have K1:=heap_alloc_new w1 (.cells #[.slice ea (evAll p).length ec] 127)
 have T:=relOf_1 w.heap.size (w.heap.size+1) w1.heap.size (w.heap.size+1+1) pa f1 o1 ea p.length pc f2 f3 o2 o3 ec nm p x f (w1.alloc (.cells #[.slice ea (evAll p).length ec] 127)) HIS.out
  (cell_of_heapV ((HB2.out.block _ (Array.getElem?_eq_some_iff.1 k1).1).trans k1) (k:=0) rfl) (cell_of_heapV ((HB2.out.block _ (Array.getElem?_eq_some_iff.1 k2).1).trans k2) (k:=0) rfl) (cell_of_heapV ((HB2.out.block _ (Array.getElem?_eq_some_iff.1 k2).1).trans k2) (k:=1) rfl)
  (cell_of_heapV K1 (k:=0) rfl) (cell_of_heapV ((HB2.out.block _ (Array.getElem?_eq_some_iff.1 k4).1).trans k4) (k:=0) rfl) ((HP.out.below hb1).below HB2.out) ((HX.out.below hb1).below HB2.out) (oe.rep.below HB2.out)
 have HPA:=hide (pairsOf_rel _ _ _ _ (evAll p).length f _ (by have:=HN.out;omega) T)
 have HBA:=hide (HB.out.trans ((hb1.trans (HB2.out.mono hb1.size)).mono HB.out.size))
 clear T K1 k1 k2 k4 oe hb1 HEV HIS c1 cl
 generalize (evAll p).length=n at *
 go_wp2_with fail
 (with_reducible refine HPA.out.mono ?_);rintro e w5 ⟨v5,rfl,o5,hb5⟩
 have HO5:=hide (o5.mono HBA.out.size);have HB5:=hide (HBA.out.trans (hb5.mono HBA.out.size))
 clear o5 hb5
 go_wp2_with fail
 go_ret
 exact ⟨_,rfl,HO5.out,HB5.out⟩
end Go.Proofs.YtfbgppkdnfljhaaGreatDoor
namespace Go.Proofs.YtfbgppkdnfljhaaGreatDoor
open Go.RowKit
abbrev XP:Type:=Sl2 × Dd × Xc
def PE:El XP:=⟨2,by decide,fun x=>[.slice x.1.f.a x.1.f.n x.1.f.cap, .slice x.1.o.a x.1.o.n x.1.o.cap],fun _=>rfl,fun x u h=>by simp at h;rcases h with rfl | rfl <;> rfl⟩
theorem PE.flat (ps:List XP):ps.flatMap PE.c=(ps.map (·.1)).flatMap XE.c:=by
 rw [List.flatMap_map];rfl
theorem PE.own {T:TypeId} {w:World} {base:Nat} {v:Value} {ps:List XP}:Own PE T w base v ps↔Own XE T w base v (ps.map (·.1)):=by
 unfold Own
 rw [PE.flat,List.length_map];exact Iff.rfl
theorem Own.xp {T:TypeId} {w:World} {base g n cap:Nat} {xs:List XP} (h:Own PE T w base (.slice (some ⟨g,0,none⟩) n cap) xs) {k:Nat} {x:XP} (hx:xs[k]? = some x) :
 g < w.heap.size∧w.cell? ⟨g,k * 2,none⟩=some (.slice x.1.f.a x.1.f.n x.1.f.cap)∧w.cell? ⟨g,k * 2+1,none⟩=some (.slice x.1.o.a x.1.o.n x.1.o.cap)∧∀ j,w.frozen? ⟨g,j,none⟩=false:=
 ⟨(World.ownsRow.lt h g rfl).2,h.cell hx (j:=0) rfl,h.cell hx (j:=1) rfl,fun j=>h.frozen j⟩
theorem Own.setXp {T:TypeId} {w:World} {base g n cap:Nat} {xs:List XP} (h:Own PE T w base (.slice (some ⟨g,0,none⟩) n cap) xs) {k:Nat} {z:XP} (hz:xs[k]? = some z) (x:XP) :
 Own PE T ((w.setCell ⟨g,k * 2,none⟩ (.slice x.1.f.a x.1.f.n x.1.f.cap)).setCell ⟨g,k * 2+1,none⟩ (.slice x.1.o.a x.1.o.n x.1.o.cap)) base (.slice (some ⟨g,0,none⟩) n cap) (xs.set k x):=by
 have h0:=h.set (i:=k) (j:=0) (⟨⟨x.1.f,z.1.o⟩,x.2⟩:XP) (u:=.slice x.1.f.a x.1.f.n x.1.f.cap) (by decide) hz rfl
 have h1:=h0.set (i:=k) (j:=1) x (u:=.slice x.1.o.a x.1.o.n x.1.o.cap) (by decide) (get_set_self hz _) rfl
 simp only [List.set_set] at h1
 exact h1
theorem Rep.xp {w:World} {a:Option Addr} {n c:Nat} {xs:List XP} (h:Rep PE w (.slice a n c) xs) {k:Nat} {x:XP} (hx:xs[k]? = some x) :
 ∃ b o,a=some ⟨b,o,none⟩∧b < w.heap.size∧w.cell? ⟨b,o+k * 2,none⟩=some (.slice x.1.f.a x.1.f.n x.1.f.cap)∧w.cell? ⟨b,o+k * 2+1,none⟩=some (.slice x.1.o.a x.1.o.n x.1.o.cap):=by
 obtain ⟨a',c',hv, -, -,h⟩:=h
 simp only [Value.slice.injEq] at hv
 obtain ⟨rfl, -, -⟩:=hv
 obtain ⟨b,o,rfl,h'⟩:=h k x hx
 exact ⟨b,o,rfl,lt_of_cell (h' 0 _ rfl),h' 0 _ rfl,h' 1 _ rfl⟩
def IdxOfX (f:XP→Bool) (xs:List XP) (q:Int):Prop:=(q = -1∧∀ x∈xs,f x=false)∨∃ (t:Nat) (x:XP),q=t∧xs[t]? = some x∧f x=true∧∀ y∈xs.take t,f y=false
theorem none_succX {f:XP→Bool} {xs:List XP} {t:Nat} {x:XP} (h:∀ y∈xs.take t,f y=false) (hx:xs[t]? = some x) (hf:f x=false):∀ y∈xs.take (t+1),f y=false:=by
 intro y hy
 rw [List.take_add_one,hx] at hy
 simp at hy
 rcases hy with hy | rfl
 ·exact h y hy
 ·exact hf
def TestsX (a1 a2:Addr) (f:XP→Bool) (xs:List XP) (w0:World) (row:Option Nat):Prop:=∀ x∈xs,∀ w:World,w0.grownBy w row→Calls Tryz.prog 39 #[.agg #[.slice x.1.f.a x.1.f.n x.1.f.cap, .slice x.1.o.a x.1.o.n x.1.o.cap], .pointer (some a1), .pointer (some a2)] w fun e w'=>e = .returned (.bool (f x))∧Below w.heap.size w w'
theorem IndexFunc_ax (a1 a2:Addr) (v:Value) (xs:List XP) (f:XP→Bool) (w:World) (row:Option Nat) (hx:Rep PE w v xs) (hf:TestsX a1 a2 f xs w row) :
 Calls Tryz.prog 91 #[v, .func (.func 39) #[] #[.pointer (some a1), .pointer (some a2)]] w fun e w'=>(∃ q:Int,e = .returned (.int .i64 q)∧IdxOfX f xs q)∧Below w.heap.size w w':=by
 obtain ⟨a,c,rfl,hc1,hc2,hc3,hx⟩:=hx.open
 have HX:=hide hx;clear hx
 have HF:=hide hf;clear hf
 generalize hn:xs.length=n at *
 have H:=hide hn;clear hn
 go_enter Tryz.func91,Tryz.ntmps91
 go_wp2_with fail
 go_loopw [8] (fun i wr => ∃ t:Nat,t≤n∧i = .int .i64 t∧Hid (∀ x∈xs.take t,f x=false)∧Below w.heap.size w wr) (fun i _=>n - (intOf i).toNat)
 case atStart=>exact ⟨0,Nat.zero_le _,rfl,hide (by simp),Below.refl _ _⟩
 case round =>
  obtain ⟨t,ht,rfl,hno,hb⟩:=hrel
  by_cases hlt:t < n
  ·obtain ⟨x,hxk⟩:=get_of_lt (xs:=xs) (k:=t) (by rw [H.out];exact hlt)
   obtain ⟨b,o,rfl,hbl,i0,i1⟩:=(HX.out.below hb).xp hxk
   have hlt':=nat_of_lt hlt
   have X:=hide hxk
   have hcall:=HF.out x (List.mem_of_getElem? hxk) _ (grown_of_below hb row)
   clear hxk
   generalize hfx:f x=fx at *
   have FX:=hide hfx;clear hfx
   have HC:=hide hcall;clear hcall
   cases fx
   ·have NO:Hid (∀ x∈xs.take (t+1),f x=false):=hide (none_succX hno.out X.out FX.out)
    go_wp2_with fail
    (with_reducible refine HC.out.mono ?_);rintro e w2 ⟨rfl,hb2⟩
    go_wp2_with fail
    go_roundw
    case rel=>exact ⟨t+1,by omega,by go_num,NO,hb.trans (hb2.mono hb.size)⟩
    case measure=>simp [intOf];omega
   ·go_wp2_with fail
    (with_reducible refine HC.out.mono ?_);rintro e w2 ⟨rfl,hb2⟩
    go_wp2_with fail
    go_ret
    exact ⟨⟨_,rfl, .inr ⟨t,x,rfl,X.out,FX.out,hno.out⟩⟩,hb.trans (hb2.mono hb.size)⟩
  ·go_wp2_with fail
   go_ret
   refine ⟨⟨_,rfl, .inl ⟨rfl, ?_⟩⟩,hb⟩
   have h:=hno.out
   rwa [List.take_of_length_le (by rw [H.out];omega)] at h
theorem DeleteFunc_ax (a1 a2:Addr) (v:Value) (xs:List XP) (f:XP→Bool) (w:World) (base:Nat) (hx:Own PE 60 w base v xs) (hl:xs.length≤1048576) (hf:TestsX a1 a2 f xs w v.ownBlock) :
 Calls Tryz.prog 37 #[v, .func (.func 39) #[] #[.pointer (some a1), .pointer (some a2)]] w fun e w'=>DelPost PE 60 w base v (xs.filter fun x => !f x) e w':=by
 have DP:Hid (∀ v' w',Own PE 60 w' base v' (xs.filter fun x => !f x)→w.grownBy w' v.ownBlock→v'.ownBlock=v.ownBlock→DelPost PE 60 w base v (xs.filter fun x => !f x) (.returned v') w'):=hide (fun v' w' h1 h2 h3=>⟨v',rfl,h1,h2,h3⟩)
 have HF:=hide hf;clear hf
 have HX:=hide hx;clear hx
 have HI:=hide (fun h=>IndexFunc_ax a1 a2 v xs f w v.ownBlock h HF.out)
 generalize hG:(xs.filter fun x => !f x)=G at *
 have HG:=hide hG;clear hG
 go_enter Tryz.func37,Tryz.ntmps37
 go_wp2_with fail
 (with_reducible refine (HI.out HX.out.rep).mono ?_);rintro e w1 ⟨⟨q,rfl,hq⟩,hb1⟩
 have HX1:=hide (HX.out.below hb1)
 have hg1:=grown_of_below hb1 v.ownBlock
 rcases hq with ⟨rfl,hno⟩ | ⟨t,x0,rfl,ht,hft,hno⟩
 ·have e1:G=xs:=by rw [← HG.out];exact filter_all (fun x h=>by rw [hno x h];rfl)
  have HE:=hide e1;clear e1 hno
  go_wp2_with fail
  go_ret
  exact DP.out _ _ (by rw [HE.out];exact HX1.out) hg1 rfl
 ·rcases HX.out.shape with ⟨-,rfl⟩ | ⟨g,c,rfl,hg,hgl,hc1,hc2⟩
  ·simp at ht
  ·have htl:=(List.getElem?_eq_some_iff.1 ht).1
   have hstart:=del_start ht hft hno
   have ST:=hide hstart;clear hstart ht hft hno
   have HF2:Hid (∀ x∈xs,∀ w':World,w.grownBy w' (some g)→Calls Tryz.prog 39 #[.agg #[.slice x.1.f.a x.1.f.n x.1.f.cap, .slice x.1.o.a x.1.o.n x.1.o.cap], .pointer (some a1), .pointer (some a2)] w' fun e w''=>e = .returned (.bool (f x))∧Below w'.heap.size w' w''):=hide HF.out
   clear HF
   generalize hn:xs.length=n at *
   have H:=hide hn;clear hn
   have htl':=nat_of_lt htl
   have hm1:((t:Int) == -1)=false:=by rw [beq_eq_false_iff_ne];omega
   go_wp2_with fail
   go_loopw [5,6] (fun si sj wr => ∃ (i j:Nat) (L:List XP),i < j∧j≤n∧si = .int .i64 i∧sj = .int .i64 j∧Own PE 60 wr base (.slice (some ⟨g,0,none⟩) n c) L∧Hid (DelInv f xs L i j)∧w.grownBy wr (some g)) (fun _ sj _=>n - (intOf sj).toNat)
   case atStart=>exact ⟨t,t+1,xs,by omega,by omega,rfl,rfl,HX1.out,hide ST.out,hg1⟩
   case round =>
    obtain ⟨i,j,L,hij,hj,rfl,rfl,ho,hI,hgr⟩:=hrel
    have hLl:L.length=n:=ho.len.symm
    have HLL:=hide hLl;clear hLl
    by_cases hlt:j < n
    ·obtain ⟨x,hxk⟩:=get_of_lt (xs:=xs) (k:=j) (by rw [H.out];exact hlt)
     have hLj:=hI.out.get hxk
     obtain ⟨y,hyi⟩:=get_of_lt (xs:=L) (k:=i) (by rw [HLL.out];omega)
     obtain ⟨-,m0,m1, -⟩:=ho.xp hyi
     obtain ⟨hgl2,j0,j1,hfr⟩:=ho.xp hLj
     have hset:=ho.setXp hyi x
     have hlt':=nat_of_lt hlt
     have hij':=nat_of_lt hij
     have hcall:=HF2.out x (List.mem_of_getElem? hxk) _ (grown_trans hgr (World.grownBy_alloc wr (.cells #[.slice x.1.f.a x.1.f.n x.1.f.cap, .slice x.1.o.a x.1.o.n x.1.o.cap] 60) (some g)))
     have X:=hide hxk;have SET:=hide hset;have YI:=hide hyi;have LJ:=hide hLj
     clear hxk hset hyi hLj
     generalize hfx:f x=fx at *
     have FX:=hide hfx;have HC:=hide hcall
     clear hfx hcall
     cases fx
     ·have KEEP:=hide (hI.out.keep hij X.out FX.out)
      go_wp2_with fail
      (with_reducible refine HC.out.mono ?_);rintro e w2 ⟨rfl,hb2⟩
      obtain ⟨hc2,hf2⟩:=bcell hb2
      have hsz2:wr.heap.size+1≤w2.heap.size:=by have:=hb2.size;simp at this;omega
      have hset2:=(ho.alloc (.cells #[.slice x.1.f.a x.1.f.n x.1.f.cap, .slice x.1.o.a x.1.o.n x.1.o.cap] 60)).below hb2
      have hset3:=hset2.setXp YI.out x
      have S3:=hide hset3;clear hset2 hset3
      have hgr2:=grown_trans hgr (grown_trans (World.grownBy_alloc wr (.cells #[.slice x.1.f.a x.1.f.n x.1.f.cap, .slice x.1.o.a x.1.o.n x.1.o.cap] 60) (some g)) (grown_of_below hb2 (some g)))
      go_wp2_with fail
      go_roundw
      case rel=>exact ⟨i+1,j+1,L.set i x,by omega,by omega,by go_num,by go_num,S3.out,hide KEEP.out,grown_set (grown_set hgr2 _ _) _ _⟩
      case measure=>simp [intOf];omega
     ·have SKIP:=hide (hI.out.skip X.out FX.out)
      go_wp2_with fail
      (with_reducible refine HC.out.mono ?_);rintro e w2 ⟨rfl,hb2⟩
      have hset2:=(ho.alloc (.cells #[.slice x.1.f.a x.1.f.n x.1.f.cap, .slice x.1.o.a x.1.o.n x.1.o.cap] 60)).below hb2
      have hgr2:=grown_trans hgr (grown_trans (World.grownBy_alloc wr (.cells #[.slice x.1.f.a x.1.f.n x.1.f.cap, .slice x.1.o.a x.1.o.n x.1.o.cap] 60) (some g)) (grown_of_below hb2 (some g)))
      go_wp2_with fail
      go_roundw
      case rel=>exact ⟨i,j+1,L,by omega,by omega,rfl,by go_num,hset2,hide SKIP.out,hgr2⟩
      case measure=>simp [intOf];omega
    ·have e:j=n:=by omega
     subst e
     have hin:=hij
     have hin':=nat_of_lt hij
     have hic:i≤c:=by omega
     have DONE:=hide (hI.out.done (by rw [H.out];exact Nat.le_refl _))
     go_wp2_with (refine wpList_clear PE 60 (⟨⟨⟨none,0,0⟩,⟨none,0,0⟩⟩,⟨0,0,[]⟩,⟨[],[]⟩⟩:XP) Tryz.infoExecY rfl Tryz.underlying26 base g _ c i _ L ho hin rfl _ rfl rfl ?_;intro w3 ho3 hgr3)
     go_ret
     have hcut:=ho3.cut (i:=i) (by omega)
     have hLi:(L.take i).length=i:=by rw [List.length_take,HLL.out];omega
     rw [List.take_append_of_le_length (by omega),List.take_take,Nat.min_self,DONE.out,HG.out] at hcut
     exact DP.out _ _ hcut (grown_trans hgr hgr3) rfl
theorem zipX {us:List Sl2} {ds:List Dd} {L:List Xc} (h1:us.length=L.length) (h2:ds.length=L.length):(us.zip (ds.zip L)).map (·.2.2)=L∧(us.zip (ds.zip L)).map (·.2.1)=ds∧(us.zip (ds.zip L)).map (·.1)=us:=by
 have a1:(us.zip (ds.zip L)).map (·.2)=ds.zip L:=List.map_snd_zip (by rw [List.length_zip];omega)
 have a2:(ds.zip L).map (·.2)=L:=List.map_snd_zip (by omega)
 have a3:(ds.zip L).map (·.1)=ds:=List.map_fst_zip (by omega)
 have e1:(us.zip (ds.zip L)).map (·.2.2)=((us.zip (ds.zip L)).map (·.2)).map (·.2):=by rw [List.map_map];rfl
 have e2:(us.zip (ds.zip L)).map (·.2.1)=((us.zip (ds.zip L)).map (·.2)).map (·.1):=by rw [List.map_map];rfl
 exact ⟨by rw [e1,a1,a2],by rw [e2,a1,a3],List.map_fst_zip (by rw [List.length_zip];omega)⟩
theorem zipX_row {us:List Sl2} {ds:List Dd} {w:World} {base:Nat} {v:Value} {L:List Xc} (h:OwnFU XE 60 Rafter PhiX us ds w base v L) {q:XP} (hq:q∈us.zip (ds.zip L)) :
 base≤q.2.1.lo∧LocR 60 q.2.1.lo q.2.1.hi w (fun W=>PhiX q.2.1 W q.1 q.2.2):=by
 obtain ⟨i,hi⟩:=List.getElem?_of_mem hq
 obtain ⟨h1,h2⟩:=List.getElem?_zip_eq_some.1 hi
 obtain ⟨h3,h4⟩:=List.getElem?_zip_eq_some.1 h2
 exact h.rows i _ _ _ h1 h3 h4
theorem RowsX.filter {us:List Sl2} {ds:List Dd} {w w':World} {base base':Nat} {v v':Value} {L:List Xc} (h:OwnFU XE 60 Rafter PhiX us ds w base v L) {f:Xc→Bool}
 (ho:Own PE 60 w' base' v' ((us.zip (ds.zip L)).filter fun x=>f x.2.2)) (hb:base'≤base) (hk:∀ q∈us.zip (ds.zip L),LocR 60 q.2.1.lo q.2.1.hi w' (fun W=>PhiX q.2.1 W q.1 q.2.2)):RowsX w' base' v' (L.filter f):=by
 obtain ⟨hz,hd, -⟩:=zipX h.lu h.ld
 have hrow:=fun q (hq:q∈us.zip (ds.zip L))=>(zipX_row h hq).1
 have hpw:=h.pw
 generalize us.zip (ds.zip L)=ps at *
 have hL:L.filter f=(ps.filter fun x=>f x.2.2).map (·.2.2):=by
  rw [← hz,List.filter_map];rfl
 rw [hL]
 refine ⟨(ps.filter fun x=>f x.2.2).map (·.1),(ps.filter fun x=>f x.2.2).map (·.2.1),by simp,by simp, ?_,PE.own.1 ho, ?_⟩
 ·have:((ps.filter fun x=>f x.2.2).map (·.2.1)).Sublist ds:=by
   rw [← hd];exact List.Sublist.map _ List.filter_sublist
  exact hpw.sublist this
 ·intro i u d x h1 h2 h3
  rw [List.getElem?_map] at h1 h2 h3
  cases hq:(ps.filter fun x=>f x.2.2)[i]? with
  | none=>rw [hq] at h1;cases h1
  | some q =>
   rw [hq] at h1 h2 h3
   simp only [Option.map_some,Option.some.injEq] at h1 h2 h3
   subst h1;subst h2;subst h3
   have hm:=(List.mem_filter.1 (List.mem_of_getElem? hq)).1
   exact ⟨Nat.le_trans hb (hrow q hm),hk q hm⟩
end Go.Proofs.YtfbgppkdnfljhaaGreatDoor