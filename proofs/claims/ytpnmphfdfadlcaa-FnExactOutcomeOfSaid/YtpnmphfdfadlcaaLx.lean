/-
  The laws' own functions on candidates: size, copy, equality, marks. Condition: bounds on lengths.
-/
import Derived.Test.YtpnmphfdfadlcaaG5
import Derived.Test.YtpnmphfdfadlcaaP3
import Derived.Test.YtpnmphfdfadlcaaLw
import Derived.Test.YtpnmphfdfadlcaaV6
namespace Go.Proofs.Ytpnmphfdfadlcaa
open Go.RowKit

theorem Try.infoExec : (Try.prog.info? 80).map (fun i => (i.zero, i.size, i.bytes)) = some (some (.agg #[.slice none 0 0, .slice none 0 0]), 2, 48) := by kernel_rfl

def szIv (n : Nat) (l : Int) : Int := if l - n < 0 then -1 else l - n
/-- What the law's size leaves. -/
def szXv (x : Xc) (l : Int) : Int := if szIv x.fr.length l < 0 then -1 else if szNN x.od (szIv x.fr.length l) < 0 then -1 else szNN x.od (szIv x.fr.length l)

theorem szN_lo (p : List (List Int)) (l : Int) (h : 0 ≤ l) : -1 ≤ szN p l := by
  induction p generalizing l with
  | nil => simp [szN]; omega
  | cons r p ih =>
    simp only [szN]
    split
    · omega
    · exact ih _ (by omega)

theorem szX_any (fa : Option Addr) (fc : Nat) (vo : Value) (x : Xc) (l : Int) (w : World) (hx : RepX w (.slice fa x.fr.length fc) vo x) (h0 : 0 ≤ l) (h1 : l ≤ 1048576) :
    Calls Try.prog 58 #[.agg #[.slice fa x.fr.length fc, vo], .int .i64 l] w fun e w' => e = .returned (.int .i64 (szXv x l)) ∧ Below w.heap.size w w' := by
  have HB0 := hide ((Below.refl w.heap.size w).alloc (Nat.le_refl _) (.cells #[.slice fa x.fr.length fc, vo] 76))
  have HX := hide (hx.below HB0.out)
  obtain ⟨-, -, -, -, hfn, -, -⟩ := hx.fr.open
  have HBX := hide (heap_alloc_new w (.cells #[.slice fa x.fr.length fc, vo] 76))
  have HS1 := hide (fun w' => szIntS_any fa x.fr.length fc l w' hfn h0 h1)
  have HR : Hid (szXv x l = if szIv x.fr.length l < 0 then -1 else if szNN x.od (szIv x.fr.length l) < 0 then -1 else szNN x.od (szIv x.fr.length l)) := hide rfl
  have HI : Hid ((if l - (x.fr.length : Int) < 0 then -1 else l - (x.fr.length : Int)) = szIv x.fr.length l) := hide rfl
  have HS1' : Hid (∀ w', Calls Try.prog 134 #[.slice fa x.fr.length fc, .int .i64 l] w' fun e w'' => e = .returned (.int .i64 (szIv x.fr.length l)) ∧ w' = w'') := hide (fun w' => HS1.out w')
  have HS2 := hide (fun w' h hh hh2 => szIntSS_any vo x.od (szIv x.fr.length l) w' h hh hh2)
  have HLE : Hid (szIv x.fr.length l ≤ 1048576) := hide (by unfold szIv; split <;> omega)
  obtain ⟨oa, oc, rfl, -, -, -, -⟩ := hx.od.open
  generalize szXv x l = R at *
  generalize szIv x.fr.length l = z at *
  generalize szNN x.od z = z2 at *
  generalize x.fr.length = fn at *
  generalize x.od.length = on at *
  have e0 := cell_of_heapB HBX.out (k := 0) rfl
  have e1 := cell_of_heapB HBX.out (k := 1) rfl
  have el := lt_of_cell e0
  clear hx HI HS1
  by_cases hz : z < 0
  · obtain rfl : R = -1 := by rw [HR.out, if_pos hz]
    go_enter Try.func58, Try.ntmps58
    go_wp2_with fail
    (with_reducible refine (HS1'.out _).mono ?_); rintro e w2 ⟨rfl, rfl⟩
    go_wp2_with fail
    go_ret
    exact ⟨rfl, HB0.out⟩
  · have HS3 := hide (HS2.out _ HX.out.od (by omega) HLE.out)
    by_cases hz2 : z2 < 0
    · obtain rfl : R = -1 := by rw [HR.out, if_neg hz, if_pos hz2]
      go_enter Try.func58, Try.ntmps58
      go_wp2_with fail
      (with_reducible refine (HS1'.out _).mono ?_); rintro e w2 ⟨rfl, rfl⟩
      go_wp2_with fail
      (with_reducible refine HS3.out.mono ?_); rintro e w3 ⟨rfl, hb3⟩
      go_wp2_with fail
      go_ret
      exact ⟨rfl, HB0.out.trans (hb3.mono HB0.out.size)⟩
    · obtain rfl : R = z2 := by rw [HR.out, if_neg hz, if_neg hz2]
      go_enter Try.func58, Try.ntmps58
      go_wp2_with fail
      (with_reducible refine (HS1'.out _).mono ?_); rintro e w2 ⟨rfl, rfl⟩
      go_wp2_with fail
      (with_reducible refine HS3.out.mono ?_); rintro e w3 ⟨rfl, hb3⟩
      go_wp2_with fail
      go_ret
      exact ⟨rfl, HB0.out.trans (hb3.mono HB0.out.size)⟩

theorem szX_le2 (x : Xc) (l : Int) (h : ¬ szXv x l < 0) (hl : l ≤ 1048576) : (0 ≤ szXv x l ∧ szXv x l ≤ 1048576) ∧ x.fr.length ≤ 1048576 ∧ x.od.length ≤ 1048576 ∧ x.od.flatten.length ≤ 1048576 ∧ ∀ r ∈ x.od, r.length ≤ 1048576 := by
  unfold szXv at h ⊢
  split at h
  · omega
  · rename_i h1
    rw [if_neg h1]
    split at h
    · omega
    · rename_i h2
      rw [if_neg h2]
      unfold szIv at h1 h2 ⊢
      split at h1
      · omega
      · rename_i h3
        rw [if_neg h3] at h2 ⊢
        generalize hzz : l - (x.fr.length : Int) = z at *
        have hz : z ≤ 1048576 := by omega
        unfold szNN at h2 ⊢
        split at h2
        · omega
        · rename_i h4
          rw [if_neg h4]
          have h5 := szN_le x.od _ (Int.not_lt.1 h2)
          have h6 := szN_eq x.od _ (Int.not_lt.1 h2)
          refine ⟨⟨by omega, by omega⟩, by omega, by omega, ?_, fun r hr => by have := h5.2 r hr; omega⟩
          rcases h6 with h6 | h6
          · omega
          · rw [h6]; simp

/-- A candidate that the law made. -/
def OwnXW (lo hi : Nat) (f o : Slc) (x : Xc) (W : World) : Prop := ∃ mid, lo ≤ mid ∧ mid ≤ hi ∧ Own IntE 3 (cut mid W) lo f.v x.fr ∧ Own2 IntE 36 3 (cut hi W) mid o.v x.od
abbrev LocX (lo hi : Nat) (w : World) (f o : Slc) (x : Xc) : Prop := Loc lo hi w (OwnXW lo hi f o x)
theorem LocX.mk' {lo mid hi : Nat} {w : World} {f o : Slc} {x : Xc} (h1 : lo ≤ mid) (h2 : mid ≤ hi) (h3 : Loc lo mid w (fun W => Own IntE 3 (cut mid W) lo f.v x.fr)) (h4 : Loc mid hi w (fun W => Own2 IntE 36 3 (cut hi W) mid o.v x.od)) : LocX lo hi w f o x :=
  ⟨⟨mid, h1, h2, h3.now, h4.now⟩, h4.le, fun w' s => ⟨mid, h1, h2, h3.keep w' (s.wide (Nat.le_refl _) h2), h4.keep w' (s.wide h1 (Nat.le_refl _))⟩⟩
theorem LocX.parts {lo hi : Nat} {w : World} {f o : Slc} {x : Xc} (h : LocX lo hi w f o x) : ∃ mid, lo ≤ mid ∧ mid ≤ hi ∧ Loc lo mid w (fun W => Own IntE 3 (cut mid W) lo f.v x.fr) ∧ Loc mid hi w (fun W => Own2 IntE 36 3 (cut hi W) mid o.v x.od) := by
  obtain ⟨mid, h1, h2, h3, h4⟩ := h.now
  have := h.le
  exact ⟨mid, h1, h2, Loc.own h3 (by omega), Loc.own2 h4 h.le⟩
theorem Loc.repX {lo hi : Nat} {w : World} {f o : Slc} {x : Xc} (h : LocX lo hi w f o x) : RepX w f.v o.v x := by
  obtain ⟨mid, -, -, h3, h4⟩ := LocX.parts h
  exact ⟨h3.rep, h4.rep2⟩

theorem frozen_of_heapX {w : World} {b : Nat} {cur : Array Value} {t : TypeId} (h : w.heap[b]? = some (.cells cur t (0, 0))) (j : Nat) : w.frozen? ⟨b, j, none⟩ = false := by
  simp [World.frozen?, h]

theorem own2_slc {α : Type} {E : El α} {T1 T2 : TypeId} {w : World} {base : Nat} {v : Value} {p : List (List α)} (h : Own2 E T1 T2 w base v p) : ∃ u : Slc, v = u.v := by
  obtain ⟨us, -, h2, -⟩ := h
  obtain ⟨u, hu, -⟩ := h2.toSlc
  exact ⟨u, hu⟩
theorem Loc.own_lo {α : Type} {E : El α} {T : TypeId} {lo lo' hi : Nat} {w : World} {v : Value} {xs : List α} (h : Loc lo hi w (fun W => Own E T (cut hi W) lo v xs)) (hl : lo' ≤ lo) : Loc lo' hi w (fun W => Own E T (cut hi W) lo' v xs) :=
  Loc.own (h.now.mono hl) h.le

theorem Outside.of_belowL {lo hi : Nat} {w w' : World} (h : Below w.heap.size w w') : Outside lo hi w w' := ⟨h.os, h.tape, h.output, h.size, fun k hk _ => h.block k hk⟩
theorem Outside.wide' {lo hi lo' hi' : Nat} {w w' : World} (h : Outside lo hi w w') (h1 : lo' ≤ lo) (h2 : hi ≤ hi') : Outside lo' hi' w w' :=
  ⟨h.os, h.tape, h.output, h.size, fun k hk hlh => h.block k hk (by omega)⟩

theorem sumN_flattenN (p : List (List Int)) : sumN (p.map List.length) = p.flatten.length := by
  induction p with
  | nil => rfl
  | cons r p ih => simp only [List.map_cons, sumN, ih, List.flatten_cons, List.length_append]

/-- A candidate that a call made. -/
def MadeX (w : World) (x : Xc) (e : Ending) (w' : World) : Prop := ∃ f o : Slc, e = .returned (.agg #[.slice f.a f.n f.cap, .slice o.a o.n o.cap]) ∧ LocX w.heap.size w'.heap.size w' f o x ∧ Below w.heap.size w w'

set_option maxRecDepth 100000 in
set_option maxHeartbeats 1600000 in
theorem toX_made (vf vo : Value) (x : Xc) (w : World) (hx : RepX w vf vo x) (hl1 : x.fr.length ≤ 1048576) (hl2 : x.od.length ≤ 1048576) (hl3 : ∀ r ∈ x.od, r.length ≤ 1048576) :
    Calls Try.prog 60 #[.agg #[vf, vo]] w (MadeX w x) := by
  obtain ⟨fa, fc, rfl, -, -, -, -⟩ := hx.fr.open
  obtain ⟨oa, oc, rfl, -, -, -, -⟩ := hx.od.open
  have HX := hide hx
  have HT1 := hide (fun w' h => toIntS_any (.slice fa x.fr.length fc) x.fr w' h hl1)
  have HT2 := hide (fun w' h => toIntSS_any (.slice oa x.od.length oc) x.od w' h hl2 hl3)
  have c1 := belowAllocB w (.cells #[.slice fa x.fr.length fc, .slice oa x.od.length oc] 76)
  have B1 := hide (heap_alloc_new w (.cells #[.slice fa x.fr.length fc, .slice oa x.od.length oc] 76))
  have hz1 : (w.alloc (.cells #[.slice fa x.fr.length fc, .slice oa x.od.length oc] 76)).heap.size = w.heap.size + 1 := by simp
  generalize hfn : x.fr.length = fn at *
  generalize hon : x.od.length = on at *
  clear hfn hon hx
  generalize hw1 : w.alloc (.cells #[.slice fa fn fc, .slice oa on oc] 76) = w1 at *
  have c2 := belowAllocB w1 (.cells #[.slice none 0 0, .slice none 0 0] 80)
  have B2 := heap_alloc_new w1 (.cells #[.slice none 0 0, .slice none 0 0] 80)
  have hz2 : (w1.alloc (.cells #[.slice none 0 0, .slice none 0 0] 80)).heap.size = w.heap.size + 2 := by simp [hz1]
  have B1' := hide ((c2.block w.heap.size (Array.getElem?_eq_some_iff.1 B1.out).1).trans B1.out)
  generalize hw2 : w1.alloc (.cells #[.slice none 0 0, .slice none 0 0] 80) = w2 at *
  have c3 := belowAllocB w2 (.cells #[.slice none 0 0, .slice none 0 0] 80)
  have B3 := heap_alloc_new w2 (.cells #[.slice none 0 0, .slice none 0 0] 80)
  have hz3 : (w2.alloc (.cells #[.slice none 0 0, .slice none 0 0] 80)).heap.size = w.heap.size + 3 := by simp [hz2]
  have B13 := hide ((c3.block w.heap.size (Array.getElem?_eq_some_iff.1 B1'.out).1).trans B1'.out)
  have B23 := hide ((c3.block w1.heap.size (Array.getElem?_eq_some_iff.1 B2).1).trans B2)
  have c123 := hide (Below.next c1 (Below.next c2 c3))
  have HX3 := hide (HX.out.below c123.out)
  generalize hw3 : w2.alloc (.cells #[.slice none 0 0, .slice none 0 0] 80) = w3 at *
  have B33 := hide B3
  have hq1 : w.heap.size < w1.heap.size := by omega
  have hq2 : w1.heap.size < w2.heap.size := by omega
  have hq3 : w2.heap.size < w3.heap.size := by omega
  have e0 := cell_of_heapB B13.out (k := 0) rfl
  have el := lt_of_cell e0
  clear B1 B1' B2 B3 c1 c2 c3 hz1 hz2 hz3
  go_enter Try.func60, Try.ntmps60
  go_wp2_with fail
  clear hw1 hw2 hw3
  (with_reducible refine (HT1.out _ HX3.out.fr).mono ?_); rintro e w4 ⟨vf', rfl, of4, hb4⟩
  obtain ⟨⟨fa', fn', fc'⟩, rfl, -⟩ := of4.toSlc
  have B24 := (hb4.block w1.heap.size (Array.getElem?_eq_some_iff.1 B23.out).1).trans B23.out
  have B34 := (hb4.block w2.heap.size (Array.getElem?_eq_some_iff.1 B33.out).1).trans B33.out
  have B14 := hide ((hb4.block w.heap.size (Array.getElem?_eq_some_iff.1 B13.out).1).trans B13.out)
  have f0 := cell_of_heapB B34 (k := 0) rfl
  have f1 := cell_of_heapB B34 (k := 1) rfl
  have fl := lt_of_cell f0
  have ff := frozen_of_heapX B34
  have g1 := cell_of_heapB B14.out (k := 1) rfl
  have gl := lt_of_cell g1
  have OF4 := hide of4; have c4 := hide (c123.out.trans (hb4.mono c123.out.size))
  have B24' := hide B24
  have B34' := hide B34
  have HX4 := hide (HX3.out.below hb4)
  have hz4 := hb4.size
  clear of4 hb4 e0 el B13 B23 B33 HX3 c123 B24 B34
  have ne12 : w.heap.size ≠ w2.heap.size := by omega
  go_wp2_with fail
  have c5 := hide (c4.out.setCell (p := ⟨w2.heap.size, 0, none⟩) (show w.heap.size ≤ w2.heap.size by omega) (.slice fa' fn' fc'))
  have HX5 := hide (HX.out.below c5.out)
  have B25 := hide ((heap_setCell_other w4 ⟨w2.heap.size, 0, none⟩ w1.heap.size (.slice fa' fn' fc') (show w1.heap.size ≠ w2.heap.size by omega)).trans B24'.out)
  have B35 := hide (heap_setCell_same w4 w2.heap.size 0 _ _ (.slice fa' fn' fc') B34'.out)
  have OF5 : Hid (Own IntE 3 (w4.setCell ⟨w2.heap.size, 0, none⟩ (.slice fa' fn' fc')) w3.heap.size (.slice fa' fn' fc') x.fr) := hide (OF4.out.same (fun q hq => heap_setCell_other w4 ⟨w2.heap.size, 0, none⟩ q _ (show q ≠ w2.heap.size by have := World.ownsRow.lt OF4.out q hq; omega)))
  have hz5 : (w4.setCell ⟨w2.heap.size, 0, none⟩ (.slice fa' fn' fc')).heap.size = w4.heap.size := by simp
  have LF5 := hide (Loc.ofOwn OF5.out)
  rw [hz5] at LF5
  have hz5' : (w4.setCell ⟨w2.heap.size, 0, none⟩ (.slice fa' fn' fc')).heap.size ≤ w4.heap.size ∧ w4.heap.size ≤ (w4.setCell ⟨w2.heap.size, 0, none⟩ (.slice fa' fn' fc')).heap.size := by omega
  clear f0 f1 fl ff g1 gl hz5 B24' B34' HX4 c4 OF4
  generalize w4.setCell ⟨w2.heap.size, 0, none⟩ (.slice fa' fn' fc') = w5 at *
  (with_reducible refine (HT2.out _ HX5.out.od).mono ?_); rintro e w6 ⟨vo', rfl, oo6, hb6⟩
  obtain ⟨⟨oa', on', oc'⟩, rfl⟩ := own2_slc oo6
  have h1 := (hb6.block w1.heap.size (Array.getElem?_eq_some_iff.1 B25.out).1).trans B25.out
  have h2 := (hb6.block w2.heap.size (Array.getElem?_eq_some_iff.1 B35.out).1).trans B35.out
  have e0 : w6.cell? ⟨w2.heap.size, 0, none⟩ = some (.slice fa' fn' fc') := cell_of_heapB h2 (k := 0) rfl
  have e1 : w6.cell? ⟨w2.heap.size, 1, none⟩ = some (.slice none 0 0) := cell_of_heapB h2 (k := 1) rfl
  have k0 := cell_of_heapB h1 (k := 0) rfl
  have k1 := cell_of_heapB h1 (k := 1) rfl
  have el := lt_of_cell e0
  have kl := lt_of_cell k0
  have ef := frozen_of_heapX h2
  have kf := frozen_of_heapX h1
  have hz6 := hb6.size
  have ne21 : w2.heap.size ≠ w1.heap.size := by omega
  have ne12' : w1.heap.size ≠ w2.heap.size := by omega
  have H1 := hide h1; have H2 := hide h2
  have LF6 := hide (LF5.out.below hb6)
  have LO6 := hide (Loc.ofOwn2 oo6)
  have c6 := hide (c5.out.trans (hb6.mono c5.out.size))
  clear h1 h2 hb6 oo6 B25 B35 OF5 LF5 HX5 c5
  go_wp2_with fail
  have hq := heap_setCell_same ((w6.setCell ⟨w2.heap.size, 1, none⟩ (.slice oa' on' oc')).setCell ⟨w1.heap.size, 0, none⟩ (.slice fa' fn' fc')) w1.heap.size 1 _ _ (.slice oa' on' oc') (heap_setCell_same (w6.setCell ⟨w2.heap.size, 1, none⟩ (.slice oa' on' oc')) w1.heap.size 0 _ _ (.slice fa' fn' fc') ((heap_setCell_other w6 ⟨w2.heap.size, 1, none⟩ w1.heap.size _ ne12').trans H1.out))
  have q0 := cell_of_heapB hq (k := 0) rfl
  have q1 := cell_of_heapB hq (k := 1) rfl
  refine bodyPost_ret (v := .agg #[.slice fa' fn' fc', .slice oa' on' oc']) (by simp [results, Try.results60, go_sem, q0, q1]) rfl ⟨⟨fa', fn', fc'⟩, ⟨oa', on', oc'⟩, rfl, ?_, ?_⟩
  · have sm : ∀ lo hi, w3.heap.size ≤ lo → hi ≤ w6.heap.size → Same lo hi w6 (((w6.setCell ⟨w2.heap.size, 1, none⟩ (.slice oa' on' oc')).setCell ⟨w1.heap.size, 0, none⟩ (.slice fa' fn' fc')).setCell ⟨w1.heap.size, 1, none⟩ (.slice oa' on' oc')) := fun lo hi h3 h4 =>
      ⟨rfl, rfl, rfl, by simp, fun k h5 h6 => by
        rw [heap_setCell_other _ ⟨w1.heap.size, 1, none⟩ k _ (show k ≠ w1.heap.size by omega), heap_setCell_other _ ⟨w1.heap.size, 0, none⟩ k _ (show k ≠ w1.heap.size by omega), heap_setCell_other _ ⟨w2.heap.size, 1, none⟩ k _ (show k ≠ w2.heap.size by omega)]⟩
    have LF := LF6.out.same (sm w3.heap.size w4.heap.size (Nat.le_refl _) (by omega))
    have LO := LO6.out.same (sm w5.heap.size w6.heap.size (by omega) (Nat.le_refl _))
    have hz : (((w6.setCell ⟨w2.heap.size, 1, none⟩ (.slice oa' on' oc')).setCell ⟨w1.heap.size, 0, none⟩ (.slice fa' fn' fc')).setCell ⟨w1.heap.size, 1, none⟩ (.slice oa' on' oc')).heap.size = w6.heap.size := by simp
    rw [hz]
    have h45 : w5.heap.size = w4.heap.size := by omega
    rw [h45] at LO
    exact LocX.mk' (mid := w4.heap.size) (by omega) (by omega) (LF.own_lo (by omega)) LO
  · exact ((c6.out.setCell (p := ⟨w2.heap.size, 1, none⟩) (show w.heap.size ≤ w2.heap.size by omega) _).setCell (p := ⟨w1.heap.size, 0, none⟩) (show w.heap.size ≤ w1.heap.size by omega) _).setCell (p := ⟨w1.heap.size, 1, none⟩) (show w.heap.size ≤ w1.heap.size by omega) _

theorem eqLL_same (v v' : Value) (p : List (List Int)) (w : World) (h : RepNN w v p) (h' : RepNN w v' p) : Calls Try.prog 141 #[v, v'] w fun e w' => e = .returned (.bool true) ∧ Below w.heap.size w w' :=
  (eqIntSS_any v v' p p w h h').mono fun _ _ ⟨a, b⟩ => ⟨by rw [a, decide_eq_true rfl], b⟩

set_option maxRecDepth 100000 in
set_option maxHeartbeats 1600000 in
theorem eqX_same (vf vo uf uo : Value) (x : Xc) (w : World) (hx : RepX w vf vo x) (hy : RepX w uf uo x) :
    Calls Try.prog 62 #[.agg #[vf, vo], .agg #[uf, uo]] w fun e w' => e = .returned (.bool true) ∧ Below w.heap.size w w' := by
  obtain ⟨fa, fc, rfl, -, -, -, -⟩ := hx.fr.open
  obtain ⟨oa, oc, rfl, -, -, -, -⟩ := hx.od.open
  obtain ⟨ga, gc, rfl, -, -, -, -⟩ := hy.fr.open
  obtain ⟨qa, qc, rfl, -, -, -, -⟩ := hy.od.open
  have c1 := belowAllocB w (.cells #[.slice fa x.fr.length fc, .slice oa x.od.length oc] 80)
  have B1 := heap_alloc_new w (.cells #[.slice fa x.fr.length fc, .slice oa x.od.length oc] 80)
  have hz1 : (w.alloc (.cells #[.slice fa x.fr.length fc, .slice oa x.od.length oc] 80)).heap.size = w.heap.size + 1 := by simp
  have c2 := belowAllocB (w.alloc (.cells #[.slice fa x.fr.length fc, .slice oa x.od.length oc] 80)) (.cells #[.slice ga x.fr.length gc, .slice qa x.od.length qc] 80)
  have B2 := heap_alloc_new (w.alloc (.cells #[.slice fa x.fr.length fc, .slice oa x.od.length oc] 80)) (.cells #[.slice ga x.fr.length gc, .slice qa x.od.length qc] 80)
  rw [hz1] at B2
  have B12 := hide ((c2.block w.heap.size (Array.getElem?_eq_some_iff.1 B1).1).trans B1)
  have B22 := hide B2
  have c12 := hide (Below.next c1 c2)
  have HX := hide (hx.below c12.out); have HY := hide (hy.below c12.out)
  have HE1 := hide (fun w' h h' => eqI_same (.slice fa x.fr.length fc) (.slice ga x.fr.length gc) x.fr w' h h')
  have HE2 := hide (fun w' h h' => eqLL_same (.slice oa x.od.length oc) (.slice qa x.od.length qc) x.od w' h h')
  generalize x.fr.length = fn at *
  generalize x.od.length = on at *
  have e0 := cell_of_heapB B12.out (k := 0) rfl
  have e1 := cell_of_heapB B12.out (k := 1) rfl
  have el := lt_of_cell e0
  have g0 := cell_of_heapB B22.out (k := 0) rfl
  have g1 := cell_of_heapB B22.out (k := 1) rfl
  have gl := lt_of_cell g0
  clear c1 B1 hz1 c2 B2 hx hy
  go_enter Try.func62, Try.ntmps62
  go_wp2_with fail
  generalize (w.alloc (.cells #[.slice fa fn fc, .slice oa on oc] 80)).alloc (.cells #[.slice ga fn gc, .slice qa on qc] 80) = w2 at *
  (with_reducible refine (HE1.out _ HX.out.fr HY.out.fr).mono ?_); rintro e w3 ⟨rfl, hb3⟩
  have f1 := (hb3.cell (p := ⟨w.heap.size, 1, none⟩) el).trans e1
  have f2 := (hb3.cell (p := ⟨w.heap.size + 1, 1, none⟩) gl).trans g1
  have l1 := Nat.lt_of_lt_of_le el hb3.size
  have l2 := Nat.lt_of_lt_of_le gl hb3.size
  have HX3 := hide (HX.out.below hb3); have HY3 := hide (HY.out.below hb3)
  have c3 := hide (c12.out.trans (hb3.mono c12.out.size))
  clear e0 e1 g0 g1 el gl hb3
  go_wp2_with fail
  (with_reducible refine (HE2.out _ HX3.out.od HY3.out.od).mono ?_); rintro e w4 ⟨rfl, hb4⟩
  have c4 := hide (c3.out.trans (hb4.mono c3.out.size))
  clear f1 f2 l1 l2 hb4
  go_wp2_with fail
  go_ret
  exact ⟨rfl, c4.out⟩

set_option maxRecDepth 100000 in
set_option maxHeartbeats 1600000 in
theorem markX_loc (f o : Slc) (x : Xc) (m : Int) (lo hi : Nat) (w : World) (h : LocX lo hi w f o x) (hl1 : x.fr.length ≤ 1048576) (hl2 : x.od.length ≤ 1048576) (hl3 : sumN (x.od.map List.length) ≤ 268435456) (hm0 : 0 ≤ m) (hm1 : m ≤ 536870912) :
    Calls Try.prog 63 #[.agg #[.slice f.a f.n f.cap, .slice o.a o.n o.cap], .int .i64 m] w fun e w' => e = .returned (.int .i64 (m + x.fr.length + sumN (x.od.map List.length))) ∧ Outside lo hi w w' := by
  obtain ⟨fa, fn, fc⟩ := f
  obtain ⟨oa, on, oc⟩ := o
  have hb0 := belowAllocB w (.cells #[.slice fa fn fc, .slice oa on oc] 80)
  have B0 := heap_alloc_new w (.cells #[.slice fa fn fc, .slice oa on oc] 80)
  have hle := h.le
  obtain ⟨mid, h1, h2, LF, LO⟩ := LocX.parts (h.below hb0)
  have HM1 := hide (markI_loc (.slice fa fn fc) x.fr m lo mid _ LF (by omega) hm0 (by omega))
  have LO1 := hide LO
  have O0 := hide (Outside.of_belowL (lo := lo) (hi := hi) hb0)
  have e0 := cell_of_heapB B0 (k := 0) rfl
  have e1 := cell_of_heapB B0 (k := 1) rfl
  have el := lt_of_cell e0
  have HB0 := hide B0
  have HM2 := hide (fun w0 w' (k : Int) hx hw a b => markIntSS_any (.slice oa on oc) x.od k w0 w' mid hx hw hl3 hl2 a b)
  have hz0 : w.heap.size < (w.alloc (.cells #[.slice fa fn fc, .slice oa on oc] 80)).heap.size := by simp
  clear LF LO hb0 B0 h
  generalize hfl : x.fr.length = fl at *
  generalize sumN (x.od.map List.length) = M at *
  have HFL := hide hfl; clear hfl
  go_enter Try.func63, Try.ntmps63
  go_wp2_with fail
  generalize w.alloc (.cells #[.slice fa fn fc, .slice oa on oc] 80) = w1 at *
  (with_reducible refine HM1.out.mono ?_); rintro e w2 ⟨rfl, -, ho2⟩
  have B2 := (ho2.block w.heap.size el (by omega)).trans HB0.out
  have LO2 := hide (LO1.out.outs ho2 (by omega))
  have O2 := hide (O0.out.trans (ho2.wide' (Nat.le_refl _) h2))
  have f1 := cell_of_heapB B2 (k := 1) rfl
  have l1 := lt_of_cell f1
  have hs := cut_size LO2.out.le
  have HMK := HM2.out (cut hi w2) w2 (m + fl) LO2.out.now (cut_below LO2.out.le) (by omega) (by omega)
  rw [hs] at HMK
  have HMK := hide HMK
  clear e0 e1 el ho2 B2 hs
  go_wp2_with fail
  (with_reducible refine HMK.out.mono ?_); rintro e w3 ⟨rfl, -, ho3⟩
  have O3 := hide (O2.out.trans (ho3.wide' h1 (Nat.le_refl _)))
  clear f1 l1 ho3
  go_wp2_with fail
  go_ret
  exact ⟨rfl, O3.out⟩

end Go.Proofs.Ytpnmphfdfadlcaa
