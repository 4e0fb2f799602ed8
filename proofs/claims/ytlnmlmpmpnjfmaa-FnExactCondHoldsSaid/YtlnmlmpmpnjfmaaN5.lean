/-
  CondHolds of the program and of the reference. No condition but bounds on sizes.
-/
import Derived.Test.YtlnmlmpmpnjfmaaN4
namespace Go.Proofs.Ytlnmlmpmpnjfmaa
open Go.RowKit

def condHolds (p : List (List Ins)) (os : List Int) (c : Cd) : Bool := outValid p os && (validC c && holdsF 10 p.length os c)

set_option maxHeartbeats 1600000 in
theorem CondHolds_any (v v' : Value) (p0 : List (List Ins)) (os : List Int) (o t p x : Int) (ks : List Cd) (a : Option Addr) (n c : Nat) (w : World) (hp : RepP w v p0) (ho : Rep IntE w v' os) (h : RepK 0 w ⟨a, n, c⟩ ks) (hl : p0.flatten.length ≤ 1048576) (hpl : p0.length ≤ 1048576) :
    Calls Try.prog 58 #[v, v', .agg #[.int .i64 o, .int .i64 t, .int .i64 p, .int .i64 x, .slice a n c]] w fun e w' => e = .returned (.bool (condHolds p0 os (.mk o t p x ks))) ∧ Below w.heap.size w w' := by
  have HB := hide ((Below.refl w.heap.size w).alloc (Nat.le_refl _) (.cells #[.int .i64 o, .int .i64 t, .int .i64 p, .int .i64 x, .slice a n c] 55))
  have HP := hide (hp.below HB.out); have HO := hide (ho.below HB.out); have HK := hide (h.below HB.out)
  have HOV := hide (OutcomeValid_any v v' p0 os _ HP.out HO.out hl hpl)
  have HV := hide (fun w' h' => CondValid_raw o t p x ks a n c w' h')
  obtain ⟨a0, c0, rfl, -, hp1, -, -⟩ := hp.open
  obtain ⟨a1, c1, rfl, -, ho1, -, -⟩ := ho.open
  have HH := hide (fun w' hk' ho' h1 h2 h3 => holds_any 10 o t p x ks a n c a1 os.length c1 os p0.length w' hk' ho' h1 h2 h3)
  have E : Hid (condHolds p0 os (.mk o t p x ks) = (outValid p0 os && (validC (.mk o t p x ks) && holdsF 10 p0.length os (.mk o t p x ks)))) := hide rfl
  have HS : Hid (validC (.mk o t p x ks) = true → shapeF 10 (.mk o t p x ks) = true) := hide (by unfold validC; simp; intro h _; exact h)
  have HQ : Hid (outValid p0 os = true → os.length = 3 * p0.length + 3 ∧ p0.length ≤ 3) := hide (by
    intro hq
    unfold outValid at hq
    simp only [Bool.and_eq_true, decide_eq_true_eq] at hq
    have h2 := valid_le hq.1
    exact ⟨hq.2.1, by omega⟩)
  clear hp ho h
  generalize Cd.mk o t p x ks = C at *
  generalize condHolds p0 os C = R at *
  generalize validC C = bv at *
  generalize outValid p0 os = bo at *
  cases bo
  · obtain rfl : R = false := by rw [E.out]; rfl
    go_enter Try.func58, Try.ntmps58
    go_wp2_with fail
    (with_reducible refine HOV.out.mono ?_); rintro e w1 ⟨rfl, hb1⟩
    go_wp2_with fail
    go_ret
    exact ⟨rfl, HB.out.trans (hb1.mono HB.out.size)⟩
  · obtain ⟨q1, q2⟩ := HQ.out rfl
    have Q1 := hide q1; clear q1 HQ
    cases bv
    · obtain rfl : R = false := by rw [E.out]; rfl
      go_enter Try.func58, Try.ntmps58
      go_wp2_with fail
      (with_reducible refine HOV.out.mono ?_); rintro e w1 ⟨rfl, hb1⟩
      obtain ⟨hc1, hf1⟩ := bcell hb1
      go_wp2_with fail
      (with_reducible refine (HV.out _ (HK.out.below hb1)).mono ?_); rintro e w2 ⟨rfl, hb2⟩
      go_wp2_with fail
      go_ret
      exact ⟨rfl, HB.out.trans ((hb1.trans (hb2.mono hb1.size)).mono HB.out.size)⟩
    · have E2 : Hid (R = holdsF 10 p0.length os C) := hide (by rw [E.out]; rfl)
      have HH2 := hide (fun w' hk' ho' => HH.out w' hk' ho' Q1.out q2 (HS.out rfl))
      clear E HH HS Q1
      generalize holdsF 10 p0.length os C = Z at *
      obtain rfl : R = Z := E2.out
      go_enter Try.func58, Try.ntmps58
      go_wp2_with fail
      (with_reducible refine HOV.out.mono ?_); rintro e w1 ⟨rfl, hb1⟩
      obtain ⟨hc1, hf1⟩ := bcell hb1
      go_wp2_with fail
      (with_reducible refine (HV.out _ (HK.out.below hb1)).mono ?_); rintro e w2 ⟨rfl, hb2⟩
      have hb12 := hb1.trans (hb2.mono hb1.size)
      obtain ⟨hc2, hf2⟩ := bcell hb12
      clear hc1 hf1
      go_wp2_with fail
      (with_reducible refine (HH2.out _ (HK.out.below hb12) (HO.out.below hb12)).mono ?_); rintro e w3 ⟨rfl, hb3⟩
      go_wp2_with fail
      go_ret
      exact ⟨rfl, HB.out.trans ((hb12.trans (hb3.mono hb12.size)).mono HB.out.size)⟩

set_option maxHeartbeats 1600000 in
theorem CondHoldsS_any (v v' : Value) (p0 : List (List Ins)) (os : List Int) (o t p x : Int) (ks : List Cd) (a : Option Addr) (n c : Nat) (w : World) (hp : RepP w v p0) (ho : Rep IntE w v' os) (h : RepK 0 w ⟨a, n, c⟩ ks) (hl : p0.flatten.length ≤ 1048576) (hpl : p0.length ≤ 1048576) (hd : descs ks ≤ 1048576) :
    Calls Try.prog 56 #[v, v', .agg #[.int .i64 o, .int .i64 t, .int .i64 p, .int .i64 x, .slice a n c]] w fun e w' => e = .returned (.bool (condHolds p0 os (.mk o t p x ks))) ∧ Below w.heap.size w w' := by
  have HB := hide ((Below.refl w.heap.size w).alloc (Nat.le_refl _) (.cells #[.int .i64 o, .int .i64 t, .int .i64 p, .int .i64 x, .slice a n c] 55))
  have HP := hide (hp.below HB.out); have HO := hide (ho.below HB.out); have HK := hide (h.below HB.out)
  have HOV := hide (sOutcomeValid_any v v' p0 os _ HP.out HO.out hl hpl)
  have HV := hide (fun w' h' => CondValidS_raw o t p x ks a n c w' h' hd)
  obtain ⟨a0, c0, rfl, -, hp1, -, -⟩ := hp.open
  obtain ⟨a1, c1, rfl, -, ho1, -, -⟩ := ho.open
  have HH := hide (fun w' hk' ho' h1 h2 h3 => l11Holds_any 10 o t p x ks a n c a1 os.length c1 os p0.length w' hk' ho' h1 h2 h3)
  have E : Hid (condHolds p0 os (.mk o t p x ks) = (outValid p0 os && (validC (.mk o t p x ks) && holdsF 10 p0.length os (.mk o t p x ks)))) := hide rfl
  have HS : Hid (validC (.mk o t p x ks) = true → shapeF 10 (.mk o t p x ks) = true) := hide (by unfold validC; simp; intro h _; exact h)
  have HQ : Hid (outValid p0 os = true → os.length = 3 * p0.length + 3 ∧ p0.length ≤ 3) := hide (by
    intro hq
    unfold outValid at hq
    simp only [Bool.and_eq_true, decide_eq_true_eq] at hq
    have h2 := valid_le hq.1
    exact ⟨hq.2.1, by omega⟩)
  clear hp ho h
  generalize Cd.mk o t p x ks = C at *
  generalize condHolds p0 os C = R at *
  generalize validC C = bv at *
  generalize outValid p0 os = bo at *
  cases bo
  · obtain rfl : R = false := by rw [E.out]; rfl
    go_enter Try.func56, Try.ntmps56
    go_wp2_with fail
    (with_reducible refine HOV.out.mono ?_); rintro e w1 ⟨rfl, hb1⟩
    go_wp2_with fail
    go_ret
    exact ⟨rfl, HB.out.trans (hb1.mono HB.out.size)⟩
  · obtain ⟨q1, q2⟩ := HQ.out rfl
    have Q1 := hide q1; clear q1 HQ
    cases bv
    · obtain rfl : R = false := by rw [E.out]; rfl
      go_enter Try.func56, Try.ntmps56
      go_wp2_with fail
      (with_reducible refine HOV.out.mono ?_); rintro e w1 ⟨rfl, hb1⟩
      obtain ⟨hc1, hf1⟩ := bcell hb1
      go_wp2_with fail
      (with_reducible refine (HV.out _ (HK.out.below hb1)).mono ?_); rintro e w2 ⟨rfl, hb2⟩
      go_wp2_with fail
      go_ret
      exact ⟨rfl, HB.out.trans ((hb1.trans (hb2.mono hb1.size)).mono HB.out.size)⟩
    · have E2 : Hid (R = holdsF 10 p0.length os C) := hide (by rw [E.out]; rfl)
      have HH2 := hide (fun w' hk' ho' => HH.out w' hk' ho' Q1.out q2 (HS.out rfl))
      clear E HH HS Q1
      generalize holdsF 10 p0.length os C = Z at *
      obtain rfl : R = Z := E2.out
      go_enter Try.func56, Try.ntmps56
      go_wp2_with fail
      (with_reducible refine HOV.out.mono ?_); rintro e w1 ⟨rfl, hb1⟩
      obtain ⟨hc1, hf1⟩ := bcell hb1
      go_wp2_with fail
      (with_reducible refine (HV.out _ (HK.out.below hb1)).mono ?_); rintro e w2 ⟨rfl, hb2⟩
      have hb12 := hb1.trans (hb2.mono hb1.size)
      obtain ⟨hc2, hf2⟩ := bcell hb12
      clear hc1 hf1
      go_wp2_with fail
      (with_reducible refine (HH2.out _ (HK.out.below hb12) (HO.out.below hb12)).mono ?_); rintro e w3 ⟨rfl, hb3⟩
      go_wp2_with fail
      go_ret
      exact ⟨rfl, HB.out.trans ((hb12.trans (hb3.mono hb12.size)).mono HB.out.size)⟩

end Go.Proofs.Ytlnmlmpmpnjfmaa
