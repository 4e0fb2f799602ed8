/-
  The law FnExactCompareOutcomes answers true.
-/
import Derived.Test.YtkgkgmalgilabaaG3
namespace Go.Proofs.Ytkgkgmalgilabaa
open Go.RowKit

theorem szNN_le2 (p : List (List Int)) {l : Int} (h0 : l ≤ 1048576) (h : ¬ szN p (l - p.length) < 0) (h1 : ¬ l - p.length < 0) : p.length ≤ 1048576 ∧ ∀ r ∈ p, r.length ≤ 1048576 := by
  have h2 := szN_le p _ (Int.not_lt.1 h)
  exact ⟨by omega, fun r hr => by have := h2.2 r hr; omega⟩

theorem szNN_bounds (p : List (List Int)) {l : Int} (h0 : l ≤ 1048576) (h : ¬ szNN p l < 0) : p.length ≤ 1048576 ∧ (∀ r ∈ p, r.length ≤ 1048576) ∧ szNN p l ≤ 1048576 := by
  unfold szNN at *
  split at h
  · omega
  · rename_i h1
    obtain ⟨a, b⟩ := szNN_le2 p h0 h h1
    refine ⟨a, b, ?_⟩
    rw [if_neg h1]
    have h2 := szN_le p _ (Int.not_lt.1 h)
    omega

set_option maxRecDepth 100000 in
set_option maxHeartbeats 1600000 in
theorem lawCompareOutcomes (v : Value) (p : List (List Int)) (u : Value) (q : List (List Int)) (w : World) (hp : RepNN w v p) (hq : RepNN w u q) :
    Calls Try.prog 7 #[v, u] w fun e w' => e = .returned (.bool true) ∧ Below w.heap.size w w' := by
  have HP := hide hp; clear hp
  have HQ := hide hq; clear hq
  have S1 := hide (fun w' h => szIntSS_any v p 1048576 w' h (by omega) (by omega))
  by_cases hs : szNN p 1048576 < 0
  · generalize szNN p 1048576 = z at *
    go_enter Try.func7, Try.ntmps7
    go_wp2_with (go_at_call 26; (with_reducible refine (S1.out w HP.out).mono ?_); rintro e w1 ⟨rfl, hb1⟩)
    go_ret
    exact ⟨rfl, hb1⟩
  · obtain ⟨hl1, hl2, hz⟩ := szNN_bounds p (by omega) hs
    generalize szNN p 1048576 = z at *
    have S2 := hide (fun w' h => szIntSS_any u q z w' h (by omega) hz)
    have HL2 := hide hl2; clear hl2
    by_cases hs2 : szNN q z < 0
    · generalize szNN q z = z2 at *
      go_enter Try.func7, Try.ntmps7
      go_wp2_with fail
      (with_reducible refine (S1.out w HP.out).mono ?_); rintro e w1 ⟨rfl, hb1⟩
      go_wp2_with fail
      (with_reducible refine (S2.out w1 (HQ.out.below hb1)).mono ?_); rintro e w2 ⟨rfl, hb2⟩
      go_wp2_with fail
      go_ret
      exact ⟨rfl, Below.next hb1 hb2⟩
    · obtain ⟨kl1, kl2, hz2⟩ := szNN_bounds q hz hs2
      generalize szNN q z = z2 at *
      have KL2 := hide kl2; clear kl2
      generalize hC : cmpN p q = C
      have HC := hide hC; clear hC
      have hcc : (C != C) = false := by simp
      go_enter Try.func7, Try.ntmps7
      go_wp2_with fail
      (with_reducible refine (S1.out w HP.out).mono ?_); rintro e w1 ⟨rfl, hb1⟩
      go_wp2_with fail
      (with_reducible refine (S2.out w1 (HQ.out.below hb1)).mono ?_); rintro e w2 ⟨rfl, hb2⟩
      have c2 := Below.next hb1 hb2
      go_wp2_with fail
      (with_reducible refine (toIntSS_any v p w2 (HP.out.below c2) hl1 HL2.out).mono ?_); rintro e w3 ⟨a1, rfl, o1, hb3⟩
      have c3 := Below.next c2 hb3
      go_wp2_with fail
      (with_reducible refine (toIntSS_any u q w3 (HQ.out.below c3) kl1 KL2.out).mono ?_); rintro e w4 ⟨a2, rfl, o2, hb4⟩
      have c4 := Below.next c3 hb4
      go_wp2_with fail
      (with_reducible refine (sCompareOutcomes_any a1 a2 p q w4 (o1.below hb4).rep o2.rep).mono ?_); rw [HC.out]; rintro e w5 ⟨rfl, hb5⟩
      have c5 := Below.next c4 hb5
      go_wp2_with fail
      (with_reducible refine (toIntSS_any v p w5 (HP.out.below c5) hl1 HL2.out).mono ?_); rintro e w6 ⟨x0, rfl, o3, hb6⟩
      have c6 := Below.next c5 hb6
      go_wp2_with fail
      (with_reducible refine (toIntSS_any u q w6 (HQ.out.below c6) kl1 KL2.out).mono ?_); rintro e w7 ⟨x1, rfl, o4, hb7⟩
      have c7 := Below.next c6 hb7
      go_wp2_with fail
      (with_reducible refine (CompareOutcomes_any x0 x1 p q w7 (o3.below hb7).rep o4.rep).mono ?_); rw [HC.out]; rintro e w8 ⟨rfl, hb8⟩
      have c8 := Below.next c7 hb8
      go_wp2_with fail
      (with_reducible refine (toIntSS_any v p w8 (HP.out.below c8) hl1 HL2.out).mono ?_); rintro e w9 ⟨a3, rfl, o5, hb9⟩
      have c9 := Below.next c8 hb9
      go_wp2_with fail
      (with_reducible refine (eqIntSS_any x0 a3 p p w9 (o3.below (Below.next hb7 (Below.next hb8 hb9))).rep o5.rep).mono ?_); rintro e w10 ⟨rfl, hb10⟩
      rw [decide_eq_true (rfl : p = p)]
      have c10 := Below.next c9 hb10
      go_wp2_with fail
      (with_reducible refine (toIntSS_any u q w10 (HQ.out.below c10) kl1 KL2.out).mono ?_); rintro e w11 ⟨a4, rfl, o6, hb11⟩
      have c11 := Below.next c10 hb11
      go_wp2_with fail
      (with_reducible refine (eqIntSS_any x1 a4 q q w11 (o4.below (Below.next hb8 (Below.next hb9 (Below.next hb10 hb11)))).rep o6.rep).mono ?_); rintro e w12 ⟨rfl, hb12⟩
      rw [decide_eq_true (rfl : q = q)]
      go_wp2_with fail
      go_ret
      exact ⟨rfl, Below.next c11 hb12⟩

end Go.Proofs.Ytkgkgmalgilabaa
