/-
  The law FnExactDropFences answers true.
-/
import Derived.Test.YtkgkgmalgilabaaF2
import Derived.Test.YtkgkgmalgilabaaF14
namespace Go.Proofs.Ytkgkgmalgilabaa
open Go.RowKit

set_option maxRecDepth 100000 in
set_option maxHeartbeats 1600000 in
theorem lawDropFences (v : Value) (p : List (List Ins)) (w : World) (hp : RepP w v p) :
    Calls Try.prog 14 #[v] w fun e w' => e = .returned (.bool true) ∧ Below w.heap.size w w' := by
  have HP := hide hp; clear hp
  by_cases hs : szPP p 1048576 < 0
  · have hS := szInstrSS_any v p 1048576 w HP.out (by omega) (by omega)
    generalize szPP p 1048576 = z at *
    have HS := hide hS; clear hS
    go_enter Try.func14, Try.ntmps14
    go_wp2_with (go_at_call 32; (with_reducible refine HS.out.mono ?_); rintro e w1 ⟨rfl, hb1⟩)
    go_ret
    exact ⟨rfl, hb1⟩
  · obtain ⟨hl1, hl2, hl3⟩ := szPP_le p hs
    have hS := szInstrSS_any v p 1048576 w HP.out (by omega) (by omega)
    generalize szPP p 1048576 = z at *
    have HS := hide hS; clear hS
    have hsum : sumN (p.map List.length) ≤ 268435456 := by rw [sumN_flatten]; omega
    have hgl : (dropV p).length ≤ 1048576 := by unfold dropV; split; (unfold dropP; rw [List.length_map]; omega); simp
    have hgs : sumN ((dropV p).map List.length) ≤ 268435456 := by rw [sumN_flatten]; (unfold dropV; split; (have := dropP_flatten p; omega); simp)
    have HL3 := hide hl3; clear hl3
    have CS : ∀ u w', RepP w' u p → Calls Try.prog 52 #[u] w' (RetOwn2B InsE 86 103 w' (dropV p) (progValid p)) := fun u w' h => sDropFences_any u p w' h hl2 hl1
    have CI : ∀ u w', RepP w' u p → Calls Try.prog 53 #[u] w' (RetOwn2B InsE 86 103 w' (dropV p) (progValid p)) := fun u w' h => DropFences_any u p w' h hl2
    have HCS := hide CS; have HCI := hide CI
    clear CS CI
    generalize hM : sumN (p.map List.length) = M at *
    have HM := hide hM; clear hM
    generalize hOK : progValid p = ok at *
    generalize hG : dropV p = G at *
    generalize hN : sumN (G.map List.length) = N at *
    have HN := hide hN
    clear hG hOK hN
    go_enter Try.func14, Try.ntmps14
    go_wp2_with fail
    (with_reducible refine HS.out.mono ?_); rintro e w1 ⟨rfl, hb1⟩
    go_wp2_with fail
    (with_reducible refine (toInstrSS_any v p w1 (HP.out.below hb1) hl1 HL3.out).mono ?_); rintro e w2 ⟨v1, rfl, o1, hb2⟩
    go_wp2_with fail
    (with_reducible refine (HCS.out v1 w2 o1.rep).mono ?_); rintro e w3 ⟨v2, rfl, o2, hb3⟩
    have c3 := Below.next hb1 (Below.next hb2 hb3)
    go_wp2_with fail
    (with_reducible refine (toInstrSS_any v p w3 (HP.out.below c3) hl1 HL3.out).mono ?_); rintro e w4 ⟨x0, rfl, o3, hb4⟩
    go_wp2_with fail
    (with_reducible refine (HCI.out x0 w4 o3.rep).mono ?_); rintro e w5 ⟨g0, rfl, o4, hb5⟩
    have o2' := o2.below (Below.next hb4 hb5)
    go_wp2_with fail
    (with_reducible refine (eqInstrSS_any g0 v2 G G w5 o4.rep o2'.rep).mono ?_); rintro e w6 ⟨rfl, hb6⟩
    have c6 := Below.next c3 (Below.next hb4 (Below.next hb5 hb6))
    rw [decide_eq_true (rfl : G = G)]
    have hbb : (ok != ok) = false := by cases ok <;> rfl
    go_wp2_with fail
    (with_reducible refine (toInstrSS_any v p w6 (HP.out.below c6) hl1 HL3.out).mono ?_); rintro e w7 ⟨v3, rfl, o5, hb7⟩
    have o3' := o3.below (Below.next hb5 (Below.next hb6 hb7))
    go_wp2_with fail
    (with_reducible refine (eqInstrSS_any x0 v3 p p w7 o3'.rep o5.rep).mono ?_); rintro e w8 ⟨rfl, hb8⟩
    rw [decide_eq_true (rfl : p = p)]
    have b48 := Below.next hb5 (Below.next hb6 (Below.next hb7 hb8))
    have c8 := Below.next c6 (Below.next hb7 hb8)
    go_wp2_with fail
    (with_reducible refine (markInstrSS_any x0 p 1 w4 w8 _ o3 b48 (by rw [HM.out]; exact hsum) hl1 (by omega) (by omega)).mono ?_)
    rw [HM.out]
    rintro e w9 ⟨rfl, o6, out9⟩
    have o2'' := o2.outLo (Below.next hb4 b48) out9 (Nat.le_refl _)
    have o4'' := (o4.below (Below.next hb6 (Below.next hb7 hb8))).outHi out9 (Nat.le_refl _)
    have c9 := c8.trans (out9.below (by have := c3.size; omega) c8.size)
    go_wp2_with fail
    (with_reducible refine (eqInstrSS_any g0 v2 G G w9 o4''.rep o2''.rep).mono ?_); rintro e w10 ⟨rfl, hb10⟩
    rw [decide_eq_true (rfl : G = G)]
    have p2 := o2''.below hb10
    have p4 := o4''.below hb10
    have c10 := Below.next c9 hb10
    go_wp2_with fail
    (with_reducible refine (markInstrSS_any g0 G 1 w10 w10 w4.heap.size p4 (Below.refl _ _) (by rw [HN.out]; exact hgs) hgl (by omega) (by omega)).mono ?_)
    rw [HN.out]
    rintro e w11 ⟨rfl, o7, out11⟩
    have h1 := Below.next hb4 b48
    have q2 := o2.outLo ((h1.trans (out9.below (B := w3.heap.size) (Nat.le_refl _) (by have := h1.size; omega))).trans (hb10.mono (by have := out9.size; have := h1.size; omega))) out11 (by have := hb4.size; omega)
    have c11 := c10.trans (out11.below (B := w.heap.size) (by have := c3.size; have := hb4.size; omega) (by have := c10.size; omega))
    go_wp2_with fail
    (with_reducible refine (heldInstrSS_any g0 (G.map List.length) 1 w11 o7.rep (by rw [HN.out]; exact hgs) (by omega) (by omega)).mono ?_)
    rw [HN.out]
    rintro e w12 ⟨rfl, rfl⟩
    go_wp2_with fail
    (with_reducible refine (toInstrSS_any v p w11 (HP.out.below c11) hl1 HL3.out).mono ?_); rintro e w13 ⟨v4, rfl, o8, hb13⟩
    go_wp2_with fail
    (with_reducible refine (HCI.out v4 w13 o8.rep).mono ?_); rintro e w14 ⟨h0, rfl, o9, hb14⟩
    go_wp2_with fail
    (with_reducible refine (eqInstrSS_any h0 v2 G G w14 o9.rep (q2.below (Below.next hb13 hb14)).rep).mono ?_); rintro e w15 ⟨rfl, hb15⟩
    rw [decide_eq_true (rfl : G = G)]
    go_wp2_with fail
    (with_reducible refine (heldInstrSS_any g0 (G.map List.length) 1 w15 (o7.below (Below.next hb13 (Below.next hb14 hb15))).rep (by rw [HN.out]; exact hgs) (by omega) (by omega)).mono ?_)
    rw [HN.out]
    rintro e w16 ⟨rfl, rfl⟩
    go_wp2_with fail
    go_ret
    exact ⟨rfl, Below.next c11 (Below.next hb13 (Below.next hb14 hb15))⟩

end Go.Proofs.Ytkgkgmalgilabaa
