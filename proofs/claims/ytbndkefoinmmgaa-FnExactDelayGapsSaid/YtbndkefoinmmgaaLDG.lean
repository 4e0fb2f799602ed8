/-
  The law FnExactDelayGaps.
-/
import Derived.Test.YtbndkefoinmmgaaB9
import Derived.Test.YtbndkefoinmmgaaF8
import Derived.Test.YtbndkefoinmmgaaP3
namespace Go.Proofs.Ytbndkefoinmmgaa
open Go.RowKit

set_option maxRecDepth 100000 in
set_option maxHeartbeats 1600000 in
theorem lawDelayGaps (v : Value) (p : List (List Ins)) (w : World) (hp : RepP w v p) :
    Calls Try.prog 4 #[v] w fun e w' => e = .returned (.bool true) ∧ Below w.heap.size w w' := by
  have HP := hide hp; clear hp
  by_cases hs : szPP p 1048576 < 0
  · have hS := szInstrSS_any v p 1048576 w HP.out (by omega) (by omega)
    generalize szPP p 1048576 = z at *
    have HS := hide hS; clear hS
    go_enter Try.func4, Try.ntmps4
    go_wp2_with (go_at_call 10; (with_reducible refine HS.out.mono ?_); rintro e w1 ⟨rfl, hb1⟩)
    go_ret
    exact ⟨rfl, hb1⟩
  · obtain ⟨hl1, hl2, hl3⟩ := szPP_le p hs
    have hS := szInstrSS_any v p 1048576 w HP.out (by omega) (by omega)
    generalize szPP p 1048576 = z at *
    have HS := hide hS; clear hS
    have hsum : sumN (p.map List.length) ≤ 268435456 := by rw [sumN_flatten]; omega
    have hgl := delayGapsV_length p hl2
    have HL3 := hide hl3; clear hl3
    generalize hG : delayGapsV p = G at *
    have HG := hide hG; clear hG
    generalize hM : sumN (p.map List.length) = M at *
    have HM := hide hM; clear hM
    go_enter Try.func4, Try.ntmps4
    go_wp2_with fail
    (with_reducible refine HS.out.mono ?_); rintro e w1 ⟨rfl, hb1⟩
    go_wp2_with fail
    (with_reducible refine (toInstrSS_any v p w1 (HP.out.below hb1) hl1 HL3.out).mono ?_); rintro e w2 ⟨v1, rfl, o1, hb2⟩
    go_wp2_with fail
    (with_reducible refine (sDelayGaps_any v1 p w2 o1.rep hl2 hl1).mono ?_); rintro e w3 ⟨v2, rfl, o2, hb3⟩
    have c3 := Below.next hb1 (Below.next hb2 hb3)
    go_wp2_with fail
    (with_reducible refine (toInstrSS_any v p w3 (HP.out.below c3) hl1 HL3.out).mono ?_); rintro e w4 ⟨x0, rfl, o3, hb4⟩
    go_wp2_with fail
    (with_reducible refine (DelayGaps_any x0 p w4 o3.rep hl2).mono ?_); rintro e w5 ⟨g0, rfl, o4, hb5⟩
    rw [HG.out] at o2 o4
    have o2' := o2.below (Below.next hb4 hb5)
    go_wp2_with fail
    (with_reducible refine (eqGapS_any g0 v2 G G w5 o4.rep o2'.rep).mono ?_); rintro e w6 ⟨rfl, hb6⟩
    have c6 := Below.next c3 (Below.next hb4 (Below.next hb5 hb6))
    rw [decide_eq_true (rfl : G = G)]
    go_wp2_with fail
    (with_reducible refine (toInstrSS_any v p w6 (HP.out.below c6) hl1 HL3.out).mono ?_); rintro e w7 ⟨v3, rfl, o5, hb7⟩
    have o3' := o3.below (Below.next hb5 (Below.next hb6 hb7))
    go_wp2_with fail
    (with_reducible refine (eqInstrSS_any x0 v3 p p w7 o3'.rep o5.rep).mono ?_); rintro e w8 ⟨rfl, hb8⟩
    rw [decide_eq_true (rfl : p = p)]
    have b48 := Below.next hb5 (Below.next hb6 (Below.next hb7 hb8))
    have c8 := Below.next c6 (Below.next hb7 hb8)
    go_wp2_with fail
    (with_reducible refine (markInstrSS_any x0 p 1 w4 w8 _ o3 b48 (by rw [HM.out]; exact hsum) hl1 (by omega) (by omega)).mono ?_)
    rw [HM.out]
    rintro e w9 ⟨rfl, o6, out9⟩
    have o2'' := out9.own (o2.below (Below.next hb4 b48)) (fun q hq => .inl (o2.lo q hq).2)
    have o4'' := out9.own (o4.below (Below.next hb6 (Below.next hb7 hb8))) (fun q hq => .inr (o4.lo q hq).1)
    have c9 := c8.trans (out9.below (by have := c3.size; omega) c8.size)
    go_wp2_with fail
    (with_reducible refine (eqGapS_any g0 v2 G G w9 o4''.rep o2''.rep).mono ?_); rintro e w10 ⟨rfl, hb10⟩
    rw [decide_eq_true (rfl : G = G)]
    have p2 := o2''.below hb10
    have p4 := o4''.below hb10
    have c10 := Below.next c9 hb10
    go_wp2_with fail
    (with_reducible refine (markGapS_any g0 G 1 w10 _ p4 (by omega) (by omega) (by omega)).mono ?_); rintro e w11 ⟨rfl, o7, gr11⟩
    have b11 := below_row gr11 (B := w4.heap.size) (by have := out9.size; have := hb10.size; have := b48.size; omega) (fun k hk => (o4.lo k hk).1)
    have q2 := p2.kept b11 (fun k hk => by have := (o2.lo k hk).2; have := hb4.size; omega)
    have c11 := c10.trans (b11.mono (by have := c3.size; have := hb4.size; omega))
    go_wp2_with fail
    (with_reducible refine (heldGapS_any g0 G.length 1 w11 o7.rep (by omega) (by omega) (by omega)).mono ?_); rintro e w12 ⟨rfl, rfl⟩
    go_wp2_with fail
    (with_reducible refine (toInstrSS_any v p w11 (HP.out.below c11) hl1 HL3.out).mono ?_); rintro e w13 ⟨v4, rfl, o8, hb13⟩
    go_wp2_with fail
    (with_reducible refine (DelayGaps_any v4 p w13 o8.rep hl2).mono ?_); rintro e w14 ⟨h0, rfl, o9, hb14⟩
    rw [HG.out] at o9
    go_wp2_with fail
    (with_reducible refine (eqGapS_any h0 v2 G G w14 o9.rep (q2.below (Below.next hb13 hb14)).rep).mono ?_); rintro e w15 ⟨rfl, hb15⟩
    rw [decide_eq_true (rfl : G = G)]
    go_wp2_with fail
    (with_reducible refine (heldGapS_any g0 G.length 1 w15 (o7.below (Below.next hb13 (Below.next hb14 hb15))).rep (by omega) (by omega) (by omega)).mono ?_); rintro e w16 ⟨rfl, rfl⟩
    go_wp2_with fail
    go_ret
    exact ⟨rfl, Below.next c11 (Below.next hb13 (Below.next hb14 hb15))⟩

end Go.Proofs.Ytbndkefoinmmgaa
