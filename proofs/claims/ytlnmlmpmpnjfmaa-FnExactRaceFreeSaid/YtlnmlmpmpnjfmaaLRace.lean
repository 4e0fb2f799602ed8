/-
  The walk of FnExactRaceFree: it answers true and turns nothing that was there. No condition.
-/
import Derived.Test.YtlnmlmpmpnjfmaaF18
import Derived.Test.YtlnmlmpmpnjfmaaP7
namespace Go.Proofs.Ytlnmlmpmpnjfmaa
open Go.RowKit

set_option maxRecDepth 100000 in
set_option maxHeartbeats 1600000 in
theorem lawRaceFree (v0 : Value) (p0 : List (List Ins)) (w : World) (hp0 : RepP w v0 p0) :
    Calls Try.prog 3 #[v0] w fun e w' => e = .returned (.bool true) ∧ Below w.heap.size w w' := by
  have HP0 := hide hp0; clear hp0
  have HS0 := hide (fun w' h => szInstrSS_any v0 p0 1048576 w' h (by omega) (by omega))
  have LE0 := hide (fun h => szPP_le2 p0 1048576 h (by omega))
  generalize szPP p0 1048576 = z0 at *
  by_cases hs0 : z0 < 0
  · go_enter Try.func3, Try.ntmps3
    go_wp2_with fail
    (with_reducible refine (HS0.out _ (HP0.out.below (Below.refl w.heap.size w))).mono ?_); rintro e w1 ⟨rfl, hb1⟩
    have c1 := hb1
    go_wp2_with fail
    go_ret
    exact ⟨rfl, c1⟩
  · obtain ⟨hz0, hl1_0, hl2_0, hl3_0⟩ := LE0.out hs0
    have HL3_0 := hide hl3_0; clear hl3_0
    generalize hR : raceFreeB p0 = R at *
    have HI := hide (fun v w' h => by have := RaceFree_any v p0 w' h hl2_0; rw [hR] at this; exact this)
    have HS := hide (fun v w' h => by have := sRaceFree_any v p0 w' h hl2_0 hl1_0; rw [hR] at this; exact this)
    clear hR
    have hneq : (R != R) = false := by simp
    go_enter Try.func3, Try.ntmps3
    go_wp2_with fail
    (with_reducible refine (HS0.out _ (HP0.out.below (Below.refl w.heap.size w))).mono ?_); rintro e w1 ⟨rfl, hb1⟩
    have c1 := hb1
    go_wp2_with fail
    (with_reducible refine (toInstrSS_any v0 p0 w1 (HP0.out.below c1) hl1_0 HL3_0.out).mono ?_); rintro e w2 ⟨y2, rfl, o2, hb2⟩
    have c2 := Below.next c1 hb2
    go_wp2_with fail
    (with_reducible refine (HS.out y2 w2 (o2.rep)).mono ?_); rintro e w3 ⟨rfl, hb3⟩
    have c3 := Below.next c2 hb3
    go_wp2_with fail
    (with_reducible refine (toInstrSS_any v0 p0 w3 (HP0.out.below c3) hl1_0 HL3_0.out).mono ?_); rintro e w4 ⟨y4, rfl, o4, hb4⟩
    have c4 := Below.next c3 hb4
    go_wp2_with fail
    (with_reducible refine (HI.out y4 w4 (o4.rep)).mono ?_); rintro e w5 ⟨rfl, hb5⟩
    have c5 := Below.next c4 hb5
    go_wp2_with fail
    (with_reducible refine (toInstrSS_any v0 p0 w5 (HP0.out.below c5) hl1_0 HL3_0.out).mono ?_); rintro e w6 ⟨y6, rfl, o6, hb6⟩
    have c6 := Below.next c5 hb6
    go_wp2_with fail
    (with_reducible refine (eqInstrSS_any y4 y6 p0 p0 w6 ((o4.below (Below.next hb5 hb6)).rep) (o6.rep)).mono ?_); rintro e w7 ⟨rfl, hb7⟩
    have c7 := Below.next c6 hb7
    rw [decide_eq_true (rfl : p0 = p0)]
    go_wp2_with fail
    go_ret
    exact ⟨rfl, c7⟩

end Go.Proofs.Ytlnmlmpmpnjfmaa
