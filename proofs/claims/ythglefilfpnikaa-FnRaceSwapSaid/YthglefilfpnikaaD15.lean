/-
  The arguments that are drawn for RacesOf, SwapStores and ConflictRel. Condition: none but the bytes' own.
-/
import Derived.Test.YthglefilfpnikaaD14
import Derived.Test.YthglefilfpnikaaD6
namespace Go.Proofs.Ythglefilfpnikaa
open Go.RowKit

/-- Some program of bounded size. -/
def RetProg (w : World) (e : Ending) (w' : World) : Prop := ∃ (v : Value) (P : List (List Ins)), e = .returned v ∧ RepP w' v P ∧ P.length ≤ 5 ∧ (∀ r ∈ P, r.length ≤ 9) ∧ Below w.heap.size w w'
def RetProgI (w : World) (e : Ending) (w' : World) : Prop := ∃ (v : Value) (P : List (List Ins)) (y : Int), e = .returned (.tuple #[v, .int .i64 y]) ∧ RepP w' v P ∧ P.length ≤ 5 ∧ (∀ r ∈ P, r.length ≤ 9) ∧ Below w.heap.size w w'

theorem flatten_bound9 {P : List (List Ins)} (hl : P.length ≤ 5) (h : ∀ r ∈ P, r.length ≤ 9) : P.flatten.length ≤ 45 := by
  have := flatten_bound P 9 h
  have : P.length * 9 ≤ 5 * 9 := Nat.mul_le_mul_right _ hl
  omega

set_option maxRecDepth 100000 in
set_option maxHeartbeats 800000 in
theorem DrawRacesOf_any (v : Value) (xs0 : List Int) (w : World) (hx : Rep ByteE w v xs0) (hb : ∀ x ∈ xs0, 0 ≤ x ∧ x ≤ 255) :
    Calls Try.prog 9 #[v] w (RetProg w) := by
  have HO := hide (l17Open_any v xs0 w hx hb)
  clear hx hb
  go_enter Try.func9, Try.ntmps9
  go_wp2_with fail
  (with_reducible refine HO.out.mono ?_); rintro e w1 ⟨b, a, c, xs, rfl, hr1, hbs, hb1⟩
  have R1 := hide hr1; have HB1 := hide hb1
  clear hr1 hb1 HO
  have hlt := R1.out.lt
  go_wp2_with fail
  (with_reducible refine (l10Draw_any b a c xs 0 _ R1.out (by omega)).mono ?_); rintro e w2 ⟨v2, p2, rfl, hQ, hp2, hr2, ho2⟩
  obtain ⟨P, hP, hl, hl2⟩ := hQ
  have R2 := hide hr2; have O2 := hide ho2; have HP := hide hP; have HL2 := hide hl2
  clear hr2 ho2 hP hl2 R1
  go_wp2_with fail
  (with_reducible refine (l1Mutate_any b a c xs p2 v2 P _ R2.out (by omega) HP.out.rep hl HL2.out).mono ?_); rintro e w3 ⟨v3, p3, rfl, hQ3, hp3, hr3, ho3⟩
  obtain ⟨P3, hP3, hl3, hl4⟩ := hQ3.open
  have HL4 := hide hl4
  have HB3 := hide (HB1.out.trans (below_of_outside (O2.out.trans ho3) hbs HB1.out.size))
  clear hr3 ho3 hQ3 hl4
  go_wp2_with fail
  go_ret
  exact ⟨_, P3, rfl, hP3, hl3, HL4.out, HB3.out⟩

theorem DrawConflictRel_any (v : Value) (xs0 : List Int) (w : World) (hx : Rep ByteE w v xs0) (hb : ∀ x ∈ xs0, 0 ≤ x ∧ x ≤ 255) :
    Calls Try.prog 29 #[v] w (RetProg w) := by
  have HO := hide (DrawRacesOf_any v xs0 w hx hb)
  clear hx hb
  go_enter Try.func29, Try.ntmps29
  go_wp2_with fail
  (with_reducible refine HO.out.mono ?_); rintro e w1 ⟨v1, P, rfl, hP, hl, hl2, hb1⟩
  have HL2 := hide hl2
  clear hl2
  go_wp2_with fail
  go_ret
  exact ⟨_, P, rfl, hP, hl, HL2.out, hb1⟩

set_option maxRecDepth 100000 in
set_option maxHeartbeats 800000 in
theorem DrawSwapStores_any (v : Value) (xs0 : List Int) (w : World) (hx : Rep ByteE w v xs0) (hb : ∀ x ∈ xs0, 0 ≤ x ∧ x ≤ 255) :
    Calls Try.prog 12 #[v] w (RetProgI w) := by
  have HD := hide (DrawRacesOf_any v xs0 w hx hb)
  have HO := hide (fun w' h => l17Open_any v xs0 w' h hb)
  have HX := hide hx
  clear hx hb
  go_enter Try.func12, Try.ntmps12
  go_wp2_with fail
  (with_reducible refine HD.out.mono ?_); rintro e w1 ⟨v1, P, rfl, hP, hl, hl2, hb1⟩
  have HL2 := hide hl2; have HP := hide hP; have HB1 := hide hb1
  clear hl2 hP hb1
  go_wp2_with fail
  (with_reducible refine (HO.out _ (HX.out.below HB1.out)).mono ?_); rintro e w2 ⟨b, a, c, xs, rfl, hr2, hbs, hb2⟩
  have R2 := hide hr2; have HB2 := hide hb2
  clear hr2 hb2
  have hlt := R2.out.lt
  go_wp2_with fail
  (with_reducible refine (numLit5 b a c xs 0 2 0 1 3 (-1) w2 _ rfl hlt (R2.out.allocNew _) (by omega)).mono ?_); rintro e w3 ⟨v3, p3, rfl, ⟨y, -, rfl⟩, hp3, hr3, ho3⟩
  have HB3 := hide (HB2.out.trans (below_of_outside ((Outside.of_below (lo := b) (hi := b + 1) (belowAlloc w2 (.cells #[.int .i64 2, .int .i64 0, .int .i64 1, .int .i64 3, .int .i64 (-1)] 3))).trans ho3) hbs HB2.out.size))
  clear hr3 ho3
  go_wp2_with fail
  go_ret2
  exact ⟨_, P, y, rfl, HP.out.below HB3.out, hl, HL2.out, HB1.out.trans (HB3.out.mono HB1.out.size)⟩

end Go.Proofs.Ythglefilfpnikaa
