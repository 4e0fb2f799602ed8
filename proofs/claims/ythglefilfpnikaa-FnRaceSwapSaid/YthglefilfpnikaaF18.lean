/-
  RaceFree of the reference and of the program. Condition: bounds on lengths.
-/
import Derived.Test.YthglefilfpnikaaF17
namespace Go.Proofs.Ythglefilfpnikaa
open Go.RowKit

def raceFreeB (p : List (List Ins)) : Bool := progValid p && decide ((racesV p).length = 0)

set_option maxHeartbeats 400000 in
theorem RaceFree_any (v : Value) (p : List (List Ins)) (w : World) (hp : RepP w v p) (hl : p.flatten.length ≤ 1048576) :
    Calls Try.prog 17 #[v] w fun e w' => e = .returned (.bool (raceFreeB p)) ∧ Below w.heap.size w w' := by
  have HP := hide hp; clear hp
  have HV := hide (fun w' h => ProgramValid_any v p w' h hl)
  have HR := hide (fun w' h => RacesOf_any v p w' h hl)
  have E : Hid (raceFreeB p = (progValid p && decide ((racesV p).length = 0))) := hide rfl
  obtain ⟨a, c, rfl, -, -, -, -⟩ := HP.out.open
  generalize raceFreeB p = R at *
  generalize progValid p = b at *
  generalize racesV p = L at *
  cases b
  · obtain rfl : R = false := by rw [E.out]; rfl
    go_enter Try.func17, Try.ntmps17
    go_wp2_with fail
    (with_reducible refine (HV.out _ HP.out).mono ?_); rintro e w1 ⟨rfl, hb1⟩
    go_wp2_with fail
    go_ret
    exact ⟨rfl, hb1⟩
  · have E2 : Hid (R = decide (L.length = 0)) := hide (by rw [E.out]; rfl)
    go_enter Try.func17, Try.ntmps17
    go_wp2_with fail
    (with_reducible refine (HV.out _ HP.out).mono ?_); rintro e w1 ⟨rfl, hb1⟩
    go_wp2_with fail
    (with_reducible refine (HR.out _ (HP.out.below hb1)).mono ?_); rintro e w2 ⟨v2, rfl, hown, hb2⟩
    obtain ⟨a2, c2, rfl, -, -, -, -⟩ := hown.rep.open
    generalize L.length = n at *
    go_wp2_with fail
    go_ret
    have hR2 : Value.bool ((n : Int) == 0) = .bool (decide (n = 0)) := by congr 1; rw [Bool.eq_iff_iff]; simp
    refine ⟨?_, hb1.trans (hb2.mono hb1.size)⟩
    rw [E2.out, ← hR2]
    rfl

end Go.Proofs.Ythglefilfpnikaa
