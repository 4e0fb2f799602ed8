/-
  Arguments that are bytes, as the laws take them.
-/
import Derived.Test.YtpnmphfdfadlcaaArgs
import Derived.Test.YtpnmphfdfadlcaaD0
namespace Go.Proofs.Ytpnmphfdfadlcaa
open Go.RowKit Go.Deep Go.ChangeShapes Go.WideShapes Go.ChangeAt

theorem Try.own : ownKnob Try.prog.godebug = none := by kernel_rfl
theorem Try.laidOut : laidOutB Try.prog = true := by kernel_rfl
theorem Try.cellsByte : Try.prog.cellsOf 5 = 1 := by kernel_rfl

section
variable {H : Type} {enc : TypeId × Value → H} {w : World} {base : Nat} {spare : Nat → Bool} {held : Bool}

theorem bytes_of_trod {v : Value} {d : DataW H} {ps : List MemPlace} (hok : ∃ a len cap, v = .slice a len cap) (h : DataW.Trod enc Try.prog w base spare held 22 v d ps) : ∃ p, Rep ByteE w v p ∧ ∀ x ∈ p, 0 ≤ x ∧ x ≤ 255 := by
  obtain ⟨fuel, hf⟩ := h
  obtain ⟨v', p, hv, hp, hq⟩ := rep_of_trod ByteE Try.underlying22 Try.cellsByte (fun x => 0 ≤ x ∧ x ≤ 255) (fun n cs x hx => by
    obtain ⟨i, rfl, hi⟩ := DataW.trod_int Try.underlying5 hx
    exact ⟨i, rfl, by
      have := hi.2
      simp only [Lit.wf, Bool.and_eq_true, decide_eq_true_eq, show IntKind.u8.min = 0 from by decide, show IntKind.u8.max = 255 from by decide] at this
      omega⟩) hf
  obtain ⟨a, len, cap, rfl⟩ := hok
  simp [Value.cells] at hv
  subst hv
  exact ⟨p, hp, hq⟩

end
end Go.Proofs.Ytpnmphfdfadlcaa
