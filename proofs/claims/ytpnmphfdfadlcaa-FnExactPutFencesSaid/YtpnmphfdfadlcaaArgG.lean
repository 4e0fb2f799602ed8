/-
  Arguments that are lists of gaps.
-/
import Derived.Test.YtpnmphfdfadlcaaArgI
import Derived.Test.YtpnmphfdfadlcaaP2
namespace Go.Proofs.Ytpnmphfdfadlcaa
open Go.RowKit Go.Deep Go.ChangeShapes Go.WideShapes Go.ChangeAt

instance Gp.some : Inhabited Gp := ⟨⟨0, 0⟩⟩

theorem Try.cellsGapL : Try.prog.cellsOf 121 = 2 := by kernel_rfl

theorem two_of {l : List Value} (h : l.length = 2) : ∃ a b, l = [a, b] := by
  match l, h with
  | [a, b], _ => exact ⟨a, b, rfl⟩

section
variable {H : Type} {enc : TypeId × Value → H} {w : World} {base : Nat} {spare : Nat → Bool} {held : Bool}

theorem gap_of_trod : ∀ (n : Nat) (cs : List Value) (x : DataW H × List MemPlace), DataW.trod enc Try.prog w base spare held n 121 cs = some x → ∃ y : Gp, cs = GapE.c y := by
  intro n cs x h
  obtain ⟨xs, m, rfl, hx, hlen, hxl, hf⟩ := DataW.trod_struct Try.underlying121 h
  rw [Try.cellsGapL] at hlen
  obtain ⟨a, b, rfl⟩ := two_of hlen
  have h0 : DataW.trod enc Try.prog w base spare held m 3 (([a, b].drop 0).take (Try.prog.cellsOf 3)) = xs[0]? := hf 0 _ rfl
  have h1 : DataW.trod enc Try.prog w base spare held m 3 (([a, b].drop 1).take (Try.prog.cellsOf 3)) = xs[1]? := hf 1 _ rfl
  rw [Try.cellsInt] at h0 h1
  have hxl' : xs.length = 2 := hxl
  obtain ⟨i0, rfl⟩ := trod_one (v := a) Try.underlying3 h0 (by rw [List.getElem?_eq_getElem (by omega)]; simp)
  obtain ⟨i1, rfl⟩ := trod_one (v := b) Try.underlying3 h1 (by rw [List.getElem?_eq_getElem (by omega)]; simp)
  exact ⟨⟨i0, i1⟩, rfl⟩

theorem gaps_of_trod {v : Value} {d : DataW H} {ps : List MemPlace} (hok : ∃ a len cap, v = .slice a len cap) (h : DataW.Trod enc Try.prog w base spare held 48 v d ps) : ∃ p, Rep GapE w v p := by
  obtain ⟨fuel, hf⟩ := h
  obtain ⟨v', p, hv, hp, _⟩ := rep_of_trod GapE Try.underlying48 Try.cellsGapL (fun _ => True) (fun n cs x hx => by obtain ⟨y, hy⟩ := gap_of_trod n cs x hx; exact ⟨y, hy, trivial⟩) hf
  obtain ⟨a, len, cap, rfl⟩ := hok
  simp [Value.cells] at hv
  subst hv
  exact ⟨p, hp⟩

end
end Go.Proofs.Ytpnmphfdfadlcaa
