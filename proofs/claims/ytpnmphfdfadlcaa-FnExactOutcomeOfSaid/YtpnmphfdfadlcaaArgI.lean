/-
  An argument that is a program, as the laws take it.
-/
import Derived.Test.YtpnmphfdfadlcaaArgs
namespace Go.Proofs.Ytpnmphfdfadlcaa
open Go.RowKit Go.Deep Go.ChangeShapes Go.WideShapes Go.ChangeAt

theorem Try.own : ownKnob Try.prog.godebug = none := by kernel_rfl
theorem Try.laidOut : laidOutB Try.prog = true := by kernel_rfl
theorem Try.cellsInstrL : Try.prog.cellsOf 174 = 4 := by kernel_rfl
theorem Try.cellsInstrSL : Try.prog.cellsOf 116 = 1 := by kernel_rfl
theorem Try.cellsInt : Try.prog.cellsOf 3 = 1 := by kernel_rfl

theorem take_one {a b c d : Value} : (([a, b, c, d].drop 0).take 1 = [a]) ∧ (([a, b, c, d].drop 1).take 1 = [b]) ∧ (([a, b, c, d].drop 2).take 1 = [c]) ∧ (([a, b, c, d].drop 3).take 1 = [d]) := ⟨rfl, rfl, rfl, rfl⟩

theorem four {l : List Value} (h : l.length = 4) : ∃ a b c d, l = [a, b, c, d] := by
  match l, h with
  | [a, b, c, d], _ => exact ⟨a, b, c, d, rfl⟩

section
variable {H : Type} {enc : TypeId × Value → H} {w : World} {base : Nat} {spare : Nat → Bool} {held : Bool}

theorem ins_of_trod : ∀ (n : Nat) (cs : List Value) (x : DataW H × List MemPlace), DataW.trod enc Try.prog w base spare held n 174 cs = some x → ∃ y : Ins, cs = InsE.c y := by
  intro n cs x h
  obtain ⟨xs, m, rfl, hx, hlen, hxl, hf⟩ := DataW.trod_struct Try.underlying174 h
  rw [Try.cellsInstrL] at hlen
  obtain ⟨a, b, c, d, rfl⟩ := four hlen
  have h0 : DataW.trod enc Try.prog w base spare held m 3 (([a, b, c, d].drop 0).take (Try.prog.cellsOf 3)) = xs[0]? := hf 0 _ rfl
  have h1 : DataW.trod enc Try.prog w base spare held m 3 (([a, b, c, d].drop 1).take (Try.prog.cellsOf 3)) = xs[1]? := hf 1 _ rfl
  have h2 : DataW.trod enc Try.prog w base spare held m 3 (([a, b, c, d].drop 2).take (Try.prog.cellsOf 3)) = xs[2]? := hf 2 _ rfl
  have h3 : DataW.trod enc Try.prog w base spare held m 3 (([a, b, c, d].drop 3).take (Try.prog.cellsOf 3)) = xs[3]? := hf 3 _ rfl
  rw [Try.cellsInt] at h0 h1 h2 h3
  have hxl' : xs.length = 4 := hxl
  obtain ⟨i0, rfl⟩ := trod_one (v := a) Try.underlying3 h0 (by rw [List.getElem?_eq_getElem (by omega)]; simp)
  obtain ⟨i1, rfl⟩ := trod_one (v := b) Try.underlying3 h1 (by rw [List.getElem?_eq_getElem (by omega)]; simp)
  obtain ⟨i2, rfl⟩ := trod_one (v := c) Try.underlying3 h2 (by rw [List.getElem?_eq_getElem (by omega)]; simp)
  obtain ⟨i3, rfl⟩ := trod_one (v := d) Try.underlying3 h3 (by rw [List.getElem?_eq_getElem (by omega)]; simp)
  exact ⟨⟨i0, i1, i2, i3⟩, rfl⟩

theorem prog_of_trod {v : Value} {d : DataW H} {ps : List MemPlace} (hok : ∃ a len cap, v = .slice a len cap) (h : DataW.Trod enc Try.prog w base spare held 47 v d ps) : ∃ p, Rep2 InsE w v p := by
  obtain ⟨fuel, hf⟩ := h
  obtain ⟨v', p, hv, hp⟩ := rep2_of_trod InsE Try.underlying47 Try.underlying116 Try.cellsInstrSL Try.cellsInstrL ins_of_trod hf
  obtain ⟨a, len, cap, rfl⟩ := hok
  simp [Value.cells] at hv
  subst hv
  exact ⟨p, hp⟩

end
end Go.Proofs.Ytpnmphfdfadlcaa
