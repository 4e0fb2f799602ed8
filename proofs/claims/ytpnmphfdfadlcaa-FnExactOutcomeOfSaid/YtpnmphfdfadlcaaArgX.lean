/-
  Arguments that are candidates.
-/
import Derived.Test.YtpnmphfdfadlcaaArgN
import Derived.Test.YtpnmphfdfadlcaaV6
namespace Go.Proofs.Ytpnmphfdfadlcaa
open Go.RowKit Go.Deep Go.ChangeShapes Go.WideShapes Go.ChangeAt

theorem Try.cellsIntSX : Try.prog.cellsOf 36 = 1 := by kernel_rfl
theorem Try.cellsIntSSX : Try.prog.cellsOf 74 = 1 := by kernel_rfl
theorem Try.cellsExecX : Try.prog.cellsOf 76 = 2 := by kernel_rfl

theorem twoX {α : Type} {l : List α} (h : l.length = 2) : ∃ a b, l = [a, b] := by
  match l, h with
  | [a, b], _ => exact ⟨a, b, rfl⟩

section
variable {H : Type} {enc : TypeId × Value → H} {w : World} {base : Nat} {spare : Nat → Bool} {held : Bool}

theorem exec_of_trod {v : Value} {d : DataW H} {ps : List MemPlace} (hok : ∃ cs, v = .agg cs ∧ cs.size = Try.prog.cellsOf 76) (h : DataW.Trod enc Try.prog w base spare held 76 v d ps) :
    ∃ (f o : Value) (x : Xc), v = .agg #[f, o] ∧ RepX w f o x := by
  obtain ⟨fuel, hf⟩ := h
  obtain ⟨cs, rfl, hsz⟩ := hok
  obtain ⟨xs, m, -, -, hlen, hxl, hf⟩ := DataW.trod_struct Try.underlying76 hf
  rw [Try.cellsExecX] at hsz
  obtain ⟨a, b, hcs⟩ := twoX (l := cs.toList) (by simpa using hsz)
  obtain rfl : cs = #[a, b] := by rw [← Array.toArray_toList (xs := cs), hcs]
  have hxl' : xs.length = 2 := hxl
  have h0 : DataW.trod enc Try.prog w base spare held m 36 (([a, b].drop 0).take (Try.prog.cellsOf 36)) = xs[0]? := hf 0 _ rfl
  have h1 : DataW.trod enc Try.prog w base spare held m 74 (([a, b].drop 1).take (Try.prog.cellsOf 74)) = xs[1]? := hf 1 _ rfl
  rw [Try.cellsIntSX] at h0
  rw [Try.cellsIntSSX] at h1
  rw [List.getElem?_eq_getElem (by omega)] at h0 h1
  obtain ⟨v0, p, hv0, hp, -⟩ := rep_of_trod IntE Try.underlying36 Try.cellsInt (fun _ => True) (fun n cs x hx => by obtain ⟨y, hy⟩ := int_of_trod n cs x hx; exact ⟨y, hy, trivial⟩) h0
  obtain ⟨v1, q, hv1, hq⟩ := rep2_of_trod IntE Try.underlying74 Try.underlying36 Try.cellsIntSX Try.cellsInt int_of_trod h1
  have e0 : a = v0 := by simpa using hv0
  have e1 : b = v1 := by simpa using hv1
  subst e0 e1
  exact ⟨a, b, ⟨p, q⟩, rfl, hp, hq⟩

end
end Go.Proofs.Ytpnmphfdfadlcaa
