/-
  Plain: both parsers of conditions answer alike.
-/
import Derived.Test.YtpnmphfdfadlcaaP12
namespace Go.Proofs.Ytpnmphfdfadlcaa
open Go.RowKit

def parI (s : ByteArray) : Cd × Bool :=
  if (pC 301 s.data.toList false).2.2 = false ∧ (pC 301 s.data.toList false).2.1 = [] ∧ fmtC (pC 301 s.data.toList false).1 = s then ((pC 301 s.data.toList false).1, true) else (zeroC, false)
def parS (s : ByteArray) : Cd × Bool :=
  if s.size ≠ 0 ∧ (sP 10 s.data.toList 0).2 = (s.size : Int) ∧ fmtC (sP 10 s.data.toList 0).1 = s then ((sP 10 s.data.toList 0).1, true) else (zeroC, false)

theorem fmtC_yes {c : Cd} (h : validC c = true) : fmtC c = strOfNums (textF 10 c) := by unfold fmtC; rw [if_pos h]
theorem fmtC_no {c : Cd} (h : validC c = false) : fmtC c = ⟨#[]⟩ := by unfold fmtC; rw [h]; rfl

theorem textF_ne {d : Nat} {c : Cd} (h : shapeF d c = true) : textF d c ≠ [] := by
  cases d with
  | zero => simp [shapeF] at h
  | succ d =>
    unfold textF
    split
    · simp
    · split
      · simp
      · split
        · simp
        · split
          · simp
          · simp

theorem parI_text {c : Cd} (h : validC c = true) : parI (fmtC c) = (c, true) := by
  have hs := valid_shape h
  have e : pC 301 (fmtC c).data.toList false = (c, [], false) := by
    rw [fmtC_yes h, strN_nb]
    have := pC_text 10 301 c [] hs (by omega)
    simpa using this
  unfold parI
  rw [e, if_pos ⟨rfl, rfl, rfl⟩]

theorem parS_text {c : Cd} (h : validC c = true) : parS (fmtC c) = (c, true) := by
  have hs := valid_shape h
  have hn := textF_ne hs
  have e : sP 10 (fmtC c).data.toList 0 = (c, ((fmtC c).size : Int)) := by
    rw [fmtC_yes h, strN_nb, size_strN]
    have := sP_text 10 c [] [] hs
    simpa using this
  unfold parS
  have hz : (fmtC c).size ≠ 0 := by
    rw [fmtC_yes h, size_strN]
    intro e
    exact hn (List.eq_nil_of_length_eq_zero e)
  rw [e, if_pos ⟨hz, rfl, rfl⟩]

theorem parI_valid {s : ByteArray} (h : (parI s).2 = true) : validC (parI s).1 = true ∧ fmtC (parI s).1 = s := by
  unfold parI at h ⊢
  split at h
  · rename_i hc
    rw [if_pos hc]
    refine ⟨?_, hc.2.2⟩
    cases hv : validC (pC 301 s.data.toList false).1 with
    | true => rfl
    | false =>
      have h1 := hc.2.2
      rw [fmtC_no hv] at h1
      have h2 := hc.1
      rw [← h1] at h2
      exact absurd h2 (by decide)
  · simp at h

theorem parS_valid {s : ByteArray} (h : (parS s).2 = true) : validC (parS s).1 = true ∧ fmtC (parS s).1 = s := by
  unfold parS at h ⊢
  split at h
  · rename_i hc
    rw [if_pos hc]
    refine ⟨?_, hc.2.2⟩
    cases hv : validC (sP 10 s.data.toList 0).1 with
    | true => rfl
    | false =>
      have h1 := hc.2.2
      rw [fmtC_no hv] at h1
      exact absurd (by rw [← h1]; rfl) hc.1
  · simp at h

theorem parse_no {s : ByteArray} : ((parI s).2 = false → parI s = (zeroC, false)) ∧ ((parS s).2 = false → parS s = (zeroC, false)) := by
  constructor
  · intro h
    unfold parI at h ⊢
    split
    · rename_i hc; rw [if_pos hc] at h; simp at h
    · rfl
  · intro h
    unfold parS at h ⊢
    split
    · rename_i hc; rw [if_pos hc] at h; simp at h
    · rfl

theorem parse_eq (s : ByteArray) : parS s = parI s := by
  cases hi : (parI s).2 with
  | true =>
    obtain ⟨h1, h2⟩ := parI_valid hi
    have e := parS_text h1
    rw [h2] at e
    rw [e, ← hi]
  | false =>
    cases hs : (parS s).2 with
    | true =>
      obtain ⟨h1, h2⟩ := parS_valid hs
      have e := parI_text h1
      rw [h2] at e
      rw [e] at hi
      simp at hi
    | false => rw [(parse_no (s := s)).1 hi, (parse_no (s := s)).2 hs]

end Go.Proofs.Ytpnmphfdfadlcaa
