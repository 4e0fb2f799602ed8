/-
  Plain: what a race is.
-/
import Derived.Test.YthglefilfpnikaaP5
namespace Go.Proofs.Ythglefilfpnikaa

theorem race_told {p : List (List Ins)} {x : Rc} (h : x ∈ racesV p) : ∃ (t i u k : Nat) (r s : List Ins) (y z : Ins), x = ⟨⟨t, i⟩, ⟨u, k⟩⟩ ∧ p[t]? = some r ∧ r[i]? = some y ∧ p[u]? = some s ∧ s[k]? = some z ∧ t < u ∧ y.loc = z.loc := by
  unfold racesV at h
  split at h
  · unfold racesP racesTo at h
    rw [List.mem_flatMap] at h
    obtain ⟨a, ha, hx⟩ := h
    unfold racesOf at hx
    rw [List.mem_map] at hx
    obtain ⟨b, hb, rfl⟩ := hx
    rw [List.mem_filter] at hb
    obtain ⟨hb, hr⟩ := hb
    obtain ⟨t, i, r, y, rfl, -, h1, h2⟩ := mem_instrsTo ha
    obtain ⟨u, k, s, z, rfl, -, h3, h4⟩ := mem_instrsTo hb
    rw [raceB_eq h1 h2 h3 h4] at hr
    simp only [Bool.and_eq_true, decide_eq_true_eq] at hr
    refine ⟨t, i, u, k, r, s, y, z, rfl, h1, h2, h3, h4, by omega, ?_⟩
    have := hr.2.1
    unfold conflictB conflictR at this
    simp only [Bool.and_eq_true, beq_iff_eq] at this
    exact this.1.2
  · simp at h

end Go.Proofs.Ythglefilfpnikaa
