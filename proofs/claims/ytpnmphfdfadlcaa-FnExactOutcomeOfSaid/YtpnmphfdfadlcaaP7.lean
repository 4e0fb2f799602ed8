/-
  Plain: what the sizes leave.
-/
import Derived.Test.YtpnmphfdfadlcaaT2
import Derived.Test.YtpnmphfdfadlcaaP3
namespace Go.Proofs.Ytpnmphfdfadlcaa

theorem szPP_le2 (p : List (List Ins)) (l : Int) (h : ¬ szPP p l < 0) (hl : l ≤ 1048576) : (0 ≤ szPP p l ∧ szPP p l ≤ 1048576) ∧ p.length ≤ 1048576 ∧ p.flatten.length ≤ 1048576 ∧ ∀ r ∈ p, r.length ≤ 1048576 := by
  unfold szPP at h ⊢
  split at h
  · omega
  · rename_i hl2
    rw [if_neg hl2]
    have h1 := szP_le p _ (Int.not_lt.1 h)
    refine ⟨by omega, by omega, ?_, fun r hr => by have := h1.2 r hr; omega⟩
    rcases szP_eq p _ (Int.not_lt.1 h) with h2 | h2
    · rw [h2] at h1 h; omega
    · subst h2; simp

theorem szK_le (ks : List Cd) (l : Int) (h : ¬ szK ks l < 0) (hl : l ≤ 1048576) : (0 ≤ szK ks l ∧ szK ks l ≤ 1048576) ∧ descs ks ≤ 1048576 := by
  unfold szK at h ⊢
  split at h
  · omega
  · rename_i hl2
    rw [if_neg hl2]
    omega

end Go.Proofs.Ytpnmphfdfadlcaa
