/-
  Plain: a value that is copied along a chain.
-/
import Derived.Test.YtpnmphfdfadlcaaV1
namespace Go.Proofs.Ytpnmphfdfadlcaa

/-- The value at the end of a chain, with so many links at most. -/
def chain (d : Nat → Int ⊕ Nat) : Nat → Nat → Option Int
  | 0, _ => none
  | k + 1, i => match d i with
    | .inl v => some v
    | .inr j => chain d k j

theorem chain_inl {d : Nat → Int ⊕ Nat} {i : Nat} {v : Int} (h : d i = .inl v) (k : Nat) : chain d (k + 1) i = some v := by simp [chain, h]
theorem chain_inr {d : Nat → Int ⊕ Nat} {i j : Nat} (h : d i = .inr j) (k : Nat) : chain d (k + 1) i = chain d k j := by simp [chain, h]

theorem chain_mono1 {d : Nat → Int ⊕ Nat} : ∀ {k i : Nat} {v : Int}, chain d k i = some v → chain d (k + 1) i = some v := by
  intro k
  induction k with
  | zero => intro i v h; simp [chain] at h
  | succ k ih =>
    intro i v h
    rcases hd : d i with a | j
    · rw [chain_inl hd] at h ⊢; exact h
    · rw [chain_inr hd] at h ⊢; exact ih h
theorem chain_mono {d : Nat → Int ⊕ Nat} {k k' i : Nat} {v : Int} (h : chain d k i = some v) (hk : k ≤ k') : chain d k' i = some v := by
  obtain ⟨m, rfl⟩ := Nat.exists_eq_add_of_le hk
  clear hk
  induction m with
  | zero => exact h
  | succ m ih => exact chain_mono1 ih

/-- j is so many links behind i. -/
inductive Reach (d : Nat → Int ⊕ Nat) : Nat → Nat → Nat → Prop
  | zero (i : Nat) : Reach d 0 i i
  | step {i j m k : Nat} (h : d i = .inr j) (hr : Reach d m j k) : Reach d (m + 1) i k

theorem Reach.snoc {d : Nat → Int ⊕ Nat} {m i j k : Nat} (h : Reach d m i j) (hd : d j = .inr k) : Reach d (m + 1) i k := by
  induction h with
  | zero i => exact .step hd (.zero k)
  | step h _ ih => exact .step h (ih hd)
theorem chain_reach {d : Nat → Int ⊕ Nat} {m i j : Nat} (h : Reach d m i j) (k : Nat) : chain d (k + m) i = chain d k j := by
  induction h with
  | zero i => rfl
  | step h _ ih => rw [← ih, ← Nat.add_assoc, chain_inr h]
theorem chain_none {d : Nat → Int ⊕ Nat} {m i j : Nat} (h : Reach d m i j) : ∀ k, k ≤ m → chain d k i = none := by
  induction h with
  | zero i => intro k hk; obtain rfl : k = 0 := by omega
              rfl
  | step h _ ih =>
    intro k hk
    cases k with
    | zero => rfl
    | succ k => rw [chain_inr h]; exact ih k (by omega)
/-- A chain that comes back has no end. -/
theorem chain_cyc {d : Nat → Int ⊕ Nat} {m i : Nat} (h : Reach d (m + 1) i i) : ∀ k, chain d k i = none := by
  intro k
  induction k using Nat.strongRecOn with
  | _ k ih =>
    by_cases hk : k ≤ m + 1
    · exact chain_none h k hk
    · have := chain_reach h (k - (m + 1))
      rw [show k - (m + 1) + (m + 1) = k by omega] at this
      rw [this]
      exact ih _ (by omega)

def nodes (d : Nat → Int ⊕ Nat) : Nat → Nat → List Nat
  | 0, _ => []
  | k + 1, i => i :: match d i with
    | .inl _ => []
    | .inr j => nodes d k j
theorem mem_nodes {d : Nat → Int ⊕ Nat} {x : Nat} : ∀ {k i : Nat}, x ∈ nodes d k i → ∃ m, Reach d m i x := by
  intro k
  induction k with
  | zero => intro i h; simp [nodes] at h
  | succ k ih =>
    intro i h
    rcases hd : d i with a | j
    · simp [nodes, hd] at h; subst h; exact ⟨0, .zero _⟩
    · simp [nodes, hd] at h
      rcases h with rfl | h
      · exact ⟨0, .zero _⟩
      · obtain ⟨m, hm⟩ := ih h; exact ⟨m + 1, .step hd hm⟩
theorem nodes_nodup {d : Nat → Int ⊕ Nat} : ∀ {k i : Nat} {v : Int}, chain d k i = some v → (nodes d k i).Nodup := by
  intro k
  induction k with
  | zero => intro i v h; simp [chain] at h
  | succ k ih =>
    intro i v h
    rcases hd : d i with a | j
    · simp [nodes, hd]
    · have h2 := h
      rw [chain_inr hd] at h2
      simp only [nodes, hd, List.nodup_cons]
      refine ⟨fun hm => ?_, ih h2⟩
      obtain ⟨m, hm⟩ := mem_nodes hm
      rw [chain_cyc (.step hd hm)] at h; cases h
theorem chain_nodes {d : Nat → Int ⊕ Nat} : ∀ {k i : Nat} {v : Int}, chain d k i = some v → chain d (nodes d k i).length i = some v := by
  intro k
  induction k with
  | zero => intro i v h; simp [chain] at h
  | succ k ih =>
    intro i v h
    rcases hd : d i with a | j
    · rw [chain_inl hd] at h
      simp only [nodes, hd, List.length_cons]
      rw [chain_inl hd]; exact h
    · rw [chain_inr hd] at h
      simp only [nodes, hd, List.length_cons]
      rw [chain_inr hd]; exact ih h
theorem nodes_lt {d : Nat → Int ⊕ Nat} {n : Nat} (hn : ∀ i j, i < n → d i = .inr j → j < n) : ∀ {k i : Nat}, i < n → ∀ x ∈ nodes d k i, x < n := by
  intro k
  induction k with
  | zero => intro i _ x h; simp [nodes] at h
  | succ k ih =>
    intro i hi x h
    rcases hd : d i with a | j
    · simp [nodes, hd] at h; omega
    · simp [nodes, hd] at h
      rcases h with rfl | h
      · exact hi
      · exact ih (hn i j hi hd) x h
theorem nodup_lt : ∀ (n : Nat) (xs : List Nat), xs.Nodup → (∀ x ∈ xs, x < n) → xs.length ≤ n := by
  intro n
  induction n with
  | zero => intro xs _ h; cases xs with
    | nil => simp
    | cons x xs => exact absurd (h x (by simp)) (by omega)
  | succ n ih =>
    intro xs hn h
    have h1 := ih (xs.erase n) (hn.erase n) (fun x hx => by
      have h2 := h x (List.mem_of_mem_erase hx)
      have h3 : x ≠ n := fun e => by subst e; exact hn.not_mem_erase hx
      omega)
    have h2 : xs.length ≤ (xs.erase n).length + 1 := by
      by_cases hm : n ∈ xs
      · rw [List.length_erase_of_mem hm]; omega
      · rw [List.erase_of_not_mem hm]; omega
    omega
/-- As many links as there are places are enough. -/
theorem chain_stable {d : Nat → Int ⊕ Nat} {n : Nat} (hn : ∀ i j, i < n → d i = .inr j → j < n) {k i : Nat} {v : Int} (hi : i < n) (h : chain d k i = some v) : chain d n i = some v :=
  chain_mono (chain_nodes h) (nodup_lt n _ (nodes_nodup h) (nodes_lt hn hi))
theorem chain_next {d : Nat → Int ⊕ Nat} {n : Nat} (hn : ∀ i j, i < n → d i = .inr j → j < n) {i j : Nat} (hi : i < n) (hd : d i = .inr j) : chain d n i = chain d n j := by
  have hj := hn i j hi hd
  cases h : chain d n j with
  | some v => exact chain_stable hn hi (k := n + 1) (by rw [chain_inr hd]; exact h)
  | none =>
    cases h2 : chain d n i with
    | none => rfl
    | some v =>
      have h3 := chain_mono1 h2
      rw [chain_inr hd, h] at h3; cases h3
theorem chain_end {d : Nat → Int ⊕ Nat} {n i : Nat} {v : Int} (hi : i < n) (hd : d i = .inl v) : chain d n i = some v := by
  obtain ⟨m, rfl⟩ : ∃ m, n = m + 1 := ⟨n - 1, by omega⟩
  exact chain_inl hd m

end Go.Proofs.Ytpnmphfdfadlcaa
