/-
  Plain: all candidates of a program, and how many there are.
-/
import Derived.Test.YtblheabgjjeigaaZv05
import Derived.Test.YtblheabgjjeigaaZv06
import Derived.Deep.RegionHeld3
import Derived.Deep.DeepCutAuto
namespace Go.Proofs.Ytblheabgjjeigaa

/-- The value at the end of a chain, with so many links at most. -/
def chain (d : Nat → Int ⊕ Nat) : Nat → Nat → Option Int
  | 0, _ => none
  | k + 1, i => match d i with
    | .inl v => some v
    | .inr j => chain d k j

theorem chain_inl {d : Nat → Int ⊕ Nat} {i : Nat} {v : Int} (h : d i = .inl v) (k : Nat) : chain d (k + 1) i = some v := by simp [chain, h]
theorem chain_inr {d : Nat → Int ⊕ Nat} {i j : Nat} (h : d i = .inr j) (k : Nat) : chain d (k + 1) i = chain d k j := by simp [chain, h]

theorem chain_mono1 {d : Nat → Int ⊕ Nat} : ∀ {k i : Nat} {v : Int}, chain d k i = some v → chain d (k + 1) i = some v := by
  intro k
  induction k with
  | zero => intro i v h; simp [chain] at h
  | succ k ih =>
    intro i v h
    rcases hd : d i with a | j
    · rw [chain_inl hd] at h ⊢; exact h
    · rw [chain_inr hd] at h ⊢; exact ih h
theorem chain_mono {d : Nat → Int ⊕ Nat} {k k' i : Nat} {v : Int} (h : chain d k i = some v) (hk : k ≤ k') : chain d k' i = some v := by
  obtain ⟨m, rfl⟩ := Nat.exists_eq_add_of_le hk
  clear hk
  induction m with
  | zero => exact h
  | succ m ih => exact chain_mono1 ih

/-- j is so many links behind i. -/
inductive Reach (d : Nat → Int ⊕ Nat) : Nat → Nat → Nat → Prop
  | zero (i : Nat) : Reach d 0 i i
  | step {i j m k : Nat} (h : d i = .inr j) (hr : Reach d m j k) : Reach d (m + 1) i k

theorem Reach.snoc {d : Nat → Int ⊕ Nat} {m i j k : Nat} (h : Reach d m i j) (hd : d j = .inr k) : Reach d (m + 1) i k := by
  induction h with
  | zero i => exact .step hd (.zero k)
  | step h _ ih => exact .step h (ih hd)
theorem chain_reach {d : Nat → Int ⊕ Nat} {m i j : Nat} (h : Reach d m i j) (k : Nat) : chain d (k + m) i = chain d k j := by
  induction h with
  | zero i => rfl
  | step h _ ih => rw [← ih, ← Nat.add_assoc, chain_inr h]
theorem chain_none {d : Nat → Int ⊕ Nat} {m i j : Nat} (h : Reach d m i j) : ∀ k, k ≤ m → chain d k i = none := by
  induction h with
  | zero i => intro k hk; obtain rfl : k = 0 := by omega
              rfl
  | step h _ ih =>
    intro k hk
    cases k with
    | zero => rfl
    | succ k => rw [chain_inr h]; exact ih k (by omega)
/-- A chain that comes back has no end. -/
theorem chain_cyc {d : Nat → Int ⊕ Nat} {m i : Nat} (h : Reach d (m + 1) i i) : ∀ k, chain d k i = none := by
  intro k
  induction k using Nat.strongRecOn with
  | _ k ih =>
    by_cases hk : k ≤ m + 1
    · exact chain_none h k hk
    · have := chain_reach h (k - (m + 1))
      rw [show k - (m + 1) + (m + 1) = k by omega] at this
      rw [this]
      exact ih _ (by omega)

def nodesV (d : Nat → Int ⊕ Nat) : Nat → Nat → List Nat
  | 0, _ => []
  | k + 1, i => i :: match d i with
    | .inl _ => []
    | .inr j => nodesV d k j
theorem mem_nodes {d : Nat → Int ⊕ Nat} {x : Nat} : ∀ {k i : Nat}, x ∈ nodesV d k i → ∃ m, Reach d m i x := by
  intro k
  induction k with
  | zero => intro i h; simp [nodesV] at h
  | succ k ih =>
    intro i h
    rcases hd : d i with a | j
    · simp [nodesV, hd] at h; subst h; exact ⟨0, .zero _⟩
    · simp [nodesV, hd] at h
      rcases h with rfl | h
      · exact ⟨0, .zero _⟩
      · obtain ⟨m, hm⟩ := ih h; exact ⟨m + 1, .step hd hm⟩
theorem nodes_nodup {d : Nat → Int ⊕ Nat} : ∀ {k i : Nat} {v : Int}, chain d k i = some v → (nodesV d k i).Nodup := by
  intro k
  induction k with
  | zero => intro i v h; simp [chain] at h
  | succ k ih =>
    intro i v h
    rcases hd : d i with a | j
    · simp [nodesV, hd]
    · have h2 := h
      rw [chain_inr hd] at h2
      simp only [nodesV, hd, List.nodup_cons]
      refine ⟨fun hm => ?_, ih h2⟩
      obtain ⟨m, hm⟩ := mem_nodes hm
      rw [chain_cyc (.step hd hm)] at h; cases h
theorem chain_nodes {d : Nat → Int ⊕ Nat} : ∀ {k i : Nat} {v : Int}, chain d k i = some v → chain d (nodesV d k i).length i = some v := by
  intro k
  induction k with
  | zero => intro i v h; simp [chain] at h
  | succ k ih =>
    intro i v h
    rcases hd : d i with a | j
    · rw [chain_inl hd] at h
      simp only [nodesV, hd, List.length_cons]
      rw [chain_inl hd]; exact h
    · rw [chain_inr hd] at h
      simp only [nodesV, hd, List.length_cons]
      rw [chain_inr hd]; exact ih h
theorem nodes_lt {d : Nat → Int ⊕ Nat} {n : Nat} (hn : ∀ i j, i < n → d i = .inr j → j < n) : ∀ {k i : Nat}, i < n → ∀ x ∈ nodesV d k i, x < n := by
  intro k
  induction k with
  | zero => intro i _ x h; simp [nodesV] at h
  | succ k ih =>
    intro i hi x h
    rcases hd : d i with a | j
    · simp [nodesV, hd] at h; omega
    · simp [nodesV, hd] at h
      rcases h with rfl | h
      · exact hi
      · exact ih (hn i j hi hd) x h
theorem nodup_lt : ∀ (n : Nat) (xs : List Nat), xs.Nodup → (∀ x ∈ xs, x < n) → xs.length ≤ n := by
  intro n
  induction n with
  | zero => intro xs _ h; cases xs with
    | nil => simp
    | cons x xs => exact absurd (h x (by simp)) (by omega)
  | succ n ih =>
    intro xs hn h
    have h1 := ih (xs.erase n) (hn.erase n) (fun x hx => by
      have h2 := h x (List.mem_of_mem_erase hx)
      have h3 : x ≠ n := fun e => by subst e; exact hn.not_mem_erase hx
      omega)
    have h2 : xs.length ≤ (xs.erase n).length + 1 := by
      by_cases hm : n ∈ xs
      · rw [List.length_erase_of_mem hm]; omega
      · rw [List.erase_of_not_mem hm]; omega
    omega
/-- As many links as there are places are enough. -/
theorem chain_stable {d : Nat → Int ⊕ Nat} {n : Nat} (hn : ∀ i j, i < n → d i = .inr j → j < n) {k i : Nat} {v : Int} (hi : i < n) (h : chain d k i = some v) : chain d n i = some v :=
  chain_mono (chain_nodes h) (nodup_lt n _ (nodes_nodup h) (nodes_lt hn hi))
theorem chain_next {d : Nat → Int ⊕ Nat} {n : Nat} (hn : ∀ i j, i < n → d i = .inr j → j < n) {i j : Nat} (hi : i < n) (hd : d i = .inr j) : chain d n i = chain d n j := by
  have hj := hn i j hi hd
  cases h : chain d n j with
  | some v => exact chain_stable hn hi (k := n + 1) (by rw [chain_inr hd]; exact h)
  | none =>
    cases h2 : chain d n i with
    | none => rfl
    | some v =>
      have h3 := chain_mono1 h2
      rw [chain_inr hd, h] at h3; cases h3
theorem chain_end {d : Nat → Int ⊕ Nat} {n i : Nat} {v : Int} (hi : i < n) (hd : d i = .inl v) : chain d n i = some v := by
  obtain ⟨m, rfl⟩ : ∃ m, n = m + 1 := ⟨n - 1, by omega⟩
  exact chain_inl hd m

end Go.Proofs.Ytblheabgjjeigaa

namespace Go.Proofs.Ytblheabgjjeigaa

/-- The instruction of an event. -/
def insE (p : List (List Ins)) (e : Ev) : Ins := ((p[e.t.toNat]?).bind fun r => r[e.i.toNat]?).getD ⟨0, 0, 0, 0⟩
/-- Whether an event of a thread, ahead of an index, reads into a register. -/
def hitR (p : List (List Ins)) (t idx reg : Int) (e : Ev) : Bool := (e.t == t) && (decide (e.i < idx) && (e.r && ((insE p e).reg == reg)))
def lastTo (p : List (List Ins)) (es : List Ev) (t idx reg : Int) (k : Nat) : Int := (List.range k).foldl (fun (a : Int) (i : Nat) => match es[i]? with
  | some e => if hitR p t idx reg e = true then (i : Int) else a
  | none => a) (-1)
/-- The last such event, or -1. -/
def lastRd (p : List (List Ins)) (es : List Ev) (t idx reg : Int) : Int := lastTo p es t idx reg es.length
theorem lastTo_succ (p : List (List Ins)) {es : List Ev} (t idx reg : Int) {k : Nat} {e : Ev} (h : es[k]? = some e) :
    lastTo p es t idx reg (k + 1) = if hitR p t idx reg e = true then (k : Int) else lastTo p es t idx reg k := by
  unfold lastTo
  rw [List.range_succ, List.foldl_append]
  simp [h]
theorem lastTo_cases (p : List (List Ins)) (es : List Ev) (t idx reg : Int) : ∀ k, k ≤ es.length → lastTo p es t idx reg k = -1 ∨ ∃ (i : Nat) (e : Ev), lastTo p es t idx reg k = i ∧ i < k ∧ es[i]? = some e ∧ hitR p t idx reg e = true := by
  intro k
  induction k with
  | zero => intro _; exact .inl rfl
  | succ k ih =>
    intro hk
    obtain ⟨e, he⟩ := get_of_lt (xs := es) (k := k) hk
    rw [lastTo_succ p t idx reg he]
    by_cases hh : hitR p t idx reg e = true
    · rw [if_pos hh]; exact .inr ⟨k, e, rfl, by omega, he, hh⟩
    · rw [if_neg hh]
      rcases ih (by omega) with h | ⟨i, e', h1, h2, h3⟩
      · exact .inl h
      · exact .inr ⟨i, e', h1, by omega, h3⟩

/-- What the value of an event is, or from which event it comes. -/
def depV (p : List (List Ins)) (es : List Ev) (fr : List Int) (i : Nat) : Int ⊕ Nat :=
  match es[i]? with
  | none => .inl 0
  | some e => if e.t < 0 then .inl 0 else if (insE p e).op = 3 then (if lastRd p es e.t e.i (insE p e).reg < 0 then .inl 0 else .inr ((fr[(lastRd p es e.t e.i (insE p e).reg).toNat]?).getD 0).toNat) else .inl (insE p e).val

theorem insE_of {p : List (List Ins)} {e : Ev} {t i : Nat} {r : List Ins} {x : Ins} (h1 : p[t]? = some r) (h2 : r[i]? = some x) (ht : e.t = t) (hi : e.i = i) : insE p e = x := by
  unfold insE
  rw [ht, hi]; simp [h1, h2]
/-- An event of a program is a first write, or of an instruction. -/
theorem ev_cases {p : List (List Ins)} {k : Nat} {e : Ev} (h : (evAll p)[k]? = some e) : (e.t = -1) ∨ ∃ (t i : Nat) (r : List Ins), e.t = t ∧ e.i = i ∧ p[t]? = some r ∧ r[i]? = some (insE p e) ∧ e.r = isRop (insE p e).op ∧ e.w = isWop (insE p e).op ∧ e.l = (insE p e).loc := by
  rcases mem_evAll (List.mem_of_getElem? h) with h | ⟨t, i, r, x, h1, h2, h3, -⟩
  · exact .inl h
  · have e1 : insE p e = x := insE_of h1 h2 (by rw [h3]) (by rw [h3])
    exact .inr ⟨t, i, r, by rw [h3], by rw [h3], h1, by rw [e1]; exact h2, by rw [e1, h3], by rw [e1, h3], by rw [e1, h3]⟩

theorem insValid_val {x : Ins} (h : insValid x = true) : 0 ≤ x.val ∧ x.val ≤ 3 := by
  unfold insValid inB at h
  split at h
  · simp at h; omega
  · split at h
    · simp at h; omega
    · split at h
      · simp at h; omega
      · split at h
        · simp at h; omega
        · cases h

theorem dep_val {p : List (List Ins)} {fr : List Int} (hp : progValid p = true) {i : Nat} {v : Int} (h : depV p (evAll p) fr i = .inl v) : 0 ≤ v ∧ v ≤ 3 := by
  unfold depV at h
  split at h
  · simp at h; omega
  · rename_i e he
    split at h
    · simp at h; omega
    · split at h
      · split at h
        · simp at h; omega
        · simp at h
      · simp at h; subst h
        rename_i h0 _
        rcases ev_cases he with h1 | ⟨t, k, r, -, -, h1, h2, -⟩
        · omega
        · exact insValid_val (((valid_le hp).2.2.1 r (List.mem_of_getElem? h1)).2 _ (List.mem_of_getElem? h2))

/-- What a read reads from is a write. -/
theorem from_write {es : List Ev} {fr : List Int} {k : Nat} (h : fromsOk es fr es.length = true) {e : Ev} (he : es[k]? = some e) (hr : e.r = true) : ∃ (j : Nat) (e' : Ev), fr[k]? = some (j : Int) ∧ es[j]? = some e' ∧ e'.w = true ∧ e'.l = e.l ∧ j ≠ k := by
  obtain ⟨e2, f, h1, h2, h3⟩ := fromsOk_get h (List.getElem?_eq_some_iff.1 he).1
  rw [he] at h1; simp at h1; subst h1
  unfold fromOk at h3
  rw [if_pos hr] at h3
  simp at h3
  obtain ⟨i, e', h4, h5, h6, h7, h8⟩ := mem_wrL.1 h3.2
  subst h5
  exact ⟨i, e', h2, h6, h7, h8, fun e => h3.1 (by rw [e])⟩
theorem dep_inr {p : List (List Ins)} {es : List Ev} {fr : List Int} (h : fromsOk es fr es.length = true) {i j : Nat} (hd : depV p es fr i = .inr j) : ∃ e', es[j]? = some e' ∧ e'.w = true := by
  unfold depV at hd
  split at hd
  · cases hd
  · rename_i e he
    split at hd
    · cases hd
    · split at hd
      · split at hd
        · cases hd
        · rename_i h1 h2 h3
          rcases lastTo_cases p es e.t e.i (insE p e).reg es.length (Nat.le_refl _) with h4 | ⟨r, e2, h4, h5, h6, h7⟩
          · exfalso; exact h3 (by unfold lastRd; omega)
          · have h4' : lastRd p es e.t e.i (insE p e).reg = r := h4
            rw [h4'] at hd
            have hrr : e2.r = true := by unfold hitR at h7; simp at h7; exact h7.2.2.1
            obtain ⟨j2, e', h8, h9, h10, -⟩ := from_write h h6 hrr
            simp [h8] at hd
            subst hd
            exact ⟨e', h9, h10⟩
      · cases hd
theorem dep_lt {p : List (List Ins)} {es : List Ev} {fr : List Int} (h : fromsOk es fr es.length = true) (i j : Nat) (_ : i < es.length) (hd : depV p es fr i = .inr j) : j < es.length := by
  obtain ⟨e', h1, -⟩ := dep_inr h hd
  exact (List.getElem?_eq_some_iff.1 h1).1
theorem chain_val {d : Nat → Int ⊕ Nat} (hd : ∀ i v, d i = .inl v → 0 ≤ v ∧ v ≤ 3) : ∀ {k i : Nat} {v : Int}, chain d k i = some v → 0 ≤ v ∧ v ≤ 3 := by
  intro k
  induction k with
  | zero => intro i v h; simp [chain] at h
  | succ k ih =>
    intro i v h
    rcases he : d i with a | j
    · rw [chain_inl he] at h; simp at h; subst h; exact hd i _ he
    · rw [chain_inr he] at h; exact ih h

/-- The value of one event, if it is known. -/
def val1 (c : Nat → Option Int) (i : Nat) (e : Ev) : Int := if e.w = true then (c i).getD (-1) else -1
def valTo (es : List Ev) (c : Nat → Option Int) (k : Nat) : List Int := (List.range k).flatMap fun i => match es[i]? with
  | some e => [val1 c i e]
  | none => []
def okTo (es : List Ev) (c : Nat → Option Int) (k : Nat) : Bool := (List.range k).all fun i => match es[i]? with
  | some e => !e.w || (c i).isSome
  | none => true
theorem valTo_succ {es : List Ev} (c : Nat → Option Int) {k : Nat} {e : Ev} (h : es[k]? = some e) : valTo es c (k + 1) = valTo es c k ++ [val1 c k e] := by
  unfold valTo
  rw [List.range_succ, List.flatMap_append]
  simp [h]
theorem okTo_succ {es : List Ev} (c : Nat → Option Int) {k : Nat} {e : Ev} (h : es[k]? = some e) : okTo es c (k + 1) = (okTo es c k && (!e.w || (c k).isSome)) := by
  unfold okTo
  rw [List.range_succ, List.all_append]
  simp [h]
theorem okTo_no {es : List Ev} (c : Nat → Option Int) {k : Nat} {e : Ev} (h : es[k]? = some e) (hw : e.w = true) (hc : c k = none) : okTo es c es.length = false := by
  unfold okTo
  rw [List.all_eq_false]
  exact ⟨k, List.mem_range.2 (List.getElem?_eq_some_iff.1 h).1, by simp [h, hw, hc]⟩
theorem valTo_length (es : List Ev) (c : Nat → Option Int) : ∀ k, k ≤ es.length → (valTo es c k).length = k := by
  intro k
  induction k with
  | zero => intro _; rfl
  | succ k ih =>
    intro hk
    obtain ⟨e, he⟩ := get_of_lt (xs := es) (k := k) hk
    rw [valTo_succ c he, List.length_append, ih (by omega)]; rfl
theorem valTo_get {es : List Ev} (c : Nat → Option Int) {i : Nat} {e : Ev} : ∀ {k : Nat}, i < k → k ≤ es.length → es[i]? = some e → (valTo es c k)[i]? = some (val1 c i e) := by
  intro k
  induction k with
  | zero => intro h; omega
  | succ k ih =>
    intro hi hk he
    obtain ⟨e', he'⟩ := get_of_lt (xs := es) (k := k) hk
    rw [valTo_succ c he']
    by_cases e2 : i = k
    · subst e2
      rw [he] at he'; simp at he'; subst he'
      rw [List.getElem?_append_right (by rw [valTo_length es c i (by omega)]; exact Nat.le_refl _), valTo_length es c i (by omega)]; simp
    · rw [List.getElem?_append_left (by rw [valTo_length es c k (by omega)]; omega)]
      exact ih (by omega) (by omega) he

/-- The values of a candidate: the link of each event, the chain's end. -/
def cX (p : List (List Ins)) (fr : List Int) : Nat → Option Int := chain (depV p (evAll p) fr) (evAll p).length
def valsL (p : List (List Ins)) (fr : List Int) : List Int := valTo (evAll p) (cX p fr) (evAll p).length
def valsOk (p : List (List Ins)) (fr : List Int) : Bool := okTo (evAll p) (cX p fr) (evAll p).length
/-- What ValuesOf hands back. -/
def valF (p : List (List Ins)) (x : Xc) : List Int × Bool := if execOk p x = true ∧ valsOk p x.fr = true then (valsL p x.fr, true) else ([], false)

theorem valF_le (p : List (List Ins)) (x : Xc) : (valF p x).1.length ≤ 15 := by
  unfold valF
  split
  · rename_i h
    have h2 := h.1
    unfold execOk at h2
    simp only [Bool.and_eq_true] at h2
    simp only [valsL]
    rw [valTo_length _ _ _ (Nat.le_refl _)]
    exact evAll_le h2.1
  · simp

/-- What the reference knows in the midst of a round. -/
structure KInv (d : Nat → Int ⊕ Nat) (es : List Ev) (r i : Nat) (K : List Int) : Prop where
  len : K.length = es.length
  at_ : ∀ (t : Nat) (e : Ev), es[t]? = some e → ∃ v, K[t]? = some v ∧ (v = -1 ∨ (e.w = true ∧ chain d es.length t = some v)) ∧ (e.w = true → (chain d (if t < i then r + 1 else r) t).isSome = true → v ≠ -1)

theorem KInv.start (d : Nat → Int ⊕ Nat) (es : List Ev) : KInv d es 0 0 (List.replicate es.length (-1)) := by
  refine ⟨by simp, fun t e h => ⟨-1, ?_, .inl rfl, fun _ h2 => ?_⟩⟩
  · rw [List.getElem?_replicate, if_pos (List.getElem?_eq_some_iff.1 h).1]
  · simp [chain] at h2
theorem KInv.next {d : Nat → Int ⊕ Nat} {es : List Ev} {r i : Nat} {K : List Int} (h : KInv d es r i K) (hi : i = es.length) : KInv d es (r + 1) 0 K := by
  refine ⟨h.len, fun t e he => ?_⟩
  obtain ⟨v, h1, h2, h3⟩ := h.at_ t e he
  refine ⟨v, h1, h2, fun hw hs => h3 hw ?_⟩
  rw [if_pos (by rw [hi]; exact (List.getElem?_eq_some_iff.1 he).1)]
  rw [if_neg (by omega)] at hs
  exact hs
theorem KInv.skip {d : Nat → Int ⊕ Nat} {es : List Ev} {r i : Nat} {K : List Int} (h : KInv d es r i K) {e : Ev} (he : es[i]? = some e) (hw : e.w = false) : KInv d es r (i + 1) K := by
  refine ⟨h.len, fun t e2 he2 => ?_⟩
  obtain ⟨v, h1, h2, h3⟩ := h.at_ t e2 he2
  refine ⟨v, h1, h2, fun hw2 hs => ?_⟩
  by_cases ht : t = i
  · subst ht; rw [he] at he2; simp at he2; subst he2; rw [hw] at hw2; cases hw2
  · refine h3 hw2 ?_
    by_cases hlt : t < i
    · rw [if_pos hlt]; rw [if_pos (by omega)] at hs; exact hs
    · rw [if_neg hlt]; rw [if_neg (by omega)] at hs; exact hs
/-- What the reference's step writes. -/
def linkV (d : Nat → Int ⊕ Nat) (K : List Int) (i : Nat) : Int := match d i with
  | .inl v => v
  | .inr j => (K[j]?).getD (-1)
theorem KInv.step {d : Nat → Int ⊕ Nat} {es : List Ev} {r i : Nat} {K : List Int} (h : KInv d es r i K) {e : Ev} (he : es[i]? = some e) (hw : e.w = true) (hlt : ∀ i j, i < es.length → d i = .inr j → j < es.length)
    (hj : ∀ j, d i = .inr j → ∃ e', es[j]? = some e' ∧ e'.w = true) (hv : ∀ i v, d i = .inl v → 0 ≤ v ∧ v ≤ 3) : KInv d es r (i + 1) (K.set i (linkV d K i)) := by
  have hil := (List.getElem?_eq_some_iff.1 he).1
  refine ⟨by simp [h.len], fun t e2 he2 => ?_⟩
  by_cases ht : t = i
  · subst ht
    rw [he] at he2; simp at he2; subst he2
    refine ⟨linkV d K t, by rw [List.getElem?_set, if_pos rfl, if_pos (by rw [h.len]; exact hil)], ?_, fun _ hs => ?_⟩
    · unfold linkV
      rcases hd : d t with v | j
      · exact .inr ⟨hw, chain_end hil hd⟩
      · obtain ⟨e', h1, h2⟩ := hj j hd
        obtain ⟨u, h3, h4, -⟩ := h.at_ j e' h1
        simp only [h3, Option.getD_some]
        rcases h4 with h4 | ⟨-, h4⟩
        · exact .inl h4
        · exact .inr ⟨hw, by rw [chain_next hlt hil hd]; exact h4⟩
    · rw [if_pos (by omega)] at hs
      unfold linkV
      rcases hd : d t with v | j
      · have := hv t v hd; simp only; omega
      · obtain ⟨e', h1, h2⟩ := hj j hd
        obtain ⟨u, h3, -, h5⟩ := h.at_ j e' h1
        simp only [h3, Option.getD_some]
        refine h5 h2 ?_
        rw [chain_inr hd] at hs
        obtain ⟨u2, hu⟩ := Option.isSome_iff_exists.1 hs
        rw [chain_mono hu (k' := if j < t then r + 1 else r) (by split <;> omega)]; rfl
  · obtain ⟨v, h1, h2, h3⟩ := h.at_ t e2 he2
    refine ⟨v, by rw [List.getElem?_set, if_neg (fun e => ht e.symm)]; exact h1, h2, fun hw2 hs => h3 hw2 ?_⟩
    by_cases hlt2 : t < i
    · rw [if_pos hlt2]; rw [if_pos (by omega)] at hs; exact hs
    · rw [if_neg hlt2]; rw [if_neg (by omega)] at hs; exact hs
/-- After as many rounds as there are events all is known that can be. -/
theorem KInv.done {d : Nat → Int ⊕ Nat} {es : List Ev} {r : Nat} {K : List Int} (h : KInv d es r 0 K) (hr : r = es.length) : K = valTo es (chain d es.length) es.length := by
  subst hr
  apply List.ext_getElem?
  intro t
  by_cases ht : t < es.length
  · obtain ⟨e, he⟩ := get_of_lt (xs := es) (k := t) ht
    obtain ⟨v, h1, h2, h3⟩ := h.at_ t e he
    rw [valTo_get _ ht (Nat.le_refl _) he, h1]
    congr 1
    unfold val1
    rw [if_neg (by omega)] at h3
    by_cases hw : e.w = true
    · rw [if_pos hw]
      rcases h2 with rfl | ⟨-, h2⟩
      · cases hc : chain d es.length t with
        | none => rfl
        | some u => exact absurd rfl (h3 hw (by rw [hc]; rfl))
      · rw [h2]; rfl
    · rw [if_neg hw]
      rcases h2 with h2 | ⟨h2, -⟩
      · exact h2
      · exact absurd h2 hw
  · rw [List.getElem?_eq_none (by rw [h.len]; omega), List.getElem?_eq_none (by rw [valTo_length _ _ _ (Nat.le_refl _)]; omega)]

end Go.Proofs.Ytblheabgjjeigaa

namespace Go.Proofs.Ytblheabgjjeigaa

def valAt (vals : List Int) (j : Int) : Int := (vals[j.toNat]?).getD 0
def frAt (fr : List Int) (r : Int) : Int := (fr[r.toNat]?).getD 0
def regOf (fr vals : List Int) (r : Int) : Int := if r < 0 then 0 else valAt vals (frAt fr r)
def regV (p : List (List Ins)) (es : List Ev) (fr vals : List Int) (t idx g : Int) : Int := regOf fr vals (lastRd p es t idx g)
def lastO (od : List (List Int)) (l : Nat) : Int := (((od[l]?).getD []).getLast?).getD 0
def memV (od : List (List Int)) (vals : List Int) (l : Nat) : Int := valAt vals (lastO od l)
def outRow (p : List (List Ins)) (es : List Ev) (fr vals : List Int) (t n : Nat) (k : Nat) : List Int := (List.range k).map fun (g : Nat) => regV p es fr vals (t : Int) (n : Int) (g : Int)
def outTo (p : List (List Ins)) (es : List Ev) (fr vals : List Int) (j : Nat) : List Int := (List.range j).flatMap fun t => match p[t]? with
  | some r => outRow p es fr vals t r.length 3
  | none => []
def outMem (od : List (List Int)) (vals : List Int) (k : Nat) : List Int := (List.range k).map (memV od vals)
def outL (p : List (List Ins)) (es : List Ev) (x : Xc) (vals : List Int) : List Int := outTo p es x.fr vals p.length ++ outMem x.od vals 3
/-- What OutcomeOf hands back. -/
def outF (p : List (List Ins)) (x : Xc) : List Int × Bool := if execOk p x = true ∧ valsOk p x.fr = true then (outL p (evAll p) x (valsL p x.fr), true) else ([], false)

theorem outRow_succ (p : List (List Ins)) (es : List Ev) (fr vals : List Int) (t n k : Nat) : outRow p es fr vals t n (k + 1) = outRow p es fr vals t n k ++ [regV p es fr vals (t : Int) (n : Int) (k : Int)] := by
  simp [outRow, List.range_succ]
theorem outMem_succ (od : List (List Int)) (vals : List Int) (k : Nat) : outMem od vals (k + 1) = outMem od vals k ++ [memV od vals k] := by
  simp [outMem, List.range_succ]
theorem outTo_succ {p : List (List Ins)} (es : List Ev) (fr vals : List Int) {j : Nat} {r : List Ins} (h : p[j]? = some r) : outTo p es fr vals (j + 1) = outTo p es fr vals j ++ outRow p es fr vals j r.length 3 := by
  unfold outTo
  rw [List.range_succ, List.flatMap_append]
  simp [h]
theorem outRow_length (p : List (List Ins)) (es : List Ev) (fr vals : List Int) (t n k : Nat) : (outRow p es fr vals t n k).length = k := by simp [outRow]
theorem outMem_length (od : List (List Int)) (vals : List Int) (k : Nat) : (outMem od vals k).length = k := by simp [outMem]
theorem outTo_length (p : List (List Ins)) (es : List Ev) (fr vals : List Int) : ∀ j, j ≤ p.length → (outTo p es fr vals j).length = 3 * j := by
  intro j
  induction j with
  | zero => intro _; rfl
  | succ j ih =>
    intro hj
    obtain ⟨r, hr⟩ := get_of_lt (xs := p) (k := j) hj
    rw [outTo_succ es fr vals hr, List.length_append, ih (by omega), outRow_length]; omega
theorem outL_length (p : List (List Ins)) (es : List Ev) (x : Xc) (vals : List Int) : (outL p es x vals).length = 3 * p.length + 3 := by
  unfold outL
  rw [List.length_append, outTo_length p es x.fr vals p.length (Nat.le_refl _), outMem_length]

end Go.Proofs.Ytblheabgjjeigaa

namespace Go.Proofs.Ytblheabgjjeigaa
open Go.RowKit

theorem ev_read {p : List (List Ins)} {k : Nat} {e : Ev} (h : (evAll p)[k]? = some e) (hr : e.r = true) : ∃ (t i : Nat) (r : List Ins), e.t = t ∧ e.i = i ∧ p[t]? = some r ∧ r[i]? = some (insE p e) := by
  rcases ev_cases h with h1 | ⟨t, i, r, h1, h2, h3, h4, -⟩
  · exfalso
    have h2 := List.mem_of_getElem? h
    unfold evAll at h2
    rcases List.mem_append.1 h2 with h3 | h3
    · simp [evHead] at h3
      obtain ⟨l, -, rfl⟩ := h3
      cases hr
    · unfold evTo at h3
      rw [List.mem_flatMap] at h3
      obtain ⟨t, ht, h3⟩ := h3
      cases hp : p[t]? with
      | none => rw [hp] at h3; simp at h3
      | some r =>
        rw [hp] at h3
        simp only [evRow, List.mem_flatMap, List.mem_range] at h3
        obtain ⟨i, hi, h3⟩ := h3
        obtain ⟨x, hx⟩ := get_of_lt (xs := r) (k := i) hi
        rw [hx] at h3
        obtain ⟨rfl, -⟩ := mem_evOf h3
        simp at h1
  · exact ⟨t, i, r, h1, h2, h3, h4⟩

/-- What the valuer has in memory. -/
structure VS (w : World) (pb : Nat) (ps fs os es vs bs : Slc) : Prop where
  blk : w.heap[pb]? = some (.cells #[.slice ps.a ps.n ps.cap, .slice fs.a fs.n fs.cap, .slice os.a os.n os.cap, .slice es.a es.n es.cap, .slice vs.a vs.n vs.cap, .slice bs.a bs.n bs.cap] 71 (0, 0))
theorem VS.below {w w' : World} {pb : Nat} {ps fs os es vs bs : Slc} (h : VS w pb ps fs os es vs bs) (hb : Below w.heap.size w w') : VS w' pb ps fs os es vs bs := ⟨(hb.block pb (Array.getElem?_eq_some_iff.1 h.blk).1).trans h.blk⟩
theorem cell_of_heapV {w : World} {b k : Nat} {cur : Array Value} {t : TypeId} {v : Value} (h : w.heap[b]? = some (.cells cur t (0, 0))) (hk : cur[k]? = some v) : w.cell? ⟨b, k, none⟩ = some v := by
  simp [World.cell?, h, hk]
theorem frozen_of_heapV {w : World} {b : Nat} {cur : Array Value} {t : TypeId} (h : w.heap[b]? = some (.cells cur t (0, 0))) (j : Nat) : w.frozen? ⟨b, j, none⟩ = false := by
  simp [World.frozen?, h]

set_option maxRecDepth 100000 in
set_option maxHeartbeats 3200000 in
theorem lastRead_any (pb : Nat) (ps fs os ess vs bs : Slc) (p : List (List Ins)) (es : List Ev) (hes : es = evAll p) (t idx reg : Int) (w : World) (hv : VS w pb ps fs os ess vs bs) (hp : RepP w ps.v p) (he : Rep EvE w ess.v es) (hl : es.length ≤ 1048676) :
    Calls Try.prog 84 #[.pointer (some ⟨pb, 0, none⟩), .int .i64 t, .int .i64 idx, .int .i64 reg] w fun e w' => e = .returned (.int .i64 (lastRd p es t idx reg)) ∧ Below w.heap.size w w' := by
  obtain ⟨pa, pn, pc⟩ := ps
  obtain ⟨ea, en, ec⟩ := ess
  obtain ⟨ea', ec', heq, -, -, -, he'⟩ := he.open
  simp only [Value.slice.injEq] at heq
  obtain ⟨rfl, rfl, rfl⟩ := heq
  obtain ⟨pa', pc', heq, -, -, -, hp'⟩ := hp.open
  simp only [Value.slice.injEq] at heq
  obtain ⟨rfl, rfl, rfl⟩ := heq
  have HVS := hide hv; have HP := hide hp'; have HE := hide he'
  have HER := hide (fun k e h hr => ev_read (p := p) (k := k) (e := e) (hes ▸ h) hr)
  have HR : Hid (lastRd p es t idx reg = lastTo p es t idx reg es.length) := hide rfl
  have HS := hide (fun k e h => lastTo_succ p (es := es) t idx reg (k := k) (e := e) h)
  have H0 : Hid (lastTo p es t idx reg 0 = -1) := hide rfl
  have b3 := cell_of_heapV hv.blk (k := 3) rfl
  have bl := lt_of_cell b3
  clear hes hp he hp' he' hv
  generalize lastRd p es t idx reg = R at *
  generalize hn : es.length = n at *
  have H := hide hn; clear hn
  go_enter Try.func84, Try.ntmps84
  go_wp2_with fail
  clear b3
  go_loopw [9, 17] (fun l i wr => ∃ k : Nat, k ≤ n ∧ i = .int .i64 k ∧ l = .int .i64 (lastTo p es t idx reg k) ∧ Below w.heap.size w wr) (fun _ i _ => n - (intOf i).toNat)
  case atStart => exact ⟨0, Nat.zero_le _, rfl, by rw [H0.out], Below.refl _ _⟩
  case round =>
    obtain ⟨k, hk, rfl, rfl, hb⟩ := hrel
    by_cases hlt : k < n
    · obtain ⟨e, hek⟩ := get_of_lt (xs := es) (k := k) (by rw [H.out]; exact hlt)
      obtain ⟨b, o, rfl, hbl, i0, i1, i2, i3, i4⟩ := (HE.out.below hb).ev hek
      have hlt' := nat_of_lt hlt
      have S := hide (HS.out k e hek)
      have ER := hide (fun hr => HER.out k e hek hr)
      have HH : Hid (hitR p t idx reg e = ((e.t == t) && (decide (e.i < idx) && (e.r && ((insE p e).reg == reg))))) := hide rfl
      have HBA := hide (hb.alloc hb.size (.cells #[.int .i64 e.t, .int .i64 e.i, .int .i64 e.l, .bool e.r, .bool e.w] 36))
      clear hek
      generalize lastTo p es t idx reg k = G at *
      by_cases g1 : e.t = t
      · have k1 : (e.t == t) = true := by simp [g1]
        by_cases g2 : e.i < idx
        · have k2 : decide (e.i < idx) = true := by simp [g2]
          cases her : e.r
          · have S2 : Hid (lastTo p es t idx reg (k + 1) = G) := hide (by rw [S.out, HH.out, her]; simp)
            rw [her] at i3 HBA
            subst g1
            clear g2 HH ER S her
            go_wp2_with fail
            refine wp_region_bw (by kernel_rfl) (by kernel_rfl) ?_
            repeat (go_big_quiet_step (fail))
            refine wpQuiet_nil ?_
            intro w1 hb1
            go_wp2_with fail
            go_roundw
            case rel => exact ⟨k + 1, by omega, by go_num, by rw [S2.out], HBA.out.trans (hb1.mono HBA.out.size)⟩
            case measure => simp [intOf]; omega
          · obtain ⟨t', i', r, ht, hi, hpt, hri⟩ := ER.out her
            obtain ⟨b2, o2, ra, rc, rfl, hbl2, q0, q1⟩ := (HP.out.below hb).row hpt
            obtain ⟨b3, o3, rfl, hbl3, r0, r1, r2, r3⟩ := q1.ins hri
            have htn : (t' : Int) < (p.length : Int) := by have := (List.getElem?_eq_some_iff.1 hpt).1; omega
            have hin : (i' : Int) < (r.length : Int) := by have := (List.getElem?_eq_some_iff.1 hri).1; omega
            have VB := HVS.out.below hb
            have c0 := cell_of_heapV VB.blk (k := 0) rfl
            have hbp := lt_of_cell c0
            have HG1 := hide g1; have HT := hide ht; have HI := hide hi
            have HRG : Hid ((insE p e).reg = (insE p e).reg) := hide rfl
            rw [her] at i3 HBA HH
            obtain ⟨et, ei, el, er, ew⟩ := e
            simp only at ht hi g1 k1 k2 g2 i0 i1 i2 i3 i4 her
            subst her
            subst ht
            subst hi
            subst g1
            generalize hins : insE p ⟨(t' : Int), (i' : Int), el, true, ew⟩ = ix at *
            clear hins hpt hri q1 ER VB HG1 HT HI HRG
            by_cases g3 : ix.reg = reg
            · have k3 : (ix.reg == reg) = true := by simp [g3]
              have S2 : Hid (lastTo p es (t' : Int) idx reg (k + 1) = (k : Int)) := hide (by rw [S.out, HH.out, k3, k2]; simp)
              clear g3 S HH k1
              go_wp2_with fail
              refine wp_region_bw (by kernel_rfl) (by kernel_rfl) ?_
              repeat (go_big_quiet_step (fail))
              refine wpQuiet_nil ?_
              intro w1 hb1
              go_wp2_with fail
              go_roundw
              case rel => exact ⟨k + 1, by omega, by go_num, by rw [S2.out], HBA.out.trans (hb1.mono HBA.out.size)⟩
              case measure => simp [intOf]; omega
            · have k3 : (ix.reg == reg) = false := by simp [g3]
              have S2 : Hid (lastTo p es (t' : Int) idx reg (k + 1) = G) := hide (by rw [S.out, HH.out, k3]; simp)
              clear g3 S HH k1
              go_wp2_with fail
              refine wp_region_bw (by kernel_rfl) (by kernel_rfl) ?_
              repeat (go_big_quiet_step (fail))
              refine wpQuiet_nil ?_
              intro w1 hb1
              go_wp2_with fail
              go_roundw
              case rel => exact ⟨k + 1, by omega, by go_num, by rw [S2.out], HBA.out.trans (hb1.mono HBA.out.size)⟩
              case measure => simp [intOf]; omega
        · have k2 : decide (e.i < idx) = false := by simp [g2]
          have S2 : Hid (lastTo p es t idx reg (k + 1) = G) := hide (by rw [S.out, HH.out, k2]; simp)
          subst g1
          clear g2 HH ER S
          go_wp2_with fail
          refine wp_region_bw (by kernel_rfl) (by kernel_rfl) ?_
          repeat (go_big_quiet_step (fail))
          refine wpQuiet_nil ?_
          intro w1 hb1
          go_wp2_with fail
          go_roundw
          case rel => exact ⟨k + 1, by omega, by go_num, by rw [S2.out], HBA.out.trans (hb1.mono HBA.out.size)⟩
          case measure => simp [intOf]; omega
      · have k1 : (e.t == t) = false := by simp [g1]
        have S2 : Hid (lastTo p es t idx reg (k + 1) = G) := hide (by rw [S.out, HH.out, k1]; simp)
        clear g1
        generalize hitR p t idx reg e = hh at *
        clear HH S ER
        go_wp2_with fail
        refine wp_region_bw (by kernel_rfl) (by kernel_rfl) ?_
        repeat (go_big_quiet_step (fail))
        refine wpQuiet_nil ?_
        intro w1 hb1
        go_wp2_with fail
        go_roundw
        case rel => exact ⟨k + 1, by omega, by go_num, by rw [S2.out], HBA.out.trans (hb1.mono HBA.out.size)⟩
        case measure => simp [intOf]; omega
    · have e : k = n := by omega
      subst e
      go_wp2_with fail
      go_ret
      exact ⟨by rw [HR.out]; rfl, hb⟩

end Go.Proofs.Ytblheabgjjeigaa

namespace Go.Proofs.Ytblheabgjjeigaa
open Go.RowKit

theorem dep_t0 {p : List (List Ins)} {es : List Ev} {fr : List Int} {i : Nat} {e : Ev} (h : es[i]? = some e) (ht : e.t < 0) : depV p es fr i = .inl 0 := by
  unfold depV; rw [h]; simp only; rw [if_pos ht]
theorem dep_op {p : List (List Ins)} {es : List Ev} {fr : List Int} {i : Nat} {e : Ev} (h : es[i]? = some e) (ht : ¬ e.t < 0) (ho : (insE p e).op ≠ 3) : depV p es fr i = .inl (insE p e).val := by
  unfold depV; rw [h]; simp only; rw [if_neg ht, if_neg ho]
theorem dep_r0 {p : List (List Ins)} {es : List Ev} {fr : List Int} {i : Nat} {e : Ev} (h : es[i]? = some e) (ht : ¬ e.t < 0) (ho : (insE p e).op = 3) (hr : lastRd p es e.t e.i (insE p e).reg < 0) : depV p es fr i = .inl 0 := by
  unfold depV; rw [h]; simp only; rw [if_neg ht, if_pos ho, if_pos hr]
theorem dep_rr {p : List (List Ins)} {es : List Ev} {fr : List Int} {i : Nat} {e : Ev} (h : es[i]? = some e) (ht : ¬ e.t < 0) (ho : (insE p e).op = 3) {r j : Nat} (hr : lastRd p es e.t e.i (insE p e).reg = (r : Int)) (hj : fr[r]? = some (j : Int)) : depV p es fr i = .inr j := by
  unfold depV; rw [h]; simp only; rw [if_neg ht, if_pos ho, if_neg (by omega), hr]
  simp [hj]
theorem lastRd_cases (p : List (List Ins)) (es : List Ev) (t idx reg : Int) : lastRd p es t idx reg = -1 ∨ ∃ (r : Nat) (e : Ev), lastRd p es t idx reg = r ∧ es[r]? = some e ∧ e.r = true := by
  rcases lastTo_cases p es t idx reg es.length (Nat.le_refl _) with h | ⟨i, e, h1, -, h2, h3⟩
  · exact .inl h
  · refine .inr ⟨i, e, h1, h2, ?_⟩
    unfold hitR at h3; simp at h3; exact h3.2.2.1

/-- Truth values. -/
def BoolE : El Bool := ⟨1, by decide, fun x => [.bool x], fun _ => rfl, fun x u h => by simp at h; subst h; rfl⟩
theorem Own.boolc {T : TypeId} {w : World} {base g n cap : Nat} {xs : List Bool} (h : Own BoolE T w base (.slice (some ⟨g, 0, none⟩) n cap) xs) {k : Nat} {x : Bool} (hx : xs[k]? = some x) :
    g < w.heap.size ∧ w.cell? ⟨g, k, none⟩ = some (.bool x) ∧ ∀ j, w.frozen? ⟨g, j, none⟩ = false := by
  have := h.cell hx (j := 0) rfl
  simp only [BoolE, Nat.mul_one, Nat.add_zero] at this
  exact ⟨(World.ownsRow.lt h g rfl).2, this, fun j => h.frozen j⟩
theorem Own.setBool {T : TypeId} {w : World} {base g n cap : Nat} {xs : List Bool} (h : Own BoolE T w base (.slice (some ⟨g, 0, none⟩) n cap) xs) {k : Nat} {z : Bool} (hz : xs[k]? = some z) (x : Bool) :
    Own BoolE T (w.setCell ⟨g, k, none⟩ (.bool x)) base (.slice (some ⟨g, 0, none⟩) n cap) (xs.set k x) := by
  have h0 := h.set (i := k) (j := 0) x (u := .bool x) (by decide) hz rfl
  simp only [BoolE, Nat.mul_one, Nat.add_zero] at h0
  exact h0
theorem count_set {bz : List Bool} {i : Nat} (h : bz[i]? = some false) : (bz.set i true).countP (fun b => !b) + 1 = bz.countP (fun b => !b) := by
  induction bz generalizing i with
  | nil => simp at h
  | cons b bz ih =>
    cases i with
    | zero => simp at h; subst h; simp
    | succ i =>
      simp at h
      have := ih h
      simp only [List.set_cons_succ, List.countP_cons]
      omega
theorem set_back {bz : List Bool} {i : Nat} (h : bz[i]? = some false) : (bz.set i true).set i false = bz := by
  rw [List.set_set]
  apply List.ext_getElem?
  intro k
  rw [List.getElem?_set]
  split
  · rename_i hk
    subst hk
    rw [h, if_pos (List.getElem?_eq_some_iff.1 h).1]
  · rfl

theorem Own.sameV {α : Type} {E : El α} {T : TypeId} {w w' : World} {base : Nat} {v : Value} {xs : List α} (h : Own E T w base v xs) (hB : ∀ k, v.ownBlock = some k → w'.heap[k]? = w.heap[k]?) : Own E T w' base v xs := by
  refine ⟨h.1, ?_⟩
  rcases h.2 with hn | ⟨g, cap, cur, rfl, hb1, hgg, rest⟩
  · exact .inl hn
  · exact .inr ⟨g, cap, cur, rfl, hb1, (hB g rfl).trans hgg, rest⟩
theorem own_or {α β : Type} {E : El α} {F : El β} {T U : TypeId} (hT : T ≠ U) {w : World} {base base' : Nat} {v u : Value} {xs : List α} {ys : List β} (h : Own E T w base v xs) (k : Own F U w base' u ys) : u.ownBlock = none ∨ u.ownBlock ≠ v.ownBlock := by
  rcases hq : u.ownBlock with _ | q
  · exact .inl rfl
  · exact .inr fun e => own_ne hT h k q hq e.symm

end Go.Proofs.Ytblheabgjjeigaa

namespace Go.Proofs.Ytblheabgjjeigaa

def fromC (es : List Ev) (i : Nat) : List Int := match es[i]? with
  | some e => if e.r = true then wrL es e.l else [-1]
  | none => []
def pre1 (i : Nat) (rest : List (List Int)) (k : Int) : List (List Int) := if k = (i : Int) then [] else rest.map (k :: ·)
def fromsD (es : List Ev) : Nat → Nat → List (List Int)
  | 0, _ => [[]]
  | n + 1, i => (fromC es i).flatMap (pre1 i (fromsD es n (i + 1)))
/-- All ways in which events can read, from an event on. -/
def fromsL (es : List Ev) (i : Nat) : List (List Int) := fromsD es (es.length - i) i
def permsD : Nat → List Int → List (List Int)
  | 0, _ => [[]]
  | n + 1, xs => (List.range xs.length).flatMap fun i => (permsD n (xs.eraseIdx i)).map (xs.getD i 0 :: ·)
def permsL (xs : List Int) : List (List Int) := permsD xs.length xs
def ordsD (es : List Ev) : Nat → Nat → List (List (List Int))
  | 0, _ => [[]]
  | n + 1, l => (permsL (wrL es l).tail).flatMap fun q => (ordsD es n (l + 1)).map (((wrL es l).headD 0 :: q) :: ·)
/-- All orders of the writes of all locations, from a location on. -/
def ordsL (es : List Ev) (l : Nat) : List (List (List Int)) := ordsD es (3 - l) l
def allTo (fs : List (List Int)) (os : List (List (List Int))) (k : Nat) : List Xc := (fs.take k).flatMap fun f => os.map (⟨f, ·⟩)
def allX (es : List Ev) : List Xc := (fromsL es 0).flatMap fun f => (ordsL es 0).map (⟨f, ·⟩)

theorem fromsL_end (es : List Ev) : fromsL es es.length = [[]] := by unfold fromsL; rw [Nat.sub_self]; rfl
theorem fromsL_step {es : List Ev} {i : Nat} (h : i < es.length) : fromsL es i = (fromC es i).flatMap (pre1 i (fromsL es (i + 1))) := by
  unfold fromsL
  rw [show es.length - i = (es.length - (i + 1)) + 1 by omega]
  rfl
theorem permsL_nil : permsL [] = [[]] := rfl
theorem permsL_step {xs : List Int} (h : 0 < xs.length) : permsL xs = (List.range xs.length).flatMap fun i => (permsL (xs.eraseIdx i)).map (xs.getD i 0 :: ·) := by
  unfold permsL
  obtain ⟨n, hn⟩ : ∃ n, xs.length = n + 1 := ⟨xs.length - 1, by omega⟩
  rw [hn]
  show (List.range xs.length).flatMap _ = _
  rw [hn]
  unfold List.flatMap
  congr 1
  apply List.map_congr_left
  intro i hi
  rw [List.mem_range] at hi
  rw [List.length_eraseIdx, if_pos (by omega), hn]; rfl
theorem ordsL_end (es : List Ev) : ordsL es 3 = [[]] := rfl
theorem ordsL_step {es : List Ev} {l : Nat} (h : l < 3) : ordsL es l = (permsL (wrL es l).tail).flatMap fun q => (ordsL es (l + 1)).map (((wrL es l).headD 0 :: q) :: ·) := by
  unfold ordsL
  rw [show 3 - l = (3 - (l + 1)) + 1 by omega]
  rfl

theorem flatMap_take_succ {α β : Type} (f : α → List β) {xs : List α} {k : Nat} {x : α} (h : xs[k]? = some x) : (xs.take (k + 1)).flatMap f = (xs.take k).flatMap f ++ f x := by
  rw [List.take_add_one, h, List.flatMap_append]; simp
theorem map_take_succ {α β : Type} (f : α → β) {xs : List α} {k : Nat} {x : α} (h : xs[k]? = some x) : (xs.take (k + 1)).map f = (xs.take k).map f ++ [f x] := by
  rw [List.take_add_one, h, List.map_append]; rfl
theorem flatMap_length_le {α β : Type} (f : α → List β) (b : Nat) (xs : List α) (h : ∀ x ∈ xs, (f x).length ≤ b) : (xs.flatMap f).length ≤ xs.length * b := by
  induction xs with
  | nil => simp
  | cons x xs ih =>
    rw [List.flatMap_cons, List.length_append, List.length_cons, Nat.succ_mul]
    have h1 := h x (by simp)
    have h2 := ih (fun y hy => h y (by simp [hy]))
    omega
theorem flatMap_take_le {α β : Type} (f : α → List β) (xs : List α) (k : Nat) : ((xs.take k).flatMap f).length ≤ (xs.flatMap f).length := by
  have h : xs.flatMap f = (xs.take k).flatMap f ++ (xs.drop k).flatMap f := by rw [← List.flatMap_append, List.take_append_drop]
  rw [h, List.length_append]; omega

theorem permsD_length : ∀ (n : Nat) (xs : List Int), xs.length = n → (permsD n xs).length ≤ fact n := by
  intro n
  induction n with
  | zero => intro xs _; simp [permsD, fact]
  | succ n ih =>
    intro xs hx
    unfold permsD
    have h := flatMap_length_le (fun i => (permsD n (xs.eraseIdx i)).map (xs.getD i 0 :: ·)) (fact n) (List.range xs.length) (fun i hi => by
      rw [List.mem_range] at hi
      rw [List.length_map]
      exact ih _ (by rw [List.length_eraseIdx, if_pos hi, hx]; rfl))
    rw [List.length_range, hx] at h
    rw [fact, Nat.mul_comm]; rw [hx]; exact h
theorem permsL_length (xs : List Int) : (permsL xs).length ≤ fact xs.length := permsD_length _ xs rfl

def facE (es : List Ev) (e : Ev) : Nat := if e.r = true then (wrL es e.l).length else 1
def prodL (f : Ev → Nat) : List Ev → Nat
  | [] => 1
  | e :: es => f e * prodL f es
theorem fromsL_length {es : List Ev} : ∀ (n i : Nat), i + n = es.length → (fromsL es i).length ≤ prodL (facE es) (es.drop i) := by
  intro n
  induction n with
  | zero =>
    intro i hi
    obtain rfl : i = es.length := by omega
    rw [fromsL_end, List.drop_length]; exact Nat.le_refl _
  | succ n ih =>
    intro i hi
    obtain ⟨e, he⟩ := get_of_lt (xs := es) (k := i) (by omega)
    obtain ⟨hlt, hee⟩ := List.getElem?_eq_some_iff.1 he
    rw [fromsL_step hlt, List.drop_eq_getElem_cons hlt, hee, prodL]
    have h1 : (fromC es i).length = facE es e := by
      unfold fromC facE; rw [he]; simp only
      split <;> rfl
    have h2 := flatMap_length_le (pre1 i (fromsL es (i + 1))) (prodL (facE es) (es.drop (i + 1))) (fromC es i) (fun k _ => by
      unfold pre1
      split
      · simp
      · rw [List.length_map]; exact ih (i + 1) (by omega))
    rw [h1] at h2; exact h2

theorem facE_pos {es : List Ev} (h : ∀ e ∈ es, e.r = true → 1 ≤ (wrL es e.l).length) : ∀ e ∈ es, 1 ≤ facE es e := by
  intro e he
  unfold facE
  split
  · exact h e he (by assumption)
  · exact Nat.le_refl _
theorem prodL_pos {f : Ev → Nat} : ∀ {es : List Ev}, (∀ e ∈ es, 1 ≤ f e) → 1 ≤ prodL f es := by
  intro es
  induction es with
  | nil => intro _; exact Nat.le_refl _
  | cons e es ih => intro h; exact Nat.mul_pos (h e (by simp)) (ih (fun x hx => h x (by simp [hx])))
theorem prodL_drop {f : Ev → Nat} : ∀ {es : List Ev}, (∀ e ∈ es, 1 ≤ f e) → ∀ i, prodL f (es.drop i) ≤ prodL f es := by
  intro es
  induction es with
  | nil => intro _ i; simp
  | cons e es ih =>
    intro h i
    cases i with
    | zero => exact Nat.le_refl _
    | succ i =>
      have h1 := ih (fun x hx => h x (by simp [hx])) i
      have h2 := h e (by simp)
      simp only [List.drop_succ_cons, prodL]
      exact Nat.le_trans h1 (Nat.le_mul_of_pos_left _ h2)

def rAt (l : Int) (e : Ev) : Bool := e.r && (e.l == l)
def wAt (l : Int) (e : Ev) : Bool := e.w && (e.l == l)
theorem prodL_eq (c : Int → Nat) : ∀ (es : List Ev), (∀ e ∈ es, e.r = true → e.l = 0 ∨ e.l = 1 ∨ e.l = 2) → prodL (fun e => if e.r = true then c e.l else 1) es = c 0 ^ es.countP (rAt 0) * c 1 ^ es.countP (rAt 1) * c 2 ^ es.countP (rAt 2) := by
  intro es
  induction es with
  | nil => intro _; simp [prodL]
  | cons e es ih =>
    intro h
    have h1 := ih (fun x hx => h x (by simp [hx]))
    rw [prodL, h1]
    cases hr : e.r with
    | false =>
      simp [rAt, hr]
    | true =>
      rcases h e (by simp) hr with hl | hl | hl <;> simp [rAt, hr, hl, Nat.pow_succ] <;> ac_rfl

theorem wrTo_count (es : List Ev) (l : Int) : ∀ k, k ≤ es.length → (wrTo es l k).length = (es.take k).countP (wAt l) := by
  intro k
  induction k with
  | zero => intro _; simp [wrTo]
  | succ k ih =>
    intro hk
    obtain ⟨e, he⟩ := get_of_lt (xs := es) (k := k) hk
    rw [wrTo_succ l he, List.length_append, ih (by omega), List.take_add_one, he, List.countP_append]
    unfold wr1 wAt
    cases hw : (e.w && e.l == l) <;> simp [hw]
theorem wrL_count (es : List Ev) (l : Int) : (wrL es l).length = es.countP (wAt l) := by
  unfold wrL
  rw [wrTo_count es l _ (Nat.le_refl _), List.take_length]

theorem evRow_count (G : Ev → Bool) (f : Ins → Bool) (hG : ∀ (t i : Nat) (x : Ins), (evOf t i x).countP G = if f x = true then 1 else 0) (t : Nat) (r : List Ins) : ∀ k, k ≤ r.length → (evRow t r k).countP G = (r.take k).countP f := by
  intro k
  induction k with
  | zero => intro _; simp [evRow]
  | succ k ih =>
    intro hk
    obtain ⟨x, hx⟩ := get_of_lt (xs := r) (k := k) hk
    rw [evRow_succ hx, List.countP_append, ih (by omega), List.take_add_one, hx, List.countP_append, hG]
    simp [List.countP_cons]
theorem evTo_count (G : Ev → Bool) (f : Ins → Bool) (hG : ∀ (t i : Nat) (x : Ins), (evOf t i x).countP G = if f x = true then 1 else 0) (p : List (List Ins)) : ∀ j, j ≤ p.length → (evTo p j).countP G = cnt f (p.take j) := by
  intro j
  induction j with
  | zero => intro _; simp [evTo, cnt]
  | succ j ih =>
    intro hj
    obtain ⟨r, hr⟩ := get_of_lt (xs := p) (k := j) hj
    have h := evRow_count G f hG j r r.length (Nat.le_refl _)
    rw [List.take_length] at h
    rw [evTo_succ hr, List.countP_append, ih (by omega), cnt_take_succ f hr, h]
theorem evOf_r (l : Int) (t i : Nat) (x : Ins) : (evOf t i x).countP (rAt l) = if fR l x = true then 1 else 0 := by
  unfold evOf fR
  by_cases h : x.op = 4
  · rw [if_pos h]; simp [isRop, h]
  · rw [if_neg h]; simp [List.countP_cons, rAt, Bool.and_comm]
theorem evOf_w (l : Int) (t i : Nat) (x : Ins) : (evOf t i x).countP (wAt l) = if fW l x = true then 1 else 0 := by
  unfold evOf fW
  by_cases h : x.op = 4
  · rw [if_pos h]; simp [isWop, h]
  · rw [if_neg h]; simp [List.countP_cons, wAt, Bool.and_comm]
theorem evAll_r (p : List (List Ins)) (l : Int) : (evAll p).countP (rAt l) = cnt (fR l) p := by
  unfold evAll
  rw [List.countP_append, evTo_count (rAt l) (fR l) (evOf_r l) p p.length (Nat.le_refl _), List.take_length]
  simp [evHead, List.range_succ, rAt]
theorem evAll_w (p : List (List Ins)) {l : Nat} (hl : l < 3) : (evAll p).countP (wAt l) = cnt (fW l) p + 1 := by
  unfold evAll
  rw [List.countP_append, evTo_count (wAt l) (fW l) (evOf_w l) p p.length (Nat.le_refl _), List.take_length]
  have : l = 0 ∨ l = 1 ∨ l = 2 := by omega
  rcases this with rfl | rfl | rfl <;> simp [evHead, List.range_succ, wAt, Nat.add_comm]

theorem ordsL_length (es : List Ev) (f : Nat → Nat) (hf : ∀ l : Nat, l < 3 → fact (wrL es l).tail.length ≤ f l) : (ordsL es 0).length ≤ f 0 * (f 1 * f 2) ∧ (ordsL es 1).length ≤ f 1 * f 2 ∧ (ordsL es 2).length ≤ f 2 ∧ ordsL es 3 = [[]] := by
  have st : ∀ l : Nat, l < 3 → ∀ b, (ordsL es (l + 1)).length ≤ b → (ordsL es l).length ≤ f l * b := fun l hl b hb => by
    rw [ordsL_step hl]
    have h := flatMap_length_le (fun q => (ordsL es (l + 1)).map (((wrL es l).headD 0 :: q) :: ·)) b (permsL (wrL es l).tail) (fun q _ => by rw [List.length_map]; exact hb)
    have h2 := Nat.le_trans (permsL_length (wrL es l).tail) (hf l hl)
    exact Nat.le_trans h (Nat.mul_le_mul_right _ h2)
  have h3 : (ordsL es 3).length ≤ 1 := Nat.le_refl _
  have h2 := st 2 (by omega) 1 h3
  rw [Nat.mul_one] at h2
  have h1 := st 1 (by omega) _ h2
  have h0 := st 0 (by omega) _ h1
  exact ⟨h0, h1, h2, rfl⟩
theorem allTo_succ {fs : List (List Int)} (os : List (List (List Int))) {k : Nat} {f : List Int} (h : fs[k]? = some f) : allTo fs os (k + 1) = allTo fs os k ++ os.map (⟨f, ·⟩) := by
  unfold allTo; exact flatMap_take_succ _ h

structure Few (p : List (List Ins)) : Prop where
  froms : ∀ i, (fromsL (evAll p) i).length ≤ 3000
  ords : ∀ l, (ordsL (evAll p) l).length ≤ 3000
  perms : ∀ l : Nat, l < 3 → fact (wrL (evAll p) l).tail.length ≤ 3000
  all : (fromsL (evAll p) 0).length * (ordsL (evAll p) 0).length ≤ 3000
theorem insValid_loc {x : Ins} (h : insValid x = true) : x.loc = 0 ∨ x.loc = 1 ∨ x.loc = 2 := by
  unfold insValid inB at h
  split at h
  · simp at h; omega
  · split at h
    · simp at h; omega
    · split at h
      · simp at h; omega
      · split at h
        · simp at h; omega
        · cases h
theorem few {p : List (List Ins)} (h : progValid p = true) : Few p := by
  have hv := valid_le h
  unfold progValid at h
  simp only [Bool.and_eq_true, decide_eq_true_eq] at h
  have hP := h.2
  have hloc : ∀ e ∈ evAll p, e.r = true → e.l = 0 ∨ e.l = 1 ∨ e.l = 2 := fun e he hr => by
    obtain ⟨k, hk⟩ := List.mem_iff_getElem?.1 he
    obtain ⟨t', i', r, h1, -⟩ := ev_read (p := p) hk hr
    rcases ev_cases hk with h2 | ⟨t2, i2, r2, -, -, h5, h6, -, -, h9⟩
    · omega
    · rw [h9]; exact insValid_loc ((hv.2.2.1 r2 (List.mem_of_getElem? h5)).2 _ (List.mem_of_getElem? h6))
  have hc : ∀ l : Nat, l < 3 → (wrL (evAll p) l).length = cnt (fW l) p + 1 := fun l hl => by rw [wrL_count, evAll_w p hl]
  have hpos : ∀ e ∈ evAll p, 1 ≤ facE (evAll p) e := facE_pos fun e he hr => by
    rcases hloc e he hr with hl | hl | hl
    · rw [hl]; have := hc 0 (by omega); simp at this; omega
    · rw [hl]; have := hc 1 (by omega); simp at this; omega
    · rw [hl]; have := hc 2 (by omega); simp at this; omega
  have hA := prodL_eq (fun l => (wrL (evAll p) l).length) (evAll p) hloc
  have hA2 : prodL (facE (evAll p)) (evAll p) = (cnt (fW (0 : Nat)) p + 1) ^ cnt (fR (0 : Nat)) p * (cnt (fW (1 : Nat)) p + 1) ^ cnt (fR (1 : Nat)) p * (cnt (fW (2 : Nat)) p + 1) ^ cnt (fR (2 : Nat)) p := by
    refine Eq.trans hA ?_
    rw [← hc 0 (by omega), ← hc 1 (by omega), ← hc 2 (by omega), ← evAll_r, ← evAll_r, ← evAll_r]
    rfl
  have ht : ∀ l : Nat, l < 3 → fact (wrL (evAll p) l).tail.length ≤ fact (cnt (fW l) p) := fun l hl => by
    rw [List.length_tail, hc l hl]; exact Nat.le_refl _
  have t0 := ht 0 (by omega); have t1 := ht 1 (by omega); have t2 := ht 2 (by omega)
  obtain ⟨o0, o1, o2, o3⟩ := ordsL_length (evAll p) (fun l => fact (cnt (fW l) p)) ht
  have hfr : ∀ i, (fromsL (evAll p) i).length ≤ prodL (facE (evAll p)) (evAll p) := fun i => by
    by_cases hi : i ≤ (evAll p).length
    · exact Nat.le_trans (fromsL_length ((evAll p).length - i) i (by omega)) (prodL_drop hpos i)
    · unfold fromsL
      rw [show (evAll p).length - i = 0 by omega]
      exact prodL_pos hpos
  generalize prodL (facE (evAll p)) (evAll p) = A at *
  have f0 := fact_pos (cnt (fW (0 : Nat)) p); have f1 := fact_pos (cnt (fW (1 : Nat)) p); have f2 := fact_pos (cnt (fW (2 : Nat)) p)
  have hA1 : 1 ≤ A := by rw [hA2]; exact Nat.mul_pos (Nat.mul_pos (Nat.pow_pos (by omega)) (Nat.pow_pos (by omega))) (Nat.pow_pos (by omega))
  have hPe : A * (fact (cnt (fW (0 : Nat)) p) * (fact (cnt (fW (1 : Nat)) p) * fact (cnt (fW (2 : Nat)) p))) ≤ 3000 := by
    refine Nat.le_trans (Nat.le_of_eq ?_) hP
    rw [hA2]
    simp only [prodP, prodTo, pl]
    simp only [Nat.one_mul]
    ac_rfl
  clear hA hA2 hP hpos hloc hv hc h ht
  generalize fact (cnt (fW (0 : Nat)) p) = F0 at *
  generalize fact (cnt (fW (1 : Nat)) p) = F1 at *
  generalize fact (cnt (fW (2 : Nat)) p) = F2 at *
  have h12 : F1 * F2 ≤ F0 * (F1 * F2) := Nat.le_mul_of_pos_left _ f0
  have h2 : F2 ≤ F1 * F2 := Nat.le_mul_of_pos_left _ f1
  have h1 : F1 ≤ F1 * F2 := Nat.le_mul_of_pos_right _ f2
  have h0 : F0 ≤ F0 * (F1 * F2) := Nat.le_mul_of_pos_right _ (Nat.mul_pos f1 f2)
  have hB1 : 1 ≤ F0 * (F1 * F2) := Nat.mul_pos f0 (Nat.mul_pos f1 f2)
  have hB : F0 * (F1 * F2) ≤ A * (F0 * (F1 * F2)) := Nat.le_mul_of_pos_left _ hA1
  have hAB : A ≤ A * (F0 * (F1 * F2)) := Nat.le_mul_of_pos_right _ hB1
  refine ⟨fun i => Nat.le_trans (hfr i) (by omega), fun l => ?_, fun l hl => ?_, ?_⟩
  · have hl : l = 0 ∨ l = 1 ∨ l = 2 ∨ 3 ≤ l := by omega
    rcases hl with rfl | rfl | rfl | hl
    · omega
    · omega
    · omega
    · unfold ordsL; rw [show 3 - l = 0 by omega]; show 1 ≤ 3000; omega
  · have hl' : l = 0 ∨ l = 1 ∨ l = 2 := by omega
    rcases hl' with rfl | rfl | rfl
    · exact Nat.le_trans t0 (by omega)
    · exact Nat.le_trans t1 (by omega)
    · exact Nat.le_trans t2 (by omega)
  · exact Nat.le_trans (Nat.mul_le_mul (hfr 0) o0) hPe

end Go.Proofs.Ytblheabgjjeigaa
