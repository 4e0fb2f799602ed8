/-
  Plain: the values that the writes of a candidate have.
-/
import Derived.Test.YtpnmphfdfadlcaaV2
import Derived.Test.YtpnmphfdfadlcaaE4
namespace Go.Proofs.Ytpnmphfdfadlcaa

/-- The instruction of an event. -/
def insE (p : List (List Ins)) (e : Ev) : Ins := ((p[e.t.toNat]?).bind fun r => r[e.i.toNat]?).getD ⟨0, 0, 0, 0⟩
/-- Whether an event of a thread, ahead of an index, reads into a register. -/
def hitR (p : List (List Ins)) (t idx reg : Int) (e : Ev) : Bool := (e.t == t) && (decide (e.i < idx) && (e.r && ((insE p e).reg == reg)))
def lastTo (p : List (List Ins)) (es : List Ev) (t idx reg : Int) (k : Nat) : Int := (List.range k).foldl (fun (a : Int) (i : Nat) => match es[i]? with
  | some e => if hitR p t idx reg e = true then (i : Int) else a
  | none => a) (-1)
/-- The last such event, or -1. -/
def lastRd (p : List (List Ins)) (es : List Ev) (t idx reg : Int) : Int := lastTo p es t idx reg es.length
theorem lastTo_succ (p : List (List Ins)) {es : List Ev} (t idx reg : Int) {k : Nat} {e : Ev} (h : es[k]? = some e) :
    lastTo p es t idx reg (k + 1) = if hitR p t idx reg e = true then (k : Int) else lastTo p es t idx reg k := by
  unfold lastTo
  rw [List.range_succ, List.foldl_append]
  simp [h]
theorem lastTo_cases (p : List (List Ins)) (es : List Ev) (t idx reg : Int) : ∀ k, k ≤ es.length → lastTo p es t idx reg k = -1 ∨ ∃ (i : Nat) (e : Ev), lastTo p es t idx reg k = i ∧ i < k ∧ es[i]? = some e ∧ hitR p t idx reg e = true := by
  intro k
  induction k with
  | zero => intro _; exact .inl rfl
  | succ k ih =>
    intro hk
    obtain ⟨e, he⟩ := get_of_lt (xs := es) (k := k) hk
    rw [lastTo_succ p t idx reg he]
    by_cases hh : hitR p t idx reg e = true
    · rw [if_pos hh]; exact .inr ⟨k, e, rfl, by omega, he, hh⟩
    · rw [if_neg hh]
      rcases ih (by omega) with h | ⟨i, e', h1, h2, h3⟩
      · exact .inl h
      · exact .inr ⟨i, e', h1, by omega, h3⟩

/-- What the value of an event is, or from which event it comes. -/
def depV (p : List (List Ins)) (es : List Ev) (fr : List Int) (i : Nat) : Int ⊕ Nat :=
  match es[i]? with
  | none => .inl 0
  | some e => if e.t < 0 then .inl 0 else if (insE p e).op = 3 then (if lastRd p es e.t e.i (insE p e).reg < 0 then .inl 0 else .inr ((fr[(lastRd p es e.t e.i (insE p e).reg).toNat]?).getD 0).toNat) else .inl (insE p e).val

theorem insE_of {p : List (List Ins)} {e : Ev} {t i : Nat} {r : List Ins} {x : Ins} (h1 : p[t]? = some r) (h2 : r[i]? = some x) (ht : e.t = t) (hi : e.i = i) : insE p e = x := by
  unfold insE
  rw [ht, hi]; simp [h1, h2]
/-- An event of a program is a first write, or of an instruction. -/
theorem ev_cases {p : List (List Ins)} {k : Nat} {e : Ev} (h : (evAll p)[k]? = some e) : (e.t = -1) ∨ ∃ (t i : Nat) (r : List Ins), e.t = t ∧ e.i = i ∧ p[t]? = some r ∧ r[i]? = some (insE p e) ∧ e.r = isRop (insE p e).op ∧ e.w = isWop (insE p e).op ∧ e.l = (insE p e).loc := by
  rcases mem_evAll (List.mem_of_getElem? h) with h | ⟨t, i, r, x, h1, h2, h3, -⟩
  · exact .inl h
  · have e1 : insE p e = x := insE_of h1 h2 (by rw [h3]) (by rw [h3])
    exact .inr ⟨t, i, r, by rw [h3], by rw [h3], h1, by rw [e1]; exact h2, by rw [e1, h3], by rw [e1, h3], by rw [e1, h3]⟩

theorem insValid_val {x : Ins} (h : insValid x = true) : 0 ≤ x.val ∧ x.val ≤ 3 := by
  unfold insValid inB at h
  split at h
  · simp at h; omega
  · split at h
    · simp at h; omega
    · split at h
      · simp at h; omega
      · split at h
        · simp at h; omega
        · cases h

theorem dep_val {p : List (List Ins)} {fr : List Int} (hp : progValid p = true) {i : Nat} {v : Int} (h : depV p (evAll p) fr i = .inl v) : 0 ≤ v ∧ v ≤ 3 := by
  unfold depV at h
  split at h
  · simp at h; omega
  · rename_i e he
    split at h
    · simp at h; omega
    · split at h
      · split at h
        · simp at h; omega
        · simp at h
      · simp at h; subst h
        rename_i h0 _
        rcases ev_cases he with h1 | ⟨t, k, r, -, -, h1, h2, -⟩
        · omega
        · exact insValid_val (((valid_le hp).2.2.1 r (List.mem_of_getElem? h1)).2 _ (List.mem_of_getElem? h2))

/-- What a read reads from is a write. -/
theorem from_write {es : List Ev} {fr : List Int} {k : Nat} (h : fromsOk es fr es.length = true) {e : Ev} (he : es[k]? = some e) (hr : e.r = true) : ∃ (j : Nat) (e' : Ev), fr[k]? = some (j : Int) ∧ es[j]? = some e' ∧ e'.w = true ∧ e'.l = e.l ∧ j ≠ k := by
  obtain ⟨e2, f, h1, h2, h3⟩ := fromsOk_get h (List.getElem?_eq_some_iff.1 he).1
  rw [he] at h1; simp at h1; subst h1
  unfold fromOk at h3
  rw [if_pos hr] at h3
  simp at h3
  obtain ⟨i, e', h4, h5, h6, h7, h8⟩ := mem_wrL.1 h3.2
  subst h5
  exact ⟨i, e', h2, h6, h7, h8, fun e => h3.1 (by rw [e])⟩
theorem dep_inr {p : List (List Ins)} {es : List Ev} {fr : List Int} (h : fromsOk es fr es.length = true) {i j : Nat} (hd : depV p es fr i = .inr j) : ∃ e', es[j]? = some e' ∧ e'.w = true := by
  unfold depV at hd
  split at hd
  · cases hd
  · rename_i e he
    split at hd
    · cases hd
    · split at hd
      · split at hd
        · cases hd
        · rename_i h1 h2 h3
          rcases lastTo_cases p es e.t e.i (insE p e).reg es.length (Nat.le_refl _) with h4 | ⟨r, e2, h4, h5, h6, h7⟩
          · exfalso; exact h3 (by unfold lastRd; omega)
          · have h4' : lastRd p es e.t e.i (insE p e).reg = r := h4
            rw [h4'] at hd
            have hrr : e2.r = true := by unfold hitR at h7; simp at h7; exact h7.2.2.1
            obtain ⟨j2, e', h8, h9, h10, -⟩ := from_write h h6 hrr
            simp [h8] at hd
            subst hd
            exact ⟨e', h9, h10⟩
      · cases hd
theorem dep_lt {p : List (List Ins)} {es : List Ev} {fr : List Int} (h : fromsOk es fr es.length = true) (i j : Nat) (_ : i < es.length) (hd : depV p es fr i = .inr j) : j < es.length := by
  obtain ⟨e', h1, -⟩ := dep_inr h hd
  exact (List.getElem?_eq_some_iff.1 h1).1
theorem chain_val {d : Nat → Int ⊕ Nat} (hd : ∀ i v, d i = .inl v → 0 ≤ v ∧ v ≤ 3) : ∀ {k i : Nat} {v : Int}, chain d k i = some v → 0 ≤ v ∧ v ≤ 3 := by
  intro k
  induction k with
  | zero => intro i v h; simp [chain] at h
  | succ k ih =>
    intro i v h
    rcases he : d i with a | j
    · rw [chain_inl he] at h; simp at h; subst h; exact hd i _ he
    · rw [chain_inr he] at h; exact ih h

/-- The value of one event, if it is known. -/
def val1 (c : Nat → Option Int) (i : Nat) (e : Ev) : Int := if e.w = true then (c i).getD (-1) else -1
def valTo (es : List Ev) (c : Nat → Option Int) (k : Nat) : List Int := (List.range k).flatMap fun i => match es[i]? with
  | some e => [val1 c i e]
  | none => []
def okTo (es : List Ev) (c : Nat → Option Int) (k : Nat) : Bool := (List.range k).all fun i => match es[i]? with
  | some e => !e.w || (c i).isSome
  | none => true
theorem valTo_succ {es : List Ev} (c : Nat → Option Int) {k : Nat} {e : Ev} (h : es[k]? = some e) : valTo es c (k + 1) = valTo es c k ++ [val1 c k e] := by
  unfold valTo
  rw [List.range_succ, List.flatMap_append]
  simp [h]
theorem okTo_succ {es : List Ev} (c : Nat → Option Int) {k : Nat} {e : Ev} (h : es[k]? = some e) : okTo es c (k + 1) = (okTo es c k && (!e.w || (c k).isSome)) := by
  unfold okTo
  rw [List.range_succ, List.all_append]
  simp [h]
theorem okTo_no {es : List Ev} (c : Nat → Option Int) {k : Nat} {e : Ev} (h : es[k]? = some e) (hw : e.w = true) (hc : c k = none) : okTo es c es.length = false := by
  unfold okTo
  rw [List.all_eq_false]
  exact ⟨k, List.mem_range.2 (List.getElem?_eq_some_iff.1 h).1, by simp [h, hw, hc]⟩
theorem valTo_length (es : List Ev) (c : Nat → Option Int) : ∀ k, k ≤ es.length → (valTo es c k).length = k := by
  intro k
  induction k with
  | zero => intro _; rfl
  | succ k ih =>
    intro hk
    obtain ⟨e, he⟩ := get_of_lt (xs := es) (k := k) hk
    rw [valTo_succ c he, List.length_append, ih (by omega)]; rfl
theorem valTo_get {es : List Ev} (c : Nat → Option Int) {i : Nat} {e : Ev} : ∀ {k : Nat}, i < k → k ≤ es.length → es[i]? = some e → (valTo es c k)[i]? = some (val1 c i e) := by
  intro k
  induction k with
  | zero => intro h; omega
  | succ k ih =>
    intro hi hk he
    obtain ⟨e', he'⟩ := get_of_lt (xs := es) (k := k) hk
    rw [valTo_succ c he']
    by_cases e2 : i = k
    · subst e2
      rw [he] at he'; simp at he'; subst he'
      rw [List.getElem?_append_right (by rw [valTo_length es c i (by omega)]; exact Nat.le_refl _), valTo_length es c i (by omega)]; simp
    · rw [List.getElem?_append_left (by rw [valTo_length es c k (by omega)]; omega)]
      exact ih (by omega) (by omega) he

/-- The values of a candidate: the link of each event, the chain's end. -/
def cX (p : List (List Ins)) (fr : List Int) : Nat → Option Int := chain (depV p (evAll p) fr) (evAll p).length
def valsL (p : List (List Ins)) (fr : List Int) : List Int := valTo (evAll p) (cX p fr) (evAll p).length
def valsOk (p : List (List Ins)) (fr : List Int) : Bool := okTo (evAll p) (cX p fr) (evAll p).length
/-- What ValuesOf hands back. -/
def valF (p : List (List Ins)) (x : Xc) : List Int × Bool := if execOk p x = true ∧ valsOk p x.fr = true then (valsL p x.fr, true) else ([], false)

theorem valF_le (p : List (List Ins)) (x : Xc) : (valF p x).1.length ≤ 15 := by
  unfold valF
  split
  · rename_i h
    have h2 := h.1
    unfold execOk at h2
    simp only [Bool.and_eq_true] at h2
    simp only [valsL]
    rw [valTo_length _ _ _ (Nat.le_refl _)]
    exact evAll_le h2.1
  · simp

/-- What the reference knows in the midst of a round. -/
structure KInv (d : Nat → Int ⊕ Nat) (es : List Ev) (r i : Nat) (K : List Int) : Prop where
  len : K.length = es.length
  at_ : ∀ (t : Nat) (e : Ev), es[t]? = some e → ∃ v, K[t]? = some v ∧ (v = -1 ∨ (e.w = true ∧ chain d es.length t = some v)) ∧ (e.w = true → (chain d (if t < i then r + 1 else r) t).isSome = true → v ≠ -1)

theorem KInv.start (d : Nat → Int ⊕ Nat) (es : List Ev) : KInv d es 0 0 (List.replicate es.length (-1)) := by
  refine ⟨by simp, fun t e h => ⟨-1, ?_, .inl rfl, fun _ h2 => ?_⟩⟩
  · rw [List.getElem?_replicate, if_pos (List.getElem?_eq_some_iff.1 h).1]
  · simp [chain] at h2
theorem KInv.next {d : Nat → Int ⊕ Nat} {es : List Ev} {r i : Nat} {K : List Int} (h : KInv d es r i K) (hi : i = es.length) : KInv d es (r + 1) 0 K := by
  refine ⟨h.len, fun t e he => ?_⟩
  obtain ⟨v, h1, h2, h3⟩ := h.at_ t e he
  refine ⟨v, h1, h2, fun hw hs => h3 hw ?_⟩
  rw [if_pos (by rw [hi]; exact (List.getElem?_eq_some_iff.1 he).1)]
  rw [if_neg (by omega)] at hs
  exact hs
theorem KInv.skip {d : Nat → Int ⊕ Nat} {es : List Ev} {r i : Nat} {K : List Int} (h : KInv d es r i K) {e : Ev} (he : es[i]? = some e) (hw : e.w = false) : KInv d es r (i + 1) K := by
  refine ⟨h.len, fun t e2 he2 => ?_⟩
  obtain ⟨v, h1, h2, h3⟩ := h.at_ t e2 he2
  refine ⟨v, h1, h2, fun hw2 hs => ?_⟩
  by_cases ht : t = i
  · subst ht; rw [he] at he2; simp at he2; subst he2; rw [hw] at hw2; cases hw2
  · refine h3 hw2 ?_
    by_cases hlt : t < i
    · rw [if_pos hlt]; rw [if_pos (by omega)] at hs; exact hs
    · rw [if_neg hlt]; rw [if_neg (by omega)] at hs; exact hs
/-- What the reference's step writes. -/
def linkV (d : Nat → Int ⊕ Nat) (K : List Int) (i : Nat) : Int := match d i with
  | .inl v => v
  | .inr j => (K[j]?).getD (-1)
theorem KInv.step {d : Nat → Int ⊕ Nat} {es : List Ev} {r i : Nat} {K : List Int} (h : KInv d es r i K) {e : Ev} (he : es[i]? = some e) (hw : e.w = true) (hlt : ∀ i j, i < es.length → d i = .inr j → j < es.length)
    (hj : ∀ j, d i = .inr j → ∃ e', es[j]? = some e' ∧ e'.w = true) (hv : ∀ i v, d i = .inl v → 0 ≤ v ∧ v ≤ 3) : KInv d es r (i + 1) (K.set i (linkV d K i)) := by
  have hil := (List.getElem?_eq_some_iff.1 he).1
  refine ⟨by simp [h.len], fun t e2 he2 => ?_⟩
  by_cases ht : t = i
  · subst ht
    rw [he] at he2; simp at he2; subst he2
    refine ⟨linkV d K t, by rw [List.getElem?_set, if_pos rfl, if_pos (by rw [h.len]; exact hil)], ?_, fun _ hs => ?_⟩
    · unfold linkV
      rcases hd : d t with v | j
      · exact .inr ⟨hw, chain_end hil hd⟩
      · obtain ⟨e', h1, h2⟩ := hj j hd
        obtain ⟨u, h3, h4, -⟩ := h.at_ j e' h1
        simp only [h3, Option.getD_some]
        rcases h4 with h4 | ⟨-, h4⟩
        · exact .inl h4
        · exact .inr ⟨hw, by rw [chain_next hlt hil hd]; exact h4⟩
    · rw [if_pos (by omega)] at hs
      unfold linkV
      rcases hd : d t with v | j
      · have := hv t v hd; simp only; omega
      · obtain ⟨e', h1, h2⟩ := hj j hd
        obtain ⟨u, h3, -, h5⟩ := h.at_ j e' h1
        simp only [h3, Option.getD_some]
        refine h5 h2 ?_
        rw [chain_inr hd] at hs
        obtain ⟨u2, hu⟩ := Option.isSome_iff_exists.1 hs
        rw [chain_mono hu (k' := if j < t then r + 1 else r) (by split <;> omega)]; rfl
  · obtain ⟨v, h1, h2, h3⟩ := h.at_ t e2 he2
    refine ⟨v, by rw [List.getElem?_set, if_neg (fun e => ht e.symm)]; exact h1, h2, fun hw2 hs => h3 hw2 ?_⟩
    by_cases hlt2 : t < i
    · rw [if_pos hlt2]; rw [if_pos (by omega)] at hs; exact hs
    · rw [if_neg hlt2]; rw [if_neg (by omega)] at hs; exact hs
/-- After as many rounds as there are events all is known that can be. -/
theorem KInv.done {d : Nat → Int ⊕ Nat} {es : List Ev} {r : Nat} {K : List Int} (h : KInv d es r 0 K) (hr : r = es.length) : K = valTo es (chain d es.length) es.length := by
  subst hr
  apply List.ext_getElem?
  intro t
  by_cases ht : t < es.length
  · obtain ⟨e, he⟩ := get_of_lt (xs := es) (k := t) ht
    obtain ⟨v, h1, h2, h3⟩ := h.at_ t e he
    rw [valTo_get _ ht (Nat.le_refl _) he, h1]
    congr 1
    unfold val1
    rw [if_neg (by omega)] at h3
    by_cases hw : e.w = true
    · rw [if_pos hw]
      rcases h2 with rfl | ⟨-, h2⟩
      · cases hc : chain d es.length t with
        | none => rfl
        | some u => exact absurd rfl (h3 hw (by rw [hc]; rfl))
      · rw [h2]; rfl
    · rw [if_neg hw]
      rcases h2 with h2 | ⟨h2, -⟩
      · exact h2
      · exact absurd h2 hw
  · rw [List.getElem?_eq_none (by rw [h.len]; omega), List.getElem?_eq_none (by rw [valTo_length _ _ _ (Nat.le_refl _)]; omega)]

end Go.Proofs.Ytpnmphfdfadlcaa
