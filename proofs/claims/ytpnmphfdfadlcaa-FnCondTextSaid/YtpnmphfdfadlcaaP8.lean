/-
  Plain: texts of valid conditions tell the conditions.
-/
import Derived.Test.YtpnmphfdfadlcaaT7
namespace Go.Proofs.Ytpnmphfdfadlcaa

theorem textF_1 (d : Nat) (t p x : Int) (ks : List Cd) : textF (d + 1) (.mk 1 t p x ks) = [48 + t, 97 + p, 61, 48 + x] := by simp [textF, Cd.op, Cd.th, Cd.pl, Cd.val]
theorem textF_2 (d : Nat) (t p x : Int) (ks : List Cd) : textF (d + 1) (.mk 2 t p x ks) = [120 + p, 61, 48 + x] := by simp [textF, Cd.op, Cd.pl, Cd.val]
theorem textF_3 (d : Nat) (t p x : Int) (k0 k1 : Cd) : textF (d + 1) (.mk 3 t p x [k0, k1]) = 40 :: (textF d k0 ++ 38 :: (textF d k1 ++ [41])) := by simp [textF, Cd.op, Cd.kid, Cd.kids]
theorem textF_4 (d : Nat) (t p x : Int) (k0 k1 : Cd) : textF (d + 1) (.mk 4 t p x [k0, k1]) = 40 :: (textF d k0 ++ 124 :: (textF d k1 ++ [41])) := by simp [textF, Cd.op, Cd.kid, Cd.kids]
theorem textF_5 (d : Nat) (t p x : Int) (k0 : Cd) : textF (d + 1) (.mk 5 t p x [k0]) = 126 :: textF d k0 := by simp [textF, Cd.op, Cd.kid, Cd.kids]

theorem len2 {ks : List Cd} (h : ks.length = 2) : ∃ a b, ks = [a, b] := by
  match ks, h with
  | [a, b], _ => exact ⟨a, b, rfl⟩
theorem len1 {ks : List Cd} (h : ks.length = 1) : ∃ a, ks = [a] := by
  match ks, h with
  | [a], _ => exact ⟨a, rfl⟩

theorem text_inj : ∀ (d d' : Nat) (c c' : Cd) (u u' : List Int), shapeF d c = true → shapeF d' c' = true → textF d c ++ u = textF d' c' ++ u' → c = c' ∧ u = u' := by
  intro d
  induction d with
  | zero => intro d' c c' u u' h; simp [shapeF] at h
  | succ d ih =>
    intro d' c c' u u' h h' he
    cases d' with
    | zero => simp [shapeF] at h'
    | succ d' =>
      rw [shapeF_succ] at h h'
      obtain ⟨hn, hk⟩ := h
      obtain ⟨hn', hk'⟩ := h'
      cases c with
      | mk o t p x ks =>
        cases c' with
        | mk o' t' p' x' ks' =>
          replace hn : nodeR o t p x ks.length = true := hn
          replace hn' : nodeR o' t' p' x' ks'.length = true := hn'
          replace hk : ∀ k ∈ ks, shapeF d k = true := hk
          replace hk' : ∀ k ∈ ks', shapeF d' k = true := hk'
          rcases nodeR_cases hn with ⟨rfl, a1, a2, a3, a4, a5, a6, hl⟩ | ⟨rfl, a3, a4, a5, a6, hl, rfl⟩ | ⟨rfl, hl, rfl, rfl, rfl⟩ | ⟨rfl, hl, rfl, rfl, rfl⟩ | ⟨rfl, hl, rfl, rfl, rfl⟩
          · obtain rfl : ks = [] := List.eq_nil_of_length_eq_zero hl
            rcases nodeR_cases hn' with ⟨rfl, a1', a2', a3', a4', a5', a6', hl'⟩ | ⟨rfl, a3', a4', a5', a6', hl', rfl⟩ | ⟨rfl, hl', rfl, rfl, rfl⟩ | ⟨rfl, hl', rfl, rfl, rfl⟩ | ⟨rfl, hl', rfl, rfl, rfl⟩
            · obtain rfl : ks' = [] := List.eq_nil_of_length_eq_zero hl'
              rw [textF_1, textF_1] at he
              simp only [List.cons_append, List.nil_append, List.cons.injEq] at he
              obtain ⟨e1, e2, -, e3, e4⟩ := he
              obtain rfl : t = t' := by omega
              obtain rfl : p = p' := by omega
              obtain rfl : x = x' := by omega
              exact ⟨rfl, e4⟩
            · obtain rfl : ks' = [] := List.eq_nil_of_length_eq_zero hl'
              rw [textF_1, textF_2] at he
              simp only [List.cons_append, List.cons.injEq] at he
              have := he.1; omega
            · obtain ⟨k0', k1', rfl⟩ := len2 hl'
              rw [textF_1, textF_3] at he
              simp only [List.cons_append, List.cons.injEq] at he
              have := he.1; omega
            · obtain ⟨k0', k1', rfl⟩ := len2 hl'
              rw [textF_1, textF_4] at he
              simp only [List.cons_append, List.cons.injEq] at he
              have := he.1; omega
            · obtain ⟨k0', rfl⟩ := len1 hl'
              rw [textF_1, textF_5] at he
              simp only [List.cons_append, List.cons.injEq] at he
              have := he.1; omega
          · obtain rfl : ks = [] := List.eq_nil_of_length_eq_zero hl
            rcases nodeR_cases hn' with ⟨rfl, a1', a2', a3', a4', a5', a6', hl'⟩ | ⟨rfl, a3', a4', a5', a6', hl', rfl⟩ | ⟨rfl, hl', rfl, rfl, rfl⟩ | ⟨rfl, hl', rfl, rfl, rfl⟩ | ⟨rfl, hl', rfl, rfl, rfl⟩
            · obtain rfl : ks' = [] := List.eq_nil_of_length_eq_zero hl'
              rw [textF_2, textF_1] at he
              simp only [List.cons_append, List.cons.injEq] at he
              have := he.1; omega
            · obtain rfl : ks' = [] := List.eq_nil_of_length_eq_zero hl'
              rw [textF_2, textF_2] at he
              simp only [List.cons_append, List.nil_append, List.cons.injEq] at he
              obtain ⟨e2, -, e3, e4⟩ := he
              obtain rfl : p = p' := by omega
              obtain rfl : x = x' := by omega
              exact ⟨rfl, e4⟩
            · obtain ⟨k0', k1', rfl⟩ := len2 hl'
              rw [textF_2, textF_3] at he
              simp only [List.cons_append, List.cons.injEq] at he
              have := he.1; omega
            · obtain ⟨k0', k1', rfl⟩ := len2 hl'
              rw [textF_2, textF_4] at he
              simp only [List.cons_append, List.cons.injEq] at he
              have := he.1; omega
            · obtain ⟨k0', rfl⟩ := len1 hl'
              rw [textF_2, textF_5] at he
              simp only [List.cons_append, List.cons.injEq] at he
              have := he.1; omega
          · obtain ⟨k0, k1, rfl⟩ := len2 hl
            rcases nodeR_cases hn' with ⟨rfl, a1', a2', a3', a4', a5', a6', hl'⟩ | ⟨rfl, a3', a4', a5', a6', hl', rfl⟩ | ⟨rfl, hl', rfl, rfl, rfl⟩ | ⟨rfl, hl', rfl, rfl, rfl⟩ | ⟨rfl, hl', rfl, rfl, rfl⟩
            · obtain rfl : ks' = [] := List.eq_nil_of_length_eq_zero hl'
              rw [textF_3, textF_1] at he
              simp only [List.cons_append, List.cons.injEq] at he
              have := he.1; omega
            · obtain rfl : ks' = [] := List.eq_nil_of_length_eq_zero hl'
              rw [textF_3, textF_2] at he
              simp only [List.cons_append, List.cons.injEq] at he
              have := he.1; omega
            · obtain ⟨k0', k1', rfl⟩ := len2 hl'
              rw [textF_3, textF_3] at he
              simp only [List.cons_append, List.append_assoc, List.nil_append, List.cons.injEq, true_and] at he
              obtain ⟨rfl, e1⟩ := ih d' k0 k0' _ _ (hk _ (by simp)) (hk' _ (by simp)) he
              simp only [List.cons.injEq, true_and] at e1
              obtain ⟨rfl, e2⟩ := ih d' k1 k1' _ _ (hk _ (by simp)) (hk' _ (by simp)) e1
              simp only [List.cons.injEq, true_and] at e2
              exact ⟨rfl, e2⟩
            · obtain ⟨k0', k1', rfl⟩ := len2 hl'
              rw [textF_3, textF_4] at he
              simp only [List.cons_append, List.append_assoc, List.nil_append, List.cons.injEq, true_and] at he
              obtain ⟨-, e1⟩ := ih d' k0 k0' _ _ (hk _ (by simp)) (hk' _ (by simp)) he
              simp at e1
            · obtain ⟨k0', rfl⟩ := len1 hl'
              rw [textF_3, textF_5] at he
              simp only [List.cons_append, List.cons.injEq] at he
              have := he.1; omega
          · obtain ⟨k0, k1, rfl⟩ := len2 hl
            rcases nodeR_cases hn' with ⟨rfl, a1', a2', a3', a4', a5', a6', hl'⟩ | ⟨rfl, a3', a4', a5', a6', hl', rfl⟩ | ⟨rfl, hl', rfl, rfl, rfl⟩ | ⟨rfl, hl', rfl, rfl, rfl⟩ | ⟨rfl, hl', rfl, rfl, rfl⟩
            · obtain rfl : ks' = [] := List.eq_nil_of_length_eq_zero hl'
              rw [textF_4, textF_1] at he
              simp only [List.cons_append, List.cons.injEq] at he
              have := he.1; omega
            · obtain rfl : ks' = [] := List.eq_nil_of_length_eq_zero hl'
              rw [textF_4, textF_2] at he
              simp only [List.cons_append, List.cons.injEq] at he
              have := he.1; omega
            · obtain ⟨k0', k1', rfl⟩ := len2 hl'
              rw [textF_4, textF_3] at he
              simp only [List.cons_append, List.append_assoc, List.nil_append, List.cons.injEq, true_and] at he
              obtain ⟨-, e1⟩ := ih d' k0 k0' _ _ (hk _ (by simp)) (hk' _ (by simp)) he
              simp at e1
            · obtain ⟨k0', k1', rfl⟩ := len2 hl'
              rw [textF_4, textF_4] at he
              simp only [List.cons_append, List.append_assoc, List.nil_append, List.cons.injEq, true_and] at he
              obtain ⟨rfl, e1⟩ := ih d' k0 k0' _ _ (hk _ (by simp)) (hk' _ (by simp)) he
              simp only [List.cons.injEq, true_and] at e1
              obtain ⟨rfl, e2⟩ := ih d' k1 k1' _ _ (hk _ (by simp)) (hk' _ (by simp)) e1
              simp only [List.cons.injEq, true_and] at e2
              exact ⟨rfl, e2⟩
            · obtain ⟨k0', rfl⟩ := len1 hl'
              rw [textF_4, textF_5] at he
              simp only [List.cons_append, List.cons.injEq] at he
              have := he.1; omega
          · obtain ⟨k0, rfl⟩ := len1 hl
            rcases nodeR_cases hn' with ⟨rfl, a1', a2', a3', a4', a5', a6', hl'⟩ | ⟨rfl, a3', a4', a5', a6', hl', rfl⟩ | ⟨rfl, hl', rfl, rfl, rfl⟩ | ⟨rfl, hl', rfl, rfl, rfl⟩ | ⟨rfl, hl', rfl, rfl, rfl⟩
            · obtain rfl : ks' = [] := List.eq_nil_of_length_eq_zero hl'
              rw [textF_5, textF_1] at he
              simp only [List.cons_append, List.cons.injEq] at he
              have := he.1; omega
            · obtain rfl : ks' = [] := List.eq_nil_of_length_eq_zero hl'
              rw [textF_5, textF_2] at he
              simp only [List.cons_append, List.cons.injEq] at he
              have := he.1; omega
            · obtain ⟨k0', k1', rfl⟩ := len2 hl'
              rw [textF_5, textF_3] at he
              simp only [List.cons_append, List.cons.injEq] at he
              have := he.1; omega
            · obtain ⟨k0', k1', rfl⟩ := len2 hl'
              rw [textF_5, textF_4] at he
              simp only [List.cons_append, List.cons.injEq] at he
              have := he.1; omega
            · obtain ⟨k0', rfl⟩ := len1 hl'
              rw [textF_5, textF_5] at he
              simp only [List.cons_append, List.cons.injEq, true_and] at he
              obtain ⟨rfl, e1⟩ := ih d' k0 k0' _ _ (hk _ (by simp)) (hk' _ (by simp)) he
              exact ⟨rfl, e1⟩

theorem valid_shape {c : Cd} (h : validC c = true) : shapeF 10 c = true := by
  unfold validC at h
  simp only [Bool.and_eq_true] at h
  exact h.1

/-- The bytes of a text, if they are between 0 and 255. -/
theorem strN_inj {a b : List Int} (ha : ∀ x ∈ a, 0 ≤ x ∧ x ≤ 255) (hb : ∀ x ∈ b, 0 ≤ x ∧ x ≤ 255) (h : strOfNums a = strOfNums b) : a = b := by
  have h2 : (a.map fun n => UInt8.ofNat n.toNat) = b.map fun n => UInt8.ofNat n.toNat := by
    have := congrArg (fun s : ByteArray => s.data.toList) h
    simpa [strOfNums] using this
  clear h
  induction a generalizing b with
  | nil => cases b with
    | nil => rfl
    | cons y b => simp at h2
  | cons x a ih => cases b with
    | nil => simp at h2
    | cons y b =>
      simp only [List.map_cons, List.cons.injEq] at h2
      have hx := ha x (List.mem_cons_self ..)
      have hy := hb y (List.mem_cons_self ..)
      have e := congrArg UInt8.toNat h2.1
      rw [UInt8.toNat_ofNat', UInt8.toNat_ofNat'] at e
      obtain rfl : x = y := by
        have e1 : x.toNat % 2 ^ 8 = x.toNat := Nat.mod_eq_of_lt (by omega)
        have e2 : y.toNat % 2 ^ 8 = y.toNat := Nat.mod_eq_of_lt (by omega)
        rw [e1, e2] at e; omega
      rw [ih (fun z hz => ha z (List.mem_cons_of_mem _ hz)) (fun z hz => hb z (List.mem_cons_of_mem _ hz)) h2.2]

theorem text_bytes : ∀ (d : Nat) (c : Cd), shapeF d c = true → ∀ x ∈ textF d c, 0 ≤ x ∧ x ≤ 255 := by
  intro d
  induction d with
  | zero => intro c h; simp [shapeF] at h
  | succ d ih =>
    intro c h
    rw [shapeF_succ] at h
    obtain ⟨hn, hk⟩ := h
    cases c with
    | mk o t p x ks =>
      replace hn : nodeR o t p x ks.length = true := hn
      replace hk : ∀ k ∈ ks, shapeF d k = true := hk
      rcases nodeR_cases hn with ⟨rfl, a1, a2, a3, a4, a5, a6, hl⟩ | ⟨rfl, a3, a4, a5, a6, hl, rfl⟩ | ⟨rfl, hl, rfl, rfl, rfl⟩ | ⟨rfl, hl, rfl, rfl, rfl⟩ | ⟨rfl, hl, rfl, rfl, rfl⟩
      · rw [textF_1]; intro y hy; simp at hy; omega
      · rw [textF_2]; intro y hy; simp at hy; omega
      · obtain ⟨k0, k1, rfl⟩ := len2 hl
        have h0 := ih k0 (hk _ (by simp)); have h1 := ih k1 (hk _ (by simp))
        rw [textF_3]; intro y hy
        simp only [List.mem_cons, List.mem_append, List.not_mem_nil, or_false] at hy
        rcases hy with rfl | hy | rfl | hy | rfl
        · omega
        · exact h0 y hy
        · omega
        · exact h1 y hy
        · omega
      · obtain ⟨k0, k1, rfl⟩ := len2 hl
        have h0 := ih k0 (hk _ (by simp)); have h1 := ih k1 (hk _ (by simp))
        rw [textF_4]; intro y hy
        simp only [List.mem_cons, List.mem_append, List.not_mem_nil, or_false] at hy
        rcases hy with rfl | hy | rfl | hy | rfl
        · omega
        · exact h0 y hy
        · omega
        · exact h1 y hy
        · omega
      · obtain ⟨k0, rfl⟩ := len1 hl
        have h0 := ih k0 (hk _ (by simp))
        rw [textF_5]; intro y hy
        simp only [List.mem_cons] at hy
        rcases hy with rfl | hy
        · omega
        · exact h0 y hy

/-- Valid conditions with one text are one. -/
theorem fmt_inj {c c' : Cd} (h : validC c = true) (h' : validC c' = true) (he : strOfNums (textF 10 c) = strOfNums (textF 10 c')) : c = c' := by
  have e := strN_inj (text_bytes 10 c (valid_shape h)) (text_bytes 10 c' (valid_shape h')) he
  exact (text_inj 10 10 c c' [] [] (valid_shape h) (valid_shape h') (by rw [e])).1

end Go.Proofs.Ytpnmphfdfadlcaa