/-
  Plain: what the program's parser and the reference's parser of conditions compute, and that both read back what was written.
-/
import Derived.Test.YtpnmphfdfadlcaaP8
import Derived.Test.YtpnmphfdfadlcaaT8
namespace Go.Proofs.Ytpnmphfdfadlcaa
open Go.RowKit

def zeroC : Cd := .mk 0 0 0 0 []
def idxOf (l : List UInt8) (c : UInt8) : Int := match l with
  | [] => -1
  | x :: l => if x = c then 0 else if idxOf l c < 0 then -1 else idxOf l c + 1

/-- The next byte. -/
def pB (l : List UInt8) (f : Bool) : UInt8 × List UInt8 × Bool := if f then (0, l, true) else match l with
  | [] => (0, [], true)
  | c :: l => (c, l, false)
def pV (l : List UInt8) (f : Bool) : Int × List UInt8 × Bool :=
  let r1 := pB l f
  let r2 := pB r1.2.1 (if r1.1 = 61 then r1.2.2 else true)
  ((r2.1.toNat : Int) - 48, r2.2.1, r2.2.2)
def pC : Nat → List UInt8 → Bool → Cd × List UInt8 × Bool
  | 0, l, f => (zeroC, l, f)
  | n + 1, l, f =>
    let r1 := pB l f
    if r1.2.2 = true then (zeroC, r1.2.1, true)
    else if r1.1 = 126 then
      let a := pC n r1.2.1 false
      (.mk 5 0 0 0 [a.1], a.2.1, a.2.2)
    else if r1.1 = 40 then
      let a := pC n r1.2.1 false
      let r2 := pB a.2.1 a.2.2
      let b := pC n r2.2.1 r2.2.2
      let r3 := pB b.2.1 b.2.2
      (.mk (if r2.1 = 38 then 3 else 4) 0 0 0 [a.1, b.1], r3.2.1, r3.2.2)
    else if 48 ≤ (r1.1.toNat : Int) ∧ (r1.1.toNat : Int) ≤ 57 then
      let r2 := pB r1.2.1 false
      let r3 := pV r2.2.1 r2.2.2
      (.mk 1 ((r1.1.toNat : Int) - 48) (idxOf [97, 98, 99] r2.1) r3.1 [], r3.2.1, r3.2.2)
    else
      let r3 := pV r1.2.1 false
      (.mk 2 0 (idxOf [120, 121, 122] r1.1) r3.1 [], r3.2.1, r3.2.2)

theorem pB_len (l : List UInt8) (f : Bool) : (pB l f).2.1.length ≤ l.length := by
  unfold pB
  split
  · exact Nat.le_refl _
  · cases l <;> simp
theorem pB_len2 {l : List UInt8} {f : Bool} (h : (pB l f).2.2 = false) : (pB l f).2.1.length + 1 = l.length := by
  unfold pB at h ⊢
  split at h
  · simp at h
  · rename_i hf
    rw [if_neg hf]
    cases l with
    | nil => simp at h
    | cons c l => simp
theorem pV_len (l : List UInt8) (f : Bool) : (pV l f).2.1.length ≤ l.length := by
  unfold pV
  exact Nat.le_trans (pB_len _ _) (pB_len _ _)
theorem pC_len : ∀ (n : Nat) (l : List UInt8) (f : Bool), (pC n l f).2.1.length ≤ l.length := by
  intro n
  induction n with
  | zero => intro l f; exact Nat.le_refl _
  | succ n ih =>
    intro l f
    unfold pC
    have h1 := pB_len l f
    simp only
    split
    · exact h1
    · split
      · exact Nat.le_trans (ih _ _) h1
      · split
        · refine Nat.le_trans (pB_len _ _) (Nat.le_trans (ih _ _) (Nat.le_trans (pB_len _ _) (Nat.le_trans (ih _ _) h1)))
        · split
          · exact Nat.le_trans (pV_len _ _) (Nat.le_trans (pB_len _ _) h1)
          · exact Nat.le_trans (pV_len _ _) h1

def nb (l : List Int) : List UInt8 := l.map fun x => UInt8.ofNat x.toNat
theorem nb_app (a b : List Int) : nb (a ++ b) = nb a ++ nb b := by simp [nb]
theorem nb_len (a : List Int) : (nb a).length = a.length := by simp [nb]
theorem strN_nb (l : List Int) : (strOfNums l).data.toList = nb l := by simp [strOfNums, nb]

theorem pB_cons (c : UInt8) (l : List UInt8) : pB (c :: l) false = (c, l, false) := rfl
theorem pV_yes (x : Int) (h0 : 0 ≤ x) (h1 : x ≤ 3) (u : List UInt8) : pV (61 :: UInt8.ofNat (48 + x).toNat :: u) false = (x, u, false) := by
  have : x = 0 ∨ x = 1 ∨ x = 2 ∨ x = 3 := by omega
  rcases this with rfl | rfl | rfl | rfl <;> rfl

/-- The program's parser reads what was written. -/
theorem pC_text : ∀ (d n : Nat) (c : Cd) (u : List UInt8), shapeF d c = true → d ≤ n → pC n (nb (textF d c) ++ u) false = (c, u, false) := by
  intro d
  induction d with
  | zero => intro n c u h; simp [shapeF] at h
  | succ d ih =>
    intro n c u h hn
    obtain ⟨n, rfl⟩ : ∃ m, n = m + 1 := ⟨n - 1, by omega⟩
    obtain ⟨o, t, p, x, ks⟩ := c
    rw [shapeF_succ] at h
    obtain ⟨h1, h2⟩ := h
    rcases nodeR_cases h1 with ⟨e, a1, a2, a3, a4, a5, a6, a7⟩ | ⟨e, a3, a4, a5, a6, a7, a8⟩ | ⟨e, a1, a2, a3, a4⟩ | ⟨e, a1, a2, a3, a4⟩ | ⟨e, a1, a2, a3, a4⟩
    · simp only [Cd.op, Cd.th, Cd.pl, Cd.val, Cd.kids] at *
      subst e
      obtain rfl : ks = [] := List.eq_nil_of_length_eq_zero a7
      rw [textF_1]
      have ht : t = 0 ∨ t = 1 ∨ t = 2 := by omega
      have hp : p = 0 ∨ p = 1 ∨ p = 2 := by omega
      have hx : x = 0 ∨ x = 1 ∨ x = 2 ∨ x = 3 := by omega
      rcases ht with rfl | rfl | rfl <;> rcases hp with rfl | rfl | rfl <;> rcases hx with rfl | rfl | rfl | rfl <;> rfl
    · simp only [Cd.op, Cd.th, Cd.pl, Cd.val, Cd.kids] at *
      subst e; subst a8
      obtain rfl : ks = [] := List.eq_nil_of_length_eq_zero a7
      rw [textF_2]
      have hp : p = 0 ∨ p = 1 ∨ p = 2 := by omega
      have hx : x = 0 ∨ x = 1 ∨ x = 2 ∨ x = 3 := by omega
      rcases hp with rfl | rfl | rfl <;> rcases hx with rfl | rfl | rfl | rfl <;> rfl
    · simp only [Cd.op, Cd.th, Cd.pl, Cd.val, Cd.kids] at *
      subst e; subst a2; subst a3; subst a4
      obtain ⟨k0, k1, rfl⟩ := len2 a1
      rw [textF_3]
      have i0 := ih n k0 (nb (38 :: (textF d k1 ++ [41])) ++ u) (h2 k0 (by simp)) (by omega)
      have i1 := ih n k1 (41 :: u) (h2 k1 (by simp)) (by omega)
      have e0 : nb (40 :: (textF d k0 ++ 38 :: (textF d k1 ++ [41]))) ++ u = 40 :: (nb (textF d k0) ++ (nb (38 :: (textF d k1 ++ [41])) ++ u)) := by simp [nb]
      have e1 : nb (38 :: (textF d k1 ++ [41])) ++ u = 38 :: (nb (textF d k1) ++ 41 :: u) := by simp [nb]
      rw [e0, e1]
      rw [e1] at i0
      unfold pC
      simp only [pB_cons]
      rw [if_neg (by decide), if_neg (by decide), if_pos trivial]
      simp only [i0, pB_cons, i1]
      rfl
    · simp only [Cd.op, Cd.th, Cd.pl, Cd.val, Cd.kids] at *
      subst e; subst a2; subst a3; subst a4
      obtain ⟨k0, k1, rfl⟩ := len2 a1
      rw [textF_4]
      have i0 := ih n k0 (nb (124 :: (textF d k1 ++ [41])) ++ u) (h2 k0 (by simp)) (by omega)
      have i1 := ih n k1 (41 :: u) (h2 k1 (by simp)) (by omega)
      have e0 : nb (40 :: (textF d k0 ++ 124 :: (textF d k1 ++ [41]))) ++ u = 40 :: (nb (textF d k0) ++ (nb (124 :: (textF d k1 ++ [41])) ++ u)) := by simp [nb]
      have e1 : nb (124 :: (textF d k1 ++ [41])) ++ u = 124 :: (nb (textF d k1) ++ 41 :: u) := by simp [nb]
      rw [e0, e1]
      rw [e1] at i0
      unfold pC
      simp only [pB_cons]
      rw [if_neg (by decide), if_neg (by decide), if_pos trivial]
      simp only [i0, pB_cons, i1]
      rfl
    · simp only [Cd.op, Cd.th, Cd.pl, Cd.val, Cd.kids] at *
      subst e; subst a2; subst a3; subst a4
      obtain ⟨k0, rfl⟩ := len1 a1
      rw [textF_5]
      have i0 := ih n k0 u (h2 k0 (by simp)) (by omega)
      have e0 : nb (126 :: textF d k0) ++ u = 126 :: (nb (textF d k0) ++ u) := by simp [nb]
      rw [e0]
      unfold pC
      simp only [pB_cons]
      rw [if_neg (by decide), if_pos trivial]
      simp only [i0]

/-! The reference's parser. -/

/-- The place of a byte in a list of letters, or -1. -/
def sPl (l : List UInt8) (at' : Int) (from' most : Int) : Int :=
  if at' < 0 then -1 else match l[at'.toNat]? with
  | none => -1
  | some c => if (c.toNat : Int) < from' ∨ (c.toNat : Int) - from' > most then -1 else (c.toNat : Int) - from'

def sIs (l : List UInt8) (at' : Int) (c : UInt8) : Bool := decide (0 ≤ at') && (l[at'.toNat]? == some c)

def sP : Nat → List UInt8 → Int → Cd × Int
  | 0, _, _ => (zeroC, -1)
  | d + 1, l, at' =>
    if at' < 0 ∨ (l.length : Int) ≤ at' then (zeroC, -1)
    else if sIs l at' 126 = true then
      let r := sP d l (at' + 1)
      (.mk 5 0 0 0 [r.1], r.2)
    else if sIs l at' 40 = true then
      let a := sP d l (at' + 1)
      if sIs l a.2 38 = false ∧ sIs l a.2 124 = false then (zeroC, -1)
      else
        let b := sP d l (a.2 + 1)
        if sIs l b.2 41 = false then (zeroC, -1)
        else (.mk (if sIs l a.2 124 = true then 4 else 3) 0 0 0 [a.1, b.1], b.2 + 1)
    else if 0 ≤ sPl l at' 48 9 then
      if at' + 4 > l.length then (zeroC, -1)
      else (.mk 1 (sPl l at' 48 9) (sPl l (at' + 1) 97 2) (sPl l (at' + 3) 48 9) [], at' + 4)
    else if at' + 3 > l.length then (zeroC, -1)
    else (.mk 2 0 (sPl l at' 120 2) (sPl l (at' + 2) 48 9) [], at' + 3)

theorem sIs_at (pre : List UInt8) (c : UInt8) (u : List UInt8) (d : UInt8) (at' : Int) (h : at' = pre.length) : sIs (pre ++ c :: u) at' d = (c == d) := by
  subst h
  unfold sIs
  simp
theorem sPl_at (pre : List UInt8) (c : UInt8) (u : List UInt8) (from' most at' : Int) (h : at' = pre.length) (h0 : from' ≤ (c.toNat : Int)) (h1 : (c.toNat : Int) - from' ≤ most) : sPl (pre ++ c :: u) at' from' most = (c.toNat : Int) - from' := by
  subst h
  unfold sPl
  rw [if_neg (by omega)]
  have : (pre ++ c :: u)[((pre.length : Nat) : Int).toNat]? = some c := by simp
  rw [this]
  simp only
  rw [if_neg (by omega)]
theorem sPl_low (pre : List UInt8) (c : UInt8) (u : List UInt8) (from' most at' : Int) (h : at' = pre.length) (h0 : most < (c.toNat : Int) - from') : sPl (pre ++ c :: u) at' from' most = -1 := by
  subst h
  unfold sPl
  rw [if_neg (by omega)]
  have : (pre ++ c :: u)[((pre.length : Nat) : Int).toNat]? = some c := by simp
  rw [this]
  simp only
  rw [if_pos (by omega)]

theorem u8 {x : Int} (h0 : 0 ≤ x) (h1 : x ≤ 255) : ((UInt8.ofNat x.toNat).toNat : Int) = x := by
  rw [UInt8.toNat_ofNat']; omega

/-- The reference's parser reads what was written. -/
theorem sP_text : ∀ (d : Nat) (c : Cd) (pre u : List UInt8), shapeF d c = true → sP d (pre ++ (nb (textF d c) ++ u)) pre.length = (c, ((pre.length + (textF d c).length : Nat) : Int)) := by
  intro d
  induction d with
  | zero => intro c pre u h; simp [shapeF] at h
  | succ d ih =>
    intro c pre u h
    obtain ⟨o, t, p, x, ks⟩ := c
    rw [shapeF_succ] at h
    obtain ⟨h1, h2⟩ := h
    rcases nodeR_cases h1 with ⟨e, a1, a2, a3, a4, a5, a6, a7⟩ | ⟨e, a3, a4, a5, a6, a7, a8⟩ | ⟨e, a1, a2, a3, a4⟩ | ⟨e, a1, a2, a3, a4⟩ | ⟨e, a1, a2, a3, a4⟩
    · simp only [Cd.op, Cd.th, Cd.pl, Cd.val, Cd.kids] at *
      subst e
      obtain rfl : ks = [] := List.eq_nil_of_length_eq_zero a7
      rw [textF_1]
      have e0 : nb [48 + t, 97 + p, 61, 48 + x] ++ u = UInt8.ofNat (48 + t).toNat :: UInt8.ofNat (97 + p).toNat :: 61 :: UInt8.ofNat (48 + x).toNat :: u := by simp [nb]
      rw [e0]
      have b0 := u8 (x := 48 + t) (by omega) (by omega)
      have b1 := u8 (x := 97 + p) (by omega) (by omega)
      have b3 := u8 (x := 48 + x) (by omega) (by omega)
      generalize UInt8.ofNat (48 + t).toNat = c0 at *
      generalize UInt8.ofNat (97 + p).toNat = c1 at *
      generalize UInt8.ofNat (48 + x).toNat = c3 at *
      have n0 : (c0 == 126) = false := by rw [beq_eq_false_iff_ne]; intro e; rw [e] at b0; simp at b0; omega
      have n1 : (c0 == 40) = false := by rw [beq_eq_false_iff_ne]; intro e; rw [e] at b0; simp at b0; omega
      have s0 := sPl_at pre c0 (c1 :: 61 :: c3 :: u) 48 9 (pre.length : Int) rfl (by omega) (by omega)
      have s1 := sPl_at (pre ++ [c0]) c1 (61 :: c3 :: u) 97 2 ((pre.length : Int) + 1) (by simp) (by omega) (by omega)
      have s3 := sPl_at (pre ++ [c0, c1, 61]) c3 u 48 9 ((pre.length : Int) + 3) (by simp) (by omega) (by omega)
      simp only [List.append_assoc, List.cons_append, List.nil_append] at s1 s3
      unfold sP
      rw [if_neg (by simp; omega), sIs_at pre c0 _ 126 _ rfl, if_neg (by rw [n0]; simp), sIs_at pre c0 _ 40 _ rfl, if_neg (by rw [n1]; simp), s0, if_pos (by omega), if_neg (by simp; omega), s1, s3, b0, b1, b3]
      simp only [Prod.mk.injEq, Cd.mk.injEq, and_true, true_and]
      refine ⟨⟨by omega, by omega, by omega⟩, by simp⟩
    · simp only [Cd.op, Cd.th, Cd.pl, Cd.val, Cd.kids] at *
      subst e; subst a8
      obtain rfl : ks = [] := List.eq_nil_of_length_eq_zero a7
      rw [textF_2]
      have e0 : nb [120 + p, 61, 48 + x] ++ u = UInt8.ofNat (120 + p).toNat :: 61 :: UInt8.ofNat (48 + x).toNat :: u := by simp [nb]
      rw [e0]
      have b0 := u8 (x := 120 + p) (by omega) (by omega)
      have b3 := u8 (x := 48 + x) (by omega) (by omega)
      generalize UInt8.ofNat (120 + p).toNat = c0 at *
      generalize UInt8.ofNat (48 + x).toNat = c3 at *
      have n0 : (c0 == 126) = false := by rw [beq_eq_false_iff_ne]; intro e; rw [e] at b0; simp at b0; omega
      have n1 : (c0 == 40) = false := by rw [beq_eq_false_iff_ne]; intro e; rw [e] at b0; simp at b0; omega
      have s0 := sPl_low pre c0 (61 :: c3 :: u) 48 9 (pre.length : Int) rfl (by omega)
      have s1 := sPl_at pre c0 (61 :: c3 :: u) 120 2 (pre.length : Int) rfl (by omega) (by omega)
      have s3 := sPl_at (pre ++ [c0, 61]) c3 u 48 9 ((pre.length : Int) + 2) (by simp) (by omega) (by omega)
      simp only [List.append_assoc, List.cons_append, List.nil_append] at s3
      unfold sP
      rw [if_neg (by simp; omega), sIs_at pre c0 _ 126 _ rfl, if_neg (by rw [n0]; simp), sIs_at pre c0 _ 40 _ rfl, if_neg (by rw [n1]; simp), s0, if_neg (by omega), if_neg (by simp; omega), s1, s3, b0, b3]
      simp only [Prod.mk.injEq, Cd.mk.injEq, and_true, true_and]
      refine ⟨⟨by omega, by omega⟩, by simp⟩
    · simp only [Cd.op, Cd.th, Cd.pl, Cd.val, Cd.kids] at *
      subst e; subst a2; subst a3; subst a4
      obtain ⟨k0, k1, rfl⟩ := len2 a1
      rw [textF_3]
      have i0 := ih k0 (pre ++ [40]) (38 :: (nb (textF d k1) ++ 41 :: u)) (h2 k0 (by simp))
      have i1 := ih k1 (pre ++ 40 :: (nb (textF d k0) ++ [38])) (41 :: u) (h2 k1 (by simp))
      have e0 : pre ++ (nb (40 :: (textF d k0 ++ 38 :: (textF d k1 ++ [41]))) ++ u) = pre ++ 40 :: (nb (textF d k0) ++ 38 :: (nb (textF d k1) ++ 41 :: u)) := by simp [nb]
      rw [e0]
      simp only [List.append_assoc, List.cons_append, List.nil_append, List.length_append, List.length_cons, List.length_nil, nb_len] at i0 i1
      have l1 : ((pre.length : Int) + 1) = ((pre.length + (0 + 1) : Nat) : Int) := by omega
      have l2 : (((pre.length + (0 + 1) + (textF d k0).length : Nat) : Int) + 1) = ((pre.length + ((textF d k0).length + (0 + 1) + 1) : Nat) : Int) := by omega
      have m1 : sIs (pre ++ 40 :: (nb (textF d k0) ++ 38 :: (nb (textF d k1) ++ 41 :: u))) ((pre.length + (0 + 1) + (textF d k0).length : Nat) : Int) 38 = true := by
        have := sIs_at (pre ++ 40 :: nb (textF d k0)) 38 (nb (textF d k1) ++ 41 :: u) 38 ((pre.length + (0 + 1) + (textF d k0).length : Nat) : Int) (by simp [nb_len]; omega)
        simpa using this
      have m1' : sIs (pre ++ 40 :: (nb (textF d k0) ++ 38 :: (nb (textF d k1) ++ 41 :: u))) ((pre.length + (0 + 1) + (textF d k0).length : Nat) : Int) 124 = false := by
        have := sIs_at (pre ++ 40 :: nb (textF d k0)) 38 (nb (textF d k1) ++ 41 :: u) 124 ((pre.length + (0 + 1) + (textF d k0).length : Nat) : Int) (by simp [nb_len]; omega)
        simpa using this
      have m2 : sIs (pre ++ 40 :: (nb (textF d k0) ++ 38 :: (nb (textF d k1) ++ 41 :: u))) ((pre.length + ((textF d k0).length + (0 + 1) + 1) + (textF d k1).length : Nat) : Int) 41 = true := by
        have := sIs_at (pre ++ 40 :: (nb (textF d k0) ++ 38 :: nb (textF d k1))) 41 u 41 ((pre.length + ((textF d k0).length + (0 + 1) + 1) + (textF d k1).length : Nat) : Int) (by simp [nb_len]; omega)
        simpa using this
      unfold sP
      rw [if_neg (by simp; omega), sIs_at pre 40 _ 126 _ rfl, if_neg (by decide), sIs_at pre 40 _ 40 _ rfl, if_pos (by decide), l1, i0]
      simp only
      rw [if_neg (by rw [m1]; simp), l2, i1]
      simp only
      rw [if_neg (by rw [m2]; simp), if_neg (by rw [m1']; simp)]
      simp only [Prod.mk.injEq, true_and]
      simp; omega
    · simp only [Cd.op, Cd.th, Cd.pl, Cd.val, Cd.kids] at *
      subst e; subst a2; subst a3; subst a4
      obtain ⟨k0, k1, rfl⟩ := len2 a1
      rw [textF_4]
      have i0 := ih k0 (pre ++ [40]) (124 :: (nb (textF d k1) ++ 41 :: u)) (h2 k0 (by simp))
      have i1 := ih k1 (pre ++ 40 :: (nb (textF d k0) ++ [124])) (41 :: u) (h2 k1 (by simp))
      have e0 : pre ++ (nb (40 :: (textF d k0 ++ 124 :: (textF d k1 ++ [41]))) ++ u) = pre ++ 40 :: (nb (textF d k0) ++ 124 :: (nb (textF d k1) ++ 41 :: u)) := by simp [nb]
      rw [e0]
      simp only [List.append_assoc, List.cons_append, List.nil_append, List.length_append, List.length_cons, List.length_nil, nb_len] at i0 i1
      have l1 : ((pre.length : Int) + 1) = ((pre.length + (0 + 1) : Nat) : Int) := by omega
      have l2 : (((pre.length + (0 + 1) + (textF d k0).length : Nat) : Int) + 1) = ((pre.length + ((textF d k0).length + (0 + 1) + 1) : Nat) : Int) := by omega
      have m1 : sIs (pre ++ 40 :: (nb (textF d k0) ++ 124 :: (nb (textF d k1) ++ 41 :: u))) ((pre.length + (0 + 1) + (textF d k0).length : Nat) : Int) 124 = true := by
        have := sIs_at (pre ++ 40 :: nb (textF d k0)) 124 (nb (textF d k1) ++ 41 :: u) 124 ((pre.length + (0 + 1) + (textF d k0).length : Nat) : Int) (by simp [nb_len]; omega)
        simpa using this
      have m2 : sIs (pre ++ 40 :: (nb (textF d k0) ++ 124 :: (nb (textF d k1) ++ 41 :: u))) ((pre.length + ((textF d k0).length + (0 + 1) + 1) + (textF d k1).length : Nat) : Int) 41 = true := by
        have := sIs_at (pre ++ 40 :: (nb (textF d k0) ++ 124 :: nb (textF d k1))) 41 u 41 ((pre.length + ((textF d k0).length + (0 + 1) + 1) + (textF d k1).length : Nat) : Int) (by simp [nb_len]; omega)
        simpa using this
      unfold sP
      rw [if_neg (by simp; omega), sIs_at pre 40 _ 126 _ rfl, if_neg (by decide), sIs_at pre 40 _ 40 _ rfl, if_pos (by decide), l1, i0]
      simp only
      rw [if_neg (by rw [m1]; simp), l2, i1]
      simp only
      rw [if_neg (by rw [m2]; simp), if_pos m1]
      simp only [Prod.mk.injEq, true_and]
      simp; omega
    · simp only [Cd.op, Cd.th, Cd.pl, Cd.val, Cd.kids] at *
      subst e; subst a2; subst a3; subst a4
      obtain ⟨k0, rfl⟩ := len1 a1
      rw [textF_5]
      have i0 := ih k0 (pre ++ [126]) u (h2 k0 (by simp))
      have e0 : pre ++ (nb (126 :: textF d k0) ++ u) = pre ++ 126 :: (nb (textF d k0) ++ u) := by simp [nb]
      rw [e0]
      simp only [List.append_assoc, List.cons_append, List.nil_append, List.length_append, List.length_cons, List.length_nil] at i0
      have l1 : ((pre.length : Int) + 1) = ((pre.length + (0 + 1) : Nat) : Int) := by omega
      unfold sP
      rw [if_neg (by simp; omega), sIs_at pre 126 _ 126 _ rfl, if_pos (by decide), l1, i0]
      simp only [Prod.mk.injEq, true_and]
      simp; omega

end Go.Proofs.Ytpnmphfdfadlcaa
