/-
  FnCondText: for every input the law returns true and the input reads afterwards as it read before. No condition.
-/
import Derived.Test.YtpnmphfdfadlcaaP23
import Derived.Test.YtpnmphfdfadlcaaD3
import Derived.Test.YtpnmphfdfadlcaaT7
import Derived.Test.YtpnmphfdfadlcaaD6
import Derived.Test.YtpnmphfdfadlcaaD12
import Derived.Test.YtpnmphfdfadlcaaT8
import Derived.Deep.RegionLaw
import Derived.Test.YtpnmphfdfadlcaaX1
import Derived.Test.YtpnmphfdfadlcaaArgB
namespace Go.Proofs.Ytpnmphfdfadlcaa
open Go.RowKit

def dcount (c : Cd) : Nat := descs c.kids
theorem dcount_mk (o t p x : Int) (ks : List Cd) : dcount (.mk o t p x ks) = descs ks := rfl
theorem descs_dc (k : Cd) (rest : List Cd) : descs (k :: rest) = dcount k + 1 + descs rest := descs_cons k rest

theorem textF_le : ∀ (d : Nat) (c : Cd), shapeF d c = true → (textF d c).length ≤ 4 * (dcount c + 1) := by
  intro d
  induction d with
  | zero => intro c h; simp [shapeF] at h
  | succ d ih =>
    intro c h
    obtain ⟨o, t, p, x, ks⟩ := c
    have hz : descs [] = 0 := rfl
    rw [dcount_mk]
    have IH := hide ih; clear ih
    rw [shapeF_succ] at h
    obtain ⟨h1, h2⟩ := h
    rcases nodeR_cases h1 with ⟨e, a1, a2, a3, a4, a5, a6, a7⟩ | ⟨e, a3, a4, a5, a6, a7, a8⟩ | ⟨e, a1, a2, a3, a4⟩ | ⟨e, a1, a2, a3, a4⟩ | ⟨e, a1, a2, a3, a4⟩
    · simp only [Cd.op, Cd.th, Cd.pl, Cd.val, Cd.kids] at *
      subst e
      obtain rfl : ks = [] := List.eq_nil_of_length_eq_zero a7
      rw [textF_1, hz]; simp
    · simp only [Cd.op, Cd.th, Cd.pl, Cd.val, Cd.kids] at *
      subst e; subst a8
      obtain rfl : ks = [] := List.eq_nil_of_length_eq_zero a7
      rw [textF_2]; simp; omega
    · simp only [Cd.op, Cd.th, Cd.pl, Cd.val, Cd.kids] at *
      subst e; subst a2; subst a3; subst a4
      obtain ⟨k0, k1, rfl⟩ := len2 a1
      have i0 := IH.out k0 (h2 k0 (by simp))
      have i1 := IH.out k1 (h2 k1 (by simp))
      rw [textF_3, descs_dc, descs_dc, hz]
      simp
      omega
    · simp only [Cd.op, Cd.th, Cd.pl, Cd.val, Cd.kids] at *
      subst e; subst a2; subst a3; subst a4
      obtain ⟨k0, k1, rfl⟩ := len2 a1
      have i0 := IH.out k0 (h2 k0 (by simp))
      have i1 := IH.out k1 (h2 k1 (by simp))
      rw [textF_4, descs_dc, descs_dc, hz]
      simp
      omega
    · simp only [Cd.op, Cd.th, Cd.pl, Cd.val, Cd.kids] at *
      subst e; subst a2; subst a3; subst a4
      obtain ⟨k0, rfl⟩ := len1 a1
      have i0 := IH.out k0 (h2 k0 (by simp))
      rw [textF_5, descs_dc, hz]
      simp
      omega

/-- What the parser answers to a condition's text, if that is not too long. -/
theorem parseV_fmt (c : Cd) (h : descs c.kids ≤ 70) : parseV (fmtC c) = if validC c = true then (c, true) else (zeroC, false) := by
  by_cases hv : validC c = true
  · rw [if_pos hv]
    have hs := valid_shape hv
    have hl := textF_le 10 c hs
    unfold parseV
    unfold dcount at hl
    rw [if_neg (by rw [fmtC_yes hv, size_strN]; omega)]
    exact parI_text hv
  · rw [if_neg hv]
    have hv' : validC c = false := by simpa using hv
    rw [fmtC_no hv']
    unfold parseV
    rw [if_neg (by decide)]
    cases hp : (parI ⟨#[]⟩).2 with
    | false => exact parse_no.1 hp
    | true =>
      obtain ⟨h1, h2⟩ := parI_valid hp
      rw [fmtC_yes h1] at h2
      have h3 := congrArg ByteArray.size h2
      rw [size_strN] at h3
      exact absurd (List.eq_nil_of_length_eq_zero h3) (textF_ne (valid_shape h1))

end Go.Proofs.Ytpnmphfdfadlcaa

namespace Go.Proofs.Ytpnmphfdfadlcaa
open Go.RowKit

theorem shape_leaf1 (d : Nat) {t p x : Int} (h0 : 0 ≤ t) (h1 : t < 3) (h2 : 0 ≤ p) (h3 : p < 2) (h4 : 0 ≤ x) (h5 : x < 3) : shapeF (d + 1) (.mk 1 t p x []) = true := by
  rw [shapeF_succ]
  have : (t = 0 ∨ t = 1 ∨ t = 2) ∧ (p = 0 ∨ p = 1) ∧ (x = 0 ∨ x = 1 ∨ x = 2) := by omega
  rcases this with ⟨rfl | rfl | rfl, rfl | rfl, rfl | rfl | rfl⟩ <;> exact ⟨rfl, fun k hk => by simp [Cd.kids] at hk⟩
theorem shape_leaf2 (d : Nat) {p x : Int} (h2 : 0 ≤ p) (h3 : p < 3) (h4 : 0 ≤ x) (h5 : x < 3) : shapeF (d + 1) (.mk 2 0 p x []) = true := by
  rw [shapeF_succ]
  have : (p = 0 ∨ p = 1 ∨ p = 2) ∧ (x = 0 ∨ x = 1 ∨ x = 2) := by omega
  rcases this with ⟨rfl | rfl | rfl, rfl | rfl | rfl⟩ <;> exact ⟨rfl, fun k hk => by simp [Cd.kids] at hk⟩
theorem shape_not {d : Nat} {k : Cd} (h : shapeF d k = true) : shapeF (d + 1) (.mk 5 0 0 0 [k]) = true := by
  rw [shapeF_succ]
  exact ⟨rfl, fun q hq => by simp [Cd.kids] at hq; rw [hq]; exact h⟩
theorem shape_two {d : Nat} {o : Int} {k k' : Cd} (ho : o ∈ [3, 4]) (h : shapeF d k = true) (h' : shapeF d k' = true) : shapeF (d + 1) (.mk o 0 0 0 [k, k']) = true := by
  rw [shapeF_succ]
  simp only [List.mem_cons, List.not_mem_nil, or_false] at ho
  rcases ho with rfl | rfl
  · exact ⟨rfl, fun q hq => by simp [Cd.kids] at hq; rcases hq with e | e <;> (rw [e]; assumption)⟩
  · exact ⟨rfl, fun q hq => by simp [Cd.kids] at hq; rcases hq with e | e <;> (rw [e]; assumption)⟩

/-- A condition that was drawn: all of it new. -/
def QS (lo : Nat) (K : Int) (D : Nat) (v : Value) (w : World) : Prop := ∃ (o t q x : Int) (s : Slc) (ks : List Cd), v = .agg #[.int .i64 o, .int .i64 t, .int .i64 q, .int .i64 x, .slice s.a s.n s.cap] ∧ RepK lo w s ks ∧ (descs ks : Int) + 2 ≤ K ∧ shapeF D (.mk o t q x ks) = true

set_option maxRecDepth 100000 in
set_option maxHeartbeats 6400000 in
theorem l11DrawS_any (b : Nat) (a : Option Addr) (c : Nat) (xs : List Int) : ∀ (d : Nat), d ≤ 10 → ∀ (p : Int) (w : World), Rd w b a c xs p → p + 10 * 2 ^ d ≤ 900000000 →
    Calls Try.prog 158 #[.pointer (some ⟨b, 0, none⟩), .int .i64 d] w (RetRd w b a c xs p (10 * 2 ^ d - 5) (QS w.heap.size (2 ^ (d + 1)) (d + 1))) := by
  intro d
  induction d with
  | zero =>
    intro _ p w hr hp
    rw [Int.pow_zero, Int.mul_one] at hp
    have HR0 := hide (hr.allocNew (.cells #[.int .i64 0, .int .i64 0, .int .i64 0, .int .i64 0, .slice none 0 0] 25))
    have HP := hide (fun (p : Int) n w' h hp (hn : n ≤ 100) (hn0 : 0 ≤ n) => pick_any b a c xs p n w' h hp (by omega) (by omega))
    have hlt := hr.lt
    have hne : w.heap.size ≠ b := by omega
    have HO0 := hide (Outside.of_below (lo := b) (hi := b + 1) (belowAlloc w (.cells #[.int .i64 0, .int .i64 0, .int .i64 0, .int .i64 0, .slice none 0 0] 25)))
    clear hr
    go_enter Try.func158, Try.ntmps158
    go_wp2_with fail
    (with_reducible refine (HP.out p _ _ HR0.out (by omega) (by omega) (by omega)).mono ?_); rintro e w1 ⟨v1, p1, rfl, ⟨q1, rfl, hq1, hr'1⟩, hp1, hr1, ho1⟩
    have hs1 := hr'1 (by decide); clear hr'1
    have HR1 := hide hr1
    have OO1 := hide ho1
    clear hr1 ho1
    obtain ⟨hc1, hf1⟩ := ocell OO1.out
    by_cases hl : q1 = 0
    · have hl' : (q1 == 0) = true := by rw [hl]; rfl
      clear hl
      go_wp2_with fail
      (with_reducible refine (HP.out p1 _ _ HR1.out (by omega) (by omega) (by omega)).mono ?_); rintro e w2 ⟨v2, p2, rfl, ⟨q2, rfl, hq2, hr'2⟩, hp2, hr2, ho2⟩
      have hs2 := hr'2 (by decide); clear hr'2
      have HR2 := hide hr2
      have OO2 := hide (OO1.out.trans ho2)
      clear hr2 ho2
      clear hc1 hf1
      obtain ⟨hc2, hf2⟩ := ocell OO2.out
      go_wp2_with fail
      (with_reducible refine (HP.out p2 _ _ HR2.out (by omega) (by omega) (by omega)).mono ?_); rintro e w3 ⟨v3, p3, rfl, ⟨q3, rfl, hq3, hr'3⟩, hp3, hr3, ho3⟩
      have hs3 := hr'3 (by decide); clear hr'3
      have HR3 := hide hr3
      have OO3 := hide (OO2.out.trans ho3)
      clear hr3 ho3
      clear hc2 hf2
      obtain ⟨hc3, hf3⟩ := ocell OO3.out
      go_wp2_with fail
      refine bodyPost_ret (v := .agg #[.int .i64 2, .int .i64 0, .int .i64 q2, .int .i64 q3, .slice none 0 0]) (by simp [results, Try.results158, go_sem, hc3, hne]) rfl ⟨_, p3, rfl, ⟨2, 0, q2, q3, ⟨none, 0, 0⟩, [], rfl, RepK.nil _ _, (by simp [descs]), shape_leaf2 _ hq2 hs2 hq3 hs3⟩, by omega, (((((HR3.out.setNew hlt _ _).setNew hlt _ _).setNew hlt _ _).setNew hlt _ _).setNew hlt _ _), ((((((HO0.out.trans OO3.out).setNew (Nat.le_refl _) _ _).setNew (Nat.le_refl _) _ _).setNew (Nat.le_refl _) _ _).setNew (Nat.le_refl _) _ _).setNew (Nat.le_refl _) _ _)⟩
    · have hl' : (q1 == 0) = false := by simp [hl]
      clear hl
      go_wp2_with fail
      (with_reducible refine (HP.out p1 _ _ HR1.out (by omega) (by omega) (by omega)).mono ?_); rintro e w2 ⟨v2, p2, rfl, ⟨q2, rfl, hq2, hr'2⟩, hp2, hr2, ho2⟩
      have hs2 := hr'2 (by decide); clear hr'2
      have HR2 := hide hr2
      have OO2 := hide (OO1.out.trans ho2)
      clear hr2 ho2
      clear hc1 hf1
      obtain ⟨hc2, hf2⟩ := ocell OO2.out
      go_wp2_with fail
      (with_reducible refine (HP.out p2 _ _ HR2.out (by omega) (by omega) (by omega)).mono ?_); rintro e w3 ⟨v3, p3, rfl, ⟨q3, rfl, hq3, hr'3⟩, hp3, hr3, ho3⟩
      have hs3 := hr'3 (by decide); clear hr'3
      have HR3 := hide hr3
      have OO3 := hide (OO2.out.trans ho3)
      clear hr3 ho3
      clear hc2 hf2
      obtain ⟨hc3, hf3⟩ := ocell OO3.out
      go_wp2_with fail
      (with_reducible refine (HP.out p3 _ _ HR3.out (by omega) (by omega) (by omega)).mono ?_); rintro e w4 ⟨v4, p4, rfl, ⟨q4, rfl, hq4, hr'4⟩, hp4, hr4, ho4⟩
      have hs4 := hr'4 (by decide); clear hr'4
      have HR4 := hide hr4
      have OO4 := hide (OO3.out.trans ho4)
      clear hr4 ho4
      clear hc3 hf3
      obtain ⟨hc4, hf4⟩ := ocell OO4.out
      go_wp2_with fail
      refine bodyPost_ret (v := .agg #[.int .i64 1, .int .i64 q2, .int .i64 q3, .int .i64 q4, .slice none 0 0]) (by simp [results, Try.results158, go_sem, hc4, hne]) rfl ⟨_, p4, rfl, ⟨1, q2, q3, q4, ⟨none, 0, 0⟩, [], rfl, RepK.nil _ _, (by simp [descs]), shape_leaf1 _ hq2 hs2 hq3 hs3 hq4 hs4⟩, by omega, (((((HR4.out.setNew hlt _ _).setNew hlt _ _).setNew hlt _ _).setNew hlt _ _).setNew hlt _ _), ((((((HO0.out.trans OO4.out).setNew (Nat.le_refl _) _ _).setNew (Nat.le_refl _) _ _).setNew (Nat.le_refl _) _ _).setNew (Nat.le_refl _) _ _).setNew (Nat.le_refl _) _ _)⟩
  | succ d ih =>
    intro hd p w hr hp
    have hpow : (2 : Int) ^ (d + 1) = 2 * 2 ^ d := by rw [Int.pow_succ]; omega
    have hpow2 : (2 : Int) ^ (d + 1 + 1) = 2 * 2 ^ (d + 1) := by rw [Int.pow_succ (2 : Int) (d + 1)]; omega
    have hpos := pow_pos2 d
    have IH := hide (ih (by omega))
    rw [hpow] at hp
    rw [hpow2, hpow]
    rw [hpow] at IH
    have HR0 := hide (hr.allocNew (.cells #[.int .i64 0, .int .i64 0, .int .i64 0, .int .i64 0, .slice none 0 0] 25))
    have HP := hide (fun (p : Int) n w' h hp (hn : n ≤ 100) (hn0 : 0 ≤ n) => pick_any b a c xs p n w' h hp (by omega) (by omega))
    have hlt := hr.lt
    have hne : w.heap.size ≠ b := by omega
    have HO0 := hide (Outside.of_below (lo := b) (hi := b + 1) (belowAlloc w (.cells #[.int .i64 0, .int .i64 0, .int .i64 0, .int .i64 0, .slice none 0 0] 25)))
    clear hr
    have hD1 : ((d + 1 : Nat) : Int) - 1 = (d : Int) := by omega
    have hD3 : ((d + 1 : Nat) : Int) ≤ 10 := by omega
    have hD2 : 1 ≤ ((d + 1 : Nat) : Int) := by omega
    generalize hZ : (2 : Int) ^ d = Z at *
    clear hZ hpow hpow2 ih
    generalize ((d + 1 : Nat) : Int) = D at *
    by_cases hD : D < 2
    · go_enter Try.func158, Try.ntmps158
      go_wp2_with fail
      (with_reducible refine (HP.out p _ _ HR0.out (by omega) (by omega) (by omega)).mono ?_); rintro e w1 ⟨v1, p1, rfl, ⟨q1, rfl, hq1, hr'1⟩, hp1, hr1, ho1⟩
      have hs1 := hr'1 (by decide); clear hr'1
      have HR1 := hide hr1
      have OO1 := hide ho1
      clear hr1 ho1
      obtain ⟨hc1, hf1⟩ := ocell OO1.out
      by_cases hl : q1 = 0
      · have hl' : (q1 == 0) = true := by rw [hl]; rfl
        clear hl
        go_wp2_with fail
        (with_reducible refine (HP.out p1 _ _ HR1.out (by omega) (by omega) (by omega)).mono ?_); rintro e w2 ⟨v2, p2, rfl, ⟨q2, rfl, hq2, hr'2⟩, hp2, hr2, ho2⟩
        have hs2 := hr'2 (by decide); clear hr'2
        have HR2 := hide hr2
        have OO2 := hide (OO1.out.trans ho2)
        clear hr2 ho2
        clear hc1 hf1
        obtain ⟨hc2, hf2⟩ := ocell OO2.out
        go_wp2_with fail
        (with_reducible refine (HP.out p2 _ _ HR2.out (by omega) (by omega) (by omega)).mono ?_); rintro e w3 ⟨v3, p3, rfl, ⟨q3, rfl, hq3, hr'3⟩, hp3, hr3, ho3⟩
        have hs3 := hr'3 (by decide); clear hr'3
        have HR3 := hide hr3
        have OO3 := hide (OO2.out.trans ho3)
        clear hr3 ho3
        clear hc2 hf2
        obtain ⟨hc3, hf3⟩ := ocell OO3.out
        go_wp2_with fail
        refine bodyPost_ret (v := .agg #[.int .i64 2, .int .i64 0, .int .i64 q2, .int .i64 q3, .slice none 0 0]) (by simp [results, Try.results158, go_sem, hc3, hne]) rfl ⟨_, p3, rfl, ⟨2, 0, q2, q3, ⟨none, 0, 0⟩, [], rfl, RepK.nil _ _, (by simp [descs]; omega), shape_leaf2 _ hq2 hs2 hq3 hs3⟩, by omega, (((((HR3.out.setNew hlt _ _).setNew hlt _ _).setNew hlt _ _).setNew hlt _ _).setNew hlt _ _), ((((((HO0.out.trans OO3.out).setNew (Nat.le_refl _) _ _).setNew (Nat.le_refl _) _ _).setNew (Nat.le_refl _) _ _).setNew (Nat.le_refl _) _ _).setNew (Nat.le_refl _) _ _)⟩
      · have hl' : (q1 == 0) = false := by simp [hl]
        clear hl
        go_wp2_with fail
        (with_reducible refine (HP.out p1 _ _ HR1.out (by omega) (by omega) (by omega)).mono ?_); rintro e w2 ⟨v2, p2, rfl, ⟨q2, rfl, hq2, hr'2⟩, hp2, hr2, ho2⟩
        have hs2 := hr'2 (by decide); clear hr'2
        have HR2 := hide hr2
        have OO2 := hide (OO1.out.trans ho2)
        clear hr2 ho2
        clear hc1 hf1
        obtain ⟨hc2, hf2⟩ := ocell OO2.out
        go_wp2_with fail
        (with_reducible refine (HP.out p2 _ _ HR2.out (by omega) (by omega) (by omega)).mono ?_); rintro e w3 ⟨v3, p3, rfl, ⟨q3, rfl, hq3, hr'3⟩, hp3, hr3, ho3⟩
        have hs3 := hr'3 (by decide); clear hr'3
        have HR3 := hide hr3
        have OO3 := hide (OO2.out.trans ho3)
        clear hr3 ho3
        clear hc2 hf2
        obtain ⟨hc3, hf3⟩ := ocell OO3.out
        go_wp2_with fail
        (with_reducible refine (HP.out p3 _ _ HR3.out (by omega) (by omega) (by omega)).mono ?_); rintro e w4 ⟨v4, p4, rfl, ⟨q4, rfl, hq4, hr'4⟩, hp4, hr4, ho4⟩
        have hs4 := hr'4 (by decide); clear hr'4
        have HR4 := hide hr4
        have OO4 := hide (OO3.out.trans ho4)
        clear hr4 ho4
        clear hc3 hf3
        obtain ⟨hc4, hf4⟩ := ocell OO4.out
        go_wp2_with fail
        refine bodyPost_ret (v := .agg #[.int .i64 1, .int .i64 q2, .int .i64 q3, .int .i64 q4, .slice none 0 0]) (by simp [results, Try.results158, go_sem, hc4, hne]) rfl ⟨_, p4, rfl, ⟨1, q2, q3, q4, ⟨none, 0, 0⟩, [], rfl, RepK.nil _ _, (by simp [descs]; omega), shape_leaf1 _ hq2 hs2 hq3 hs3 hq4 hs4⟩, by omega, (((((HR4.out.setNew hlt _ _).setNew hlt _ _).setNew hlt _ _).setNew hlt _ _).setNew hlt _ _), ((((((HO0.out.trans OO4.out).setNew (Nat.le_refl _) _ _).setNew (Nat.le_refl _) _ _).setNew (Nat.le_refl _) _ _).setNew (Nat.le_refl _) _ _).setNew (Nat.le_refl _) _ _)⟩
    · have hD' : decide (D < 2) = false := decide_eq_false hD
      go_enter Try.func158, Try.ntmps158
      go_wp2_with fail
      (with_reducible refine (HP.out p _ _ HR0.out (by omega) (by omega) (by omega)).mono ?_); rintro e w1 ⟨v1, p1, rfl, ⟨q1, rfl, hq1, hr'1⟩, hp1, hr1, ho1⟩
      have hs1 := hr'1 (by decide); clear hr'1
      have HR1 := hide hr1
      have OO1 := hide ho1
      clear hr1 ho1
      obtain ⟨hc1, hf1⟩ := ocell OO1.out
      by_cases hz : q1 = 0
      · have hz' : (q1 == 0) = true := by rw [hz]; rfl
        clear hz
        go_wp2_with fail
        (with_reducible refine (HP.out p1 _ _ HR1.out (by omega) (by omega) (by omega)).mono ?_); rintro e w2 ⟨v2, p2, rfl, ⟨q2, rfl, hq2, hr'2⟩, hp2, hr2, ho2⟩
        have hs2 := hr'2 (by decide); clear hr'2
        have HR2 := hide hr2
        have OO2 := hide (OO1.out.trans ho2)
        clear hr2 ho2
        clear hc1 hf1
        obtain ⟨hc2, hf2⟩ := ocell OO2.out
        by_cases hl : q2 = 0
        · have hl' : (q2 == 0) = true := by rw [hl]; rfl
          clear hl
          go_wp2_with fail
          (with_reducible refine (HP.out p2 _ _ HR2.out (by omega) (by omega) (by omega)).mono ?_); rintro e w3 ⟨v3, p3, rfl, ⟨q3, rfl, hq3, hr'3⟩, hp3, hr3, ho3⟩
          have hs3 := hr'3 (by decide); clear hr'3
          have HR3 := hide hr3
          have OO3 := hide (OO2.out.trans ho3)
          clear hr3 ho3
          clear hc2 hf2
          obtain ⟨hc3, hf3⟩ := ocell OO3.out
          go_wp2_with fail
          (with_reducible refine (HP.out p3 _ _ HR3.out (by omega) (by omega) (by omega)).mono ?_); rintro e w4 ⟨v4, p4, rfl, ⟨q4, rfl, hq4, hr'4⟩, hp4, hr4, ho4⟩
          have hs4 := hr'4 (by decide); clear hr'4
          have HR4 := hide hr4
          have OO4 := hide (OO3.out.trans ho4)
          clear hr4 ho4
          clear hc3 hf3
          obtain ⟨hc4, hf4⟩ := ocell OO4.out
          go_wp2_with fail
          refine bodyPost_ret (v := .agg #[.int .i64 2, .int .i64 0, .int .i64 q3, .int .i64 q4, .slice none 0 0]) (by simp [results, Try.results158, go_sem, hc4, hne]) rfl ⟨_, p4, rfl, ⟨2, 0, q3, q4, ⟨none, 0, 0⟩, [], rfl, RepK.nil _ _, (by simp [descs]; omega), shape_leaf2 _ hq3 hs3 hq4 hs4⟩, by omega, (((((HR4.out.setNew hlt _ _).setNew hlt _ _).setNew hlt _ _).setNew hlt _ _).setNew hlt _ _), ((((((HO0.out.trans OO4.out).setNew (Nat.le_refl _) _ _).setNew (Nat.le_refl _) _ _).setNew (Nat.le_refl _) _ _).setNew (Nat.le_refl _) _ _).setNew (Nat.le_refl _) _ _)⟩
        · have hl' : (q2 == 0) = false := by simp [hl]
          clear hl
          go_wp2_with fail
          (with_reducible refine (HP.out p2 _ _ HR2.out (by omega) (by omega) (by omega)).mono ?_); rintro e w3 ⟨v3, p3, rfl, ⟨q3, rfl, hq3, hr'3⟩, hp3, hr3, ho3⟩
          have hs3 := hr'3 (by decide); clear hr'3
          have HR3 := hide hr3
          have OO3 := hide (OO2.out.trans ho3)
          clear hr3 ho3
          clear hc2 hf2
          obtain ⟨hc3, hf3⟩ := ocell OO3.out
          go_wp2_with fail
          (with_reducible refine (HP.out p3 _ _ HR3.out (by omega) (by omega) (by omega)).mono ?_); rintro e w4 ⟨v4, p4, rfl, ⟨q4, rfl, hq4, hr'4⟩, hp4, hr4, ho4⟩
          have hs4 := hr'4 (by decide); clear hr'4
          have HR4 := hide hr4
          have OO4 := hide (OO3.out.trans ho4)
          clear hr4 ho4
          clear hc3 hf3
          obtain ⟨hc4, hf4⟩ := ocell OO4.out
          go_wp2_with fail
          (with_reducible refine (HP.out p4 _ _ HR4.out (by omega) (by omega) (by omega)).mono ?_); rintro e w5 ⟨v5, p5, rfl, ⟨q5, rfl, hq5, hr'5⟩, hp5, hr5, ho5⟩
          have hs5 := hr'5 (by decide); clear hr'5
          have HR5 := hide hr5
          have OO5 := hide (OO4.out.trans ho5)
          clear hr5 ho5
          clear hc4 hf4
          obtain ⟨hc5, hf5⟩ := ocell OO5.out
          go_wp2_with fail
          refine bodyPost_ret (v := .agg #[.int .i64 1, .int .i64 q3, .int .i64 q4, .int .i64 q5, .slice none 0 0]) (by simp [results, Try.results158, go_sem, hc5, hne]) rfl ⟨_, p5, rfl, ⟨1, q3, q4, q5, ⟨none, 0, 0⟩, [], rfl, RepK.nil _ _, (by simp [descs]; omega), shape_leaf1 _ hq3 hs3 hq4 hs4 hq5 hs5⟩, by omega, (((((HR5.out.setNew hlt _ _).setNew hlt _ _).setNew hlt _ _).setNew hlt _ _).setNew hlt _ _), ((((((HO0.out.trans OO5.out).setNew (Nat.le_refl _) _ _).setNew (Nat.le_refl _) _ _).setNew (Nat.le_refl _) _ _).setNew (Nat.le_refl _) _ _).setNew (Nat.le_refl _) _ _)⟩
      · have hz' : (q1 == 0) = false := by simp [hz]
        clear hz
        go_wp2_with fail
        (with_reducible refine (HP.out p1 _ _ HR1.out (by omega) (by omega) (by omega)).mono ?_); rintro e w2 ⟨v2, p2, rfl, ⟨q2, rfl, hq2, hr'2⟩, hp2, hr2, ho2⟩
        have hs2 := hr'2 (by decide); clear hr'2
        have HR2 := hide hr2
        have OO2 := hide (OO1.out.trans ho2)
        clear hr2 ho2
        clear hc1 hf1
        obtain ⟨hc2, hf2⟩ := ocell OO2.out
        by_cases hk : q2 = 0
        · have hk' : (q2 == 0) = true := by rw [hk]; rfl
          clear hk
          go_wp2_with fail
          (with_reducible refine (IH.out p2 _ HR2.out (by omega)).mono ?_); rintro e w3 ⟨v3, p3, rfl, ⟨oA, tA, rA, xA, sA, ksA, rfl, hkA, hdA, hfA⟩, hp3, hr3, ho3⟩
          have hszA : w.heap.size < w2.heap.size := by have := OO2.out.size; simp at this; omega
          have hbzA : b < w2.heap.size := by omega
          have HKA := hide hkA; have HSHA := hide hfA; clear hkA hfA
          have HR3 := hide hr3
          have OO3 := hide (OO2.out.trans ho3)
          clear hr3 ho3
          clear hc2 hf2
          obtain ⟨hc3, hf3⟩ := ocell OO3.out
          have hRK := (((((HKA.out.set2 (g := w.heap.size) hszA 0 (.int .i64 5)).set2 hszA 1 (.int .i64 0)).set2 hszA 2 (.int .i64 0)).set2 hszA 3 (.int .i64 0)).set2 hszA 4 (.slice (some ⟨w3.heap.size, 0, none⟩) 1 1)).low (lo' := w.heap.size) (by omega)
          have hOne := RepK.one (o := oA) (t := tA) (q := rA) (x := xA) hRK (by have := OO3.out.size; simp at this ⊢; omega) 25
          have HONE := hide hOne; clear hOne hRK
          have hszN : w.heap.size < w3.heap.size := by have := OO3.out.size; simp at this; omega
          go_wp2_with fail
          refine bodyPost_ret (v := .agg #[.int .i64 5, .int .i64 0, .int .i64 0, .int .i64 0, .slice (some ⟨w3.heap.size, 0, none⟩) 1 1]) (by simp [results, Try.results158, go_sem, hc3, hne, hszN]) rfl ⟨_, p3, rfl, ⟨5, 0, 0, 0, ⟨some ⟨w3.heap.size, 0, none⟩, 1, 1⟩, [.mk oA tA rA xA ksA], rfl, by simpa using HONE.out, (by rw [descs_one]; simp only [Cd.kids]; omega), shape_not HSHA.out⟩, by omega, ((((((HR3.out.setNew hlt _ _).setNew hlt _ _).setNew hlt _ _).setNew hlt _ _).setNew hlt _ _).allocNew _), (((((((HO0.out.trans OO3.out).setNew (Nat.le_refl _) _ _).setNew (Nat.le_refl _) _ _).setNew (Nat.le_refl _) _ _).setNew (Nat.le_refl _) _ _).setNew (Nat.le_refl _) _ _).allocNew _)⟩
        · have hk' : (q2 == 0) = false := by simp [hk]
          clear hk
          have HN := hide (fun (p : Int) (w' : World) (hb : b < w'.heap.size) h hp => num_any b a c xs p (Value.slice (some (Addr.mk w'.heap.size 0 none)) 2 2) [3, 4] (w'.alloc (.cells #[.int .i64 3, .int .i64 4] 3)) h hp (rep_lit w' [3, 4] 3 (by decide)) (by decide) (by decide) (by intro g o e; simp at e; omega))
          go_wp2_with fail
          (with_reducible refine (HN.out p2 w2 (by have := OO2.out.size; simp at this; omega) (HR2.out.allocNew _) (by omega)).mono ?_); rintro e w3 ⟨v3, p3, rfl, ⟨yo, hyo, rfl⟩, hp3, hr3, hoN⟩
          have ho3 := (Outside.of_below (lo := b) (hi := b + 1) (belowAlloc w2 (.cells #[.int .i64 3, .int .i64 4] 3))).trans hoN
          clear hoN
          have HR3 := hide hr3
          have OO3 := hide (OO2.out.trans ho3)
          clear hr3 ho3
          clear hc2 hf2
          obtain ⟨hc3, hf3⟩ := ocell OO3.out
          go_wp2_with fail
          (with_reducible refine (IH.out p3 _ HR3.out (by omega)).mono ?_); rintro e w4 ⟨v4, p4, rfl, ⟨oA, tA, rA, xA, sA, ksA, rfl, hkA, hdA, hfA⟩, hp4, hr4, ho4⟩
          have hszA : w.heap.size < w3.heap.size := by have := OO3.out.size; simp at this; omega
          have hbzA : b < w3.heap.size := by omega
          have HKA := hide hkA; have HSHA := hide hfA; clear hkA hfA
          have HoA := hide ho4
          have HR4 := hide hr4
          have OO4 := hide (OO3.out.trans ho4)
          clear hr4 ho4
          clear hc3 hf3
          obtain ⟨hc4, hf4⟩ := ocell OO4.out
          go_wp2_with fail
          (with_reducible refine (IH.out p4 _ HR4.out (by omega)).mono ?_); rintro e w5 ⟨v5, p5, rfl, ⟨oB, tB, rB, xB, sB, ksB, rfl, hkB, hdB, hfB⟩, hp5, hr5, ho5⟩
          have hszB : w.heap.size < w4.heap.size := by have := OO4.out.size; simp at this; omega
          have hbzB : b < w4.heap.size := by omega
          have HKB := hide hkB; have HSHB := hide hfB; clear hkB hfB
          have HoB := hide ho5
          have HR5 := hide hr5
          have OO5 := hide (OO4.out.trans ho5)
          clear hr5 ho5
          clear hc4 hf4
          obtain ⟨hc5, hf5⟩ := ocell OO5.out
          have hA := ((((((HKA.out.outside HoB.out hbzA).set2 (g := w.heap.size) hszA 0 (.int .i64 yo)).set2 hszA 1 (.int .i64 0)).set2 hszA 2 (.int .i64 0)).set2 hszA 3 (.int .i64 0)).set2 hszA 4 (.slice (some ⟨w5.heap.size, 0, none⟩) 2 2)).low (lo' := w.heap.size) (by omega)
          have hB := (((((HKB.out.set2 (g := w.heap.size) hszB 0 (.int .i64 yo)).set2 hszB 1 (.int .i64 0)).set2 hszB 2 (.int .i64 0)).set2 hszB 3 (.int .i64 0)).set2 hszB 4 (.slice (some ⟨w5.heap.size, 0, none⟩) 2 2)).low (lo' := w.heap.size) (by omega)
          have hTwo := RepK.two (o := oA) (t := tA) (q := rA) (x := xA) (o' := oB) (t' := tB) (q' := rB) (x' := xB) hA hB (by have := OO5.out.size; simp at this ⊢; omega) 25
          have HTWO := hide hTwo; clear hTwo hA hB
          have hszN : w.heap.size < w5.heap.size := by have := OO5.out.size; simp at this; omega
          go_wp2_with fail
          refine bodyPost_ret (v := .agg #[.int .i64 yo, .int .i64 0, .int .i64 0, .int .i64 0, .slice (some ⟨w5.heap.size, 0, none⟩) 2 2]) (by simp [results, Try.results158, go_sem, hc5, hne, hszN]) rfl ⟨_, p5, rfl, ⟨yo, 0, 0, 0, ⟨some ⟨w5.heap.size, 0, none⟩, 2, 2⟩, [.mk oA tA rA xA ksA, .mk oB tB rB xB ksB], rfl, by simpa using HTWO.out, (by rw [descs_two]; simp only [Cd.kids]; omega), shape_two hyo HSHA.out HSHB.out⟩, by omega, ((((((HR5.out.setNew hlt _ _).setNew hlt _ _).setNew hlt _ _).setNew hlt _ _).setNew hlt _ _).allocNew _), (((((((HO0.out.trans OO5.out).setNew (Nat.le_refl _) _ _).setNew (Nat.le_refl _) _ _).setNew (Nat.le_refl _) _ _).setNew (Nat.le_refl _) _ _).setNew (Nat.le_refl _) _ _).allocNew _)⟩

end Go.Proofs.Ytpnmphfdfadlcaa
namespace Go.Proofs.Ytpnmphfdfadlcaa
open Go.RowKit

/-- A condition that was drawn. -/
def RetOneC (w : World) (e : Ending) (w' : World) : Prop := ∃ (o t q x : Int) (s : Slc) (ks : List Cd), e = .returned (.agg #[.int .i64 o, .int .i64 t, .int .i64 q, .int .i64 x, .slice s.a s.n s.cap]) ∧ Foot (fun q => w.heap.size ≤ q) w' s ks ∧ descs ks ≤ 60 ∧ Below w.heap.size w w'

set_option maxRecDepth 100000 in
set_option maxHeartbeats 1600000 in
theorem DrawCondValid_any (v : Value) (xs0 : List Int) (w : World) (hx : Rep ByteE w v xs0) (hb : ∀ x ∈ xs0, 0 ≤ x ∧ x ≤ 255) :
    Calls Try.prog 70 #[v] w (RetOneC w) := by
  obtain ⟨a0, c0, rfl, -, -, -, hx⟩ := hx.open
  have hbW := belowAlloc w (.cells #[.int .i64 0, .int .i64 0, .int .i64 0, .int .i64 0, .slice none 0 0] 25)
  have HO := hide (l17Open_any (.slice a0 xs0.length c0) xs0 _ (hx.below hbW) hb)
  have BH := hide (Box.new w 0 0 0 0 none 0 0 25)
  have HBW := hide hbW
  clear hx hbW hb
  go_enter Try.func70, Try.ntmps70
  go_wp2_with fail
  (with_reducible refine HO.out.mono ?_); rintro e w1 ⟨b, a, c, xs, rfl, hr1, hbs, hb1⟩
  have hbs' : w.heap.size + 1 ≤ b := by simpa using hbs
  have BH' := hide (BH.out.below hb1 (by simp))
  have HB1 := hide (HBW.out.trans (hb1.mono HBW.out.size))
  have R1 := hide hr1
  have hlt1 := hr1.lt
  have hz1 := hb1.size
  simp at hz1
  clear hr1 hbs hb1 HO BH HBW
  go_wp2_with fail
  (with_reducible refine (l11Some_any b a c xs 0 _ R1.out (by omega)).mono ?_); rintro e w2 ⟨v2, p2, rfl, ⟨o, t, q, x, s, ks, rfl, hF, hd⟩, hp2, hr2, ho2⟩
  have hsz2 := ho2.size
  have F2 := hide hF
  have R2 := hide hr2
  have BH2 := hide (BH'.out.outside ho2 (by omega))
  have HB2 := hide (HB1.out.trans (below_of_outside ho2 (B := w.heap.size) (by omega) (by omega)))
  clear hF hr2 ho2 BH' HB1 R1
  go_wp2_with fail
  (with_reducible refine (l11Mutate_any b a c xs p2 o t q x s.a s.n s.cap ks 40 _ R2.out (by omega) w1.heap.size hlt1 hsz2 F2.out hd (by omega)).mono ?_); rintro e w3 ⟨v3, p3, rfl, ⟨o', t', q', x', s', ks', rfl, hF3, hd3⟩, hp3, hr3, ho3⟩
  have hsz3 := ho3.size
  have F3 := hide hF3
  have HB3 := hide (HB2.out.trans (below_of_outside ho3 (B := w.heap.size) (by omega) (by omega)))
  obtain ⟨lh, n0, n1, n2, n3, n4, nf⟩ := BH2.out.outside ho3 (by omega)
  clear hF3 hr3 ho3 BH2 HB2 R2 F2
  go_wp2_with fail
  refine bodyPost_ret (v := .agg #[.int .i64 o', .int .i64 t', .int .i64 q', .int .i64 x', .slice s'.a s'.n s'.cap]) (by simp [results, Try.results70, go_sem, n0, n1, n2, n3, n4]) rfl ⟨o', t', q', x', s', ks', rfl, ?_, by omega, ?_⟩
  · exact (((((F3.out.set (by omega) _ _).set (by omega) _ _).set (by omega) _ _).set (by omega) _ _).set (by omega) _ _).weak (fun q hq => by have hq' : w1.heap.size ≤ q := hq; omega)
  · exact (((((HB3.out.setCell (Nat.le_refl _) _).setCell (Nat.le_refl _) _).setCell (Nat.le_refl _) _).setCell (Nat.le_refl _) _).setCell (Nat.le_refl _) _)

set_option maxRecDepth 100000 in
set_option maxHeartbeats 1600000 in
theorem DrawFormatCond_any (v : Value) (xs0 : List Int) (w : World) (hx : Rep ByteE w v xs0) (hb : ∀ x ∈ xs0, 0 ≤ x ∧ x ≤ 255) :
    Calls Try.prog 13 #[v] w (RetOneC w) := by
  obtain ⟨a0, c0, rfl, -, -, -, hx⟩ := hx.open
  have hbW := belowAlloc w (.cells #[.int .i64 0, .int .i64 0, .int .i64 0, .int .i64 0, .slice none 0 0] 25)
  have HO := hide (DrawCondValid_any (.slice a0 xs0.length c0) xs0 _ (hx.below hbW) hb)
  have BH := hide (Box.new w 0 0 0 0 none 0 0 25)
  have HBW := hide hbW
  clear hx hbW hb
  go_enter Try.func13, Try.ntmps13
  go_wp2_with fail
  (with_reducible refine HO.out.mono ?_); rintro e w1 ⟨o, t, q, x, s, ks, rfl, hk, hd, hb1⟩
  obtain ⟨lh, n0, n1, n2, n3, n4, nf⟩ := BH.out.below hb1 (by simp)
  have HB1 := hide (HBW.out.trans (hb1.mono HBW.out.size))
  have HK := hide hk
  clear hb1 HO BH HBW hk
  go_wp2_with fail
  refine bodyPost_ret (v := .agg #[.int .i64 o, .int .i64 t, .int .i64 q, .int .i64 x, .slice s.a s.n s.cap]) (by simp [results, Try.results13, go_sem, n0, n1, n2, n3, n4]) rfl ⟨o, t, q, x, s, ks, rfl, ?_, hd, ?_⟩
  · exact (((((HK.out.set (by simp) _ _).set (by simp) _ _).set (by simp) _ _).set (by simp) _ _).set (by simp) _ _).weak (fun q hq => by simp at hq; omega)
  · exact (((((HB1.out.setCell (Nat.le_refl _) _).setCell (Nat.le_refl _) _).setCell (Nat.le_refl _) _).setCell (Nat.le_refl _) _).setCell (Nat.le_refl _) _)

end Go.Proofs.Ytpnmphfdfadlcaa

namespace Go.Proofs.Ytpnmphfdfadlcaa
open Go.RowKit

def SomeStr (v : Value) (_ : World) : Prop := ∃ y : ByteArray, v = .string y

set_option maxRecDepth 100000 in
set_option maxHeartbeats 3200000 in
theorem l1Bend_any (b : Nat) (a : Option Addr) (c : Nat) (xs : List Int) (p : Int) (s : ByteArray) (v : Value) (ys : List ByteArray) (w : World) (base : Nat) (hr : Rd w b a c xs p) (hp : p ≤ 900000000) (hs : s.size ≤ 1048576)
    (hy : Own StrE 9 w base v ys) (hl : ys.length ≤ 100) (h0 : 1 ≤ ys.length) (hb : b < base) (hys : ∀ y ∈ ys, y.size ≤ 1000) :
    Calls Try.prog 79 #[.pointer (some ⟨b, 0, none⟩), .string s, v] w (RetRd w b a c xs p 4 SomeStr) := by
  have HP := hide (fun (p : Int) n w' h hp (hn : n ≤ 1048576) (hn0 : 0 ≤ n) => pick_any b a c xs p n w' h hp (by omega) (by omega))
  have HF := hide (fun (p : Int) w' h hp hy => of_any b a c xs p v ys w' base h hp hy hl h0 hb)
  have R := hide hr; have HY := hide hy
  clear hr hy
  by_cases hz : s.size = 0
  · have hz' : ((s.size : Int) == 0) = true := by rw [hz]; rfl
    go_enter Try.func79, Try.ntmps79
    go_wp2_with fail
    go_ret
    exact ⟨_, p, rfl, ⟨s, rfl⟩, by omega, R.out, Outside.refl _ _ _⟩
  · have hz' : ((s.size : Int) == 0) = false := by simp; exact fun e => hz (by rw [e]; rfl)
    go_enter Try.func79, Try.ntmps79
    go_wp2_with fail
    (with_reducible refine (HP.out p _ _ R.out (by omega) (by omega) (by omega)).mono ?_); rintro e w1 ⟨v1, p1, rfl, ⟨q1, rfl, hq1, -⟩, hp1, hr1, ho1⟩
    have R1 := hide hr1; have O1 := hide ho1; have Y1 := hide (ho1.ownHi HY.out hb)
    clear hr1 ho1
    by_cases hq : q1 = 0
    · subst hq
      go_wp2_with fail
      go_ret
      exact ⟨_, p1, rfl, ⟨s, rfl⟩, by omega, R1.out, O1.out⟩
    · have hq' : (q1 == 0) = false := by simp [hq]
      clear hq
      go_wp2_with fail
      (with_reducible refine (HP.out p1 s.size _ R1.out (by omega) (by omega) (by omega)).mono ?_); rintro e w2 ⟨v2, p2, rfl, ⟨q2, rfl, hq2, hq2'⟩, hp2, hr2, ho2⟩
      have hq3 := hq2' (by omega)
      clear hq2'
      have R2 := hide (hr2.keep (Below.refl _ _).drew hr2.lt); have O2 := hide ((O1.out.trans ho2).trans (Outside.of_below (lo := b) (hi := b + 1) (Below.refl w2.heap.size w2).drew)); have Y2 := hide ((ho2.ownHi Y1.out hb).below (Below.refl _ _).drew)
      clear hr2 ho2
      have hq4 : q2 ≤ s.size := by omega
      obtain ⟨Q2, rfl⟩ := Int.eq_ofNat_of_zero_le hq2
      go_wp2_with fail
      go_region_law
        (first
          | (go_simp; go_at_call 157; (with_reducible refine (HF.out p2 _ R2.out (by omega) Y2.out).mono ?_); rintro e u1 ⟨v3, p3, rfl, ⟨y3, hy3, rfl⟩, hp3, hr3, ho3⟩; have hz3 := hys y3 hy3; have hc3 : ¬ (9223372036854775807 < min Q2 s.size + y3.size) := (by omega); clear hy3; have R3 := hide hr3; have O3 := hide (O2.out.trans ho3); clear hr3 ho3)
          | (go_simp; go_at_call 156; (with_reducible refine (HP.out p3 2 _ R3.out (by omega) (by omega) (by omega)).mono ?_); rintro e u2 ⟨v4, p4, rfl, ⟨q4, rfl, hq40, hq41⟩, hp4, hr4, ho4⟩; have hq42 := hq41 (by omega); have hq43 : (Q2 : Int) + q4 ≤ s.size := (by omega); have hq44 : 0 ≤ (Q2 : Int) + q4 := (by omega); have hw44 : IntKind.i64.wrap ((Q2 : Int) + q4) = (Q2 : Int) + q4 := (by rw [IntKind.wrap_i64]; omega); have hc44 : ¬ (9223372036854775807 < min Q2 s.size + y3.size + (s.size - ((Q2 : Int) + q4).toNat)) := (by omega); have R4 := hide hr4; have O4 := hide (O3.out.trans ho4); clear hr4 ho4 hq41))
      all_goals
        go_wp2_with fail
        go_ret
        exact ⟨_, p4, rfl, ⟨_, rfl⟩, by omega, R4.out, O4.out⟩

/-- A condition that was drawn, well formed. -/
def QSx (lo : Nat) (v : Value) (w : World) : Prop := ∃ D, D ≤ 5 ∧ QS lo 40 D v w

set_option maxHeartbeats 800000 in
theorem l11SomeS_any (b : Nat) (a : Option Addr) (c : Nat) (xs : List Int) (p : Int) (w : World) (hr : Rd w b a c xs p) (hp : p ≤ 800000000) :
    Calls Try.prog 80 #[.pointer (some ⟨b, 0, none⟩)] w (RetRd w b a c xs p 200 (QSx w.heap.size)) := by
  have HN := hide (fun w' G hG hb h hp => numLit4 b a c xs p 2 3 1 4 w' G hG hb h hp)
  have HD := hide (fun d hd p w' h hp => l11DrawS_any b a c xs d hd p w' h hp)
  have HR0 := hide (hr.allocNew (.cells #[.int .i64 0, .int .i64 0, .int .i64 0, .int .i64 0, .slice none 0 0] 25))
  have HO0 := hide (Outside.of_below (lo := b) (hi := b + 1) (belowAlloc w (.cells #[.int .i64 0, .int .i64 0, .int .i64 0, .int .i64 0, .slice none 0 0] 25)))
  have hlt := hr.lt
  have hne : w.heap.size ≠ b := by omega
  clear hr
  go_enter Try.func80, Try.ntmps80
  go_wp2_with fail
  (with_reducible refine (HN.out _ _ (by simp) (by omega) (HR0.out.allocNew _) (by omega)).mono ?_); rintro e w1 ⟨v1, p1, rfl, ⟨y, hy, rfl⟩, hp1, hr1, ho1⟩
  have HR1 := hide hr1
  have OO1 := hide ((Outside.of_below (lo := b) (hi := b + 1) (belowAlloc (w.alloc (.cells #[.int .i64 0, .int .i64 0, .int .i64 0, .int .i64 0, .slice none 0 0] 25)) (.cells #[.int .i64 2, .int .i64 3, .int .i64 1, .int .i64 4] 3))).trans ho1)
  clear hr1 ho1
  obtain ⟨d, rfl, hd⟩ : ∃ d : Nat, y = (d : Int) ∧ d ≤ 4 := by
    simp only [List.mem_cons, List.not_mem_nil, or_false] at hy
    rcases hy with rfl | rfl | rfl | rfl
    · exact ⟨2, rfl, by decide⟩
    · exact ⟨3, rfl, by decide⟩
    · exact ⟨1, rfl, by decide⟩
    · exact ⟨4, rfl, by decide⟩
  have hpow : (2 : Int) ^ d ≤ 16 ∧ (2 : Int) ^ (d + 1) ≤ 32 ∧ (1 : Int) ≤ 2 ^ d := by
    have : d = 0 ∨ d = 1 ∨ d = 2 ∨ d = 3 ∨ d = 4 := by omega
    rcases this with rfl | rfl | rfl | rfl | rfl <;> decide
  have hsz : w.heap.size < w1.heap.size := by have := OO1.out.size; simp at this; omega
  go_wp2_with fail
  (with_reducible refine (HD.out d (by omega) p1 _ HR1.out (by omega)).mono ?_); rintro e w2 ⟨v2, p2, rfl, ⟨o, t, q, x, s, ks, rfl, hk, hd2, hsh⟩, hp2, hr2, ho2⟩
  have OO2 := hide (OO1.out.trans ho2)
  have HR2 := hide hr2
  have HK := hide hk; have HSH := hide hsh
  clear hr2 ho2 hk hsh
  obtain ⟨hc2, hf2⟩ := ocell OO2.out
  go_wp2_with fail
  refine bodyPost_ret (v := .agg #[.int .i64 o, .int .i64 t, .int .i64 q, .int .i64 x, .slice s.a s.n s.cap]) (by simp [results, Try.results80, go_sem, hc2, hne]) rfl ⟨_, p2, rfl, ⟨d + 1, by omega, o, t, q, x, s, ks, rfl, ?_, by omega, HSH.out⟩, by omega, (((((HR2.out.setNew hlt _ _).setNew hlt _ _).setNew hlt _ _).setNew hlt _ _).setNew hlt _ _), ((((((HO0.out.trans OO2.out).setNew (Nat.le_refl _) _ _).setNew (Nat.le_refl _) _ _).setNew (Nat.le_refl _) _ _).setNew (Nat.le_refl _) _ _).setNew (Nat.le_refl _) _ _)⟩
  exact (((((HK.out.set2 (g := w.heap.size) hsz _ _).set2 hsz _ _).set2 hsz _ _).set2 hsz _ _).set2 hsz _ _).low (by omega)

def textsPC : List ByteArray := [⟨#[]⟩, ⟨#[40]⟩, ⟨#[41]⟩, ⟨#[38]⟩, ⟨#[124]⟩, ⟨#[126]⟩, ⟨#[48, 97, 61, 49]⟩, ⟨#[120]⟩, ⟨#[61]⟩]

set_option maxRecDepth 100000 in
set_option maxHeartbeats 1600000 in
theorem DrawParseCond_any (v : Value) (xs0 : List Int) (w : World) (hx : Rep ByteE w v xs0) (hb : ∀ x ∈ xs0, 0 ≤ x ∧ x ≤ 255) :
    Calls Try.prog 20 #[v] w fun e w' => (∃ y : ByteArray, e = .returned (.string y)) ∧ Below w.heap.size w w' := by
  have HO := hide (l17Open_any v xs0 w hx hb)
  clear hx hb
  go_enter Try.func20, Try.ntmps20
  go_wp2_with fail
  (with_reducible refine HO.out.mono ?_); rintro e w1 ⟨b, a, c, xs, rfl, hr1, hbs, hb1⟩
  have R1 := hide hr1; have HB1 := hide hb1
  have hlt1 := hr1.lt
  clear hr1 hb1 HO
  go_wp2_with fail
  (with_reducible refine (l11SomeS_any b a c xs 0 _ R1.out (by omega)).mono ?_); rintro e w2 ⟨v2, p2, rfl, ⟨D, hD, o, t, q, x, s, ks, rfl, hK, hd, hsh⟩, hp2, hr2, ho2⟩
  have R2 := hide hr2; have O2 := hide ho2; have HB2 := hide (HB1.out.trans (below_of_outside ho2 hbs HB1.out.size))
  have HT := hide (l11Text_any D (by omega) o t q x ks s.a s.n s.cap w2 (hK.low (Nat.zero_le _)) hsh)
  have hlen := textF_len D (.mk o t q x ks)
  have hpow : 2 ^ D ≤ 32 := by
    have : D = 0 ∨ D = 1 ∨ D = 2 ∨ D = 3 ∨ D = 4 ∨ D = 5 := by omega
    rcases this with rfl | rfl | rfl | rfl | rfl | rfl <;> decide
  have hsz : (strOfNums (textF D (.mk o t q x ks))).size ≤ 1048576 := by rw [size_strN]; omega
  clear hr2 ho2 hK hsh hlen hpow R1
  generalize strOfNums (textF D (.mk o t q x ks)) = TX at *
  have hlt2 := R2.out.lt
  go_wp2_with fail
  (with_reducible refine HT.out.mono ?_); rintro e w3 ⟨rfl, hb3⟩
  have R3 := hide ((R2.out.keep hb3 hlt2).allocNew (.cells #[.string ⟨#[]⟩, .string ⟨#[40]⟩, .string ⟨#[41]⟩, .string ⟨#[38]⟩, .string ⟨#[124]⟩, .string ⟨#[126]⟩, .string ⟨#[48, 97, 61, 49]⟩, .string ⟨#[120]⟩, .string ⟨#[61]⟩] 9))
  have hb3s := hb3.size
  have HB3 := hide (((HB2.out.trans (hb3.mono HB2.out.size)).alloc (Nat.le_trans HB2.out.size hb3s) (.cells #[.string ⟨#[]⟩, .string ⟨#[40]⟩, .string ⟨#[41]⟩, .string ⟨#[38]⟩, .string ⟨#[124]⟩, .string ⟨#[126]⟩, .string ⟨#[48, 97, 61, 49]⟩, .string ⟨#[120]⟩, .string ⟨#[61]⟩] 9)))
  have L3 := hide (Own.lit (E := StrE) (T := 9) (w := w3) (base := w3.heap.size) (Nat.le_refl _) textsPC #[.string ⟨#[]⟩, .string ⟨#[40]⟩, .string ⟨#[41]⟩, .string ⟨#[38]⟩, .string ⟨#[124]⟩, .string ⟨#[126]⟩, .string ⟨#[48, 97, 61, 49]⟩, .string ⟨#[120]⟩, .string ⟨#[61]⟩] 9 rfl rfl (by omega))
  have HBD := hide (l1Bend_any b a c xs p2 TX _ textsPC _ _ R3.out (by omega) hsz L3.out (by decide) (by decide) (by omega) (by decide))
  clear hb3 HT R2 O2 HB2
  go_wp2_with fail
  (with_reducible refine HBD.out.mono ?_); rintro e w4 ⟨v4, p4, rfl, ⟨y, rfl⟩, hp4, hr4, ho4⟩
  go_wp2_with fail
  go_ret
  exact ⟨⟨y, rfl⟩, HB3.out.trans (below_of_outside ho4 hbs HB3.out.size)⟩

end Go.Proofs.Ytpnmphfdfadlcaa

namespace Go.Proofs.Ytpnmphfdfadlcaa
open Go.RowKit

theorem parseV_ok {s : ByteArray} (h : (parseV s).2 = true) : fmtC (parseV s).1 = s := by
  unfold parseV at *
  by_cases hs : s.size > 300
  · rw [if_pos hs] at h; cases h
  · rw [if_neg hs] at *; exact (parI_valid h).2

/-- What ParseCond hands back, its parts written out. -/
def RetPVr (w : World) (o t q x : Int) (ks : List Cd) (b : Bool) (e : Ending) (w' : World) : Prop :=
  ∃ s : Slc, e = .returned (.tuple #[.agg #[.int .i64 o, .int .i64 t, .int .i64 q, .int .i64 x, .slice s.a s.n s.cap], .bool b]) ∧ RepK 0 w' s ks ∧ Below w.heap.size w w'
theorem RetPV.raw {w : World} {o t q x : Int} {ks : List Cd} {b : Bool} {e : Ending} {w' : World} (h : RetPV w (.mk o t q x ks, b) e w') : RetPVr w o t q x ks b e w' := by
  obtain ⟨o', t', q', x', ks', s, e1, h1, h2, h3⟩ := h
  simp only [Cd.mk.injEq] at e1
  obtain ⟨rfl, rfl, rfl, rfl, rfl⟩ := e1
  exact ⟨s, h1, h2.rep.low (Nat.zero_le _), h3⟩

/-- The second half: a text, parsed twice. -/
def Twice (y : ByteArray) : Prop := ∃ (o t q x : Int) (ks : List Cd) (b : Bool), (b = true → fmtC (.mk o t q x ks) = y) ∧ (∀ w', Calls Try.prog 15 #[.string y] w' (RetPVr w' o t q x ks b)) ∧ (∀ w', Calls Try.prog 21 #[.string y] w' (RetPVr w' o t q x ks b))
theorem twice (y : ByteArray) : Twice y := by
  have h1 := fun w' => ParseCond_any y w'
  have h2 := fun w' => sParseCond_any y w'
  have h3 := @parseV_ok y
  generalize parseV y = r at *
  obtain ⟨⟨o, t, q, x, ks⟩, b⟩ := r
  exact ⟨o, t, q, x, ks, b, h3, fun w' => (h1 w').mono fun _ _ h => h.raw, fun w' => (h2 w').mono fun _ _ h => h.raw⟩

set_option maxRecDepth 100000 in
set_option maxHeartbeats 6400000 in
theorem lawCondText (v : Value) (xs : List Int) (v2 : Value) (ys : List Int) (w : World) (h : Rep ByteE w v xs ∧ ∀ x ∈ xs, 0 ≤ x ∧ x ≤ 255) (h2 : Rep ByteE w v2 ys ∧ ∀ x ∈ ys, 0 ≤ x ∧ x ≤ 255) :
    Calls Try.prog 3 #[v, v2] w fun e w' => e = .returned (.bool true) ∧ Below w.heap.size w w' := by
  obtain ⟨hx, hb⟩ := h
  obtain ⟨hy, hb2⟩ := h2
  obtain ⟨a0, c0, rfl, -, hm, -, hx⟩ := hx.open
  obtain ⟨a1, c1, rfl, -, hm1, -, hy⟩ := hy.open
  have HD := hide (DrawFormatCond_any (.slice a0 xs.length c0) xs w hx hb)
  have HDP := hide (fun w' h => DrawParseCond_any (.slice a1 ys.length c1) ys w' h hb2)
  have HY := hide hy
  clear hx hb hy hb2
  generalize xs.length = n at *
  generalize ys.length = m at *
  by_cases hl : (n : Int) > 1048576
  · go_enter Try.func3, Try.ntmps3
    go_wp2_with fail
    go_ret
    exact ⟨rfl, Below.refl _ _⟩
  have hl' : decide ((n : Int) > 1048576) = false := decide_eq_false hl
  by_cases hl2 : (m : Int) > 1048576
  · go_enter Try.func3, Try.ntmps3
    go_wp2_with fail
    go_ret
    exact ⟨rfl, Below.refl _ _⟩
  have hl2' : decide ((m : Int) > 1048576) = false := decide_eq_false hl2
  go_enter Try.func3, Try.ntmps3
  go_wp2_with fail
  (with_reducible refine HD.out.mono ?_); rintro e w1 ⟨o, t, q, x, s, ks, rfl, hF, hd, hb1⟩
  have hA := belowAlloc w1 (.cells #[.int .i64 o, .int .i64 t, .int .i64 q, .int .i64 x, .slice s.a s.n s.cap] 25)
  have BC := hide (BoxC.new w1 o t q x s.a s.n s.cap 25)
  have HK := hide (hF.rep.below hA)
  have H1 := hide (hb1.trans (hA.mono hb1.size))
  have HPV := parseV_fmt (.mk o t q x ks) (by show descs ks ≤ 70; omega)
  have HPA := fun w' => ParseCond_any (fmtC (.mk o t q x ks)) w'
  have hde : descs ks ≤ 1048576 := by omega
  have HF1 := hide (fun w' h => FormatCond_any o t q x ks s.a s.n s.cap w' h)
  have HF2 := hide (fun w' h => FormatCondS_any o t q x ks s.a s.n s.cap w' h hde)
  have HV1 := hide (fun w' h => CondValid_raw o t q x ks s.a s.n s.cap w' h)
  have HV2 := hide (fun w' h => CondValidS_raw o t q x ks s.a s.n s.cap w' h hde)
  clear hF hd hb1 hde HD hA
  go_wp2_with fail
  generalize hW : w1.alloc (.cells #[.int .i64 o, .int .i64 t, .int .i64 q, .int .i64 x, .slice s.a s.n s.cap] 25) = W1 at *
  clear hW
  generalize w1.heap.size = g1 at *
  (with_reducible refine (HF1.out _ HK.out).mono ?_); rintro e w2 ⟨rfl, hb2⟩
  have HK2 := hide (HK.out.below hb2); have BC2 := hide (BC.out.below hb2); have H2 := hide (H1.out.trans (hb2.mono H1.out.size))
  clear HK BC H1 hb2
  obtain ⟨V, hV⟩ : ∃ V, validC (.mk o t q x ks) = V := ⟨_, rfl⟩
  obtain ⟨T, hT⟩ : ∃ T, fmtC (.mk o t q x ks) = T := ⟨_, rfl⟩
  rw [hV] at HPV HV1 HV2
  rw [hT] at HPV HPA HF2 ⊢
  rw [HPV] at HPA
  clear HPV HF1 hT
  obtain ⟨lC, eC0, eC1, eC2, eC3, eC4⟩ := BC2.out
  cases V
  · have HPI : Hid (∀ w', Calls Try.prog 15 #[.string T] w' (RetPVr w' 0 0 0 0 [] false)) := hide (fun w' => (HPA w').mono fun _ _ h => RetPV.raw (by simpa [zeroC] using h))
    clear HPA
    go_wp2_with fail
    (with_reducible refine (HPI.out _).mono ?_); rintro e w3 ⟨s3, rfl, hk3, hb3⟩
    have hA3 := belowAlloc w3 (.cells #[.int .i64 0, .int .i64 0, .int .i64 0, .int .i64 0, .slice s3.a s3.n s3.cap] 25)
    have hb4 := hb3.trans (hA3.mono hb3.size)
    have BP4 := hide (BoxC.new w3 0 0 0 0 s3.a s3.n s3.cap 25)
    have HKP4 := hide (hk3.below hA3)
    have HK4 := hide (HK2.out.below hb4); have BC4 := hide (BC2.out.below hb4); have H4 := hide (H2.out.trans (hb4.mono H2.out.size))
    clear HK2 BC2 H2 hb3 hk3 hA3 hb4 lC eC0 eC1 eC2 eC3 eC4 HPI
    generalize hW : w3.alloc (.cells #[.int .i64 0, .int .i64 0, .int .i64 0, .int .i64 0, .slice s3.a s3.n s3.cap] 25) = W4 at *
    have hg3 : w3.heap.size < W4.heap.size := by rw [← hW]; simp
    have hW' := hide hW
    clear hW
    obtain ⟨lC, eC0, eC1, eC2, eC3, eC4⟩ := BC4.out
    obtain ⟨lP, eP0, eP1, eP2, eP3, eP4⟩ := BP4.out
    have A1 := hide (fun y : BW W4 => HF2.out y.val (HK4.out.below y.prop))
    have A2 := hide (fun y : BW W4 => HV1.out y.val (HK4.out.below y.prop))
    have A3 := hide (fun y : BW W4 => HV2.out y.val (HK4.out.below y.prop))
    have A4 := True.intro
    clear HF2 HV1 HV2
    go_wp2_with fail
    rw [hW'.out]
    refine wp_region_bw (by kernel_rfl) (by kernel_rfl) ?_
    repeat (go_big_quiet_step (first | (go_at_call 16; exact Calls.bw (A1.out _)) | (go_at_call 17; exact Calls.bw (A2.out _)) | (go_at_call 18; exact Calls.bw (A3.out _))))
    refine wpQuiet_nil ?_
    intro w5 hb5
    have H5 := hide (H4.out.trans (hb5.mono H4.out.size))
    have HY5 := hide (HY.out.below H5.out)
    clear A1 A2 A3 HK4 BC4 BP4 HKP4 H4 hb5 lC eC0 eC1 eC2 eC3 eC4 lP eP0 eP1 eP2 eP3 eP4
    go_wp2_with fail
    (with_reducible refine (HDP.out _ HY5.out).mono ?_); rintro e w6 ⟨⟨y, rfl⟩, hb6⟩
    have H6 := hide (H5.out.trans (hb6.mono H5.out.size))
    obtain ⟨o2, t2, q2, x2, ks2, b2, hyy, hp1, hp2⟩ := twice y
    have HYY := hide hyy; have P1 := hide hp1; have P2 := hide hp2
    clear hyy hp1 hp2 hb6 H5 HY5
    go_wp2_with fail
    (with_reducible refine (P1.out _).mono ?_); rintro e w7 ⟨s7, rfl, hk7, hb7⟩
    have hA7 := belowAlloc w7 (.cells #[.int .i64 o2, .int .i64 t2, .int .i64 q2, .int .i64 x2, .slice s7.a s7.n s7.cap] 25)
    have B8 := hide (BoxC.new w7 o2 t2 q2 x2 s7.a s7.n s7.cap 25)
    have K8 := hide (hk7.below hA7)
    have H8 := hide (H6.out.trans ((hb7.trans (hA7.mono hb7.size)).mono H6.out.size))
    clear hk7 hb7 hA7 H6
    go_wp2_with fail
    (with_reducible refine (P2.out _).mono ?_); rintro e w9 ⟨s9, rfl, hk9, hb9⟩
    have hA9 := belowAlloc w9 (.cells #[.int .i64 o2, .int .i64 t2, .int .i64 q2, .int .i64 x2, .slice s9.a s9.n s9.cap] 25)
    have hb10 := hb9.trans (hA9.mono hb9.size)
    have K10 := hide (hk9.below hA9)
    have B8' := hide (B8.out.below hb10); have K8' := hide (K8.out.below hb10); have H10 := hide (H8.out.trans (hb10.mono H8.out.size))
    obtain ⟨l8, e80, e81, e82, e83, e84⟩ := B8.out.below hb9
    clear hk9 hb9 hA9 hb10 B8 K8 H8
    have HS := hide (CondSame_any o2 t2 q2 x2 o2 t2 q2 x2 ks2 ks2 s7.a s9.a s7.n s7.cap s9.n s9.cap true _ K8'.out K10.out (by simp))
    have HF := hide (fun w' h => FormatCond_any o2 t2 q2 x2 ks2 s7.a s7.n s7.cap w' h)
    clear K10
    cases b2
    · go_wp2_with fail
      (with_reducible refine HS.out.mono ?_); rintro e w11 ⟨rfl, hb11⟩
      go_wp2_with fail
      go_ret
      exact ⟨rfl, H10.out.trans (hb11.mono H10.out.size)⟩
    · have hyy := HYY.out rfl
      rw [hyy] at HF
      go_wp2_with fail
      (with_reducible refine HS.out.mono ?_); rintro e w11 ⟨rfl, hb11⟩
      have H11 := hide (H10.out.trans (hb11.mono H10.out.size))
      have K11 := hide (K8'.out.below hb11)
      obtain ⟨l8, e80, e81, e82, e83, e84⟩ := B8'.out.below hb11
      go_wp2_with fail
      (with_reducible refine (HF.out _ K11.out).mono ?_); rintro e w12 ⟨rfl, hb12⟩
      go_wp2_with fail
      go_ret
      exact ⟨by simp, H11.out.trans (hb12.mono H11.out.size)⟩
  · have HPI : Hid (∀ w', Calls Try.prog 15 #[.string T] w' (RetPVr w' o t q x ks true)) := hide (fun w' => (HPA w').mono fun _ _ h => RetPV.raw (by simpa [zeroC] using h))
    clear HPA
    go_wp2_with fail
    (with_reducible refine (HPI.out _).mono ?_); rintro e w3 ⟨s3, rfl, hk3, hb3⟩
    have hA3 := belowAlloc w3 (.cells #[.int .i64 o, .int .i64 t, .int .i64 q, .int .i64 x, .slice s3.a s3.n s3.cap] 25)
    have hb4 := hb3.trans (hA3.mono hb3.size)
    have BP4 := hide (BoxC.new w3 o t q x s3.a s3.n s3.cap 25)
    have HKP4 := hide (hk3.below hA3)
    have HK4 := hide (HK2.out.below hb4); have BC4 := hide (BC2.out.below hb4); have H4 := hide (H2.out.trans (hb4.mono H2.out.size))
    clear HK2 BC2 H2 hb3 hk3 hA3 hb4 lC eC0 eC1 eC2 eC3 eC4 HPI
    generalize hW : w3.alloc (.cells #[.int .i64 o, .int .i64 t, .int .i64 q, .int .i64 x, .slice s3.a s3.n s3.cap] 25) = W4 at *
    have hg3 : w3.heap.size < W4.heap.size := by rw [← hW]; simp
    have hW' := hide hW
    clear hW
    obtain ⟨lC, eC0, eC1, eC2, eC3, eC4⟩ := BC4.out
    obtain ⟨lP, eP0, eP1, eP2, eP3, eP4⟩ := BP4.out
    have A1 := hide (fun y : BW W4 => HF2.out y.val (HK4.out.below y.prop))
    have A2 := hide (fun y : BW W4 => HV1.out y.val (HK4.out.below y.prop))
    have A3 := hide (fun y : BW W4 => HV2.out y.val (HK4.out.below y.prop))
    have A4 := hide (fun y : BW W4 => CondSame_any o t q x o t q x ks ks s3.a s.a s3.n s3.cap s.n s.cap true y.val (HKP4.out.below y.prop) (HK4.out.below y.prop) (by simp))
    clear HF2 HV1 HV2
    go_wp2_with fail
    rw [hW'.out]
    refine wp_region_bw (by kernel_rfl) (by kernel_rfl) ?_
    repeat (go_big_quiet_step (first | (go_at_call 16; exact Calls.bw (A1.out _)) | (go_at_call 17; exact Calls.bw (A2.out _)) | (go_at_call 18; exact Calls.bw (A3.out _)) | (go_at_call 19; exact Calls.bw (A4.out _))))
    refine wpQuiet_nil ?_
    intro w5 hb5
    have H5 := hide (H4.out.trans (hb5.mono H4.out.size))
    have HY5 := hide (HY.out.below H5.out)
    clear A1 A2 A3 HK4 BC4 BP4 HKP4 H4 hb5 lC eC0 eC1 eC2 eC3 eC4 lP eP0 eP1 eP2 eP3 eP4
    go_wp2_with fail
    (with_reducible refine (HDP.out _ HY5.out).mono ?_); rintro e w6 ⟨⟨y, rfl⟩, hb6⟩
    have H6 := hide (H5.out.trans (hb6.mono H5.out.size))
    obtain ⟨o2, t2, q2, x2, ks2, b2, hyy, hp1, hp2⟩ := twice y
    have HYY := hide hyy; have P1 := hide hp1; have P2 := hide hp2
    clear hyy hp1 hp2 hb6 H5 HY5
    go_wp2_with fail
    (with_reducible refine (P1.out _).mono ?_); rintro e w7 ⟨s7, rfl, hk7, hb7⟩
    have hA7 := belowAlloc w7 (.cells #[.int .i64 o2, .int .i64 t2, .int .i64 q2, .int .i64 x2, .slice s7.a s7.n s7.cap] 25)
    have B8 := hide (BoxC.new w7 o2 t2 q2 x2 s7.a s7.n s7.cap 25)
    have K8 := hide (hk7.below hA7)
    have H8 := hide (H6.out.trans ((hb7.trans (hA7.mono hb7.size)).mono H6.out.size))
    clear hk7 hb7 hA7 H6
    go_wp2_with fail
    (with_reducible refine (P2.out _).mono ?_); rintro e w9 ⟨s9, rfl, hk9, hb9⟩
    have hA9 := belowAlloc w9 (.cells #[.int .i64 o2, .int .i64 t2, .int .i64 q2, .int .i64 x2, .slice s9.a s9.n s9.cap] 25)
    have hb10 := hb9.trans (hA9.mono hb9.size)
    have K10 := hide (hk9.below hA9)
    have B8' := hide (B8.out.below hb10); have K8' := hide (K8.out.below hb10); have H10 := hide (H8.out.trans (hb10.mono H8.out.size))
    obtain ⟨l8, e80, e81, e82, e83, e84⟩ := B8.out.below hb9
    clear hk9 hb9 hA9 hb10 B8 K8 H8
    have HS := hide (CondSame_any o2 t2 q2 x2 o2 t2 q2 x2 ks2 ks2 s7.a s9.a s7.n s7.cap s9.n s9.cap true _ K8'.out K10.out (by simp))
    have HF := hide (fun w' h => FormatCond_any o2 t2 q2 x2 ks2 s7.a s7.n s7.cap w' h)
    clear K10
    cases b2
    · go_wp2_with fail
      (with_reducible refine HS.out.mono ?_); rintro e w11 ⟨rfl, hb11⟩
      go_wp2_with fail
      go_ret
      exact ⟨rfl, H10.out.trans (hb11.mono H10.out.size)⟩
    · have hyy := HYY.out rfl
      rw [hyy] at HF
      go_wp2_with fail
      (with_reducible refine HS.out.mono ?_); rintro e w11 ⟨rfl, hb11⟩
      have H11 := hide (H10.out.trans (hb11.mono H10.out.size))
      have K11 := hide (K8'.out.below hb11)
      obtain ⟨l8, e80, e81, e82, e83, e84⟩ := B8'.out.below hb11
      go_wp2_with fail
      (with_reducible refine (HF.out _ K11.out).mono ?_); rintro e w12 ⟨rfl, hb12⟩
      go_wp2_with fail
      go_ret
      exact ⟨by simp, H11.out.trans (hb12.mono H11.out.size)⟩

end Go.Proofs.Ytpnmphfdfadlcaa

namespace Go.Proofs.Ytpnmphfdfadlcaa
open Go.RowKit Go.ChangeShapes Go.WideShapes Go.ChangeAt
open Go.ChangeMaps (open_string)

theorem fnCondText_reads : ∀ t ∈ Try.f3.params.toList, Try.prog.readableRec t = true ∧ t < Try.prog.types.size := by
  intro t ht
  have : t = 22 := by simpa [Try.params3] using ht
  subst this
  exact ⟨by kernel_rfl, of_decide_eq_true (by kernel_rfl)⟩

set_option maxRecDepth 100000 in
theorem fnCondText_lifted (os : Os) (started : os.Started) (H : Type) (enc : TypeId × Value → H) :
    ReturnsInHanded {} Try.checked os 3 .any (Rows.fnCondTextSpec.pre6 enc Try.prog Try.f3 Rows.fnCondTextRow.domain false) (Rows.fnCondTextSpec.post enc Try.prog Try.f3 false true false false) := by
  refine returnsInHanded_of_change (C := Try.checked) Try.own started (by kernel_rfl) Try.func3
    (ChangeSpec.witness6 (enc := enc) (C := Try.checked) false ⟨#[], #[.slice none 0 0, .slice none 0 0], []⟩ 8 (by kernel_rfl) (by kernel_rfl) (by kernel_rfl) (by kernel_rfl)) ?_
  intro W base args ds gs before hval0 hW hcnd _
  have hval : ∀ (j : Nat) t v, Try.f3.params[j]? = some t → args[j]? = some v → Value.okWide Try.prog W .any base t v := hval0
  have hW' := hW
  obtain ⟨p, q, hA0, hV, rfl, hfz, hnd⟩ := hW
  have hA : DataW.TrodAll enc Try.prog W 0 (fun _ => true) true Try.f3.params.toList args.toList ds p := hA0
  rw [Try.params3] at hA hval
  obtain ⟨v0, v1, d0, d1, p0, p1, rfl, rfl, rfl, h0, h1⟩ := trodAll_two hA
  obtain ⟨rfl, rfl⟩ := trodVars_none hV
  obtain ⟨B0, hB0⟩ := bytes_of_trod (okWide_slice Try.underlying22 (hval 0 22 v0 rfl rfl)) h0
  obtain ⟨B1, hB1⟩ := bytes_of_trod (okWide_slice Try.underlying22 (hval 1 22 v1 rfl rfl)) h1
  refine (lawCondText v0 B0 v1 B1 W hB0 hB1).mono fun e W' ⟨he, hb⟩ => ?_
  exact ⟨_, he, post_law Try.laidOut fnCondText_reads rfl rfl (by kernel_rfl) Try.underlying4 hW' hb⟩

theorem fnCondText_holds : Rows.FnCondTextSaid :=
  OpenClaim.holds_of_wide 3 Try.f3 rfl rfl rfl rfl rfl rfl rfl ⟨rfl, rfl, rfl, rfl, rfl⟩ rfl rfl rfl rfl rfl (by kernel_rfl) Try.func3 (by kernel_rfl)
    (of_decide_eq_true (by kernel_rfl)) (by unfold Func.isWrapper; first | (rw [if_pos (by decide +kernel)]; kernel_rfl) | (rw [if_neg (by decide +kernel)]; exact ⟨rfl, rfl⟩))
    (fun os started H enc _ => fnCondText_lifted os started H enc)

end Go.Proofs.Ytpnmphfdfadlcaa
