/-
  Conditions that are drawn. Condition: not too many numbers were taken.
-/
import Derived.Test.YtpnmphfdfadlcaaD1
import Derived.Test.YtpnmphfdfadlcaaT1
namespace Go.Proofs.Ytpnmphfdfadlcaa
open Go.RowKit

theorem belowAlloc (w : World) (o : Obj) : Below w.heap.size w (w.alloc o) := (Below.refl _ _).alloc (Nat.le_refl _) o

theorem ocell {b : Nat} {W w1 : World} (h : Outside b (b + 1) W w1) : (∀ g o, g < W.heap.size → g ≠ b → w1.cell? ⟨g, o, none⟩ = W.cell? ⟨g, o, none⟩) ∧ (∀ g o, g < W.heap.size → g ≠ b → w1.frozen? ⟨g, o, none⟩ = W.frozen? ⟨g, o, none⟩) := by
  refine ⟨fun g o hg hne => cell_of_block (h.block g hg (by omega)) o, fun g o hg hne => ?_⟩
  have := h.block g hg (by omega)
  unfold World.frozen?
  rw [this]

theorem Outside.setNew {lo hi : Nat} {w w' : World} (h : Outside lo hi w w') {g : Nat} (hg : w.heap.size ≤ g) (j : Nat) (v : Value) : Outside lo hi w (w'.setCell ⟨g, j, none⟩ v) :=
  ⟨h.os, h.tape, h.output, by simpa using h.size, fun k hk hlh => (heap_setCell_other w' ⟨g, j, none⟩ k v (fun e => by simp at e; omega)).trans (h.block k hk hlh)⟩

theorem Outside.allocNew {lo hi : Nat} {w w' : World} (h : Outside lo hi w w') (o : Obj) : Outside lo hi w (w'.alloc o) := h.trans (Outside.of_below (belowAlloc _ _))

theorem Rd.setNew {w : World} {b : Nat} {a : Option Addr} {c : Nat} {xs : List Int} {p : Int} (h : Rd w b a c xs p) {g : Nat} (hg : b < g) (j : Nat) (v : Value) : Rd (w.setCell ⟨g, j, none⟩ v) b a c xs p :=
  h.keep (B := b + 1) ((Below.refl _ _).setCell (show b + 1 ≤ g from hg) v) (Nat.lt_succ_self _)
theorem Rd.allocNew {w : World} {b : Nat} {a : Option Addr} {c : Nat} {xs : List Int} {p : Int} (h : Rd w b a c xs p) (o : Obj) : Rd (w.alloc o) b a c xs p :=
  h.keep (belowAlloc w o) h.lt

theorem RepK.outside {lo b : Nat} {w w' : World} {s : Slc} {ks : List Cd} (h : RepK lo w s ks) (ho : Outside b (b + 1) w w') (hb : b < lo) : RepK lo w' s ks :=
  h.keep fun q hq hqs => ho.block q hqs (by omega)
theorem RepK.allocNew {lo : Nat} {w : World} {s : Slc} {ks : List Cd} (h : RepK lo w s ks) (o : Obj) : RepK lo (w.alloc o) s ks := h.below (belowAlloc w o)

/-- A literal of one condition. -/
theorem RepK.one {lo : Nat} {w : World} {o t q x : Int} {s : Slc} {ks : List Cd} (h : RepK lo w s ks) (hlo : lo ≤ w.heap.size) (T : TypeId) :
    RepK lo (w.alloc (.cells #[.int .i64 o, .int .i64 t, .int .i64 q, .int .i64 x, .slice s.a s.n s.cap] T)) ⟨some ⟨w.heap.size, 0, none⟩, 1, 1⟩ [.mk o t q x ks] := by
  refine ⟨[⟨o, t, q, x, s⟩], rfl, ⟨_, 1, rfl, Nat.le_refl _, by unfold maxLen; omega, fun i u hu => ?_⟩, .inr fun b f e => by simp at e; omega, fun i u k hu hk => ?_⟩
  · refine ⟨w.heap.size, 0, rfl, fun j v hv => ?_⟩
    cases i with
    | zero =>
      simp at hu; subst hu
      rw [cell_of_row _ _ _ _ T (0, 0) (heap_alloc_new w _)]
      simpa [CsE] using hv
    | succ i => simp at hu
  · cases i with
    | zero =>
      simp at hu hk; subst hu; subst hk
      exact (h.allocNew _).cond o t q x
    | succ i => simp at hu

/-- A literal of two conditions. -/
theorem RepK.two {lo : Nat} {w : World} {o t q x o' t' q' x' : Int} {s s' : Slc} {ks ks' : List Cd} (h : RepK lo w s ks) (h' : RepK lo w s' ks') (hlo : lo ≤ w.heap.size) (T : TypeId) :
    RepK lo (w.alloc (.cells #[.int .i64 o, .int .i64 t, .int .i64 q, .int .i64 x, .slice s.a s.n s.cap, .int .i64 o', .int .i64 t', .int .i64 q', .int .i64 x', .slice s'.a s'.n s'.cap] T)) ⟨some ⟨w.heap.size, 0, none⟩, 2, 2⟩ [.mk o t q x ks, .mk o' t' q' x' ks'] := by
  refine ⟨[⟨o, t, q, x, s⟩, ⟨o', t', q', x', s'⟩], rfl, ⟨_, 2, rfl, Nat.le_refl _, by unfold maxLen; omega, fun i u hu => ?_⟩, .inr fun b f e => by simp at e; omega, fun i u k hu hk => ?_⟩
  · refine ⟨w.heap.size, 0, rfl, fun j v hv => ?_⟩
    match i, hu with
    | 0, hu =>
      simp at hu; subst hu
      rw [cell_of_row _ _ _ _ T (0, 0) (heap_alloc_new w _)]
      have hj : j < 5 := by have := (List.getElem?_eq_some_iff.1 hv).1; simpa [CsE] using this
      match j, hj, hv with
      | 0, _, hv => simpa [CsE] using hv
      | 1, _, hv => simpa [CsE] using hv
      | 2, _, hv => simpa [CsE] using hv
      | 3, _, hv => simpa [CsE] using hv
      | 4, _, hv => simpa [CsE] using hv
    | 1, hu =>
      simp at hu; subst hu
      rw [cell_of_row _ _ _ _ T (0, 0) (heap_alloc_new w _)]
      have hj : j < 5 := by have := (List.getElem?_eq_some_iff.1 hv).1; simpa [CsE] using this
      match j, hj, hv with
      | 0, _, hv => simpa [CsE] using hv
      | 1, _, hv => simpa [CsE] using hv
      | 2, _, hv => simpa [CsE] using hv
      | 3, _, hv => simpa [CsE] using hv
      | 4, _, hv => simpa [CsE] using hv
    | i + 2, hu => simp at hu
  · match i, hu, hk with
    | 0, hu, hk => simp at hu hk; subst hu; subst hk; exact (h.allocNew _).cond o t q x
    | 1, hu, hk => simp at hu hk; subst hu; subst hk; exact (h'.allocNew _).cond o' t' q' x'
    | i + 2, hu, _ => simp at hu

theorem descs_one (c : Cd) : descs [c] = descs c.kids + 1 := by
  have : descs [c] = c.desc + 1 := by simp [descs]
  rw [this, Cd.desc_eq]
theorem descs_two (c d : Cd) : descs [c, d] = (descs c.kids + 1) + (descs d.kids + 1) := by
  have : descs [c, d] = (c.desc + 1) + (d.desc + 1) := by simp [descs]
  rw [this, Cd.desc_eq, Cd.desc_eq]
theorem RepK.set2 {lo : Nat} {w : World} {s : Slc} {ks : List Cd} (h : RepK lo w s ks) {g : Nat} (hg : g < lo) (j : Nat) (u : Value) : RepK lo (w.setCell ⟨g, j, none⟩ u) s ks :=
  h.keep fun q hq _ => heap_setCell_other w ⟨g, j, none⟩ q u (fun e => by simp at e; omega)

theorem rep_lit (w : World) (ys : List Int) (T : TypeId) (h : ys.length ≤ 100) : Rep IntE (w.alloc (.cells (ys.map (Value.int .i64)).toArray T)) (.slice (some ⟨w.heap.size, 0, none⟩) ys.length ys.length) ys := by
  refine ⟨_, _, rfl, Nat.le_refl _, by unfold maxLen; omega, fun i x hx => ⟨w.heap.size, 0, rfl, fun j u hu => ?_⟩⟩
  rw [cell_of_row _ _ _ _ T (0, 0) (heap_alloc_new w _)]
  have hj : j = 0 := by have := (List.getElem?_eq_some_iff.1 hu).1; simp [IntE] at this; omega
  subst hj
  simp [IntE] at hu
  simp [IntE, hx, hu]

/-- A condition that was drawn: all of it new. -/
def QC (lo : Nat) (K : Int) (v : Value) (w : World) : Prop := ∃ (o t q x : Int) (s : Slc) (ks : List Cd), v = .agg #[.int .i64 o, .int .i64 t, .int .i64 q, .int .i64 x, .slice s.a s.n s.cap] ∧ RepK lo w s ks ∧ (descs ks : Int) + 2 ≤ K

theorem pow_pos2 (d : Nat) : (1 : Int) ≤ 2 ^ d := by
  induction d with
  | zero => simp
  | succ d ih => rw [Int.pow_succ]; omega

set_option maxRecDepth 100000 in
set_option maxHeartbeats 6400000 in
theorem l11Draw_any (b : Nat) (a : Option Addr) (c : Nat) (xs : List Int) : ∀ (d : Nat), d ≤ 10 → ∀ (p : Int) (w : World), Rd w b a c xs p → p + 10 * 2 ^ d ≤ 900000000 →
    Calls Try.prog 158 #[.pointer (some ⟨b, 0, none⟩), .int .i64 d] w (RetRd w b a c xs p (10 * 2 ^ d - 5) (QC w.heap.size (2 ^ (d + 1)))) := by
  intro d
  induction d with
  | zero =>
    intro _ p w hr hp
    rw [Int.pow_zero, Int.mul_one] at hp
    have HR0 := hide (hr.allocNew (.cells #[.int .i64 0, .int .i64 0, .int .i64 0, .int .i64 0, .slice none 0 0] 25))
    have HP := hide (fun (p : Int) n w' h hp (hn : n ≤ 100) (hn0 : 0 ≤ n) => pick_any b a c xs p n w' h hp (by omega) (by omega))
    have hlt := hr.lt
    have hne : w.heap.size ≠ b := by omega
    have HO0 := hide (Outside.of_below (lo := b) (hi := b + 1) (belowAlloc w (.cells #[.int .i64 0, .int .i64 0, .int .i64 0, .int .i64 0, .slice none 0 0] 25)))
    clear hr
    go_enter Try.func158, Try.ntmps158
    go_wp2_with fail
    (with_reducible refine (HP.out p _ _ HR0.out (by omega) (by omega) (by omega)).mono ?_); rintro e w1 ⟨v1, p1, rfl, ⟨q1, rfl, hq1, hr'1⟩, hp1, hr1, ho1⟩
    clear hr'1
    have HR1 := hide hr1
    have OO1 := hide ho1
    clear hr1 ho1
    obtain ⟨hc1, hf1⟩ := ocell OO1.out
    by_cases hl : q1 = 0
    · have hl' : (q1 == 0) = true := by rw [hl]; rfl
      clear hl
      go_wp2_with fail
      (with_reducible refine (HP.out p1 _ _ HR1.out (by omega) (by omega) (by omega)).mono ?_); rintro e w2 ⟨v2, p2, rfl, ⟨q2, rfl, hq2, hr'2⟩, hp2, hr2, ho2⟩
      clear hr'2
      have HR2 := hide hr2
      have OO2 := hide (OO1.out.trans ho2)
      clear hr2 ho2
      clear hc1 hf1
      obtain ⟨hc2, hf2⟩ := ocell OO2.out
      go_wp2_with fail
      (with_reducible refine (HP.out p2 _ _ HR2.out (by omega) (by omega) (by omega)).mono ?_); rintro e w3 ⟨v3, p3, rfl, ⟨q3, rfl, hq3, hr'3⟩, hp3, hr3, ho3⟩
      clear hr'3
      have HR3 := hide hr3
      have OO3 := hide (OO2.out.trans ho3)
      clear hr3 ho3
      clear hc2 hf2
      obtain ⟨hc3, hf3⟩ := ocell OO3.out
      go_wp2_with fail
      refine bodyPost_ret (v := .agg #[.int .i64 2, .int .i64 0, .int .i64 q2, .int .i64 q3, .slice none 0 0]) (by simp [results, Try.results158, go_sem, hc3, hne]) rfl ⟨_, p3, rfl, ⟨2, 0, q2, q3, ⟨none, 0, 0⟩, [], rfl, RepK.nil _ _, (by simp [descs])⟩, by omega, (((((HR3.out.setNew hlt _ _).setNew hlt _ _).setNew hlt _ _).setNew hlt _ _).setNew hlt _ _), ((((((HO0.out.trans OO3.out).setNew (Nat.le_refl _) _ _).setNew (Nat.le_refl _) _ _).setNew (Nat.le_refl _) _ _).setNew (Nat.le_refl _) _ _).setNew (Nat.le_refl _) _ _)⟩
    · have hl' : (q1 == 0) = false := by simp [hl]
      clear hl
      go_wp2_with fail
      (with_reducible refine (HP.out p1 _ _ HR1.out (by omega) (by omega) (by omega)).mono ?_); rintro e w2 ⟨v2, p2, rfl, ⟨q2, rfl, hq2, hr'2⟩, hp2, hr2, ho2⟩
      clear hr'2
      have HR2 := hide hr2
      have OO2 := hide (OO1.out.trans ho2)
      clear hr2 ho2
      clear hc1 hf1
      obtain ⟨hc2, hf2⟩ := ocell OO2.out
      go_wp2_with fail
      (with_reducible refine (HP.out p2 _ _ HR2.out (by omega) (by omega) (by omega)).mono ?_); rintro e w3 ⟨v3, p3, rfl, ⟨q3, rfl, hq3, hr'3⟩, hp3, hr3, ho3⟩
      clear hr'3
      have HR3 := hide hr3
      have OO3 := hide (OO2.out.trans ho3)
      clear hr3 ho3
      clear hc2 hf2
      obtain ⟨hc3, hf3⟩ := ocell OO3.out
      go_wp2_with fail
      (with_reducible refine (HP.out p3 _ _ HR3.out (by omega) (by omega) (by omega)).mono ?_); rintro e w4 ⟨v4, p4, rfl, ⟨q4, rfl, hq4, hr'4⟩, hp4, hr4, ho4⟩
      clear hr'4
      have HR4 := hide hr4
      have OO4 := hide (OO3.out.trans ho4)
      clear hr4 ho4
      clear hc3 hf3
      obtain ⟨hc4, hf4⟩ := ocell OO4.out
      go_wp2_with fail
      refine bodyPost_ret (v := .agg #[.int .i64 1, .int .i64 q2, .int .i64 q3, .int .i64 q4, .slice none 0 0]) (by simp [results, Try.results158, go_sem, hc4, hne]) rfl ⟨_, p4, rfl, ⟨1, q2, q3, q4, ⟨none, 0, 0⟩, [], rfl, RepK.nil _ _, (by simp [descs])⟩, by omega, (((((HR4.out.setNew hlt _ _).setNew hlt _ _).setNew hlt _ _).setNew hlt _ _).setNew hlt _ _), ((((((HO0.out.trans OO4.out).setNew (Nat.le_refl _) _ _).setNew (Nat.le_refl _) _ _).setNew (Nat.le_refl _) _ _).setNew (Nat.le_refl _) _ _).setNew (Nat.le_refl _) _ _)⟩
  | succ d ih =>
    intro hd p w hr hp
    have hpow : (2 : Int) ^ (d + 1) = 2 * 2 ^ d := by rw [Int.pow_succ]; omega
    have hpow2 : (2 : Int) ^ (d + 1 + 1) = 2 * 2 ^ (d + 1) := by rw [Int.pow_succ (2 : Int) (d + 1)]; omega
    have hpos := pow_pos2 d
    have IH := hide (ih (by omega))
    rw [hpow] at hp
    rw [hpow2, hpow]
    rw [hpow] at IH
    have HR0 := hide (hr.allocNew (.cells #[.int .i64 0, .int .i64 0, .int .i64 0, .int .i64 0, .slice none 0 0] 25))
    have HP := hide (fun (p : Int) n w' h hp (hn : n ≤ 100) (hn0 : 0 ≤ n) => pick_any b a c xs p n w' h hp (by omega) (by omega))
    have hlt := hr.lt
    have hne : w.heap.size ≠ b := by omega
    have HO0 := hide (Outside.of_below (lo := b) (hi := b + 1) (belowAlloc w (.cells #[.int .i64 0, .int .i64 0, .int .i64 0, .int .i64 0, .slice none 0 0] 25)))
    clear hr
    have hD1 : ((d + 1 : Nat) : Int) - 1 = (d : Int) := by omega
    have hD3 : ((d + 1 : Nat) : Int) ≤ 10 := by omega
    have hD2 : 1 ≤ ((d + 1 : Nat) : Int) := by omega
    generalize hZ : (2 : Int) ^ d = Z at *
    clear hZ hpow hpow2 ih
    generalize ((d + 1 : Nat) : Int) = D at *
    by_cases hD : D < 2
    · go_enter Try.func158, Try.ntmps158
      go_wp2_with fail
      (with_reducible refine (HP.out p _ _ HR0.out (by omega) (by omega) (by omega)).mono ?_); rintro e w1 ⟨v1, p1, rfl, ⟨q1, rfl, hq1, hr'1⟩, hp1, hr1, ho1⟩
      clear hr'1
      have HR1 := hide hr1
      have OO1 := hide ho1
      clear hr1 ho1
      obtain ⟨hc1, hf1⟩ := ocell OO1.out
      by_cases hl : q1 = 0
      · have hl' : (q1 == 0) = true := by rw [hl]; rfl
        clear hl
        go_wp2_with fail
        (with_reducible refine (HP.out p1 _ _ HR1.out (by omega) (by omega) (by omega)).mono ?_); rintro e w2 ⟨v2, p2, rfl, ⟨q2, rfl, hq2, hr'2⟩, hp2, hr2, ho2⟩
        clear hr'2
        have HR2 := hide hr2
        have OO2 := hide (OO1.out.trans ho2)
        clear hr2 ho2
        clear hc1 hf1
        obtain ⟨hc2, hf2⟩ := ocell OO2.out
        go_wp2_with fail
        (with_reducible refine (HP.out p2 _ _ HR2.out (by omega) (by omega) (by omega)).mono ?_); rintro e w3 ⟨v3, p3, rfl, ⟨q3, rfl, hq3, hr'3⟩, hp3, hr3, ho3⟩
        clear hr'3
        have HR3 := hide hr3
        have OO3 := hide (OO2.out.trans ho3)
        clear hr3 ho3
        clear hc2 hf2
        obtain ⟨hc3, hf3⟩ := ocell OO3.out
        go_wp2_with fail
        refine bodyPost_ret (v := .agg #[.int .i64 2, .int .i64 0, .int .i64 q2, .int .i64 q3, .slice none 0 0]) (by simp [results, Try.results158, go_sem, hc3, hne]) rfl ⟨_, p3, rfl, ⟨2, 0, q2, q3, ⟨none, 0, 0⟩, [], rfl, RepK.nil _ _, (by simp [descs]; omega)⟩, by omega, (((((HR3.out.setNew hlt _ _).setNew hlt _ _).setNew hlt _ _).setNew hlt _ _).setNew hlt _ _), ((((((HO0.out.trans OO3.out).setNew (Nat.le_refl _) _ _).setNew (Nat.le_refl _) _ _).setNew (Nat.le_refl _) _ _).setNew (Nat.le_refl _) _ _).setNew (Nat.le_refl _) _ _)⟩
      · have hl' : (q1 == 0) = false := by simp [hl]
        clear hl
        go_wp2_with fail
        (with_reducible refine (HP.out p1 _ _ HR1.out (by omega) (by omega) (by omega)).mono ?_); rintro e w2 ⟨v2, p2, rfl, ⟨q2, rfl, hq2, hr'2⟩, hp2, hr2, ho2⟩
        clear hr'2
        have HR2 := hide hr2
        have OO2 := hide (OO1.out.trans ho2)
        clear hr2 ho2
        clear hc1 hf1
        obtain ⟨hc2, hf2⟩ := ocell OO2.out
        go_wp2_with fail
        (with_reducible refine (HP.out p2 _ _ HR2.out (by omega) (by omega) (by omega)).mono ?_); rintro e w3 ⟨v3, p3, rfl, ⟨q3, rfl, hq3, hr'3⟩, hp3, hr3, ho3⟩
        clear hr'3
        have HR3 := hide hr3
        have OO3 := hide (OO2.out.trans ho3)
        clear hr3 ho3
        clear hc2 hf2
        obtain ⟨hc3, hf3⟩ := ocell OO3.out
        go_wp2_with fail
        (with_reducible refine (HP.out p3 _ _ HR3.out (by omega) (by omega) (by omega)).mono ?_); rintro e w4 ⟨v4, p4, rfl, ⟨q4, rfl, hq4, hr'4⟩, hp4, hr4, ho4⟩
        clear hr'4
        have HR4 := hide hr4
        have OO4 := hide (OO3.out.trans ho4)
        clear hr4 ho4
        clear hc3 hf3
        obtain ⟨hc4, hf4⟩ := ocell OO4.out
        go_wp2_with fail
        refine bodyPost_ret (v := .agg #[.int .i64 1, .int .i64 q2, .int .i64 q3, .int .i64 q4, .slice none 0 0]) (by simp [results, Try.results158, go_sem, hc4, hne]) rfl ⟨_, p4, rfl, ⟨1, q2, q3, q4, ⟨none, 0, 0⟩, [], rfl, RepK.nil _ _, (by simp [descs]; omega)⟩, by omega, (((((HR4.out.setNew hlt _ _).setNew hlt _ _).setNew hlt _ _).setNew hlt _ _).setNew hlt _ _), ((((((HO0.out.trans OO4.out).setNew (Nat.le_refl _) _ _).setNew (Nat.le_refl _) _ _).setNew (Nat.le_refl _) _ _).setNew (Nat.le_refl _) _ _).setNew (Nat.le_refl _) _ _)⟩
    · have hD' : decide (D < 2) = false := decide_eq_false hD
      go_enter Try.func158, Try.ntmps158
      go_wp2_with fail
      (with_reducible refine (HP.out p _ _ HR0.out (by omega) (by omega) (by omega)).mono ?_); rintro e w1 ⟨v1, p1, rfl, ⟨q1, rfl, hq1, hr'1⟩, hp1, hr1, ho1⟩
      clear hr'1
      have HR1 := hide hr1
      have OO1 := hide ho1
      clear hr1 ho1
      obtain ⟨hc1, hf1⟩ := ocell OO1.out
      by_cases hz : q1 = 0
      · have hz' : (q1 == 0) = true := by rw [hz]; rfl
        clear hz
        go_wp2_with fail
        (with_reducible refine (HP.out p1 _ _ HR1.out (by omega) (by omega) (by omega)).mono ?_); rintro e w2 ⟨v2, p2, rfl, ⟨q2, rfl, hq2, hr'2⟩, hp2, hr2, ho2⟩
        clear hr'2
        have HR2 := hide hr2
        have OO2 := hide (OO1.out.trans ho2)
        clear hr2 ho2
        clear hc1 hf1
        obtain ⟨hc2, hf2⟩ := ocell OO2.out
        by_cases hl : q2 = 0
        · have hl' : (q2 == 0) = true := by rw [hl]; rfl
          clear hl
          go_wp2_with fail
          (with_reducible refine (HP.out p2 _ _ HR2.out (by omega) (by omega) (by omega)).mono ?_); rintro e w3 ⟨v3, p3, rfl, ⟨q3, rfl, hq3, hr'3⟩, hp3, hr3, ho3⟩
          clear hr'3
          have HR3 := hide hr3
          have OO3 := hide (OO2.out.trans ho3)
          clear hr3 ho3
          clear hc2 hf2
          obtain ⟨hc3, hf3⟩ := ocell OO3.out
          go_wp2_with fail
          (with_reducible refine (HP.out p3 _ _ HR3.out (by omega) (by omega) (by omega)).mono ?_); rintro e w4 ⟨v4, p4, rfl, ⟨q4, rfl, hq4, hr'4⟩, hp4, hr4, ho4⟩
          clear hr'4
          have HR4 := hide hr4
          have OO4 := hide (OO3.out.trans ho4)
          clear hr4 ho4
          clear hc3 hf3
          obtain ⟨hc4, hf4⟩ := ocell OO4.out
          go_wp2_with fail
          refine bodyPost_ret (v := .agg #[.int .i64 2, .int .i64 0, .int .i64 q3, .int .i64 q4, .slice none 0 0]) (by simp [results, Try.results158, go_sem, hc4, hne]) rfl ⟨_, p4, rfl, ⟨2, 0, q3, q4, ⟨none, 0, 0⟩, [], rfl, RepK.nil _ _, (by simp [descs]; omega)⟩, by omega, (((((HR4.out.setNew hlt _ _).setNew hlt _ _).setNew hlt _ _).setNew hlt _ _).setNew hlt _ _), ((((((HO0.out.trans OO4.out).setNew (Nat.le_refl _) _ _).setNew (Nat.le_refl _) _ _).setNew (Nat.le_refl _) _ _).setNew (Nat.le_refl _) _ _).setNew (Nat.le_refl _) _ _)⟩
        · have hl' : (q2 == 0) = false := by simp [hl]
          clear hl
          go_wp2_with fail
          (with_reducible refine (HP.out p2 _ _ HR2.out (by omega) (by omega) (by omega)).mono ?_); rintro e w3 ⟨v3, p3, rfl, ⟨q3, rfl, hq3, hr'3⟩, hp3, hr3, ho3⟩
          clear hr'3
          have HR3 := hide hr3
          have OO3 := hide (OO2.out.trans ho3)
          clear hr3 ho3
          clear hc2 hf2
          obtain ⟨hc3, hf3⟩ := ocell OO3.out
          go_wp2_with fail
          (with_reducible refine (HP.out p3 _ _ HR3.out (by omega) (by omega) (by omega)).mono ?_); rintro e w4 ⟨v4, p4, rfl, ⟨q4, rfl, hq4, hr'4⟩, hp4, hr4, ho4⟩
          clear hr'4
          have HR4 := hide hr4
          have OO4 := hide (OO3.out.trans ho4)
          clear hr4 ho4
          clear hc3 hf3
          obtain ⟨hc4, hf4⟩ := ocell OO4.out
          go_wp2_with fail
          (with_reducible refine (HP.out p4 _ _ HR4.out (by omega) (by omega) (by omega)).mono ?_); rintro e w5 ⟨v5, p5, rfl, ⟨q5, rfl, hq5, hr'5⟩, hp5, hr5, ho5⟩
          clear hr'5
          have HR5 := hide hr5
          have OO5 := hide (OO4.out.trans ho5)
          clear hr5 ho5
          clear hc4 hf4
          obtain ⟨hc5, hf5⟩ := ocell OO5.out
          go_wp2_with fail
          refine bodyPost_ret (v := .agg #[.int .i64 1, .int .i64 q3, .int .i64 q4, .int .i64 q5, .slice none 0 0]) (by simp [results, Try.results158, go_sem, hc5, hne]) rfl ⟨_, p5, rfl, ⟨1, q3, q4, q5, ⟨none, 0, 0⟩, [], rfl, RepK.nil _ _, (by simp [descs]; omega)⟩, by omega, (((((HR5.out.setNew hlt _ _).setNew hlt _ _).setNew hlt _ _).setNew hlt _ _).setNew hlt _ _), ((((((HO0.out.trans OO5.out).setNew (Nat.le_refl _) _ _).setNew (Nat.le_refl _) _ _).setNew (Nat.le_refl _) _ _).setNew (Nat.le_refl _) _ _).setNew (Nat.le_refl _) _ _)⟩
      · have hz' : (q1 == 0) = false := by simp [hz]
        clear hz
        go_wp2_with fail
        (with_reducible refine (HP.out p1 _ _ HR1.out (by omega) (by omega) (by omega)).mono ?_); rintro e w2 ⟨v2, p2, rfl, ⟨q2, rfl, hq2, hr'2⟩, hp2, hr2, ho2⟩
        clear hr'2
        have HR2 := hide hr2
        have OO2 := hide (OO1.out.trans ho2)
        clear hr2 ho2
        clear hc1 hf1
        obtain ⟨hc2, hf2⟩ := ocell OO2.out
        by_cases hk : q2 = 0
        · have hk' : (q2 == 0) = true := by rw [hk]; rfl
          clear hk
          go_wp2_with fail
          (with_reducible refine (IH.out p2 _ HR2.out (by omega)).mono ?_); rintro e w3 ⟨v3, p3, rfl, ⟨oA, tA, rA, xA, sA, ksA, rfl, hkA, hdA⟩, hp3, hr3, ho3⟩
          have hszA : w.heap.size < w2.heap.size := by have := OO2.out.size; simp at this; omega
          have hbzA : b < w2.heap.size := by omega
          have HKA := hide hkA; clear hkA
          have HR3 := hide hr3
          have OO3 := hide (OO2.out.trans ho3)
          clear hr3 ho3
          clear hc2 hf2
          obtain ⟨hc3, hf3⟩ := ocell OO3.out
          have hRK := (((((HKA.out.set2 (g := w.heap.size) hszA 0 (.int .i64 5)).set2 hszA 1 (.int .i64 0)).set2 hszA 2 (.int .i64 0)).set2 hszA 3 (.int .i64 0)).set2 hszA 4 (.slice (some ⟨w3.heap.size, 0, none⟩) 1 1)).low (lo' := w.heap.size) (by omega)
          have hOne := RepK.one (o := oA) (t := tA) (q := rA) (x := xA) hRK (by have := OO3.out.size; simp at this ⊢; omega) 25
          have HONE := hide hOne; clear hOne hRK
          have hszN : w.heap.size < w3.heap.size := by have := OO3.out.size; simp at this; omega
          go_wp2_with fail
          refine bodyPost_ret (v := .agg #[.int .i64 5, .int .i64 0, .int .i64 0, .int .i64 0, .slice (some ⟨w3.heap.size, 0, none⟩) 1 1]) (by simp [results, Try.results158, go_sem, hc3, hne, hszN]) rfl ⟨_, p3, rfl, ⟨5, 0, 0, 0, ⟨some ⟨w3.heap.size, 0, none⟩, 1, 1⟩, [.mk oA tA rA xA ksA], rfl, by simpa using HONE.out, (by rw [descs_one]; simp only [Cd.kids]; omega)⟩, by omega, ((((((HR3.out.setNew hlt _ _).setNew hlt _ _).setNew hlt _ _).setNew hlt _ _).setNew hlt _ _).allocNew _), (((((((HO0.out.trans OO3.out).setNew (Nat.le_refl _) _ _).setNew (Nat.le_refl _) _ _).setNew (Nat.le_refl _) _ _).setNew (Nat.le_refl _) _ _).setNew (Nat.le_refl _) _ _).allocNew _)⟩
        · have hk' : (q2 == 0) = false := by simp [hk]
          clear hk
          have HN := hide (fun (p : Int) (w' : World) (hb : b < w'.heap.size) h hp => num_any b a c xs p (Value.slice (some (Addr.mk w'.heap.size 0 none)) 2 2) [3, 4] (w'.alloc (.cells #[.int .i64 3, .int .i64 4] 3)) h hp (rep_lit w' [3, 4] 3 (by decide)) (by decide) (by decide) (by intro g o e; simp at e; omega))
          go_wp2_with fail
          (with_reducible refine (HN.out p2 w2 (by have := OO2.out.size; simp at this; omega) (HR2.out.allocNew _) (by omega)).mono ?_); rintro e w3 ⟨v3, p3, rfl, ⟨yo, hyo, rfl⟩, hp3, hr3, hoN⟩
          have ho3 := (Outside.of_below (lo := b) (hi := b + 1) (belowAlloc w2 (.cells #[.int .i64 3, .int .i64 4] 3))).trans hoN
          clear hoN
          have HR3 := hide hr3
          have OO3 := hide (OO2.out.trans ho3)
          clear hr3 ho3
          clear hc2 hf2
          obtain ⟨hc3, hf3⟩ := ocell OO3.out
          go_wp2_with fail
          (with_reducible refine (IH.out p3 _ HR3.out (by omega)).mono ?_); rintro e w4 ⟨v4, p4, rfl, ⟨oA, tA, rA, xA, sA, ksA, rfl, hkA, hdA⟩, hp4, hr4, ho4⟩
          have hszA : w.heap.size < w3.heap.size := by have := OO3.out.size; simp at this; omega
          have hbzA : b < w3.heap.size := by omega
          have HKA := hide hkA; clear hkA
          have HoA := hide ho4
          have HR4 := hide hr4
          have OO4 := hide (OO3.out.trans ho4)
          clear hr4 ho4
          clear hc3 hf3
          obtain ⟨hc4, hf4⟩ := ocell OO4.out
          go_wp2_with fail
          (with_reducible refine (IH.out p4 _ HR4.out (by omega)).mono ?_); rintro e w5 ⟨v5, p5, rfl, ⟨oB, tB, rB, xB, sB, ksB, rfl, hkB, hdB⟩, hp5, hr5, ho5⟩
          have hszB : w.heap.size < w4.heap.size := by have := OO4.out.size; simp at this; omega
          have hbzB : b < w4.heap.size := by omega
          have HKB := hide hkB; clear hkB
          have HoB := hide ho5
          have HR5 := hide hr5
          have OO5 := hide (OO4.out.trans ho5)
          clear hr5 ho5
          clear hc4 hf4
          obtain ⟨hc5, hf5⟩ := ocell OO5.out
          have hA := ((((((HKA.out.outside HoB.out hbzA).set2 (g := w.heap.size) hszA 0 (.int .i64 yo)).set2 hszA 1 (.int .i64 0)).set2 hszA 2 (.int .i64 0)).set2 hszA 3 (.int .i64 0)).set2 hszA 4 (.slice (some ⟨w5.heap.size, 0, none⟩) 2 2)).low (lo' := w.heap.size) (by omega)
          have hB := (((((HKB.out.set2 (g := w.heap.size) hszB 0 (.int .i64 yo)).set2 hszB 1 (.int .i64 0)).set2 hszB 2 (.int .i64 0)).set2 hszB 3 (.int .i64 0)).set2 hszB 4 (.slice (some ⟨w5.heap.size, 0, none⟩) 2 2)).low (lo' := w.heap.size) (by omega)
          have hTwo := RepK.two (o := oA) (t := tA) (q := rA) (x := xA) (o' := oB) (t' := tB) (q' := rB) (x' := xB) hA hB (by have := OO5.out.size; simp at this ⊢; omega) 25
          have HTWO := hide hTwo; clear hTwo hA hB
          have hszN : w.heap.size < w5.heap.size := by have := OO5.out.size; simp at this; omega
          go_wp2_with fail
          refine bodyPost_ret (v := .agg #[.int .i64 yo, .int .i64 0, .int .i64 0, .int .i64 0, .slice (some ⟨w5.heap.size, 0, none⟩) 2 2]) (by simp [results, Try.results158, go_sem, hc5, hne, hszN]) rfl ⟨_, p5, rfl, ⟨yo, 0, 0, 0, ⟨some ⟨w5.heap.size, 0, none⟩, 2, 2⟩, [.mk oA tA rA xA ksA, .mk oB tB rB xB ksB], rfl, by simpa using HTWO.out, (by rw [descs_two]; simp only [Cd.kids]; omega)⟩, by omega, ((((((HR5.out.setNew hlt _ _).setNew hlt _ _).setNew hlt _ _).setNew hlt _ _).setNew hlt _ _).allocNew _), (((((((HO0.out.trans OO5.out).setNew (Nat.le_refl _) _ _).setNew (Nat.le_refl _) _ _).setNew (Nat.le_refl _) _ _).setNew (Nat.le_refl _) _ _).setNew (Nat.le_refl _) _ _).allocNew _)⟩

end Go.Proofs.Ytpnmphfdfadlcaa