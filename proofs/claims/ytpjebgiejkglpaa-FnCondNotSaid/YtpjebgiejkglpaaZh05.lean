/-
  Conditions that are drawn and changed. Condition: not too many numbers were taken.
-/
import Derived.Test.YtpjebgiejkglpaaZh04
import Derived.Test.YtpjebgiejkglpaaZh02
namespace Go.Proofs.Ytpjebgiejkglpaa
open Go.RowKit

def Pick (n : Int) (v : Value) (_ : World) : Prop := ∃ q : Int, v = .int .i64 q ∧ 0 ≤ q ∧ (1 ≤ n → q < n)

theorem Outside.of_below {lo hi : Nat} {w w' : World} (h : Below w.heap.size w w') : Outside lo hi w w' := ⟨h.os, h.tape, h.output, h.size, fun k hk _ => h.block k hk⟩

theorem xor64_nat (a b : Nat) (ha : a < 9223372036854775808) (hb : b < 9223372036854775808) : bits .xor .i64 (a : Int) (b : Int) = ((a ^^^ b : Nat) : Int) := by
  have hx : a ^^^ b < 2 ^ 63 := Nat.xor_lt_two_pow (by omega) (by omega)
  have h1 : (BitVec.ofInt 64 (a : Int)).toNat = a := by
    rw [BitVec.ofInt_natCast, BitVec.toNat_ofNat]; exact Nat.mod_eq_of_lt (by omega)
  have h2 : (BitVec.ofInt 64 (b : Int)).toNat = b := by
    rw [BitVec.ofInt_natCast, BitVec.toNat_ofNat]; exact Nat.mod_eq_of_lt (by omega)
  show IntKind.i64.wrap ((BitVec.ofInt 64 (a : Int) ^^^ BitVec.ofInt 64 (b : Int)).toNat : Int) = _
  rw [BitVec.toNat_xor, h1, h2, IntKind.wrap_i64]
  omega

theorem xor64_nonneg (x : Int) (h0 : 0 ≤ x) (h1 : x < 9223372036854775808) : 0 ≤ bits .xor .i64 x (x / 64) := by
  obtain ⟨X, rfl⟩ := Int.eq_ofNat_of_zero_le h0
  have d : ((X : Int) / 64) = ((X / 64 : Nat) : Int) := by simp
  rw [d, xor64_nat X (X / 64) (by omega) (by omega)]
  omega

set_option maxRecDepth 100000 in
set_option maxHeartbeats 1600000 in
theorem pick_any (b : Nat) (a : Option Addr) (c : Nat) (xs : List Int) (p n : Int) (w : World) (hr : Rd w b a c xs p) (hp : p ≤ 1000000000) (hn : n ≤ 1000000000) (hn0 : -1000000000 ≤ n) :
    Calls Try.prog 33 #[.pointer (some ⟨b, 0, none⟩), .int .i64 n] w (RetRd w b a c xs p 1 (Pick n)) := by
  have h0 := hr.c0; have h1 := hr.c1; have hf := hr.f1; have hlt := hr.lt; have hp0 := hr.p0
  have HS := hide (hr.step (p + 1) (by omega))
  have HO : Hid (Outside b (b + 1) w (w.setCell ⟨b, 1, none⟩ (.int .i64 (p + 1)))) := hide ((Outside.refl b (b + 1) w).grown (row := some b) ⟨rfl, rfl, rfl, by simp, fun q _ hq => heap_setCell_other w ⟨b, 1, none⟩ q _ (fun e => hq (by simp [e]))⟩ (fun q hq => by simp at hq; omega))
  by_cases hn1 : n < 1
  · go_enter Try.func33, Try.ntmps33
    go_wp2_with fail
    go_ret
    exact ⟨_, _, rfl, ⟨0, rfl, by omega, fun h => by omega⟩, Int.le_refl _, HS.out, HO.out⟩
  · have hn1' : decide (n < 1) = false := decide_eq_false hn1
    obtain ⟨aa, cc, hv, hc1, hc2, hc3, -⟩ := hr.rep.open
    simp only [Value.slice.injEq, true_and] at hv
    obtain ⟨rfl, rfl⟩ := hv
    by_cases hx : xs.length = 0
    · have hx' : ((xs.length : Int) == 0) = true := by rw [hx]; rfl
      generalize hl : xs.length = l at *
      clear hl
      go_enter Try.func33, Try.ntmps33
      go_wp2_with fail
      go_ret
      exact ⟨_, _, rfl, ⟨0, rfl, by omega, fun h => by omega⟩, Int.le_refl _, HS.out, HO.out⟩
    · have hx' : ((xs.length : Int) == 0) = false := by simp; intro h; exact hx (by rw [h]; rfl)
      obtain ⟨P, rfl⟩ := Int.eq_ofNat_of_zero_le hp0
      by_cases hk : P < xs.length
      · obtain ⟨y, hy⟩ := get_of_lt hk
        obtain ⟨g, o, rfl, hg, i0⟩ := hr.rep.byte hy
        have hgb := hr.far g o (by intro e; simp [e] at hk) rfl
        have hyb := hr.by' y (List.mem_of_getElem? hy)
        have hk' := nat_of_lt hk
        have hgne : g ≠ b := by omega
        clear hy hr
        generalize xs.length = l at *
        go_enter Try.func33, Try.ntmps33
        go_wp2_with fail
        go_ret
        exact ⟨_, _, rfl, ⟨y % n, rfl, Int.emod_nonneg _ (by omega), fun h => Int.emod_lt_of_pos _ (by omega)⟩, Int.le_refl _, HS.out, HO.out⟩
      · have hxl : 0 < xs.length := by omega
        obtain ⟨K1, hK1⟩ : ∃ K : Nat, (P : Int) % (xs.length : Int) = (K : Int) := ⟨P % xs.length, by simp⟩
        obtain ⟨K2, hK2⟩ : ∃ K : Nat, ((P : Int) * 7 + 3) % (xs.length : Int) = (K : Int) := ⟨(P * 7 + 3) % xs.length, by simp⟩
        have hl1 : (K1 : Int) < xs.length := by rw [← hK1]; exact Int.emod_lt_of_pos _ (by omega)
        have hl2 : (K2 : Int) < xs.length := by rw [← hK2]; exact Int.emod_lt_of_pos _ (by omega)
        have hl1' : K1 < xs.length := by omega
        have hl2' : K2 < xs.length := by omega
        obtain ⟨y1, hy1⟩ := get_of_lt hl1'
        obtain ⟨y2, hy2⟩ := get_of_lt hl2'
        obtain ⟨g, o, rfl, hg, i0⟩ := hr.rep.byte hy1
        obtain ⟨g', o', hge, hg', j0⟩ := hr.rep.byte hy2
        simp only [Option.some.injEq, Addr.mk.injEq, and_true] at hge
        obtain ⟨rfl, rfl⟩ := hge
        have hgb := hr.far g o (by intro e; simp [e] at hxl) rfl
        have hyb1 := hr.by' y1 (List.mem_of_getElem? hy1)
        have hyb2 := hr.by' y2 (List.mem_of_getElem? hy2)
        have hgne : g ≠ b := by omega
        have hkge : decide ((P : Int) < xs.length) = false := decide_eq_false (by omega)
        have hq1 : 0 ≤ (P : Int) / (xs.length : Int) := Int.ediv_nonneg (by omega) (by omega)
        have hq2 : (P : Int) / (xs.length : Int) ≤ (P : Int) := Int.ediv_le_self _ (by omega)
        clear hy1 hy2 hr hx
        generalize xs.length = l at *
        generalize hQ : (P : Int) / (l : Int) = Q at *
        have hQ2 : (P : Int) / (l : Int) = Q := hQ
        go_enter Try.func33, Try.ntmps33
        go_wp2_with fail
        refine wp_region_bw (by kernel_rfl) (by kernel_rfl) ?_
        repeat (go_big_quiet_step (fail))
        refine wpQuiet_nil ?_
        intro w1 hb1
        go_wp2_with fail
        go_ret
        have hX0 : 0 ≤ y1 * 131 + y2 * 1117 + (P : Int) * 29 + Q * 53 := by omega
        have hX1 : y1 * 131 + y2 * 1117 + (P : Int) * 29 + Q * 53 < 9223372036854775808 := by omega
        have hz := xor64_nonneg _ hX0 hX1
        refine ⟨_, _, rfl, ⟨_, rfl, Int.tmod_nonneg _ hz, fun h => Int.tmod_lt_of_pos _ (by omega)⟩, Int.le_refl _, HS.out.keep hb1 (by simpa using hlt), HO.out.trans (Outside.of_below hb1)⟩

theorem cell_of_block3 {w w' : World} {b : Nat} (h : w'.heap[b]? = w.heap[b]?) (o : Nat) : w'.cell? ⟨b, o, none⟩ = w.cell? ⟨b, o, none⟩ := by
  unfold World.cell?
  rw [h]

def OneOf (ys : List Int) (v : Value) (_ : World) : Prop := ∃ y ∈ ys, v = .int .i64 y

theorem num_any (b : Nat) (a : Option Addr) (c : Nat) (xs : List Int) (p : Int) (v : Value) (ys : List Int) (w : World) (hr : Rd w b a c xs p) (hp : p ≤ 1000000000) (hy : Rep IntE w v ys) (hl : ys.length ≤ 100) (h0 : 1 ≤ ys.length) (hfar : ∀ g o, v = .slice (some ⟨g, o, none⟩) ys.length (match v with | .slice _ _ c => c | _ => 0) → g ≠ b) :
    Calls Try.prog 39 #[.pointer (some ⟨b, 0, none⟩), v] w (RetRd w b a c xs p 1 (OneOf ys)) := by
  obtain ⟨a2, c2, rfl, -, -, -, hy⟩ := hy.open
  have HY := hide hy; clear hy
  have HF := hide hfar; clear hfar
  have HP := hide (fun w' h => pick_any b a c xs p ys.length w' h hp (by omega) (by omega))
  generalize hn : ys.length = n at *
  have H := hide hn; clear hn
  go_enter Try.func39, Try.ntmps39
  go_wp2_with fail
  (with_reducible refine (HP.out _ hr).mono ?_); rintro e w1 ⟨v1, p1, rfl, ⟨q, rfl, hq0, hq1⟩, hp1, hr1, ho1⟩
  obtain ⟨Q, rfl⟩ := Int.eq_ofNat_of_zero_le hq0
  have hQ : Q < n := by have := hq1 (by omega); omega
  obtain ⟨y, hyq⟩ := get_of_lt (xs := ys) (k := Q) (by rw [H.out]; exact hQ)
  obtain ⟨g, o, rfl, hg, i0⟩ := HY.out.int hyq
  have hgb := HF.out g o rfl
  have i1 : w1.cell? ⟨g, o + Q, none⟩ = some (.int .i64 y) := by
    rw [← i0]
    refine cell_of_block3 (ho1.block g hg (by omega)) _
  have hQ' := nat_of_lt hQ
  have hm := List.mem_of_getElem? hyq
  clear hyq i0
  go_wp2_with fail
  go_ret
  exact ⟨_, p1, rfl, ⟨y, hm, rfl⟩, hp1, hr1, ho1⟩

end Go.Proofs.Ytpjebgiejkglpaa

namespace Go.Proofs.Ytpjebgiejkglpaa
open Go.RowKit

theorem belowAlloc (w : World) (o : Obj) : Below w.heap.size w (w.alloc o) := (Below.refl _ _).alloc (Nat.le_refl _) o

theorem ocell {b : Nat} {W w1 : World} (h : Outside b (b + 1) W w1) : (∀ g o, g < W.heap.size → g ≠ b → w1.cell? ⟨g, o, none⟩ = W.cell? ⟨g, o, none⟩) ∧ (∀ g o, g < W.heap.size → g ≠ b → w1.frozen? ⟨g, o, none⟩ = W.frozen? ⟨g, o, none⟩) := by
  refine ⟨fun g o hg hne => cell_of_block (h.block g hg (by omega)) o, fun g o hg hne => ?_⟩
  have := h.block g hg (by omega)
  unfold World.frozen?
  rw [this]

theorem Outside.setNew {lo hi : Nat} {w w' : World} (h : Outside lo hi w w') {g : Nat} (hg : w.heap.size ≤ g) (j : Nat) (v : Value) : Outside lo hi w (w'.setCell ⟨g, j, none⟩ v) :=
  ⟨h.os, h.tape, h.output, by simpa using h.size, fun k hk hlh => (heap_setCell_other w' ⟨g, j, none⟩ k v (fun e => by simp at e; omega)).trans (h.block k hk hlh)⟩

theorem Outside.allocNew {lo hi : Nat} {w w' : World} (h : Outside lo hi w w') (o : Obj) : Outside lo hi w (w'.alloc o) := h.trans (Outside.of_below (belowAlloc _ _))

theorem Rd.setNew {w : World} {b : Nat} {a : Option Addr} {c : Nat} {xs : List Int} {p : Int} (h : Rd w b a c xs p) {g : Nat} (hg : b < g) (j : Nat) (v : Value) : Rd (w.setCell ⟨g, j, none⟩ v) b a c xs p :=
  h.keep (B := b + 1) ((Below.refl _ _).setCell (show b + 1 ≤ g from hg) v) (Nat.lt_succ_self _)
theorem Rd.allocNew {w : World} {b : Nat} {a : Option Addr} {c : Nat} {xs : List Int} {p : Int} (h : Rd w b a c xs p) (o : Obj) : Rd (w.alloc o) b a c xs p :=
  h.keep (belowAlloc w o) h.lt

theorem RepK.outside {lo b : Nat} {w w' : World} {s : Slc} {ks : List Cd} (h : RepK lo w s ks) (ho : Outside b (b + 1) w w') (hb : b < lo) : RepK lo w' s ks :=
  h.keep fun q hq hqs => ho.block q hqs (by omega)
theorem RepK.allocNew {lo : Nat} {w : World} {s : Slc} {ks : List Cd} (h : RepK lo w s ks) (o : Obj) : RepK lo (w.alloc o) s ks := h.below (belowAlloc w o)

/-- A literal of one condition. -/
theorem RepK.one {lo : Nat} {w : World} {o t q x : Int} {s : Slc} {ks : List Cd} (h : RepK lo w s ks) (hlo : lo ≤ w.heap.size) (T : TypeId) :
    RepK lo (w.alloc (.cells #[.int .i64 o, .int .i64 t, .int .i64 q, .int .i64 x, .slice s.a s.n s.cap] T)) ⟨some ⟨w.heap.size, 0, none⟩, 1, 1⟩ [.mk o t q x ks] := by
  refine ⟨[⟨o, t, q, x, s⟩], rfl, ⟨_, 1, rfl, Nat.le_refl _, by unfold maxLen; omega, fun i u hu => ?_⟩, .inr fun b f e => by simp at e; omega, fun i u k hu hk => ?_⟩
  · refine ⟨w.heap.size, 0, rfl, fun j v hv => ?_⟩
    cases i with
    | zero =>
      simp at hu; subst hu
      rw [cell_of_row _ _ _ _ T (0, 0) (heap_alloc_new w _)]
      simpa [CsE] using hv
    | succ i => simp at hu
  · cases i with
    | zero =>
      simp at hu hk; subst hu; subst hk
      exact (h.allocNew _).cond o t q x
    | succ i => simp at hu

/-- A literal of two conditions. -/
theorem RepK.two {lo : Nat} {w : World} {o t q x o' t' q' x' : Int} {s s' : Slc} {ks ks' : List Cd} (h : RepK lo w s ks) (h' : RepK lo w s' ks') (hlo : lo ≤ w.heap.size) (T : TypeId) :
    RepK lo (w.alloc (.cells #[.int .i64 o, .int .i64 t, .int .i64 q, .int .i64 x, .slice s.a s.n s.cap, .int .i64 o', .int .i64 t', .int .i64 q', .int .i64 x', .slice s'.a s'.n s'.cap] T)) ⟨some ⟨w.heap.size, 0, none⟩, 2, 2⟩ [.mk o t q x ks, .mk o' t' q' x' ks'] := by
  refine ⟨[⟨o, t, q, x, s⟩, ⟨o', t', q', x', s'⟩], rfl, ⟨_, 2, rfl, Nat.le_refl _, by unfold maxLen; omega, fun i u hu => ?_⟩, .inr fun b f e => by simp at e; omega, fun i u k hu hk => ?_⟩
  · refine ⟨w.heap.size, 0, rfl, fun j v hv => ?_⟩
    match i, hu with
    | 0, hu =>
      simp at hu; subst hu
      rw [cell_of_row _ _ _ _ T (0, 0) (heap_alloc_new w _)]
      have hj : j < 5 := by have := (List.getElem?_eq_some_iff.1 hv).1; simpa [CsE] using this
      match j, hj, hv with
      | 0, _, hv => simpa [CsE] using hv
      | 1, _, hv => simpa [CsE] using hv
      | 2, _, hv => simpa [CsE] using hv
      | 3, _, hv => simpa [CsE] using hv
      | 4, _, hv => simpa [CsE] using hv
    | 1, hu =>
      simp at hu; subst hu
      rw [cell_of_row _ _ _ _ T (0, 0) (heap_alloc_new w _)]
      have hj : j < 5 := by have := (List.getElem?_eq_some_iff.1 hv).1; simpa [CsE] using this
      match j, hj, hv with
      | 0, _, hv => simpa [CsE] using hv
      | 1, _, hv => simpa [CsE] using hv
      | 2, _, hv => simpa [CsE] using hv
      | 3, _, hv => simpa [CsE] using hv
      | 4, _, hv => simpa [CsE] using hv
    | i + 2, hu => simp at hu
  · match i, hu, hk with
    | 0, hu, hk => simp at hu hk; subst hu; subst hk; exact (h.allocNew _).cond o t q x
    | 1, hu, hk => simp at hu hk; subst hu; subst hk; exact (h'.allocNew _).cond o' t' q' x'
    | i + 2, hu, _ => simp at hu

theorem descs_one (c : Cd) : descs [c] = descs c.kids + 1 := by
  have : descs [c] = c.desc + 1 := by simp [descs]
  rw [this, Cd.desc_eq]
theorem descs_two (c d : Cd) : descs [c, d] = (descs c.kids + 1) + (descs d.kids + 1) := by
  have : descs [c, d] = (c.desc + 1) + (d.desc + 1) := by simp [descs]
  rw [this, Cd.desc_eq, Cd.desc_eq]
theorem RepK.set2 {lo : Nat} {w : World} {s : Slc} {ks : List Cd} (h : RepK lo w s ks) {g : Nat} (hg : g < lo) (j : Nat) (u : Value) : RepK lo (w.setCell ⟨g, j, none⟩ u) s ks :=
  h.keep fun q hq _ => heap_setCell_other w ⟨g, j, none⟩ q u (fun e => by simp at e; omega)

theorem rep_lit (w : World) (ys : List Int) (T : TypeId) (h : ys.length ≤ 100) : Rep IntE (w.alloc (.cells (ys.map (Value.int .i64)).toArray T)) (.slice (some ⟨w.heap.size, 0, none⟩) ys.length ys.length) ys := by
  refine ⟨_, _, rfl, Nat.le_refl _, by unfold maxLen; omega, fun i x hx => ⟨w.heap.size, 0, rfl, fun j u hu => ?_⟩⟩
  rw [cell_of_row _ _ _ _ T (0, 0) (heap_alloc_new w _)]
  have hj : j = 0 := by have := (List.getElem?_eq_some_iff.1 hu).1; simp [IntE] at this; omega
  subst hj
  simp [IntE] at hu
  simp [IntE, hx, hu]

/-- A condition that was drawn: all of it new. -/
def QC (lo : Nat) (K : Int) (v : Value) (w : World) : Prop := ∃ (o t q x : Int) (s : Slc) (ks : List Cd), v = .agg #[.int .i64 o, .int .i64 t, .int .i64 q, .int .i64 x, .slice s.a s.n s.cap] ∧ RepK lo w s ks ∧ (descs ks : Int) + 2 ≤ K

theorem pow_pos2 (d : Nat) : (1 : Int) ≤ 2 ^ d := by
  induction d with
  | zero => simp
  | succ d ih => rw [Int.pow_succ]; omega

set_option maxRecDepth 100000 in
set_option maxHeartbeats 6400000 in
theorem l11Draw_any (b : Nat) (a : Option Addr) (c : Nat) (xs : List Int) : ∀ (d : Nat), d ≤ 10 → ∀ (p : Int) (w : World), Rd w b a c xs p → p + 10 * 2 ^ d ≤ 900000000 →
    Calls Try.prog 40 #[.pointer (some ⟨b, 0, none⟩), .int .i64 d] w (RetRd w b a c xs p (10 * 2 ^ d - 5) (QC w.heap.size (2 ^ (d + 1)))) := by
  intro d
  induction d with
  | zero =>
    intro _ p w hr hp
    rw [Int.pow_zero, Int.mul_one] at hp
    have HR0 := hide (hr.allocNew (.cells #[.int .i64 0, .int .i64 0, .int .i64 0, .int .i64 0, .slice none 0 0] 27))
    have HP := hide (fun (p : Int) n w' h hp (hn : n ≤ 100) (hn0 : 0 ≤ n) => pick_any b a c xs p n w' h hp (by omega) (by omega))
    have hlt := hr.lt
    have hne : w.heap.size ≠ b := by omega
    have HO0 := hide (Outside.of_below (lo := b) (hi := b + 1) (belowAlloc w (.cells #[.int .i64 0, .int .i64 0, .int .i64 0, .int .i64 0, .slice none 0 0] 27)))
    clear hr
    go_enter Try.func40, Try.ntmps40
    go_wp2_with fail
    (with_reducible refine (HP.out p _ _ HR0.out (by omega) (by omega) (by omega)).mono ?_); rintro e w1 ⟨v1, p1, rfl, ⟨q1, rfl, hq1, hr'1⟩, hp1, hr1, ho1⟩
    clear hr'1
    have HR1 := hide hr1
    have OO1 := hide ho1
    clear hr1 ho1
    obtain ⟨hc1, hf1⟩ := ocell OO1.out
    by_cases hl : q1 = 0
    · have hl' : (q1 == 0) = true := by rw [hl]; rfl
      clear hl
      go_wp2_with fail
      (with_reducible refine (HP.out p1 _ _ HR1.out (by omega) (by omega) (by omega)).mono ?_); rintro e w2 ⟨v2, p2, rfl, ⟨q2, rfl, hq2, hr'2⟩, hp2, hr2, ho2⟩
      clear hr'2
      have HR2 := hide hr2
      have OO2 := hide (OO1.out.trans ho2)
      clear hr2 ho2
      clear hc1 hf1
      obtain ⟨hc2, hf2⟩ := ocell OO2.out
      go_wp2_with fail
      (with_reducible refine (HP.out p2 _ _ HR2.out (by omega) (by omega) (by omega)).mono ?_); rintro e w3 ⟨v3, p3, rfl, ⟨q3, rfl, hq3, hr'3⟩, hp3, hr3, ho3⟩
      clear hr'3
      have HR3 := hide hr3
      have OO3 := hide (OO2.out.trans ho3)
      clear hr3 ho3
      clear hc2 hf2
      obtain ⟨hc3, hf3⟩ := ocell OO3.out
      go_wp2_with fail
      refine bodyPost_ret (v := .agg #[.int .i64 2, .int .i64 0, .int .i64 q2, .int .i64 q3, .slice none 0 0]) (by simp [results, Try.results40, go_sem, hc3, hne]) rfl ⟨_, p3, rfl, ⟨2, 0, q2, q3, ⟨none, 0, 0⟩, [], rfl, RepK.nil _ _, (by simp [descs])⟩, by omega, (((((HR3.out.setNew hlt _ _).setNew hlt _ _).setNew hlt _ _).setNew hlt _ _).setNew hlt _ _), ((((((HO0.out.trans OO3.out).setNew (Nat.le_refl _) _ _).setNew (Nat.le_refl _) _ _).setNew (Nat.le_refl _) _ _).setNew (Nat.le_refl _) _ _).setNew (Nat.le_refl _) _ _)⟩
    · have hl' : (q1 == 0) = false := by simp [hl]
      clear hl
      go_wp2_with fail
      (with_reducible refine (HP.out p1 _ _ HR1.out (by omega) (by omega) (by omega)).mono ?_); rintro e w2 ⟨v2, p2, rfl, ⟨q2, rfl, hq2, hr'2⟩, hp2, hr2, ho2⟩
      clear hr'2
      have HR2 := hide hr2
      have OO2 := hide (OO1.out.trans ho2)
      clear hr2 ho2
      clear hc1 hf1
      obtain ⟨hc2, hf2⟩ := ocell OO2.out
      go_wp2_with fail
      (with_reducible refine (HP.out p2 _ _ HR2.out (by omega) (by omega) (by omega)).mono ?_); rintro e w3 ⟨v3, p3, rfl, ⟨q3, rfl, hq3, hr'3⟩, hp3, hr3, ho3⟩
      clear hr'3
      have HR3 := hide hr3
      have OO3 := hide (OO2.out.trans ho3)
      clear hr3 ho3
      clear hc2 hf2
      obtain ⟨hc3, hf3⟩ := ocell OO3.out
      go_wp2_with fail
      (with_reducible refine (HP.out p3 _ _ HR3.out (by omega) (by omega) (by omega)).mono ?_); rintro e w4 ⟨v4, p4, rfl, ⟨q4, rfl, hq4, hr'4⟩, hp4, hr4, ho4⟩
      clear hr'4
      have HR4 := hide hr4
      have OO4 := hide (OO3.out.trans ho4)
      clear hr4 ho4
      clear hc3 hf3
      obtain ⟨hc4, hf4⟩ := ocell OO4.out
      go_wp2_with fail
      refine bodyPost_ret (v := .agg #[.int .i64 1, .int .i64 q2, .int .i64 q3, .int .i64 q4, .slice none 0 0]) (by simp [results, Try.results40, go_sem, hc4, hne]) rfl ⟨_, p4, rfl, ⟨1, q2, q3, q4, ⟨none, 0, 0⟩, [], rfl, RepK.nil _ _, (by simp [descs])⟩, by omega, (((((HR4.out.setNew hlt _ _).setNew hlt _ _).setNew hlt _ _).setNew hlt _ _).setNew hlt _ _), ((((((HO0.out.trans OO4.out).setNew (Nat.le_refl _) _ _).setNew (Nat.le_refl _) _ _).setNew (Nat.le_refl _) _ _).setNew (Nat.le_refl _) _ _).setNew (Nat.le_refl _) _ _)⟩
  | succ d ih =>
    intro hd p w hr hp
    have hpow : (2 : Int) ^ (d + 1) = 2 * 2 ^ d := by rw [Int.pow_succ]; omega
    have hpow2 : (2 : Int) ^ (d + 1 + 1) = 2 * 2 ^ (d + 1) := by rw [Int.pow_succ (2 : Int) (d + 1)]; omega
    have hpos := pow_pos2 d
    have IH := hide (ih (by omega))
    rw [hpow] at hp
    rw [hpow2, hpow]
    rw [hpow] at IH
    have HR0 := hide (hr.allocNew (.cells #[.int .i64 0, .int .i64 0, .int .i64 0, .int .i64 0, .slice none 0 0] 27))
    have HP := hide (fun (p : Int) n w' h hp (hn : n ≤ 100) (hn0 : 0 ≤ n) => pick_any b a c xs p n w' h hp (by omega) (by omega))
    have hlt := hr.lt
    have hne : w.heap.size ≠ b := by omega
    have HO0 := hide (Outside.of_below (lo := b) (hi := b + 1) (belowAlloc w (.cells #[.int .i64 0, .int .i64 0, .int .i64 0, .int .i64 0, .slice none 0 0] 27)))
    clear hr
    have hD1 : ((d + 1 : Nat) : Int) - 1 = (d : Int) := by omega
    have hD3 : ((d + 1 : Nat) : Int) ≤ 10 := by omega
    have hD2 : 1 ≤ ((d + 1 : Nat) : Int) := by omega
    generalize hZ : (2 : Int) ^ d = Z at *
    clear hZ hpow hpow2 ih
    generalize ((d + 1 : Nat) : Int) = D at *
    by_cases hD : D < 2
    · go_enter Try.func40, Try.ntmps40
      go_wp2_with fail
      (with_reducible refine (HP.out p _ _ HR0.out (by omega) (by omega) (by omega)).mono ?_); rintro e w1 ⟨v1, p1, rfl, ⟨q1, rfl, hq1, hr'1⟩, hp1, hr1, ho1⟩
      clear hr'1
      have HR1 := hide hr1
      have OO1 := hide ho1
      clear hr1 ho1
      obtain ⟨hc1, hf1⟩ := ocell OO1.out
      by_cases hl : q1 = 0
      · have hl' : (q1 == 0) = true := by rw [hl]; rfl
        clear hl
        go_wp2_with fail
        (with_reducible refine (HP.out p1 _ _ HR1.out (by omega) (by omega) (by omega)).mono ?_); rintro e w2 ⟨v2, p2, rfl, ⟨q2, rfl, hq2, hr'2⟩, hp2, hr2, ho2⟩
        clear hr'2
        have HR2 := hide hr2
        have OO2 := hide (OO1.out.trans ho2)
        clear hr2 ho2
        clear hc1 hf1
        obtain ⟨hc2, hf2⟩ := ocell OO2.out
        go_wp2_with fail
        (with_reducible refine (HP.out p2 _ _ HR2.out (by omega) (by omega) (by omega)).mono ?_); rintro e w3 ⟨v3, p3, rfl, ⟨q3, rfl, hq3, hr'3⟩, hp3, hr3, ho3⟩
        clear hr'3
        have HR3 := hide hr3
        have OO3 := hide (OO2.out.trans ho3)
        clear hr3 ho3
        clear hc2 hf2
        obtain ⟨hc3, hf3⟩ := ocell OO3.out
        go_wp2_with fail
        refine bodyPost_ret (v := .agg #[.int .i64 2, .int .i64 0, .int .i64 q2, .int .i64 q3, .slice none 0 0]) (by simp [results, Try.results40, go_sem, hc3, hne]) rfl ⟨_, p3, rfl, ⟨2, 0, q2, q3, ⟨none, 0, 0⟩, [], rfl, RepK.nil _ _, (by simp [descs]; omega)⟩, by omega, (((((HR3.out.setNew hlt _ _).setNew hlt _ _).setNew hlt _ _).setNew hlt _ _).setNew hlt _ _), ((((((HO0.out.trans OO3.out).setNew (Nat.le_refl _) _ _).setNew (Nat.le_refl _) _ _).setNew (Nat.le_refl _) _ _).setNew (Nat.le_refl _) _ _).setNew (Nat.le_refl _) _ _)⟩
      · have hl' : (q1 == 0) = false := by simp [hl]
        clear hl
        go_wp2_with fail
        (with_reducible refine (HP.out p1 _ _ HR1.out (by omega) (by omega) (by omega)).mono ?_); rintro e w2 ⟨v2, p2, rfl, ⟨q2, rfl, hq2, hr'2⟩, hp2, hr2, ho2⟩
        clear hr'2
        have HR2 := hide hr2
        have OO2 := hide (OO1.out.trans ho2)
        clear hr2 ho2
        clear hc1 hf1
        obtain ⟨hc2, hf2⟩ := ocell OO2.out
        go_wp2_with fail
        (with_reducible refine (HP.out p2 _ _ HR2.out (by omega) (by omega) (by omega)).mono ?_); rintro e w3 ⟨v3, p3, rfl, ⟨q3, rfl, hq3, hr'3⟩, hp3, hr3, ho3⟩
        clear hr'3
        have HR3 := hide hr3
        have OO3 := hide (OO2.out.trans ho3)
        clear hr3 ho3
        clear hc2 hf2
        obtain ⟨hc3, hf3⟩ := ocell OO3.out
        go_wp2_with fail
        (with_reducible refine (HP.out p3 _ _ HR3.out (by omega) (by omega) (by omega)).mono ?_); rintro e w4 ⟨v4, p4, rfl, ⟨q4, rfl, hq4, hr'4⟩, hp4, hr4, ho4⟩
        clear hr'4
        have HR4 := hide hr4
        have OO4 := hide (OO3.out.trans ho4)
        clear hr4 ho4
        clear hc3 hf3
        obtain ⟨hc4, hf4⟩ := ocell OO4.out
        go_wp2_with fail
        refine bodyPost_ret (v := .agg #[.int .i64 1, .int .i64 q2, .int .i64 q3, .int .i64 q4, .slice none 0 0]) (by simp [results, Try.results40, go_sem, hc4, hne]) rfl ⟨_, p4, rfl, ⟨1, q2, q3, q4, ⟨none, 0, 0⟩, [], rfl, RepK.nil _ _, (by simp [descs]; omega)⟩, by omega, (((((HR4.out.setNew hlt _ _).setNew hlt _ _).setNew hlt _ _).setNew hlt _ _).setNew hlt _ _), ((((((HO0.out.trans OO4.out).setNew (Nat.le_refl _) _ _).setNew (Nat.le_refl _) _ _).setNew (Nat.le_refl _) _ _).setNew (Nat.le_refl _) _ _).setNew (Nat.le_refl _) _ _)⟩
    · have hD' : decide (D < 2) = false := decide_eq_false hD
      go_enter Try.func40, Try.ntmps40
      go_wp2_with fail
      (with_reducible refine (HP.out p _ _ HR0.out (by omega) (by omega) (by omega)).mono ?_); rintro e w1 ⟨v1, p1, rfl, ⟨q1, rfl, hq1, hr'1⟩, hp1, hr1, ho1⟩
      clear hr'1
      have HR1 := hide hr1
      have OO1 := hide ho1
      clear hr1 ho1
      obtain ⟨hc1, hf1⟩ := ocell OO1.out
      by_cases hz : q1 = 0
      · have hz' : (q1 == 0) = true := by rw [hz]; rfl
        clear hz
        go_wp2_with fail
        (with_reducible refine (HP.out p1 _ _ HR1.out (by omega) (by omega) (by omega)).mono ?_); rintro e w2 ⟨v2, p2, rfl, ⟨q2, rfl, hq2, hr'2⟩, hp2, hr2, ho2⟩
        clear hr'2
        have HR2 := hide hr2
        have OO2 := hide (OO1.out.trans ho2)
        clear hr2 ho2
        clear hc1 hf1
        obtain ⟨hc2, hf2⟩ := ocell OO2.out
        by_cases hl : q2 = 0
        · have hl' : (q2 == 0) = true := by rw [hl]; rfl
          clear hl
          go_wp2_with fail
          (with_reducible refine (HP.out p2 _ _ HR2.out (by omega) (by omega) (by omega)).mono ?_); rintro e w3 ⟨v3, p3, rfl, ⟨q3, rfl, hq3, hr'3⟩, hp3, hr3, ho3⟩
          clear hr'3
          have HR3 := hide hr3
          have OO3 := hide (OO2.out.trans ho3)
          clear hr3 ho3
          clear hc2 hf2
          obtain ⟨hc3, hf3⟩ := ocell OO3.out
          go_wp2_with fail
          (with_reducible refine (HP.out p3 _ _ HR3.out (by omega) (by omega) (by omega)).mono ?_); rintro e w4 ⟨v4, p4, rfl, ⟨q4, rfl, hq4, hr'4⟩, hp4, hr4, ho4⟩
          clear hr'4
          have HR4 := hide hr4
          have OO4 := hide (OO3.out.trans ho4)
          clear hr4 ho4
          clear hc3 hf3
          obtain ⟨hc4, hf4⟩ := ocell OO4.out
          go_wp2_with fail
          refine bodyPost_ret (v := .agg #[.int .i64 2, .int .i64 0, .int .i64 q3, .int .i64 q4, .slice none 0 0]) (by simp [results, Try.results40, go_sem, hc4, hne]) rfl ⟨_, p4, rfl, ⟨2, 0, q3, q4, ⟨none, 0, 0⟩, [], rfl, RepK.nil _ _, (by simp [descs]; omega)⟩, by omega, (((((HR4.out.setNew hlt _ _).setNew hlt _ _).setNew hlt _ _).setNew hlt _ _).setNew hlt _ _), ((((((HO0.out.trans OO4.out).setNew (Nat.le_refl _) _ _).setNew (Nat.le_refl _) _ _).setNew (Nat.le_refl _) _ _).setNew (Nat.le_refl _) _ _).setNew (Nat.le_refl _) _ _)⟩
        · have hl' : (q2 == 0) = false := by simp [hl]
          clear hl
          go_wp2_with fail
          (with_reducible refine (HP.out p2 _ _ HR2.out (by omega) (by omega) (by omega)).mono ?_); rintro e w3 ⟨v3, p3, rfl, ⟨q3, rfl, hq3, hr'3⟩, hp3, hr3, ho3⟩
          clear hr'3
          have HR3 := hide hr3
          have OO3 := hide (OO2.out.trans ho3)
          clear hr3 ho3
          clear hc2 hf2
          obtain ⟨hc3, hf3⟩ := ocell OO3.out
          go_wp2_with fail
          (with_reducible refine (HP.out p3 _ _ HR3.out (by omega) (by omega) (by omega)).mono ?_); rintro e w4 ⟨v4, p4, rfl, ⟨q4, rfl, hq4, hr'4⟩, hp4, hr4, ho4⟩
          clear hr'4
          have HR4 := hide hr4
          have OO4 := hide (OO3.out.trans ho4)
          clear hr4 ho4
          clear hc3 hf3
          obtain ⟨hc4, hf4⟩ := ocell OO4.out
          go_wp2_with fail
          (with_reducible refine (HP.out p4 _ _ HR4.out (by omega) (by omega) (by omega)).mono ?_); rintro e w5 ⟨v5, p5, rfl, ⟨q5, rfl, hq5, hr'5⟩, hp5, hr5, ho5⟩
          clear hr'5
          have HR5 := hide hr5
          have OO5 := hide (OO4.out.trans ho5)
          clear hr5 ho5
          clear hc4 hf4
          obtain ⟨hc5, hf5⟩ := ocell OO5.out
          go_wp2_with fail
          refine bodyPost_ret (v := .agg #[.int .i64 1, .int .i64 q3, .int .i64 q4, .int .i64 q5, .slice none 0 0]) (by simp [results, Try.results40, go_sem, hc5, hne]) rfl ⟨_, p5, rfl, ⟨1, q3, q4, q5, ⟨none, 0, 0⟩, [], rfl, RepK.nil _ _, (by simp [descs]; omega)⟩, by omega, (((((HR5.out.setNew hlt _ _).setNew hlt _ _).setNew hlt _ _).setNew hlt _ _).setNew hlt _ _), ((((((HO0.out.trans OO5.out).setNew (Nat.le_refl _) _ _).setNew (Nat.le_refl _) _ _).setNew (Nat.le_refl _) _ _).setNew (Nat.le_refl _) _ _).setNew (Nat.le_refl _) _ _)⟩
      · have hz' : (q1 == 0) = false := by simp [hz]
        clear hz
        go_wp2_with fail
        (with_reducible refine (HP.out p1 _ _ HR1.out (by omega) (by omega) (by omega)).mono ?_); rintro e w2 ⟨v2, p2, rfl, ⟨q2, rfl, hq2, hr'2⟩, hp2, hr2, ho2⟩
        clear hr'2
        have HR2 := hide hr2
        have OO2 := hide (OO1.out.trans ho2)
        clear hr2 ho2
        clear hc1 hf1
        obtain ⟨hc2, hf2⟩ := ocell OO2.out
        by_cases hk : q2 = 0
        · have hk' : (q2 == 0) = true := by rw [hk]; rfl
          clear hk
          go_wp2_with fail
          (with_reducible refine (IH.out p2 _ HR2.out (by omega)).mono ?_); rintro e w3 ⟨v3, p3, rfl, ⟨oA, tA, rA, xA, sA, ksA, rfl, hkA, hdA⟩, hp3, hr3, ho3⟩
          have hszA : w.heap.size < w2.heap.size := by have := OO2.out.size; simp at this; omega
          have hbzA : b < w2.heap.size := by omega
          have HKA := hide hkA; clear hkA
          have HR3 := hide hr3
          have OO3 := hide (OO2.out.trans ho3)
          clear hr3 ho3
          clear hc2 hf2
          obtain ⟨hc3, hf3⟩ := ocell OO3.out
          have hRK := (((((HKA.out.set2 (g := w.heap.size) hszA 0 (.int .i64 5)).set2 hszA 1 (.int .i64 0)).set2 hszA 2 (.int .i64 0)).set2 hszA 3 (.int .i64 0)).set2 hszA 4 (.slice (some ⟨w3.heap.size, 0, none⟩) 1 1)).low (lo' := w.heap.size) (by omega)
          have hOne := RepK.one (o := oA) (t := tA) (q := rA) (x := xA) hRK (by have := OO3.out.size; simp at this ⊢; omega) 27
          have HONE := hide hOne; clear hOne hRK
          have hszN : w.heap.size < w3.heap.size := by have := OO3.out.size; simp at this; omega
          go_wp2_with fail
          refine bodyPost_ret (v := .agg #[.int .i64 5, .int .i64 0, .int .i64 0, .int .i64 0, .slice (some ⟨w3.heap.size, 0, none⟩) 1 1]) (by simp [results, Try.results40, go_sem, hc3, hne, hszN]) rfl ⟨_, p3, rfl, ⟨5, 0, 0, 0, ⟨some ⟨w3.heap.size, 0, none⟩, 1, 1⟩, [.mk oA tA rA xA ksA], rfl, by simpa using HONE.out, (by rw [descs_one]; simp only [Cd.kids]; omega)⟩, by omega, ((((((HR3.out.setNew hlt _ _).setNew hlt _ _).setNew hlt _ _).setNew hlt _ _).setNew hlt _ _).allocNew _), (((((((HO0.out.trans OO3.out).setNew (Nat.le_refl _) _ _).setNew (Nat.le_refl _) _ _).setNew (Nat.le_refl _) _ _).setNew (Nat.le_refl _) _ _).setNew (Nat.le_refl _) _ _).allocNew _)⟩
        · have hk' : (q2 == 0) = false := by simp [hk]
          clear hk
          have HN := hide (fun (p : Int) (w' : World) (hb : b < w'.heap.size) h hp => num_any b a c xs p (Value.slice (some (Addr.mk w'.heap.size 0 none)) 2 2) [3, 4] (w'.alloc (.cells #[.int .i64 3, .int .i64 4] 3)) h hp (rep_lit w' [3, 4] 3 (by decide)) (by decide) (by decide) (by intro g o e; simp at e; omega))
          go_wp2_with fail
          (with_reducible refine (HN.out p2 w2 (by have := OO2.out.size; simp at this; omega) (HR2.out.allocNew _) (by omega)).mono ?_); rintro e w3 ⟨v3, p3, rfl, ⟨yo, hyo, rfl⟩, hp3, hr3, hoN⟩
          have ho3 := (Outside.of_below (lo := b) (hi := b + 1) (belowAlloc w2 (.cells #[.int .i64 3, .int .i64 4] 3))).trans hoN
          clear hoN
          have HR3 := hide hr3
          have OO3 := hide (OO2.out.trans ho3)
          clear hr3 ho3
          clear hc2 hf2
          obtain ⟨hc3, hf3⟩ := ocell OO3.out
          go_wp2_with fail
          (with_reducible refine (IH.out p3 _ HR3.out (by omega)).mono ?_); rintro e w4 ⟨v4, p4, rfl, ⟨oA, tA, rA, xA, sA, ksA, rfl, hkA, hdA⟩, hp4, hr4, ho4⟩
          have hszA : w.heap.size < w3.heap.size := by have := OO3.out.size; simp at this; omega
          have hbzA : b < w3.heap.size := by omega
          have HKA := hide hkA; clear hkA
          have HoA := hide ho4
          have HR4 := hide hr4
          have OO4 := hide (OO3.out.trans ho4)
          clear hr4 ho4
          clear hc3 hf3
          obtain ⟨hc4, hf4⟩ := ocell OO4.out
          go_wp2_with fail
          (with_reducible refine (IH.out p4 _ HR4.out (by omega)).mono ?_); rintro e w5 ⟨v5, p5, rfl, ⟨oB, tB, rB, xB, sB, ksB, rfl, hkB, hdB⟩, hp5, hr5, ho5⟩
          have hszB : w.heap.size < w4.heap.size := by have := OO4.out.size; simp at this; omega
          have hbzB : b < w4.heap.size := by omega
          have HKB := hide hkB; clear hkB
          have HoB := hide ho5
          have HR5 := hide hr5
          have OO5 := hide (OO4.out.trans ho5)
          clear hr5 ho5
          clear hc4 hf4
          obtain ⟨hc5, hf5⟩ := ocell OO5.out
          have hA := ((((((HKA.out.outside HoB.out hbzA).set2 (g := w.heap.size) hszA 0 (.int .i64 yo)).set2 hszA 1 (.int .i64 0)).set2 hszA 2 (.int .i64 0)).set2 hszA 3 (.int .i64 0)).set2 hszA 4 (.slice (some ⟨w5.heap.size, 0, none⟩) 2 2)).low (lo' := w.heap.size) (by omega)
          have hB := (((((HKB.out.set2 (g := w.heap.size) hszB 0 (.int .i64 yo)).set2 hszB 1 (.int .i64 0)).set2 hszB 2 (.int .i64 0)).set2 hszB 3 (.int .i64 0)).set2 hszB 4 (.slice (some ⟨w5.heap.size, 0, none⟩) 2 2)).low (lo' := w.heap.size) (by omega)
          have hTwo := RepK.two (o := oA) (t := tA) (q := rA) (x := xA) (o' := oB) (t' := tB) (q' := rB) (x' := xB) hA hB (by have := OO5.out.size; simp at this ⊢; omega) 27
          have HTWO := hide hTwo; clear hTwo hA hB
          have hszN : w.heap.size < w5.heap.size := by have := OO5.out.size; simp at this; omega
          go_wp2_with fail
          refine bodyPost_ret (v := .agg #[.int .i64 yo, .int .i64 0, .int .i64 0, .int .i64 0, .slice (some ⟨w5.heap.size, 0, none⟩) 2 2]) (by simp [results, Try.results40, go_sem, hc5, hne, hszN]) rfl ⟨_, p5, rfl, ⟨yo, 0, 0, 0, ⟨some ⟨w5.heap.size, 0, none⟩, 2, 2⟩, [.mk oA tA rA xA ksA, .mk oB tB rB xB ksB], rfl, by simpa using HTWO.out, (by rw [descs_two]; simp only [Cd.kids]; omega)⟩, by omega, ((((((HR5.out.setNew hlt _ _).setNew hlt _ _).setNew hlt _ _).setNew hlt _ _).setNew hlt _ _).allocNew _), (((((((HO0.out.trans OO5.out).setNew (Nat.le_refl _) _ _).setNew (Nat.le_refl _) _ _).setNew (Nat.le_refl _) _ _).setNew (Nat.le_refl _) _ _).setNew (Nat.le_refl _) _ _).allocNew _)⟩

end Go.Proofs.Ytpjebgiejkglpaa
namespace Go.Proofs.Ytpjebgiejkglpaa
open Go.RowKit

/-- u reads as the condition c, in blocks that are ok. -/
inductive RepXc (ok : Nat → Prop) (w : World) : Cs → Cd → Prop
  | mk {o t p x : Int} {s : Slc} {us : List Cs} {ks : List Cd} (h1 : us.length = ks.length) (h2 : Rep CsE w s.v us) (h3 : us = [] ∨ ∀ b o, s.a = some ⟨b, o, none⟩ → ok b)
      (h4 : ∀ (i : Nat) (u : Cs) (k : Cd), us[i]? = some u → ks[i]? = some k → RepXc ok w u k) : RepXc ok w ⟨o, t, p, x, s⟩ (.mk o t p x ks)

/-- s reads as the conditions ks, in blocks that are ok. -/
def Foot (ok : Nat → Prop) (w : World) (s : Slc) (ks : List Cd) : Prop :=
  ∃ us : List Cs, us.length = ks.length ∧ Rep CsE w s.v us ∧ (us = [] ∨ ∀ b o, s.a = some ⟨b, o, none⟩ → ok b) ∧ ∀ (i : Nat) (u : Cs) (k : Cd), us[i]? = some u → ks[i]? = some k → RepXc ok w u k

theorem Foot.cond {ok : Nat → Prop} {w : World} {s : Slc} {ks : List Cd} (h : Foot ok w s ks) (o t p x : Int) : RepXc ok w ⟨o, t, p, x, s⟩ (.mk o t p x ks) := by
  obtain ⟨us, h1, h2, h3, h4⟩ := h
  exact .mk h1 h2 h3 h4

theorem rep_ok {ok : Nat → Prop} {w w' : World} {s : Slc} {us : List Cs} (h : Rep CsE w s.v us) (hf : us = [] ∨ ∀ b o, s.a = some ⟨b, o, none⟩ → ok b) (hk : ∀ q, ok q → q < w.heap.size → w'.heap[q]? = w.heap[q]?) : Rep CsE w' s.v us := by
  obtain ⟨a, c, hv, h1, h2, h⟩ := h
  refine ⟨a, c, hv, h1, h2, fun i x hx => ?_⟩
  obtain ⟨b, o, rfl, hi⟩ := h i x hx
  refine ⟨b, o, rfl, fun j u hu => ?_⟩
  have hc := hi j u hu
  rw [← hc]
  refine cell_of_block (hk b ?_ (lt_of_cell hc)) _
  rcases hf with rfl | hf
  · simp at hx
  · simp only [Slc.v, Value.slice.injEq] at hv
    exact hf b o hv.1

theorem RepXc.step {ok : Nat → Prop} {w w' : World} {u : Cs} {c : Cd} (h : RepXc ok w u c) (hk : ∀ q, ok q → q < w.heap.size → w'.heap[q]? = w.heap[q]?) : RepXc ok w' u c := by
  induction h with
  | mk h1 h2 h3 h4 ih => exact .mk h1 (rep_ok h2 h3 hk) h3 ih
theorem RepXc.weak {ok ok' : Nat → Prop} {w : World} {u : Cs} {c : Cd} (h : RepXc ok w u c) (hi : ∀ q, ok q → ok' q) : RepXc ok' w u c := by
  induction h with
  | mk h1 h2 h3 h4 ih => exact .mk h1 h2 (h3.imp id fun h b o e => hi b (h b o e)) ih
theorem RepXc.rep {ok : Nat → Prop} {w : World} {u : Cs} {c : Cd} (h : RepXc ok w u c) : RepC 0 w u c := by
  induction h with
  | mk h1 h2 h3 h4 ih => exact .mk h1 h2 (.inr fun b o _ => Nat.zero_le _) ih
theorem RepXc.of {lo : Nat} {w : World} {u : Cs} {c : Cd} (h : RepC lo w u c) : RepXc (fun q => lo ≤ q) w u c := by
  induction h with
  | mk h1 h2 h3 h4 ih => exact .mk h1 h2 h3 ih

theorem Foot.step {ok : Nat → Prop} {w w' : World} {s : Slc} {ks : List Cd} (h : Foot ok w s ks) (hk : ∀ q, ok q → q < w.heap.size → w'.heap[q]? = w.heap[q]?) : Foot ok w' s ks := by
  obtain ⟨us, h1, h2, h3, h4⟩ := h
  exact ⟨us, h1, rep_ok h2 h3 hk, h3, fun i u k hu hkk => (h4 i u k hu hkk).step hk⟩
theorem Foot.weak {ok ok' : Nat → Prop} {w : World} {s : Slc} {ks : List Cd} (h : Foot ok w s ks) (hi : ∀ q, ok q → ok' q) : Foot ok' w s ks := by
  obtain ⟨us, h1, h2, h3, h4⟩ := h
  exact ⟨us, h1, h2, h3.imp id fun h b o e => hi b (h b o e), fun i u k hu hkk => (h4 i u k hu hkk).weak hi⟩
theorem Foot.rep {ok : Nat → Prop} {w : World} {s : Slc} {ks : List Cd} (h : Foot ok w s ks) : RepK 0 w s ks := by
  obtain ⟨us, h1, h2, h3, h4⟩ := h
  exact ⟨us, h1, h2, .inr fun b o _ => Nat.zero_le _, fun i u k hu hkk => (h4 i u k hu hkk).rep⟩
theorem Foot.of {lo : Nat} {w : World} {s : Slc} {ks : List Cd} (h : RepK lo w s ks) : Foot (fun q => lo ≤ q) w s ks := by
  obtain ⟨us, h1, h2, h3, h4⟩ := h
  exact ⟨us, h1, h2, h3, fun i u k hu hkk => RepXc.of (h4 i u k hu hkk)⟩
theorem Foot.nil (ok : Nat → Prop) (w : World) : Foot ok w ⟨none, 0, 0⟩ [] := ⟨[], rfl, Rep.nil w, .inl rfl, fun i u k h => by simp at h⟩
theorem Foot.below {ok : Nat → Prop} {w w' : World} {s : Slc} {ks : List Cd} (h : Foot ok w s ks) (hb : Below w.heap.size w w') : Foot ok w' s ks := h.step (fun q _ hq => hb.block q hq)
theorem Foot.set {ok : Nat → Prop} {w : World} {s : Slc} {ks : List Cd} (h : Foot ok w s ks) {g : Nat} (hg : ¬ ok g) (j : Nat) (u : Value) : Foot ok (w.setCell ⟨g, j, none⟩ u) s ks :=
  h.step (fun q hq _ => heap_setCell_other w ⟨g, j, none⟩ q u (fun e => hg (by
    have h2 : q = g := by simpa using e
    exact h2 ▸ hq)))
theorem Foot.outside {ok : Nat → Prop} {b : Nat} {w w' : World} {s : Slc} {ks : List Cd} (h : Foot ok w s ks) (ho : Outside b (b + 1) w w') (hb : ¬ ok b) : Foot ok w' s ks :=
  h.step (fun q hq hqs => ho.block q hqs (by
    have : q ≠ b := fun e => hb (e ▸ hq)
    omega))

theorem Foot.one {ok : Nat → Prop} {w : World} {o t q x : Int} {s : Slc} {ks : List Cd} (h : Foot ok w s ks) (hg : ok w.heap.size) (T : TypeId) :
    Foot ok (w.alloc (.cells #[.int .i64 o, .int .i64 t, .int .i64 q, .int .i64 x, .slice s.a s.n s.cap] T)) ⟨some ⟨w.heap.size, 0, none⟩, 1, 1⟩ [.mk o t q x ks] := by
  refine ⟨[⟨o, t, q, x, s⟩], rfl, ⟨_, 1, rfl, Nat.le_refl _, by unfold maxLen; omega, fun i u hu => ?_⟩, .inr fun b f e => by simp at e; rw [← e.1]; exact hg, fun i u k hu hk => ?_⟩
  · refine ⟨w.heap.size, 0, rfl, fun j v hv => ?_⟩
    cases i with
    | zero =>
      simp at hu; subst hu
      rw [cell_of_row _ _ _ _ T (0, 0) (heap_alloc_new w _)]
      simpa [CsE] using hv
    | succ i => simp at hu
  · cases i with
    | zero =>
      simp at hu hk; subst hu; subst hk
      exact (h.below (belowAlloc _ _)).cond o t q x
    | succ i => simp at hu

/-- A condition that was drawn: all of it from lo on. -/
def QF (lo : Nat) (K : Int) (v : Value) (w : World) : Prop := ∃ (o t q x : Int) (s : Slc) (ks : List Cd), v = .agg #[.int .i64 o, .int .i64 t, .int .i64 q, .int .i64 x, .slice s.a s.n s.cap] ∧ Foot (fun q => lo ≤ q) w s ks ∧ (descs ks : Int) + 2 ≤ K

theorem numLit3 (b : Nat) (a : Option Addr) (c : Nat) (xs : List Int) (p : Int) (y0 y1 y2 : Int) (w' : World) (G : Nat) (hG : w'.heap.size = G) (hb : b < G) (h : Rd (w'.alloc (.cells #[.int .i64 y0, .int .i64 y1, .int .i64 y2] 3)) b a c xs p) (hp : p ≤ 1000000000) :
    Calls Try.prog 39 #[.pointer (some ⟨b, 0, none⟩), .slice (some ⟨G, 0, none⟩) 3 3] (w'.alloc (.cells #[.int .i64 y0, .int .i64 y1, .int .i64 y2] 3)) (RetRd (w'.alloc (.cells #[.int .i64 y0, .int .i64 y1, .int .i64 y2] 3)) b a c xs p 1 (OneOf [y0, y1, y2])) := by
  subst hG
  exact num_any b a c xs p (Value.slice (some (Addr.mk w'.heap.size 0 none)) 3 3) [y0, y1, y2] _ h hp (rep_lit w' [y0, y1, y2] 3 (by simp)) (by simp) (by simp) (by intro g o e; simp at e; omega)

theorem numLit4 (b : Nat) (a : Option Addr) (c : Nat) (xs : List Int) (p : Int) (y0 y1 y2 y3 : Int) (w' : World) (G : Nat) (hG : w'.heap.size = G) (hb : b < G) (h : Rd (w'.alloc (.cells #[.int .i64 y0, .int .i64 y1, .int .i64 y2, .int .i64 y3] 3)) b a c xs p) (hp : p ≤ 1000000000) :
    Calls Try.prog 39 #[.pointer (some ⟨b, 0, none⟩), .slice (some ⟨G, 0, none⟩) 4 4] (w'.alloc (.cells #[.int .i64 y0, .int .i64 y1, .int .i64 y2, .int .i64 y3] 3)) (RetRd (w'.alloc (.cells #[.int .i64 y0, .int .i64 y1, .int .i64 y2, .int .i64 y3] 3)) b a c xs p 1 (OneOf [y0, y1, y2, y3])) := by
  subst hG
  exact num_any b a c xs p (Value.slice (some (Addr.mk w'.heap.size 0 none)) 4 4) [y0, y1, y2, y3] _ h hp (rep_lit w' [y0, y1, y2, y3] 3 (by simp)) (by simp) (by simp) (by intro g o e; simp at e; omega)

theorem numLit5 (b : Nat) (a : Option Addr) (c : Nat) (xs : List Int) (p : Int) (y0 y1 y2 y3 y4 : Int) (w' : World) (G : Nat) (hG : w'.heap.size = G) (hb : b < G) (h : Rd (w'.alloc (.cells #[.int .i64 y0, .int .i64 y1, .int .i64 y2, .int .i64 y3, .int .i64 y4] 3)) b a c xs p) (hp : p ≤ 1000000000) :
    Calls Try.prog 39 #[.pointer (some ⟨b, 0, none⟩), .slice (some ⟨G, 0, none⟩) 5 5] (w'.alloc (.cells #[.int .i64 y0, .int .i64 y1, .int .i64 y2, .int .i64 y3, .int .i64 y4] 3)) (RetRd (w'.alloc (.cells #[.int .i64 y0, .int .i64 y1, .int .i64 y2, .int .i64 y3, .int .i64 y4] 3)) b a c xs p 1 (OneOf [y0, y1, y2, y3, y4])) := by
  subst hG
  exact num_any b a c xs p (Value.slice (some (Addr.mk w'.heap.size 0 none)) 5 5) [y0, y1, y2, y3, y4] _ h hp (rep_lit w' [y0, y1, y2, y3, y4] 3 (by simp)) (by simp) (by simp) (by intro g o e; simp at e; omega)

set_option maxHeartbeats 800000 in
theorem l11Some_any (b : Nat) (a : Option Addr) (c : Nat) (xs : List Int) (p : Int) (w : World) (hr : Rd w b a c xs p) (hp : p ≤ 800000000) :
    Calls Try.prog 18 #[.pointer (some ⟨b, 0, none⟩)] w (RetRd w b a c xs p 200 (QF w.heap.size 40)) := by
  have HN := hide (fun w' G hG hb h hp => numLit4 b a c xs p 2 3 1 4 w' G hG hb h hp)
  have HD := hide (fun d hd p w' h hp => l11Draw_any b a c xs d hd p w' h hp)
  have HR0 := hide (hr.allocNew (.cells #[.int .i64 0, .int .i64 0, .int .i64 0, .int .i64 0, .slice none 0 0] 27))
  have HO0 := hide (Outside.of_below (lo := b) (hi := b + 1) (belowAlloc w (.cells #[.int .i64 0, .int .i64 0, .int .i64 0, .int .i64 0, .slice none 0 0] 27)))
  have hlt := hr.lt
  have hne : w.heap.size ≠ b := by omega
  clear hr
  go_enter Try.func18, Try.ntmps18
  go_wp2_with fail
  (with_reducible refine (HN.out _ _ (by simp) (by omega) (HR0.out.allocNew _) (by omega)).mono ?_); rintro e w1 ⟨v1, p1, rfl, ⟨y, hy, rfl⟩, hp1, hr1, ho1⟩
  have HR1 := hide hr1
  have OO1 := hide ((Outside.of_below (lo := b) (hi := b + 1) (belowAlloc (w.alloc (.cells #[.int .i64 0, .int .i64 0, .int .i64 0, .int .i64 0, .slice none 0 0] 27)) (.cells #[.int .i64 2, .int .i64 3, .int .i64 1, .int .i64 4] 3))).trans ho1)
  clear hr1 ho1
  obtain ⟨d, rfl, hd⟩ : ∃ d : Nat, y = (d : Int) ∧ d ≤ 4 := by
    simp only [List.mem_cons, List.not_mem_nil, or_false] at hy
    rcases hy with rfl | rfl | rfl | rfl
    · exact ⟨2, rfl, by decide⟩
    · exact ⟨3, rfl, by decide⟩
    · exact ⟨1, rfl, by decide⟩
    · exact ⟨4, rfl, by decide⟩
  have hpow : (2 : Int) ^ d ≤ 16 ∧ (2 : Int) ^ (d + 1) ≤ 32 ∧ (1 : Int) ≤ 2 ^ d := by
    have : d = 0 ∨ d = 1 ∨ d = 2 ∨ d = 3 ∨ d = 4 := by omega
    rcases this with rfl | rfl | rfl | rfl | rfl <;> decide
  have hsz : w.heap.size < w1.heap.size := by have := OO1.out.size; simp at this; omega
  go_wp2_with fail
  (with_reducible refine (HD.out d (by omega) p1 _ HR1.out (by omega)).mono ?_); rintro e w2 ⟨v2, p2, rfl, ⟨o, t, q, x, s, ks, rfl, hk, hd2⟩, hp2, hr2, ho2⟩
  have OO2 := hide (OO1.out.trans ho2)
  have HR2 := hide hr2
  have HK := hide hk
  clear hr2 ho2 hk
  obtain ⟨hc2, hf2⟩ := ocell OO2.out
  go_wp2_with fail
  refine bodyPost_ret (v := .agg #[.int .i64 o, .int .i64 t, .int .i64 q, .int .i64 x, .slice s.a s.n s.cap]) (by simp [results, Try.results18, go_sem, hc2, hne]) rfl ⟨_, p2, rfl, ⟨o, t, q, x, s, ks, rfl, ?_, by omega⟩, by omega, (((((HR2.out.setNew hlt _ _).setNew hlt _ _).setNew hlt _ _).setNew hlt _ _).setNew hlt _ _), ((((((HO0.out.trans OO2.out).setNew (Nat.le_refl _) _ _).setNew (Nat.le_refl _) _ _).setNew (Nat.le_refl _) _ _).setNew (Nat.le_refl _) _ _).setNew (Nat.le_refl _) _ _)⟩
  exact (Foot.of (((((HK.out.set2 (g := w.heap.size) hsz _ _).set2 hsz _ _).set2 hsz _ _).set2 hsz _ _).set2 hsz _ _)).weak (fun q hq => by have hq' : w1.heap.size ≤ q := hq; omega)

end Go.Proofs.Ytpjebgiejkglpaa
