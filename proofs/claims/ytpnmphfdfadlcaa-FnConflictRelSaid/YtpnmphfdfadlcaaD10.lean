/-
  Programs that are drawn: the texts, one instruction. Condition: not too many numbers were taken.
-/
import Derived.Test.YtpnmphfdfadlcaaD9
namespace Go.Proofs.Ytpnmphfdfadlcaa
open Go.RowKit

/-- A literal. -/
theorem Own.lit {α : Type} {E : El α} {T : TypeId} {w : World} {base : Nat} (hb : base ≤ w.heap.size) (xs : List α) (cur : Array Value) (n : Nat) (hc : cur.toList = xs.flatMap E.c) (hn : n = xs.length) (hl : n ≤ 1000) :
    Own E T (w.alloc (.cells cur T)) base (.slice (some ⟨w.heap.size, 0, none⟩) n n) xs := by
  subst hn
  have hsz : (xs.flatMap E.c).length = xs.length * E.sz := El.length E xs
  refine ⟨hsz, .inr ⟨w.heap.size, xs.length, cur, rfl, hb, heap_alloc_new w _, Nat.le_refl _, by unfold maxLen; omega, ?_, ?_⟩⟩
  · rw [← hsz, ← hc]; simp
  · rw [hc, ← hsz, List.take_length]

theorem Outside.grownNew {lo hi : Nat} {w w' w'' : World} {row : Option Nat} (h : Outside lo hi w w') (hg : w'.grownBy w'' row) (hr : ∀ q, row = some q → w.heap.size ≤ q) : Outside lo hi w w'' :=
  ⟨hg.os.trans h.os, hg.tape.trans h.tape, hg.output.trans h.output, Nat.le_trans h.size hg.size, fun k hk hlh => (hg.block k (by have := h.size; omega) (fun e => by have := hr k e.symm; omega)).trans (h.block k hk hlh)⟩

theorem Rd.grownNew {w w' : World} {b : Nat} {a : Option Addr} {c : Nat} {xs : List Int} {p : Int} (h : Rd w b a c xs p) {row : Option Nat} (hg : w.grownBy w' row) (hr : ∀ q, row = some q → b < q) : Rd w' b a c xs p :=
  h.keep (B := b + 1) ((Below.refl _ _).grown hg h.lt (fun q hq => hr q hq)) (Nat.lt_succ_self _)

theorem Outside.ownHi {α : Type} {E : El α} {T : TypeId} {b : Nat} {w w' : World} (h : Outside b (b + 1) w w') {base : Nat} {v : Value} {xs : List α} (ho : Own E T w base v xs) (hb : b < base) : Own E T w' base v xs :=
  h.own ho (fun q hq => .inr (by have := (World.ownsRow.lt ho q hq).1; omega))

theorem RepP.new_of {w : World} {base : Nat} {v : Value} {P : List (List Ins)} (h : OwnP w base v P) : RepP w v P := h.rep

/-- A literal of one row of one instruction. -/
theorem own2_one {w w1 : World} {base : Nat} (hb : base ≤ w.heap.size) (x : Ins) (h1 : w1 = w.alloc (.cells #[.int .i64 x.op, .int .i64 x.loc, .int .i64 x.reg, .int .i64 x.val] 72)) :
    OwnP (w1.alloc (.cells #[.slice (some ⟨w.heap.size, 0, none⟩) 1 1] 73)) base (.slice (some ⟨w.heap.size + 1, 0, none⟩) 1 1) [[x]] := by
  subst h1
  have h1 : OwnI (w.alloc (.cells #[.int .i64 x.op, .int .i64 x.loc, .int .i64 x.reg, .int .i64 x.val] 72)) base (.slice (some ⟨w.heap.size, 0, none⟩) 1 1) [x] :=
    Own.lit hb [x] _ 1 rfl rfl (by omega)
  have h2 : Own SlcE 73 ((w.alloc (.cells #[.int .i64 x.op, .int .i64 x.loc, .int .i64 x.reg, .int .i64 x.val] 72)).alloc (.cells #[.slice (some ⟨w.heap.size, 0, none⟩) 1 1] 73)) base (.slice (some ⟨w.heap.size + 1, 0, none⟩) 1 1) [⟨some ⟨w.heap.size, 0, none⟩, 1, 1⟩] := by
    have := Own.lit (E := SlcE) (T := 73) (w := w.alloc (.cells #[.int .i64 x.op, .int .i64 x.loc, .int .i64 x.reg, .int .i64 x.val] 72)) (base := base) (by simp; omega) [⟨some ⟨w.heap.size, 0, none⟩, 1, 1⟩] #[.slice (some ⟨w.heap.size, 0, none⟩) 1 1] 1 rfl rfl (by omega)
    simpa using this
  refine ⟨[⟨some ⟨w.heap.size, 0, none⟩, 1, 1⟩], rfl, h2, ?_, ?_, ?_⟩
  · intro i u r hu hr
    cases i with
    | zero => simp at hu hr; subst hu; subst hr; exact h1.alloc _
    | succ i => simp at hu
  · intro i j u u' hi hj hij
    have : i = 0 := by cases i with
      | zero => rfl
      | succ i => simp at hi
    have : j = 0 := by cases j with
      | zero => rfl
      | succ j => simp at hj
    omega
  · intro i u hu
    cases i with
    | zero => simp at hu; subst hu; intro k hk; simp [Value.ownBlock] at hk ⊢; omega
    | succ i => simp at hu

def testTexts : List ByteArray := [⟨#[120, 61, 49, 59, 97, 61, 121, 124, 121, 61, 49, 59, 97, 61, 120]⟩, ⟨#[120, 61, 49, 59, 102, 101, 110, 99, 101, 59, 97, 61, 121, 124, 121, 61, 49, 59, 102, 101, 110, 99, 101, 59, 97, 61, 120]⟩, ⟨#[120, 61, 49, 59, 121, 61, 49, 124, 97, 61, 121, 59, 98, 61, 120]⟩, ⟨#[120, 61, 49, 59, 121, 61, 49, 124, 97, 61, 121, 59, 102, 101, 110, 99, 101, 59, 98, 61, 120]⟩, ⟨#[120, 61, 49, 59, 102, 101, 110, 99, 101, 59, 121, 61, 49, 124, 97, 61, 121, 59, 98, 61, 120]⟩, ⟨#[97, 61, 120, 59, 121, 61, 49, 124, 97, 61, 121, 59, 120, 61, 49]⟩, ⟨#[97, 61, 120, 59, 121, 61, 97, 124, 97, 61, 121, 59, 120, 61, 97]⟩, ⟨#[120, 61, 49, 124, 120, 61, 50, 124, 97, 61, 120, 59, 98, 61, 120]⟩, ⟨#[120, 61, 49, 124, 121, 61, 49, 124, 97, 61, 120, 59, 98, 61, 121, 124, 97, 61, 121, 59, 98, 61, 120]⟩, ⟨#[120, 61, 49, 124, 97, 61, 120, 59, 121, 61, 49, 124, 97, 61, 121, 59, 98, 61, 120]⟩, ⟨#[120, 61, 49, 124, 121, 61, 49, 124, 97, 61, 120, 59, 98, 61, 121]⟩, ⟨#[97, 61, 120, 58, 49, 124, 97, 61, 120, 58, 50, 124, 120, 61, 51]⟩, ⟨#[120, 61, 49, 59, 97, 61, 120, 59, 98, 61, 121, 124, 121, 61, 49, 59, 97, 61, 121, 59, 98, 61, 120]⟩, ⟨#[120, 61, 50, 59, 121, 61, 49, 124, 121, 61, 50, 59, 120, 61, 49]⟩, ⟨#[97, 61, 120, 58, 49, 59, 98, 61, 121, 124, 97, 61, 121, 58, 49, 59, 98, 61, 120]⟩, ⟨#[120, 61, 49, 59, 120, 61, 50, 124, 97, 61, 120, 59, 98, 61, 120]⟩, ⟨#[120, 61, 49, 59, 121, 61, 49, 59, 97, 61, 122, 124, 122, 61, 49, 59, 97, 61, 121, 59, 98, 61, 120]⟩, ⟨#[97, 61, 120, 58, 49, 124, 98, 61, 120, 58, 49]⟩, ⟨#[102, 101, 110, 99, 101]⟩, ⟨#[]⟩, ⟨#[120, 61, 49, 59, 97, 61, 121, 124, 121, 61, 49, 59, 102, 101, 110, 99, 101, 59, 97, 61, 120]⟩]

theorem testTexts_le : ∀ x ∈ testTexts, x.size ≤ 1000 := by
  have h : (testTexts.all fun x => decide (x.size ≤ 1000)) = true := by rfl
  intro x hx
  have := List.all_eq_true.1 h x hx
  simpa using this

set_option maxRecDepth 100000 in
set_option maxHeartbeats 800000 in
theorem l1Tests_any (w : World) : Calls Try.prog 220 #[] w fun e w' => e = .returned (.slice (some ⟨w.heap.size, 0, none⟩) 21 21) ∧ Own StrE 9 w' w.heap.size (.slice (some ⟨w.heap.size, 0, none⟩) 21 21) testTexts ∧ Below w.heap.size w w' := by
  go_enter Try.func220, Try.ntmps220
  go_wp2_with fail
  go_ret
  exact ⟨rfl, Own.lit (Nat.le_refl _) testTexts _ 21 rfl rfl (by omega), belowAlloc _ _⟩

def IsIns (v : Value) (_ : World) : Prop := ∃ o l r x : Int, v = .agg #[.int .i64 o, .int .i64 l, .int .i64 r, .int .i64 x]

set_option maxRecDepth 100000 in
set_option maxHeartbeats 1600000 in
theorem l1Instr_any (b : Nat) (a : Option Addr) (c : Nat) (xs : List Int) (p : Int) (w : World) (hr : Rd w b a c xs p) (hp : p ≤ 900000000) :
    Calls Try.prog 221 #[.pointer (some ⟨b, 0, none⟩)] w (RetRd w b a c xs p 4 IsIns) := by
  have HP := hide (fun (p : Int) n w' h hp (hn : n ≤ 100) (hn0 : 0 ≤ n) => pick_any b a c xs p n w' h hp (by omega) (by omega))
  have hlt := hr.lt
  have hne : w.heap.size ≠ b := by omega
  have R0 := hide (hr.allocNew (.cells #[.int .i64 0, .int .i64 0, .int .i64 0, .int .i64 0] 72))
  have O0 := hide (Outside.of_below (lo := b) (hi := b + 1) (belowAlloc w (.cells #[.int .i64 0, .int .i64 0, .int .i64 0, .int .i64 0] 72)))
  have BI0 := hide (BoxI.new w 0 0 0 0 72)
  clear hr
  go_enter Try.func221, Try.ntmps221
  go_wp2_with fail
  (with_reducible refine (HP.out p _ _ R0.out (by omega) (by omega) (by omega)).mono ?_); rintro e w1 ⟨v1, p1, rfl, ⟨q1, rfl, hq1, -⟩, hp1, hr1, ho1⟩
  have R1 := hide hr1; have BI1 := hide (BI0.out.outside ho1 hne); have O1 := hide (O0.out.trans ho1)
  clear hr1 ho1 BI0 R0 O0
  go_wp2_with fail
  (with_reducible refine (HP.out p1 _ _ R1.out (by omega) (by omega) (by omega)).mono ?_); rintro e w2 ⟨v2, p2, rfl, ⟨q2, rfl, hq2, -⟩, hp2, hr2, ho2⟩
  have R2 := hide hr2; have BI2 := hide (BI1.out.outside ho2 hne); have O2 := hide (O1.out.trans ho2)
  clear hr2 ho2 BI1 R1 O1
  by_cases h0 : q2 = 0
  · subst h0
    obtain ⟨lt2, i0, i1, i2, i3, if'⟩ := BI2.out
    go_wp2_with fail
    refine bodyPost_ret (v := .agg #[.int .i64 (4), .int .i64 (0), .int .i64 (0), .int .i64 (0)]) (by simp [results, Try.results221, go_sem, *]) rfl ⟨_, p2, rfl, ⟨_, _, _, _, rfl⟩, by omega, ((((R2.out.setNew hlt _ _).setNew hlt _ _).setNew hlt _ _).setNew hlt _ _), ((((O2.out.setNew (Nat.le_refl _) _ _).setNew (Nat.le_refl _) _ _).setNew (Nat.le_refl _) _ _).setNew (Nat.le_refl _) _ _)⟩
  · have h0' : (q2 == 0) = false := by simp [h0]
    clear h0
    by_cases h1 : q2 = 1
    · subst h1
      go_wp2_with fail
      (with_reducible refine (HP.out p2 _ _ R2.out (by omega) (by omega) (by omega)).mono ?_); rintro e w3 ⟨v3, p3, rfl, ⟨q3, rfl, hq3, -⟩, hp3, hr3, ho3⟩
      have R3 := hide hr3; have BI3 := hide (BI2.out.outside ho3 hne); have O3 := hide (O2.out.trans ho3)
      clear hr3 ho3 BI2 R2 O2
      obtain ⟨lt3, i0, i1, i2, i3, if'⟩ := BI3.out
      go_wp2_with fail
      refine bodyPost_ret (v := .agg #[.int .i64 (3), .int .i64 (q1), .int .i64 (q3), .int .i64 (0)]) (by simp [results, Try.results221, go_sem, *]) rfl ⟨_, p3, rfl, ⟨_, _, _, _, rfl⟩, by omega, ((((R3.out.setNew hlt _ _).setNew hlt _ _).setNew hlt _ _).setNew hlt _ _), ((((O3.out.setNew (Nat.le_refl _) _ _).setNew (Nat.le_refl _) _ _).setNew (Nat.le_refl _) _ _).setNew (Nat.le_refl _) _ _)⟩
    · have h1' : (q2 == 1) = false := by simp [h1]
      clear h1
      by_cases h2 : q2 = 2
      · subst h2
        go_wp2_with fail
        (with_reducible refine (HP.out p2 _ _ R2.out (by omega) (by omega) (by omega)).mono ?_); rintro e w3 ⟨v3, p3, rfl, ⟨q3, rfl, hq3, -⟩, hp3, hr3, ho3⟩
        have R3 := hide hr3; have BI3 := hide (BI2.out.outside ho3 hne); have O3 := hide (O2.out.trans ho3)
        clear hr3 ho3 BI2 R2 O2
        go_wp2_with fail
        (with_reducible refine (HP.out p3 _ _ R3.out (by omega) (by omega) (by omega)).mono ?_); rintro e w4 ⟨v4, p4, rfl, ⟨q4, rfl, hq4, -⟩, hp4, hr4, ho4⟩
        have R4 := hide hr4; have BI4 := hide (BI3.out.outside ho4 hne); have O4 := hide (O3.out.trans ho4)
        clear hr4 ho4 BI3 R3 O3
        obtain ⟨lt4, i0, i1, i2, i3, if'⟩ := BI4.out
        go_wp2_with fail
        refine bodyPost_ret (v := .agg #[.int .i64 (5), .int .i64 (q1), .int .i64 (q3), .int .i64 (wrap64 (1 + q4))]) (by simp [results, Try.results221, go_sem, *]) rfl ⟨_, p4, rfl, ⟨_, _, _, _, rfl⟩, by omega, ((((R4.out.setNew hlt _ _).setNew hlt _ _).setNew hlt _ _).setNew hlt _ _), ((((O4.out.setNew (Nat.le_refl _) _ _).setNew (Nat.le_refl _) _ _).setNew (Nat.le_refl _) _ _).setNew (Nat.le_refl _) _ _)⟩
      · have h2' : (q2 == 2) = false := by simp [h2]
        clear h2
        by_cases h3 : q2 = 3
        · subst h3
          go_wp2_with fail
          (with_reducible refine (HP.out p2 _ _ R2.out (by omega) (by omega) (by omega)).mono ?_); rintro e w3 ⟨v3, p3, rfl, ⟨q3, rfl, hq3, -⟩, hp3, hr3, ho3⟩
          have R3 := hide hr3; have BI3 := hide (BI2.out.outside ho3 hne); have O3 := hide (O2.out.trans ho3)
          clear hr3 ho3 BI2 R2 O2
          obtain ⟨lt3, i0, i1, i2, i3, if'⟩ := BI3.out
          go_wp2_with fail
          refine bodyPost_ret (v := .agg #[.int .i64 (2), .int .i64 (q1), .int .i64 (0), .int .i64 (wrap64 (1 + q3))]) (by simp [results, Try.results221, go_sem, *]) rfl ⟨_, p3, rfl, ⟨_, _, _, _, rfl⟩, by omega, ((((R3.out.setNew hlt _ _).setNew hlt _ _).setNew hlt _ _).setNew hlt _ _), ((((O3.out.setNew (Nat.le_refl _) _ _).setNew (Nat.le_refl _) _ _).setNew (Nat.le_refl _) _ _).setNew (Nat.le_refl _) _ _)⟩
        · have h3' : (q2 == 3) = false := by simp [h3]
          clear h3
          by_cases h4 : q2 = 4
          · subst h4
            go_wp2_with fail
            (with_reducible refine (HP.out p2 _ _ R2.out (by omega) (by omega) (by omega)).mono ?_); rintro e w3 ⟨v3, p3, rfl, ⟨q3, rfl, hq3, -⟩, hp3, hr3, ho3⟩
            have R3 := hide hr3; have BI3 := hide (BI2.out.outside ho3 hne); have O3 := hide (O2.out.trans ho3)
            clear hr3 ho3 BI2 R2 O2
            obtain ⟨lt3, i0, i1, i2, i3, if'⟩ := BI3.out
            go_wp2_with fail
            refine bodyPost_ret (v := .agg #[.int .i64 (2), .int .i64 (q1), .int .i64 (0), .int .i64 (wrap64 (1 + q3))]) (by simp [results, Try.results221, go_sem, *]) rfl ⟨_, p3, rfl, ⟨_, _, _, _, rfl⟩, by omega, ((((R3.out.setNew hlt _ _).setNew hlt _ _).setNew hlt _ _).setNew hlt _ _), ((((O3.out.setNew (Nat.le_refl _) _ _).setNew (Nat.le_refl _) _ _).setNew (Nat.le_refl _) _ _).setNew (Nat.le_refl _) _ _)⟩
          · have h4' : (q2 == 4) = false := by simp [h4]
            clear h4
            go_wp2_with fail
            (with_reducible refine (HP.out p2 _ _ R2.out (by omega) (by omega) (by omega)).mono ?_); rintro e w3 ⟨v3, p3, rfl, ⟨q3, rfl, hq3, -⟩, hp3, hr3, ho3⟩
            have R3 := hide hr3; have BI3 := hide (BI2.out.outside ho3 hne); have O3 := hide (O2.out.trans ho3)
            clear hr3 ho3 BI2 R2 O2
            obtain ⟨lt3, i0, i1, i2, i3, if'⟩ := BI3.out
            go_wp2_with fail
            refine bodyPost_ret (v := .agg #[.int .i64 (1), .int .i64 (q1), .int .i64 (q3), .int .i64 (0)]) (by simp [results, Try.results221, go_sem, *]) rfl ⟨_, p3, rfl, ⟨_, _, _, _, rfl⟩, by omega, ((((R3.out.setNew hlt _ _).setNew hlt _ _).setNew hlt _ _).setNew hlt _ _), ((((O3.out.setNew (Nat.le_refl _) _ _).setNew (Nat.le_refl _) _ _).setNew (Nat.le_refl _) _ _).setNew (Nat.le_refl _) _ _)⟩

end Go.Proofs.Ytpnmphfdfadlcaa
