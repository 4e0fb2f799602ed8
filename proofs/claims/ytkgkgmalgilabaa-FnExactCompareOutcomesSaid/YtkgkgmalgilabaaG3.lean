/-
  Whether outcomes are among others, by the program and by the reference; CompareOutcomes. No condition.
-/
import Derived.Test.YtkgkgmalgilabaaG2
namespace Go.Proofs.Ytkgkgmalgilabaa
open Go.RowKit

def hasN (list : List (List Int)) (o : List Int) : Bool := list.any fun x => decide (x = o)
def subN (a b : List (List Int)) : Bool := a.all fun o => hasN b o

theorem any_take_succ {α : Type} {f : α → Bool} {xs : List α} {k : Nat} {x : α} (h : (xs.take k).any f = false) (hx : xs[k]? = some x) (hf : f x = false) : (xs.take (k + 1)).any f = false := by
  rw [List.take_add_one, hx, List.any_append, h]; simp [hf]

theorem any_of_get {α : Type} {f : α → Bool} {xs : List α} {k : Nat} {x : α} (hx : xs[k]? = some x) (hf : f x = true) : xs.any f = true := List.any_eq_true.2 ⟨x, List.mem_of_getElem? hx, hf⟩

theorem all_take_succ' {α : Type} {f : α → Bool} {xs : List α} {k : Nat} {x : α} (h : (xs.take k).all f = true) (hx : xs[k]? = some x) (hf : f x = true) : (xs.take (k + 1)).all f = true := by
  rw [List.take_add_one, hx, List.all_append, h]; simp [hf]

theorem all_of_get {α : Type} {f : α → Bool} {xs : List α} {k : Nat} {x : α} (hx : xs[k]? = some x) (hf : f x = false) : xs.all f = false := List.all_eq_false.2 ⟨x, List.mem_of_getElem? hx, by simp [hf]⟩

set_option maxHeartbeats 400000 in
theorem l8Has_any (v u : Value) (p : List (List Int)) (q : List Int) (w : World) (hp : RepNN w v p) (hq : Rep IntE w u q) :
    Calls Try.prog 101 #[v, u] w fun e w' => e = .returned (.bool (hasN p q)) ∧ Below w.heap.size w w' := by
  obtain ⟨a, c, rfl, hc1, hc2, hc3, hp⟩ := hp.open
  obtain ⟨a', c', rfl, hc1', hc2', hc3', hq⟩ := hq.open
  have HP := hide hp; clear hp
  have HQ := hide hq; clear hq
  have HN : Hid (hasN p q = p.any fun x => decide (x = q)) := hide rfl
  generalize hR : hasN p q = R at *
  clear hR
  generalize hn : p.length = n at *
  have H := hide hn; clear hn
  generalize hm : q.length = m at *
  have HM := hide hm; clear hm
  go_enter Try.func101, Try.ntmps101
  go_wp2_with fail
  go_loopw [5] (fun i wr => ∃ k : Nat, k ≤ n ∧ i = .int .i64 k ∧ Hid ((p.take k).any (fun x => decide (x = q)) = false) ∧ Below w.heap.size w wr) (fun i _ => n - (intOf i).toNat)
  case atStart => exact ⟨0, Nat.zero_le _, rfl, hide (by simp), Below.refl _ _⟩
  case round =>
    obtain ⟨k, hk, rfl, T, hb⟩ := hrel
    by_cases hlt : k < n
    · have hlt1 := nat_of_lt hlt
      obtain ⟨x, hxk⟩ := get_of_lt (xs := p) (k := k) (by rw [H.out]; exact hlt)
      obtain ⟨b, o, ra, rc, rfl, hbl, i0, i1⟩ := (HP.out.below hb).row hxk
      have X := hide hxk; have I1 := hide i1
      clear hxk i1
      by_cases hl : x.length = m
      · have hl' : ((x.length : Int) == m) = true := by simp [hl]
        have HZ := hide (l3L_zero (a := x) (b := q) (by rw [hl, HM.out]))
        have I1' : Hid (Rep IntE wr (.slice ra m rc) x) := hide (by rw [← hl]; exact I1.out)
        rw [hl] at i0 hl'
        clear hl I1
        by_cases hxq : x = q
        · have E : Hid (R = true) := hide (by rw [HN.out]; exact any_of_get X.out (by simp [hxq]))
          have hz : l3L x q = 0 := HZ.out.2 hxq
          have HC := hide (l3Less_any _ _ x q wr I1'.out (HQ.out.below hb))
          generalize l3L x q = z at *
          subst hz
          clear hxq
          go_wp2_with (go_at_call 127; (with_reducible refine HC.out.mono ?_); rintro e w1 ⟨rfl, hb1⟩)
          go_ret
          rw [E.out]
          exact ⟨rfl, hb.trans (hb1.mono hb.size)⟩
        · have T2 := hide (any_take_succ T.out X.out (by simp [hxq]))
          have hz : ¬ l3L x q = 0 := fun h => hxq (HZ.out.1 h)
          have HC := hide (l3Less_any _ _ x q wr I1'.out (HQ.out.below hb))
          generalize l3L x q = z at *
          have hz' : (z == 0) = false := by simpa using hz
          clear hxq hz
          go_wp2_with (go_at_call 127; (with_reducible refine HC.out.mono ?_); rintro e w1 ⟨rfl, hb1⟩)
          go_roundw
          case rel => exact ⟨k + 1, by omega, by go_num, T2, hb.trans (hb1.mono hb.size)⟩
          case measure => simp [intOf]; omega
      · have hl' : ((x.length : Int) == m) = false := by simp; omega
        have T2 := hide (any_take_succ T.out X.out (by simp; intro h; exact hl (by rw [h, HM.out])))
        clear hl
        go_wp2_with fail
        go_roundw
        case rel => exact ⟨k + 1, by omega, by go_num, T2, hb⟩
        case measure => simp [intOf]; omega
    · have E : Hid (R = false) := hide (by have h := T.out; rwa [List.take_of_length_le (by rw [H.out]; omega), ← HN.out] at h)
      go_wp2_with fail
      go_ret
      rw [E.out]
      exact ⟨rfl, hb⟩

set_option maxHeartbeats 400000 in
theorem l8Within_any (v u : Value) (p q : List (List Int)) (w : World) (hp : RepNN w v p) (hq : RepNN w u q) :
    Calls Try.prog 67 #[v, u] w fun e w' => e = .returned (.bool (subN p q)) ∧ Below w.heap.size w w' := by
  obtain ⟨a, c, rfl, hc1, hc2, hc3, hp⟩ := hp.open
  have HP := hide hp; clear hp
  have HQ := hide hq; clear hq
  have HN : Hid (subN p q = p.all fun x => hasN q x) := hide rfl
  generalize hR : subN p q = R at *
  clear hR
  generalize hn : p.length = n at *
  have H := hide hn; clear hn
  go_enter Try.func67, Try.ntmps67
  go_wp2_with fail
  go_loopw [5] (fun i wr => ∃ k : Nat, k ≤ n ∧ i = .int .i64 k ∧ Hid ((p.take k).all (fun x => hasN q x) = true) ∧ Below w.heap.size w wr) (fun i _ => n - (intOf i).toNat)
  case atStart => exact ⟨0, Nat.zero_le _, rfl, hide (by simp), Below.refl _ _⟩
  case round =>
    obtain ⟨k, hk, rfl, T, hb⟩ := hrel
    by_cases hlt : k < n
    · have hlt1 := nat_of_lt hlt
      obtain ⟨x, hxk⟩ := get_of_lt (xs := p) (k := k) (by rw [H.out]; exact hlt)
      obtain ⟨b, o, ra, rc, rfl, hbl, i0, i1⟩ := (HP.out.below hb).row hxk
      have X := hide hxk; have I1 := hide i1
      clear hxk i1
      have HC := hide (l8Has_any u _ q x wr (HQ.out.below hb) I1.out)
      generalize hz : hasN q x = z at *
      have Z := hide hz; clear hz
      cases z
      · have E : Hid (R = false) := hide (by rw [HN.out]; exact all_of_get X.out Z.out)
        go_wp2_with (go_at_call 101; (with_reducible refine HC.out.mono ?_); rintro e w1 ⟨rfl, hb1⟩)
        go_ret
        rw [E.out]
        exact ⟨rfl, hb.trans (hb1.mono hb.size)⟩
      · have T2 := hide (all_take_succ' T.out X.out Z.out)
        go_wp2_with (go_at_call 101; (with_reducible refine HC.out.mono ?_); rintro e w1 ⟨rfl, hb1⟩)
        go_roundw
        case rel => exact ⟨k + 1, by omega, by go_num, T2, hb.trans (hb1.mono hb.size)⟩
        case measure => simp [intOf]; omega
    · have E : Hid (R = true) := hide (by have h := T.out; rwa [List.take_of_length_le (by rw [H.out]; omega), ← HN.out] at h)
      go_wp2_with fail
      go_ret
      rw [E.out]
      exact ⟨rfl, hb⟩

theorem containsLit_any (u : Value) (x q : List Int) (b : Nat) (qa : Option Addr) (qn qc : Nat) (w : World) (hx : Rep IntE w u x) (hc : w.cell? ⟨b, 0, none⟩ = some (.slice qa qn qc)) (hq : Rep IntE w (.slice qa qn qc) q) :
    Calls Try.prog 103 #[u, .pointer (some ⟨b, 0, none⟩)] w fun e w' => e = .returned (.bool (decide (x = q))) ∧ Below w.heap.size w w' := by
  have HX := hide hx; have HQ := hide hq
  clear hx hq
  go_enter Try.func103, Try.ntmps103
  go_wp2_with (go_at_call 104; (with_reducible refine (EqualN_any _ _ x q w HX.out HQ.out).mono ?_); rintro e w1 ⟨rfl, hb1⟩)
  go_ret
  exact ⟨rfl, hb1⟩

/-- An index that is not below 0 just when R. -/
def IdxPost (R : Bool) (w : World) (e : Ending) (w' : World) : Prop := (∃ k : Int, e = .returned (.int .i64 k) ∧ decide (0 ≤ k) = R) ∧ Below w.heap.size w w'

set_option maxHeartbeats 400000 in
theorem IndexFuncNN_any (v : Value) (p : List (List Int)) (q : List Int) (b : Nat) (qa : Option Addr) (qn qc : Nat) (w : World) (hp : RepNN w v p) (hcl : w.cell? ⟨b, 0, none⟩ = some (.slice qa qn qc)) (hq : Rep IntE w (.slice qa qn qc) q) :
    Calls Try.prog 128 #[v, .func (.func 103) #[] #[.pointer (some ⟨b, 0, none⟩)]] w (IdxPost (hasN p q) w) := by
  obtain ⟨a, c, rfl, hc1, hc2, hc3, hp⟩ := hp.open
  have HP := hide hp; clear hp
  have HQ := hide hq; clear hq
  have HN : Hid (hasN p q = p.any fun x => decide (x = q)) := hide rfl
  have hbl0 := lt_of_cell hcl
  have HCL := hide hcl; clear hcl
  generalize hR : hasN p q = R at *
  clear hR
  generalize hn : p.length = n at *
  have H := hide hn; clear hn
  have HPE : Hid (∀ (k : Int) (w' : World), decide (0 ≤ k) = R → Below w.heap.size w w' → IdxPost R w (.returned (.int .i64 k)) w') := hide (fun k w' h1 h2 => ⟨⟨k, rfl, h1⟩, h2⟩)
  go_enter Try.func128, Try.ntmps128
  go_wp2_with fail
  go_loopw [8] (fun i wr => ∃ t : Nat, t ≤ n ∧ i = .int .i64 t ∧ Hid ((p.take t).any (fun x => decide (x = q)) = false) ∧ Below w.heap.size w wr) (fun i _ => n - (intOf i).toNat)
  case atStart => exact ⟨0, Nat.zero_le _, rfl, hide (by simp), Below.refl _ _⟩
  case round =>
    obtain ⟨t, ht, rfl, T, hb⟩ := hrel
    by_cases hlt : t < n
    · obtain ⟨x, hxk⟩ := get_of_lt (xs := p) (k := t) (by rw [H.out]; exact hlt)
      obtain ⟨b', o, ra, rc, rfl, hbl, i0, i1⟩ := (HP.out.below hb).row hxk
      have hlt' := nat_of_lt hlt
      have hcl := (hb.cell (p := ⟨b, 0, none⟩) hbl0).trans HCL.out
      have HC := hide (containsLit_any _ x q b qa qn qc wr i1 hcl (HQ.out.below hb))
      have X := hide hxk
      clear hxk i1 hcl
      generalize hfx : decide (x = q) = fx at *
      have FX := hide hfx; clear hfx
      cases fx
      · have T2 := hide (any_take_succ (f := fun x => decide (x = q)) T.out X.out FX.out)
        go_wp2_with (go_at_call 103; (with_reducible refine HC.out.mono ?_); rintro e w2 ⟨rfl, hb2⟩)
        go_roundw
        case rel => exact ⟨t + 1, by omega, by go_num, T2, hb.trans (hb2.mono hb.size)⟩
        case measure => simp [intOf]; omega
      · have E : Hid (R = true) := hide (by rw [HN.out]; exact any_of_get X.out FX.out)
        go_wp2_with (go_at_call 103; (with_reducible refine HC.out.mono ?_); rintro e w2 ⟨rfl, hb2⟩)
        go_ret
        exact HPE.out _ _ (by rw [E.out]; simp) (hb.trans (hb2.mono hb.size))
    · have E : Hid (R = false) := hide (by have h := T.out; rwa [List.take_of_length_le (by rw [H.out]; omega), ← HN.out] at h)
      go_wp2_with fail
      go_ret
      exact HPE.out _ _ (by rw [E.out]; rfl) hb

theorem ContainsFuncNN_any (v : Value) (p : List (List Int)) (q : List Int) (b : Nat) (qa : Option Addr) (qn qc : Nat) (w : World) (hp : RepNN w v p) (hcl : w.cell? ⟨b, 0, none⟩ = some (.slice qa qn qc)) (hq : Rep IntE w (.slice qa qn qc) q) :
    Calls Try.prog 102 #[v, .func (.func 103) #[] #[.pointer (some ⟨b, 0, none⟩)]] w fun e w' => e = .returned (.bool (hasN p q)) ∧ Below w.heap.size w w' := by
  have HC := hide (IndexFuncNN_any v p q b qa qn qc w hp hcl hq)
  clear hp hcl hq
  go_enter Try.func102, Try.ntmps102
  go_wp2_with fail
  (with_reducible refine HC.out.mono ?_)
  rintro e w1 ⟨⟨k, rfl, hk⟩, hb⟩
  have HK := hide hk; clear hk
  go_wp2_with fail
  go_ret
  refine ⟨?_, hb⟩
  rw [← HK.out]
  rfl

set_option maxHeartbeats 400000 in
theorem contains_any (v u : Value) (p q : List (List Int)) (w : World) (hp : RepNN w v p) (hq : RepNN w u q) :
    Calls Try.prog 69 #[v, u] w fun e w' => e = .returned (.bool (subN p q)) ∧ Below w.heap.size w w' := by
  obtain ⟨a, c, rfl, hc1, hc2, hc3, hp⟩ := hp.open
  have HP := hide hp; clear hp
  have HQ := hide hq; clear hq
  have HN : Hid (subN p q = p.all fun x => hasN q x) := hide rfl
  generalize hR : subN p q = R at *
  clear hR
  generalize hn : p.length = n at *
  have H := hide hn; clear hn
  go_enter Try.func69, Try.ntmps69
  go_wp2_with fail
  go_loopw [9] (fun i wr => ∃ k : Nat, k ≤ n ∧ i = .int .i64 k ∧ Hid ((p.take k).all (fun x => hasN q x) = true) ∧ Below w.heap.size w wr) (fun i _ => n - (intOf i).toNat)
  case atStart => exact ⟨0, Nat.zero_le _, rfl, hide (by simp), Below.refl _ _⟩
  case round =>
    obtain ⟨k, hk, rfl, T, hb⟩ := hrel
    by_cases hlt : k < n
    · have hlt1 := nat_of_lt hlt
      obtain ⟨x, hxk⟩ := get_of_lt (xs := p) (k := k) (by rw [H.out]; exact hlt)
      obtain ⟨b, o, ra, rc, rfl, hbl, i0, i1⟩ := (HP.out.below hb).row hxk
      have X := hide hxk; have I1 := hide i1
      clear hxk i1
      have ha := hb.alloc hb.size (.cells #[.slice ra x.length rc] 79)
      have ha2 := (Below.refl wr.heap.size wr).alloc (Nat.le_refl _) (.cells #[.slice ra x.length rc] 79)
      have HC := hide (ContainsFuncNN_any u q x wr.heap.size ra x.length rc (wr.alloc (.cells #[.slice ra x.length rc] 79)) (HQ.out.below ha) (by simp [go_sem]) (I1.out.below ha2))
      generalize hz : hasN q x = z at *
      have Z := hide hz; clear hz
      cases z
      · have E : Hid (R = false) := hide (by rw [HN.out]; exact all_of_get X.out Z.out)
        go_wp2_with (go_at_call 102; (with_reducible refine HC.out.mono ?_); rintro e w1 ⟨rfl, hb1⟩)
        go_ret
        rw [E.out]
        exact ⟨rfl, ha.trans (hb1.mono ha.size)⟩
      · have T2 := hide (all_take_succ' T.out X.out Z.out)
        go_wp2_with (go_at_call 102; (with_reducible refine HC.out.mono ?_); rintro e w1 ⟨rfl, hb1⟩)
        go_roundw
        case rel => exact ⟨k + 1, by omega, by go_num, T2, ha.trans (hb1.mono ha.size)⟩
        case measure => simp [intOf]; omega
    · have E : Hid (R = true) := hide (by have h := T.out; rwa [List.take_of_length_le (by rw [H.out]; omega), ← HN.out] at h)
      go_wp2_with fail
      go_ret
      rw [E.out]
      exact ⟨rfl, hb⟩

/-- How two lists of outcomes compare. -/
def cmpN (p q : List (List Int)) : Int := if subN p q = true then (if subN q p = true then 0 else 1) else (if subN q p = true then 2 else 3)

set_option maxHeartbeats 400000 in
theorem CompareOutcomes_any (v u : Value) (p q : List (List Int)) (w : World) (hp : RepNN w v p) (hq : RepNN w u q) :
    Calls Try.prog 29 #[v, u] w fun e w' => e = .returned (.int .i64 (cmpN p q)) ∧ Below w.heap.size w w' := by
  have HP := hide hp; have HQ := hide hq; clear hp hq
  have HN : Hid (cmpN p q = if subN p q = true then (if subN q p = true then 0 else 1) else (if subN q p = true then 2 else 3)) := hide rfl
  have C1 := hide (fun w' h h' => contains_any v u p q w' h h')
  have C2 := hide (fun w' h h' => contains_any u v q p w' h h')
  generalize subN p q = x at *
  generalize subN q p = y at *
  cases x <;> cases y
  all_goals
    go_enter Try.func29, Try.ntmps29
    go_wp2_with fail
    (with_reducible refine (C1.out w HP.out HQ.out).mono ?_)
    rintro e w1 ⟨rfl, hb1⟩
    go_wp2_with fail
    (with_reducible refine (C2.out w1 (HQ.out.below hb1) (HP.out.below hb1)).mono ?_)
    rintro e w2 ⟨rfl, hb2⟩
    go_wp2_with fail
    go_ret
    rw [HN.out]
    exact ⟨rfl, Below.next hb1 hb2⟩

set_option maxHeartbeats 400000 in
theorem sCompareOutcomes_any (v u : Value) (p q : List (List Int)) (w : World) (hp : RepNN w v p) (hq : RepNN w u q) :
    Calls Try.prog 27 #[v, u] w fun e w' => e = .returned (.int .i64 (cmpN p q)) ∧ Below w.heap.size w w' := by
  have HP := hide hp; have HQ := hide hq; clear hp hq
  have HN : Hid (cmpN p q = if subN p q = true then (if subN q p = true then 0 else 1) else (if subN q p = true then 2 else 3)) := hide rfl
  have C1 := hide (fun w' h h' => l8Within_any v u p q w' h h')
  have C2 := hide (fun w' h h' => l8Within_any u v q p w' h h')
  generalize subN p q = x at *
  generalize subN q p = y at *
  cases x <;> cases y
  all_goals
    go_enter Try.func27, Try.ntmps27
    go_wp2_with fail
    (with_reducible refine (C1.out w HP.out HQ.out).mono ?_)
    rintro e w1 ⟨rfl, hb1⟩
    go_wp2_with fail
    (with_reducible refine (C2.out w1 (HQ.out.below hb1) (HP.out.below hb1)).mono ?_)
    rintro e w2 ⟨rfl, hb2⟩
    go_wp2_with fail
    go_ret
    rw [HN.out]
    exact ⟨rfl, Below.next hb1 hb2⟩

end Go.Proofs.Ytkgkgmalgilabaa
