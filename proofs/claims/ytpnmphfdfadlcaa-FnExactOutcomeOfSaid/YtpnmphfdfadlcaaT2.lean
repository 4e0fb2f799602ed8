/-
  The laws' own functions on conditions: equality, size, copy. No condition but bounds on sizes.
-/
import Derived.Test.YtpnmphfdfadlcaaT1
namespace Go.Proofs.Ytpnmphfdfadlcaa
open Go.RowKit

theorem Try.infoCond : (Try.prog.info? 25).map (fun i => (i.zero, i.size, i.bytes)) = some (some (.agg #[.int .i64 0, .int .i64 0, .int .i64 0, .int .i64 0, .slice none 0 0]), 5, 56) := by kernel_rfl

theorem some_bool (p : Prop) : ∃ b : Bool, b = true ↔ p := by
  by_cases h : p
  · exact ⟨true, by simp [h]⟩
  · exact ⟨false, by simp [h]⟩

/-- The laws' equality answers right of the parts xs. -/
def EqK (xs : List Cd) : Prop := ∀ (ys : List Cd) (a a' : Option Addr) (n c n' c' : Nat) (b : Bool) (w : World), RepK 0 w ⟨a, n, c⟩ xs → RepK 0 w ⟨a', n', c'⟩ ys → (b = true ↔ xs = ys) →
  Calls Try.prog 122 #[.slice a n c, .slice a' n' c'] w fun e w' => e = .returned (.bool b) ∧ Below w.heap.size w w'

set_option maxHeartbeats 800000 in
theorem eqCond_of {xs : List Cd} (H : EqK xs) (o t p x o' t' p' x' : Int) (ys : List Cd) (a a' : Option Addr) (n c n' c' : Nat) (b : Bool) (w : World) (h : RepK 0 w ⟨a, n, c⟩ xs) (h' : RepK 0 w ⟨a', n', c'⟩ ys) (hb : b = true ↔ Cd.mk o t p x xs = Cd.mk o' t' p' x' ys) :
    Calls Try.prog 45 #[.agg #[.int .i64 o, .int .i64 t, .int .i64 p, .int .i64 x, .slice a n c], .agg #[.int .i64 o', .int .i64 t', .int .i64 p', .int .i64 x', .slice a' n' c']] w fun e w' => e = .returned (.bool b) ∧ Below w.heap.size w w' := by
  have HB := hide hb; clear hb
  have hbase := ((Below.refl w.heap.size w).alloc (Nat.le_refl _) (.cells #[.int .i64 o, .int .i64 t, .int .i64 p, .int .i64 x, .slice a n c] 25)).alloc (by simp) (.cells #[.int .i64 o', .int .i64 t', .int .i64 p', .int .i64 x', .slice a' n' c'] 25)
  have h := h.below hbase
  have h' := h'.below hbase
  obtain ⟨d, hd⟩ := some_bool (xs = ys)
  have HC := hide (H ys a a' n c n' c' d _ h h' hd)
  have HBB := hide hbase; have HD := hide hd
  clear hbase h h' hd
  by_cases h1 : o = o'
  · have g1 : (o != o') = false := by simp [h1]
    by_cases h2 : t = t'
    · have g2 : (t != t') = false := by simp [h2]
      by_cases h3 : p = p'
      · have g3 : (p != p') = false := by simp [h3]
        by_cases h4 : x = x'
        · have g4 : (x != x') = false := by simp [h4]
          obtain rfl : b = d := by rw [Bool.eq_iff_iff, HB.out, HD.out]; simp [h1, h2, h3, h4]
          clear h1 h2 h3 h4
          go_enter Try.func45, Try.ntmps45
          go_wp2_with fail
          (with_reducible refine (HC.out).mono ?_); rintro e w1 ⟨rfl, hb1⟩
          cases b
          · go_wp2_with fail
            go_ret
            exact ⟨rfl, HBB.out.trans (hb1.mono HBB.out.size)⟩
          · go_wp2_with fail
            go_ret
            exact ⟨rfl, HBB.out.trans (hb1.mono HBB.out.size)⟩
        · have g4 : (x != x') = true := by simp [h4]
          obtain rfl : b = false := by rw [Bool.eq_false_iff, ne_eq, HB.out]; simp [h4]
          clear h1 h2 h3 h4
          go_enter Try.func45, Try.ntmps45
          go_wp2_with fail
          go_ret
          exact ⟨rfl, HBB.out⟩
      · have g3 : (p != p') = true := by simp [h3]
        obtain rfl : b = false := by rw [Bool.eq_false_iff, ne_eq, HB.out]; simp [h3]
        clear h1 h2 h3
        go_enter Try.func45, Try.ntmps45
        go_wp2_with fail
        go_ret
        exact ⟨rfl, HBB.out⟩
    · have g2 : (t != t') = true := by simp [h2]
      obtain rfl : b = false := by rw [Bool.eq_false_iff, ne_eq, HB.out]; simp [h2]
      clear h1 h2
      go_enter Try.func45, Try.ntmps45
      go_wp2_with fail
      go_ret
      exact ⟨rfl, HBB.out⟩
  · have g1 : (o != o') = true := by simp [h1]
    obtain rfl : b = false := by rw [Bool.eq_false_iff, ne_eq, HB.out]; simp [h1]
    clear h1
    go_enter Try.func45, Try.ntmps45
    go_wp2_with fail
    go_ret
    exact ⟨rfl, HBB.out⟩

theorem eqK_any : ∀ xs, EqK xs := Cd.all (by
  intro xs ih ys a a' n c n' c' bb w hx hy hbb
  obtain ⟨e1, hc1, hc2, hc3⟩ := hx.open
  obtain ⟨e1', hc1', hc2', hc3'⟩ := hy.open
  simp only at e1 e1' hc1 hc2 hc3 hc1' hc2' hc3'
  have HX := hide hx; have HY := hide hy; have HB := hide hbb; have IH := hide ih
  clear hx hy hbb ih
  have H := hide e1.symm; have H' := hide e1'.symm
  clear e1 e1'
  rw [H.out] at hc1 hc2
  rw [H'.out] at hc1' hc2'
  by_cases hc : n = n'
  · subst hc
    have hc' : ((n : Int) != n) = false := by simp
    go_enter Try.func122, Try.ntmps122
    go_wp2_with fail
    go_loopw [5] (fun v wr => ∃ k : Nat, k ≤ n ∧ v = .int .i64 k ∧ Hid (xs.take k = ys.take k) ∧ Below w.heap.size w wr) (fun v _ => n - (intOf v).toNat)
    case atStart => exact ⟨0, Nat.zero_le _, rfl, hide (by simp), Below.refl _ _⟩
    case round =>
      obtain ⟨k, hk, rfl, T, hb⟩ := hrel
      by_cases hlt : k < n
      · obtain ⟨x, hxk⟩ := get_of_lt (xs := xs) (k := k) (by rw [H.out]; exact hlt)
        obtain ⟨y, hyk⟩ := get_of_lt (xs := ys) (k := k) (by rw [H'.out]; exact hlt)
        obtain ⟨b, o, s, rfl, hbl, i0, i1, i2, i3, i4, i5⟩ := (HX.out.below hb).kid hxk
        obtain ⟨b', o', s', rfl, hbl', j0, j1, j2, j3, j4, j5⟩ := (HY.out.below hb).kid hyk
        have hlt' := nat_of_lt hlt
        obtain ⟨d, hd⟩ := some_bool (x = y)
        have HC := hide (fun w' h h' => eqCond_of (IH.out x (List.mem_of_getElem? hxk)) x.op x.th x.pl x.val y.op y.th y.pl y.val y.kids s.a s'.a s.n s.cap s'.n s'.cap d w' h h' (by rw [hd, Cd.eta, Cd.eta]))
        have X := hide hxk; clear hxk
        have Y := hide hyk; clear hyk
        have I5 := hide i5; have J5 := hide j5; have D := hide hd
        clear i5 j5 hd
        go_wp2_with fail
        refine wp_region_bw (by kernel_rfl) (by kernel_rfl) ?_
        repeat (go_big_quiet_step ((go_at_call 45; exact Calls.bw (HC.out _ (I5.out.below (BW.prop _)) (J5.out.below (BW.prop _))))))
        refine wpQuiet_nil ?_
        intro w1 hb1
        have hb2 := hb.trans (hb1.mono hb.size)
        cases d
        · have hq : Hid (xs ≠ ys) := hide (ne_of_get X.out Y.out (fun e => by have := D.out.2 e; simp at this))
          go_wp2_with fail
          go_ret
          obtain rfl : bb = false := by rw [Bool.eq_false_iff, ne_eq, HB.out]; exact hq.out
          exact ⟨rfl, hb2⟩
        · have T' := hide (take_eq_succ T.out X.out Y.out (D.out.1 rfl))
          go_wp2_with fail
          go_roundw
          case rel => exact ⟨k + 1, by omega, by go_num, T', hb2⟩
          case measure => simp [intOf]; omega
      · have e2 : Hid (xs = ys) := hide (take_all_eq T.out (by rw [H.out]; omega) (by rw [H'.out]; omega))
        go_wp2_with fail
        go_ret
        obtain rfl : bb = true := HB.out.2 e2.out
        exact ⟨rfl, hb⟩
  · have hc' : ((n : Int) != n') = true := by simp; omega
    have hq : Hid (xs ≠ ys) := hide (fun h => hc (by rw [← H.out, ← H'.out, h]))
    go_enter Try.func122, Try.ntmps122
    go_wp2_with fail
    go_ret
    obtain rfl : bb = false := by rw [Bool.eq_false_iff, ne_eq, HB.out]; exact hq.out
    exact ⟨rfl, Below.refl _ _⟩)

theorem eqCond_any (o t p x o' t' p' x' : Int) (xs ys : List Cd) (a a' : Option Addr) (n c n' c' : Nat) (b : Bool) (w : World) (h : RepK 0 w ⟨a, n, c⟩ xs) (h' : RepK 0 w ⟨a', n', c'⟩ ys) (hb : b = true ↔ Cd.mk o t p x xs = Cd.mk o' t' p' x' ys) :
    Calls Try.prog 45 #[.agg #[.int .i64 o, .int .i64 t, .int .i64 p, .int .i64 x, .slice a n c], .agg #[.int .i64 o', .int .i64 t', .int .i64 p', .int .i64 x', .slice a' n' c']] w fun e w' => e = .returned (.bool b) ∧ Below w.heap.size w w' :=
  eqCond_of (eqK_any xs) o t p x o' t' p' x' ys a a' n c n' c' b w h h' hb

/-- What the size of the parts leaves, or -1. -/
def szK (ks : List Cd) (l : Int) : Int := if l - descs ks < 0 then -1 else l - descs ks

theorem descs_rest (ks : List Cd) {k : Nat} (h : ks.length ≤ k) : descs (ks.take k) = descs ks := by rw [List.take_of_length_le h]

end Go.Proofs.Ytpnmphfdfadlcaa
