/-
  Lists of outcomes: whether one is among others. Condition: none but what slices read as.
-/
import Derived.Test.YtkgkgmalgilabaaG1
namespace Go.Proofs.Ytkgkgmalgilabaa
open Go.RowKit

def l3L : List Int → List Int → Int
  | x :: xs, y :: ys => if x < y then -1 else if y < x then 1 else l3L xs ys
  | _, _ => 0

theorem l3L_drop {a b : List Int} {k : Nat} {x y : Int} (hx : a[k]? = some x) (hy : b[k]? = some y) : l3L (a.drop k) (b.drop k) = if x < y then -1 else if y < x then 1 else l3L (a.drop (k + 1)) (b.drop (k + 1)) := by
  obtain ⟨hk, rfl⟩ := List.getElem?_eq_some_iff.1 hx
  obtain ⟨hk', rfl⟩ := List.getElem?_eq_some_iff.1 hy
  rw [List.drop_eq_getElem_cons hk, List.drop_eq_getElem_cons hk', l3L]

theorem l3L_zero {a b : List Int} (h : a.length = b.length) : l3L a b = 0 ↔ a = b := by
  induction a generalizing b with
  | nil => cases b <;> simp_all [l3L]
  | cons x a ih =>
    cases b with
    | nil => simp at h
    | cons y b =>
      simp only [l3L]
      have := ih (b := b) (by simpa using h)
      split
      · constructor
        · intro h; omega
        · intro h; simp at h; omega
      · split
        · constructor
          · intro h; omega
          · intro h; simp at h; omega
        · rw [this]
          constructor
          · intro h; rw [h, show x = y by omega]
          · intro h; simp at h; exact h.2

theorem l3L_end {a b : List Int} {k : Nat} (h : a.length ≤ k ∨ b.length ≤ k) : l3L (a.drop k) (b.drop k) = 0 := by
  rcases h with h | h
  · rw [List.drop_of_length_le h]; simp [l3L]
  · rw [List.drop_of_length_le h]; cases a.drop k <;> simp [l3L]

set_option maxHeartbeats 400000 in
theorem l3Less_any (v v' : Value) (xs ys : List Int) (w : World) (hx : Rep IntE w v xs) (hy : Rep IntE w v' ys) :
    Calls Try.prog 127 #[v, v'] w fun e w' => e = .returned (.int .i64 (l3L xs ys)) ∧ Below w.heap.size w w' := by
  obtain ⟨a, c, rfl, hc1, hc2, hc3, hx⟩ := hx.open
  obtain ⟨a', c', rfl, hc1', hc2', hc3', hy⟩ := hy.open
  have HX := hide hx; clear hx
  have HY := hide hy; clear hy
  have HS : Hid (l3L (xs.drop 0) (ys.drop 0) = l3L xs ys) := hide (by simp)
  generalize hR : l3L xs ys = R at *
  clear hR
  generalize hn : xs.length = n at *
  generalize hn' : ys.length = n' at *
  have H := hide hn; clear hn
  have H' := hide hn'; clear hn'
  go_enter Try.func127, Try.ntmps127
  go_wp2_with fail
  go_loopw [5] (fun v wr => ∃ k : Nat, k ≤ n ∧ k ≤ n' ∧ v = .int .i64 k ∧ Hid (l3L (xs.drop k) (ys.drop k) = R) ∧ Below w.heap.size w wr) (fun v _ => n - (intOf v).toNat)
  case atStart => exact ⟨0, Nat.zero_le _, Nat.zero_le _, rfl, HS, Below.refl _ _⟩
  case round =>
    obtain ⟨k, hk, hk', rfl, T, hb⟩ := hrel
    by_cases hlt : k < n
    · have hlt1 := nat_of_lt hlt
      by_cases hlt2 : k < n'
      · have hlt3 := nat_of_lt hlt2
        obtain ⟨x, hxk⟩ := get_of_lt (xs := xs) (k := k) (by rw [H.out]; exact hlt)
        obtain ⟨y, hyk⟩ := get_of_lt (xs := ys) (k := k) (by rw [H'.out]; exact hlt2)
        obtain ⟨b, o, rfl, hbl, i0⟩ := (HX.out.below hb).int hxk
        obtain ⟨b', o', rfl, hbl', j0⟩ := (HY.out.below hb).int hyk
        have ST := hide (l3L_drop hxk hyk)
        clear hxk hyk
        by_cases hxy : x < y
        · have E : Hid (R = -1) := hide (by rw [← T.out, ST.out, if_pos hxy])
          go_wp2_with fail
          refine wp_region_bw (by kernel_rfl) (by kernel_rfl) ?_
          repeat (go_big_quiet_step (fail))
          refine wpQuiet_nil ?_
          intro w1 hw1
          obtain ⟨c1, -⟩ := bcell hw1
          go_wp2_with fail
          go_ret
          rw [E.out]
          exact ⟨rfl, hb.trans (hw1.mono hb.size)⟩
        · have E0 : Hid ((if y < x then 1 else l3L (xs.drop (k + 1)) (ys.drop (k + 1))) = R) := hide (by rw [← T.out, ST.out, if_neg hxy])
          have hxy' : y ≤ x := Int.not_lt.1 hxy
          clear hxy
          go_wp2_with fail
          refine wp_region_bw (by kernel_rfl) (by kernel_rfl) ?_
          repeat (go_big_quiet_step (fail))
          refine wpQuiet_nil ?_
          intro w1 hw1
          obtain ⟨c1, -⟩ := bcell hw1
          have hbl1 : b < w1.heap.size := by have := hw1.size; omega
          have hbl1' : b' < w1.heap.size := by have := hw1.size; omega
          have i1 := (c1 b (o + k) hbl).trans i0
          have j1 := (c1 b' (o' + k) hbl').trans j0
          by_cases hyx : y < x
          · have E : Hid (R = 1) := hide (by rw [← E0.out, if_pos hyx])
            go_wp2_with fail
            refine wp_region_bw (by kernel_rfl) (by kernel_rfl) ?_
            repeat (go_big_quiet_step (fail))
            refine wpQuiet_nil ?_
            intro w2 hw2
            go_wp2_with fail
            go_ret
            rw [E.out]
            exact ⟨rfl, (hb.trans (hw1.mono hb.size)).trans (hw2.mono (by have := hb.size; have := hw1.size; omega))⟩
          · have E : Hid (l3L (xs.drop (k + 1)) (ys.drop (k + 1)) = R) := hide (by rw [← E0.out, if_neg hyx])
            have hyx' : x ≤ y := Int.not_lt.1 hyx
            clear hyx
            go_wp2_with fail
            refine wp_region_bw (by kernel_rfl) (by kernel_rfl) ?_
            repeat (go_big_quiet_step (fail))
            refine wpQuiet_nil ?_
            intro w2 hw2
            go_wp2_with fail
            go_roundw
            case rel => exact ⟨k + 1, by omega, by omega, by go_num, E, (hb.trans (hw1.mono hb.size)).trans (hw2.mono (by have := hb.size; have := hw1.size; omega))⟩
            case measure => simp [intOf]; omega
      · have hlt3 : decide ((k : Int) < n') = false := by simp; omega
        have E : Hid (R = 0) := hide (by rw [← T.out]; exact l3L_end (.inr (by rw [H'.out]; omega)))
        go_wp2_with fail
        go_ret
        rw [E.out]
        exact ⟨rfl, hb⟩
    · have hlt3 : decide ((k : Int) < n) = false := by simp; omega
      have E : Hid (R = 0) := hide (by rw [← T.out]; exact l3L_end (.inl (by rw [H.out]; omega)))
      go_wp2_with fail
      go_ret
      rw [E.out]
      exact ⟨rfl, hb⟩

end Go.Proofs.Ytkgkgmalgilabaa
