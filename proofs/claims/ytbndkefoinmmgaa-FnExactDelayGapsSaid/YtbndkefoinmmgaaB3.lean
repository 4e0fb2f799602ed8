/-
  Union, meet and composition of relations, in the program and in the reference. Condition: few elements.
-/
import Derived.Test.YtbndkefoinmmgaaB2
import Derived.Test.YtbndkefoinmmgaaE1
import Derived.Test.YtbndkefoinmmgaaBase2
import Derived.Deep.RegionHeld3
namespace Go.Proofs.Ytbndkefoinmmgaa
open Go.RowKit

theorem take_rel (n k : Nat) (f : Nat → Nat → Bool) (h : k < n) : (relOf n f).take (k + 1) = (relOf n f).take k ++ [bitsTo (f k) n] := by
  rw [List.take_add_one, relOf_get h]; rfl


theorem bitUnion_any (x y : Int) (w : World) :
    Calls Try.prog 168 #[.int .i64 x, .int .i64 y] w fun e w' => e = .returned (.int .i64 (bits .or .i64 x y)) ∧ w = w' := by
  go_enter Try.func168, Try.ntmps168
  go_wp2_with fail
  go_ret
  exact ⟨rfl, rfl⟩

set_option maxHeartbeats 800000 in
theorem combinedUnion (v v' : Value) (n : Nat) (f g : Nat → Nat → Bool) (w : World) (hx : Rep IntE w v (relOf n f)) (hy : Rep IntE w v' (relOf n g)) (hn : n ≤ 16) :
    Calls Try.prog 167 #[v, v', .func (.func 168) #[] #[]] w (RetOwn IntE 3 w (relOf n (fOr f g))) := by
  have HA := hide (areRels_any v v' n f g w hx hy hn)
  obtain ⟨a, c, rfl, -, -, -, hx⟩ := hx.open
  obtain ⟨a', c', rfl, -, -, -, hy⟩ := hy.open
  simp only [relOf_length] at *
  have HX := hide hx; have HY := hide hy
  clear hx hy
  go_enter Try.func167, Try.ntmps167
  go_wp2_with fail
  (with_reducible refine HA.out.mono ?_); rintro e w0 ⟨rfl, hb0⟩
  have HB0 := hide hb0; clear hb0 HA
  go_wp2_with (at_make; refine wpList_make IntE 3 0 Try.infoInt rfl Try.underlying24 n (by decide) (by omega) rfl _ _ rfl rfl rfl ?_; intro w1 hown hgr)
  have hb1 := below_of_grown hgr
  go_loopw [18] (fun i wr => ∃ k : Nat, k ≤ n ∧ i = .int .i64 k ∧ Hid (OwnN wr w0.heap.size (.slice (some ⟨w0.heap.size, 0, none⟩) n n) ((relOf n (fOr f g)).take k ++ List.replicate (n - k) 0)) ∧ Hid (Below w0.heap.size w0 wr)) (fun i _ => n - (intOf i).toNat)
  case atStart => exact ⟨0, Nat.zero_le _, rfl, hide (by simpa using hown), hide hb1⟩
  case round =>
    obtain ⟨k, hk, rfl, HO, HB⟩ := hrel
    by_cases hlt : k < n
    · have hlt' := nat_of_lt hlt
      have hb := HB.out
      obtain ⟨b, o, rfl, hbl, i0⟩ := (HX.out.below HB0.out).int (relOf_get hlt)
      obtain ⟨b', o', rfl, hbl', j0⟩ := (HY.out.below HB0.out).int (relOf_get hlt)
      have i0 := (HB.out.cell (p := ⟨b, o + k, none⟩) hbl).trans i0
      have j0 := (HB.out.cell (p := ⟨b', o' + k, none⟩) hbl').trans j0
      have ne1 : b ≠ w0.heap.size := by omega
      have ne2 : b' ≠ w0.heap.size := by omega
      have ne3 : w0.heap.size ≠ b := by omega
      have ne4 : w0.heap.size ≠ b' := by omega
      have hg : ((relOf n (fOr f g)).take k ++ List.replicate (n - k) 0)[k]? = some 0 := by
        have := get_pad (relOf n (fOr f g)) 0 (k := k) (by rw [relOf_length]; exact hlt)
        rwa [relOf_length] at this
      obtain ⟨hgl, f0, hfr⟩ := HO.out.int hg
      have ho2 := HO.out.setInt hg (bits .or .i64 (bitsTo (f k) n) (bitsTo (g k) n))
      rw [bitsTo_or (f k) (g k) (n := n) (by omega)] at ho2
      have hset := set_pad (relOf n (fOr f g)) 0 (relOf_get (f := fOr f g) hlt)
      rw [relOf_length] at hset
      have e : ((relOf n (fOr f g)).take k ++ List.replicate (n - k) 0).set k (bitsTo (fun j => f k j || g k j) n) = (relOf n (fOr f g)).take (k + 1) ++ List.replicate (n - (k + 1)) 0 := hset
      rw [e] at ho2
      have HO2 := hide ho2
      have EQ := hide (bitsTo_or (f k) (g k) (n := n) (by omega))
      have hfz := hfr k
      clear ho2 e hset hg hb hfr
      generalize bitsTo (f k) n = rf at *
      generalize bitsTo (g k) n = rg at *
      go_wp2_with fail
      go_region_held3 (fun V => V.cell? ⟨b, o + k, none⟩ = some (.int .i64 rf) ∧ V.cell? ⟨b', o' + k, none⟩ = some (.int .i64 rg)) ((simp [go_sem, *]))
        (first
          | (go_at_call 168; (with_reducible refine (bitUnion_any _ _ _).mono ?_); rintro e u1 ⟨rfl, rfl⟩))
      all_goals
        go_wp2_with fail
        go_roundw
        case rel => exact ⟨k + 1, by omega, by go_num, hide (by have h := HO2.out.below (Below.refl _ _).drew; rw [← EQ.out] at h; exact h), hide ((HB.out.setCell (Nat.le_refl _) _).drew)⟩
        case measure => simp [intOf]; omega
    · have e : k = n := by omega
      subst e
      go_wp2_with fail
      go_ret
      have ho := HO.out
      rw [Nat.sub_self, List.replicate_zero, List.append_nil, List.take_of_length_le (by rw [relOf_length]; exact Nat.le_refl _)] at ho
      exact ⟨_, rfl, ho.mono HB0.out.size, HB0.out.trans (HB.out.mono HB0.out.size)⟩

theorem UnionRel_any (v v' : Value) (n : Nat) (f g : Nat → Nat → Bool) (w : World) (hx : Rep IntE w v (relOf n f)) (hy : Rep IntE w v' (relOf n g)) (hn : n ≤ 16) :
    Calls Try.prog 116 #[v, v'] w (RetOwn IntE 3 w (relOf n (fOr f g))) := by
  have HC := hide (combinedUnion v v' n f g w hx hy hn)
  clear hx hy
  go_enter Try.func116, Try.ntmps116
  go_wp2_with fail
  (with_reducible refine HC.out.mono ?_); rintro e w1 ⟨u, rfl, hu, hb1⟩
  go_wp2_with fail
  go_ret
  exact ⟨_, rfl, hu, hb1⟩

theorem bitMeet_any (x y : Int) (w : World) :
    Calls Try.prog 171 #[.int .i64 x, .int .i64 y] w fun e w' => e = .returned (.int .i64 (bits .and .i64 x y)) ∧ w = w' := by
  go_enter Try.func171, Try.ntmps171
  go_wp2_with fail
  go_ret
  exact ⟨rfl, rfl⟩

set_option maxHeartbeats 800000 in
theorem combinedMeet (v v' : Value) (n : Nat) (f g : Nat → Nat → Bool) (w : World) (hx : Rep IntE w v (relOf n f)) (hy : Rep IntE w v' (relOf n g)) (hn : n ≤ 16) :
    Calls Try.prog 167 #[v, v', .func (.func 171) #[] #[]] w (RetOwn IntE 3 w (relOf n (fAnd f g))) := by
  have HA := hide (areRels_any v v' n f g w hx hy hn)
  obtain ⟨a, c, rfl, -, -, -, hx⟩ := hx.open
  obtain ⟨a', c', rfl, -, -, -, hy⟩ := hy.open
  simp only [relOf_length] at *
  have HX := hide hx; have HY := hide hy
  clear hx hy
  go_enter Try.func167, Try.ntmps167
  go_wp2_with fail
  (with_reducible refine HA.out.mono ?_); rintro e w0 ⟨rfl, hb0⟩
  have HB0 := hide hb0; clear hb0 HA
  go_wp2_with (at_make; refine wpList_make IntE 3 0 Try.infoInt rfl Try.underlying24 n (by decide) (by omega) rfl _ _ rfl rfl rfl ?_; intro w1 hown hgr)
  have hb1 := below_of_grown hgr
  go_loopw [18] (fun i wr => ∃ k : Nat, k ≤ n ∧ i = .int .i64 k ∧ Hid (OwnN wr w0.heap.size (.slice (some ⟨w0.heap.size, 0, none⟩) n n) ((relOf n (fAnd f g)).take k ++ List.replicate (n - k) 0)) ∧ Hid (Below w0.heap.size w0 wr)) (fun i _ => n - (intOf i).toNat)
  case atStart => exact ⟨0, Nat.zero_le _, rfl, hide (by simpa using hown), hide hb1⟩
  case round =>
    obtain ⟨k, hk, rfl, HO, HB⟩ := hrel
    by_cases hlt : k < n
    · have hlt' := nat_of_lt hlt
      have hb := HB.out
      obtain ⟨b, o, rfl, hbl, i0⟩ := (HX.out.below HB0.out).int (relOf_get hlt)
      obtain ⟨b', o', rfl, hbl', j0⟩ := (HY.out.below HB0.out).int (relOf_get hlt)
      have i0 := (HB.out.cell (p := ⟨b, o + k, none⟩) hbl).trans i0
      have j0 := (HB.out.cell (p := ⟨b', o' + k, none⟩) hbl').trans j0
      have ne1 : b ≠ w0.heap.size := by omega
      have ne2 : b' ≠ w0.heap.size := by omega
      have ne3 : w0.heap.size ≠ b := by omega
      have ne4 : w0.heap.size ≠ b' := by omega
      have hg : ((relOf n (fAnd f g)).take k ++ List.replicate (n - k) 0)[k]? = some 0 := by
        have := get_pad (relOf n (fAnd f g)) 0 (k := k) (by rw [relOf_length]; exact hlt)
        rwa [relOf_length] at this
      obtain ⟨hgl, f0, hfr⟩ := HO.out.int hg
      have ho2 := HO.out.setInt hg (bits .and .i64 (bitsTo (f k) n) (bitsTo (g k) n))
      rw [bitsTo_and (f k) (g k) (n := n) (by omega)] at ho2
      have hset := set_pad (relOf n (fAnd f g)) 0 (relOf_get (f := fAnd f g) hlt)
      rw [relOf_length] at hset
      have e : ((relOf n (fAnd f g)).take k ++ List.replicate (n - k) 0).set k (bitsTo (fun j => f k j && g k j) n) = (relOf n (fAnd f g)).take (k + 1) ++ List.replicate (n - (k + 1)) 0 := hset
      rw [e] at ho2
      have HO2 := hide ho2
      have EQ := hide (bitsTo_and (f k) (g k) (n := n) (by omega))
      have hfz := hfr k
      clear ho2 e hset hg hb hfr
      generalize bitsTo (f k) n = rf at *
      generalize bitsTo (g k) n = rg at *
      go_wp2_with fail
      go_region_held3 (fun V => V.cell? ⟨b, o + k, none⟩ = some (.int .i64 rf) ∧ V.cell? ⟨b', o' + k, none⟩ = some (.int .i64 rg)) ((simp [go_sem, *]))
        (first
          | (go_at_call 171; (with_reducible refine (bitMeet_any _ _ _).mono ?_); rintro e u1 ⟨rfl, rfl⟩))
      all_goals
        go_wp2_with fail
        go_roundw
        case rel => exact ⟨k + 1, by omega, by go_num, hide (by have h := HO2.out.below (Below.refl _ _).drew; rw [← EQ.out] at h; exact h), hide ((HB.out.setCell (Nat.le_refl _) _).drew)⟩
        case measure => simp [intOf]; omega
    · have e : k = n := by omega
      subst e
      go_wp2_with fail
      go_ret
      have ho := HO.out
      rw [Nat.sub_self, List.replicate_zero, List.append_nil, List.take_of_length_le (by rw [relOf_length]; exact Nat.le_refl _)] at ho
      exact ⟨_, rfl, ho.mono HB0.out.size, HB0.out.trans (HB.out.mono HB0.out.size)⟩

theorem MeetRel_any (v v' : Value) (n : Nat) (f g : Nat → Nat → Bool) (w : World) (hx : Rep IntE w v (relOf n f)) (hy : Rep IntE w v' (relOf n g)) (hn : n ≤ 16) :
    Calls Try.prog 118 #[v, v'] w (RetOwn IntE 3 w (relOf n (fAnd f g))) := by
  have HC := hide (combinedMeet v v' n f g w hx hy hn)
  clear hx hy
  go_enter Try.func118, Try.ntmps118
  go_wp2_with fail
  (with_reducible refine HC.out.mono ?_); rintro e w1 ⟨u, rfl, hu, hb1⟩
  go_wp2_with fail
  go_ret
  exact ⟨_, rfl, hu, hb1⟩

end Go.Proofs.Ytbndkefoinmmgaa
