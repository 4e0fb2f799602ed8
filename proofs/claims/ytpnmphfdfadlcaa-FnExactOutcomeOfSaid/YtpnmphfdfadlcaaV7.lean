/-
  slices.Index, slices.Contains and slices.Clone on numbers. Condition: a bound on lengths.
-/
import Derived.Test.YtpnmphfdfadlcaaV6
import Derived.Test.YtpnmphfdfadlcaaBase2
import Derived.Test.YtpnmphfdfadlcaaF10
namespace Go.Proofs.Ytpnmphfdfadlcaa
open Go.RowKit

set_option maxHeartbeats 800000 in
theorem IndexN_any (v : Value) (xs : List Int) (x : Int) (w : World) (hx : Rep IntE w v xs) :
    Calls Try.prog 222 #[v, .int .i64 x] w fun e w' => (∃ q : Int, e = .returned (.int .i64 q) ∧ PlaceOf xs x q) ∧ w = w' := by
  obtain ⟨a, c, rfl, hc1, hc2, hc3, hx⟩ := hx.open
  have HX := hide hx; clear hx
  generalize hn : xs.length = n at *
  have H := hide hn; clear hn
  go_enter Try.func222, Try.ntmps222
  go_wp2_with fail
  go_loop [8] (fun i => ∃ t : Nat, t ≤ n ∧ i = .int .i64 t ∧ Hid (x ∉ xs.take t)) (fun i => n - (intOf i).toNat)
  case atStart => exact ⟨0, Nat.zero_le _, rfl, hide (by simp)⟩
  case round =>
    obtain ⟨t, ht, rfl, hno⟩ := hrel
    by_cases hlt : t < n
    · obtain ⟨y, hy⟩ := get_of_lt (xs := xs) (k := t) (by rw [H.out]; exact hlt)
      obtain ⟨b, o, rfl, hbl, i0⟩ := HX.out.int hy
      have hlt' := nat_of_lt hlt
      have X := hide hy; clear hy
      by_cases hxy : y = x
      · have k1 : (x == y) = true := by simp [hxy]
        have XE := hide hxy
        clear hxy
        go_wp2_with fail
        go_ret
        exact ⟨⟨_, rfl, .inr ⟨t, rfl, XE.out ▸ X.out, hno.out⟩⟩, rfl⟩
      · have k1 : (x == y) = false := by simpa using fun e => hxy e.symm
        have NO : Hid (x ∉ xs.take (t + 1)) := hide (notin_succ hno.out X.out hxy)
        clear hxy
        go_wp2_with fail
        go_round
        case rel => exact ⟨t + 1, by omega, by go_num, NO⟩
        case measure => simp [intOf]; omega
    · go_wp2_with fail
      go_ret
      refine ⟨⟨_, rfl, .inl ⟨rfl, ?_⟩⟩, rfl⟩
      have h := hno.out
      rwa [List.take_of_length_le (by rw [H.out]; omega)] at h

theorem PlaceOf.ge {xs : List Int} {x q : Int} (h : PlaceOf xs x q) : decide (0 ≤ q) = xs.contains x := by
  rcases h with ⟨rfl, h⟩ | ⟨k, rfl, h, -⟩
  · simp [h]
  · have := List.mem_of_getElem? h
    simp [this]

theorem ContainsN_any (v : Value) (xs : List Int) (x : Int) (w : World) (hx : Rep IntE w v xs) :
    Calls Try.prog 200 #[v, .int .i64 x] w fun e w' => e = .returned (.bool (xs.contains x)) ∧ w = w' := by
  have HI := hide (IndexN_any v xs x w hx)
  obtain ⟨a, c, rfl, -⟩ := hx.open
  clear hx
  generalize hb : xs.contains x = b
  have HB := hide hb; clear hb
  go_enter Try.func200, Try.ntmps200
  go_wp2_with fail
  (with_reducible refine HI.out.mono ?_); rintro e w1 ⟨⟨q, rfl, hq⟩, rfl⟩
  have E : Hid (decide (0 ≤ q) = b) := hide (by rw [← HB.out]; exact hq.ge)
  clear hq
  go_wp2_with fail
  go_ret
  exact ⟨by rw [← E.out]; rfl, rfl⟩

theorem CloneV_any (v : Value) (xs : List Int) (w : World) (hx : Rep IntE w v xs) (hl : xs.length ≤ 1048576) :
    Calls Try.prog 202 #[v] w (RetOwn IntE 3 w xs) := by
  obtain ⟨a, c, rfl, hc1, hc2, hc3, hx⟩ := hx.open
  have HX := hide hx; clear hx
  generalize hn : xs.length = n at *
  have H := hide hn; clear hn
  have hlen : ([] : List Int).length + n ≤ 68719476736 := by simp; omega
  cases a with
  | none =>
    have hE := fun w' : World => eql_slice_nil Try.prog w' 36 3 none n c 0 0 Try.underlying36
    have hn0 : xs = [] := by
      cases xs with
      | nil => rfl
      | cons x xs => obtain ⟨b, o, he, _⟩ := HX.out.int (k := 0) (x := x) rfl; cases he
    subst hn0
    go_enter Try.func202, Try.ntmps202
    go_wp2_with fail
    go_ret
    exact ⟨_, rfl, Own.nil _ _ _, Below.refl _ _⟩
  | some ad =>
    have hE := fun w' : World => eql_slice_nil Try.prog w' 36 3 (some ad) n c 0 0 Try.underlying36
    go_enter Try.func202, Try.ntmps202
    go_wp2_with (at_builtin; refine wpList_appS IntE 3 Try.infoInt rfl Try.underlying36 w.heap.size _ [] xs _ (Own.empty _ w (Nat.le_refl _)) (HX.out.below ((Below.refl _ _).alloc (Nat.le_refl _) _)) (by decide) (by rw [H.out]; exact hlen) (by simp) rfl _ _ rfl rfl rfl ?_; intro v' w1 hown1 hgr1)
    go_ret
    exact ⟨_, rfl, by simpa using hown1, ((Below.refl _ _).alloc (Nat.le_refl _) _).grown hgr1 (by simp) (fun k hk => by simp [Value.ownBlock] at hk; omega)⟩

end Go.Proofs.Ytpnmphfdfadlcaa
