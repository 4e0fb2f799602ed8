/-
  The laws' own functions on lists of numbers. No condition but bounds on lengths.
-/
import Derived.Test.YtpnmphfdfadlcaaF2
namespace Go.Proofs.Ytpnmphfdfadlcaa
open Go.RowKit

theorem Try.infoInt : (Try.prog.info? 3).map (fun i => (i.zero, i.size, i.bytes)) = some (some (.int .i64 0), 1, 8) := by kernel_rfl

abbrev OwnN (w : World) (base : Nat) (v : Value) (xs : List Int) : Prop := Own IntE 3 w base v xs

theorem Own.int {T : TypeId} {w : World} {base g n cap : Nat} {xs : List Int} (h : Own IntE T w base (.slice (some ⟨g, 0, none⟩) n cap) xs) {k : Nat} {x : Int} (hx : xs[k]? = some x) :
    g < w.heap.size ∧ w.cell? ⟨g, k, none⟩ = some (.int .i64 x) ∧ ∀ j, w.frozen? ⟨g, j, none⟩ = false := by
  have := h.cell hx (j := 0) rfl
  simp only [IntE, Nat.mul_one, Nat.add_zero] at this
  exact ⟨(World.ownsRow.lt h g rfl).2, this, fun j => h.frozen j⟩

theorem Own.setInt {T : TypeId} {w : World} {base g n cap : Nat} {xs : List Int} (h : Own IntE T w base (.slice (some ⟨g, 0, none⟩) n cap) xs) {k : Nat} {z : Int} (hz : xs[k]? = some z) (x : Int) :
    Own IntE T (w.setCell ⟨g, k, none⟩ (.int .i64 x)) base (.slice (some ⟨g, 0, none⟩) n cap) (xs.set k x) := by
  have h0 := h.set (i := k) (j := 0) x (u := .int .i64 x) (by decide) hz rfl
  simp only [IntE, Nat.mul_one, Nat.add_zero] at h0
  exact h0

set_option maxHeartbeats 400000 in
theorem eqIntS_any (v v' : Value) (xs ys : List Int) (w : World) (hx : Rep IntE w v xs) (hy : Rep IntE w v' ys) :
    Calls Try.prog 46 #[v, v'] w fun e w' => e = .returned (.bool (decide (xs = ys))) ∧ Below w.heap.size w w' := by
  obtain ⟨a, c, rfl, hc1, hc2, hc3, hx⟩ := hx.open
  obtain ⟨a', c', rfl, hc1', hc2', hc3', hy⟩ := hy.open
  have HX := hide hx; clear hx
  have HY := hide hy; clear hy
  generalize hn : xs.length = n at *
  generalize hn' : ys.length = n' at *
  have H := hide hn; clear hn
  have H' := hide hn'; clear hn'
  by_cases hc : n = n'
  · subst hc
    have hc' : ((n : Int) != n) = false := by simp
    go_enter Try.func46, Try.ntmps46
    go_wp2_with fail
    go_loopw [5] (fun v wr => ∃ k : Nat, k ≤ n ∧ v = .int .i64 k ∧ Hid (xs.take k = ys.take k) ∧ Below w.heap.size w wr) (fun v _ => n - (intOf v).toNat)
    case atStart => exact ⟨0, Nat.zero_le _, rfl, hide (by simp), Below.refl _ _⟩
    case round =>
      obtain ⟨k, hk, rfl, T, hb⟩ := hrel
      by_cases hlt : k < n
      · obtain ⟨x, hxk⟩ := get_of_lt (xs := xs) (k := k) (by rw [H.out]; exact hlt)
        obtain ⟨y, hyk⟩ := get_of_lt (xs := ys) (k := k) (by rw [H'.out]; exact hlt)
        obtain ⟨b, o, rfl, hbl, i0⟩ := (HX.out.below hb).int hxk
        obtain ⟨b', o', rfl, hbl', j0⟩ := (HY.out.below hb).int hyk
        have hlt' := nat_of_lt hlt
        have X := hide hxk; clear hxk
        have Y := hide hyk; clear hyk
        by_cases hxy : x = y
        · have T' := hide (take_eq_succ T.out X.out Y.out hxy)
          have hd : (x != y) = false := by simp [hxy]
          clear hxy
          go_wp2_with fail
          refine wp_region_bw (by kernel_rfl) (by kernel_rfl) ?_
          repeat (go_big_quiet_step (fail))
          refine wpQuiet_nil ?_
          intro w1 hb1
          have hb2 := hb.trans (hb1.mono hb.size)
          go_wp2_with fail
          go_roundw
          case rel => exact ⟨k + 1, by omega, by go_num, T', hb2⟩
          case measure => simp [intOf]; omega
        · have hq := ne_of_get X.out Y.out hxy
          have hd : (x != y) = true := by simp [hxy]
          clear hxy
          go_wp2_with fail
          refine wp_region_bw (by kernel_rfl) (by kernel_rfl) ?_
          repeat (go_big_quiet_step (fail))
          refine wpQuiet_nil ?_
          intro w1 hb1
          have hb2 := hb.trans (hb1.mono hb.size)
          go_wp2_with fail
          go_ret
          exact ⟨by simp [hq], hb2⟩
      · have e2 : xs = ys := take_all_eq T.out (by rw [H.out]; omega) (by rw [H'.out]; omega)
        subst e2
        go_wp2_with fail
        go_ret
        exact ⟨by simp, hb⟩
  · have hc' : ((n : Int) != n') = true := by simp; omega
    have hq : xs ≠ ys := fun h => hc (by rw [← H.out, ← H'.out, h])
    go_enter Try.func46, Try.ntmps46
    go_wp2_with fail
    go_ret
    exact ⟨by simp [hq], Below.refl _ _⟩

set_option maxHeartbeats 400000 in
theorem toIntS_any (v : Value) (xs : List Int) (w : World) (hx : Rep IntE w v xs) (hl : xs.length ≤ 1048576) :
    Calls Try.prog 43 #[v] w (RetOwn IntE 3 w xs) := by
  obtain ⟨a, c, rfl, hc1, hc2, hc3, hx⟩ := hx.open
  have HX := hide hx; clear hx
  generalize hn : xs.length = n at *
  have H := hide hn; clear hn
  go_enter Try.func43, Try.ntmps43
  go_wp2_with (at_make; refine wpList_make IntE 3 0 Try.infoInt rfl Try.underlying36 n (by decide) (by omega) rfl _ _ rfl rfl rfl ?_; intro w1 hown hgr)
  have hb1 := below_of_grown hgr
  go_loopw [4] (fun i wr => ∃ k : Nat, k ≤ n ∧ i = .int .i64 k ∧ OwnN wr w.heap.size (.slice (some ⟨w.heap.size, 0, none⟩) n n) (xs.take k ++ List.replicate (n - k) 0) ∧ Below w.heap.size w wr) (fun i _ => n - (intOf i).toNat)
  case atStart => exact ⟨0, Nat.zero_le _, rfl, by simpa using hown, hb1⟩
  case round =>
    obtain ⟨k, hk, rfl, ho, hb⟩ := hrel
    by_cases hlt : k < n
    · obtain ⟨x, hxk⟩ := get_of_lt (xs := xs) (k := k) (by rw [H.out]; exact hlt)
      obtain ⟨b, o, rfl, hbl, i0⟩ := (HX.out.below hb).int hxk
      have hlt' := nat_of_lt hlt
      have X := hide hxk; clear hxk
      have hg : (xs.take k ++ List.replicate (n - k) 0)[k]? = some 0 := by rw [← H.out]; exact get_pad xs _ (by rw [H.out]; exact hlt)
      obtain ⟨hgl, f0, hfr⟩ := ho.int hg
      have ho2 := ho.setInt hg x
      rw [← H.out, set_pad xs _ X.out, H.out] at ho2
      have HO2 := hide ho2; clear ho2 hg
      go_wp2_with fail
      go_roundw
      case rel => exact ⟨k + 1, by omega, by go_num, HO2.out, hb.setCell (Nat.le_refl _) _⟩
      case measure => simp [intOf]; omega
    · go_wp2_with fail
      go_ret
      rw [← H.out, pad_all xs _ (by rw [H.out]; omega), H.out] at ho
      exact ⟨_, rfl, ho, hb⟩
/-- The number m itself. -/
def markN (m : Int) : Int := m
/-- So many numbers, numbered from m on. -/
def marksN : Nat → Int → List Int
  | 0, _ => []
  | n + 1, m => markN m :: marksN n (m + 1)

theorem marksN_length (n : Nat) (m : Int) : (marksN n m).length = n := by
  induction n generalizing m with
  | zero => rfl
  | succ n ih => simp [marksN, ih]

theorem marksN_get (n : Nat) (m : Int) {k : Nat} (h : k < n) : (marksN n m)[k]? = some (markN (m + k)) := by
  induction n generalizing m k with
  | zero => omega
  | succ n ih =>
    cases k with
    | zero => simp [marksN]
    | succ k => simp only [marksN, List.getElem?_cons_succ]; rw [ih _ (by omega)]; congr 2; omega

/-- The first k marked, the rest as they were. -/
theorem marksN_step (xs : List Int) (m : Int) {k : Nat} (hk : k < xs.length) : ((marksN k m) ++ xs.drop k).set k (markN (m + k)) = marksN (k + 1) m ++ xs.drop (k + 1) := by
  have h1 : marksN (k + 1) m = marksN k m ++ [markN (m + k)] := by
    apply List.ext_getElem?
    intro i
    by_cases hi : i < k
    · rw [marksN_get _ _ (by omega), List.getElem?_append_left (by rw [marksN_length]; exact hi), marksN_get _ _ hi]
    · by_cases hi2 : i = k
      · subst hi2
        rw [marksN_get _ _ (by omega), List.getElem?_append_right (by rw [marksN_length]; omega), marksN_length]; simp
      · rw [List.getElem?_eq_none (by rw [marksN_length]; omega), List.getElem?_eq_none (by simp [marksN_length]; omega)]
  rw [List.set_append_right _ _ (by rw [marksN_length]; omega), marksN_length, Nat.sub_self, List.drop_eq_getElem_cons hk, List.set_cons_zero, h1]
  simp

set_option maxHeartbeats 800000 in
theorem markIntS_any (v : Value) (xs : List Int) (m : Int) (w : World) (base : Nat) (hx : OwnN w base v xs) (hl : xs.length ≤ 1099511627776) (hm0 : 0 ≤ m) (hm1 : m ≤ 1099511627776) :
    Calls Try.prog 47 #[v, .int .i64 m] w fun e w' => e = .returned (.int .i64 (m + xs.length)) ∧ OwnN w' base v (marksN xs.length m) ∧ w.grownBy w' v.ownBlock := by
  rcases hx.shape with ⟨rfl, rfl⟩ | ⟨g, c, rfl, hg1, hg2, hc1, hc2⟩
  · go_enter Try.func47, Try.ntmps47
    go_wp2_with fail
    go_loopw [1, 5] (fun q i wr => i = .int .i64 0 ∧ q = .int .i64 m ∧ wr = w) (fun _ i _ => (intOf i).toNat)
    case atStart => exact ⟨rfl, rfl, rfl⟩
    case round =>
      obtain ⟨rfl, rfl, rfl⟩ := hrel
      go_wp2_with fail
      go_ret
      exact ⟨by simp, hx, World.grownBy.refl _ _⟩
  · generalize hn : xs.length = n at *
    have H := hide hn; clear hn
    go_enter Try.func47, Try.ntmps47
    go_wp2_with fail
    go_loopw [1, 5] (fun q i wr => ∃ k : Nat, k ≤ n ∧ i = .int .i64 k ∧ q = .int .i64 (m + k) ∧ OwnN wr base (.slice (some ⟨g, 0, none⟩) n c) (marksN k m ++ xs.drop k) ∧ w.grownBy wr (some g)) (fun _ i _ => n - (intOf i).toNat)
    case atStart => exact ⟨0, Nat.zero_le _, rfl, by simp, by simpa [marksN] using hx, World.grownBy.refl _ _⟩
    case round =>
      obtain ⟨k, hk, rfl, rfl, ho, hb⟩ := hrel
      by_cases hlt : k < n
      · obtain ⟨x, hxk⟩ := get_of_lt (xs := xs) (k := k) (by rw [H.out]; exact hlt)
        have hlt' := nat_of_lt hlt
        have hget : (marksN k m ++ xs.drop k)[k]? = some x := by rw [List.getElem?_append_right (by rw [marksN_length]; omega), marksN_length, Nat.sub_self, List.getElem?_drop]; simpa using hxk
        obtain ⟨hgl, f0, hfr⟩ := ho.int hget
        have ho2 := ho.setInt hget (markN (m + k))
        rw [marksN_step xs m (by rw [H.out]; exact hlt)] at ho2
        have X := hide hxk; clear hxk
        have G := hide hget; clear hget
        go_wp2_with fail
        go_roundw
        case rel => exact ⟨k + 1, by omega, by go_num, by go_num, ho2, grown_set hb _ _⟩
        case measure => simp [intOf]; omega
      · have e : k = n := by omega
        subst e
        go_wp2_with fail
        go_ret
        rw [List.drop_of_length_le (by rw [H.out]; omega), List.append_nil] at ho
        exact ⟨rfl, ho, hb⟩

set_option maxHeartbeats 800000 in
/-- Numbers that are numbered from m on are found so. -/
theorem heldIntS_any (v : Value) (n : Nat) (m : Int) (w : World) (hx : Rep IntE w v (marksN n m)) (hl : n ≤ 1099511627776) (hm0 : 0 ≤ m) (hm1 : m ≤ 1099511627776) :
    Calls Try.prog 64 #[v, .int .i64 m] w fun e w' => e = .returned (.int .i64 (m + n)) ∧ w = w' := by
  obtain ⟨a, c, rfl, hc1, hc2, hc3, hx⟩ := hx.open
  rw [marksN_length] at *
  go_enter Try.func64, Try.ntmps64
  go_wp2_with fail
  go_loop [1, 5] (fun q i => ∃ k : Nat, k ≤ n ∧ i = .int .i64 k ∧ q = .int .i64 (m + k)) (fun _ i => n - (intOf i).toNat)
  case atStart => exact ⟨0, Nat.zero_le _, rfl, by simp⟩
  case round =>
    obtain ⟨k, hk, rfl, rfl⟩ := hrel
    by_cases hlt : k < n
    · obtain ⟨b, o, rfl, hbl, i0⟩ := hx.int (marksN_get n m hlt)
      simp only [markN] at i0
      have hlt' := nat_of_lt hlt
      go_wp2_with fail
      go_round
      case rel => exact ⟨k + 1, by omega, by go_num, by go_num⟩
      case measure => simp [intOf]; omega
    · have e : k = n := by omega
      subst e
      go_wp2_with fail
      go_ret
      exact ⟨rfl, rfl⟩


end Go.Proofs.Ytpnmphfdfadlcaa
