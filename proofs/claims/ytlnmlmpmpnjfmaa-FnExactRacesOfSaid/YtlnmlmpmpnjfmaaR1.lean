/-
  The laws' own functions on lists of races. No condition but bounds on lengths.
-/
import Derived.Test.YtlnmlmpmpnjfmaaF17
namespace Go.Proofs.Ytlnmlmpmpnjfmaa
open Go.RowKit

/-- What the walk asks of element k of a slice of races. -/
theorem Rep.rc {w : World} {a : Option Addr} {n c : Nat} {xs : List Rc} (h : Rep RcE w (.slice a n c) xs) {k : Nat} {x : Rc} (hx : xs[k]? = some x) :
    ∃ b o, a = some ⟨b, o, none⟩ ∧ b < w.heap.size ∧ w.cell? ⟨b, o + k * 4, none⟩ = some (.int .i64 x.a.t) ∧ w.cell? ⟨b, o + k * 4 + 1, none⟩ = some (.int .i64 x.a.i) ∧
      w.cell? ⟨b, o + k * 4 + 2, none⟩ = some (.int .i64 x.b.t) ∧ w.cell? ⟨b, o + k * 4 + 3, none⟩ = some (.int .i64 x.b.i) := by
  obtain ⟨a', c', hv, _, _, h⟩ := h
  simp only [Value.slice.injEq] at hv
  obtain ⟨rfl, rfl, rfl⟩ := hv
  obtain ⟨b, o, rfl, h'⟩ := h k x hx
  exact ⟨b, o, rfl, lt_of_cell (h' 0 _ rfl), h' 0 _ rfl, h' 1 _ rfl, h' 2 _ rfl, h' 3 _ rfl⟩

/-- What the walk asks of element k of an owned slice of races that is stored into. -/
theorem Own.rc {T : TypeId} {w : World} {base g n cap : Nat} {xs : List Rc} (h : Own RcE T w base (.slice (some ⟨g, 0, none⟩) n cap) xs) {k : Nat} {x : Rc} (hx : xs[k]? = some x) :
    g < w.heap.size ∧ w.cell? ⟨g, k * 4, none⟩ = some (.int .i64 x.a.t) ∧ w.cell? ⟨g, k * 4 + 1, none⟩ = some (.int .i64 x.a.i) ∧
      w.cell? ⟨g, k * 4 + 2, none⟩ = some (.int .i64 x.b.t) ∧ w.cell? ⟨g, k * 4 + 3, none⟩ = some (.int .i64 x.b.i) ∧ ∀ j, w.frozen? ⟨g, j, none⟩ = false :=
  ⟨(World.ownsRow.lt h g rfl).2, h.cell hx (j := 0) rfl, h.cell hx (j := 1) rfl, h.cell hx (j := 2) rfl, h.cell hx (j := 3) rfl, fun j => h.frozen j⟩

theorem Own.setRc {T : TypeId} {w : World} {base g n cap : Nat} {xs : List Rc} (h : Own RcE T w base (.slice (some ⟨g, 0, none⟩) n cap) xs) {k : Nat} {z : Rc} (hz : xs[k]? = some z) (x : Rc) :
    Own RcE T ((((w.setCell ⟨g, k * 4, none⟩ (.int .i64 x.a.t)).setCell ⟨g, k * 4 + 1, none⟩ (.int .i64 x.a.i)).setCell ⟨g, k * 4 + 2, none⟩ (.int .i64 x.b.t)).setCell ⟨g, k * 4 + 3, none⟩ (.int .i64 x.b.i)) base (.slice (some ⟨g, 0, none⟩) n cap) (xs.set k x) := by
  have h0 := h.set (i := k) (j := 0) ⟨⟨x.a.t, z.a.i⟩, ⟨z.b.t, z.b.i⟩⟩ (u := .int .i64 x.a.t) (by decide) hz rfl
  have h1 := h0.set (i := k) (j := 1) ⟨⟨x.a.t, x.a.i⟩, ⟨z.b.t, z.b.i⟩⟩ (u := .int .i64 x.a.i) (by decide) (get_set_self hz _) rfl
  have h2 := h1.set (i := k) (j := 2) ⟨⟨x.a.t, x.a.i⟩, ⟨x.b.t, z.b.i⟩⟩ (u := .int .i64 x.b.t) (by decide) (get_set_self (get_set_self hz _) _) rfl
  have h3 := h2.set (i := k) (j := 3) x (u := .int .i64 x.b.i) (by decide) (get_set_self (get_set_self (get_set_self hz _) _) _) rfl
  simp only [List.set_set] at h3
  exact h3


theorem eqRace_any (x y : Rc) (w : World) :
    Calls Try.prog 73 #[.agg #[.int .i64 x.a.t, .int .i64 x.a.i, .int .i64 x.b.t, .int .i64 x.b.i], .agg #[.int .i64 y.a.t, .int .i64 y.a.i, .int .i64 y.b.t, .int .i64 y.b.i]] w fun e w' => e = .returned (.bool (decide (x = y))) ∧ Below w.heap.size w w' := by
  obtain ⟨⟨x0, x1⟩, ⟨x2, x3⟩⟩ := x
  obtain ⟨⟨y0, y1⟩, ⟨y2, y3⟩⟩ := y
  have HA := hide (fun w' => eqGap_any ⟨x0, x1⟩ ⟨y0, y1⟩ w')
  have HC := hide (fun w' => eqGap_any ⟨x2, x3⟩ ⟨y2, y3⟩ w')
  have E : Hid (decide ((⟨⟨x0, x1⟩, ⟨x2, x3⟩⟩ : Rc) = ⟨⟨y0, y1⟩, ⟨y2, y3⟩⟩) = (decide ((⟨x0, x1⟩ : Gp) = ⟨y0, y1⟩) && decide ((⟨x2, x3⟩ : Gp) = ⟨y2, y3⟩))) := hide (by rw [Bool.eq_iff_iff]; simp)
  generalize decide ((⟨⟨x0, x1⟩, ⟨x2, x3⟩⟩ : Rc) = ⟨⟨y0, y1⟩, ⟨y2, y3⟩⟩) = R at *
  generalize decide ((⟨x0, x1⟩ : Gp) = ⟨y0, y1⟩) = A at *
  generalize decide ((⟨x2, x3⟩ : Gp) = ⟨y2, y3⟩) = C at *
  have HB := hide (((Below.refl w.heap.size w).alloc (Nat.le_refl _) (.cells #[.int .i64 x0, .int .i64 x1, .int .i64 x2, .int .i64 x3] 83)).alloc (by simp) (.cells #[.int .i64 y0, .int .i64 y1, .int .i64 y2, .int .i64 y3] 83))
  cases A
  · obtain rfl : R = false := by rw [E.out]; rfl
    go_enter Try.func73, Try.ntmps73
    go_wp2_with fail
    (with_reducible refine (HA.out _).mono ?_); rintro e w1 ⟨rfl, hb1⟩
    go_wp2_with fail
    go_ret
    exact ⟨rfl, HB.out.trans (hb1.mono HB.out.size)⟩
  · obtain rfl : R = C := by rw [E.out]; rfl
    go_enter Try.func73, Try.ntmps73
    go_wp2_with fail
    (with_reducible refine (HA.out _).mono ?_); rintro e w1 ⟨rfl, hb1⟩
    obtain ⟨hc1, hf1⟩ := bcell hb1
    go_wp2_with fail
    (with_reducible refine (HC.out _).mono ?_); rintro e w2 ⟨rfl, hb2⟩
    cases R
    · go_wp2_with fail
      go_ret
      exact ⟨rfl, HB.out.trans ((hb1.trans (hb2.mono hb1.size)).mono HB.out.size)⟩
    · go_wp2_with fail
      go_ret
      exact ⟨rfl, HB.out.trans ((hb1.trans (hb2.mono hb1.size)).mono HB.out.size)⟩

set_option maxHeartbeats 400000 in
theorem eqRaceS_any (v v' : Value) (xs ys : List Rc) (w : World) (hx : Rep RcE w v xs) (hy : Rep RcE w v' ys) :
    Calls Try.prog 28 #[v, v'] w fun e w' => e = .returned (.bool (decide (xs = ys))) ∧ Below w.heap.size w w' := by
  obtain ⟨a, c, rfl, hc1, hc2, hc3, hx⟩ := hx.open
  obtain ⟨a', c', rfl, hc1', hc2', hc3', hy⟩ := hy.open
  have HX := hide hx; clear hx
  have HY := hide hy; clear hy
  generalize hn : xs.length = n at *
  generalize hn' : ys.length = n' at *
  have H := hide hn; clear hn
  have H' := hide hn'; clear hn'
  by_cases hc : n = n'
  · subst hc
    have hc' : ((n : Int) != n) = false := by simp
    go_enter Try.func28, Try.ntmps28
    go_wp2_with fail
    go_loopw [5] (fun v wr => ∃ k : Nat, k ≤ n ∧ v = .int .i64 k ∧ Hid (xs.take k = ys.take k) ∧ Below w.heap.size w wr) (fun v _ => n - (intOf v).toNat)
    case atStart => exact ⟨0, Nat.zero_le _, rfl, hide (by simp), Below.refl _ _⟩
    case round =>
      obtain ⟨k, hk, rfl, T, hb⟩ := hrel
      by_cases hlt : k < n
      · obtain ⟨x, hxk⟩ := get_of_lt (xs := xs) (k := k) (by rw [H.out]; exact hlt)
        obtain ⟨y, hyk⟩ := get_of_lt (xs := ys) (k := k) (by rw [H'.out]; exact hlt)
        obtain ⟨b, o, rfl, hbl, i0, i1, i2, i3⟩ := (HX.out.below hb).rc hxk
        obtain ⟨b', o', rfl, hbl', j0, j1, j2, j3⟩ := (HY.out.below hb).rc hyk
        have hlt' := nat_of_lt hlt
        have X := hide hxk; clear hxk
        have Y := hide hyk; clear hyk
        go_wp2_with fail
        refine wp_region_bw (by kernel_rfl) (by kernel_rfl) ?_
        repeat (go_big_quiet_step ((go_at_call 73; exact Calls.bw (eqRace_any x y _))))
        refine wpQuiet_nil ?_
        intro w1 hb1
        have hb2 := hb.trans (hb1.mono hb.size)
        generalize hd : decide (x = y) = d
        cases d
        · have hq := ne_of_get X.out Y.out (of_decide_eq_false hd)
          clear hd
          go_wp2_with fail
          go_ret
          exact ⟨by simp [hq], hb2⟩
        · have T' := hide (take_eq_succ T.out X.out Y.out (of_decide_eq_true hd))
          clear hd
          go_wp2_with fail
          go_roundw
          case rel => exact ⟨k + 1, by omega, by go_num, T', hb2⟩
          case measure => simp [intOf]; omega
      · have e2 : xs = ys := take_all_eq T.out (by rw [H.out]; omega) (by rw [H'.out]; omega)
        subst e2
        go_wp2_with fail
        go_ret
        exact ⟨by simp, hb⟩
  · have hc' : ((n : Int) != n') = true := by simp; omega
    have hq : xs ≠ ys := fun h => hc (by rw [← H.out, ← H'.out, h])
    go_enter Try.func28, Try.ntmps28
    go_wp2_with fail
    go_ret
    exact ⟨by simp [hq], Below.refl _ _⟩

/-- The race whose fields are numbered from m on. -/
def markR (m : Int) : Rc := ⟨⟨m, m + 1⟩, ⟨m + 1 + 1, m + 1 + 1 + 1⟩⟩
/-- So many races, numbered from m on. -/
def marksR : Nat → Int → List Rc
  | 0, _ => []
  | n + 1, m => markR m :: marksR n (m + 4)

theorem marksR_length (n : Nat) (m : Int) : (marksR n m).length = n := by
  induction n generalizing m with
  | zero => rfl
  | succ n ih => simp [marksR, ih]

theorem marksR_get (n : Nat) (m : Int) {k : Nat} (h : k < n) : (marksR n m)[k]? = some (markR (m + 4 * k)) := by
  induction n generalizing m k with
  | zero => omega
  | succ n ih =>
    cases k with
    | zero => simp [marksR]
    | succ k => simp only [marksR, List.getElem?_cons_succ]; rw [ih _ (by omega)]; congr 2; omega

/-- The first k marked, the rest as they were. -/
theorem marksR_step (xs : List Rc) (m : Int) {k : Nat} (hk : k < xs.length) : ((marksR k m) ++ xs.drop k).set k (markR (m + 4 * k)) = marksR (k + 1) m ++ xs.drop (k + 1) := by
  have h1 : marksR (k + 1) m = marksR k m ++ [markR (m + 4 * k)] := by
    apply List.ext_getElem?
    intro i
    by_cases hi : i < k
    · rw [marksR_get _ _ (by omega), List.getElem?_append_left (by rw [marksR_length]; exact hi), marksR_get _ _ hi]
    · by_cases hi2 : i = k
      · subst hi2
        rw [marksR_get _ _ (by omega), List.getElem?_append_right (by rw [marksR_length]; omega), marksR_length]; simp
      · rw [List.getElem?_eq_none (by rw [marksR_length]; omega), List.getElem?_eq_none (by simp [marksR_length]; omega)]
  rw [List.set_append_right _ _ (by rw [marksR_length]; omega), marksR_length, Nat.sub_self, List.drop_eq_getElem_cons hk, List.set_cons_zero, h1]
  simp

set_option maxHeartbeats 800000 in
theorem markRaceS_any (v : Value) (xs : List Rc) (m : Int) (w : World) (base : Nat) (hx : OwnR w base v xs) (hl : xs.length ≤ 1099511627776) (hm0 : 0 ≤ m) (hm1 : m ≤ 1099511627776) :
    Calls Try.prog 29 #[v, .int .i64 m] w fun e w' => e = .returned (.int .i64 (m + 4 * xs.length)) ∧ OwnR w' base v (marksR xs.length m) ∧ w.grownBy w' v.ownBlock := by
  rcases hx.shape with ⟨rfl, rfl⟩ | ⟨g, c, rfl, hg1, hg2, hc1, hc2⟩
  · go_enter Try.func29, Try.ntmps29
    go_wp2_with fail
    go_loopw [1, 5] (fun q i wr => i = .int .i64 0 ∧ q = .int .i64 m ∧ wr = w) (fun _ i _ => (intOf i).toNat)
    case atStart => exact ⟨rfl, rfl, rfl⟩
    case round =>
      obtain ⟨rfl, rfl, rfl⟩ := hrel
      go_wp2_with fail
      go_ret
      exact ⟨by simp, hx, World.grownBy.refl _ _⟩
  · generalize hn : xs.length = n at *
    have H := hide hn; clear hn
    go_enter Try.func29, Try.ntmps29
    go_wp2_with fail
    go_loopw [1, 5] (fun q i wr => ∃ k : Nat, k ≤ n ∧ i = .int .i64 k ∧ q = .int .i64 (m + 4 * k) ∧ OwnR wr base (.slice (some ⟨g, 0, none⟩) n c) (marksR k m ++ xs.drop k) ∧ w.grownBy wr (some g)) (fun _ i _ => n - (intOf i).toNat)
    case atStart => exact ⟨0, Nat.zero_le _, rfl, by simp, by simpa [marksR] using hx, World.grownBy.refl _ _⟩
    case round =>
      obtain ⟨k, hk, rfl, rfl, ho, hb⟩ := hrel
      by_cases hlt : k < n
      · obtain ⟨x, hxk⟩ := get_of_lt (xs := xs) (k := k) (by rw [H.out]; exact hlt)
        have hlt' := nat_of_lt hlt
        have hget : (marksR k m ++ xs.drop k)[k]? = some x := by rw [List.getElem?_append_right (by rw [marksR_length]; omega), marksR_length, Nat.sub_self, List.getElem?_drop]; simpa using hxk
        obtain ⟨hgl, f0, f1, f2, f3, hfr⟩ := ho.rc hget
        have ho2 := ho.setRc hget (markR (m + 4 * k))
        rw [marksR_step xs m (by rw [H.out]; exact hlt)] at ho2
        have X := hide hxk; clear hxk
        have G := hide hget; clear hget
        go_wp2_with fail
        go_roundw
        case rel => exact ⟨k + 1, by omega, by go_num, by go_num, ho2, grown_set (grown_set (grown_set (grown_set hb _ _) _ _) _ _) _ _⟩
        case measure => simp [intOf]; omega
      · have e : k = n := by omega
        subst e
        go_wp2_with fail
        go_ret
        rw [List.drop_of_length_le (by rw [H.out]; omega), List.append_nil] at ho
        exact ⟨rfl, ho, hb⟩

set_option maxHeartbeats 800000 in
/-- Instructions that are numbered from m on are found so. -/
theorem heldRaceS_any (v : Value) (n : Nat) (m : Int) (w : World) (hx : Rep RcE w v (marksR n m)) (hl : n ≤ 1099511627776) (hm0 : 0 ≤ m) (hm1 : m ≤ 1099511627776) :
    Calls Try.prog 30 #[v, .int .i64 m] w fun e w' => e = .returned (.int .i64 (m + 4 * n)) ∧ w = w' := by
  obtain ⟨a, c, rfl, hc1, hc2, hc3, hx⟩ := hx.open
  rw [marksR_length] at *
  go_enter Try.func30, Try.ntmps30
  go_wp2_with fail
  go_loop [1, 5] (fun q i => ∃ k : Nat, k ≤ n ∧ i = .int .i64 k ∧ q = .int .i64 (m + 4 * k)) (fun _ i => n - (intOf i).toNat)
  case atStart => exact ⟨0, Nat.zero_le _, rfl, by simp⟩
  case round =>
    obtain ⟨k, hk, rfl, rfl⟩ := hrel
    by_cases hlt : k < n
    · obtain ⟨b, o, rfl, hbl, i0, i1, i2, i3⟩ := hx.rc (marksR_get n m hlt)
      simp only [markR] at i0 i1 i2 i3
      have hlt' := nat_of_lt hlt
      go_wp2_with fail
      go_round
      case rel => exact ⟨k + 1, by omega, by go_num, by go_num⟩
      case measure => simp [intOf]; omega
    · have e : k = n := by omega
      subst e
      go_wp2_with fail
      go_ret
      exact ⟨rfl, rfl⟩


end Go.Proofs.Ytlnmlmpmpnjfmaa
