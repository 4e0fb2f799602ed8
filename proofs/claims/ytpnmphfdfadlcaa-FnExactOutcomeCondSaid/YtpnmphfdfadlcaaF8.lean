/-
  The laws' own functions on lists of gaps, and the gaps of the reference.
-/
import Derived.Test.YtpnmphfdfadlcaaF7
namespace Go.Proofs.Ytpnmphfdfadlcaa
open Go.RowKit

theorem Rep.gap {w : World} {a : Option Addr} {n c : Nat} {xs : List Gp} (h : Rep GapE w (.slice a n c) xs) {k : Nat} {x : Gp} (hx : xs[k]? = some x) :
    ∃ b o, a = some ⟨b, o, none⟩ ∧ b < w.heap.size ∧ w.cell? ⟨b, o + k * 2, none⟩ = some (.int .i64 x.t) ∧ w.cell? ⟨b, o + k * 2 + 1, none⟩ = some (.int .i64 x.i) := by
  obtain ⟨a', c', hv, _, _, h⟩ := h
  simp only [Value.slice.injEq] at hv
  obtain ⟨rfl, rfl, rfl⟩ := hv
  obtain ⟨b, o, rfl, h'⟩ := h k x hx
  exact ⟨b, o, rfl, lt_of_cell (h' 0 _ rfl), h' 0 _ rfl, h' 1 _ rfl⟩

theorem Own.gap {T : TypeId} {w : World} {base g n cap : Nat} {xs : List Gp} (h : Own GapE T w base (.slice (some ⟨g, 0, none⟩) n cap) xs) {k : Nat} {x : Gp} (hx : xs[k]? = some x) :
    g < w.heap.size ∧ w.cell? ⟨g, k * 2, none⟩ = some (.int .i64 x.t) ∧ w.cell? ⟨g, k * 2 + 1, none⟩ = some (.int .i64 x.i) ∧ ∀ j, w.frozen? ⟨g, j, none⟩ = false :=
  ⟨(World.ownsRow.lt h g rfl).2, h.cell hx (j := 0) rfl, h.cell hx (j := 1) rfl, fun j => h.frozen j⟩

theorem Own.setGap {T : TypeId} {w : World} {base g n cap : Nat} {xs : List Gp} (h : Own GapE T w base (.slice (some ⟨g, 0, none⟩) n cap) xs) {k : Nat} {z : Gp} (hz : xs[k]? = some z) (x : Gp) :
    Own GapE T ((w.setCell ⟨g, k * 2, none⟩ (.int .i64 x.t)).setCell ⟨g, k * 2 + 1, none⟩ (.int .i64 x.i)) base (.slice (some ⟨g, 0, none⟩) n cap) (xs.set k x) := by
  have h0 := h.set (i := k) (j := 0) ⟨x.t, z.i⟩ (u := .int .i64 x.t) (by decide) hz rfl
  have h1 := h0.set (i := k) (j := 1) x (u := .int .i64 x.i) (by decide) (get_set_self hz _) rfl
  simp only [List.set_set] at h1
  exact h1

theorem eqGap_any (x y : Gp) (w : World) :
    Calls Try.prog 111 #[x.v, y.v] w fun e w' => e = .returned (.bool (decide (x = y))) ∧ Below w.heap.size w w' := by
  obtain ⟨x0, x1⟩ := x
  obtain ⟨y0, y1⟩ := y
  rw [show decide ((⟨x0, x1⟩ : Gp) = ⟨y0, y1⟩) = (x0 == y0 && x1 == y1) by rw [Bool.eq_iff_iff]; simp]
  go_enter Try.func111, Try.ntmps111
  go_wp2
  all_goals go_ret
  all_goals refine ⟨?_, ((Below.refl _ _).alloc (Nat.le_refl _) _).alloc (by simp) _⟩
  all_goals simp_all

set_option maxHeartbeats 400000 in
theorem eqGapS_any (v v' : Value) (xs ys : List Gp) (w : World) (hx : Rep GapE w v xs) (hy : Rep GapE w v' ys) :
    Calls Try.prog 38 #[v, v'] w fun e w' => e = .returned (.bool (decide (xs = ys))) ∧ Below w.heap.size w w' := by
  obtain ⟨a, c, rfl, hc1, hc2, hc3, hx⟩ := hx.open
  obtain ⟨a', c', rfl, hc1', hc2', hc3', hy⟩ := hy.open
  have HX := hide hx; clear hx
  have HY := hide hy; clear hy
  generalize hn : xs.length = n at *
  generalize hn' : ys.length = n' at *
  have H := hide hn; clear hn
  have H' := hide hn'; clear hn'
  by_cases hc : n = n'
  · subst hc
    have hc' : ((n : Int) != n) = false := by simp
    go_enter Try.func38, Try.ntmps38
    go_wp2_with fail
    go_loopw [5] (fun v wr => ∃ k : Nat, k ≤ n ∧ v = .int .i64 k ∧ Hid (xs.take k = ys.take k) ∧ Below w.heap.size w wr) (fun v _ => n - (intOf v).toNat)
    case atStart => exact ⟨0, Nat.zero_le _, rfl, hide (by simp), Below.refl _ _⟩
    case round =>
      obtain ⟨k, hk, rfl, T, hb⟩ := hrel
      by_cases hlt : k < n
      · obtain ⟨x, hxk⟩ := get_of_lt (xs := xs) (k := k) (by rw [H.out]; exact hlt)
        obtain ⟨y, hyk⟩ := get_of_lt (xs := ys) (k := k) (by rw [H'.out]; exact hlt)
        obtain ⟨b, o, rfl, hbl, i0, i1⟩ := (HX.out.below hb).gap hxk
        obtain ⟨b', o', rfl, hbl', j0, j1⟩ := (HY.out.below hb).gap hyk
        have hlt' := nat_of_lt hlt
        have X := hide hxk; clear hxk
        have Y := hide hyk; clear hyk
        go_wp2_with fail
        refine wp_region_bw (by kernel_rfl) (by kernel_rfl) ?_
        repeat (go_big_quiet_step ((go_at_call 111; exact Calls.bw (eqGap_any x y _))))
        refine wpQuiet_nil ?_
        intro w1 hb1
        have hb2 := hb.trans (hb1.mono hb.size)
        generalize hd : decide (x = y) = d
        cases d
        · have hq := ne_of_get X.out Y.out (of_decide_eq_false hd)
          clear hd
          go_wp2_with fail
          go_ret
          exact ⟨by simp [hq], hb2⟩
        · have T' := hide (take_eq_succ T.out X.out Y.out (of_decide_eq_true hd))
          clear hd
          go_wp2_with fail
          go_roundw
          case rel => exact ⟨k + 1, by omega, by go_num, T', hb2⟩
          case measure => simp [intOf]; omega
      · have e2 : xs = ys := take_all_eq T.out (by rw [H.out]; omega) (by rw [H'.out]; omega)
        subst e2
        go_wp2_with fail
        go_ret
        exact ⟨by simp, hb⟩
  · have hc' : ((n : Int) != n') = true := by simp; omega
    have hq : xs ≠ ys := fun h => hc (by rw [← H.out, ← H'.out, h])
    go_enter Try.func38, Try.ntmps38
    go_wp2_with fail
    go_ret
    exact ⟨by simp [hq], Below.refl _ _⟩

/-- The gap whose fields are numbered from m on. -/
def markG (m : Int) : Gp := ⟨m, m + 1⟩
/-- So many gaps, numbered from m on. -/
def marksG : Nat → Int → List Gp
  | 0, _ => []
  | n + 1, m => markG m :: marksG n (m + 2)

theorem marksG_length (n : Nat) (m : Int) : (marksG n m).length = n := by
  induction n generalizing m with
  | zero => rfl
  | succ n ih => simp [marksG, ih]

theorem marksG_get (n : Nat) (m : Int) {k : Nat} (h : k < n) : (marksG n m)[k]? = some (markG (m + 2 * k)) := by
  induction n generalizing m k with
  | zero => omega
  | succ n ih =>
    cases k with
    | zero => simp [marksG]
    | succ k => simp only [marksG, List.getElem?_cons_succ]; rw [ih _ (by omega)]; congr 2; omega

/-- The first k marked, the rest as they were. -/
theorem marksG_step (xs : List Gp) (m : Int) {k : Nat} (hk : k < xs.length) : ((marksG k m) ++ xs.drop k).set k (markG (m + 2 * k)) = marksG (k + 1) m ++ xs.drop (k + 1) := by
  have h1 : marksG (k + 1) m = marksG k m ++ [markG (m + 2 * k)] := by
    apply List.ext_getElem?
    intro i
    by_cases hi : i < k
    · rw [marksG_get _ _ (by omega), List.getElem?_append_left (by rw [marksG_length]; exact hi), marksG_get _ _ hi]
    · by_cases hi2 : i = k
      · subst hi2
        rw [marksG_get _ _ (by omega), List.getElem?_append_right (by rw [marksG_length]; omega), marksG_length]; simp
      · rw [List.getElem?_eq_none (by rw [marksG_length]; omega), List.getElem?_eq_none (by simp [marksG_length]; omega)]
  rw [List.set_append_right _ _ (by rw [marksG_length]; omega), marksG_length, Nat.sub_self, List.drop_eq_getElem_cons hk, List.set_cons_zero, h1]
  simp

set_option maxHeartbeats 800000 in
theorem markGapS_any (v : Value) (xs : List Gp) (m : Int) (w : World) (base : Nat) (hx : OwnG w base v xs) (hl : xs.length ≤ 1099511627776) (hm0 : 0 ≤ m) (hm1 : m ≤ 1099511627776) :
    Calls Try.prog 40 #[v, .int .i64 m] w fun e w' => e = .returned (.int .i64 (m + 2 * xs.length)) ∧ OwnG w' base v (marksG xs.length m) ∧ w.grownBy w' v.ownBlock := by
  rcases hx.shape with ⟨rfl, rfl⟩ | ⟨g, c, rfl, hg1, hg2, hc1, hc2⟩
  · go_enter Try.func40, Try.ntmps40
    go_wp2_with fail
    go_loopw [1, 5] (fun q i wr => i = .int .i64 0 ∧ q = .int .i64 m ∧ wr = w) (fun _ i _ => (intOf i).toNat)
    case atStart => exact ⟨rfl, rfl, rfl⟩
    case round =>
      obtain ⟨rfl, rfl, rfl⟩ := hrel
      go_wp2_with fail
      go_ret
      exact ⟨by simp, hx, World.grownBy.refl _ _⟩
  · generalize hn : xs.length = n at *
    have H := hide hn; clear hn
    go_enter Try.func40, Try.ntmps40
    go_wp2_with fail
    go_loopw [1, 5] (fun q i wr => ∃ k : Nat, k ≤ n ∧ i = .int .i64 k ∧ q = .int .i64 (m + 2 * k) ∧ OwnG wr base (.slice (some ⟨g, 0, none⟩) n c) (marksG k m ++ xs.drop k) ∧ w.grownBy wr (some g)) (fun _ i _ => n - (intOf i).toNat)
    case atStart => exact ⟨0, Nat.zero_le _, rfl, by simp, by simpa [marksG] using hx, World.grownBy.refl _ _⟩
    case round =>
      obtain ⟨k, hk, rfl, rfl, ho, hb⟩ := hrel
      by_cases hlt : k < n
      · obtain ⟨x, hxk⟩ := get_of_lt (xs := xs) (k := k) (by rw [H.out]; exact hlt)
        have hlt' := nat_of_lt hlt
        have hget : (marksG k m ++ xs.drop k)[k]? = some x := by rw [List.getElem?_append_right (by rw [marksG_length]; omega), marksG_length, Nat.sub_self, List.getElem?_drop]; simpa using hxk
        obtain ⟨hgl, f0, f1, hfr⟩ := ho.gap hget
        have ho2 := ho.setGap hget (markG (m + 2 * k))
        rw [marksG_step xs m (by rw [H.out]; exact hlt)] at ho2
        have X := hide hxk; clear hxk
        have G := hide hget; clear hget
        go_wp2_with fail
        go_roundw
        case rel => exact ⟨k + 1, by omega, by go_num, by go_num, ho2, grown_set (grown_set hb _ _) _ _⟩
        case measure => simp [intOf]; omega
      · have e : k = n := by omega
        subst e
        go_wp2_with fail
        go_ret
        rw [List.drop_of_length_le (by rw [H.out]; omega), List.append_nil] at ho
        exact ⟨rfl, ho, hb⟩

set_option maxRecDepth 100000 in
set_option maxHeartbeats 800000 in
theorem l9Gaps_any (v : Value) (p : List (List Ins)) (w : World) (hp : RepP w v p) (hl : p.flatten.length ≤ 1048576) :
    Calls Try.prog 98 #[v] w (RetOwn GapE 70 w (gapsP p)) := by
  obtain ⟨a, c, rfl, hc1, hc2, hc3, hp⟩ := hp.open
  have HP := hide hp; clear hp
  have HL := hide hl; clear hl
  have PP : Hid (gapsP p = gapsTo p p.length) := hide rfl
  have HGL := hide (gapsTo_length p)
  generalize hn : p.length = n at *
  have H := hide hn; clear hn
  go_enter Try.func98, Try.ntmps98
  go_wp2_with fail
  go_loopw [3, 4] (fun s i wr => ∃ j : Nat, j ≤ n ∧ i = .int .i64 j ∧ OwnG wr w.heap.size s (gapsTo p j) ∧ Below w.heap.size w wr) (fun _ i _ => n - (intOf i).toNat)
  case atStart => exact ⟨0, by omega, rfl, Own.empty _ w (Nat.le_refl _), (Below.refl _ _).alloc (Nat.le_refl _) _⟩
  case round =>
    obtain ⟨j, hj, rfl, hown, hb2⟩ := hrel
    by_cases hlt2 : j < n
    · obtain ⟨wm, rfl⟩ : ∃ wm : World, wm = wr := ⟨_, rfl⟩
      obtain ⟨x, hxk⟩ := get_of_lt (xs := p) (k := j) (by rw [H.out]; exact hlt2)
      obtain ⟨b, o, ra, rc, rfl, hbl, i0, i1⟩ := HP.out.row hxk
      have IW := hide i0
      have i0 := (hb2.cell (p := ⟨b, o + j, none⟩) hbl).trans i0
      have hlt2' := nat_of_lt hlt2
      have GS := hide (gapsTo_succ hxk)
      have hgl := Nat.le_trans (HGL.out j hj) (Nat.le_trans (flatten_take_le p j) HL.out)
      have hxl := Nat.le_trans (row_le_flatten hxk) HL.out
      have I1 := hide i1; have X := hide hxk
      clear i1 hxk
      generalize hG : gapsTo p j = G at *
      clear hG
      have HO := hide hown; clear hown
      go_wp2_with fail
      go_loopw [3, 5] (fun s i wr => ∃ t : Nat, (t + 1 ≤ x.length ∨ t = 0) ∧ i = .int .i64 ((t : Int) + 1) ∧ OwnG wr w.heap.size s (G ++ rowGaps j x (t + 1)) ∧ Below w.heap.size w wr) (fun _ i _ => x.length - (intOf i).toNat)
      case atStart => exact ⟨0, .inr rfl, rfl, by rw [rowGaps_one, List.append_nil]; exact HO.out, hb2⟩
      case round =>
        obtain ⟨t, ht, rfl, hown, hb3⟩ := hrel
        have i0w := (hb3.cell (p := ⟨b, o + j, none⟩) hbl).trans IW.out
        by_cases hlt3 : t + 1 < x.length
        · obtain ⟨y, hyk⟩ := get_of_lt (xs := x) (k := t) (by omega)
          obtain ⟨z, hzk⟩ := get_of_lt (xs := x) (k := t + 1) hlt3
          obtain ⟨b', o', rfl, hbl', j0, j1, j2, j3⟩ := (I1.out.below hb3).ins hyk
          obtain ⟨b'', o'', e1, hbl'', k0, k1, k2, k3⟩ := (I1.out.below hb3).ins hzk
          simp only [Option.some.injEq, Addr.mk.injEq, and_true] at e1
          obtain ⟨rfl, rfl⟩ := e1
          have hlt3' : (t : Int) + 1 < x.length := by omega
          have ST := hide (rowGaps_step (t := j) hyk hzk)
          have hrl := rowGaps_length j x (t + 1)
          have YK := hide hyk; have ZK := hide hzk
          clear hyk hzk hbl''
          generalize hRG : rowGaps j x (t + 1) = RG at *
          clear hRG
          have hlen : (G ++ RG).length ≤ 68719476736 := by rw [List.length_append]; omega
          by_cases hy : y.op = 4
          · have g4 : (y.op != 4) = false := by simp [hy]
            have ST2 : Hid (rowGaps j x (t + 1 + 1) = RG) := hide (by have h := ST.out; rw [g4] at h; simpa using h)
            clear hy
            go_wp2_with fail
            go_roundw
            case rel => exact ⟨t + 1, by omega, by go_num, by rw [ST2.out]; exact hown, hb3⟩
            case measure => simp [intOf]; omega
          · have g4 : (y.op != 4) = true := by simp [hy]
            clear hy
            by_cases hz : z.op = 4
            · have g5 : (z.op != 4) = false := by simp [hz]
              have ST2 : Hid (rowGaps j x (t + 1 + 1) = RG) := hide (by have h := ST.out; rw [g4, g5] at h; simpa using h)
              clear hz
              go_wp2_with fail
              go_roundw
              case rel => exact ⟨t + 1, by omega, by go_num, by rw [ST2.out]; exact hown, hb3⟩
              case measure => simp [intOf]; omega
            · have g5 : (z.op != 4) = true := by simp [hz]
              have ST2 : Hid (rowGaps j x (t + 1 + 1) = RG ++ [⟨(j : Int), (t : Int) + 1⟩]) := hide (by have h := ST.out; rw [g4, g5] at h; simpa using h)
              clear hz
              go_wp2_with (at_builtin; refine wpList_app GapE 70 Try.infoGap rfl Try.underlying54 w.heap.size _ _ ⟨(j : Int), (t : Int) + 1⟩ (hown.alloc _) (by decide) hlen (by simp; have := hb3.size; omega) rfl _ _ rfl rfl wr.heap.size 0 1 rfl news_alloc ?_; intro v' w1 hown1 hgr1)
              have hb4 := below_app hb3 hown hgr1
              go_roundw
              case rel => exact ⟨t + 1, by omega, by go_num, by rw [ST2.out, ← List.append_assoc]; exact hown1, hb4⟩
              case measure => simp [intOf]; omega
        · have e : rowGaps j x (t + 1) = rowGaps j x x.length := by
            rcases ht with h | h
            · rw [show t + 1 = x.length by omega]
            · subst h
              rw [rowGaps_one]
              by_cases h0 : x.length = 0
              · rw [h0, rowGaps_zero]
              · rw [show x.length = 1 by omega, rowGaps_one]
          rw [e] at hown
          have hlt3' : (x.length : Int) ≤ (t : Int) + 1 := by omega
          go_wp2_with fail
          go_roundw
          case rel => exact ⟨j + 1, by omega, by go_num, by rw [GS.out]; exact hown, hb3⟩
          case measure => simp [intOf]; omega
    · have e : j = n := by omega
      go_wp2_with fail
      go_ret
      rw [PP.out, ← e]
      exact ⟨_, rfl, hown, hb2⟩

end Go.Proofs.Ytpnmphfdfadlcaa
