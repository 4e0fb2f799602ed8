/-
  slices.Index, Contains and ContainsFunc on gaps, and the reference's l9Has. No condition.
-/
import Derived.Test.YtpnmphfdfadlcaaF8
import Derived.Test.YtpnmphfdfadlcaaP25
namespace Go.Proofs.Ytpnmphfdfadlcaa
open Go.RowKit

/-- The place of the first element of which f says yes, or -1. -/
def IdxOfG (f : Gp → Bool) (xs : List Gp) (q : Int) : Prop := (q = -1 ∧ ∀ x ∈ xs, f x = false) ∨ ∃ (t : Nat) (x : Gp), q = t ∧ xs[t]? = some x ∧ f x = true

theorem none_succG {f : Gp → Bool} {xs : List Gp} {t : Nat} {x : Gp} (h : ∀ y ∈ xs.take t, f y = false) (hx : xs[t]? = some x) (hf : f x = false) : ∀ y ∈ xs.take (t + 1), f y = false := by
  intro y hy
  rw [List.take_add_one, hx] at hy
  simp at hy
  rcases hy with hy | rfl
  · exact h y hy
  · exact hf

theorem IdxOfG.any {f : Gp → Bool} {xs : List Gp} {q : Int} (h : IdxOfG f xs q) : decide (0 ≤ q) = xs.any f := by
  rcases h with ⟨rfl, h⟩ | ⟨t, x, rfl, hx, hf⟩
  · have : xs.any f = false := by rw [List.any_eq_false]; intro x hx; rw [h x hx]; simp
    rw [this]; rfl
  · have : xs.any f = true := List.any_eq_true.2 ⟨x, List.mem_of_getElem? hx, hf⟩
    rw [this]; simp

theorem any_eq_in (L : List Gp) (x : Gp) : L.any (fun y => decide (x = y)) = inL L x := by
  unfold inL
  rw [Bool.eq_iff_iff]
  simp

set_option maxHeartbeats 800000 in
theorem IndexG_any (v : Value) (xs : List Gp) (x : Gp) (w : World) (hx : Rep GapE w v xs) :
    Calls Try.prog 176 #[v, x.v] w fun e w' => (∃ q : Int, e = .returned (.int .i64 q) ∧ IdxOfG (fun y => decide (x = y)) xs q) ∧ Below w.heap.size w w' := by
  obtain ⟨a, c, rfl, hc1, hc2, hc3, hx⟩ := hx.open
  have HB0 := hide ((Below.refl w.heap.size w).alloc (Nat.le_refl _) (.cells #[.int .i64 x.t, .int .i64 x.i] 70))
  have HX := hide (hx.below HB0.out); clear hx
  generalize hn : xs.length = n at *
  have H := hide hn; clear hn
  obtain ⟨x0, x1⟩ := x
  have hb0 : w.heap.size < (w.alloc (.cells #[.int .i64 x0, .int .i64 x1] 70)).heap.size := by simp
  have k0 : (w.alloc (.cells #[.int .i64 x0, .int .i64 x1] 70)).cell? ⟨w.heap.size, 0, none⟩ = some (.int .i64 x0) := by simp [go_sem]
  have k1 : (w.alloc (.cells #[.int .i64 x0, .int .i64 x1] 70)).cell? ⟨w.heap.size, 1, none⟩ = some (.int .i64 x1) := by simp [go_sem]
  go_enter Try.func176, Try.ntmps176
  go_wp2_with fail
  generalize hW : w.alloc (.cells #[.int .i64 x0, .int .i64 x1] 70) = W at *
  generalize hG : w.heap.size = g at *
  have BG : Hid (∀ w', Below g w w' → Below w.heap.size w w') := hide (fun w' h => by rw [hG]; exact h)
  clear hG
  go_loopw [8] (fun i wr => ∃ t : Nat, t ≤ n ∧ i = .int .i64 t ∧ Hid (∀ y ∈ xs.take t, decide ((⟨x0, x1⟩ : Gp) = y) = false) ∧ Below W.heap.size W wr) (fun i _ => n - (intOf i).toNat)
  case atStart => exact ⟨0, Nat.zero_le _, rfl, hide (by simp), Below.refl _ _⟩
  case round =>
    obtain ⟨t, ht, rfl, hno, hb⟩ := hrel
    have kk0 := (hb.cell (p := ⟨g, 0, none⟩) hb0).trans k0
    have kk1 := (hb.cell (p := ⟨g, 1, none⟩) hb0).trans k1
    have hgr : g < wr.heap.size := Nat.lt_of_lt_of_le hb0 hb.size
    by_cases hlt : t < n
    · obtain ⟨y, hyk⟩ := get_of_lt (xs := xs) (k := t) (by rw [H.out]; exact hlt)
      obtain ⟨b, o, rfl, hbl, i0, i1⟩ := (HX.out.below hb).gap hyk
      have hlt' := nat_of_lt hlt
      have Y := hide hyk; clear hyk
      obtain ⟨y0, y1⟩ := y
      simp only at i0 i1
      by_cases hxy : x0 = y0 ∧ x1 = y1
      · obtain ⟨rfl, rfl⟩ := hxy
        go_wp2_with fail
        refine wp_region_bw (by kernel_rfl) (by kernel_rfl) ?_
        repeat (go_big_quiet_step (fail))
        refine wpQuiet_nil ?_
        intro w1 hb1
        go_wp2_with fail
        go_ret
        exact ⟨⟨_, rfl, .inr ⟨t, _, rfl, Y.out, by simp⟩⟩, BG.out _ (HB0.out.trans ((hb.trans (hb1.mono hb.size)).mono (Nat.le_of_lt hb0)))⟩
      · have NO : Hid (∀ y ∈ xs.take (t + 1), decide ((⟨x0, x1⟩ : Gp) = y) = false) := hide (none_succG hno.out Y.out (by simpa using hxy))
        by_cases h0 : x0 = y0
        · subst h0
          have g1 : (x1 == y1) = false := by simp; exact fun e => hxy ⟨rfl, e⟩
          clear hxy
          go_wp2_with fail
          refine wp_region_bw (by kernel_rfl) (by kernel_rfl) ?_
          repeat (go_big_quiet_step (fail))
          refine wpQuiet_nil ?_
          intro w1 hb1
          go_wp2_with fail
          go_roundw
          case rel => exact ⟨t + 1, by omega, by go_num, NO, hb.trans (hb1.mono hb.size)⟩
          case measure => simp [intOf]; omega
        · have g0 : (x0 == y0) = false := by simp [h0]
          clear hxy h0
          go_wp2_with fail
          refine wp_region_bw (by kernel_rfl) (by kernel_rfl) ?_
          repeat (go_big_quiet_step (fail))
          refine wpQuiet_nil ?_
          intro w1 hb1
          go_wp2_with fail
          go_roundw
          case rel => exact ⟨t + 1, by omega, by go_num, NO, hb.trans (hb1.mono hb.size)⟩
          case measure => simp [intOf]; omega
    · go_wp2_with fail
      go_ret
      refine ⟨⟨_, rfl, .inl ⟨rfl, ?_⟩⟩, BG.out _ (HB0.out.trans (hb.mono (Nat.le_of_lt hb0)))⟩
      have h := hno.out
      rwa [List.take_of_length_le (by rw [H.out]; omega)] at h

set_option maxHeartbeats 400000 in
theorem ContainsG_any (v : Value) (xs : List Gp) (x : Gp) (w : World) (hx : Rep GapE w v xs) :
    Calls Try.prog 106 #[v, x.v] w fun e w' => e = .returned (.bool (inL xs x)) ∧ Below w.heap.size w w' := by
  have HB0 := hide ((Below.refl w.heap.size w).alloc (Nat.le_refl _) (.cells #[.int .i64 x.t, .int .i64 x.i] 70))
  have HI := hide (IndexG_any v xs x _ (hx.below HB0.out))
  have E0 := hide (any_eq_in xs x)
  obtain ⟨a, c, rfl, -⟩ := hx.open
  clear hx
  obtain ⟨x0, x1⟩ := x
  simp only at HI HB0
  go_enter Try.func106, Try.ntmps106
  go_wp2_with fail
  (with_reducible refine HI.out.mono ?_); rintro e w1 ⟨⟨q, rfl, hq⟩, hb1⟩
  have E : Hid (decide (0 ≤ q) = inL xs ⟨x0, x1⟩) := hide (hq.any.trans E0.out)
  clear hq
  go_wp2_with fail
  all_goals go_ret
  all_goals refine ⟨?_, HB0.out.trans (hb1.mono HB0.out.size)⟩
  all_goals rw [← E.out]
  all_goals simp_all

/-- What the function value that tests a gap does, wherever it is called as long as what lay in w0 is as it was. -/
def TestsPF (a1 : Addr) (f : Gp → Bool) (w0 : World) : Prop := ∀ (x : Gp) (w : World), Below w0.heap.size w0 w → Calls Try.prog 105 #[.agg #[.int .i64 x.t, .int .i64 x.i], .pointer (some a1)] w fun e w' => e = .returned (.bool (f x)) ∧ Below w.heap.size w w'

set_option maxHeartbeats 400000 in
theorem IndexFunc_pf (a1 : Addr) (v : Value) (xs : List Gp) (f : Gp → Bool) (w : World) (hx : Rep GapE w v xs) (hf : TestsPF a1 f w) :
    Calls Try.prog 175 #[v, .func (.func 105) #[] #[.pointer (some a1)]] w fun e w' => (∃ q : Int, e = .returned (.int .i64 q) ∧ IdxOfG f xs q) ∧ Below w.heap.size w w' := by
  obtain ⟨a, c, rfl, hc1, hc2, hc3, hx⟩ := hx.open
  have HX := hide hx; clear hx
  have HF := hide hf; clear hf
  generalize hn : xs.length = n at *
  have H := hide hn; clear hn
  go_enter Try.func175, Try.ntmps175
  go_wp2_with fail
  go_loopw [8] (fun i wr => ∃ t : Nat, t ≤ n ∧ i = .int .i64 t ∧ Hid (∀ x ∈ xs.take t, f x = false) ∧ Below w.heap.size w wr) (fun i _ => n - (intOf i).toNat)
  case atStart => exact ⟨0, Nat.zero_le _, rfl, hide (by simp), Below.refl _ _⟩
  case round =>
    obtain ⟨t, ht, rfl, hno, hb⟩ := hrel
    by_cases hlt : t < n
    · obtain ⟨x, hxk⟩ := get_of_lt (xs := xs) (k := t) (by rw [H.out]; exact hlt)
      obtain ⟨b, o, rfl, hbl, i0, i1⟩ := (HX.out.below hb).gap hxk
      have hlt' := nat_of_lt hlt
      have X := hide hxk; clear hxk
      generalize hfx : f x = fx
      have FX := hide hfx; clear hfx
      have hcall := HF.out x _ hb
      rw [FX.out] at hcall
      have HC := hide hcall; clear hcall
      cases fx
      · have NO : Hid (∀ x ∈ xs.take (t + 1), f x = false) := hide (none_succG hno.out X.out FX.out)
        go_wp2_with fail
        (with_reducible refine HC.out.mono ?_); rintro e w2 ⟨rfl, hb2⟩
        go_wp2_with fail
        go_roundw
        case rel => exact ⟨t + 1, by omega, by go_num, NO, hb.trans (hb2.mono hb.size)⟩
        case measure => simp [intOf]; omega
      · go_wp2_with fail
        (with_reducible refine HC.out.mono ?_); rintro e w2 ⟨rfl, hb2⟩
        go_wp2_with fail
        go_ret
        exact ⟨⟨_, rfl, .inr ⟨t, x, rfl, X.out, FX.out⟩⟩, hb.trans (hb2.mono hb.size)⟩
    · go_wp2_with fail
      go_ret
      refine ⟨⟨_, rfl, .inl ⟨rfl, ?_⟩⟩, hb⟩
      have h := hno.out
      rwa [List.take_of_length_le (by rw [H.out]; omega)] at h

theorem ContainsFunc_pf (a1 : Addr) (v : Value) (xs : List Gp) (f : Gp → Bool) (w : World) (hx : Rep GapE w v xs) (hf : TestsPF a1 f w) :
    Calls Try.prog 104 #[v, .func (.func 105) #[] #[.pointer (some a1)]] w fun e w' => e = .returned (.bool (xs.any f)) ∧ Below w.heap.size w w' := by
  have HI := hide (IndexFunc_pf a1 v xs f w hx hf)
  obtain ⟨a, c, rfl, -⟩ := hx.open
  clear hx hf
  go_enter Try.func104, Try.ntmps104
  go_wp2_with fail
  (with_reducible refine HI.out.mono ?_); rintro e w1 ⟨⟨q, rfl, hq⟩, hb1⟩
  have E : Hid (decide (0 ≤ q) = xs.any f) := hide hq.any
  clear hq
  go_wp2_with fail
  all_goals go_ret
  all_goals refine ⟨?_, hb1⟩
  all_goals rw [← E.out]
  all_goals simp_all

set_option maxHeartbeats 400000 in
/-- The test of PutFences: a gap that is not there. -/
theorem testPF (g : Nat) (v : Value) (all : List Gp) (w : World) (hg : g < w.heap.size) (hc : w.cell? ⟨g, 0, none⟩ = some v) (hx : Rep GapE w v all) : TestsPF ⟨g, 0, none⟩ (fun x => !inL all x) w := by
  intro x w2 hb
  have hc2 := (hb.cell (p := ⟨g, 0, none⟩) hg).trans hc
  have hg2 := Nat.lt_of_lt_of_le hg hb.size
  have HB0 := hide ((Below.refl w2.heap.size w2).alloc (Nat.le_refl _) (.cells #[.int .i64 x.t, .int .i64 x.i] 70))
  have HI := hide (ContainsG_any v all x _ ((hx.below hb).below HB0.out))
  obtain ⟨a, c, rfl, -⟩ := hx.open
  clear hx hc hb
  obtain ⟨x0, x1⟩ := x
  obtain ⟨r, hr⟩ : ∃ r, inL all ⟨x0, x1⟩ = r := ⟨_, rfl⟩
  simp only at HI HB0
  rw [hr] at HI
  have R := hide hr
  clear hr
  go_enter Try.func105, Try.ntmps105
  go_wp2_with fail
  (with_reducible refine HI.out.mono ?_); rintro e w1 ⟨rfl, hb1⟩
  go_wp2_with fail
  go_ret
  exact ⟨by show _ = Ending.returned (.bool (!inL all ⟨x0, x1⟩)); rw [R.out]; rfl, HB0.out.trans (hb1.mono HB0.out.size)⟩

set_option maxHeartbeats 800000 in
theorem l9Has_any (v : Value) (xs : List Gp) (x : Gp) (w : World) (hx : Rep GapE w v xs) :
    Calls Try.prog 99 #[v, x.v] w fun e w' => e = .returned (.bool (inL xs x)) ∧ Below w.heap.size w w' := by
  have HB0 := hide ((Below.refl w.heap.size w).alloc (Nat.le_refl _) (.cells #[.int .i64 x.t, .int .i64 x.i] 70))
  have E0 := hide (any_eq_in xs x)
  obtain ⟨a, c, rfl, hc1, hc2, hc3, hx⟩ := hx.open
  have HX := hide (hx.below HB0.out); clear hx
  generalize hn : xs.length = n at *
  have H := hide hn; clear hn
  obtain ⟨x0, x1⟩ := x
  have hb0 : w.heap.size < (w.alloc (.cells #[.int .i64 x0, .int .i64 x1] 70)).heap.size := by simp
  have k0 : (w.alloc (.cells #[.int .i64 x0, .int .i64 x1] 70)).cell? ⟨w.heap.size, 0, none⟩ = some (.int .i64 x0) := by simp [go_sem]
  have k1 : (w.alloc (.cells #[.int .i64 x0, .int .i64 x1] 70)).cell? ⟨w.heap.size, 1, none⟩ = some (.int .i64 x1) := by simp [go_sem]
  go_enter Try.func99, Try.ntmps99
  go_wp2_with fail
  generalize hW : w.alloc (.cells #[.int .i64 x0, .int .i64 x1] 70) = W at *
  generalize hG : w.heap.size = g at *
  have BG : Hid (∀ w', Below g w w' → Below w.heap.size w w') := hide (fun w' h => by rw [hG]; exact h)
  clear hG
  go_loopw [5] (fun i wr => ∃ t : Nat, t ≤ n ∧ i = .int .i64 t ∧ Hid (∀ y ∈ xs.take t, decide ((⟨x0, x1⟩ : Gp) = y) = false) ∧ Below W.heap.size W wr) (fun i _ => n - (intOf i).toNat)
  case atStart => exact ⟨0, Nat.zero_le _, rfl, hide (by simp), Below.refl _ _⟩
  case round =>
    obtain ⟨t, ht, rfl, hno, hb⟩ := hrel
    have kk0 := (hb.cell (p := ⟨g, 0, none⟩) hb0).trans k0
    have kk1 := (hb.cell (p := ⟨g, 1, none⟩) hb0).trans k1
    have hgr : g < wr.heap.size := Nat.lt_of_lt_of_le hb0 hb.size
    by_cases hlt : t < n
    · obtain ⟨y, hyk⟩ := get_of_lt (xs := xs) (k := t) (by rw [H.out]; exact hlt)
      obtain ⟨b, o, rfl, hbl, i0, i1⟩ := (HX.out.below hb).gap hyk
      have hlt' := nat_of_lt hlt
      have Y := hide hyk; clear hyk
      obtain ⟨y0, y1⟩ := y
      simp only at i0 i1
      by_cases hxy : x0 = y0 ∧ x1 = y1
      · obtain ⟨rfl, rfl⟩ := hxy
        have E : Hid (inL xs ⟨x0, x1⟩ = true) := hide (by unfold inL; exact decide_eq_true (List.mem_of_getElem? Y.out))
        go_wp2_with fail
        refine wp_region_bw (by kernel_rfl) (by kernel_rfl) ?_
        repeat (go_big_quiet_step (fail))
        refine wpQuiet_nil ?_
        intro w1 hb1
        go_wp2_with fail
        go_ret
        exact ⟨by rw [E.out]; rfl, BG.out _ (HB0.out.trans ((hb.trans (hb1.mono hb.size)).mono (Nat.le_of_lt hb0)))⟩
      · have NO : Hid (∀ y ∈ xs.take (t + 1), decide ((⟨x0, x1⟩ : Gp) = y) = false) := hide (none_succG hno.out Y.out (by simpa using hxy))
        by_cases h0 : y0 = x0
        · subst h0
          have g1 : (y1 == x1) = false := by simp; exact fun e => hxy ⟨rfl, e.symm⟩
          clear hxy
          go_wp2_with fail
          refine wp_region_bw (by kernel_rfl) (by kernel_rfl) ?_
          repeat (go_big_quiet_step (fail))
          refine wpQuiet_nil ?_
          intro w1 hb1
          go_wp2_with fail
          go_roundw
          case rel => exact ⟨t + 1, by omega, by go_num, NO, hb.trans (hb1.mono hb.size)⟩
          case measure => simp [intOf]; omega
        · have g0 : (y0 == x0) = false := by simp [h0]
          clear hxy h0
          go_wp2_with fail
          refine wp_region_bw (by kernel_rfl) (by kernel_rfl) ?_
          repeat (go_big_quiet_step (fail))
          refine wpQuiet_nil ?_
          intro w1 hb1
          go_wp2_with fail
          go_roundw
          case rel => exact ⟨t + 1, by omega, by go_num, NO, hb.trans (hb1.mono hb.size)⟩
          case measure => simp [intOf]; omega
    · have h := hno.out
      rw [List.take_of_length_le (by rw [H.out]; omega)] at h
      have E : Hid (inL xs ⟨x0, x1⟩ = false) := hide (by rw [← E0.out, List.any_eq_false]; intro y hy; rw [h y hy]; simp)
      clear h
      go_wp2_with fail
      go_ret
      exact ⟨by rw [E.out]; rfl, BG.out _ (HB0.out.trans (hb.mono (Nat.le_of_lt hb0)))⟩

theorem putPT_take {f : Gp → Bool} {p : List (List Ins)} {j : Nat} {r : List Ins} (h : p[j]? = some r) : putPT f p (j + 1) = putPT f p j ++ [putI (fun i => f ⟨j, i⟩) r] := putPT_succ h

set_option maxRecDepth 100000 in
set_option maxHeartbeats 1600000 in
theorem l9Put_any (v v2 : Value) (p : List (List Ins)) (L : List Gp) (w : World) (hp : RepP w v p) (hL : Rep GapE w v2 L) (hl : p.length ≤ 1048576) (hl2 : ∀ r ∈ p, r.length ≤ 1048576) :
    Calls Try.prog 100 #[v, v2] w (RetOwn2 InsE 73 72 w (putP (inL L) p)) := by
  obtain ⟨a, c, rfl, hc1, hc2, hc3, hp⟩ := hp.open
  obtain ⟨a2, c2, rfl, hd1, hd2, hd3, hL⟩ := hL.open
  have HP := hide hp; clear hp
  have HL := hide (fun w' (hb : Below w.heap.size w w') x => l9Has_any (.slice a2 L.length c2) L x w' (hL.below hb))
  have HL2 := hide hl2; clear hl2 hL
  have PP : Hid (putP (inL L) p = putPT (inL L) p p.length) := hide rfl
  generalize L.length = m at *
  have HPL := hide (putPT_length (inL L) p)
  generalize hn : p.length = n at *
  have H := hide hn; clear hn
  go_enter Try.func100, Try.ntmps100
  go_wp2_with fail
  go_loopw [5, 6] (fun s i wr => ∃ j : Nat, j ≤ n ∧ i = .int .i64 j ∧ OwnP wr w.heap.size s (putPT (inL L) p j) ∧ Below w.heap.size w wr) (fun _ i _ => n - (intOf i).toNat)
  case atStart => exact ⟨0, by omega, rfl, Own2.empty _ _ w (Nat.le_refl _), (Below.refl _ _).alloc (Nat.le_refl _) _⟩
  case round =>
    obtain ⟨j, hj, rfl, ho, hb⟩ := hrel
    by_cases hlt : j < n
    · obtain ⟨wm, rfl⟩ : ∃ wm : World, wm = wr := ⟨_, rfl⟩
      obtain ⟨x, hxk⟩ := get_of_lt (xs := p) (k := j) (by rw [H.out]; exact hlt)
      obtain ⟨b, o, ra, rc, rfl, hbl, i0, i1⟩ := HP.out.row hxk
      have hlt' := nat_of_lt hlt
      have hxl := HL2.out x (List.mem_of_getElem? hxk)
      have DS := hide (putPT_succ (f := inL L) hxk)
      have hdl : (putPT (inL L) p j).length ≤ 1048576 := by rw [HPL.out j hj]; omega
      have IW := hide i0; have I1 := hide i1; have X := hide hxk
      have i0 := (hb.cell (p := ⟨b, o + j, none⟩) hbl).trans i0
      clear hxk i1
      generalize hD : putPT (inL L) p j = D at *
      clear hD
      obtain ⟨us, hU, -⟩ := ho.told
      have HU := hide hU; have HO := hide ho
      clear hU ho
      go_wp2_with fail
      go_loopw [7, 8] (fun s i wr => ∃ t : Nat, t ≤ x.length ∧ i = .int .i64 t ∧ OwnI wr wm.heap.size s (putTo (fun i => inL L ⟨j, i⟩) x t) ∧ Below wm.heap.size wm wr) (fun _ i _ => x.length - (intOf i).toNat)
      case atStart => exact ⟨0, by omega, rfl, Own.empty _ wm (Nat.le_refl _), (Below.refl _ _).alloc (Nat.le_refl _) _⟩
      case round =>
        obtain ⟨t, ht, rfl, hr, hb3⟩ := hrel
        have hbw := hb.trans (hb3.mono hb.size)
        have i0w := (hbw.cell (p := ⟨b, o + j, none⟩) hbl).trans IW.out
        by_cases hlt3 : t < x.length
        · obtain ⟨y, hyk⟩ := get_of_lt (xs := x) (k := t) hlt3
          have hlt3' := nat_of_lt hlt3
          have ST := hide (putTo_succ (f := fun i => inL L ⟨j, i⟩) hyk)
          have hil : (putTo (fun i => inL L ⟨j, i⟩) x t).length ≤ 2 * 1048576 := by have := (putTo_le (fun i => inL L ⟨j, i⟩) x t ht).2; omega
          have Y := hide hyk; clear hyk
          obtain ⟨r, hr0⟩ : ∃ r, inL L ⟨(j : Int), (t : Int)⟩ = r := ⟨_, rfl⟩
          have HC := HL.out wr hbw ⟨j, t⟩
          rw [hr0] at HC
          have HC := hide HC
          have R := hide hr0
          clear hr0
          generalize hI : putTo (fun i => inL L ⟨j, i⟩) x t = LL at *
          clear hI
          cases r
          · have ST2 : Hid (putTo (fun i => inL L ⟨j, i⟩) x (t + 1) = LL ++ [y]) := hide (by have h := ST.out; rw [if_neg (by rw [R.out]; simp)] at h; exact h)
            clear ST
            go_wp2_with fail
            (with_reducible refine HC.out.mono ?_); rintro e w2 ⟨rfl, hb2⟩
            have hb4 := hb3.trans (hb2.mono hb3.size)
            have hbw2 := hb.trans (hb4.mono hb.size)
            have i0w2 := (hbw2.cell (p := ⟨b, o + j, none⟩) hbl).trans IW.out
            have hbl2 := Nat.lt_of_lt_of_le hbl hbw2.size
            obtain ⟨b', o', rfl, hbl', j0, j1, j2, j3⟩ := (I1.out.below hbw2).ins Y.out
            have hr2 := hr.below hb2
            go_wp2_with (at_builtin; refine wpList_app InsE 72 Try.infoIns rfl Try.underlying73 wm.heap.size _ LL y (hr2.alloc _) (by decide) (by omega) (by have := hb4.size; simp; omega) rfl _ _ rfl rfl w2.heap.size 0 1 rfl news_alloc ?_; intro v' w3 hown1 hgr1)
            have hb5 := below_app hb4 hr2 hgr1
            go_roundw
            case rel => exact ⟨t + 1, by omega, by go_num, by rw [ST2.out]; exact hown1, hb5⟩
            case measure => simp [intOf]; omega
          · have ST2 : Hid (putTo (fun i => inL L ⟨j, i⟩) x (t + 1) = (LL ++ [fenceI]) ++ [y]) := hide (by have h := ST.out; rw [if_pos (by rw [R.out])] at h; rw [h]; simp)
            clear ST
            go_wp2_with fail
            (with_reducible refine HC.out.mono ?_); rintro e w2 ⟨rfl, hb2⟩
            have hb4 := hb3.trans (hb2.mono hb3.size)
            have hr2 := hr.below hb2
            go_wp2_with (first
              | (at_builtin; refine wpList_app InsE 72 Try.infoIns rfl Try.underlying73 wm.heap.size _ LL fenceI (hr2.alloc _) (by decide) (by omega) (by have := hb4.size; simp; omega) rfl (.tmp 31) (.tmp 33) rfl rfl w2.heap.size 0 1 rfl news_alloc ?_; intro v' w3 hown1 hgr1; have hb5 := below_app hb4 hr2 hgr1; have hbw2 := hb.trans (hb5.mono hb.size); have i0w2 := (hbw2.cell (p := ⟨b, o + j, none⟩) hbl).trans IW.out; have hbl2 := Nat.lt_of_lt_of_le hbl hbw2.size; obtain ⟨b', o', rfl, hbl', j0, j1, j2, j3⟩ := (I1.out.below hbw2).ins Y.out; clear hbw2)
              | (at_builtin; refine wpList_app InsE 72 Try.infoIns rfl Try.underlying73 wm.heap.size _ (LL ++ [fenceI]) y (hown1.alloc _) (by decide) (by rw [List.length_append]; simp; omega) (by have := hb5.size; simp; omega) rfl (.tmp 35) (.tmp 43) rfl rfl w3.heap.size 0 1 rfl news_alloc ?_; intro v'' w4 hown2 hgr2))
            have hb6 := below_app hb5 hown1 hgr2
            go_roundw
            case rel => exact ⟨t + 1, by omega, by go_num, by rw [ST2.out]; exact hown2, hb6⟩
            case measure => simp [intOf]; omega
        · have e : t = x.length := by omega
          rw [e] at hr
          replace hr : OwnI wr wm.heap.size _ (putI (fun i => inL L ⟨j, i⟩) x) := hr
          obtain ⟨s, rfl, -⟩ := hr.toSlc
          have hub : us.length ≤ 68719476736 := by have := HU.out.1; omega
          go_wp2_with (at_builtin; refine wpList_app SlcE 73 Try.infoInsS rfl Try.underlying34 w.heap.size _ us s ((HU.out.2.1.below hb3).alloc _) (by decide) hub (by simp; have := hb.size; have := hb3.size; omega) rfl _ _ rfl rfl wr.heap.size 0 1 rfl news_alloc ?_; intro v' w3 hown3 hgr3)
          have ho2 := (HU.out).app (by decide) (hb3.trans ((Below.refl _ _).alloc hb3.size _)) hb.size (hr.alloc _) hown3 hgr3
          rw [← DS.out] at ho2
          have hb5 := below_app hbw (HU.out.2.1.below hb3) hgr3
          go_roundw
          case rel => exact ⟨j + 1, by omega, by go_num, ho2, hb5⟩
          case measure => simp [intOf]; omega
    · go_wp2_with fail
      go_ret
      rw [PP.out, show n = j by omega]
      exact ⟨_, rfl, ho, hb⟩

end Go.Proofs.Ytpnmphfdfadlcaa
