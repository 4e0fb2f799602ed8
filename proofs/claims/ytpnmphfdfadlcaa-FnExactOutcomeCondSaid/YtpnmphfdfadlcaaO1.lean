/-
  The tests of the program's said: a register that is read, a location that is written. No condition.
-/
import Derived.Test.YtpnmphfdfadlcaaF3
import Derived.Test.YtpnmphfdfadlcaaN2
namespace Go.Proofs.Ytpnmphfdfadlcaa
open Go.RowKit

/-- What the function value does, wherever it is called as long as what lay in w0 is as it was. -/
def TestsR (a1 : Addr) (f : Ins → Bool) (w0 : World) : Prop := ∀ (x : Ins) (w : World), Below w0.heap.size w0 w → Calls Try.prog 186 #[.agg #[.int .i64 x.op, .int .i64 x.loc, .int .i64 x.reg, .int .i64 x.val], .pointer (some a1)] w fun e w' => e = .returned (.bool (f x)) ∧ Below w.heap.size w w'

set_option maxHeartbeats 400000 in
theorem IndexFuncR (a1 : Addr) (v : Value) (xs : List (Ins)) (f : Ins → Bool) (w : World) (hx : Rep InsE w v xs) (hf : TestsR a1 f w) :
    Calls Try.prog 194 #[v, .func (.func 186) #[] #[.pointer (some a1)]] w fun e w' => (∃ q : Int, e = .returned (.int .i64 q) ∧ IdxOf f xs q) ∧ Below w.heap.size w w' := by
  obtain ⟨a, c, rfl, hc1, hc2, hc3, hx⟩ := hx.open
  have HX := hide hx; clear hx
  have HF := hide hf; clear hf
  generalize hn : xs.length = n at *
  have H := hide hn; clear hn
  go_enter Try.func194, Try.ntmps194
  go_wp2_with fail
  go_loopw [8] (fun i wr => ∃ t : Nat, t ≤ n ∧ i = .int .i64 t ∧ Hid (∀ x ∈ xs.take t, f x = false) ∧ Below w.heap.size w wr) (fun i _ => n - (intOf i).toNat)
  case atStart => exact ⟨0, Nat.zero_le _, rfl, hide (by simp), Below.refl _ _⟩
  case round =>
    obtain ⟨t, ht, rfl, hno, hb⟩ := hrel
    by_cases hlt : t < n
    · obtain ⟨x, hxk⟩ := get_of_lt (xs := xs) (k := t) (by rw [H.out]; exact hlt)
      obtain ⟨b, o, rfl, hbl, i0, i1, i2, i3⟩ := (HX.out.below hb).ins hxk
      have hlt' := nat_of_lt hlt
      have X := hide hxk; clear hxk
      generalize hfx : f x = fx
      have FX := hide hfx; clear hfx
      have hcall := HF.out x _ hb
      rw [FX.out] at hcall
      have HC := hide hcall; clear hcall
      cases fx
      · have NO : Hid (∀ x ∈ xs.take (t + 1), f x = false) := hide (none_succ hno.out X.out FX.out)
        go_wp2_with fail
        (with_reducible refine HC.out.mono ?_); rintro e w2 ⟨rfl, hb2⟩
        go_wp2_with fail
        go_roundw
        case rel => exact ⟨t + 1, by omega, by go_num, NO, hb.trans (hb2.mono hb.size)⟩
        case measure => simp [intOf]; omega
      · go_wp2_with fail
        (with_reducible refine HC.out.mono ?_); rintro e w2 ⟨rfl, hb2⟩
        go_wp2_with fail
        go_ret
        exact ⟨⟨_, rfl, .inr ⟨t, x, rfl, X.out, FX.out, hno.out⟩⟩, hb.trans (hb2.mono hb.size)⟩
    · go_wp2_with fail
      go_ret
      refine ⟨⟨_, rfl, .inl ⟨rfl, ?_⟩⟩, hb⟩
      have h := hno.out
      rwa [List.take_of_length_le (by rw [H.out]; omega)] at h

theorem ContainsFuncR (a1 : Addr) (v : Value) (xs : List (Ins)) (f : Ins → Bool) (w : World) (hx : Rep InsE w v xs) (hf : TestsR a1 f w) :
    Calls Try.prog 185 #[v, .func (.func 186) #[] #[.pointer (some a1)]] w fun e w' => e = .returned (.bool (xs.any f)) ∧ Below w.heap.size w w' := by
  have HI := hide (IndexFuncR a1 v xs f w hx hf)
  obtain ⟨a, c, rfl, -⟩ := hx.open
  clear hx hf
  go_enter Try.func185, Try.ntmps185
  go_wp2_with fail
  (with_reducible refine HI.out.mono ?_); rintro e w1 ⟨⟨q, rfl, hq⟩, hb1⟩
  have E : Hid (decide (0 ≤ q) = xs.any f) := hide hq.any
  clear hq
  go_wp2_with fail
  all_goals go_ret
  all_goals refine ⟨?_, hb1⟩
  all_goals rw [← E.out]
  all_goals simp_all

set_option maxHeartbeats 800000 in
theorem testR (g : Nat) (r : Int) (w : World) (hg : g < w.heap.size) (hc : w.cell? ⟨g, 0, none⟩ = some (.int .i64 r)) : TestsR ⟨g, 0, none⟩ (fun x => isRop x.op && x.reg == r) w := by
  intro x w2 hb
  have hc2 := (hb.cell (p := ⟨g, 0, none⟩) hg).trans hc
  have hg2 := Nat.lt_of_lt_of_le hg hb.size
  obtain ⟨x0, x1, x2, x3⟩ := x
  simp only
  have HB0 := hide ((Below.refl w2.heap.size w2).alloc (Nat.le_refl _) (.cells #[.int .i64 x0, .int .i64 x1, .int .i64 x2, .int .i64 x3] 72))
  have HR := hide (fun w' => reads_raw x0 x1 x2 x3 w')
  clear hb hc
  obtain ⟨rb, hrb⟩ : ∃ rb, isRop x0 = rb := ⟨_, rfl⟩
  rw [hrb] at HR ⊢
  clear hrb
  have z0 : w2.heap.size < (w2.alloc (.cells #[.int .i64 x0, .int .i64 x1, .int .i64 x2, .int .i64 x3] 72)).heap.size := by simp
  have z1 : g < (w2.alloc (.cells #[.int .i64 x0, .int .i64 x1, .int .i64 x2, .int .i64 x3] 72)).heap.size := by simp; omega
  have k1 : (w2.alloc (.cells #[.int .i64 x0, .int .i64 x1, .int .i64 x2, .int .i64 x3] 72)).cell? ⟨w2.heap.size, 1, none⟩ = some (.int .i64 x1) := by simp [go_sem]
  have k2 : (w2.alloc (.cells #[.int .i64 x0, .int .i64 x1, .int .i64 x2, .int .i64 x3] 72)).cell? ⟨w2.heap.size, 2, none⟩ = some (.int .i64 x2) := by simp [go_sem]
  have k3 : (w2.alloc (.cells #[.int .i64 x0, .int .i64 x1, .int .i64 x2, .int .i64 x3] 72)).cell? ⟨g, 0, none⟩ = some (.int .i64 r) := by
    have := ((Below.refl w2.heap.size w2).alloc (Nat.le_refl _) (.cells #[.int .i64 x0, .int .i64 x1, .int .i64 x2, .int .i64 x3] 72)).cell (p := ⟨g, 0, none⟩) hg2
    exact this.trans hc2
  have K1 := hide k1; have K2 := hide k2; have K3 := hide k3
  clear k1 k2 k3
  go_enter Try.func186, Try.ntmps186
  go_wp2_with fail
  (with_reducible refine (HR.out _).mono ?_); rintro e w1 ⟨rfl, hb1⟩
  have c1 := (hb1.cell (p := ⟨w2.heap.size, 1, none⟩) z0).trans K1.out
  have c2 := (hb1.cell (p := ⟨w2.heap.size, 2, none⟩) z0).trans K2.out
  have c3 := (hb1.cell (p := ⟨g, 0, none⟩) z1).trans K3.out
  have y0 := Nat.lt_of_lt_of_le z0 hb1.size
  have y1 := Nat.lt_of_lt_of_le z1 hb1.size
  cases rb
  · go_wp2_with fail
    go_ret
    exact ⟨rfl, HB0.out.trans (hb1.mono HB0.out.size)⟩
  · go_wp2_with fail
    go_ret
    exact ⟨by simp, HB0.out.trans (hb1.mono HB0.out.size)⟩

/-- What the function value does, wherever it is called as long as what lay in w0 is as it was. -/
def TestsW (a1 : Addr) (f : Ins → Bool) (w0 : World) : Prop := ∀ (x : Ins) (w : World), Below w0.heap.size w0 w → Calls Try.prog 189 #[.agg #[.int .i64 x.op, .int .i64 x.loc, .int .i64 x.reg, .int .i64 x.val], .pointer (some a1)] w fun e w' => e = .returned (.bool (f x)) ∧ Below w.heap.size w w'

set_option maxHeartbeats 400000 in
theorem IndexFuncW (a1 : Addr) (v : Value) (xs : List (Ins)) (f : Ins → Bool) (w : World) (hx : Rep InsE w v xs) (hf : TestsW a1 f w) :
    Calls Try.prog 194 #[v, .func (.func 189) #[] #[.pointer (some a1)]] w fun e w' => (∃ q : Int, e = .returned (.int .i64 q) ∧ IdxOf f xs q) ∧ Below w.heap.size w w' := by
  obtain ⟨a, c, rfl, hc1, hc2, hc3, hx⟩ := hx.open
  have HX := hide hx; clear hx
  have HF := hide hf; clear hf
  generalize hn : xs.length = n at *
  have H := hide hn; clear hn
  go_enter Try.func194, Try.ntmps194
  go_wp2_with fail
  go_loopw [8] (fun i wr => ∃ t : Nat, t ≤ n ∧ i = .int .i64 t ∧ Hid (∀ x ∈ xs.take t, f x = false) ∧ Below w.heap.size w wr) (fun i _ => n - (intOf i).toNat)
  case atStart => exact ⟨0, Nat.zero_le _, rfl, hide (by simp), Below.refl _ _⟩
  case round =>
    obtain ⟨t, ht, rfl, hno, hb⟩ := hrel
    by_cases hlt : t < n
    · obtain ⟨x, hxk⟩ := get_of_lt (xs := xs) (k := t) (by rw [H.out]; exact hlt)
      obtain ⟨b, o, rfl, hbl, i0, i1, i2, i3⟩ := (HX.out.below hb).ins hxk
      have hlt' := nat_of_lt hlt
      have X := hide hxk; clear hxk
      generalize hfx : f x = fx
      have FX := hide hfx; clear hfx
      have hcall := HF.out x _ hb
      rw [FX.out] at hcall
      have HC := hide hcall; clear hcall
      cases fx
      · have NO : Hid (∀ x ∈ xs.take (t + 1), f x = false) := hide (none_succ hno.out X.out FX.out)
        go_wp2_with fail
        (with_reducible refine HC.out.mono ?_); rintro e w2 ⟨rfl, hb2⟩
        go_wp2_with fail
        go_roundw
        case rel => exact ⟨t + 1, by omega, by go_num, NO, hb.trans (hb2.mono hb.size)⟩
        case measure => simp [intOf]; omega
      · go_wp2_with fail
        (with_reducible refine HC.out.mono ?_); rintro e w2 ⟨rfl, hb2⟩
        go_wp2_with fail
        go_ret
        exact ⟨⟨_, rfl, .inr ⟨t, x, rfl, X.out, FX.out, hno.out⟩⟩, hb.trans (hb2.mono hb.size)⟩
    · go_wp2_with fail
      go_ret
      refine ⟨⟨_, rfl, .inl ⟨rfl, ?_⟩⟩, hb⟩
      have h := hno.out
      rwa [List.take_of_length_le (by rw [H.out]; omega)] at h

theorem ContainsFuncW (a1 : Addr) (v : Value) (xs : List (Ins)) (f : Ins → Bool) (w : World) (hx : Rep InsE w v xs) (hf : TestsW a1 f w) :
    Calls Try.prog 185 #[v, .func (.func 189) #[] #[.pointer (some a1)]] w fun e w' => e = .returned (.bool (xs.any f)) ∧ Below w.heap.size w w' := by
  have HI := hide (IndexFuncW a1 v xs f w hx hf)
  obtain ⟨a, c, rfl, -⟩ := hx.open
  clear hx hf
  go_enter Try.func185, Try.ntmps185
  go_wp2_with fail
  (with_reducible refine HI.out.mono ?_); rintro e w1 ⟨⟨q, rfl, hq⟩, hb1⟩
  have E : Hid (decide (0 ≤ q) = xs.any f) := hide hq.any
  clear hq
  go_wp2_with fail
  all_goals go_ret
  all_goals refine ⟨?_, hb1⟩
  all_goals rw [← E.out]
  all_goals simp_all

set_option maxHeartbeats 800000 in
theorem testW (g : Nat) (r : Int) (w : World) (hg : g < w.heap.size) (hc : w.cell? ⟨g, 0, none⟩ = some (.int .i64 r)) : TestsW ⟨g, 0, none⟩ (fun x => isWop x.op && x.loc == r) w := by
  intro x w2 hb
  have hc2 := (hb.cell (p := ⟨g, 0, none⟩) hg).trans hc
  have hg2 := Nat.lt_of_lt_of_le hg hb.size
  obtain ⟨x0, x1, x2, x3⟩ := x
  simp only
  have HB0 := hide ((Below.refl w2.heap.size w2).alloc (Nat.le_refl _) (.cells #[.int .i64 x0, .int .i64 x1, .int .i64 x2, .int .i64 x3] 72))
  have HR := hide (fun w' => writes_raw x0 x1 x2 x3 w')
  clear hb hc
  obtain ⟨rb, hrb⟩ : ∃ rb, isWop x0 = rb := ⟨_, rfl⟩
  rw [hrb] at HR ⊢
  clear hrb
  have z0 : w2.heap.size < (w2.alloc (.cells #[.int .i64 x0, .int .i64 x1, .int .i64 x2, .int .i64 x3] 72)).heap.size := by simp
  have z1 : g < (w2.alloc (.cells #[.int .i64 x0, .int .i64 x1, .int .i64 x2, .int .i64 x3] 72)).heap.size := by simp; omega
  have k1 : (w2.alloc (.cells #[.int .i64 x0, .int .i64 x1, .int .i64 x2, .int .i64 x3] 72)).cell? ⟨w2.heap.size, 1, none⟩ = some (.int .i64 x1) := by simp [go_sem]
  have k2 : (w2.alloc (.cells #[.int .i64 x0, .int .i64 x1, .int .i64 x2, .int .i64 x3] 72)).cell? ⟨w2.heap.size, 2, none⟩ = some (.int .i64 x2) := by simp [go_sem]
  have k3 : (w2.alloc (.cells #[.int .i64 x0, .int .i64 x1, .int .i64 x2, .int .i64 x3] 72)).cell? ⟨g, 0, none⟩ = some (.int .i64 r) := by
    have := ((Below.refl w2.heap.size w2).alloc (Nat.le_refl _) (.cells #[.int .i64 x0, .int .i64 x1, .int .i64 x2, .int .i64 x3] 72)).cell (p := ⟨g, 0, none⟩) hg2
    exact this.trans hc2
  have K1 := hide k1; have K2 := hide k2; have K3 := hide k3
  clear k1 k2 k3
  go_enter Try.func189, Try.ntmps189
  go_wp2_with fail
  (with_reducible refine (HR.out _).mono ?_); rintro e w1 ⟨rfl, hb1⟩
  have c1 := (hb1.cell (p := ⟨w2.heap.size, 1, none⟩) z0).trans K1.out
  have c2 := (hb1.cell (p := ⟨w2.heap.size, 2, none⟩) z0).trans K2.out
  have c3 := (hb1.cell (p := ⟨g, 0, none⟩) z1).trans K3.out
  have y0 := Nat.lt_of_lt_of_le z0 hb1.size
  have y1 := Nat.lt_of_lt_of_le z1 hb1.size
  cases rb
  · go_wp2_with fail
    go_ret
    exact ⟨rfl, HB0.out.trans (hb1.mono HB0.out.size)⟩
  · go_wp2_with fail
    go_ret
    exact ⟨by simp, HB0.out.trans (hb1.mono HB0.out.size)⟩

/-- What the function value does, wherever it is called as long as what lay in w0 is as it was. -/
def TestsM (a1 : Addr) (f : List Ins → Bool) (w0 : World) : Prop := ∀ (ra : Option Addr) (rc : Nat) (x : List Ins) (w : World), Below w0.heap.size w0 w → Rep InsE w (.slice ra x.length rc) x → Calls Try.prog 188 #[.slice ra x.length rc, .pointer (some a1)] w fun e w' => e = .returned (.bool (f x)) ∧ Below w.heap.size w w'

set_option maxHeartbeats 400000 in
theorem IndexFuncM (a1 : Addr) (v : Value) (xs : List (List Ins)) (f : List Ins → Bool) (w : World) (hx : Rep2 InsE w v xs) (hf : TestsM a1 f w) :
    Calls Try.prog 216 #[v, .func (.func 188) #[] #[.pointer (some a1)]] w fun e w' => (∃ q : Int, e = .returned (.int .i64 q) ∧ IdxOf f xs q) ∧ Below w.heap.size w w' := by
  obtain ⟨a, c, rfl, hc1, hc2, hc3, hx⟩ := hx.open
  have HX := hide hx; clear hx
  have HF := hide hf; clear hf
  generalize hn : xs.length = n at *
  have H := hide hn; clear hn
  go_enter Try.func216, Try.ntmps216
  go_wp2_with fail
  go_loopw [8] (fun i wr => ∃ t : Nat, t ≤ n ∧ i = .int .i64 t ∧ Hid (∀ x ∈ xs.take t, f x = false) ∧ Below w.heap.size w wr) (fun i _ => n - (intOf i).toNat)
  case atStart => exact ⟨0, Nat.zero_le _, rfl, hide (by simp), Below.refl _ _⟩
  case round =>
    obtain ⟨t, ht, rfl, hno, hb⟩ := hrel
    by_cases hlt : t < n
    · obtain ⟨x, hxk⟩ := get_of_lt (xs := xs) (k := t) (by rw [H.out]; exact hlt)
      obtain ⟨b, o, ra, rc, rfl, hbl, i0, i1⟩ := (HX.out.below hb).row hxk
      have I1 := hide i1; clear i1
      have hlt' := nat_of_lt hlt
      have X := hide hxk; clear hxk
      generalize hfx : f x = fx
      have FX := hide hfx; clear hfx
      have hcall := HF.out ra rc x _ hb I1.out
      rw [FX.out] at hcall
      have HC := hide hcall; clear hcall
      cases fx
      · have NO : Hid (∀ x ∈ xs.take (t + 1), f x = false) := hide (none_succ hno.out X.out FX.out)
        go_wp2_with fail
        (with_reducible refine HC.out.mono ?_); rintro e w2 ⟨rfl, hb2⟩
        go_wp2_with fail
        go_roundw
        case rel => exact ⟨t + 1, by omega, by go_num, NO, hb.trans (hb2.mono hb.size)⟩
        case measure => simp [intOf]; omega
      · go_wp2_with fail
        (with_reducible refine HC.out.mono ?_); rintro e w2 ⟨rfl, hb2⟩
        go_wp2_with fail
        go_ret
        exact ⟨⟨_, rfl, .inr ⟨t, x, rfl, X.out, FX.out, hno.out⟩⟩, hb.trans (hb2.mono hb.size)⟩
    · go_wp2_with fail
      go_ret
      refine ⟨⟨_, rfl, .inl ⟨rfl, ?_⟩⟩, hb⟩
      have h := hno.out
      rwa [List.take_of_length_le (by rw [H.out]; omega)] at h

theorem ContainsFuncM (a1 : Addr) (v : Value) (xs : List (List Ins)) (f : List Ins → Bool) (w : World) (hx : Rep2 InsE w v xs) (hf : TestsM a1 f w) :
    Calls Try.prog 187 #[v, .func (.func 188) #[] #[.pointer (some a1)]] w fun e w' => e = .returned (.bool (xs.any f)) ∧ Below w.heap.size w w' := by
  have HI := hide (IndexFuncM a1 v xs f w hx hf)
  obtain ⟨a, c, rfl, -⟩ := hx.open
  clear hx hf
  go_enter Try.func187, Try.ntmps187
  go_wp2_with fail
  (with_reducible refine HI.out.mono ?_); rintro e w1 ⟨⟨q, rfl, hq⟩, hb1⟩
  have E : Hid (decide (0 ≤ q) = xs.any f) := hide hq.any
  clear hq
  go_wp2_with fail
  all_goals go_ret
  all_goals refine ⟨?_, hb1⟩
  all_goals rw [← E.out]
  all_goals simp_all

set_option maxHeartbeats 800000 in
theorem testM (g : Nat) (r : Int) (w : World) (hg : g < w.heap.size) (hc : w.cell? ⟨g, 0, none⟩ = some (.int .i64 r)) : TestsM ⟨g, 0, none⟩ (fun row => row.any fun x => isWop x.op && x.loc == r) w := by
  intro ra rc x w2 hb hr
  have HI := hide (ContainsFuncW ⟨g, 0, none⟩ _ x _ w2 hr (testW g r w2 (Nat.lt_of_lt_of_le hg hb.size) ((hb.cell (p := ⟨g, 0, none⟩) hg).trans hc)))
  obtain ⟨q, hq⟩ : ∃ q, (x.any fun x => isWop x.op && x.loc == r) = q := ⟨_, rfl⟩
  simp only [hq] at HI ⊢
  clear hq hb hc hr hg
  go_enter Try.func188, Try.ntmps188
  go_wp2_with fail
  (with_reducible refine HI.out.mono ?_); rintro e w1 ⟨rfl, hb1⟩
  go_wp2_with fail
  go_ret
  exact ⟨rfl, hb1⟩

end Go.Proofs.Ytpnmphfdfadlcaa
