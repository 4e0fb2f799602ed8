/-
  Conditions that hold, in the program and in the reference. No condition but bounds on sizes.
-/
import Derived.Test.YtlnmlmpmpnjfmaaN3
import Derived.Test.YtlnmlmpmpnjfmaaT7
namespace Go.Proofs.Ytlnmlmpmpnjfmaa
open Go.RowKit

/-- Does a valid condition hold for an outcome of N threads? -/
def holdsF : Nat → Nat → List Int → Cd → Bool
  | 0, _, _, _ => false
  | d + 1, N, os, c =>
    if c.op = 1 then (if c.th < (N : Int) then os.getD (3 * c.th + c.pl).toNat 0 else 0) == c.val
    else if c.op = 2 then os.getD (3 * (N : Int) + c.pl).toNat 0 == c.val
    else if c.op = 3 then holdsF d N os (c.kid 0) && holdsF d N os (c.kid 1)
    else if c.op = 4 then holdsF d N os (c.kid 0) || holdsF d N os (c.kid 1)
    else !holdsF d N os (c.kid 0)

theorem l3Reg_any (t p : Int) (w : World) (h0 : 0 ≤ t) (h1 : t ≤ 2) (h2 : 0 ≤ p) (h3 : p ≤ 2) : Calls Try.prog 112 #[.int .i64 t, .int .i64 p] w fun e w' => e = .returned (.int .i64 (3 * t + p)) ∧ w = w' := by
  have hc : t * 3 = 3 * t := Int.mul_comm _ _
  go_enter Try.func112, Try.ntmps112
  go_wp2_with fail
  go_ret
  first | exact ⟨rfl, rfl⟩ | (refine ⟨congrArg Ending.returned (congrArg (Value.int .i64) ?_), rfl⟩; omega)

def HoldsAt (fn : FuncId) (d : Nat) : Prop := ∀ (o t p x : Int) (ks : List Cd) (a : Option Addr) (n c : Nat) (oa : Option Addr) (on oc : Nat) (os : List Int) (N : Nat) (w : World), RepK 0 w ⟨a, n, c⟩ ks → Rep IntE w (.slice oa on oc) os →
  os.length = 3 * N + 3 → N ≤ 3 → shapeF d (.mk o t p x ks) = true →
  Calls Try.prog fn #[.int .i64 N, .slice oa on oc, .agg #[.int .i64 o, .int .i64 t, .int .i64 p, .int .i64 x, .slice a n c]] w fun e w' => e = .returned (.bool (holdsF d N os (.mk o t p x ks))) ∧ Below w.heap.size w w'


set_option maxRecDepth 100000 in
set_option maxHeartbeats 3200000 in
theorem holds_any : ∀ (d : Nat), HoldsAt 110 d := by
  intro d
  induction d with
  | zero => intro o t p x ks a n c oa on oc os N w h hO hlen hN hs; simp [shapeF] at hs
  | succ d ih =>
    intro o t p x ks a n c oa on oc os N w h hO hlen hN hs
    have IH := hide ih
    rw [shapeF_succ] at hs
    obtain ⟨hn, hk⟩ := hs
    replace hn : nodeR o t p x ks.length = true := hn
    obtain ⟨e1, hc1, hc2, hc3⟩ := h.open
    simp only at e1 hc1 hc2 hc3
    rw [← e1] at hc1 hc2
    have E1 := hide e1; clear e1
    have hon : on = os.length := by
      obtain ⟨a', c', hv, -⟩ := hO
      simp only [Value.slice.injEq] at hv
      exact hv.2.1
    have HON := hide hon; clear hon
    have HLEN := hide hlen; clear hlen
    have HB := hide ((Below.refl w.heap.size w).alloc (Nat.le_refl _) (.cells #[.int .i64 o, .int .i64 t, .int .i64 p, .int .i64 x, .slice a n c] 55))
    have HP := hide (h.below HB.out)
    have HOW := hide (hO.below HB.out)
    have hN0 : (0 : Int) ≤ (N : Int) := by omega
    have hN3 : (N : Int) ≤ 3 := by omega
    rcases nodeR_cases hn with ⟨rfl, h1, h2, h3, h4, h5, h6, -⟩ | ⟨rfl, h3, h4, h5, h6, -, -⟩ | ⟨rfl, hl, -⟩ | ⟨rfl, hl, -⟩ | ⟨rfl, hl, -⟩
    · by_cases hlt : t < (N : Int)
      · obtain ⟨K, hK⟩ : ∃ K : Nat, 3 * t + p = (K : Int) := ⟨(3 * t + p).toNat, by omega⟩
        have hKl : K < on := by rw [HON.out, HLEN.out]; omega
        obtain ⟨y, hy⟩ := get_of_lt (xs := os) (k := K) (by rw [← HON.out]; exact hKl)
        obtain ⟨b1, o1, rfl, hbl, i0⟩ := hO.int hy
        have E : Hid (holdsF (d + 1) N os (.mk 1 t p x ks) = (y == x)) := hide (by
          simp [holdsF, Cd.op, Cd.th, Cd.pl, Cd.val, hlt, hK, hy])
        have hKl' := nat_of_lt hKl
        clear hn hk ih h hO hy
        generalize holdsF (d + 1) N os (.mk 1 t p x ks) = R at *
        go_enter Try.func110, Try.ntmps110
        go_wp2_with fail
        go_ret
        exact ⟨by rw [E.out]; rfl, HB.out⟩
      · have E : Hid (holdsF (d + 1) N os (.mk 1 t p x ks) = ((0 : Int) == x)) := hide (by
          rw [Bool.eq_iff_iff]
          simp [holdsF, Cd.op, Cd.th, Cd.val, hlt])
        have hlt2 : decide (t < (N : Int)) = false := by simp; omega
        clear hn hk ih h hO hlt
        generalize holdsF (d + 1) N os (.mk 1 t p x ks) = R at *
        go_enter Try.func110, Try.ntmps110
        go_wp2_with fail
        go_ret
        exact ⟨by rw [E.out]; rfl, HB.out⟩
    · obtain ⟨K, hK⟩ : ∃ K : Nat, 3 * (N : Int) + p = (K : Int) := ⟨(3 * (N : Int) + p).toNat, by omega⟩
      have hKl : K < on := by rw [HON.out, HLEN.out]; omega
      obtain ⟨y, hy⟩ := get_of_lt (xs := os) (k := K) (by rw [← HON.out]; exact hKl)
      obtain ⟨b1, o1, rfl, hbl, i0⟩ := hO.int hy
      have E : Hid (holdsF (d + 1) N os (.mk 2 t p x ks) = (y == x)) := hide (by
        simp [holdsF, Cd.op, Cd.pl, Cd.val, hK, hy])
      have hKl' := nat_of_lt hKl
      clear hn hk ih h hO hy
      generalize holdsF (d + 1) N os (.mk 2 t p x ks) = R at *
      go_enter Try.func110, Try.ntmps110
      go_wp2_with fail
      refine wp_region_bw (by kernel_rfl) (by kernel_rfl) ?_
      repeat (go_big_quiet_step (fail))
      refine wpQuiet_nil ?_
      intro w1 hb1
      go_wp2_with fail
      go_ret
      exact ⟨by rw [E.out]; rfl, HB.out.trans (hb1.mono HB.out.size)⟩
    · obtain ⟨k0, g0⟩ := get_of_lt (xs := ks) (k := 0) (by have : ks.length = 2 := hl; omega)
      obtain ⟨k1, g1⟩ := get_of_lt (xs := ks) (k := 1) (by have : ks.length = 2 := hl; omega)
      obtain ⟨b1, o1, s0, rfl, hbl, i0, i1, i2, i3, i4, i5⟩ := h.kid g0
      obtain ⟨b1', o1', s1, hbe, -, j0, j1, j2, j3, j4, j5⟩ := h.kid g1
      simp only [Option.some.injEq, Addr.mk.injEq, and_true] at hbe
      obtain ⟨rfl, rfl⟩ := hbe
      simp only [Nat.zero_mul, Nat.add_zero, Nat.one_mul] at i0 i1 i2 i3 i4 j0 j1 j2 j3 j4
      have HC0 := hide (fun w' h' hO' => IH.out k0.op k0.th k0.pl k0.val k0.kids s0.a s0.n s0.cap oa on oc os N w' h' hO' HLEN.out hN (by rw [Cd.eta]; exact hk k0 (List.mem_of_getElem? g0)))
      have HC1 := hide (fun w' h' hO' => IH.out k1.op k1.th k1.pl k1.val k1.kids s1.a s1.n s1.cap oa on oc os N w' h' hO' HLEN.out hN (by rw [Cd.eta]; exact hk k1 (List.mem_of_getElem? g1)))
      have E : Hid (holdsF (d + 1) N os (.mk 3 t p x ks) = (holdsF d N os k0 && holdsF d N os k1)) := hide (by
        simp [holdsF, Cd.op, kid_of g0, kid_of g1])
      rw [Cd.eta] at HC0 HC1
      have I5 := hide (i5.below HB.out); have J5 := hide (j5.below HB.out)
      obtain rfl : n = 2 := E1.out.trans hl
      clear hn hk ih h g0 g1 i5 j5 hl hO
      generalize holdsF (d + 1) N os (.mk 3 t p x ks) = R at *
      generalize holdsF d N os k0 = B0 at *
      generalize holdsF d N os k1 = B1 at *
      cases B0
      · obtain rfl : R = false := by rw [E.out]; rfl
        go_enter Try.func110, Try.ntmps110
        go_wp2_with fail
        (with_reducible refine (HC0.out _ I5.out HOW.out).mono ?_); rintro e w1 ⟨rfl, hb1⟩
        go_wp2_with fail
        go_ret
        exact ⟨rfl, HB.out.trans (hb1.mono HB.out.size)⟩
      · obtain rfl : R = B1 := by rw [E.out]; rfl
        go_enter Try.func110, Try.ntmps110
        go_wp2_with fail
        (with_reducible refine (HC0.out _ I5.out HOW.out).mono ?_); rintro e w1 ⟨rfl, hb1⟩
        obtain ⟨hcc, hff⟩ := bcell hb1
        go_wp2_with fail
        (with_reducible refine (HC1.out _ (J5.out.below hb1) (HOW.out.below hb1)).mono ?_); rintro e w2 ⟨rfl, hb2⟩
        go_wp2_with fail
        go_ret
        exact ⟨rfl, HB.out.trans ((hb1.trans (hb2.mono hb1.size)).mono HB.out.size)⟩
    · obtain ⟨k0, g0⟩ := get_of_lt (xs := ks) (k := 0) (by have : ks.length = 2 := hl; omega)
      obtain ⟨k1, g1⟩ := get_of_lt (xs := ks) (k := 1) (by have : ks.length = 2 := hl; omega)
      obtain ⟨b1, o1, s0, rfl, hbl, i0, i1, i2, i3, i4, i5⟩ := h.kid g0
      obtain ⟨b1', o1', s1, hbe, -, j0, j1, j2, j3, j4, j5⟩ := h.kid g1
      simp only [Option.some.injEq, Addr.mk.injEq, and_true] at hbe
      obtain ⟨rfl, rfl⟩ := hbe
      simp only [Nat.zero_mul, Nat.add_zero, Nat.one_mul] at i0 i1 i2 i3 i4 j0 j1 j2 j3 j4
      have HC0 := hide (fun w' h' hO' => IH.out k0.op k0.th k0.pl k0.val k0.kids s0.a s0.n s0.cap oa on oc os N w' h' hO' HLEN.out hN (by rw [Cd.eta]; exact hk k0 (List.mem_of_getElem? g0)))
      have HC1 := hide (fun w' h' hO' => IH.out k1.op k1.th k1.pl k1.val k1.kids s1.a s1.n s1.cap oa on oc os N w' h' hO' HLEN.out hN (by rw [Cd.eta]; exact hk k1 (List.mem_of_getElem? g1)))
      have E : Hid (holdsF (d + 1) N os (.mk 4 t p x ks) = (holdsF d N os k0 || holdsF d N os k1)) := hide (by
        simp [holdsF, Cd.op, kid_of g0, kid_of g1])
      rw [Cd.eta] at HC0 HC1
      have I5 := hide (i5.below HB.out); have J5 := hide (j5.below HB.out)
      obtain rfl : n = 2 := E1.out.trans hl
      clear hn hk ih h g0 g1 i5 j5 hl hO
      generalize holdsF (d + 1) N os (.mk 4 t p x ks) = R at *
      generalize holdsF d N os k0 = B0 at *
      generalize holdsF d N os k1 = B1 at *
      cases B0
      · obtain rfl : R = B1 := by rw [E.out]; rfl
        go_enter Try.func110, Try.ntmps110
        go_wp2_with fail
        (with_reducible refine (HC0.out _ I5.out HOW.out).mono ?_); rintro e w1 ⟨rfl, hb1⟩
        obtain ⟨hcc, hff⟩ := bcell hb1
        go_wp2_with fail
        (with_reducible refine (HC1.out _ (J5.out.below hb1) (HOW.out.below hb1)).mono ?_); rintro e w2 ⟨rfl, hb2⟩
        go_wp2_with fail
        go_ret
        exact ⟨rfl, HB.out.trans ((hb1.trans (hb2.mono hb1.size)).mono HB.out.size)⟩
      · obtain rfl : R = true := by rw [E.out]; rfl
        go_enter Try.func110, Try.ntmps110
        go_wp2_with fail
        (with_reducible refine (HC0.out _ I5.out HOW.out).mono ?_); rintro e w1 ⟨rfl, hb1⟩
        go_wp2_with fail
        go_ret
        exact ⟨rfl, HB.out.trans (hb1.mono HB.out.size)⟩
    · obtain ⟨k0, g0⟩ := get_of_lt (xs := ks) (k := 0) (by have : ks.length = 1 := hl; omega)
      obtain ⟨b1, o1, s0, rfl, hbl, i0, i1, i2, i3, i4, i5⟩ := h.kid g0
      simp only [Nat.zero_mul, Nat.add_zero] at i0 i1 i2 i3 i4
      have HC0 := hide (fun w' h' hO' => IH.out k0.op k0.th k0.pl k0.val k0.kids s0.a s0.n s0.cap oa on oc os N w' h' hO' HLEN.out hN (by rw [Cd.eta]; exact hk k0 (List.mem_of_getElem? g0)))
      have E : Hid (holdsF (d + 1) N os (.mk 5 t p x ks) = (!holdsF d N os k0)) := hide (by
        simp [holdsF, Cd.op, kid_of g0])
      rw [Cd.eta] at HC0
      have I5 := hide (i5.below HB.out)
      obtain rfl : n = 1 := E1.out.trans hl
      clear hn hk ih h g0 i5 hl hO
      generalize holdsF (d + 1) N os (.mk 5 t p x ks) = R at *
      generalize holdsF d N os k0 = B0 at *
      go_enter Try.func110, Try.ntmps110
      go_wp2_with fail
      (with_reducible refine (HC0.out _ I5.out HOW.out).mono ?_); rintro e w1 ⟨rfl, hb1⟩
      go_wp2_with fail
      go_ret
      exact ⟨by rw [E.out]; rfl, HB.out.trans (hb1.mono HB.out.size)⟩

set_option maxRecDepth 100000 in
set_option maxHeartbeats 3200000 in
theorem l11Holds_any : ∀ (d : Nat), HoldsAt 108 d := by
  intro d
  induction d with
  | zero => intro o t p x ks a n c oa on oc os N w h hO hlen hN hs; simp [shapeF] at hs
  | succ d ih =>
    intro o t p x ks a n c oa on oc os N w h hO hlen hN hs
    have IH := hide ih
    rw [shapeF_succ] at hs
    obtain ⟨hn, hk⟩ := hs
    replace hn : nodeR o t p x ks.length = true := hn
    obtain ⟨e1, hc1, hc2, hc3⟩ := h.open
    simp only at e1 hc1 hc2 hc3
    rw [← e1] at hc1 hc2
    have E1 := hide e1; clear e1
    have hon : on = os.length := by
      obtain ⟨a', c', hv, -⟩ := hO
      simp only [Value.slice.injEq] at hv
      exact hv.2.1
    have HON := hide hon; clear hon
    have HLEN := hide hlen; clear hlen
    have HB := hide ((Below.refl w.heap.size w).alloc (Nat.le_refl _) (.cells #[.int .i64 o, .int .i64 t, .int .i64 p, .int .i64 x, .slice a n c] 55))
    have HP := hide (h.below HB.out)
    have HOW := hide (hO.below HB.out)
    have hN0 : (0 : Int) ≤ (N : Int) := by omega
    have hN3 : (N : Int) ≤ 3 := by omega
    rcases nodeR_cases hn with ⟨rfl, h1, h2, h3, h4, h5, h6, -⟩ | ⟨rfl, h3, h4, h5, h6, -, -⟩ | ⟨rfl, hl, -⟩ | ⟨rfl, hl, -⟩ | ⟨rfl, hl, -⟩
    · by_cases hlt : t < (N : Int)
      · obtain ⟨K, hK⟩ : ∃ K : Nat, 3 * t + p = (K : Int) := ⟨(3 * t + p).toNat, by omega⟩
        have hKl : K < on := by rw [HON.out, HLEN.out]; omega
        obtain ⟨y, hy⟩ := get_of_lt (xs := os) (k := K) (by rw [← HON.out]; exact hKl)
        obtain ⟨b1, o1, rfl, hbl, i0⟩ := hO.int hy
        have E : Hid (holdsF (d + 1) N os (.mk 1 t p x ks) = (y == x)) := hide (by
          simp [holdsF, Cd.op, Cd.th, Cd.pl, Cd.val, hlt, hK, hy])
        have hKl' := nat_of_lt hKl
        clear hn hk ih h hO hy
        generalize holdsF (d + 1) N os (.mk 1 t p x ks) = R at *
        have HR := hide (fun w' => l3Reg_any t p w' h1 h2 h3 h4)
        have hge : decide ((N : Int) ≤ t) = false := by simp; omega
        rw [hK] at HR
        go_enter Try.func108, Try.ntmps108
        go_wp2_with fail
        refine wp_region_bw (by kernel_rfl) (by kernel_rfl) ?_
        repeat (go_big_quiet_step ((go_at_call 112; (with_reducible exact Calls.bw_same (HR.out _)))))
        refine wpQuiet_nil ?_
        intro w1 hb1
        go_wp2_with fail
        go_ret
        exact ⟨by rw [E.out]; rfl, HB.out.trans (hb1.mono HB.out.size)⟩
      · have E : Hid (holdsF (d + 1) N os (.mk 1 t p x ks) = (x == 0)) := hide (by
          rw [Bool.eq_iff_iff]
          simp [holdsF, Cd.op, Cd.th, Cd.val, hlt]; omega)
        have hge : decide ((N : Int) ≤ t) = true := by simp; omega
        clear hn hk ih h hO hlt
        generalize holdsF (d + 1) N os (.mk 1 t p x ks) = R at *
        go_enter Try.func108, Try.ntmps108
        go_wp2_with fail
        go_ret
        exact ⟨by rw [E.out]; rfl, HB.out⟩
    · obtain ⟨K, hK⟩ : ∃ K : Nat, 3 * (N : Int) + p = (K : Int) := ⟨(3 * (N : Int) + p).toNat, by omega⟩
      have hKl : K < on := by rw [HON.out, HLEN.out]; omega
      obtain ⟨y, hy⟩ := get_of_lt (xs := os) (k := K) (by rw [← HON.out]; exact hKl)
      obtain ⟨b1, o1, rfl, hbl, i0⟩ := hO.int hy
      have E : Hid (holdsF (d + 1) N os (.mk 2 t p x ks) = (y == x)) := hide (by
        simp [holdsF, Cd.op, Cd.pl, Cd.val, hK, hy])
      have hKl' := nat_of_lt hKl
      clear hn hk ih h hO hy
      generalize holdsF (d + 1) N os (.mk 2 t p x ks) = R at *
      have hK2 : (N : Int) * 3 + p = (K : Int) := by omega
      go_enter Try.func108, Try.ntmps108
      go_wp2_with fail
      refine wp_region_bw (by kernel_rfl) (by kernel_rfl) ?_
      repeat (go_big_quiet_step (fail))
      refine wpQuiet_nil ?_
      intro w1 hb1
      go_wp2_with fail
      go_ret
      exact ⟨by rw [E.out]; rfl, HB.out.trans (hb1.mono HB.out.size)⟩
    · obtain ⟨k0, g0⟩ := get_of_lt (xs := ks) (k := 0) (by have : ks.length = 2 := hl; omega)
      obtain ⟨k1, g1⟩ := get_of_lt (xs := ks) (k := 1) (by have : ks.length = 2 := hl; omega)
      obtain ⟨b1, o1, s0, rfl, hbl, i0, i1, i2, i3, i4, i5⟩ := h.kid g0
      obtain ⟨b1', o1', s1, hbe, -, j0, j1, j2, j3, j4, j5⟩ := h.kid g1
      simp only [Option.some.injEq, Addr.mk.injEq, and_true] at hbe
      obtain ⟨rfl, rfl⟩ := hbe
      simp only [Nat.zero_mul, Nat.add_zero, Nat.one_mul] at i0 i1 i2 i3 i4 j0 j1 j2 j3 j4
      have HC0 := hide (fun w' h' hO' => IH.out k0.op k0.th k0.pl k0.val k0.kids s0.a s0.n s0.cap oa on oc os N w' h' hO' HLEN.out hN (by rw [Cd.eta]; exact hk k0 (List.mem_of_getElem? g0)))
      have HC1 := hide (fun w' h' hO' => IH.out k1.op k1.th k1.pl k1.val k1.kids s1.a s1.n s1.cap oa on oc os N w' h' hO' HLEN.out hN (by rw [Cd.eta]; exact hk k1 (List.mem_of_getElem? g1)))
      have E : Hid (holdsF (d + 1) N os (.mk 3 t p x ks) = (holdsF d N os k0 && holdsF d N os k1)) := hide (by
        simp [holdsF, Cd.op, kid_of g0, kid_of g1])
      rw [Cd.eta] at HC0 HC1
      have I5 := hide (i5.below HB.out); have J5 := hide (j5.below HB.out)
      obtain rfl : n = 2 := E1.out.trans hl
      clear hn hk ih h g0 g1 i5 j5 hl hO
      generalize holdsF (d + 1) N os (.mk 3 t p x ks) = R at *
      generalize holdsF d N os k0 = B0 at *
      generalize holdsF d N os k1 = B1 at *
      cases B0
      · obtain rfl : R = false := by rw [E.out]; rfl
        go_enter Try.func108, Try.ntmps108
        go_wp2_with fail
        (with_reducible refine (HC0.out _ I5.out HOW.out).mono ?_); rintro e w1 ⟨rfl, hb1⟩
        go_wp2_with fail
        go_ret
        exact ⟨rfl, HB.out.trans (hb1.mono HB.out.size)⟩
      · obtain rfl : R = B1 := by rw [E.out]; rfl
        go_enter Try.func108, Try.ntmps108
        go_wp2_with fail
        (with_reducible refine (HC0.out _ I5.out HOW.out).mono ?_); rintro e w1 ⟨rfl, hb1⟩
        obtain ⟨hcc, hff⟩ := bcell hb1
        go_wp2_with fail
        (with_reducible refine (HC1.out _ (J5.out.below hb1) (HOW.out.below hb1)).mono ?_); rintro e w2 ⟨rfl, hb2⟩
        go_wp2_with fail
        go_ret
        exact ⟨rfl, HB.out.trans ((hb1.trans (hb2.mono hb1.size)).mono HB.out.size)⟩
    · obtain ⟨k0, g0⟩ := get_of_lt (xs := ks) (k := 0) (by have : ks.length = 2 := hl; omega)
      obtain ⟨k1, g1⟩ := get_of_lt (xs := ks) (k := 1) (by have : ks.length = 2 := hl; omega)
      obtain ⟨b1, o1, s0, rfl, hbl, i0, i1, i2, i3, i4, i5⟩ := h.kid g0
      obtain ⟨b1', o1', s1, hbe, -, j0, j1, j2, j3, j4, j5⟩ := h.kid g1
      simp only [Option.some.injEq, Addr.mk.injEq, and_true] at hbe
      obtain ⟨rfl, rfl⟩ := hbe
      simp only [Nat.zero_mul, Nat.add_zero, Nat.one_mul] at i0 i1 i2 i3 i4 j0 j1 j2 j3 j4
      have HC0 := hide (fun w' h' hO' => IH.out k0.op k0.th k0.pl k0.val k0.kids s0.a s0.n s0.cap oa on oc os N w' h' hO' HLEN.out hN (by rw [Cd.eta]; exact hk k0 (List.mem_of_getElem? g0)))
      have HC1 := hide (fun w' h' hO' => IH.out k1.op k1.th k1.pl k1.val k1.kids s1.a s1.n s1.cap oa on oc os N w' h' hO' HLEN.out hN (by rw [Cd.eta]; exact hk k1 (List.mem_of_getElem? g1)))
      have E : Hid (holdsF (d + 1) N os (.mk 4 t p x ks) = (holdsF d N os k0 || holdsF d N os k1)) := hide (by
        simp [holdsF, Cd.op, kid_of g0, kid_of g1])
      rw [Cd.eta] at HC0 HC1
      have I5 := hide (i5.below HB.out); have J5 := hide (j5.below HB.out)
      obtain rfl : n = 2 := E1.out.trans hl
      clear hn hk ih h g0 g1 i5 j5 hl hO
      generalize holdsF (d + 1) N os (.mk 4 t p x ks) = R at *
      generalize holdsF d N os k0 = B0 at *
      generalize holdsF d N os k1 = B1 at *
      cases B0
      · obtain rfl : R = B1 := by rw [E.out]; rfl
        go_enter Try.func108, Try.ntmps108
        go_wp2_with fail
        (with_reducible refine (HC0.out _ I5.out HOW.out).mono ?_); rintro e w1 ⟨rfl, hb1⟩
        obtain ⟨hcc, hff⟩ := bcell hb1
        go_wp2_with fail
        (with_reducible refine (HC1.out _ (J5.out.below hb1) (HOW.out.below hb1)).mono ?_); rintro e w2 ⟨rfl, hb2⟩
        go_wp2_with fail
        go_ret
        exact ⟨rfl, HB.out.trans ((hb1.trans (hb2.mono hb1.size)).mono HB.out.size)⟩
      · obtain rfl : R = true := by rw [E.out]; rfl
        go_enter Try.func108, Try.ntmps108
        go_wp2_with fail
        (with_reducible refine (HC0.out _ I5.out HOW.out).mono ?_); rintro e w1 ⟨rfl, hb1⟩
        go_wp2_with fail
        go_ret
        exact ⟨rfl, HB.out.trans (hb1.mono HB.out.size)⟩
    · obtain ⟨k0, g0⟩ := get_of_lt (xs := ks) (k := 0) (by have : ks.length = 1 := hl; omega)
      obtain ⟨b1, o1, s0, rfl, hbl, i0, i1, i2, i3, i4, i5⟩ := h.kid g0
      simp only [Nat.zero_mul, Nat.add_zero] at i0 i1 i2 i3 i4
      have HC0 := hide (fun w' h' hO' => IH.out k0.op k0.th k0.pl k0.val k0.kids s0.a s0.n s0.cap oa on oc os N w' h' hO' HLEN.out hN (by rw [Cd.eta]; exact hk k0 (List.mem_of_getElem? g0)))
      have E : Hid (holdsF (d + 1) N os (.mk 5 t p x ks) = (!holdsF d N os k0)) := hide (by
        simp [holdsF, Cd.op, kid_of g0])
      rw [Cd.eta] at HC0
      have I5 := hide (i5.below HB.out)
      obtain rfl : n = 1 := E1.out.trans hl
      clear hn hk ih h g0 i5 hl hO
      generalize holdsF (d + 1) N os (.mk 5 t p x ks) = R at *
      generalize holdsF d N os k0 = B0 at *
      go_enter Try.func108, Try.ntmps108
      go_wp2_with fail
      (with_reducible refine (HC0.out _ I5.out HOW.out).mono ?_); rintro e w1 ⟨rfl, hb1⟩
      go_wp2_with fail
      go_ret
      exact ⟨by rw [E.out]; rfl, HB.out.trans (hb1.mono HB.out.size)⟩

end Go.Proofs.Ytlnmlmpmpnjfmaa