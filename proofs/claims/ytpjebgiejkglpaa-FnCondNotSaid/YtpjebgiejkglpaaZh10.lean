/-
  A valid condition's kids: they are valid, and the condition holds as its operator says, plain. No condition.
-/
import Derived.Test.YtpjebgiejkglpaaZh06
import Derived.Test.YtpjebgiejkglpaaZh07
namespace Go.Proofs.Ytpjebgiejkglpaa
open Go.RowKit

/-- Does a valid condition hold for an outcome of N threads? -/
def holdsF : Nat → Nat → List Int → Cd → Bool
  | 0, _, _, _ => false
  | d + 1, N, os, c =>
    if c.op = 1 then (if c.th < (N : Int) then os.getD (3 * c.th + c.pl).toNat 0 else 0) == c.val
    else if c.op = 2 then os.getD (3 * (N : Int) + c.pl).toNat 0 == c.val
    else if c.op = 3 then holdsF d N os (c.kid 0) && holdsF d N os (c.kid 1)
    else if c.op = 4 then holdsF d N os (c.kid 0) || holdsF d N os (c.kid 1)
    else !holdsF d N os (c.kid 0)

theorem l3Reg_any (t p : Int) (w : World) (h0 : 0 ≤ t) (h1 : t ≤ 2) (h2 : 0 ≤ p) (h3 : p ≤ 2) : Calls Try.prog 46 #[.int .i64 t, .int .i64 p] w fun e w' => e = .returned (.int .i64 (3 * t + p)) ∧ w = w' := by
  have hc : t * 3 = 3 * t := Int.mul_comm _ _
  go_enter Try.func46, Try.ntmps46
  go_wp2_with fail
  go_ret
  first | exact ⟨rfl, rfl⟩ | (refine ⟨congrArg Ending.returned (congrArg (Value.int .i64) ?_), rfl⟩; omega)

def HoldsAt (fn : FuncId) (d : Nat) : Prop := ∀ (o t p x : Int) (ks : List Cd) (a : Option Addr) (n c : Nat) (oa : Option Addr) (on oc : Nat) (os : List Int) (N : Nat) (w : World), RepK 0 w ⟨a, n, c⟩ ks → Rep IntE w (.slice oa on oc) os →
  os.length = 3 * N + 3 → N ≤ 3 → shapeF d (.mk o t p x ks) = true →
  Calls Try.prog fn #[.int .i64 N, .slice oa on oc, .agg #[.int .i64 o, .int .i64 t, .int .i64 p, .int .i64 x, .slice a n c]] w fun e w' => e = .returned (.bool (holdsF d N os (.mk o t p x ks))) ∧ Below w.heap.size w w'


set_option maxRecDepth 100000 in
set_option maxHeartbeats 3200000 in
theorem holds_any : ∀ (d : Nat), HoldsAt 19 d := by
  intro d
  induction d with
  | zero => intro o t p x ks a n c oa on oc os N w h hO hlen hN hs; simp [shapeF] at hs
  | succ d ih =>
    intro o t p x ks a n c oa on oc os N w h hO hlen hN hs
    have IH := hide ih
    rw [shapeF_succ] at hs
    obtain ⟨hn, hk⟩ := hs
    replace hn : nodeR o t p x ks.length = true := hn
    obtain ⟨e1, hc1, hc2, hc3⟩ := h.open
    simp only at e1 hc1 hc2 hc3
    rw [← e1] at hc1 hc2
    have E1 := hide e1; clear e1
    have hon : on = os.length := by
      obtain ⟨a', c', hv, -⟩ := hO
      simp only [Value.slice.injEq] at hv
      exact hv.2.1
    have HON := hide hon; clear hon
    have HLEN := hide hlen; clear hlen
    have HB := hide ((Below.refl w.heap.size w).alloc (Nat.le_refl _) (.cells #[.int .i64 o, .int .i64 t, .int .i64 p, .int .i64 x, .slice a n c] 27))
    have HP := hide (h.below HB.out)
    have HOW := hide (hO.below HB.out)
    have hN0 : (0 : Int) ≤ (N : Int) := by omega
    have hN3 : (N : Int) ≤ 3 := by omega
    rcases nodeR_cases hn with ⟨rfl, h1, h2, h3, h4, h5, h6, -⟩ | ⟨rfl, h3, h4, h5, h6, -, -⟩ | ⟨rfl, hl, -⟩ | ⟨rfl, hl, -⟩ | ⟨rfl, hl, -⟩
    · by_cases hlt : t < (N : Int)
      · obtain ⟨K, hK⟩ : ∃ K : Nat, 3 * t + p = (K : Int) := ⟨(3 * t + p).toNat, by omega⟩
        have hKl : K < on := by rw [HON.out, HLEN.out]; omega
        obtain ⟨y, hy⟩ := get_of_lt (xs := os) (k := K) (by rw [← HON.out]; exact hKl)
        obtain ⟨b1, o1, rfl, hbl, i0⟩ := hO.int hy
        have E : Hid (holdsF (d + 1) N os (.mk 1 t p x ks) = (y == x)) := hide (by
          simp [holdsF, Cd.op, Cd.th, Cd.pl, Cd.val, hlt, hK, hy])
        have hKl' := nat_of_lt hKl
        clear hn hk ih h hO hy
        generalize holdsF (d + 1) N os (.mk 1 t p x ks) = R at *
        go_enter Try.func19, Try.ntmps19
        go_wp2_with fail
        go_ret
        exact ⟨by rw [E.out]; rfl, HB.out⟩
      · have E : Hid (holdsF (d + 1) N os (.mk 1 t p x ks) = ((0 : Int) == x)) := hide (by
          rw [Bool.eq_iff_iff]
          simp [holdsF, Cd.op, Cd.th, Cd.val, hlt])
        have hlt2 : decide (t < (N : Int)) = false := by simp; omega
        clear hn hk ih h hO hlt
        generalize holdsF (d + 1) N os (.mk 1 t p x ks) = R at *
        go_enter Try.func19, Try.ntmps19
        go_wp2_with fail
        go_ret
        exact ⟨by rw [E.out]; rfl, HB.out⟩
    · obtain ⟨K, hK⟩ : ∃ K : Nat, 3 * (N : Int) + p = (K : Int) := ⟨(3 * (N : Int) + p).toNat, by omega⟩
      have hKl : K < on := by rw [HON.out, HLEN.out]; omega
      obtain ⟨y, hy⟩ := get_of_lt (xs := os) (k := K) (by rw [← HON.out]; exact hKl)
      obtain ⟨b1, o1, rfl, hbl, i0⟩ := hO.int hy
      have E : Hid (holdsF (d + 1) N os (.mk 2 t p x ks) = (y == x)) := hide (by
        simp [holdsF, Cd.op, Cd.pl, Cd.val, hK, hy])
      have hKl' := nat_of_lt hKl
      clear hn hk ih h hO hy
      generalize holdsF (d + 1) N os (.mk 2 t p x ks) = R at *
      go_enter Try.func19, Try.ntmps19
      go_wp2_with fail
      refine wp_region_bw (by kernel_rfl) (by kernel_rfl) ?_
      repeat (go_big_quiet_step (fail))
      refine wpQuiet_nil ?_
      intro w1 hb1
      go_wp2_with fail
      go_ret
      exact ⟨by rw [E.out]; rfl, HB.out.trans (hb1.mono HB.out.size)⟩
    · obtain ⟨k0, g0⟩ := get_of_lt (xs := ks) (k := 0) (by have : ks.length = 2 := hl; omega)
      obtain ⟨k1, g1⟩ := get_of_lt (xs := ks) (k := 1) (by have : ks.length = 2 := hl; omega)
      obtain ⟨b1, o1, s0, rfl, hbl, i0, i1, i2, i3, i4, i5⟩ := h.kid g0
      obtain ⟨b1', o1', s1, hbe, -, j0, j1, j2, j3, j4, j5⟩ := h.kid g1
      simp only [Option.some.injEq, Addr.mk.injEq, and_true] at hbe
      obtain ⟨rfl, rfl⟩ := hbe
      simp only [Nat.zero_mul, Nat.add_zero, Nat.one_mul] at i0 i1 i2 i3 i4 j0 j1 j2 j3 j4
      have HC0 := hide (fun w' h' hO' => IH.out k0.op k0.th k0.pl k0.val k0.kids s0.a s0.n s0.cap oa on oc os N w' h' hO' HLEN.out hN (by rw [Cd.eta]; exact hk k0 (List.mem_of_getElem? g0)))
      have HC1 := hide (fun w' h' hO' => IH.out k1.op k1.th k1.pl k1.val k1.kids s1.a s1.n s1.cap oa on oc os N w' h' hO' HLEN.out hN (by rw [Cd.eta]; exact hk k1 (List.mem_of_getElem? g1)))
      have E : Hid (holdsF (d + 1) N os (.mk 3 t p x ks) = (holdsF d N os k0 && holdsF d N os k1)) := hide (by
        simp [holdsF, Cd.op, kid_of g0, kid_of g1])
      rw [Cd.eta] at HC0 HC1
      have I5 := hide (i5.below HB.out); have J5 := hide (j5.below HB.out)
      obtain rfl : n = 2 := E1.out.trans hl
      clear hn hk ih h g0 g1 i5 j5 hl hO
      generalize holdsF (d + 1) N os (.mk 3 t p x ks) = R at *
      generalize holdsF d N os k0 = B0 at *
      generalize holdsF d N os k1 = B1 at *
      cases B0
      · obtain rfl : R = false := by rw [E.out]; rfl
        go_enter Try.func19, Try.ntmps19
        go_wp2_with fail
        (with_reducible refine (HC0.out _ I5.out HOW.out).mono ?_); rintro e w1 ⟨rfl, hb1⟩
        go_wp2_with fail
        go_ret
        exact ⟨rfl, HB.out.trans (hb1.mono HB.out.size)⟩
      · obtain rfl : R = B1 := by rw [E.out]; rfl
        go_enter Try.func19, Try.ntmps19
        go_wp2_with fail
        (with_reducible refine (HC0.out _ I5.out HOW.out).mono ?_); rintro e w1 ⟨rfl, hb1⟩
        obtain ⟨hcc, hff⟩ := bcell hb1
        go_wp2_with fail
        (with_reducible refine (HC1.out _ (J5.out.below hb1) (HOW.out.below hb1)).mono ?_); rintro e w2 ⟨rfl, hb2⟩
        go_wp2_with fail
        go_ret
        exact ⟨rfl, HB.out.trans ((hb1.trans (hb2.mono hb1.size)).mono HB.out.size)⟩
    · obtain ⟨k0, g0⟩ := get_of_lt (xs := ks) (k := 0) (by have : ks.length = 2 := hl; omega)
      obtain ⟨k1, g1⟩ := get_of_lt (xs := ks) (k := 1) (by have : ks.length = 2 := hl; omega)
      obtain ⟨b1, o1, s0, rfl, hbl, i0, i1, i2, i3, i4, i5⟩ := h.kid g0
      obtain ⟨b1', o1', s1, hbe, -, j0, j1, j2, j3, j4, j5⟩ := h.kid g1
      simp only [Option.some.injEq, Addr.mk.injEq, and_true] at hbe
      obtain ⟨rfl, rfl⟩ := hbe
      simp only [Nat.zero_mul, Nat.add_zero, Nat.one_mul] at i0 i1 i2 i3 i4 j0 j1 j2 j3 j4
      have HC0 := hide (fun w' h' hO' => IH.out k0.op k0.th k0.pl k0.val k0.kids s0.a s0.n s0.cap oa on oc os N w' h' hO' HLEN.out hN (by rw [Cd.eta]; exact hk k0 (List.mem_of_getElem? g0)))
      have HC1 := hide (fun w' h' hO' => IH.out k1.op k1.th k1.pl k1.val k1.kids s1.a s1.n s1.cap oa on oc os N w' h' hO' HLEN.out hN (by rw [Cd.eta]; exact hk k1 (List.mem_of_getElem? g1)))
      have E : Hid (holdsF (d + 1) N os (.mk 4 t p x ks) = (holdsF d N os k0 || holdsF d N os k1)) := hide (by
        simp [holdsF, Cd.op, kid_of g0, kid_of g1])
      rw [Cd.eta] at HC0 HC1
      have I5 := hide (i5.below HB.out); have J5 := hide (j5.below HB.out)
      obtain rfl : n = 2 := E1.out.trans hl
      clear hn hk ih h g0 g1 i5 j5 hl hO
      generalize holdsF (d + 1) N os (.mk 4 t p x ks) = R at *
      generalize holdsF d N os k0 = B0 at *
      generalize holdsF d N os k1 = B1 at *
      cases B0
      · obtain rfl : R = B1 := by rw [E.out]; rfl
        go_enter Try.func19, Try.ntmps19
        go_wp2_with fail
        (with_reducible refine (HC0.out _ I5.out HOW.out).mono ?_); rintro e w1 ⟨rfl, hb1⟩
        obtain ⟨hcc, hff⟩ := bcell hb1
        go_wp2_with fail
        (with_reducible refine (HC1.out _ (J5.out.below hb1) (HOW.out.below hb1)).mono ?_); rintro e w2 ⟨rfl, hb2⟩
        go_wp2_with fail
        go_ret
        exact ⟨rfl, HB.out.trans ((hb1.trans (hb2.mono hb1.size)).mono HB.out.size)⟩
      · obtain rfl : R = true := by rw [E.out]; rfl
        go_enter Try.func19, Try.ntmps19
        go_wp2_with fail
        (with_reducible refine (HC0.out _ I5.out HOW.out).mono ?_); rintro e w1 ⟨rfl, hb1⟩
        go_wp2_with fail
        go_ret
        exact ⟨rfl, HB.out.trans (hb1.mono HB.out.size)⟩
    · obtain ⟨k0, g0⟩ := get_of_lt (xs := ks) (k := 0) (by have : ks.length = 1 := hl; omega)
      obtain ⟨b1, o1, s0, rfl, hbl, i0, i1, i2, i3, i4, i5⟩ := h.kid g0
      simp only [Nat.zero_mul, Nat.add_zero] at i0 i1 i2 i3 i4
      have HC0 := hide (fun w' h' hO' => IH.out k0.op k0.th k0.pl k0.val k0.kids s0.a s0.n s0.cap oa on oc os N w' h' hO' HLEN.out hN (by rw [Cd.eta]; exact hk k0 (List.mem_of_getElem? g0)))
      have E : Hid (holdsF (d + 1) N os (.mk 5 t p x ks) = (!holdsF d N os k0)) := hide (by
        simp [holdsF, Cd.op, kid_of g0])
      rw [Cd.eta] at HC0
      have I5 := hide (i5.below HB.out)
      obtain rfl : n = 1 := E1.out.trans hl
      clear hn hk ih h g0 i5 hl hO
      generalize holdsF (d + 1) N os (.mk 5 t p x ks) = R at *
      generalize holdsF d N os k0 = B0 at *
      go_enter Try.func19, Try.ntmps19
      go_wp2_with fail
      (with_reducible refine (HC0.out _ I5.out HOW.out).mono ?_); rintro e w1 ⟨rfl, hb1⟩
      go_wp2_with fail
      go_ret
      exact ⟨by rw [E.out]; rfl, HB.out.trans (hb1.mono HB.out.size)⟩

set_option maxRecDepth 100000 in
set_option maxHeartbeats 3200000 in
theorem l11Holds_any : ∀ (d : Nat), HoldsAt 22 d := by
  intro d
  induction d with
  | zero => intro o t p x ks a n c oa on oc os N w h hO hlen hN hs; simp [shapeF] at hs
  | succ d ih =>
    intro o t p x ks a n c oa on oc os N w h hO hlen hN hs
    have IH := hide ih
    rw [shapeF_succ] at hs
    obtain ⟨hn, hk⟩ := hs
    replace hn : nodeR o t p x ks.length = true := hn
    obtain ⟨e1, hc1, hc2, hc3⟩ := h.open
    simp only at e1 hc1 hc2 hc3
    rw [← e1] at hc1 hc2
    have E1 := hide e1; clear e1
    have hon : on = os.length := by
      obtain ⟨a', c', hv, -⟩ := hO
      simp only [Value.slice.injEq] at hv
      exact hv.2.1
    have HON := hide hon; clear hon
    have HLEN := hide hlen; clear hlen
    have HB := hide ((Below.refl w.heap.size w).alloc (Nat.le_refl _) (.cells #[.int .i64 o, .int .i64 t, .int .i64 p, .int .i64 x, .slice a n c] 27))
    have HP := hide (h.below HB.out)
    have HOW := hide (hO.below HB.out)
    have hN0 : (0 : Int) ≤ (N : Int) := by omega
    have hN3 : (N : Int) ≤ 3 := by omega
    rcases nodeR_cases hn with ⟨rfl, h1, h2, h3, h4, h5, h6, -⟩ | ⟨rfl, h3, h4, h5, h6, -, -⟩ | ⟨rfl, hl, -⟩ | ⟨rfl, hl, -⟩ | ⟨rfl, hl, -⟩
    · by_cases hlt : t < (N : Int)
      · obtain ⟨K, hK⟩ : ∃ K : Nat, 3 * t + p = (K : Int) := ⟨(3 * t + p).toNat, by omega⟩
        have hKl : K < on := by rw [HON.out, HLEN.out]; omega
        obtain ⟨y, hy⟩ := get_of_lt (xs := os) (k := K) (by rw [← HON.out]; exact hKl)
        obtain ⟨b1, o1, rfl, hbl, i0⟩ := hO.int hy
        have E : Hid (holdsF (d + 1) N os (.mk 1 t p x ks) = (y == x)) := hide (by
          simp [holdsF, Cd.op, Cd.th, Cd.pl, Cd.val, hlt, hK, hy])
        have hKl' := nat_of_lt hKl
        clear hn hk ih h hO hy
        generalize holdsF (d + 1) N os (.mk 1 t p x ks) = R at *
        have HR := hide (fun w' => l3Reg_any t p w' h1 h2 h3 h4)
        have hge : decide ((N : Int) ≤ t) = false := by simp; omega
        rw [hK] at HR
        go_enter Try.func22, Try.ntmps22
        go_wp2_with fail
        refine wp_region_bw (by kernel_rfl) (by kernel_rfl) ?_
        repeat (go_big_quiet_step ((go_at_call 46; (with_reducible exact Calls.bw_same (HR.out _)))))
        refine wpQuiet_nil ?_
        intro w1 hb1
        go_wp2_with fail
        go_ret
        exact ⟨by rw [E.out]; rfl, HB.out.trans (hb1.mono HB.out.size)⟩
      · have E : Hid (holdsF (d + 1) N os (.mk 1 t p x ks) = (x == 0)) := hide (by
          rw [Bool.eq_iff_iff]
          simp [holdsF, Cd.op, Cd.th, Cd.val, hlt]; omega)
        have hge : decide ((N : Int) ≤ t) = true := by simp; omega
        clear hn hk ih h hO hlt
        generalize holdsF (d + 1) N os (.mk 1 t p x ks) = R at *
        go_enter Try.func22, Try.ntmps22
        go_wp2_with fail
        go_ret
        exact ⟨by rw [E.out]; rfl, HB.out⟩
    · obtain ⟨K, hK⟩ : ∃ K : Nat, 3 * (N : Int) + p = (K : Int) := ⟨(3 * (N : Int) + p).toNat, by omega⟩
      have hKl : K < on := by rw [HON.out, HLEN.out]; omega
      obtain ⟨y, hy⟩ := get_of_lt (xs := os) (k := K) (by rw [← HON.out]; exact hKl)
      obtain ⟨b1, o1, rfl, hbl, i0⟩ := hO.int hy
      have E : Hid (holdsF (d + 1) N os (.mk 2 t p x ks) = (y == x)) := hide (by
        simp [holdsF, Cd.op, Cd.pl, Cd.val, hK, hy])
      have hKl' := nat_of_lt hKl
      clear hn hk ih h hO hy
      generalize holdsF (d + 1) N os (.mk 2 t p x ks) = R at *
      have hK2 : (N : Int) * 3 + p = (K : Int) := by omega
      go_enter Try.func22, Try.ntmps22
      go_wp2_with fail
      refine wp_region_bw (by kernel_rfl) (by kernel_rfl) ?_
      repeat (go_big_quiet_step (fail))
      refine wpQuiet_nil ?_
      intro w1 hb1
      go_wp2_with fail
      go_ret
      exact ⟨by rw [E.out]; rfl, HB.out.trans (hb1.mono HB.out.size)⟩
    · obtain ⟨k0, g0⟩ := get_of_lt (xs := ks) (k := 0) (by have : ks.length = 2 := hl; omega)
      obtain ⟨k1, g1⟩ := get_of_lt (xs := ks) (k := 1) (by have : ks.length = 2 := hl; omega)
      obtain ⟨b1, o1, s0, rfl, hbl, i0, i1, i2, i3, i4, i5⟩ := h.kid g0
      obtain ⟨b1', o1', s1, hbe, -, j0, j1, j2, j3, j4, j5⟩ := h.kid g1
      simp only [Option.some.injEq, Addr.mk.injEq, and_true] at hbe
      obtain ⟨rfl, rfl⟩ := hbe
      simp only [Nat.zero_mul, Nat.add_zero, Nat.one_mul] at i0 i1 i2 i3 i4 j0 j1 j2 j3 j4
      have HC0 := hide (fun w' h' hO' => IH.out k0.op k0.th k0.pl k0.val k0.kids s0.a s0.n s0.cap oa on oc os N w' h' hO' HLEN.out hN (by rw [Cd.eta]; exact hk k0 (List.mem_of_getElem? g0)))
      have HC1 := hide (fun w' h' hO' => IH.out k1.op k1.th k1.pl k1.val k1.kids s1.a s1.n s1.cap oa on oc os N w' h' hO' HLEN.out hN (by rw [Cd.eta]; exact hk k1 (List.mem_of_getElem? g1)))
      have E : Hid (holdsF (d + 1) N os (.mk 3 t p x ks) = (holdsF d N os k0 && holdsF d N os k1)) := hide (by
        simp [holdsF, Cd.op, kid_of g0, kid_of g1])
      rw [Cd.eta] at HC0 HC1
      have I5 := hide (i5.below HB.out); have J5 := hide (j5.below HB.out)
      obtain rfl : n = 2 := E1.out.trans hl
      clear hn hk ih h g0 g1 i5 j5 hl hO
      generalize holdsF (d + 1) N os (.mk 3 t p x ks) = R at *
      generalize holdsF d N os k0 = B0 at *
      generalize holdsF d N os k1 = B1 at *
      cases B0
      · obtain rfl : R = false := by rw [E.out]; rfl
        go_enter Try.func22, Try.ntmps22
        go_wp2_with fail
        (with_reducible refine (HC0.out _ I5.out HOW.out).mono ?_); rintro e w1 ⟨rfl, hb1⟩
        go_wp2_with fail
        go_ret
        exact ⟨rfl, HB.out.trans (hb1.mono HB.out.size)⟩
      · obtain rfl : R = B1 := by rw [E.out]; rfl
        go_enter Try.func22, Try.ntmps22
        go_wp2_with fail
        (with_reducible refine (HC0.out _ I5.out HOW.out).mono ?_); rintro e w1 ⟨rfl, hb1⟩
        obtain ⟨hcc, hff⟩ := bcell hb1
        go_wp2_with fail
        (with_reducible refine (HC1.out _ (J5.out.below hb1) (HOW.out.below hb1)).mono ?_); rintro e w2 ⟨rfl, hb2⟩
        go_wp2_with fail
        go_ret
        exact ⟨rfl, HB.out.trans ((hb1.trans (hb2.mono hb1.size)).mono HB.out.size)⟩
    · obtain ⟨k0, g0⟩ := get_of_lt (xs := ks) (k := 0) (by have : ks.length = 2 := hl; omega)
      obtain ⟨k1, g1⟩ := get_of_lt (xs := ks) (k := 1) (by have : ks.length = 2 := hl; omega)
      obtain ⟨b1, o1, s0, rfl, hbl, i0, i1, i2, i3, i4, i5⟩ := h.kid g0
      obtain ⟨b1', o1', s1, hbe, -, j0, j1, j2, j3, j4, j5⟩ := h.kid g1
      simp only [Option.some.injEq, Addr.mk.injEq, and_true] at hbe
      obtain ⟨rfl, rfl⟩ := hbe
      simp only [Nat.zero_mul, Nat.add_zero, Nat.one_mul] at i0 i1 i2 i3 i4 j0 j1 j2 j3 j4
      have HC0 := hide (fun w' h' hO' => IH.out k0.op k0.th k0.pl k0.val k0.kids s0.a s0.n s0.cap oa on oc os N w' h' hO' HLEN.out hN (by rw [Cd.eta]; exact hk k0 (List.mem_of_getElem? g0)))
      have HC1 := hide (fun w' h' hO' => IH.out k1.op k1.th k1.pl k1.val k1.kids s1.a s1.n s1.cap oa on oc os N w' h' hO' HLEN.out hN (by rw [Cd.eta]; exact hk k1 (List.mem_of_getElem? g1)))
      have E : Hid (holdsF (d + 1) N os (.mk 4 t p x ks) = (holdsF d N os k0 || holdsF d N os k1)) := hide (by
        simp [holdsF, Cd.op, kid_of g0, kid_of g1])
      rw [Cd.eta] at HC0 HC1
      have I5 := hide (i5.below HB.out); have J5 := hide (j5.below HB.out)
      obtain rfl : n = 2 := E1.out.trans hl
      clear hn hk ih h g0 g1 i5 j5 hl hO
      generalize holdsF (d + 1) N os (.mk 4 t p x ks) = R at *
      generalize holdsF d N os k0 = B0 at *
      generalize holdsF d N os k1 = B1 at *
      cases B0
      · obtain rfl : R = B1 := by rw [E.out]; rfl
        go_enter Try.func22, Try.ntmps22
        go_wp2_with fail
        (with_reducible refine (HC0.out _ I5.out HOW.out).mono ?_); rintro e w1 ⟨rfl, hb1⟩
        obtain ⟨hcc, hff⟩ := bcell hb1
        go_wp2_with fail
        (with_reducible refine (HC1.out _ (J5.out.below hb1) (HOW.out.below hb1)).mono ?_); rintro e w2 ⟨rfl, hb2⟩
        go_wp2_with fail
        go_ret
        exact ⟨rfl, HB.out.trans ((hb1.trans (hb2.mono hb1.size)).mono HB.out.size)⟩
      · obtain rfl : R = true := by rw [E.out]; rfl
        go_enter Try.func22, Try.ntmps22
        go_wp2_with fail
        (with_reducible refine (HC0.out _ I5.out HOW.out).mono ?_); rintro e w1 ⟨rfl, hb1⟩
        go_wp2_with fail
        go_ret
        exact ⟨rfl, HB.out.trans (hb1.mono HB.out.size)⟩
    · obtain ⟨k0, g0⟩ := get_of_lt (xs := ks) (k := 0) (by have : ks.length = 1 := hl; omega)
      obtain ⟨b1, o1, s0, rfl, hbl, i0, i1, i2, i3, i4, i5⟩ := h.kid g0
      simp only [Nat.zero_mul, Nat.add_zero] at i0 i1 i2 i3 i4
      have HC0 := hide (fun w' h' hO' => IH.out k0.op k0.th k0.pl k0.val k0.kids s0.a s0.n s0.cap oa on oc os N w' h' hO' HLEN.out hN (by rw [Cd.eta]; exact hk k0 (List.mem_of_getElem? g0)))
      have E : Hid (holdsF (d + 1) N os (.mk 5 t p x ks) = (!holdsF d N os k0)) := hide (by
        simp [holdsF, Cd.op, kid_of g0])
      rw [Cd.eta] at HC0
      have I5 := hide (i5.below HB.out)
      obtain rfl : n = 1 := E1.out.trans hl
      clear hn hk ih h g0 i5 hl hO
      generalize holdsF (d + 1) N os (.mk 5 t p x ks) = R at *
      generalize holdsF d N os k0 = B0 at *
      go_enter Try.func22, Try.ntmps22
      go_wp2_with fail
      (with_reducible refine (HC0.out _ I5.out HOW.out).mono ?_); rintro e w1 ⟨rfl, hb1⟩
      go_wp2_with fail
      go_ret
      exact ⟨by rw [E.out]; rfl, HB.out.trans (hb1.mono HB.out.size)⟩

end Go.Proofs.Ytpjebgiejkglpaa
namespace Go.Proofs.Ytpjebgiejkglpaa
open Go.RowKit

def condHolds (p : List (List Ins)) (os : List Int) (c : Cd) : Bool := outValid p os && (validC c && holdsF 10 p.length os c)

set_option maxHeartbeats 1600000 in
theorem CondHolds_any (v v' : Value) (p0 : List (List Ins)) (os : List Int) (o t p x : Int) (ks : List Cd) (a : Option Addr) (n c : Nat) (w : World) (hp : RepP w v p0) (ho : Rep IntE w v' os) (h : RepK 0 w ⟨a, n, c⟩ ks) (hl : p0.flatten.length ≤ 1048576) (hpl : p0.length ≤ 1048576) :
    Calls Try.prog 7 #[v, v', .agg #[.int .i64 o, .int .i64 t, .int .i64 p, .int .i64 x, .slice a n c]] w fun e w' => e = .returned (.bool (condHolds p0 os (.mk o t p x ks))) ∧ Below w.heap.size w w' := by
  have HB := hide ((Below.refl w.heap.size w).alloc (Nat.le_refl _) (.cells #[.int .i64 o, .int .i64 t, .int .i64 p, .int .i64 x, .slice a n c] 27))
  have HP := hide (hp.below HB.out); have HO := hide (ho.below HB.out); have HK := hide (h.below HB.out)
  have HOV := hide (OutcomeValid_any v v' p0 os _ HP.out HO.out hl hpl)
  have HV := hide (fun w' h' => CondValid_raw o t p x ks a n c w' h')
  obtain ⟨a0, c0, rfl, -, hp1, -, -⟩ := hp.open
  obtain ⟨a1, c1, rfl, -, ho1, -, -⟩ := ho.open
  have HH := hide (fun w' hk' ho' h1 h2 h3 => holds_any 10 o t p x ks a n c a1 os.length c1 os p0.length w' hk' ho' h1 h2 h3)
  have E : Hid (condHolds p0 os (.mk o t p x ks) = (outValid p0 os && (validC (.mk o t p x ks) && holdsF 10 p0.length os (.mk o t p x ks)))) := hide rfl
  have HS : Hid (validC (.mk o t p x ks) = true → shapeF 10 (.mk o t p x ks) = true) := hide (by unfold validC; simp; intro h _; exact h)
  have HQ : Hid (outValid p0 os = true → os.length = 3 * p0.length + 3 ∧ p0.length ≤ 3) := hide (by
    intro hq
    unfold outValid at hq
    simp only [Bool.and_eq_true, decide_eq_true_eq] at hq
    have h2 := valid_le hq.1
    exact ⟨hq.2.1, by omega⟩)
  clear hp ho h
  generalize Cd.mk o t p x ks = C at *
  generalize condHolds p0 os C = R at *
  generalize validC C = bv at *
  generalize outValid p0 os = bo at *
  cases bo
  · obtain rfl : R = false := by rw [E.out]; rfl
    go_enter Try.func7, Try.ntmps7
    go_wp2_with fail
    (with_reducible refine HOV.out.mono ?_); rintro e w1 ⟨rfl, hb1⟩
    go_wp2_with fail
    go_ret
    exact ⟨rfl, HB.out.trans (hb1.mono HB.out.size)⟩
  · obtain ⟨q1, q2⟩ := HQ.out rfl
    have Q1 := hide q1; clear q1 HQ
    cases bv
    · obtain rfl : R = false := by rw [E.out]; rfl
      go_enter Try.func7, Try.ntmps7
      go_wp2_with fail
      (with_reducible refine HOV.out.mono ?_); rintro e w1 ⟨rfl, hb1⟩
      obtain ⟨hc1, hf1⟩ := bcell hb1
      go_wp2_with fail
      (with_reducible refine (HV.out _ (HK.out.below hb1)).mono ?_); rintro e w2 ⟨rfl, hb2⟩
      go_wp2_with fail
      go_ret
      exact ⟨rfl, HB.out.trans ((hb1.trans (hb2.mono hb1.size)).mono HB.out.size)⟩
    · have E2 : Hid (R = holdsF 10 p0.length os C) := hide (by rw [E.out]; rfl)
      have HH2 := hide (fun w' hk' ho' => HH.out w' hk' ho' Q1.out q2 (HS.out rfl))
      clear E HH HS Q1
      generalize holdsF 10 p0.length os C = Z at *
      obtain rfl : R = Z := E2.out
      go_enter Try.func7, Try.ntmps7
      go_wp2_with fail
      (with_reducible refine HOV.out.mono ?_); rintro e w1 ⟨rfl, hb1⟩
      obtain ⟨hc1, hf1⟩ := bcell hb1
      go_wp2_with fail
      (with_reducible refine (HV.out _ (HK.out.below hb1)).mono ?_); rintro e w2 ⟨rfl, hb2⟩
      have hb12 := hb1.trans (hb2.mono hb1.size)
      obtain ⟨hc2, hf2⟩ := bcell hb12
      clear hc1 hf1
      go_wp2_with fail
      (with_reducible refine (HH2.out _ (HK.out.below hb12) (HO.out.below hb12)).mono ?_); rintro e w3 ⟨rfl, hb3⟩
      go_wp2_with fail
      go_ret
      exact ⟨rfl, HB.out.trans ((hb12.trans (hb3.mono hb12.size)).mono HB.out.size)⟩

set_option maxHeartbeats 1600000 in
theorem CondHoldsS_any (v v' : Value) (p0 : List (List Ins)) (os : List Int) (o t p x : Int) (ks : List Cd) (a : Option Addr) (n c : Nat) (w : World) (hp : RepP w v p0) (ho : Rep IntE w v' os) (h : RepK 0 w ⟨a, n, c⟩ ks) (hl : p0.flatten.length ≤ 1048576) (hpl : p0.length ≤ 1048576) (hd : descs ks ≤ 1048576) :
    Calls Try.prog 8 #[v, v', .agg #[.int .i64 o, .int .i64 t, .int .i64 p, .int .i64 x, .slice a n c]] w fun e w' => e = .returned (.bool (condHolds p0 os (.mk o t p x ks))) ∧ Below w.heap.size w w' := by
  have HB := hide ((Below.refl w.heap.size w).alloc (Nat.le_refl _) (.cells #[.int .i64 o, .int .i64 t, .int .i64 p, .int .i64 x, .slice a n c] 27))
  have HP := hide (hp.below HB.out); have HO := hide (ho.below HB.out); have HK := hide (h.below HB.out)
  have HOV := hide (sOutcomeValid_any v v' p0 os _ HP.out HO.out hl hpl)
  have HV := hide (fun w' h' => CondValidS_raw o t p x ks a n c w' h' hd)
  obtain ⟨a0, c0, rfl, -, hp1, -, -⟩ := hp.open
  obtain ⟨a1, c1, rfl, -, ho1, -, -⟩ := ho.open
  have HH := hide (fun w' hk' ho' h1 h2 h3 => l11Holds_any 10 o t p x ks a n c a1 os.length c1 os p0.length w' hk' ho' h1 h2 h3)
  have E : Hid (condHolds p0 os (.mk o t p x ks) = (outValid p0 os && (validC (.mk o t p x ks) && holdsF 10 p0.length os (.mk o t p x ks)))) := hide rfl
  have HS : Hid (validC (.mk o t p x ks) = true → shapeF 10 (.mk o t p x ks) = true) := hide (by unfold validC; simp; intro h _; exact h)
  have HQ : Hid (outValid p0 os = true → os.length = 3 * p0.length + 3 ∧ p0.length ≤ 3) := hide (by
    intro hq
    unfold outValid at hq
    simp only [Bool.and_eq_true, decide_eq_true_eq] at hq
    have h2 := valid_le hq.1
    exact ⟨hq.2.1, by omega⟩)
  clear hp ho h
  generalize Cd.mk o t p x ks = C at *
  generalize condHolds p0 os C = R at *
  generalize validC C = bv at *
  generalize outValid p0 os = bo at *
  cases bo
  · obtain rfl : R = false := by rw [E.out]; rfl
    go_enter Try.func8, Try.ntmps8
    go_wp2_with fail
    (with_reducible refine HOV.out.mono ?_); rintro e w1 ⟨rfl, hb1⟩
    go_wp2_with fail
    go_ret
    exact ⟨rfl, HB.out.trans (hb1.mono HB.out.size)⟩
  · obtain ⟨q1, q2⟩ := HQ.out rfl
    have Q1 := hide q1; clear q1 HQ
    cases bv
    · obtain rfl : R = false := by rw [E.out]; rfl
      go_enter Try.func8, Try.ntmps8
      go_wp2_with fail
      (with_reducible refine HOV.out.mono ?_); rintro e w1 ⟨rfl, hb1⟩
      obtain ⟨hc1, hf1⟩ := bcell hb1
      go_wp2_with fail
      (with_reducible refine (HV.out _ (HK.out.below hb1)).mono ?_); rintro e w2 ⟨rfl, hb2⟩
      go_wp2_with fail
      go_ret
      exact ⟨rfl, HB.out.trans ((hb1.trans (hb2.mono hb1.size)).mono HB.out.size)⟩
    · have E2 : Hid (R = holdsF 10 p0.length os C) := hide (by rw [E.out]; rfl)
      have HH2 := hide (fun w' hk' ho' => HH.out w' hk' ho' Q1.out q2 (HS.out rfl))
      clear E HH HS Q1
      generalize holdsF 10 p0.length os C = Z at *
      obtain rfl : R = Z := E2.out
      go_enter Try.func8, Try.ntmps8
      go_wp2_with fail
      (with_reducible refine HOV.out.mono ?_); rintro e w1 ⟨rfl, hb1⟩
      obtain ⟨hc1, hf1⟩ := bcell hb1
      go_wp2_with fail
      (with_reducible refine (HV.out _ (HK.out.below hb1)).mono ?_); rintro e w2 ⟨rfl, hb2⟩
      have hb12 := hb1.trans (hb2.mono hb1.size)
      obtain ⟨hc2, hf2⟩ := bcell hb12
      clear hc1 hf1
      go_wp2_with fail
      (with_reducible refine (HH2.out _ (HK.out.below hb12) (HO.out.below hb12)).mono ?_); rintro e w3 ⟨rfl, hb3⟩
      go_wp2_with fail
      go_ret
      exact ⟨rfl, HB.out.trans ((hb12.trans (hb3.mono hb12.size)).mono HB.out.size)⟩

end Go.Proofs.Ytpjebgiejkglpaa

namespace Go.Proofs.Ytpjebgiejkglpaa

theorem shapeF_up {d : Nat} : ∀ {c : Cd}, shapeF d c = true → shapeF (d + 1) c = true := by
  induction d with
  | zero => intro c h; simp [shapeF] at h
  | succ d ih =>
    intro c h
    rw [shapeF_succ] at h ⊢
    exact ⟨h.1, fun k hk => ih (h.2 k hk)⟩
theorem kidM {c : Cd} {k : Nat} {x : Cd} (h : c.kids[k]? = some x) : c.kid k = x := by
  unfold Cd.kid
  simp [List.getD_eq_getElem?_getD, h]
theorem node_kids {c : Cd} (h : nodeB c = true) (ho : ¬ (c.op = 1 ∨ c.op = 2)) : (c.op = 5 ∧ c.kids.length = 1) ∨ ((c.op = 3 ∨ c.op = 4) ∧ c.kids.length = 2) := by
  unfold nodeB nodeR at h
  split at h
  · exact absurd (.inl (by assumption)) ho
  · split at h
    · exact absurd (.inr (by assumption)) ho
    · split at h
      · rename_i h34; simp at h; exact .inr ⟨h34, h.2⟩
      · simp at h; exact .inl ⟨h.1.1.1.1, h.2⟩
theorem holdsF_eq (d N : Nat) (os : List Int) (c : Cd) : holdsF (d + 1) N os c = if c.op = 1 then (if c.th < (N : Int) then os.getD (3 * c.th + c.pl).toNat 0 else 0) == c.val
    else if c.op = 2 then os.getD (3 * (N : Int) + c.pl).toNat 0 == c.val
    else if c.op = 3 then holdsF d N os (c.kid 0) && holdsF d N os (c.kid 1)
    else if c.op = 4 then holdsF d N os (c.kid 0) || holdsF d N os (c.kid 1)
    else !holdsF d N os (c.kid 0) := rfl
theorem holdsF_up {d : Nat} : ∀ {c : Cd} (N : Nat) (os : List Int), shapeF d c = true → holdsF (d + 1) N os c = holdsF d N os c := by
  induction d with
  | zero => intro c N os h; simp [shapeF] at h
  | succ d ih =>
    intro c N os h
    rw [shapeF_succ] at h
    have hk : ∀ k x, c.kids[k]? = some x → holdsF (d + 1) N os (c.kid k) = holdsF d N os (c.kid k) := fun k x hx => by
      rw [kidM hx]; exact ih N os (h.2 x (List.mem_of_getElem? hx))
    rw [holdsF_eq (d + 1) N os c, holdsF_eq d N os c]
    by_cases h1 : c.op = 1
    · simp [h1]
    · by_cases h2 : c.op = 2
      · simp [h2]
      · rcases node_kids h.1 (fun e => e.elim h1 h2) with ⟨h5, hl⟩ | ⟨h34, hl⟩
        · have e0 := hk 0 (c.kids[0]'(by omega)) (by simp)
          simp [h5, e0]
        · have e0 := hk 0 (c.kids[0]'(by omega)) (by simp)
          have e1 := hk 1 (c.kids[1]'(by omega)) (by simp)
          rcases h34 with h3 | h4
          · simp [h3, e0, e1]
          · simp [h4, e0, e1]
theorem valid_kid {c x : Cd} {k : Nat} (h : validC c = true) (hx : c.kids[k]? = some x) : validC x = true ∧ shapeF 9 x = true := by
  unfold validC at h ⊢
  simp only [Bool.and_eq_true, decide_eq_true_eq] at h ⊢
  have hs := (shapeF_succ 9 c).1 h.1
  have h9 := hs.2 x (List.mem_of_getElem? hx)
  refine ⟨⟨shapeF_up h9, ?_⟩, h9⟩
  have hn := h.2
  unfold nodes at hn ⊢
  have := descs_mem (List.mem_of_getElem? hx)
  omega
theorem cond_kid {P : List (List Ins)} {os : List Int} {c x : Cd} {k : Nat} (h : validC c = true) (ho : outValid P os = true) (hx : c.kids[k]? = some x) : condHolds P os x = holdsF 9 P.length os (c.kid k) := by
  obtain ⟨h1, h2⟩ := valid_kid h hx
  unfold condHolds
  rw [ho, h1, kidM hx, holdsF_up _ _ h2]; rfl
theorem cond_is {P : List (List Ins)} {os : List Int} {c : Cd} (h : validC c = true) (ho : outValid P os = true) : condHolds P os c = holdsF 10 P.length os c := by unfold condHolds; rw [ho, h]; rfl
theorem cond_bad1 {P : List (List Ins)} {os : List Int} {c : Cd} (ho : outValid P os = false) : condHolds P os c = false := by unfold condHolds; rw [ho]; rfl
theorem cond_bad2 {P : List (List Ins)} {os : List Int} {c : Cd} (ho : validC c = false) : condHolds P os c = false := by unfold condHolds; rw [ho]; simp
theorem cond_not {P : List (List Ins)} {os : List Int} {c x : Cd} (h : validC c = true) (ho : outValid P os = true) (h5 : c.op = 5) (hx : c.kids[0]? = some x) : condHolds P os c = !condHolds P os x := by
  rw [cond_kid h ho hx, cond_is h ho, holdsF_eq 9]
  simp [h5]
theorem cond_and {P : List (List Ins)} {os : List Int} {c x y : Cd} (h : validC c = true) (ho : outValid P os = true) (h5 : c.op = 3) (hx : c.kids[0]? = some x) (hy : c.kids[1]? = some y) : condHolds P os c = (condHolds P os x && condHolds P os y) := by
  rw [cond_kid h ho hx, cond_kid h ho hy, cond_is h ho, holdsF_eq 9]
  simp [h5]
theorem cond_or {P : List (List Ins)} {os : List Int} {c x y : Cd} (h : validC c = true) (ho : outValid P os = true) (h5 : c.op = 4) (hx : c.kids[0]? = some x) (hy : c.kids[1]? = some y) : condHolds P os c = (condHolds P os x || condHolds P os y) := by
  rw [cond_kid h ho hx, cond_kid h ho hy, cond_is h ho, holdsF_eq 9]
  simp [h5]
theorem valid_kids {c : Cd} (h : validC c = true) : (c.op = 5 → ∃ x, c.kids[0]? = some x) ∧ (c.op = 3 ∨ c.op = 4 → ∃ x y, c.kids[0]? = some x ∧ c.kids[1]? = some y) := by
  have hs : nodeB c = true := by
    unfold validC at h
    simp only [Bool.and_eq_true] at h
    exact ((shapeF_succ 9 c).1 h.1).1
  refine ⟨fun e => ?_, fun e => ?_⟩
  · rcases node_kids hs (by omega) with ⟨_, hl⟩ | ⟨h34, _⟩
    · exact get_of_lt (by omega)
    · omega
  · rcases node_kids hs (by omega) with ⟨h5, _⟩ | ⟨_, hl⟩
    · omega
    · obtain ⟨x, hx⟩ := get_of_lt (xs := c.kids) (k := 0) (by omega)
      obtain ⟨y, hy⟩ := get_of_lt (xs := c.kids) (k := 1) (by omega)
      exact ⟨x, y, hx, hy⟩

end Go.Proofs.Ytpjebgiejkglpaa
