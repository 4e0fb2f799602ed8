/-
  Texts of conditions in the reference; FormatCond of both. No condition but a bound on sizes.
-/
import Derived.Test.YtpnmphfdfadlcaaT7
namespace Go.Proofs.Ytpnmphfdfadlcaa
open Go.RowKit

set_option maxRecDepth 100000 in
set_option maxHeartbeats 3200000 in
theorem l11Text_any : ∀ (d : Nat), d ≤ 10 → TextsAt 73 d := by
  intro d
  induction d with
  | zero => intro _ o t p x ks a n c w h hs; simp [shapeF] at hs
  | succ d ih =>
    intro hd o t p x ks a n c w h hs
    have IH := hide (ih (by omega))
    rw [shapeF_succ] at hs
    obtain ⟨hn, hk⟩ := hs
    replace hn : nodeR o t p x ks.length = true := hn
    obtain ⟨e1, hc1, hc2, hc3⟩ := h.open
    simp only at e1 hc1 hc2 hc3
    rw [← e1] at hc1 hc2
    have E1 := hide e1; clear e1
    have HB := hide ((Below.refl w.heap.size w).alloc (Nat.le_refl _) (.cells #[.int .i64 o, .int .i64 t, .int .i64 p, .int .i64 x, .slice a n c] 25))
    have HP := hide (h.below HB.out)
    have hpow : 2 ^ d ≤ 2 ^ 10 := Nat.pow_le_pow_right (by omega) (by omega)
    rcases nodeR_cases hn with ⟨rfl, h1, h2, h3, h4, h5, h6, -⟩ | ⟨rfl, h3, h4, h5, h6, -, -⟩ | ⟨rfl, hl, -⟩ | ⟨rfl, hl, -⟩ | ⟨rfl, hl, -⟩
    · have E : Hid (strOfNums (textF (d + 1) (.mk 1 t p x ks)) = strOfNums [48 + t] ++ strOfNums [97 + p] ++ ⟨#[61]⟩ ++ strOfNums [48 + x]) := hide (by
        rw [show (⟨#[61]⟩ : ByteArray) = strOfNums [61] from rfl, strN_app, strN_app, strN_app]
        simp [textF, Cd.op, Cd.th, Cd.pl, Cd.val])
      have z0 : (strOfNums [48 + t]).size ≤ 4096 := by rw [size_strN]; simp
      have z1 : (strOfNums [97 + p]).size ≤ 4096 := by rw [size_strN]; simp
      have z2 : (strOfNums [48 + x]).size ≤ 4096 := by rw [size_strN]; simp
      have HC0 := hide (fun w' => l17Dec_dig t w' h1 (by omega))
      have HC1 := hide (fun w' => l1Letter_any 97 p w' h3 (by omega) (by omega) (by omega))
      have HC2 := hide (fun w' => l17Dec_dig x w' h5 (by omega))
      clear hn hk ih h hpow
      generalize strOfNums [48 + t] = T0 at *
      generalize strOfNums [97 + p] = T1 at *
      generalize strOfNums [48 + x] = T2 at *
      go_enter Try.func73, Try.ntmps73
      go_wp2_with fail
      refine wp_region_bw (by kernel_rfl) (by kernel_rfl) ?_
      repeat (go_big_quiet_step (first | (go_at_call 152; (with_reducible exact Calls.bw (HC0.out _))) | (go_at_call 153; (with_reducible exact Calls.bw (HC1.out _))) | (go_at_call 152; (with_reducible exact Calls.bw (HC2.out _)))))
      refine wpQuiet_nil ?_
      intro w1 hb1
      go_wp2_with fail
      go_ret
      rw [E.out]
      exact ⟨rfl, HB.out.trans (hb1.mono HB.out.size)⟩
    · have E : Hid (strOfNums (textF (d + 1) (.mk 2 t p x ks)) = strOfNums [120 + p] ++ ⟨#[61]⟩ ++ strOfNums [48 + x]) := hide (by
        rw [show (⟨#[61]⟩ : ByteArray) = strOfNums [61] from rfl, strN_app, strN_app]
        simp [textF, Cd.op, Cd.pl, Cd.val])
      have z1 : (strOfNums [120 + p]).size ≤ 4096 := by rw [size_strN]; simp
      have z2 : (strOfNums [48 + x]).size ≤ 4096 := by rw [size_strN]; simp
      have HC1 := hide (fun w' => l1Letter_any 120 p w' h3 (by omega) (by omega) (by omega))
      have HC2 := hide (fun w' => l17Dec_dig x w' h5 (by omega))
      clear hn hk ih h hpow
      generalize strOfNums [120 + p] = T1 at *
      generalize strOfNums [48 + x] = T2 at *
      go_enter Try.func73, Try.ntmps73
      go_wp2_with fail
      refine wp_region_bw (by kernel_rfl) (by kernel_rfl) ?_
      repeat (go_big_quiet_step (first | (go_at_call 153; (with_reducible exact Calls.bw (HC1.out _))) | (go_at_call 152; (with_reducible exact Calls.bw (HC2.out _)))))
      refine wpQuiet_nil ?_
      intro w1 hb1
      go_wp2_with fail
      go_ret
      rw [E.out]
      exact ⟨rfl, HB.out.trans (hb1.mono HB.out.size)⟩
    · obtain ⟨k0, g0⟩ := get_of_lt (xs := ks) (k := 0) (by have : ks.length = 2 := hl; omega)
      obtain ⟨k1, g1⟩ := get_of_lt (xs := ks) (k := 1) (by have : ks.length = 2 := hl; omega)
      obtain ⟨b1, o1, s0, rfl, hbl, i0, i1, i2, i3, i4, i5⟩ := h.kid g0
      obtain ⟨b1', o1', s1, hbe, -, j0, j1, j2, j3, j4, j5⟩ := h.kid g1
      simp only [Option.some.injEq, Addr.mk.injEq, and_true] at hbe
      obtain ⟨rfl, rfl⟩ := hbe
      simp only [Nat.zero_mul, Nat.add_zero, Nat.one_mul] at i0 i1 i2 i3 i4 j0 j1 j2 j3 j4
      have HC0 := hide (fun w' h' => IH.out k0.op k0.th k0.pl k0.val k0.kids s0.a s0.n s0.cap w' h' (by rw [Cd.eta]; exact hk k0 (List.mem_of_getElem? g0)))
      have HC1 := hide (fun w' h' => IH.out k1.op k1.th k1.pl k1.val k1.kids s1.a s1.n s1.cap w' h' (by rw [Cd.eta]; exact hk k1 (List.mem_of_getElem? g1)))
      have E : Hid (strOfNums (textF (d + 1) (.mk 3 t p x ks)) = ⟨#[40]⟩ ++ strOfNums (textF d k0) ++ ⟨#[38]⟩ ++ strOfNums (textF d k1) ++ ⟨#[41]⟩) := hide (by
        rw [show (⟨#[40]⟩ : ByteArray) = strOfNums [40] from rfl, show (⟨#[38]⟩ : ByteArray) = strOfNums [38] from rfl, show (⟨#[41]⟩ : ByteArray) = strOfNums [41] from rfl, strN_app, strN_app, strN_app, strN_app]
        simp [textF, Cd.op, kid_of g0, kid_of g1])
      have z0 : (strOfNums (textF d k0)).size ≤ 4096 := by rw [size_strN]; have := textF_len d k0; omega
      have z1 : (strOfNums (textF d k1)).size ≤ 4096 := by rw [size_strN]; have := textF_len d k1; omega
      rw [Cd.eta] at HC0 HC1
      have I5 := hide (i5.below HB.out); have J5 := hide (j5.below HB.out)
      obtain rfl : n = 2 := E1.out.trans hl
      clear hn hk ih h hpow g0 g1 i5 j5 hl
      generalize strOfNums (textF d k0) = T0 at *
      generalize strOfNums (textF d k1) = T1 at *
      go_enter Try.func73, Try.ntmps73
      go_wp2_with fail
      refine wp_region_bw (by kernel_rfl) (by kernel_rfl) ?_
      repeat (go_big_quiet_step (first | (go_at_call 73; (with_reducible exact Calls.bw (HC0.out _ (I5.out.below (BW.prop _))))) | (go_at_call 73; (with_reducible exact Calls.bw (HC1.out _ (J5.out.below (BW.prop _)))))))
      refine wpQuiet_nil ?_
      intro w1 hb1
      go_wp2_with fail
      go_ret
      rw [E.out]
      exact ⟨rfl, HB.out.trans (hb1.mono HB.out.size)⟩
    · obtain ⟨k0, g0⟩ := get_of_lt (xs := ks) (k := 0) (by have : ks.length = 2 := hl; omega)
      obtain ⟨k1, g1⟩ := get_of_lt (xs := ks) (k := 1) (by have : ks.length = 2 := hl; omega)
      obtain ⟨b1, o1, s0, rfl, hbl, i0, i1, i2, i3, i4, i5⟩ := h.kid g0
      obtain ⟨b1', o1', s1, hbe, -, j0, j1, j2, j3, j4, j5⟩ := h.kid g1
      simp only [Option.some.injEq, Addr.mk.injEq, and_true] at hbe
      obtain ⟨rfl, rfl⟩ := hbe
      simp only [Nat.zero_mul, Nat.add_zero, Nat.one_mul] at i0 i1 i2 i3 i4 j0 j1 j2 j3 j4
      have HC0 := hide (fun w' h' => IH.out k0.op k0.th k0.pl k0.val k0.kids s0.a s0.n s0.cap w' h' (by rw [Cd.eta]; exact hk k0 (List.mem_of_getElem? g0)))
      have HC1 := hide (fun w' h' => IH.out k1.op k1.th k1.pl k1.val k1.kids s1.a s1.n s1.cap w' h' (by rw [Cd.eta]; exact hk k1 (List.mem_of_getElem? g1)))
      have E : Hid (strOfNums (textF (d + 1) (.mk 4 t p x ks)) = ⟨#[40]⟩ ++ strOfNums (textF d k0) ++ ⟨#[124]⟩ ++ strOfNums (textF d k1) ++ ⟨#[41]⟩) := hide (by
        rw [show (⟨#[40]⟩ : ByteArray) = strOfNums [40] from rfl, show (⟨#[124]⟩ : ByteArray) = strOfNums [124] from rfl, show (⟨#[41]⟩ : ByteArray) = strOfNums [41] from rfl, strN_app, strN_app, strN_app, strN_app]
        simp [textF, Cd.op, kid_of g0, kid_of g1])
      have z0 : (strOfNums (textF d k0)).size ≤ 4096 := by rw [size_strN]; have := textF_len d k0; omega
      have z1 : (strOfNums (textF d k1)).size ≤ 4096 := by rw [size_strN]; have := textF_len d k1; omega
      rw [Cd.eta] at HC0 HC1
      have I5 := hide (i5.below HB.out); have J5 := hide (j5.below HB.out)
      obtain rfl : n = 2 := E1.out.trans hl
      clear hn hk ih h hpow g0 g1 i5 j5 hl
      generalize strOfNums (textF d k0) = T0 at *
      generalize strOfNums (textF d k1) = T1 at *
      go_enter Try.func73, Try.ntmps73
      go_wp2_with fail
      refine wp_region_bw (by kernel_rfl) (by kernel_rfl) ?_
      repeat (go_big_quiet_step (first | (go_at_call 73; (with_reducible exact Calls.bw (HC0.out _ (I5.out.below (BW.prop _))))) | (go_at_call 73; (with_reducible exact Calls.bw (HC1.out _ (J5.out.below (BW.prop _)))))))
      refine wpQuiet_nil ?_
      intro w1 hb1
      go_wp2_with fail
      go_ret
      rw [E.out]
      exact ⟨rfl, HB.out.trans (hb1.mono HB.out.size)⟩
    · obtain ⟨k0, g0⟩ := get_of_lt (xs := ks) (k := 0) (by have : ks.length = 1 := hl; omega)
      obtain ⟨b1, o1, s0, rfl, hbl, i0, i1, i2, i3, i4, i5⟩ := h.kid g0
      simp only [Nat.zero_mul, Nat.add_zero] at i0 i1 i2 i3 i4
      have HC0 := hide (fun w' h' => IH.out k0.op k0.th k0.pl k0.val k0.kids s0.a s0.n s0.cap w' h' (by rw [Cd.eta]; exact hk k0 (List.mem_of_getElem? g0)))
      have E : Hid (strOfNums (textF (d + 1) (.mk 5 t p x ks)) = ⟨#[126]⟩ ++ strOfNums (textF d k0)) := hide (by
        rw [show (⟨#[126]⟩ : ByteArray) = strOfNums [126] from rfl, strN_app]
        simp [textF, Cd.op, kid_of g0])
      have z0 : (strOfNums (textF d k0)).size ≤ 4096 := by rw [size_strN]; have := textF_len d k0; omega
      rw [Cd.eta] at HC0
      have I5 := hide (i5.below HB.out)
      obtain rfl : n = 1 := E1.out.trans hl
      clear hn hk ih h hpow g0 i5 hl
      generalize strOfNums (textF d k0) = T0 at *
      go_enter Try.func73, Try.ntmps73
      go_wp2_with fail
      (with_reducible refine (HC0.out _ I5.out).mono ?_); rintro e w1 ⟨rfl, hb1⟩
      go_wp2_with fail
      go_ret
      rw [E.out]
      exact ⟨rfl, HB.out.trans (hb1.mono HB.out.size)⟩



def fmtC (c : Cd) : ByteArray := if validC c = true then strOfNums (textF 10 c) else ⟨#[]⟩

set_option maxHeartbeats 800000 in
theorem FormatCond_any (o t p x : Int) (ks : List Cd) (a : Option Addr) (n c : Nat) (w : World) (h : RepK 0 w ⟨a, n, c⟩ ks) :
    Calls Try.prog 14 #[.agg #[.int .i64 o, .int .i64 t, .int .i64 p, .int .i64 x, .slice a n c]] w fun e w' => e = .returned (.string (fmtC (.mk o t p x ks))) ∧ Below w.heap.size w w' := by
  have HB := hide ((Below.refl w.heap.size w).alloc (Nat.le_refl _) (.cells #[.int .i64 o, .int .i64 t, .int .i64 p, .int .i64 x, .slice a n c] 25))
  have HP := hide (h.below HB.out)
  have HV := hide (CondValid_raw o t p x ks a n c _ HP.out)
  have HT := hide (fun hs w' h' => condText_any 10 (Nat.le_refl _) o t p x ks a n c w' h' hs)
  have E : Hid (fmtC (.mk o t p x ks) = if validC (.mk o t p x ks) = true then strOfNums (textF 10 (.mk o t p x ks)) else ⟨#[]⟩) := hide rfl
  have HS : Hid (validC (.mk o t p x ks) = true → shapeF 10 (.mk o t p x ks) = true) := hide (by unfold validC; simp; intro h _; exact h)
  clear h
  generalize Cd.mk o t p x ks = C at *
  generalize validC C = b at *
  cases b
  · have E2 : Hid (fmtC C = ⟨#[]⟩) := hide (by rw [E.out]; rfl)
    go_enter Try.func14, Try.ntmps14
    go_wp2_with fail
    (with_reducible refine HV.out.mono ?_); rintro e w1 ⟨rfl, hb1⟩
    go_wp2_with fail
    go_ret
    exact ⟨by rw [E2.out]; rfl, HB.out.trans (hb1.mono HB.out.size)⟩
  · have E2 : Hid (fmtC C = strOfNums (textF 10 C)) := hide (by rw [E.out]; rfl)
    have HT2 := hide (HT.out (HS.out rfl))
    clear E HT HS
    generalize strOfNums (textF 10 C) = T at *
    go_enter Try.func14, Try.ntmps14
    go_wp2_with fail
    (with_reducible refine HV.out.mono ?_); rintro e w1 ⟨rfl, hb1⟩
    obtain ⟨hc1, hf1⟩ := bcell hb1
    go_wp2_with fail
    (with_reducible refine (HT2.out _ (HP.out.below hb1)).mono ?_); rintro e w2 ⟨rfl, hb2⟩
    go_wp2_with fail
    go_ret
    exact ⟨by rw [E2.out]; rfl, HB.out.trans ((hb1.trans (hb2.mono hb1.size)).mono HB.out.size)⟩

set_option maxHeartbeats 800000 in
theorem FormatCondS_any (o t p x : Int) (ks : List Cd) (a : Option Addr) (n c : Nat) (w : World) (h : RepK 0 w ⟨a, n, c⟩ ks) (hl : descs ks ≤ 1048576) :
    Calls Try.prog 16 #[.agg #[.int .i64 o, .int .i64 t, .int .i64 p, .int .i64 x, .slice a n c]] w fun e w' => e = .returned (.string (fmtC (.mk o t p x ks))) ∧ Below w.heap.size w w' := by
  have HB := hide ((Below.refl w.heap.size w).alloc (Nat.le_refl _) (.cells #[.int .i64 o, .int .i64 t, .int .i64 p, .int .i64 x, .slice a n c] 25))
  have HP := hide (h.below HB.out)
  have HV := hide (CondValidS_raw o t p x ks a n c _ HP.out hl)
  have HT := hide (fun hs w' h' => l11Text_any 10 (Nat.le_refl _) o t p x ks a n c w' h' hs)
  have E : Hid (fmtC (.mk o t p x ks) = if validC (.mk o t p x ks) = true then strOfNums (textF 10 (.mk o t p x ks)) else ⟨#[]⟩) := hide rfl
  have HS : Hid (validC (.mk o t p x ks) = true → shapeF 10 (.mk o t p x ks) = true) := hide (by unfold validC; simp; intro h _; exact h)
  clear h
  generalize Cd.mk o t p x ks = C at *
  generalize validC C = b at *
  cases b
  · have E2 : Hid (fmtC C = ⟨#[]⟩) := hide (by rw [E.out]; rfl)
    go_enter Try.func16, Try.ntmps16
    go_wp2_with fail
    (with_reducible refine HV.out.mono ?_); rintro e w1 ⟨rfl, hb1⟩
    go_wp2_with fail
    go_ret
    exact ⟨by rw [E2.out]; rfl, HB.out.trans (hb1.mono HB.out.size)⟩
  · have E2 : Hid (fmtC C = strOfNums (textF 10 C)) := hide (by rw [E.out]; rfl)
    have HT2 := hide (HT.out (HS.out rfl))
    clear E HT HS
    generalize strOfNums (textF 10 C) = T at *
    go_enter Try.func16, Try.ntmps16
    go_wp2_with fail
    (with_reducible refine HV.out.mono ?_); rintro e w1 ⟨rfl, hb1⟩
    obtain ⟨hc1, hf1⟩ := bcell hb1
    go_wp2_with fail
    (with_reducible refine (HT2.out _ (HP.out.below hb1)).mono ?_); rintro e w2 ⟨rfl, hb2⟩
    go_wp2_with fail
    go_ret
    exact ⟨by rw [E2.out]; rfl, HB.out.trans ((hb1.trans (hb2.mono hb1.size)).mono HB.out.size)⟩

end Go.Proofs.Ytpnmphfdfadlcaa
