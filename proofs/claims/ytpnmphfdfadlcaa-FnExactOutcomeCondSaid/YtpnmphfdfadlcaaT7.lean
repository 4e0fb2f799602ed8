/-
  Texts of conditions, in the program and in the reference. No condition but a bound on sizes.
-/
import Derived.Test.YtpnmphfdfadlcaaT6
import Derived.Laws.BytesArg
namespace Go.Proofs.Ytpnmphfdfadlcaa
open Go.RowKit

theorem one_byte (u : World) (B : Int) : (convert 22 9 (.slice (some ⟨u.heap.size, 0, none⟩) 1 1)).run Try.prog (u.alloc (.cells #[.int .u8 B] 5)) = .ok (.string (strOfNums [B])) (u.alloc (.cells #[.int .u8 B] 5)) :=
  run_convert_bytes_arg (u.alloc (.cells #[.int .u8 B] 5)) 22 5 Try.underlying22 Try.underlying5 u.heap.size 0 1 1 [B] rfl (fun i hi => by
    obtain rfl : i = 0 := by omega
    simp [go_sem]) 9 Try.underlying9

theorem strN_app (a b : List Int) : strOfNums a ++ strOfNums b = strOfNums (a ++ b) := by
  apply ByteArray.ext
  simp [strOfNums]
theorem strN_nil : strOfNums [] = ⟨#[]⟩ := by
  apply ByteArray.ext
  simp [strOfNums]
theorem strN_empty (a : List Int) : strOfNums a ++ ⟨#[]⟩ = strOfNums a := by rw [← strN_nil, strN_app, List.append_nil]

theorem l17Dec_dig (x : Int) (w : World) (h0 : 0 ≤ x) (h1 : x ≤ 9) :
    Calls Try.prog 152 #[.int .i64 x] w fun e w' => e = .returned (.string (strOfNums [48 + x])) ∧ Below w.heap.size w w' := by
  have kc := one_byte
  go_enter Try.func152, Try.ntmps152
  go_wp2_with fail
  go_loopw [0, 3] (fun q i wr => q = .int .i64 x ∧ i = .string ⟨#[]⟩ ∧ wr = w) (fun _ i _ => 0)
  case atStart => exact ⟨rfl, rfl, rfl⟩
  case round =>
    obtain ⟨rfl, rfl, rfl⟩ := hrel
    go_wp2_with fail
    go_ret
    exact ⟨by rw [← strN_empty]; rfl, (Below.refl _ _).alloc (Nat.le_refl _) _⟩

theorem l1Letter_any (b x : Int) (w : World) (h0 : 0 ≤ x) (h1 : x ≤ 9) (h2 : 0 ≤ b) (h3 : b ≤ 200) :
    Calls Try.prog 153 #[.int .u8 b, .int .i64 x] w fun e w' => e = .returned (.string (strOfNums [b + x])) ∧ Below w.heap.size w w' := by
  have kc := one_byte
  go_enter Try.func153, Try.ntmps153
  go_wp2_with fail
  go_ret
  exact ⟨rfl, (Below.refl _ _).alloc (Nat.le_refl _) _⟩

def Cd.kid (c : Cd) (i : Nat) : Cd := c.kids.getD i (.mk 0 0 0 0 [])

/-- The text of a valid condition, byte by byte. -/
def textF : Nat → Cd → List Int
  | 0, _ => []
  | d + 1, c =>
    if c.op = 1 then [48 + c.th] ++ [97 + c.pl] ++ [61] ++ [48 + c.val]
    else if c.op = 2 then [120 + c.pl] ++ [61] ++ [48 + c.val]
    else if c.op = 3 then [40] ++ textF d (c.kid 0) ++ [38] ++ textF d (c.kid 1) ++ [41]
    else if c.op = 4 then [40] ++ textF d (c.kid 0) ++ [124] ++ textF d (c.kid 1) ++ [41]
    else [126] ++ textF d (c.kid 0)

theorem textF_len : ∀ (d : Nat) (c : Cd), (textF d c).length + 4 ≤ 4 * 2 ^ d := by
  intro d
  induction d with
  | zero => intro c; simp [textF]
  | succ d ih =>
    intro c
    have h0 := ih (c.kid 0)
    have h1 := ih (c.kid 1)
    have h2 : 1 ≤ 2 ^ d := Nat.one_le_two_pow
    rw [Nat.pow_succ]
    unfold textF
    split
    · simp; omega
    · split
      · simp; omega
      · split
        · simp; omega
        · split
          · simp; omega
          · simp; omega

theorem dig_cut (x : Int) (h0 : 0 ≤ x) (h1 : x ≤ 3) : (⟨#[48, 49, 50, 51, 52, 53, 54, 55, 56, 57]⟩ : ByteArray).extract x.toNat (x + 1).toNat = strOfNums [48 + x] := by
  have : x = 0 ∨ x = 1 ∨ x = 2 ∨ x = 3 := by omega
  rcases this with rfl | rfl | rfl | rfl <;> rfl
theorem reg_cut (x : Int) (h0 : 0 ≤ x) (h1 : x ≤ 2) : (⟨#[97, 98, 99]⟩ : ByteArray).extract x.toNat (x + 1).toNat = strOfNums [97 + x] := by
  have : x = 0 ∨ x = 1 ∨ x = 2 := by omega
  rcases this with rfl | rfl | rfl <;> rfl
theorem loc_cut (x : Int) (h0 : 0 ≤ x) (h1 : x ≤ 2) : (⟨#[120, 121, 122]⟩ : ByteArray).extract x.toNat (x + 1).toNat = strOfNums [120 + x] := by
  have : x = 0 ∨ x = 1 ∨ x = 2 := by omega
  rcases this with rfl | rfl | rfl <;> rfl

theorem nodeR_cases {o t p x : Int} {n : Nat} (h : nodeR o t p x n = true) :
    (o = 1 ∧ 0 ≤ t ∧ t ≤ 2 ∧ 0 ≤ p ∧ p ≤ 2 ∧ 0 ≤ x ∧ x ≤ 3 ∧ n = 0) ∨ (o = 2 ∧ 0 ≤ p ∧ p ≤ 2 ∧ 0 ≤ x ∧ x ≤ 3 ∧ n = 0 ∧ t = 0) ∨ (o = 3 ∧ n = 2 ∧ t = 0 ∧ p = 0 ∧ x = 0) ∨ (o = 4 ∧ n = 2 ∧ t = 0 ∧ p = 0 ∧ x = 0) ∨ (o = 5 ∧ n = 1 ∧ t = 0 ∧ p = 0 ∧ x = 0) := by
  unfold nodeR inR at h
  split at h
  · simp only [Bool.and_eq_true, decide_eq_true_eq] at h; omega
  · split at h
    · simp only [Bool.and_eq_true, decide_eq_true_eq] at h; omega
    · split at h
      · simp only [Bool.and_eq_true, decide_eq_true_eq] at h; omega
      · simp only [Bool.and_eq_true, decide_eq_true_eq] at h; omega

theorem kid_of {o t p x : Int} {ks : List Cd} {i : Nat} {k : Cd} (h : ks[i]? = some k) : (Cd.mk o t p x ks).kid i = k := by
  unfold Cd.kid Cd.kids
  rw [List.getD_eq_getElem?_getD, h]; rfl

/-- So does a function write conditions out: fn is its number. -/
def TextsAt (fn : FuncId) (d : Nat) : Prop := ∀ (o t p x : Int) (ks : List Cd) (a : Option Addr) (n c : Nat) (w : World), RepK 0 w ⟨a, n, c⟩ ks → shapeF d (.mk o t p x ks) = true →
  Calls Try.prog fn #[.agg #[.int .i64 o, .int .i64 t, .int .i64 p, .int .i64 x, .slice a n c]] w fun e w' => e = .returned (.string (strOfNums (textF d (.mk o t p x ks)))) ∧ Below w.heap.size w w'

theorem size_strN (l : List Int) : (strOfNums l).size = l.length := by simp [strOfNums, ByteArray.size]

set_option maxRecDepth 100000 in
set_option maxHeartbeats 3200000 in
theorem condText_any : ∀ (d : Nat), d ≤ 10 → TextsAt 71 d := by
  intro d
  induction d with
  | zero => intro _ o t p x ks a n c w h hs; simp [shapeF] at hs
  | succ d ih =>
    intro hd o t p x ks a n c w h hs
    have IH := hide (ih (by omega))
    rw [shapeF_succ] at hs
    obtain ⟨hn, hk⟩ := hs
    replace hn : nodeR o t p x ks.length = true := hn
    obtain ⟨e1, hc1, hc2, hc3⟩ := h.open
    simp only at e1 hc1 hc2 hc3
    rw [← e1] at hc1 hc2
    have E1 := hide e1; clear e1
    have HB := hide ((Below.refl w.heap.size w).alloc (Nat.le_refl _) (.cells #[.int .i64 o, .int .i64 t, .int .i64 p, .int .i64 x, .slice a n c] 25))
    have HP := hide (h.below HB.out)
    have hpow : 2 ^ d ≤ 2 ^ 10 := Nat.pow_le_pow_right (by omega) (by omega)
    rcases nodeR_cases hn with ⟨rfl, h1, h2, h3, h4, h5, h6, -⟩ | ⟨rfl, h3, h4, h5, h6, -, -⟩ | ⟨rfl, hl, -⟩ | ⟨rfl, hl, -⟩ | ⟨rfl, hl, -⟩
    · have E : Hid (strOfNums (textF (d + 1) (.mk 1 t p x ks)) = (⟨#[48, 49, 50, 51, 52, 53, 54, 55, 56, 57]⟩ : ByteArray).extract t.toNat (t + 1).toNat ++ (⟨#[97, 98, 99]⟩ : ByteArray).extract p.toNat (p + 1).toNat ++ ⟨#[61]⟩ ++ (⟨#[48, 49, 50, 51, 52, 53, 54, 55, 56, 57]⟩ : ByteArray).extract x.toNat (x + 1).toNat) := hide (by
        rw [dig_cut t h1 (by omega), reg_cut p h3 h4, dig_cut x h5 h6, show (⟨#[61]⟩ : ByteArray) = strOfNums [61] from rfl, strN_app, strN_app, strN_app]
        simp [textF, Cd.op, Cd.th, Cd.pl, Cd.val])
      clear hn hk ih h hpow
      go_enter Try.func71, Try.ntmps71
      go_wp2_with fail
      refine wp_region_bw (by kernel_rfl) (by kernel_rfl) ?_
      repeat (go_big_quiet_step (fail))
      refine wpQuiet_nil ?_
      intro w1 hb1
      go_wp2_with fail
      go_ret
      rw [E.out]
      exact ⟨rfl, HB.out.trans (hb1.mono HB.out.size)⟩
    · have E : Hid (strOfNums (textF (d + 1) (.mk 2 t p x ks)) = (⟨#[120, 121, 122]⟩ : ByteArray).extract p.toNat (p + 1).toNat ++ ⟨#[61]⟩ ++ (⟨#[48, 49, 50, 51, 52, 53, 54, 55, 56, 57]⟩ : ByteArray).extract x.toNat (x + 1).toNat) := hide (by
        rw [loc_cut p h3 h4, dig_cut x h5 h6, show (⟨#[61]⟩ : ByteArray) = strOfNums [61] from rfl, strN_app, strN_app]
        simp [textF, Cd.op, Cd.pl, Cd.val])
      clear hn hk ih h hpow
      go_enter Try.func71, Try.ntmps71
      go_wp2_with fail
      refine wp_region_bw (by kernel_rfl) (by kernel_rfl) ?_
      repeat (go_big_quiet_step (fail))
      refine wpQuiet_nil ?_
      intro w1 hb1
      go_wp2_with fail
      go_ret
      rw [E.out]
      exact ⟨rfl, HB.out.trans (hb1.mono HB.out.size)⟩
    · obtain ⟨k0, g0⟩ := get_of_lt (xs := ks) (k := 0) (by have : ks.length = 2 := hl; omega)
      obtain ⟨k1, g1⟩ := get_of_lt (xs := ks) (k := 1) (by have : ks.length = 2 := hl; omega)
      obtain ⟨b1, o1, s0, rfl, hbl, i0, i1, i2, i3, i4, i5⟩ := h.kid g0
      obtain ⟨b1', o1', s1, hbe, -, j0, j1, j2, j3, j4, j5⟩ := h.kid g1
      simp only [Option.some.injEq, Addr.mk.injEq, and_true] at hbe
      obtain ⟨rfl, rfl⟩ := hbe
      simp only [Nat.zero_mul, Nat.add_zero, Nat.one_mul] at i0 i1 i2 i3 i4 j0 j1 j2 j3 j4
      have HC0 := hide (fun w' h' => IH.out k0.op k0.th k0.pl k0.val k0.kids s0.a s0.n s0.cap w' h' (by rw [Cd.eta]; exact hk k0 (List.mem_of_getElem? g0)))
      have HC1 := hide (fun w' h' => IH.out k1.op k1.th k1.pl k1.val k1.kids s1.a s1.n s1.cap w' h' (by rw [Cd.eta]; exact hk k1 (List.mem_of_getElem? g1)))
      have E : Hid (strOfNums (textF (d + 1) (.mk 3 t p x ks)) = ⟨#[40]⟩ ++ strOfNums (textF d k0) ++ ⟨#[38]⟩ ++ strOfNums (textF d k1) ++ ⟨#[41]⟩) := hide (by
        rw [show (⟨#[40]⟩ : ByteArray) = strOfNums [40] from rfl, show (⟨#[38]⟩ : ByteArray) = strOfNums [38] from rfl, show (⟨#[41]⟩ : ByteArray) = strOfNums [41] from rfl, strN_app, strN_app, strN_app, strN_app]
        simp [textF, Cd.op, kid_of g0, kid_of g1])
      have z0 : (strOfNums (textF d k0)).size ≤ 4096 := by rw [size_strN]; have := textF_len d k0; omega
      have z1 : (strOfNums (textF d k1)).size ≤ 4096 := by rw [size_strN]; have := textF_len d k1; omega
      rw [Cd.eta] at HC0 HC1
      have I5 := hide (i5.below HB.out); have J5 := hide (j5.below HB.out)
      obtain rfl : n = 2 := E1.out.trans hl
      clear hn hk ih h hpow g0 g1 i5 j5 hl
      generalize strOfNums (textF d k0) = T0 at *
      generalize strOfNums (textF d k1) = T1 at *
      go_enter Try.func71, Try.ntmps71
      go_wp2_with fail
      refine wp_region_bw (by kernel_rfl) (by kernel_rfl) ?_
      repeat (go_big_quiet_step (first | (go_at_call 71; (with_reducible exact Calls.bw (HC0.out _ (I5.out.below (BW.prop _))))) | (go_at_call 71; (with_reducible exact Calls.bw (HC1.out _ (J5.out.below (BW.prop _)))))))
      refine wpQuiet_nil ?_
      intro w1 hb1
      go_wp2_with fail
      go_ret
      rw [E.out]
      exact ⟨rfl, HB.out.trans (hb1.mono HB.out.size)⟩
    · obtain ⟨k0, g0⟩ := get_of_lt (xs := ks) (k := 0) (by have : ks.length = 2 := hl; omega)
      obtain ⟨k1, g1⟩ := get_of_lt (xs := ks) (k := 1) (by have : ks.length = 2 := hl; omega)
      obtain ⟨b1, o1, s0, rfl, hbl, i0, i1, i2, i3, i4, i5⟩ := h.kid g0
      obtain ⟨b1', o1', s1, hbe, -, j0, j1, j2, j3, j4, j5⟩ := h.kid g1
      simp only [Option.some.injEq, Addr.mk.injEq, and_true] at hbe
      obtain ⟨rfl, rfl⟩ := hbe
      simp only [Nat.zero_mul, Nat.add_zero, Nat.one_mul] at i0 i1 i2 i3 i4 j0 j1 j2 j3 j4
      have HC0 := hide (fun w' h' => IH.out k0.op k0.th k0.pl k0.val k0.kids s0.a s0.n s0.cap w' h' (by rw [Cd.eta]; exact hk k0 (List.mem_of_getElem? g0)))
      have HC1 := hide (fun w' h' => IH.out k1.op k1.th k1.pl k1.val k1.kids s1.a s1.n s1.cap w' h' (by rw [Cd.eta]; exact hk k1 (List.mem_of_getElem? g1)))
      have E : Hid (strOfNums (textF (d + 1) (.mk 4 t p x ks)) = ⟨#[40]⟩ ++ strOfNums (textF d k0) ++ ⟨#[124]⟩ ++ strOfNums (textF d k1) ++ ⟨#[41]⟩) := hide (by
        rw [show (⟨#[40]⟩ : ByteArray) = strOfNums [40] from rfl, show (⟨#[124]⟩ : ByteArray) = strOfNums [124] from rfl, show (⟨#[41]⟩ : ByteArray) = strOfNums [41] from rfl, strN_app, strN_app, strN_app, strN_app]
        simp [textF, Cd.op, kid_of g0, kid_of g1])
      have z0 : (strOfNums (textF d k0)).size ≤ 4096 := by rw [size_strN]; have := textF_len d k0; omega
      have z1 : (strOfNums (textF d k1)).size ≤ 4096 := by rw [size_strN]; have := textF_len d k1; omega
      rw [Cd.eta] at HC0 HC1
      have I5 := hide (i5.below HB.out); have J5 := hide (j5.below HB.out)
      obtain rfl : n = 2 := E1.out.trans hl
      clear hn hk ih h hpow g0 g1 i5 j5 hl
      generalize strOfNums (textF d k0) = T0 at *
      generalize strOfNums (textF d k1) = T1 at *
      go_enter Try.func71, Try.ntmps71
      go_wp2_with fail
      refine wp_region_bw (by kernel_rfl) (by kernel_rfl) ?_
      repeat (go_big_quiet_step (first | (go_at_call 71; (with_reducible exact Calls.bw (HC0.out _ (I5.out.below (BW.prop _))))) | (go_at_call 71; (with_reducible exact Calls.bw (HC1.out _ (J5.out.below (BW.prop _)))))))
      refine wpQuiet_nil ?_
      intro w1 hb1
      go_wp2_with fail
      go_ret
      rw [E.out]
      exact ⟨rfl, HB.out.trans (hb1.mono HB.out.size)⟩
    · obtain ⟨k0, g0⟩ := get_of_lt (xs := ks) (k := 0) (by have : ks.length = 1 := hl; omega)
      obtain ⟨b1, o1, s0, rfl, hbl, i0, i1, i2, i3, i4, i5⟩ := h.kid g0
      simp only [Nat.zero_mul, Nat.add_zero] at i0 i1 i2 i3 i4
      have HC0 := hide (fun w' h' => IH.out k0.op k0.th k0.pl k0.val k0.kids s0.a s0.n s0.cap w' h' (by rw [Cd.eta]; exact hk k0 (List.mem_of_getElem? g0)))
      have E : Hid (strOfNums (textF (d + 1) (.mk 5 t p x ks)) = ⟨#[126]⟩ ++ strOfNums (textF d k0)) := hide (by
        rw [show (⟨#[126]⟩ : ByteArray) = strOfNums [126] from rfl, strN_app]
        simp [textF, Cd.op, kid_of g0])
      have z0 : (strOfNums (textF d k0)).size ≤ 4096 := by rw [size_strN]; have := textF_len d k0; omega
      rw [Cd.eta] at HC0
      have I5 := hide (i5.below HB.out)
      obtain rfl : n = 1 := E1.out.trans hl
      clear hn hk ih h hpow g0 i5 hl
      generalize strOfNums (textF d k0) = T0 at *
      go_enter Try.func71, Try.ntmps71
      go_wp2_with fail
      (with_reducible refine (HC0.out _ I5.out).mono ?_); rintro e w1 ⟨rfl, hb1⟩
      go_wp2_with fail
      go_ret
      rw [E.out]
      exact ⟨rfl, HB.out.trans (hb1.mono HB.out.size)⟩

end Go.Proofs.Ytpnmphfdfadlcaa
