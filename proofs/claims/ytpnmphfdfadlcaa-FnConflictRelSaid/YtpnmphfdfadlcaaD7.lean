/-
  Texts that are cut and read by the reference. No condition but a bound on sizes.
-/
import Derived.Test.YtpnmphfdfadlcaaD6
import Derived.Test.YtpnmphfdfadlcaaT7
import Derived.Test.YtpnmphfdfadlcaaF10
namespace Go.Proofs.Ytpnmphfdfadlcaa
open Go.RowKit

theorem Try.infoStr : (Try.prog.info? 9).map (fun i => (i.zero, i.size, i.bytes)) = some (some (.string ⟨#[]⟩), 1, 16) := by kernel_rfl

/-- Texts. -/
def StrE : El ByteArray := ⟨1, by decide, fun x => [.string x], fun _ => rfl, fun x u h => by simp at h; subst h; rfl⟩

theorem Rep.str {w : World} {a : Option Addr} {n c : Nat} {xs : List ByteArray} (h : Rep StrE w (.slice a n c) xs) {k : Nat} {x : ByteArray} (hx : xs[k]? = some x) :
    ∃ b o, a = some ⟨b, o, none⟩ ∧ b < w.heap.size ∧ w.cell? ⟨b, o + k, none⟩ = some (.string x) := by
  obtain ⟨a', c', hv, _, _, h⟩ := h
  simp only [Value.slice.injEq] at hv
  obtain ⟨rfl, rfl, rfl⟩ := hv
  obtain ⟨b, o, rfl, h'⟩ := h k x hx
  have := h' 0 _ rfl
  simp only [StrE, Nat.mul_one, Nat.add_zero] at this
  exact ⟨b, o, rfl, lt_of_cell this, this⟩

/-- Byte i. -/
def byteAt (s : ByteArray) (i : Int) : Int := if h : 0 ≤ i ∧ i < s.size then ((s[i.toNat]'(by omega)).toNat : Int) else 0

/-- The value of a letter or a digit, or -1. -/
def placeV (s : ByteArray) (i f m : Int) : Int :=
  if i ≥ s.size then -1 else if byteAt s i < f then -1 else if byteAt s i - f > m then -1 else byteAt s i - f

theorem l1Place_any (s : ByteArray) (i f m : Int) (w : World) (h0 : 0 ≤ i) (hf : 0 ≤ f) (hf2 : f ≤ 255) :
    Calls Try.prog 162 #[.string s, .int .i64 i, .int .u8 f, .int .i64 m] w fun e w' => e = .returned (.int .i64 (placeV s i f m)) ∧ Below w.heap.size w w' := by
  by_cases hi : i < s.size
  · have hi1 : decide (i ≥ (s.size : Int)) = false := decide_eq_false (by omega)
    have hii : 0 ≤ i ∧ i < s.size := ⟨h0, hi⟩
    have hg : i.toNat < s.size := by omega
    have hP : placeV s i f m = if ((s[i.toNat]'hg).toNat : Int) < f then -1 else if ((s[i.toNat]'hg).toNat : Int) - f > m then -1 else ((s[i.toNat]'hg).toNat : Int) - f := by
      unfold placeV byteAt
      rw [if_neg (by omega), dif_pos hii]
    rw [hP]
    have hu : ((s[i.toNat]'hg).toNat : Int) ≤ 255 := by have := (s[i.toNat]'hg).toNat_lt; omega
    by_cases h1 : ((s[i.toNat]'hg).toNat : Int) < f
    · rw [if_pos h1]
      clear hP
      go_enter Try.func162, Try.ntmps162
      go_wp2_with fail
      go_ret
      exact ⟨rfl, Below.refl _ _⟩
    · have h1' : decide (((s[i.toNat]'hg).toNat : Int) < f) = false := decide_eq_false h1
      rw [if_neg h1]
      clear hP
      by_cases h2 : ((s[i.toNat]'hg).toNat : Int) - f > m
      · rw [if_pos h2]
        go_enter Try.func162, Try.ntmps162
        go_wp2_with fail
        go_ret
        exact ⟨rfl, Below.refl _ _⟩
      · have h2' : decide (((s[i.toNat]'hg).toNat : Int) - f > m) = false := decide_eq_false h2
        rw [if_neg h2]
        go_enter Try.func162, Try.ntmps162
        go_wp2_with fail
        go_ret
        exact ⟨rfl, Below.refl _ _⟩
  · have hi1 : decide (i ≥ (s.size : Int)) = true := decide_eq_true (by omega)
    have hP : placeV s i f m = -1 := by unfold placeV; rw [if_pos (by omega)]
    rw [hP]
    go_enter Try.func162, Try.ntmps162
    go_wp2_with fail
    go_ret
    exact ⟨rfl, Below.refl _ _⟩

/-- Some texts, in memory that the call made. -/
def RetStrs (w : World) (n m : Nat) (e : Ending) (w' : World) : Prop := ∃ v xs, e = .returned v ∧ Own StrE 9 w' w.heap.size v xs ∧ Below w.heap.size w w' ∧ xs.length ≤ n ∧ ∀ x ∈ xs, x.size ≤ m

set_option maxRecDepth 100000 in
set_option maxHeartbeats 800000 in
theorem l17Cut_any (s : ByteArray) (c : Int) (w : World) (hs : s.size ≤ 1000) :
    Calls Try.prog 217 #[.string s, .int .u8 c] w (RetStrs w (s.size + 1) s.size) := by
  go_enter Try.func217, Try.ntmps217
  go_wp2_with fail
  go_loopw [5, 6, 7] (fun v f i wr => ∃ (k fr : Nat) (xs : List ByteArray), i = .int .i64 k ∧ f = .int .i64 fr ∧ fr ≤ k ∧ k ≤ s.size + 1 ∧ Own StrE 9 wr w.heap.size v xs ∧ Below w.heap.size w wr ∧ xs.length ≤ k ∧ ∀ x ∈ xs, x.size ≤ s.size) (fun _ _ i _ => s.size + 1 - (intOf i).toNat)
  case atStart => exact ⟨0, 0, [], rfl, rfl, by omega, by omega, Own.empty _ w (Nat.le_refl _), (Below.refl _ _).alloc (Nat.le_refl _) _, by simp, by simp⟩
  case round =>
    obtain ⟨k, fr, xs, rfl, rfl, hfk, hk, ho, hb, hxl, hxs⟩ := hrel
    by_cases hlt : k ≤ s.size
    · have hlt' : (k : Int) ≤ s.size := by omega
      have HX := hide hxs
      have hlen : xs.length ≤ 68719476736 := by omega
      clear hxs
      by_cases hz : k = s.size
      · subst hz
        go_wp2_with (at_builtin; refine wpList_app StrE 9 Try.infoStr rfl Try.underlying100 w.heap.size _ xs (s.extract fr s.size) (ho.alloc _) (by decide) hlen (by simp; have := hb.size; omega) rfl _ _ rfl rfl _ 0 1 rfl news_alloc ?_; intro v' w1 ho1 hgr1)
        have hb1 := below_app hb ho hgr1
        go_roundw
        case rel => exact ⟨s.size + 1, s.size + 1, xs ++ [s.extract fr s.size], by go_num, by go_num, by omega, by omega, ho1, hb1, by simp; omega, fun x hx => by
          rcases List.mem_append.1 hx with h | h
          · exact HX.out x h
          · rw [List.mem_singleton.1 h, ByteArray.size_extract]; omega⟩
        case measure => simp [intOf]
      · have hz' : ((k : Int) == (s.size : Int)) = false := by simp; omega
        have hks : k < s.size := by omega
        have hki : 0 ≤ (k : Int) ∧ (k : Int) < s.size := by omega
        clear hz
        by_cases hc : ((s[k]'hks).toNat : Int) = c
        · have hc' : (((s[k]'hks).toNat : Int) == c) = true := by simp [hc]
          clear hc
          go_wp2_with (at_builtin; refine wpList_app StrE 9 Try.infoStr rfl Try.underlying100 w.heap.size _ xs (s.extract fr k) (ho.alloc _) (by decide) hlen (by simp; have := hb.size; omega) rfl _ _ rfl rfl _ 0 1 rfl news_alloc ?_; intro v' w1 ho1 hgr1)
          have hb1 := below_app hb ho hgr1
          go_roundw
          case rel => exact ⟨k + 1, k + 1, xs ++ [s.extract fr k], by go_num, by go_num, by omega, by omega, ho1, hb1, by simp; omega, fun x hx => by
            rcases List.mem_append.1 hx with h | h
            · exact HX.out x h
            · rw [List.mem_singleton.1 h, ByteArray.size_extract]; omega⟩
          case measure => simp [intOf]; omega

        · have hc' : (((s[k]'hks).toNat : Int) == c) = false := by simp [hc]
          clear hc
          go_wp2_with fail
          go_roundw
          case rel => exact ⟨k + 1, fr, xs, by go_num, rfl, by omega, by omega, ho, hb, by omega, HX.out⟩
          case measure => simp [intOf]; omega
    · have hlt' : ¬ (k : Int) ≤ s.size := by omega
      go_wp2_with fail
      go_ret
      exact ⟨_, xs, rfl, ho, hb, by omega, hxs⟩

/-- A variable that holds an instruction: its cells, and that they may be written. -/
structure BoxI (w : World) (g : Nat) (a b c d : Int) : Prop where
  lt : g < w.heap.size
  c0 : w.cell? ⟨g, 0, none⟩ = some (.int .i64 a)
  c1 : w.cell? ⟨g, 1, none⟩ = some (.int .i64 b)
  c2 : w.cell? ⟨g, 2, none⟩ = some (.int .i64 c)
  c3 : w.cell? ⟨g, 3, none⟩ = some (.int .i64 d)
  f : ∀ j, w.frozen? ⟨g, j, none⟩ = false

theorem BoxI.keep {w w' : World} {g : Nat} {a b c d : Int} (h : BoxI w g a b c d) (hb : w'.heap[g]? = w.heap[g]?) (hs : w.heap.size ≤ w'.heap.size) : BoxI w' g a b c d :=
  ⟨Nat.lt_of_lt_of_le h.lt hs, (cell_of_block hb _).trans h.c0, (cell_of_block hb _).trans h.c1, (cell_of_block hb _).trans h.c2, (cell_of_block hb _).trans h.c3, fun j => by
    have := h.f j
    unfold World.frozen? at this ⊢
    rw [hb]; exact this⟩
theorem BoxI.below {w w' : World} {g : Nat} {a b c d : Int} (h : BoxI w g a b c d) {B : Nat} (ho : Below B w w') (hg : g < B) : BoxI w' g a b c d := h.keep (ho.block g hg) ho.size
theorem BoxI.outside {b' : Nat} {w w' : World} {g : Nat} {a b c d : Int} (h : BoxI w g a b c d) (ho : Outside b' (b' + 1) w w') (hg : g ≠ b') : BoxI w' g a b c d := h.keep (ho.block g h.lt (by omega)) ho.size
theorem BoxI.new (w : World) (a b c d : Int) (T : TypeId) : BoxI (w.alloc (.cells #[.int .i64 a, .int .i64 b, .int .i64 c, .int .i64 d] T)) w.heap.size a b c d :=
  ⟨by simp, by simp [go_sem], by simp [go_sem], by simp [go_sem], by simp [go_sem], fun j => by simp [go_sem]⟩

theorem l1Place_c (s : ByteArray) (i f m : Int) (h0 : 0 ≤ i) (hf : 0 ≤ f) (hf2 : f ≤ 255) : ∃ x, placeV s i f m = x ∧ ∀ w, Calls Try.prog 162 #[.string s, .int .i64 i, .int .u8 f, .int .i64 m] w fun e w' => e = .returned (.int .i64 x) ∧ Below w.heap.size w w' :=
  ⟨_, rfl, fun w => l1Place_any s i f m w h0 hf hf2⟩

/-- The instruction that a text is read as. -/
def parseI (s : ByteArray) : Ins :=
  if (s.toList == [102, 101, 110, 99, 101]) = true then ⟨4, 0, 0, 0⟩
  else if placeV s 0 97 2 ≥ 0 ∧ (s.size : Int) = 3 then ⟨1, placeV s 2 120 2, placeV s 0 97 2, 0⟩
  else if placeV s 0 97 2 ≥ 0 ∧ (s.size : Int) = 5 then ⟨5, placeV s 2 120 2, placeV s 0 97 2, placeV s 4 48 3⟩
  else if placeV s 0 120 2 ≥ 0 ∧ placeV s 2 97 2 ≥ 0 then ⟨3, placeV s 0 120 2, placeV s 2 97 2, 0⟩
  else ⟨2, placeV s 0 120 2, 0, placeV s 2 48 3⟩

set_option maxRecDepth 100000 in
set_option maxHeartbeats 1600000 in
theorem l1Parse_any (s : ByteArray) (w : World) : Calls Try.prog 218 #[.string s] w fun e w' => e = .returned (.agg #[.int .i64 (parseI s).op, .int .i64 (parseI s).loc, .int .i64 (parseI s).reg, .int .i64 (parseI s).val]) ∧ Below w.heap.size w w' := by
  by_cases hf : (s.toList == [102, 101, 110, 99, 101]) = true
  · have e : parseI s = ⟨4, 0, 0, 0⟩ := by unfold parseI; rw [if_pos hf]
    rw [e]
    clear e
    go_enter Try.func218, Try.ntmps218
    go_wp2_with fail
    refine bodyPost_ret (v := .agg #[.int .i64 4, .int .i64 0, .int .i64 0, .int .i64 0]) (by simp [results, Try.results218, go_sem, *]) rfl ⟨rfl, ?_⟩
    exact belowAlloc w _
  · obtain ⟨R, eR, CR⟩ := l1Place_c s 0 97 2 (by omega) (by omega) (by omega)
    obtain ⟨L, eL, CL⟩ := l1Place_c s 0 120 2 (by omega) (by omega) (by omega)
    obtain ⟨L2, eL2, CL2⟩ := l1Place_c s 2 120 2 (by omega) (by omega) (by omega)
    obtain ⟨R2, eR2, CR2⟩ := l1Place_c s 2 97 2 (by omega) (by omega) (by omega)
    obtain ⟨V2, eV2, CV2⟩ := l1Place_c s 2 48 3 (by omega) (by omega) (by omega)
    obtain ⟨V4, eV4, CV4⟩ := l1Place_c s 4 48 3 (by omega) (by omega) (by omega)
    have HI : Hid (parseI s = if R ≥ 0 ∧ (s.size : Int) = 3 then ⟨1, L2, R, 0⟩ else if R ≥ 0 ∧ (s.size : Int) = 5 then ⟨5, L2, R, V4⟩ else if L ≥ 0 ∧ R2 ≥ 0 then ⟨3, L, R2, 0⟩ else ⟨2, L, 0, V2⟩) := hide (by
      unfold parseI; rw [if_neg hf, eR, eL, eL2, eR2, eV2, eV4])
    clear eR eL eL2 eR2 eV2 eV4
    have hf' : (s.toList == [102, 101, 110, 99, 101]) = false := by simpa using hf
    clear hf
    have CR := hide CR; have CL := hide CL; have CL2 := hide CL2; have CR2 := hide CR2; have CV2 := hide CV2; have CV4 := hide CV4
    generalize parseI s = I at *
    have BI0 := hide (BoxI.new w 0 0 0 0 72)
    have HB0 := hide (belowAlloc w (.cells #[.int .i64 0, .int .i64 0, .int .i64 0, .int .i64 0] 72))
    go_enter Try.func218, Try.ntmps218
    go_wp2_with fail
    (with_reducible refine (CR.out _).mono ?_); rintro e w1 ⟨rfl, hb1⟩
    have BI1 := hide (BI0.out.below hb1 BI0.out.lt); have HB1 := hide (HB0.out.trans (hb1.mono HB0.out.size))
    clear BI0 HB0 hb1
    go_wp2_with fail
    (with_reducible refine (CL.out _).mono ?_); rintro e w2 ⟨rfl, hb2⟩
    have BI2 := hide (BI1.out.below hb2 BI1.out.lt); have HB2 := hide (HB1.out.trans (hb2.mono HB1.out.size))
    clear BI1 HB1 hb2
    by_cases h1 : R ≥ 0
    · by_cases h2 : (s.size : Int) = 3
      · have h2' : ((s.size : Int) == 3) = true := by simp [h2]
        have HI : Hid (I = ⟨1, L2, R, 0⟩) := hide (by rw [HI.out, if_pos ⟨h1, h2⟩])
        clear h2
        go_wp2_with fail
        (with_reducible refine (CL2.out _).mono ?_); rintro e w3 ⟨rfl, hb3⟩
        have BI3 := hide (BI2.out.below hb3 BI2.out.lt); have HB3 := hide (HB2.out.trans (hb3.mono HB2.out.size))
        clear BI2 HB2 hb3
        obtain ⟨lt3, i0, i1, i2, i3, if'⟩ := BI3.out
        go_wp2_with fail
        refine bodyPost_ret (v := .agg #[.int .i64 1, .int .i64 L2, .int .i64 R, .int .i64 0]) (by simp [results, Try.results218, go_sem, *]) rfl ⟨by rw [HI.out], ?_⟩
        exact ((((HB3.out.setCell (Nat.le_refl _) _).setCell (Nat.le_refl _) _).setCell (Nat.le_refl _) _).setCell (Nat.le_refl _) _)
      · have h2' : ((s.size : Int) == 3) = false := by simp [h2]
        by_cases h3 : (s.size : Int) = 5
        · have h3' : ((s.size : Int) == 5) = true := by simp [h3]
          have HI : Hid (I = ⟨5, L2, R, V4⟩) := hide (by rw [HI.out, if_neg (fun h => h2 h.2), if_pos ⟨h1, h3⟩])
          clear h2 h3
          go_wp2_with fail
          (with_reducible refine (CL2.out _).mono ?_); rintro e w3 ⟨rfl, hb3⟩
          have BI3 := hide (BI2.out.below hb3 BI2.out.lt); have HB3 := hide (HB2.out.trans (hb3.mono HB2.out.size))
          clear BI2 HB2 hb3
          go_wp2_with fail
          (with_reducible refine (CV4.out _).mono ?_); rintro e w4 ⟨rfl, hb4⟩
          have BI4 := hide (BI3.out.below hb4 BI3.out.lt); have HB4 := hide (HB3.out.trans (hb4.mono HB3.out.size))
          clear BI3 HB3 hb4
          obtain ⟨lt4, i0, i1, i2, i3, if'⟩ := BI4.out
          go_wp2_with fail
          refine bodyPost_ret (v := .agg #[.int .i64 5, .int .i64 L2, .int .i64 R, .int .i64 V4]) (by simp [results, Try.results218, go_sem, *]) rfl ⟨by rw [HI.out], ?_⟩
          exact ((((HB4.out.setCell (Nat.le_refl _) _).setCell (Nat.le_refl _) _).setCell (Nat.le_refl _) _).setCell (Nat.le_refl _) _)
        · have h3' : ((s.size : Int) == 5) = false := by simp [h3]
          have HI : Hid (I = if L ≥ 0 ∧ R2 ≥ 0 then ⟨3, L, R2, 0⟩ else ⟨2, L, 0, V2⟩) := hide (by rw [HI.out, if_neg (fun h => h2 h.2), if_neg (fun h => h3 h.2)])
          clear h2 h3
          by_cases h4 : L ≥ 0
          · go_wp2_with fail
            (with_reducible refine (CR2.out _).mono ?_); rintro e w3 ⟨rfl, hb3⟩
            have BI3 := hide (BI2.out.below hb3 BI2.out.lt); have HB3 := hide (HB2.out.trans (hb3.mono HB2.out.size))
            clear BI2 HB2 hb3
            by_cases h5 : R2 ≥ 0
            · have HI : Hid (I = ⟨3, L, R2, 0⟩) := hide (by rw [HI.out, if_pos ⟨h4, h5⟩])
              go_wp2_with fail
              (with_reducible refine (CR2.out _).mono ?_); rintro e w4 ⟨rfl, hb4⟩
              have BI4 := hide (BI3.out.below hb4 BI3.out.lt); have HB4 := hide (HB3.out.trans (hb4.mono HB3.out.size))
              clear BI3 HB3 hb4
              obtain ⟨lt4, i0, i1, i2, i3, if'⟩ := BI4.out
              go_wp2_with fail
              refine bodyPost_ret (v := .agg #[.int .i64 3, .int .i64 L, .int .i64 R2, .int .i64 0]) (by simp [results, Try.results218, go_sem, *]) rfl ⟨by rw [HI.out], ?_⟩
              exact ((((HB4.out.setCell (Nat.le_refl _) _).setCell (Nat.le_refl _) _).setCell (Nat.le_refl _) _).setCell (Nat.le_refl _) _)
            · have h5' : decide (R2 ≥ 0) = false := decide_eq_false h5
              have HI : Hid (I = ⟨2, L, 0, V2⟩) := hide (by rw [HI.out, if_neg (fun h => h5 h.2)])
              clear h5
              go_wp2_with fail
              (with_reducible refine (CV2.out _).mono ?_); rintro e w4 ⟨rfl, hb4⟩
              have BI4 := hide (BI3.out.below hb4 BI3.out.lt); have HB4 := hide (HB3.out.trans (hb4.mono HB3.out.size))
              clear BI3 HB3 hb4
              obtain ⟨lt4, i0, i1, i2, i3, if'⟩ := BI4.out
              go_wp2_with fail
              refine bodyPost_ret (v := .agg #[.int .i64 2, .int .i64 L, .int .i64 0, .int .i64 V2]) (by simp [results, Try.results218, go_sem, *]) rfl ⟨by rw [HI.out], ?_⟩
              exact ((((HB4.out.setCell (Nat.le_refl _) _).setCell (Nat.le_refl _) _).setCell (Nat.le_refl _) _).setCell (Nat.le_refl _) _)
          · have h4' : decide (L ≥ 0) = false := decide_eq_false h4
            have HI : Hid (I = ⟨2, L, 0, V2⟩) := hide (by rw [HI.out, if_neg (fun h => h4 h.1)])
            clear h4
            go_wp2_with fail
            (with_reducible refine (CV2.out _).mono ?_); rintro e w3 ⟨rfl, hb3⟩
            have BI3 := hide (BI2.out.below hb3 BI2.out.lt); have HB3 := hide (HB2.out.trans (hb3.mono HB2.out.size))
            clear BI2 HB2 hb3
            obtain ⟨lt3, i0, i1, i2, i3, if'⟩ := BI3.out
            go_wp2_with fail
            refine bodyPost_ret (v := .agg #[.int .i64 2, .int .i64 L, .int .i64 0, .int .i64 V2]) (by simp [results, Try.results218, go_sem, *]) rfl ⟨by rw [HI.out], ?_⟩
            exact ((((HB3.out.setCell (Nat.le_refl _) _).setCell (Nat.le_refl _) _).setCell (Nat.le_refl _) _).setCell (Nat.le_refl _) _)
    · have h1' : decide (R ≥ 0) = false := decide_eq_false h1
      have HI : Hid (I = if L ≥ 0 ∧ R2 ≥ 0 then ⟨3, L, R2, 0⟩ else ⟨2, L, 0, V2⟩) := hide (by rw [HI.out, if_neg (fun h => h1 h.1), if_neg (fun h => h1 h.1)])
      clear h1
      by_cases h4 : L ≥ 0
      · go_wp2_with fail
        (with_reducible refine (CR2.out _).mono ?_); rintro e w3 ⟨rfl, hb3⟩
        have BI3 := hide (BI2.out.below hb3 BI2.out.lt); have HB3 := hide (HB2.out.trans (hb3.mono HB2.out.size))
        clear BI2 HB2 hb3
        by_cases h5 : R2 ≥ 0
        · have HI : Hid (I = ⟨3, L, R2, 0⟩) := hide (by rw [HI.out, if_pos ⟨h4, h5⟩])
          go_wp2_with fail
          (with_reducible refine (CR2.out _).mono ?_); rintro e w4 ⟨rfl, hb4⟩
          have BI4 := hide (BI3.out.below hb4 BI3.out.lt); have HB4 := hide (HB3.out.trans (hb4.mono HB3.out.size))
          clear BI3 HB3 hb4
          obtain ⟨lt4, i0, i1, i2, i3, if'⟩ := BI4.out
          go_wp2_with fail
          refine bodyPost_ret (v := .agg #[.int .i64 3, .int .i64 L, .int .i64 R2, .int .i64 0]) (by simp [results, Try.results218, go_sem, *]) rfl ⟨by rw [HI.out], ?_⟩
          exact ((((HB4.out.setCell (Nat.le_refl _) _).setCell (Nat.le_refl _) _).setCell (Nat.le_refl _) _).setCell (Nat.le_refl _) _)
        · have h5' : decide (R2 ≥ 0) = false := decide_eq_false h5
          have HI : Hid (I = ⟨2, L, 0, V2⟩) := hide (by rw [HI.out, if_neg (fun h => h5 h.2)])
          clear h5
          go_wp2_with fail
          (with_reducible refine (CV2.out _).mono ?_); rintro e w4 ⟨rfl, hb4⟩
          have BI4 := hide (BI3.out.below hb4 BI3.out.lt); have HB4 := hide (HB3.out.trans (hb4.mono HB3.out.size))
          clear BI3 HB3 hb4
          obtain ⟨lt4, i0, i1, i2, i3, if'⟩ := BI4.out
          go_wp2_with fail
          refine bodyPost_ret (v := .agg #[.int .i64 2, .int .i64 L, .int .i64 0, .int .i64 V2]) (by simp [results, Try.results218, go_sem, *]) rfl ⟨by rw [HI.out], ?_⟩
          exact ((((HB4.out.setCell (Nat.le_refl _) _).setCell (Nat.le_refl _) _).setCell (Nat.le_refl _) _).setCell (Nat.le_refl _) _)
      · have h4' : decide (L ≥ 0) = false := decide_eq_false h4
        have HI : Hid (I = ⟨2, L, 0, V2⟩) := hide (by rw [HI.out, if_neg (fun h => h4 h.1)])
        clear h4
        go_wp2_with fail
        (with_reducible refine (CV2.out _).mono ?_); rintro e w3 ⟨rfl, hb3⟩
        have BI3 := hide (BI2.out.below hb3 BI2.out.lt); have HB3 := hide (HB2.out.trans (hb3.mono HB2.out.size))
        clear BI2 HB2 hb3
        obtain ⟨lt3, i0, i1, i2, i3, if'⟩ := BI3.out
        go_wp2_with fail
        refine bodyPost_ret (v := .agg #[.int .i64 2, .int .i64 L, .int .i64 0, .int .i64 V2]) (by simp [results, Try.results218, go_sem, *]) rfl ⟨by rw [HI.out], ?_⟩
        exact ((((HB3.out.setCell (Nat.le_refl _) _).setCell (Nat.le_refl _) _).setCell (Nat.le_refl _) _).setCell (Nat.le_refl _) _)
end Go.Proofs.Ytpnmphfdfadlcaa
