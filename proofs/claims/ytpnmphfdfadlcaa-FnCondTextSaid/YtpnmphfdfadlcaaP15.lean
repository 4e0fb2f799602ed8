/-
  The program's parser of conditions: its bytes and values; strings.IndexByte. No condition but a bound on sizes.
-/
import Derived.Test.YtpnmphfdfadlcaaP13
import Derived.Test.YtpnmphfdfadlcaaT10
import Derived.Test.YtpnmphfdfadlcaaBase3
import Derived.Laws.DeepStrings4
import Derived.Lib.Bytealg
import Derived.Lib.Walk
namespace Go.Proofs.Ytpnmphfdfadlcaa
open Go.RowKit

/-- Bytes as a text. -/
def strB (l : List UInt8) : ByteArray := ⟨l.toArray⟩
theorem strB_size (l : List UInt8) : (strB l).size = l.length := by simp [strB, ByteArray.size]
theorem strB_data (s : ByteArray) : strB s.data.toList = s := by simp [strB]
theorem strB_tail (c : UInt8) (l : List UInt8) : (strB (c :: l)).extract 1 (strB (c :: l)).size = strB l := by
  apply ByteArray.ext
  rw [ByteArray.data_extract]
  apply Array.toList_inj.1
  simp [strB, ByteArray.size]
theorem strB_head (c : UInt8) (l : List UInt8) (h : 0 < (strB (c :: l)).size) : (strB (c :: l))[0]'h = c := rfl
theorem strB_ne (c : UInt8) (l : List UInt8) : (strB (c :: l)).toList.isEmpty = false := by rw [ByteArray.toList_eq]; rfl
theorem strB_nil : strB [] = ⟨#[]⟩ := rfl

/-- The parser's state in memory: what is left, and whether it failed. -/
structure PS (w : World) (pb : Nat) (l : List UInt8) (f : Bool) : Prop where
  lt : pb < w.heap.size
  c0 : w.cell? ⟨pb, 0, none⟩ = some (.string (strB l))
  c1 : w.cell? ⟨pb, 1, none⟩ = some (.bool f)
  fr : ∀ j, w.frozen? ⟨pb, j, none⟩ = false
theorem PS.below {w w' : World} {pb : Nat} {l : List UInt8} {f : Bool} (h : PS w pb l f) (hb : Below w.heap.size w w') : PS w' pb l f :=
  ⟨Nat.lt_of_lt_of_le h.lt hb.size, (hb.cell (p := ⟨pb, 0, none⟩) h.lt).trans h.c0, (hb.cell (p := ⟨pb, 1, none⟩) h.lt).trans h.c1, fun j => (hb.frozen (p := ⟨pb, j, none⟩) h.lt).trans (h.fr j)⟩

/-- A step of the parser: the answer, the state, nothing else turned. -/
def StepP (w : World) (pb : Nat) (v : Value) (l : List UInt8) (f : Bool) (e : Ending) (w' : World) : Prop := e = .returned v ∧ PS w' pb l f ∧ w.grownBy w' (some pb)

set_option maxHeartbeats 800000 in
theorem byte_any (pb : Nat) (l : List UInt8) (f : Bool) (w : World) (h : PS w pb l f) :
    Calls Try.prog 149 #[.pointer (some ⟨pb, 0, none⟩)] w (StepP w pb (.int .u8 ((pB l f).1.toNat : Int)) (pB l f).2.1 (pB l f).2.2) := by
  obtain ⟨hlt, c0, c1, hfr⟩ := h
  have f1 := hfr 1
  have f0 := hfr 0
  cases f
  · cases l with
    | nil =>
      have P0 : pB [] false = (0, [], true) := rfl
      rw [strB_nil] at c0
      rw [P0]
      go_enter Try.func149, Try.ntmps149
      go_wp2_with fail
      go_ret
      refine ⟨rfl, ⟨by simp; exact hlt, by rw [strB_nil]; simp [go_sem, *], by simp [go_sem, *], fun j => by simp [go_sem, *]⟩, grown_set (grown_of_below (Below.refl _ _) _) _ _⟩
    | cons c l =>
      have P0 : pB (c :: l) false = (c, l, false) := rfl
      rw [P0]
      have h1 := strB_ne c l
      have h2 := strB_tail c l
      have h3 : 0 < (strB (c :: l)).size := by rw [strB_size]; simp
      have h4 := strB_head c l h3
      have hu := c.toNat_lt
      generalize strB (c :: l) = s at *
      have H2 := hide h2; have H4 := hide h4
      clear h2 h4
      go_enter Try.func149, Try.ntmps149
      go_wp2_with fail
      go_ret
      refine ⟨by rw [← H4.out]; rfl, ⟨by simp; exact hlt, by rw [← H2.out]; simp [go_sem, *], by simp [go_sem, *], fun j => by simp [go_sem, *]⟩, grown_set (grown_of_below (Below.refl _ _) _) _ _⟩
  · have P0 : pB l true = (0, l, true) := rfl
    rw [P0]
    go_enter Try.func149, Try.ntmps149
    go_wp2_with fail
    go_ret
    refine ⟨rfl, ⟨by simp; exact hlt, by simp [go_sem, *], by simp [go_sem, *], fun j => by simp [go_sem, *]⟩, grown_set (grown_of_below (Below.refl _ _) _) _ _⟩

set_option maxHeartbeats 800000 in
theorem value_any (pb : Nat) (l : List UInt8) (f : Bool) (w : World) (h : PS w pb l f) :
    Calls Try.prog 151 #[.pointer (some ⟨pb, 0, none⟩)] w (StepP w pb (.int .i64 (pV l f).1) (pV l f).2.1 (pV l f).2.2) := by
  have H1 := hide (byte_any pb l f w h)
  have H2 := hide (fun l' f' w' h' => byte_any pb l' f' w' h')
  have PV : Hid (pV l f = (((pB (pB l f).2.1 (if (pB l f).1 = 61 then (pB l f).2.2 else true)).1.toNat : Int) - 48, (pB (pB l f).2.1 (if (pB l f).1 = 61 then (pB l f).2.2 else true)).2.1, (pB (pB l f).2.1 (if (pB l f).1 = 61 then (pB l f).2.2 else true)).2.2)) := hide rfl
  generalize pB l f = r1 at *
  obtain ⟨c, l1, f1⟩ := r1
  generalize pV l f = r at *
  clear h
  have hc := c.toNat_lt
  by_cases e : c = 61
  · have g : (((c.toNat : Int)) != 61) = false := by subst e; rfl
    obtain rfl := PV.out
    simp only [if_pos e]
    clear e
    have hu := (pB l1 f1).1.toNat_lt
    go_enter Try.func151, Try.ntmps151
    go_wp2_with fail
    (with_reducible refine H1.out.mono ?_); rintro e w1 ⟨rfl, hp1, hg1⟩
    go_wp2_with fail
    (with_reducible refine (H2.out l1 f1 _ hp1).mono ?_); rintro e w2 ⟨rfl, hp2, hg2⟩
    go_wp2_with fail
    go_ret
    exact ⟨by go_num, hp2, grown_trans hg1 hg2⟩
  · have g : (((c.toNat : Int)) != 61) = true := by
      simp only [bne_iff_ne, ne_eq]
      intro e2
      exact e (UInt8.toNat_inj.1 (by have : (61 : UInt8).toNat = 61 := rfl; omega))
    obtain rfl := PV.out
    simp only [if_neg e]
    clear e
    have hu := (pB l1 true).1.toNat_lt
    go_enter Try.func151, Try.ntmps151
    go_wp2_with fail
    (with_reducible refine H1.out.mono ?_); rintro e w1 ⟨rfl, hp1, hg1⟩
    obtain ⟨hlt, c0, c1, hfr⟩ := hp1
    have hf1 := hfr 1
    have HP2 : Hid (PS (w1.setCell ⟨pb, 1, none⟩ (.bool true)) pb l1 true) := hide ⟨by simp; exact hlt, by simp [go_sem, *], by simp [go_sem, *], fun j => by simp [go_sem, *]⟩
    have hg2 := grown_set hg1 1 (.bool true)
    clear c0
    go_wp2_with fail
    (with_reducible refine (H2.out l1 true _ HP2.out).mono ?_); rintro e w2 ⟨rfl, hp2, hg3⟩
    go_wp2_with fail
    go_ret
    exact ⟨by go_num, hp2, grown_trans hg2 hg3⟩

set_option maxRecDepth 100000 in
theorem idxByte0_any (s : ByteArray) (c : Int) (w : World) :
    Calls Try.prog 211 #[.string s, .int .u8 c] w fun e w' => e = .returned (.int .i64 (Lib.indexByte s.data.toList c.toNat.toUInt8)) ∧ w = w' := by
  go_enter Try.func211, Try.ntmps211
  go_wp2
  rw [run_callFunc_extern Try.func228 (by kernel_rfl) (by kernel_rfl) (by kernel_rfl) (e := Extern.BytealgIndexByte.indexByte) (by kernel_rfl), Lib.run_indexByteString]
  simp only [Result.andThen]
  rw [Oper.upon_value]
  go_wp2
  go_ret
  exact ⟨rfl, rfl⟩

theorem idxOf_lib (l : List UInt8) (c : UInt8) : Lib.indexByte l c = idxOf l c := by
  induction l with
  | nil => rfl
  | cons b l ih =>
    have hge : -1 ≤ idxOf l c := by rw [← ih]; exact Lib.indexByte_ge l c
    unfold Lib.indexByte idxOf
    rw [ih]
    simp only [beq_iff_eq]
    split
    · rfl
    · by_cases h : idxOf l c = -1
      · rw [if_pos h, if_pos (by omega)]
      · rw [if_neg h, if_neg (by omega)]

theorem idxByte_any (l : List UInt8) (c : UInt8) (w : World) :
    Calls Try.prog 150 #[.string ⟨l.toArray⟩, .int .u8 (c.toNat : Int)] w fun e w' => e = .returned (.int .i64 (idxOf l c)) ∧ w = w' := by
  have H := hide (fun w' => idxByte0_any ⟨l.toArray⟩ (c.toNat : Int) w')
  have E : Hid (Lib.indexByte (⟨l.toArray⟩ : ByteArray).data.toList ((c.toNat : Int)).toNat.toUInt8 = idxOf l c) := hide (by
    rw [idxOf_lib]
    have : ((c.toNat : Int)).toNat.toUInt8 = c := by simp
    rw [this])
  go_enter Try.func150, Try.ntmps150
  go_wp2_with fail
  (with_reducible refine (H.out w).mono ?_); rintro e w1 ⟨rfl, rfl⟩
  rw [E.out]
  go_wp2_with fail
  go_ret
  exact ⟨rfl, rfl⟩

end Go.Proofs.Ytpnmphfdfadlcaa
