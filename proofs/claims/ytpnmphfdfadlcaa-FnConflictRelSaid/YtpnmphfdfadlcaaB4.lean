/-
  Composition, closure and inverse of relations in the program. Condition: few elements.
-/
import Derived.Test.YtpnmphfdfadlcaaB3
import Derived.Test.YtpnmphfdfadlcaaE5
import Derived.Test.YtpnmphfdfadlcaaF10
namespace Go.Proofs.Ytpnmphfdfadlcaa
open Go.RowKit

theorem fComp_row (n m i : Nat) (f g : Nat → Nat → Bool) (hn : n ≤ 60) : bitsTo (fComp (m + 1) f g i) n = if f i m = true then bits .or .i64 (bitsTo (fComp m f g i) n) (bitsTo (g m) n) else bitsTo (fComp m f g i) n := by
  have e := fComp_succ m f g i
  have e2 : fComp (m + 1) f g i = fun k => fComp m f g i k || (f i m && g m k) := e
  rw [e2]
  split
  · rename_i h
    rw [bitsTo_or _ _ hn]
    apply bitsTo_congr hn
    intro k _
    rw [h, Bool.true_and]
  · rename_i h
    apply bitsTo_congr hn
    intro k _
    have : f i m = false := by simpa using h
    rw [this]; simp

theorem fComp_zero (n i : Nat) (f g : Nat → Nat → Bool) : bitsTo (fComp 0 f g i) n = 0 := by
  have : fComp 0 f g i = fun _ => false := by funext k; simp [fComp]
  rw [this, bitsTo_zero]

theorem row_get (n t : Nat) (f : Nat → Nat → Bool) (x : Int) (h : t < n) : (((relOf n f).take t ++ List.replicate (n - t) 0).set t x)[t]? = some x := by
  rw [List.getElem?_set, if_pos rfl, if_pos (by simp [relOf_length]; omega)]
theorem row_start (n t : Nat) (f : Nat → Nat → Bool) (h : t < n) : ((relOf n f).take t ++ List.replicate (n - t) 0).set t 0 = (relOf n f).take t ++ List.replicate (n - t) 0 := by
  have := rel_start n t f h
  simpa [bitsTo] using this

theorem CloneN_any (v : Value) (xs : List Int) (w : World) (hx : Rep IntE w v xs) (hl : xs.length ≤ 1048576) :
    Calls Try.prog 202 #[v] w (RetOwn IntE 3 w xs) := by
  obtain ⟨a, c, rfl, hc1, hc2, hc3, hx⟩ := hx.open
  have HX := hide hx; clear hx
  generalize hn : xs.length = n at *
  have H := hide hn; clear hn
  have hlen : ([] : List Int).length + n ≤ 68719476736 := by simp; omega
  cases a with
  | none =>
    have hE := fun w' : World => eql_slice_nil Try.prog w' 36 3 none n c 0 0 Try.underlying36
    have hn0 : xs = [] := by
      cases xs with
      | nil => rfl
      | cons x xs => obtain ⟨b, o, he, _⟩ := HX.out.int (k := 0) (x := x) rfl; cases he
    subst hn0
    go_enter Try.func202, Try.ntmps202
    go_wp2_with fail
    go_ret
    exact ⟨_, rfl, Own.nil _ _ _, Below.refl _ _⟩
  | some ad =>
    have hE := fun w' : World => eql_slice_nil Try.prog w' 36 3 (some ad) n c 0 0 Try.underlying36
    go_enter Try.func202, Try.ntmps202
    go_wp2_with (at_builtin; refine wpList_appS IntE 3 Try.infoInt rfl Try.underlying36 w.heap.size _ [] xs _ (Own.empty _ w (Nat.le_refl _)) (HX.out.below ((Below.refl _ _).alloc (Nat.le_refl _) _)) (by decide) (by rw [H.out]; exact hlen) (by simp) rfl _ _ rfl rfl rfl ?_; intro v' w1 hown1 hgr1)
    go_ret
    exact ⟨_, rfl, by simpa using hown1, ((Below.refl _ _).alloc (Nat.le_refl _) _).grown hgr1 (by simp) (fun k hk => by simp [Value.ownBlock] at hk; omega)⟩

/-- The function value of two numbers, wherever it is called as long as what lay in w0 is as it was. -/
def TestsP_inv (a1 : Addr) (n : Nat) (f : Nat → Nat → Bool) (w0 : World) : Prop := ∀ (i k : Nat) (w : World), i < n → k < n → Below w0.heap.size w0 w →
  Calls Try.prog 91 #[.int .i64 i, .int .i64 k, .pointer (some a1)] w fun e w' => e = .returned (.bool (f i k)) ∧ Below w.heap.size w w'

set_option maxHeartbeats 800000 in
theorem pairsOf_inv (a1 : Addr) (n : Nat) (f : Nat → Nat → Bool) (w : World) (hn : n ≤ 60) (hf : TestsP_inv a1 n f w) :
    Calls Try.prog 90 #[.int .i64 n, .func (.func 91) #[] #[.pointer (some a1)]] w (RetOwn IntE 3 w (relOf n f)) := by
  have HF := hide hf; clear hf
  go_enter Try.func90, Try.ntmps90
  go_wp2_with (at_make; refine wpList_make IntE 3 0 Try.infoInt rfl Try.underlying36 n (by decide) (by omega) rfl _ _ rfl rfl rfl ?_; intro w1 hown hgr)
  have hb1 := below_of_grown hgr
  go_loopw [11] (fun i wr => ∃ t : Nat, t ≤ n ∧ i = .int .i64 t ∧ OwnN wr w.heap.size (.slice (some ⟨w.heap.size, 0, none⟩) n n) ((relOf n f).take t ++ List.replicate (n - t) 0) ∧ Below w.heap.size w wr) (fun i _ => n - (intOf i).toNat)
  case atStart => exact ⟨0, by omega, rfl, by simpa using hown, hb1⟩
  case round =>
    obtain ⟨t, ht, rfl, ho, hb⟩ := hrel
    by_cases hlt : t < n
    · have hlt' := nat_of_lt hlt
      go_wp2_with fail
      go_loopw [15] (fun i wr => ∃ k : Nat, k ≤ n ∧ i = .int .i64 k ∧ OwnN wr w.heap.size (.slice (some ⟨w.heap.size, 0, none⟩) n n) (((relOf n f).take t ++ List.replicate (n - t) 0).set t (bitsTo (f t) k)) ∧ Below w.heap.size w wr) (fun i _ => n - (intOf i).toNat)
      case atStart => exact ⟨0, by omega, rfl, by rw [rel_start n t f hlt]; exact ho, hb⟩
      case round =>
        obtain ⟨k, hk, rfl, ho, hb⟩ := hrel
        by_cases hlt2 : k < n
        · have hlt2' := nat_of_lt hlt2
          have HC := hide (HF.out t k wr hlt hlt2 hb)
          have BS : Hid (bitsTo (f t) (k + 1) = if f t k = true then bits .or .i64 (bitsTo (f t) k) (wrap64 ((2 : Int) ^ k)) else bitsTo (f t) k) := hide rfl
          generalize f t k = fb at *
          cases fb
          · go_wp2_with fail
            (with_reducible refine HC.out.mono ?_); rintro e w2 ⟨rfl, hb2⟩
            go_wp2_with fail
            go_roundw
            case rel => exact ⟨k + 1, by omega, by go_num, by rw [BS.out]; exact ho.below hb2, hb.trans (hb2.mono hb.size)⟩
            case measure => simp [intOf]; omega
          · go_wp2_with fail
            (with_reducible refine HC.out.mono ?_); rintro e w2 ⟨rfl, hb2⟩
            have ho2 := ho.below hb2
            obtain ⟨hgl, c0, hfr⟩ := ho2.int (rel_get n t k f hlt)
            have ho3 := ho2.setInt (rel_get n t k f hlt) (bits .or .i64 (bitsTo (f t) k) (wrap64 ((2 : Int) ^ k)))
            rw [List.set_set] at ho3
            have HO3 := hide ho3; clear ho3
            go_wp2_with fail
            go_region
            go_wp2_with fail
            go_roundw
            case rel => exact ⟨k + 1, by omega, by go_num, by rw [BS.out]; exact HO3.out.below (Below.refl _ _).drew, ((hb.trans (hb2.mono hb.size)).setCell (Nat.le_refl _) _).drew⟩
            case measure => simp [intOf]; omega
        · have e : k = n := by omega
          rw [e, rel_done n t f hlt] at ho
          go_wp2_with fail
          go_roundw
          case rel => exact ⟨t + 1, by omega, by go_num, ho, hb⟩
          case measure => simp [intOf]; omega
    · have e : t = n := by omega
      rw [e, Nat.sub_self, List.replicate_zero, List.append_nil, List.take_of_length_le (by rw [relOf_length]; exact Nat.le_refl _)] at ho
      go_wp2_with fail
      go_ret
      exact ⟨_, rfl, ho, hb⟩


theorem inverse_1 (B n c : Nat) (a : Option Addr) (f : Nat → Nat → Bool) (w0 : World) (h1 : w0.cell? ⟨B, 0, none⟩ = some (.slice a n c)) (hL : Rep IntE w0 (.slice a n c) (relOf n f)) (hn : n ≤ 16) :
    TestsP_inv ⟨B, 0, none⟩ n (fInv f) w0 := by
  intro i k w hi hk hb
  have q1 := (hb.cell (p := ⟨B, 0, none⟩) (lt_of_cell h1)).trans h1
  have HC := hide (related_any (.slice a n c) n k i f w (hL.below hb) (by omega) hk hi)
  clear hL h1 hb
  go_enter Try.func91, Try.ntmps91
  go_wp2_with fail
  (with_reducible refine HC.out.mono ?_); rintro e w2 ⟨rfl, rfl⟩
  go_wp2_with fail
  go_ret
  exact ⟨rfl, Below.refl _ _⟩

theorem InverseRel_any (v : Value) (n : Nat) (f : Nat → Nat → Bool) (w : World) (hx : Rep IntE w v (relOf n f)) (hn : n ≤ 16) :
    Calls Try.prog 27 #[v] w (RetOwn IntE 3 w (relOf n (fInv f))) := by
  obtain ⟨a, c, rfl, -, -, -, hx⟩ := hx.open
  simp only [relOf_length] at *
  have HB := hide (belowAlloc0 w (.cells #[.slice a n c] 36))
  have HX := hide (hx.below HB.out)
  have HA := hide (RelValid_any (.slice a n c) n f _ HX.out hn)
  have k0 : Hid ((w.alloc (.cells #[.slice a n c] 36)).cell? ⟨w.heap.size, 0, none⟩ = some (.slice a n c)) := hide (by simp [go_sem])
  have hsz : Hid ((w.alloc (.cells #[.slice a n c] 36)).heap.size = w.heap.size + 1) := hide (by simp)
  clear hx
  go_enter Try.func27, Try.ntmps27
  go_wp2_with fail
  (with_reducible refine HA.out.mono ?_); rintro e w1 ⟨rfl, hb1⟩
  have k1 := (hb1.cell (p := ⟨w.heap.size, 0, none⟩) (by rw [hsz.out]; exact Nat.lt_succ_self _)).trans k0.out
  have HC := hide (pairsOf_inv ⟨w.heap.size, 0, none⟩ n (fInv f) w1 (by omega) (inverse_1 w.heap.size n c a f w1 k1 (HX.out.below hb1) hn))
  have HB1 := hide (HB.out.trans (hb1.mono HB.out.size))
  clear hb1 HA
  go_wp2_with fail
  (with_reducible refine HC.out.mono ?_); rintro e w2 ⟨u, rfl, ho, hb2⟩
  go_wp2_with fail
  go_ret
  exact ⟨_, rfl, ho.mono HB1.out.size, HB1.out.trans (hb2.mono HB1.out.size)⟩

end Go.Proofs.Ytpnmphfdfadlcaa
