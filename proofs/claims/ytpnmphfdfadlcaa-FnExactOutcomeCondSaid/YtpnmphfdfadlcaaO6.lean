/-
  The reference's l11Read: whether a register of a thread is read into. Condition: a bound on the length.
-/
import Derived.Test.YtpnmphfdfadlcaaP29
import Derived.Test.YtpnmphfdfadlcaaF5
import Derived.Test.YtpnmphfdfadlcaaN2
namespace Go.Proofs.Ytpnmphfdfadlcaa
open Go.RowKit

set_option maxHeartbeats 1600000 in
theorem l11Read_any (v : Value) (xs : List Ins) (r : Int) (w : World) (hx : Rep InsE w v xs) :
    Calls Try.prog 115 #[v, .int .i64 r] w fun e w' => e = .returned (.bool (readsR xs r)) ∧ Below w.heap.size w w' := by
  obtain ⟨a, c, rfl, hc1, hc2, hc3, hx⟩ := hx.open
  have HX := hide hx; clear hx
  have HR : Hid (readsR xs r = xs.any fun x => isRop x.op && x.reg == r) := hide rfl
  generalize readsR xs r = R at *
  generalize hn : xs.length = n at *
  have H := hide hn; clear hn
  go_enter Try.func115, Try.ntmps115
  go_wp2_with fail
  go_loopw [5] (fun i wr => ∃ t : Nat, t ≤ n ∧ i = .int .i64 t ∧ Hid (∀ x ∈ xs.take t, (isRop x.op && x.reg == r) = false) ∧ Below w.heap.size w wr) (fun i _ => n - (intOf i).toNat)
  case atStart => exact ⟨0, Nat.zero_le _, rfl, hide (by simp), Below.refl _ _⟩
  case round =>
    obtain ⟨t, ht, rfl, hno, hb⟩ := hrel
    by_cases hlt : t < n
    · obtain ⟨x, hxk⟩ := get_of_lt (xs := xs) (k := t) (by rw [H.out]; exact hlt)
      obtain ⟨b, o, rfl, hbl, i0, i1, i2, i3⟩ := (HX.out.below hb).ins hxk
      have hlt' := nat_of_lt hlt
      have HC := hide (fun w' => l1Reads_raw x.op x.loc x.reg x.val w')
      have X := hide hxk; clear hxk
      have EX : Hid ((isRop x.op && x.reg == r) = (isRop x.op && x.reg == r)) := hide rfl
      cases hrop : isRop x.op
      · have NO : Hid (∀ y ∈ xs.take (t + 1), (isRop y.op && y.reg == r) = false) := hide (none_succ (f := fun y => isRop y.op && y.reg == r) hno.out X.out (by simp [hrop]))
        rw [hrop] at HC
        clear hrop
        go_wp2_with fail
        (with_reducible refine (HC.out _).mono ?_); rintro e w2 ⟨rfl, hb2⟩
        go_wp2_with fail
        go_roundw
        case rel => exact ⟨t + 1, by omega, by go_num, NO, hb.trans (hb2.mono hb.size)⟩
        case measure => simp [intOf]; omega
      · rw [hrop] at HC
        by_cases hreg : x.reg = r
        · have ER : Hid (R = true) := hide (by rw [HR.out]; exact List.any_eq_true.2 ⟨x, List.mem_of_getElem? X.out, by simp [hrop, hreg]⟩)
          have k1 : (x.reg == r) = true := by simp [hreg]
          clear hrop hreg
          go_wp2_with fail
          (with_reducible refine (HC.out _).mono ?_); rintro e w2 ⟨rfl, hb2⟩
          have j2 := (hb2.cell (p := ⟨b, o + t * 4 + 2, none⟩) hbl).trans i2
          have hb3 : b < w2.heap.size := Nat.lt_of_lt_of_le hbl hb2.size
          go_wp2_with fail
          go_ret
          rw [ER.out]
          exact ⟨rfl, hb.trans (hb2.mono hb.size)⟩
        · have NO : Hid (∀ y ∈ xs.take (t + 1), (isRop y.op && y.reg == r) = false) := hide (none_succ (f := fun y => isRop y.op && y.reg == r) hno.out X.out (by simp [hreg]))
          have k1 : (x.reg == r) = false := by simp [hreg]
          clear hrop hreg
          go_wp2_with fail
          (with_reducible refine (HC.out _).mono ?_); rintro e w2 ⟨rfl, hb2⟩
          have j2 := (hb2.cell (p := ⟨b, o + t * 4 + 2, none⟩) hbl).trans i2
          have hb3 : b < w2.heap.size := Nat.lt_of_lt_of_le hbl hb2.size
          go_wp2_with fail
          go_roundw
          case rel => exact ⟨t + 1, by omega, by go_num, NO, hb.trans (hb2.mono hb.size)⟩
          case measure => simp [intOf]; omega
    · have ER : Hid (R = false) := hide (by
        rw [HR.out, List.any_eq_false]
        intro x hx
        have h := hno.out x (by rw [List.take_of_length_le (by rw [H.out]; omega)]; exact hx)
        rw [h]; simp)
      go_wp2_with fail
      go_ret
      rw [ER.out]
      exact ⟨rfl, hb⟩

end Go.Proofs.Ytpnmphfdfadlcaa
