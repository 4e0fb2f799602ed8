/-
  The arguments that are drawn for CondSame. Condition: none but the bytes' own.
-/
import Derived.Test.YtpnmphfdfadlcaaD4
namespace Go.Proofs.Ytpnmphfdfadlcaa
open Go.RowKit

/-- A source that was just opened. -/
def RetOpen (w : World) (e : Ending) (w' : World) : Prop := ∃ (B : Nat) (a : Option Addr) (c : Nat) (xs : List Int), e = .returned (.pointer (some ⟨B, 0, none⟩)) ∧ Rd w' B a c xs 0 ∧ w.heap.size ≤ B ∧ Below w.heap.size w w'

theorem Rep.take {w : World} {a : Option Addr} {n c : Nat} {xs : List Int} (h : Rep ByteE w (.slice a n c) xs) {k : Nat} (hk : k ≤ xs.length) : Rep ByteE w (.slice a k c) (xs.take k) := by
  obtain ⟨a', c', hv, h1, h2, h3⟩ := h
  simp only [Value.slice.injEq] at hv
  obtain ⟨rfl, rfl, rfl⟩ := hv
  refine ⟨a, c, by rw [List.length_take, Nat.min_eq_left hk], by rw [List.length_take]; omega, h2, fun i x hx => ?_⟩
  rw [List.getElem?_take] at hx
  split at hx
  · exact h3 i x hx
  · cases hx

theorem rep_lt {w : World} {a : Option Addr} {n c : Nat} {xs : List Int} (h : Rep ByteE w (.slice a n c) xs) (g o : Nat) (hne : xs ≠ []) (e : a = some ⟨g, o, none⟩) : g < w.heap.size := by
  cases xs with
  | nil => exact absurd rfl hne
  | cons x xs =>
    obtain ⟨b, o', hb, hlt, -⟩ := h.byte (k := 0) (x := x) rfl
    rw [e] at hb
    simp only [Option.some.injEq, Addr.mk.injEq, and_true] at hb
    omega

set_option maxHeartbeats 800000 in
theorem l17Open_any (v : Value) (xs : List Int) (w : World) (hx : Rep ByteE w v xs) (hb : ∀ x ∈ xs, 0 ≤ x ∧ x ≤ 255) :
    Calls Try.prog 78 #[v] w (RetOpen w) := by
  obtain ⟨a, c, rfl, hc1, hc2, hc3, hx⟩ := hx.open
  have HX := hide hx; clear hx
  by_cases hl : xs.length > 2000
  · have hT := hide (HX.out.take (k := 2000) (by omega))
    have hlt : (2000 : Int) < (xs.length : Int) := by omega
    have hc4 : 2000 ≤ c := by omega
    have htl : (xs.take 2000).length = 2000 := by rw [List.length_take]; omega
    have HTL := hide htl; clear htl
    generalize hn : xs.length = n at *
    clear hn
    go_enter Try.func78, Try.ntmps78
    go_wp2_with fail
    go_ret
    have h2 : Rd (w.alloc (.cells #[.slice a 2000 c, .int .i64 0] 161)) w.heap.size a c (xs.take 2000) 0 :=
      ⟨by simp, by rw [HTL.out]; simp [go_sem], by simp [go_sem], by simp [go_sem], by rw [HTL.out]; exact hT.out.below ((Below.refl _ _).alloc (Nat.le_refl _) _), fun g o hne e => rep_lt hT.out g o hne e, fun x hx => hb x (List.mem_of_mem_take hx), by omega⟩
    exact ⟨w.heap.size, a, c, _, rfl, h2, Nat.le_refl _, (Below.refl _ _).alloc (Nat.le_refl _) _⟩
  · have hge : decide ((xs.length : Int) > 2000) = false := decide_eq_false (by omega)
    clear hl
    have HXR := hide (fun g o hne e => rep_lt HX.out g o hne e)
    generalize hn : xs.length = n at *
    have H := hide hn; clear hn
    go_enter Try.func78, Try.ntmps78
    go_wp2_with fail
    go_ret
    have h2 : Rd (w.alloc (.cells #[.slice a n c, .int .i64 0] 161)) w.heap.size a c xs 0 :=
      ⟨by simp, by rw [H.out]; simp [go_sem], by simp [go_sem], by simp [go_sem], by rw [H.out]; exact HX.out.below ((Below.refl _ _).alloc (Nat.le_refl _) _), HXR.out, hb, by omega⟩
    exact ⟨w.heap.size, a, c, _, rfl, h2, Nat.le_refl _, (Below.refl _ _).alloc (Nat.le_refl _) _⟩

end Go.Proofs.Ytpnmphfdfadlcaa
