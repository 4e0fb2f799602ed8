/-
  The reference's source of random numbers. Condition: not too many were taken.
-/
import Derived.Test.YtpnmphfdfadlcaaD0
import Derived.Test.YtpnmphfdfadlcaaN1
namespace Go.Proofs.Ytpnmphfdfadlcaa
open Go.RowKit

def Pick (n : Int) (v : Value) (_ : World) : Prop := ∃ q : Int, v = .int .i64 q ∧ 0 ≤ q ∧ (1 ≤ n → q < n)

theorem Outside.of_below {lo hi : Nat} {w w' : World} (h : Below w.heap.size w w') : Outside lo hi w w' := ⟨h.os, h.tape, h.output, h.size, fun k hk _ => h.block k hk⟩

theorem xor64_nat (a b : Nat) (ha : a < 9223372036854775808) (hb : b < 9223372036854775808) : bits .xor .i64 (a : Int) (b : Int) = ((a ^^^ b : Nat) : Int) := by
  have hx : a ^^^ b < 2 ^ 63 := Nat.xor_lt_two_pow (by omega) (by omega)
  have h1 : (BitVec.ofInt 64 (a : Int)).toNat = a := by
    rw [BitVec.ofInt_natCast, BitVec.toNat_ofNat]; exact Nat.mod_eq_of_lt (by omega)
  have h2 : (BitVec.ofInt 64 (b : Int)).toNat = b := by
    rw [BitVec.ofInt_natCast, BitVec.toNat_ofNat]; exact Nat.mod_eq_of_lt (by omega)
  show IntKind.i64.wrap ((BitVec.ofInt 64 (a : Int) ^^^ BitVec.ofInt 64 (b : Int)).toNat : Int) = _
  rw [BitVec.toNat_xor, h1, h2, IntKind.wrap_i64]
  omega

theorem xor64_nonneg (x : Int) (h0 : 0 ≤ x) (h1 : x < 9223372036854775808) : 0 ≤ bits .xor .i64 x (x / 64) := by
  obtain ⟨X, rfl⟩ := Int.eq_ofNat_of_zero_le h0
  have d : ((X : Int) / 64) = ((X / 64 : Nat) : Int) := by simp
  rw [d, xor64_nat X (X / 64) (by omega) (by omega)]
  omega

set_option maxRecDepth 100000 in
set_option maxHeartbeats 1600000 in
theorem pick_any (b : Nat) (a : Option Addr) (c : Nat) (xs : List Int) (p n : Int) (w : World) (hr : Rd w b a c xs p) (hp : p ≤ 1000000000) (hn : n ≤ 1000000000) (hn0 : -1000000000 ≤ n) :
    Calls Try.prog 156 #[.pointer (some ⟨b, 0, none⟩), .int .i64 n] w (RetRd w b a c xs p 1 (Pick n)) := by
  have h0 := hr.c0; have h1 := hr.c1; have hf := hr.f1; have hlt := hr.lt; have hp0 := hr.p0
  have HS := hide (hr.step (p + 1) (by omega))
  have HO : Hid (Outside b (b + 1) w (w.setCell ⟨b, 1, none⟩ (.int .i64 (p + 1)))) := hide ((Outside.refl b (b + 1) w).grown (row := some b) ⟨rfl, rfl, rfl, by simp, fun q _ hq => heap_setCell_other w ⟨b, 1, none⟩ q _ (fun e => hq (by simp [e]))⟩ (fun q hq => by simp at hq; omega))
  by_cases hn1 : n < 1
  · go_enter Try.func156, Try.ntmps156
    go_wp2_with fail
    go_ret
    exact ⟨_, _, rfl, ⟨0, rfl, by omega, fun h => by omega⟩, Int.le_refl _, HS.out, HO.out⟩
  · have hn1' : decide (n < 1) = false := decide_eq_false hn1
    obtain ⟨aa, cc, hv, hc1, hc2, hc3, -⟩ := hr.rep.open
    simp only [Value.slice.injEq, true_and] at hv
    obtain ⟨rfl, rfl⟩ := hv
    by_cases hx : xs.length = 0
    · have hx' : ((xs.length : Int) == 0) = true := by rw [hx]; rfl
      generalize hl : xs.length = l at *
      clear hl
      go_enter Try.func156, Try.ntmps156
      go_wp2_with fail
      go_ret
      exact ⟨_, _, rfl, ⟨0, rfl, by omega, fun h => by omega⟩, Int.le_refl _, HS.out, HO.out⟩
    · have hx' : ((xs.length : Int) == 0) = false := by simp; intro h; exact hx (by rw [h]; rfl)
      obtain ⟨P, rfl⟩ := Int.eq_ofNat_of_zero_le hp0
      by_cases hk : P < xs.length
      · obtain ⟨y, hy⟩ := get_of_lt hk
        obtain ⟨g, o, rfl, hg, i0⟩ := hr.rep.byte hy
        have hgb := hr.far g o (by intro e; simp [e] at hk) rfl
        have hyb := hr.by' y (List.mem_of_getElem? hy)
        have hk' := nat_of_lt hk
        have hgne : g ≠ b := by omega
        clear hy hr
        generalize xs.length = l at *
        go_enter Try.func156, Try.ntmps156
        go_wp2_with fail
        go_ret
        exact ⟨_, _, rfl, ⟨y % n, rfl, Int.emod_nonneg _ (by omega), fun h => Int.emod_lt_of_pos _ (by omega)⟩, Int.le_refl _, HS.out, HO.out⟩
      · have hxl : 0 < xs.length := by omega
        obtain ⟨K1, hK1⟩ : ∃ K : Nat, (P : Int) % (xs.length : Int) = (K : Int) := ⟨P % xs.length, by simp⟩
        obtain ⟨K2, hK2⟩ : ∃ K : Nat, ((P : Int) * 7 + 3) % (xs.length : Int) = (K : Int) := ⟨(P * 7 + 3) % xs.length, by simp⟩
        have hl1 : (K1 : Int) < xs.length := by rw [← hK1]; exact Int.emod_lt_of_pos _ (by omega)
        have hl2 : (K2 : Int) < xs.length := by rw [← hK2]; exact Int.emod_lt_of_pos _ (by omega)
        have hl1' : K1 < xs.length := by omega
        have hl2' : K2 < xs.length := by omega
        obtain ⟨y1, hy1⟩ := get_of_lt hl1'
        obtain ⟨y2, hy2⟩ := get_of_lt hl2'
        obtain ⟨g, o, rfl, hg, i0⟩ := hr.rep.byte hy1
        obtain ⟨g', o', hge, hg', j0⟩ := hr.rep.byte hy2
        simp only [Option.some.injEq, Addr.mk.injEq, and_true] at hge
        obtain ⟨rfl, rfl⟩ := hge
        have hgb := hr.far g o (by intro e; simp [e] at hxl) rfl
        have hyb1 := hr.by' y1 (List.mem_of_getElem? hy1)
        have hyb2 := hr.by' y2 (List.mem_of_getElem? hy2)
        have hgne : g ≠ b := by omega
        have hkge : decide ((P : Int) < xs.length) = false := decide_eq_false (by omega)
        have hq1 : 0 ≤ (P : Int) / (xs.length : Int) := Int.ediv_nonneg (by omega) (by omega)
        have hq2 : (P : Int) / (xs.length : Int) ≤ (P : Int) := Int.ediv_le_self _ (by omega)
        clear hy1 hy2 hr hx
        generalize xs.length = l at *
        generalize hQ : (P : Int) / (l : Int) = Q at *
        have hQ2 : (P : Int) / (l : Int) = Q := hQ
        go_enter Try.func156, Try.ntmps156
        go_wp2_with fail
        refine wp_region_bw (by kernel_rfl) (by kernel_rfl) ?_
        repeat (go_big_quiet_step (fail))
        refine wpQuiet_nil ?_
        intro w1 hb1
        go_wp2_with fail
        go_ret
        have hX0 : 0 ≤ y1 * 131 + y2 * 1117 + (P : Int) * 29 + Q * 53 := by omega
        have hX1 : y1 * 131 + y2 * 1117 + (P : Int) * 29 + Q * 53 < 9223372036854775808 := by omega
        have hz := xor64_nonneg _ hX0 hX1
        refine ⟨_, _, rfl, ⟨_, rfl, Int.tmod_nonneg _ hz, fun h => Int.tmod_lt_of_pos _ (by omega)⟩, Int.le_refl _, HS.out.keep hb1 (by simpa using hlt), HO.out.trans (Outside.of_below hb1)⟩

theorem cell_of_block3 {w w' : World} {b : Nat} (h : w'.heap[b]? = w.heap[b]?) (o : Nat) : w'.cell? ⟨b, o, none⟩ = w.cell? ⟨b, o, none⟩ := by
  unfold World.cell?
  rw [h]

def OneOf (ys : List Int) (v : Value) (_ : World) : Prop := ∃ y ∈ ys, v = .int .i64 y

theorem num_any (b : Nat) (a : Option Addr) (c : Nat) (xs : List Int) (p : Int) (v : Value) (ys : List Int) (w : World) (hr : Rd w b a c xs p) (hp : p ≤ 1000000000) (hy : Rep IntE w v ys) (hl : ys.length ≤ 100) (h0 : 1 ≤ ys.length) (hfar : ∀ g o, v = .slice (some ⟨g, o, none⟩) ys.length (match v with | .slice _ _ c => c | _ => 0) → g ≠ b) :
    Calls Try.prog 159 #[.pointer (some ⟨b, 0, none⟩), v] w (RetRd w b a c xs p 1 (OneOf ys)) := by
  obtain ⟨a2, c2, rfl, -, -, -, hy⟩ := hy.open
  have HY := hide hy; clear hy
  have HF := hide hfar; clear hfar
  have HP := hide (fun w' h => pick_any b a c xs p ys.length w' h hp (by omega) (by omega))
  generalize hn : ys.length = n at *
  have H := hide hn; clear hn
  go_enter Try.func159, Try.ntmps159
  go_wp2_with fail
  (with_reducible refine (HP.out _ hr).mono ?_); rintro e w1 ⟨v1, p1, rfl, ⟨q, rfl, hq0, hq1⟩, hp1, hr1, ho1⟩
  obtain ⟨Q, rfl⟩ := Int.eq_ofNat_of_zero_le hq0
  have hQ : Q < n := by have := hq1 (by omega); omega
  obtain ⟨y, hyq⟩ := get_of_lt (xs := ys) (k := Q) (by rw [H.out]; exact hQ)
  obtain ⟨g, o, rfl, hg, i0⟩ := HY.out.int hyq
  have hgb := HF.out g o rfl
  have i1 : w1.cell? ⟨g, o + Q, none⟩ = some (.int .i64 y) := by
    rw [← i0]
    refine cell_of_block3 (ho1.block g hg (by omega)) _
  have hQ' := nat_of_lt hQ
  have hm := List.mem_of_getElem? hyq
  clear hyq i0
  go_wp2_with fail
  go_ret
  exact ⟨_, p1, rfl, ⟨y, hm, rfl⟩, hp1, hr1, ho1⟩

end Go.Proofs.Ytpnmphfdfadlcaa
