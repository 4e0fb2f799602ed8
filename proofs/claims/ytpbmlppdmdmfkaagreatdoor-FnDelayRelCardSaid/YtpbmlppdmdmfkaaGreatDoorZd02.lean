/-
  The arguments that are drawn for CondSame. Condition: none but the bytes' own.
-/
import Derived.Test.YtpbmlppdmdmfkaaGreatDoorZd01
import Derived.Test.YtpbmlppdmdmfkaaGreatDoorZd00
import Derived.Deep.RegionHeld3
import Derived.Deep.DeepCutAuto
namespace Go.Proofs.YtpbmlppdmdmfkaaGreatDoor
open Go.RowKit

theorem Tryz.infoInt : (Tryz.prog.info? 3).map (fun i => (i.zero, i.size, i.bytes)) = some (some (.int .i64 0), 1, 8) := by kernel_rfl

abbrev OwnN (w : World) (base : Nat) (v : Value) (xs : List Int) : Prop := Own IntE 3 w base v xs

theorem Own.int {T : TypeId} {w : World} {base g n cap : Nat} {xs : List Int} (h : Own IntE T w base (.slice (some ⟨g, 0, none⟩) n cap) xs) {k : Nat} {x : Int} (hx : xs[k]? = some x) :
    g < w.heap.size ∧ w.cell? ⟨g, k, none⟩ = some (.int .i64 x) ∧ ∀ j, w.frozen? ⟨g, j, none⟩ = false := by
  have := h.cell hx (j := 0) rfl
  simp only [IntE, Nat.mul_one, Nat.add_zero] at this
  exact ⟨(World.ownsRow.lt h g rfl).2, this, fun j => h.frozen j⟩

theorem Own.setInt {T : TypeId} {w : World} {base g n cap : Nat} {xs : List Int} (h : Own IntE T w base (.slice (some ⟨g, 0, none⟩) n cap) xs) {k : Nat} {z : Int} (hz : xs[k]? = some z) (x : Int) :
    Own IntE T (w.setCell ⟨g, k, none⟩ (.int .i64 x)) base (.slice (some ⟨g, 0, none⟩) n cap) (xs.set k x) := by
  have h0 := h.set (i := k) (j := 0) x (u := .int .i64 x) (by decide) hz rfl
  simp only [IntE, Nat.mul_one, Nat.add_zero] at h0
  exact h0

set_option maxHeartbeats 400000 in
theorem eqIntS_any (v v' : Value) (xs ys : List Int) (w : World) (hx : Rep IntE w v xs) (hy : Rep IntE w v' ys) :
    Calls Tryz.prog 38 #[v, v'] w fun e w' => e = .returned (.bool (decide (xs = ys))) ∧ Below w.heap.size w w' := by
  obtain ⟨a, c, rfl, hc1, hc2, hc3, hx⟩ := hx.open
  obtain ⟨a', c', rfl, hc1', hc2', hc3', hy⟩ := hy.open
  have HX := hide hx; clear hx
  have HY := hide hy; clear hy
  generalize hn : xs.length = n at *
  generalize hn' : ys.length = n' at *
  have H := hide hn; clear hn
  have H' := hide hn'; clear hn'
  by_cases hc : n = n'
  · subst hc
    have hc' : ((n : Int) != n) = false := by simp
    go_enter Tryz.func38, Tryz.ntmps38
    go_wp2_with fail
    go_loopw [5] (fun v wr => ∃ k : Nat, k ≤ n ∧ v = .int .i64 k ∧ Hid (xs.take k = ys.take k) ∧ Below w.heap.size w wr) (fun v _ => n - (intOf v).toNat)
    case atStart => exact ⟨0, Nat.zero_le _, rfl, hide (by simp), Below.refl _ _⟩
    case round =>
      obtain ⟨k, hk, rfl, T, hb⟩ := hrel
      by_cases hlt : k < n
      · obtain ⟨x, hxk⟩ := get_of_lt (xs := xs) (k := k) (by rw [H.out]; exact hlt)
        obtain ⟨y, hyk⟩ := get_of_lt (xs := ys) (k := k) (by rw [H'.out]; exact hlt)
        obtain ⟨b, o, rfl, hbl, i0⟩ := (HX.out.below hb).int hxk
        obtain ⟨b', o', rfl, hbl', j0⟩ := (HY.out.below hb).int hyk
        have hlt' := nat_of_lt hlt
        have X := hide hxk; clear hxk
        have Y := hide hyk; clear hyk
        by_cases hxy : x = y
        · have T' := hide (take_eq_succ T.out X.out Y.out hxy)
          have hd : (x != y) = false := by simp [hxy]
          clear hxy
          go_wp2_with fail
          refine wp_region_bw (by kernel_rfl) (by kernel_rfl) ?_
          repeat (go_big_quiet_step (fail))
          refine wpQuiet_nil ?_
          intro w1 hb1
          have hb2 := hb.trans (hb1.mono hb.size)
          go_wp2_with fail
          go_roundw
          case rel => exact ⟨k + 1, by omega, by go_num, T', hb2⟩
          case measure => simp [intOf]; omega
        · have hq := ne_of_get X.out Y.out hxy
          have hd : (x != y) = true := by simp [hxy]
          clear hxy
          go_wp2_with fail
          refine wp_region_bw (by kernel_rfl) (by kernel_rfl) ?_
          repeat (go_big_quiet_step (fail))
          refine wpQuiet_nil ?_
          intro w1 hb1
          have hb2 := hb.trans (hb1.mono hb.size)
          go_wp2_with fail
          go_ret
          exact ⟨by simp [hq], hb2⟩
      · have e2 : xs = ys := take_all_eq T.out (by rw [H.out]; omega) (by rw [H'.out]; omega)
        subst e2
        go_wp2_with fail
        go_ret
        exact ⟨by simp, hb⟩
  · have hc' : ((n : Int) != n') = true := by simp; omega
    have hq : xs ≠ ys := fun h => hc (by rw [← H.out, ← H'.out, h])
    go_enter Tryz.func38, Tryz.ntmps38
    go_wp2_with fail
    go_ret
    exact ⟨by simp [hq], Below.refl _ _⟩

set_option maxHeartbeats 400000 in
theorem toIntS_any (v : Value) (xs : List Int) (w : World) (hx : Rep IntE w v xs) (hl : xs.length ≤ 1048576) :
    Calls Tryz.prog 35 #[v] w (RetOwn IntE 3 w xs) := by
  obtain ⟨a, c, rfl, hc1, hc2, hc3, hx⟩ := hx.open
  have HX := hide hx; clear hx
  generalize hn : xs.length = n at *
  have H := hide hn; clear hn
  go_enter Tryz.func35, Tryz.ntmps35
  go_wp2_with (at_make; refine wpList_make IntE 3 0 Tryz.infoInt rfl Tryz.underlying25 n (by decide) (by omega) rfl _ _ rfl rfl rfl ?_; intro w1 hown hgr)
  have hb1 := below_of_grown hgr
  go_loopw [4] (fun i wr => ∃ k : Nat, k ≤ n ∧ i = .int .i64 k ∧ OwnN wr w.heap.size (.slice (some ⟨w.heap.size, 0, none⟩) n n) (xs.take k ++ List.replicate (n - k) 0) ∧ Below w.heap.size w wr) (fun i _ => n - (intOf i).toNat)
  case atStart => exact ⟨0, Nat.zero_le _, rfl, by simpa using hown, hb1⟩
  case round =>
    obtain ⟨k, hk, rfl, ho, hb⟩ := hrel
    by_cases hlt : k < n
    · obtain ⟨x, hxk⟩ := get_of_lt (xs := xs) (k := k) (by rw [H.out]; exact hlt)
      obtain ⟨b, o, rfl, hbl, i0⟩ := (HX.out.below hb).int hxk
      have hlt' := nat_of_lt hlt
      have X := hide hxk; clear hxk
      have hg : (xs.take k ++ List.replicate (n - k) 0)[k]? = some 0 := by rw [← H.out]; exact get_pad xs _ (by rw [H.out]; exact hlt)
      obtain ⟨hgl, f0, hfr⟩ := ho.int hg
      have ho2 := ho.setInt hg x
      rw [← H.out, set_pad xs _ X.out, H.out] at ho2
      have HO2 := hide ho2; clear ho2 hg
      go_wp2_with fail
      go_roundw
      case rel => exact ⟨k + 1, by omega, by go_num, HO2.out, hb.setCell (Nat.le_refl _) _⟩
      case measure => simp [intOf]; omega
    · go_wp2_with fail
      go_ret
      rw [← H.out, pad_all xs _ (by rw [H.out]; omega), H.out] at ho
      exact ⟨_, rfl, ho, hb⟩
/-- The number m itself. -/
def markN (m : Int) : Int := m
/-- So many numbers, numbered from m on. -/
def marksN : Nat → Int → List Int
  | 0, _ => []
  | n + 1, m => markN m :: marksN n (m + 1)

theorem marksN_length (n : Nat) (m : Int) : (marksN n m).length = n := by
  induction n generalizing m with
  | zero => rfl
  | succ n ih => simp [marksN, ih]

theorem marksN_get (n : Nat) (m : Int) {k : Nat} (h : k < n) : (marksN n m)[k]? = some (markN (m + k)) := by
  induction n generalizing m k with
  | zero => omega
  | succ n ih =>
    cases k with
    | zero => simp [marksN]
    | succ k => simp only [marksN, List.getElem?_cons_succ]; rw [ih _ (by omega)]; congr 2; omega

/-- The first k marked, the rest as they were. -/
theorem marksN_step (xs : List Int) (m : Int) {k : Nat} (hk : k < xs.length) : ((marksN k m) ++ xs.drop k).set k (markN (m + k)) = marksN (k + 1) m ++ xs.drop (k + 1) := by
  have h1 : marksN (k + 1) m = marksN k m ++ [markN (m + k)] := by
    apply List.ext_getElem?
    intro i
    by_cases hi : i < k
    · rw [marksN_get _ _ (by omega), List.getElem?_append_left (by rw [marksN_length]; exact hi), marksN_get _ _ hi]
    · by_cases hi2 : i = k
      · subst hi2
        rw [marksN_get _ _ (by omega), List.getElem?_append_right (by rw [marksN_length]; omega), marksN_length]; simp
      · rw [List.getElem?_eq_none (by rw [marksN_length]; omega), List.getElem?_eq_none (by simp [marksN_length]; omega)]
  rw [List.set_append_right _ _ (by rw [marksN_length]; omega), marksN_length, Nat.sub_self, List.drop_eq_getElem_cons hk, List.set_cons_zero, h1]
  simp

set_option maxHeartbeats 800000 in
theorem markIntS_any (v : Value) (xs : List Int) (m : Int) (w : World) (base : Nat) (hx : OwnN w base v xs) (hl : xs.length ≤ 1099511627776) (hm0 : 0 ≤ m) (hm1 : m ≤ 1099511627776) :
    Calls Tryz.prog 39 #[v, .int .i64 m] w fun e w' => e = .returned (.int .i64 (m + xs.length)) ∧ OwnN w' base v (marksN xs.length m) ∧ w.grownBy w' v.ownBlock := by
  rcases hx.shape with ⟨rfl, rfl⟩ | ⟨g, c, rfl, hg1, hg2, hc1, hc2⟩
  · go_enter Tryz.func39, Tryz.ntmps39
    go_wp2_with fail
    go_loopw [1, 5] (fun q i wr => i = .int .i64 0 ∧ q = .int .i64 m ∧ wr = w) (fun _ i _ => (intOf i).toNat)
    case atStart => exact ⟨rfl, rfl, rfl⟩
    case round =>
      obtain ⟨rfl, rfl, rfl⟩ := hrel
      go_wp2_with fail
      go_ret
      exact ⟨by simp, hx, World.grownBy.refl _ _⟩
  · generalize hn : xs.length = n at *
    have H := hide hn; clear hn
    go_enter Tryz.func39, Tryz.ntmps39
    go_wp2_with fail
    go_loopw [1, 5] (fun q i wr => ∃ k : Nat, k ≤ n ∧ i = .int .i64 k ∧ q = .int .i64 (m + k) ∧ OwnN wr base (.slice (some ⟨g, 0, none⟩) n c) (marksN k m ++ xs.drop k) ∧ w.grownBy wr (some g)) (fun _ i _ => n - (intOf i).toNat)
    case atStart => exact ⟨0, Nat.zero_le _, rfl, by simp, by simpa [marksN] using hx, World.grownBy.refl _ _⟩
    case round =>
      obtain ⟨k, hk, rfl, rfl, ho, hb⟩ := hrel
      by_cases hlt : k < n
      · obtain ⟨x, hxk⟩ := get_of_lt (xs := xs) (k := k) (by rw [H.out]; exact hlt)
        have hlt' := nat_of_lt hlt
        have hget : (marksN k m ++ xs.drop k)[k]? = some x := by rw [List.getElem?_append_right (by rw [marksN_length]; omega), marksN_length, Nat.sub_self, List.getElem?_drop]; simpa using hxk
        obtain ⟨hgl, f0, hfr⟩ := ho.int hget
        have ho2 := ho.setInt hget (markN (m + k))
        rw [marksN_step xs m (by rw [H.out]; exact hlt)] at ho2
        have X := hide hxk; clear hxk
        have G := hide hget; clear hget
        go_wp2_with fail
        go_roundw
        case rel => exact ⟨k + 1, by omega, by go_num, by go_num, ho2, grown_set hb _ _⟩
        case measure => simp [intOf]; omega
      · have e : k = n := by omega
        subst e
        go_wp2_with fail
        go_ret
        rw [List.drop_of_length_le (by rw [H.out]; omega), List.append_nil] at ho
        exact ⟨rfl, ho, hb⟩

set_option maxHeartbeats 800000 in
/-- Numbers that are numbered from m on are found so. -/
theorem heldIntS_any (v : Value) (n : Nat) (m : Int) (w : World) (hx : Rep IntE w v (marksN n m)) (hl : n ≤ 1099511627776) (hm0 : 0 ≤ m) (hm1 : m ≤ 1099511627776) :
    Calls Tryz.prog 90 #[v, .int .i64 m] w fun e w' => e = .returned (.int .i64 (m + n)) ∧ w = w' := by
  obtain ⟨a, c, rfl, hc1, hc2, hc3, hx⟩ := hx.open
  rw [marksN_length] at *
  go_enter Tryz.func90, Tryz.ntmps90
  go_wp2_with fail
  go_loop [1, 5] (fun q i => ∃ k : Nat, k ≤ n ∧ i = .int .i64 k ∧ q = .int .i64 (m + k)) (fun _ i => n - (intOf i).toNat)
  case atStart => exact ⟨0, Nat.zero_le _, rfl, by simp⟩
  case round =>
    obtain ⟨k, hk, rfl, rfl⟩ := hrel
    by_cases hlt : k < n
    · obtain ⟨b, o, rfl, hbl, i0⟩ := hx.int (marksN_get n m hlt)
      simp only [markN] at i0
      have hlt' := nat_of_lt hlt
      go_wp2_with fail
      go_round
      case rel => exact ⟨k + 1, by omega, by go_num, by go_num⟩
      case measure => simp [intOf]; omega
    · have e : k = n := by omega
      subst e
      go_wp2_with fail
      go_ret
      exact ⟨rfl, rfl⟩


end Go.Proofs.YtpbmlppdmdmfkaaGreatDoor

namespace Go.Proofs.YtpbmlppdmdmfkaaGreatDoor
open Go.RowKit

def Pick (n : Int) (v : Value) (_ : World) : Prop := ∃ q : Int, v = .int .i64 q ∧ 0 ≤ q ∧ (1 ≤ n → q < n)

theorem Outside.of_below {lo hi : Nat} {w w' : World} (h : Below w.heap.size w w') : Outside lo hi w w' := ⟨h.os, h.tape, h.output, h.size, fun k hk _ => h.block k hk⟩

theorem xor64_nat (a b : Nat) (ha : a < 9223372036854775808) (hb : b < 9223372036854775808) : bits .xor .i64 (a : Int) (b : Int) = ((a ^^^ b : Nat) : Int) := by
  have hx : a ^^^ b < 2 ^ 63 := Nat.xor_lt_two_pow (by omega) (by omega)
  have h1 : (BitVec.ofInt 64 (a : Int)).toNat = a := by
    rw [BitVec.ofInt_natCast, BitVec.toNat_ofNat]; exact Nat.mod_eq_of_lt (by omega)
  have h2 : (BitVec.ofInt 64 (b : Int)).toNat = b := by
    rw [BitVec.ofInt_natCast, BitVec.toNat_ofNat]; exact Nat.mod_eq_of_lt (by omega)
  show IntKind.i64.wrap ((BitVec.ofInt 64 (a : Int) ^^^ BitVec.ofInt 64 (b : Int)).toNat : Int) = _
  rw [BitVec.toNat_xor, h1, h2, IntKind.wrap_i64]
  omega

theorem xor64_nonneg (x : Int) (h0 : 0 ≤ x) (h1 : x < 9223372036854775808) : 0 ≤ bits .xor .i64 x (x / 64) := by
  obtain ⟨X, rfl⟩ := Int.eq_ofNat_of_zero_le h0
  have d : ((X : Int) / 64) = ((X / 64 : Nat) : Int) := by simp
  rw [d, xor64_nat X (X / 64) (by omega) (by omega)]
  omega

set_option maxRecDepth 100000 in
set_option maxHeartbeats 1600000 in
theorem pick_any (b : Nat) (a : Option Addr) (c : Nat) (xs : List Int) (p n : Int) (w : World) (hr : Rd w b a c xs p) (hp : p ≤ 1000000000) (hn : n ≤ 1000000000) (hn0 : -1000000000 ≤ n) :
    Calls Tryz.prog 184 #[.pointer (some ⟨b, 0, none⟩), .int .i64 n] w (RetRd w b a c xs p 1 (Pick n)) := by
  have h0 := hr.c0; have h1 := hr.c1; have hf := hr.f1; have hlt := hr.lt; have hp0 := hr.p0
  have HS := hide (hr.step (p + 1) (by omega))
  have HO : Hid (Outside b (b + 1) w (w.setCell ⟨b, 1, none⟩ (.int .i64 (p + 1)))) := hide ((Outside.refl b (b + 1) w).grown (row := some b) ⟨rfl, rfl, rfl, by simp, fun q _ hq => heap_setCell_other w ⟨b, 1, none⟩ q _ (fun e => hq (by simp [e]))⟩ (fun q hq => by simp at hq; omega))
  by_cases hn1 : n < 1
  · go_enter Tryz.func184, Tryz.ntmps184
    go_wp2_with fail
    go_ret
    exact ⟨_, _, rfl, ⟨0, rfl, by omega, fun h => by omega⟩, Int.le_refl _, HS.out, HO.out⟩
  · have hn1' : decide (n < 1) = false := decide_eq_false hn1
    obtain ⟨aa, cc, hv, hc1, hc2, hc3, -⟩ := hr.rep.open
    simp only [Value.slice.injEq, true_and] at hv
    obtain ⟨rfl, rfl⟩ := hv
    by_cases hx : xs.length = 0
    · have hx' : ((xs.length : Int) == 0) = true := by rw [hx]; rfl
      generalize hl : xs.length = l at *
      clear hl
      go_enter Tryz.func184, Tryz.ntmps184
      go_wp2_with fail
      go_ret
      exact ⟨_, _, rfl, ⟨0, rfl, by omega, fun h => by omega⟩, Int.le_refl _, HS.out, HO.out⟩
    · have hx' : ((xs.length : Int) == 0) = false := by simp; intro h; exact hx (by rw [h]; rfl)
      obtain ⟨P, rfl⟩ := Int.eq_ofNat_of_zero_le hp0
      by_cases hk : P < xs.length
      · obtain ⟨y, hy⟩ := get_of_lt hk
        obtain ⟨g, o, rfl, hg, i0⟩ := hr.rep.byte hy
        have hgb := hr.far g o (by intro e; simp [e] at hk) rfl
        have hyb := hr.by' y (List.mem_of_getElem? hy)
        have hk' := nat_of_lt hk
        have hgne : g ≠ b := by omega
        clear hy hr
        generalize xs.length = l at *
        go_enter Tryz.func184, Tryz.ntmps184
        go_wp2_with fail
        go_ret
        exact ⟨_, _, rfl, ⟨y % n, rfl, Int.emod_nonneg _ (by omega), fun h => Int.emod_lt_of_pos _ (by omega)⟩, Int.le_refl _, HS.out, HO.out⟩
      · have hxl : 0 < xs.length := by omega
        obtain ⟨K1, hK1⟩ : ∃ K : Nat, (P : Int) % (xs.length : Int) = (K : Int) := ⟨P % xs.length, by simp⟩
        obtain ⟨K2, hK2⟩ : ∃ K : Nat, ((P : Int) * 7 + 3) % (xs.length : Int) = (K : Int) := ⟨(P * 7 + 3) % xs.length, by simp⟩
        have hl1 : (K1 : Int) < xs.length := by rw [← hK1]; exact Int.emod_lt_of_pos _ (by omega)
        have hl2 : (K2 : Int) < xs.length := by rw [← hK2]; exact Int.emod_lt_of_pos _ (by omega)
        have hl1' : K1 < xs.length := by omega
        have hl2' : K2 < xs.length := by omega
        obtain ⟨y1, hy1⟩ := get_of_lt hl1'
        obtain ⟨y2, hy2⟩ := get_of_lt hl2'
        obtain ⟨g, o, rfl, hg, i0⟩ := hr.rep.byte hy1
        obtain ⟨g', o', hge, hg', j0⟩ := hr.rep.byte hy2
        simp only [Option.some.injEq, Addr.mk.injEq, and_true] at hge
        obtain ⟨rfl, rfl⟩ := hge
        have hgb := hr.far g o (by intro e; simp [e] at hxl) rfl
        have hyb1 := hr.by' y1 (List.mem_of_getElem? hy1)
        have hyb2 := hr.by' y2 (List.mem_of_getElem? hy2)
        have hgne : g ≠ b := by omega
        have hkge : decide ((P : Int) < xs.length) = false := decide_eq_false (by omega)
        have hq1 : 0 ≤ (P : Int) / (xs.length : Int) := Int.ediv_nonneg (by omega) (by omega)
        have hq2 : (P : Int) / (xs.length : Int) ≤ (P : Int) := Int.ediv_le_self _ (by omega)
        clear hy1 hy2 hr hx
        generalize xs.length = l at *
        generalize hQ : (P : Int) / (l : Int) = Q at *
        have hQ2 : (P : Int) / (l : Int) = Q := hQ
        go_enter Tryz.func184, Tryz.ntmps184
        go_wp2_with fail
        refine wp_region_bw (by kernel_rfl) (by kernel_rfl) ?_
        repeat (go_big_quiet_step (fail))
        refine wpQuiet_nil ?_
        intro w1 hb1
        go_wp2_with fail
        go_ret
        have hX0 : 0 ≤ y1 * 131 + y2 * 1117 + (P : Int) * 29 + Q * 53 := by omega
        have hX1 : y1 * 131 + y2 * 1117 + (P : Int) * 29 + Q * 53 < 9223372036854775808 := by omega
        have hz := xor64_nonneg _ hX0 hX1
        refine ⟨_, _, rfl, ⟨_, rfl, Int.tmod_nonneg _ hz, fun h => Int.tmod_lt_of_pos _ (by omega)⟩, Int.le_refl _, HS.out.keep hb1 (by simpa using hlt), HO.out.trans (Outside.of_below hb1)⟩

theorem cell_of_block3 {w w' : World} {b : Nat} (h : w'.heap[b]? = w.heap[b]?) (o : Nat) : w'.cell? ⟨b, o, none⟩ = w.cell? ⟨b, o, none⟩ := by
  unfold World.cell?
  rw [h]

def OneOf (ys : List Int) (v : Value) (_ : World) : Prop := ∃ y ∈ ys, v = .int .i64 y

theorem num_any (b : Nat) (a : Option Addr) (c : Nat) (xs : List Int) (p : Int) (v : Value) (ys : List Int) (w : World) (hr : Rd w b a c xs p) (hp : p ≤ 1000000000) (hy : Rep IntE w v ys) (hl : ys.length ≤ 100) (h0 : 1 ≤ ys.length) (hfar : ∀ g o, v = .slice (some ⟨g, o, none⟩) ys.length (match v with | .slice _ _ c => c | _ => 0) → g ≠ b) :
    Calls Tryz.prog 185 #[.pointer (some ⟨b, 0, none⟩), v] w (RetRd w b a c xs p 1 (OneOf ys)) := by
  obtain ⟨a2, c2, rfl, -, -, -, hy⟩ := hy.open
  have HY := hide hy; clear hy
  have HF := hide hfar; clear hfar
  have HP := hide (fun w' h => pick_any b a c xs p ys.length w' h hp (by omega) (by omega))
  generalize hn : ys.length = n at *
  have H := hide hn; clear hn
  go_enter Tryz.func185, Tryz.ntmps185
  go_wp2_with fail
  (with_reducible refine (HP.out _ hr).mono ?_); rintro e w1 ⟨v1, p1, rfl, ⟨q, rfl, hq0, hq1⟩, hp1, hr1, ho1⟩
  obtain ⟨Q, rfl⟩ := Int.eq_ofNat_of_zero_le hq0
  have hQ : Q < n := by have := hq1 (by omega); omega
  obtain ⟨y, hyq⟩ := get_of_lt (xs := ys) (k := Q) (by rw [H.out]; exact hQ)
  obtain ⟨g, o, rfl, hg, i0⟩ := HY.out.int hyq
  have hgb := HF.out g o rfl
  have i1 : w1.cell? ⟨g, o + Q, none⟩ = some (.int .i64 y) := by
    rw [← i0]
    refine cell_of_block3 (ho1.block g hg (by omega)) _
  have hQ' := nat_of_lt hQ
  have hm := List.mem_of_getElem? hyq
  clear hyq i0
  go_wp2_with fail
  go_ret
  exact ⟨_, p1, rfl, ⟨y, hm, rfl⟩, hp1, hr1, ho1⟩

end Go.Proofs.YtpbmlppdmdmfkaaGreatDoor

namespace Go.Proofs.YtpbmlppdmdmfkaaGreatDoor
open Go.RowKit

theorem belowAlloc (w : World) (o : Obj) : Below w.heap.size w (w.alloc o) := (Below.refl _ _).alloc (Nat.le_refl _) o

theorem ocell {b : Nat} {W w1 : World} (h : Outside b (b + 1) W w1) : (∀ g o, g < W.heap.size → g ≠ b → w1.cell? ⟨g, o, none⟩ = W.cell? ⟨g, o, none⟩) ∧ (∀ g o, g < W.heap.size → g ≠ b → w1.frozen? ⟨g, o, none⟩ = W.frozen? ⟨g, o, none⟩) := by
  refine ⟨fun g o hg hne => cell_of_block (h.block g hg (by omega)) o, fun g o hg hne => ?_⟩
  have := h.block g hg (by omega)
  unfold World.frozen?
  rw [this]

theorem Outside.setNew {lo hi : Nat} {w w' : World} (h : Outside lo hi w w') {g : Nat} (hg : w.heap.size ≤ g) (j : Nat) (v : Value) : Outside lo hi w (w'.setCell ⟨g, j, none⟩ v) :=
  ⟨h.os, h.tape, h.output, by simpa using h.size, fun k hk hlh => (heap_setCell_other w' ⟨g, j, none⟩ k v (fun e => by simp at e; omega)).trans (h.block k hk hlh)⟩

theorem Outside.allocNew {lo hi : Nat} {w w' : World} (h : Outside lo hi w w') (o : Obj) : Outside lo hi w (w'.alloc o) := h.trans (Outside.of_below (belowAlloc _ _))

theorem Rd.setNew {w : World} {b : Nat} {a : Option Addr} {c : Nat} {xs : List Int} {p : Int} (h : Rd w b a c xs p) {g : Nat} (hg : b < g) (j : Nat) (v : Value) : Rd (w.setCell ⟨g, j, none⟩ v) b a c xs p :=
  h.keep (B := b + 1) ((Below.refl _ _).setCell (show b + 1 ≤ g from hg) v) (Nat.lt_succ_self _)
theorem Rd.allocNew {w : World} {b : Nat} {a : Option Addr} {c : Nat} {xs : List Int} {p : Int} (h : Rd w b a c xs p) (o : Obj) : Rd (w.alloc o) b a c xs p :=
  h.keep (belowAlloc w o) h.lt

theorem RepK.outside {lo b : Nat} {w w' : World} {s : Slc} {ks : List Cd} (h : RepK lo w s ks) (ho : Outside b (b + 1) w w') (hb : b < lo) : RepK lo w' s ks :=
  h.keep fun q hq hqs => ho.block q hqs (by omega)
theorem RepK.allocNew {lo : Nat} {w : World} {s : Slc} {ks : List Cd} (h : RepK lo w s ks) (o : Obj) : RepK lo (w.alloc o) s ks := h.below (belowAlloc w o)

/-- A literal of one condition. -/
theorem RepK.one {lo : Nat} {w : World} {o t q x : Int} {s : Slc} {ks : List Cd} (h : RepK lo w s ks) (hlo : lo ≤ w.heap.size) (T : TypeId) :
    RepK lo (w.alloc (.cells #[.int .i64 o, .int .i64 t, .int .i64 q, .int .i64 x, .slice s.a s.n s.cap] T)) ⟨some ⟨w.heap.size, 0, none⟩, 1, 1⟩ [.mk o t q x ks] := by
  refine ⟨[⟨o, t, q, x, s⟩], rfl, ⟨_, 1, rfl, Nat.le_refl _, by unfold maxLen; omega, fun i u hu => ?_⟩, .inr fun b f e => by simp at e; omega, fun i u k hu hk => ?_⟩
  · refine ⟨w.heap.size, 0, rfl, fun j v hv => ?_⟩
    cases i with
    | zero =>
      simp at hu; subst hu
      rw [cell_of_row _ _ _ _ T (0, 0) (heap_alloc_new w _)]
      simpa [CsE] using hv
    | succ i => simp at hu
  · cases i with
    | zero =>
      simp at hu hk; subst hu; subst hk
      exact (h.allocNew _).cond o t q x
    | succ i => simp at hu

/-- A literal of two conditions. -/
theorem RepK.two {lo : Nat} {w : World} {o t q x o' t' q' x' : Int} {s s' : Slc} {ks ks' : List Cd} (h : RepK lo w s ks) (h' : RepK lo w s' ks') (hlo : lo ≤ w.heap.size) (T : TypeId) :
    RepK lo (w.alloc (.cells #[.int .i64 o, .int .i64 t, .int .i64 q, .int .i64 x, .slice s.a s.n s.cap, .int .i64 o', .int .i64 t', .int .i64 q', .int .i64 x', .slice s'.a s'.n s'.cap] T)) ⟨some ⟨w.heap.size, 0, none⟩, 2, 2⟩ [.mk o t q x ks, .mk o' t' q' x' ks'] := by
  refine ⟨[⟨o, t, q, x, s⟩, ⟨o', t', q', x', s'⟩], rfl, ⟨_, 2, rfl, Nat.le_refl _, by unfold maxLen; omega, fun i u hu => ?_⟩, .inr fun b f e => by simp at e; omega, fun i u k hu hk => ?_⟩
  · refine ⟨w.heap.size, 0, rfl, fun j v hv => ?_⟩
    match i, hu with
    | 0, hu =>
      simp at hu; subst hu
      rw [cell_of_row _ _ _ _ T (0, 0) (heap_alloc_new w _)]
      have hj : j < 5 := by have := (List.getElem?_eq_some_iff.1 hv).1; simpa [CsE] using this
      match j, hj, hv with
      | 0, _, hv => simpa [CsE] using hv
      | 1, _, hv => simpa [CsE] using hv
      | 2, _, hv => simpa [CsE] using hv
      | 3, _, hv => simpa [CsE] using hv
      | 4, _, hv => simpa [CsE] using hv
    | 1, hu =>
      simp at hu; subst hu
      rw [cell_of_row _ _ _ _ T (0, 0) (heap_alloc_new w _)]
      have hj : j < 5 := by have := (List.getElem?_eq_some_iff.1 hv).1; simpa [CsE] using this
      match j, hj, hv with
      | 0, _, hv => simpa [CsE] using hv
      | 1, _, hv => simpa [CsE] using hv
      | 2, _, hv => simpa [CsE] using hv
      | 3, _, hv => simpa [CsE] using hv
      | 4, _, hv => simpa [CsE] using hv
    | i + 2, hu => simp at hu
  · match i, hu, hk with
    | 0, hu, hk => simp at hu hk; subst hu; subst hk; exact (h.allocNew _).cond o t q x
    | 1, hu, hk => simp at hu hk; subst hu; subst hk; exact (h'.allocNew _).cond o' t' q' x'
    | i + 2, hu, _ => simp at hu

theorem descs_one (c : Cd) : descs [c] = descs c.kids + 1 := by
  have : descs [c] = c.desc + 1 := by simp [descs]
  rw [this, Cd.desc_eq]
theorem descs_two (c d : Cd) : descs [c, d] = (descs c.kids + 1) + (descs d.kids + 1) := by
  have : descs [c, d] = (c.desc + 1) + (d.desc + 1) := by simp [descs]
  rw [this, Cd.desc_eq, Cd.desc_eq]
theorem RepK.set2 {lo : Nat} {w : World} {s : Slc} {ks : List Cd} (h : RepK lo w s ks) {g : Nat} (hg : g < lo) (j : Nat) (u : Value) : RepK lo (w.setCell ⟨g, j, none⟩ u) s ks :=
  h.keep fun q hq _ => heap_setCell_other w ⟨g, j, none⟩ q u (fun e => by simp at e; omega)

theorem rep_lit (w : World) (ys : List Int) (T : TypeId) (h : ys.length ≤ 100) : Rep IntE (w.alloc (.cells (ys.map (Value.int .i64)).toArray T)) (.slice (some ⟨w.heap.size, 0, none⟩) ys.length ys.length) ys := by
  refine ⟨_, _, rfl, Nat.le_refl _, by unfold maxLen; omega, fun i x hx => ⟨w.heap.size, 0, rfl, fun j u hu => ?_⟩⟩
  rw [cell_of_row _ _ _ _ T (0, 0) (heap_alloc_new w _)]
  have hj : j = 0 := by have := (List.getElem?_eq_some_iff.1 hu).1; simp [IntE] at this; omega
  subst hj
  simp [IntE] at hu
  simp [IntE, hx, hu]

/-- A condition that was drawn: all of it new. -/
def QC (lo : Nat) (K : Int) (v : Value) (w : World) : Prop := ∃ (o t q x : Int) (s : Slc) (ks : List Cd), v = .agg #[.int .i64 o, .int .i64 t, .int .i64 q, .int .i64 x, .slice s.a s.n s.cap] ∧ RepK lo w s ks ∧ (descs ks : Int) + 2 ≤ K

theorem pow_pos2 (d : Nat) : (1 : Int) ≤ 2 ^ d := by
  induction d with
  | zero => simp
  | succ d ih => rw [Int.pow_succ]; omega

end Go.Proofs.YtpbmlppdmdmfkaaGreatDoor
namespace Go.Proofs.YtpbmlppdmdmfkaaGreatDoor
open Go.RowKit

theorem some_bool (p : Prop) : ∃ b : Bool, b = true ↔ p := by
  by_cases h : p
  · exact ⟨true, by simp [h]⟩
  · exact ⟨false, by simp [h]⟩

/-- What the size of the parts leaves, or -1. -/
def szK (ks : List Cd) (l : Int) : Int := if l - descs ks < 0 then -1 else l - descs ks

theorem descs_rest (ks : List Cd) {k : Nat} (h : ks.length ≤ k) : descs (ks.take k) = descs ks := by rw [List.take_of_length_le h]

end Go.Proofs.YtpbmlppdmdmfkaaGreatDoor

namespace Go.Proofs.YtpbmlppdmdmfkaaGreatDoor
open Go.RowKit

theorem szP_eq (p : List (List Ins)) (l : Int) (h : 0 ≤ szP p l) : szP p l = l - p.flatten.length ∨ p = [] := by
  induction p generalizing l with
  | nil => exact .inr rfl
  | cons r p ih =>
    left
    simp only [szP] at h ⊢
    split at h
    · omega
    · rename_i hl
      rw [if_neg hl]
      rcases ih _ h with h1 | h1
      · rw [h1]; simp; omega
      · subst h1; simp [szP]

theorem szPP_le (p : List (List Ins)) (h : ¬ szPP p 1048576 < 0) : p.length ≤ 1048576 ∧ p.flatten.length ≤ 1048576 ∧ ∀ r ∈ p, r.length ≤ 1048576 := by
  unfold szPP at h
  split at h
  · omega
  · rename_i hl
    have h1 := szP_le p _ (Int.not_lt.1 h)
    refine ⟨by omega, ?_, fun r hr => by have := h1.2 r hr; omega⟩
    rcases szP_eq p _ (Int.not_lt.1 h) with h2 | h2
    · rw [h2] at h; omega
    · subst h2; simp

theorem sumN_flatten (p : List (List Ins)) : sumN (p.map List.length) = p.flatten.length := by
  induction p with
  | nil => rfl
  | cons r p ih => simp [sumN, ih]

theorem Below.next {a b c : World} (h : Below a.heap.size a b) (k : Below b.heap.size b c) : Below a.heap.size a c := h.trans (k.mono h.size)

theorem Own.lo {α : Type} {E : El α} {T : TypeId} {w : World} {base : Nat} {v : Value} {xs : List α} (h : Own E T w base v xs) : ∀ q, v.ownBlock = some q → base ≤ q ∧ q < w.heap.size := World.ownsRow.lt h

/-- A row that a call made is written: what lay below is as it was. -/
theorem below_row {w w' : World} {row : Option Nat} (hg : w.grownBy w' row) {B : Nat} (hB : B ≤ w.heap.size) (hr : ∀ k, row = some k → B ≤ k) : Below B w w' := (Below.refl B w).grown hg hB hr

end Go.Proofs.YtpbmlppdmdmfkaaGreatDoor

namespace Go.Proofs.YtpbmlppdmdmfkaaGreatDoor
open Go.RowKit

theorem run_append_none {P : Program} {w : World} {base : Nat} {t ty e : TypeId} {i : TypeInfo} {size : Nat} (ht : P.underlying t = some (.slice e)) (hi : P.info? e = some i)
    {v : Value} {n c : Nat} {xs : List Value} (hown : w.ownsRow base e size v n xs) : (Builtin.append_ #[t, t] ty #[v, .slice none 0 c]).run P w = .ok v w := by
  rcases hown.2 with ⟨rfl, rfl⟩ | ⟨g, cap, cur, rfl, _, _, hnc, _⟩
  · simp [Builtin.append_, run_underlying ht, sizeOf, typeInfo, hi, Builtin.lenOf, Builtin.firstCells]
  · simp [Builtin.append_, run_underlying ht, sizeOf, typeInfo, hi, Builtin.lenOf, Builtin.firstCells, hnc, storeCells]

/-- 'append(s, ys...)' on a slice that the call made. -/
theorem wpList_appS {α : Type} (E : El α) {P : Program} {w : World} {ops : Array Oper} {rest : List Oper} {o : Oper} {a : Act} {Q : Exit → Act → World → Prop}
    (T : TypeId) {zv : Value} {bytes : Nat} (hinfo : (P.info? T).map (fun i => (i.zero, i.size, i.bytes)) = some (some zv, E.sz, bytes)) (hz : zv.cells.size = E.sz) {t : TypeId} (h1 : P.underlying t = some (.slice T))
    (base : Nat) (v : Value) (xs ys : List α) (u : Value) (hown : Own E T w base v xs) (hrep : Rep E w u ys) (hby : bytes ≤ 256) (hn : xs.length + ys.length ≤ 68719476736) (hbase : base ≤ w.heap.size)
    (hg : o.guard = none) (s y : Operand) (hop : o.op = .call { callee := .builtin .append, args := #[s, y], argTypes := #[t, t] })
    (hs : a.eval s = v) (hy : a.eval y = u)
    (hK : ∀ v' w', Own E T w' base v' (xs ++ ys) → w.grownBy w' v.ownBlock → wpList P ops Q rest (a.put o.dst v') w') :
    wpList P ops Q (o :: rest) a w := by
  obtain ⟨it, hi, hz0, hz1, hz2⟩ := info_parts hinfo
  obtain ⟨ad, c, rfl, hc1, hc2, hcell⟩ := hrep
  cases ad with
  | none =>
    have hys : ys = [] := by
      cases ys with
      | nil => rfl
      | cons y ys => obtain ⟨b, o, hb, _⟩ := hcell 0 y rfl; cases hb
    subst hys
    refine wpList_plain hg fun K hK' => ?_
    have hrun := run_append_none (P := P) (w := w) (ty := o.type) (c := c) h1 hi hown
    unfold Oper.wp
    simp [execOp, hop, resolve, invoke, builtin, hs, hy, hrun, Result.andThen]
    exact hK' _ _ (hK _ _ (by simpa using hown) (World.grownBy.refl _ _))
  | some ad =>
    refine wpList_append_own w hg s y t hop base T it zv E.sz bytes h1 hi hz0 hz1 hz2 hz E.pos v xs.length _ hs hown ad ys.length c (ys.flatMap E.c) hy (E.length ys) ?_ ?_ (by unfold maxLen; omega) ?_ hbase ?_
    · intro j u hu
      have hpos := E.pos
      have hj : j = j / E.sz * E.sz + j % E.sz := by rw [Nat.mul_comm]; exact (Nat.div_add_mod j E.sz).symm
      have hm : j % E.sz < E.sz := Nat.mod_lt _ hpos
      have hu2 := hu
      rw [hj, E.get ys _ _ hm] at hu2
      cases hx : ys[j / E.sz]? with
      | none => rw [hx] at hu2; cases hu2
      | some x =>
        rw [hx] at hu2
        obtain ⟨b, o, hb, h⟩ := hcell _ x hx
        simp only [Option.some.injEq] at hb
        subst hb
        have hc := h (j % E.sz) u hu2
        rw [Addr.add_lit, hj, ← Nat.add_assoc]
        exact hc
    · intro u hu
      rw [List.mem_flatMap] at hu
      obtain ⟨x, _, hx⟩ := hu
      exact E.one x u hx
    · have := Nat.mul_le_mul (show xs.length + ys.length ≤ 68719476736 from hn) hby
      omega
    · intro v' w' h2 h3 _
      refine hK v' w' ?_ h3
      unfold Own
      simpa [List.flatMap_append] using h2

/-- Blocks of two element types are two blocks. -/
theorem own_ne {α β : Type} {E : El α} {F : El β} {T U : TypeId} (hT : T ≠ U) {w : World} {base base' : Nat} {v u : Value} {xs : List α} {ys : List β} (h : Own E T w base v xs) (k : Own F U w base' u ys) : ∀ q, u.ownBlock = some q → v.ownBlock ≠ some q := by
  intro q hq hv
  rcases h.2 with ⟨rfl, _⟩ | ⟨g, cap, cur, rfl, _, hg, _⟩
  · simp [Value.ownBlock] at hv
  · rcases k.2 with ⟨rfl, _⟩ | ⟨g', cap', cur', rfl, _, hg', _⟩
    · simp [Value.ownBlock] at hq
    · simp [Value.ownBlock] at hq hv
      subst hq
      subst hv
      rw [hg] at hg'
      simp at hg'
      exact hT hg'.2

/-- A row of the call's own is appended. -/
theorem Own2U.app {α : Type} {E : El α} {T1 T2 : TypeId} (hT : T1 ≠ T2) {us : List Slc} {w w1 w2 : World} {base : Nat} {v v' : Value} {p : List (List α)} (h : Own2U E T1 T2 us w base v p) (hb : Below w.heap.size w w1) (hbase : base ≤ w.heap.size) {r : List α} {s : Slc}
    (hu : Own E T2 w1 w.heap.size s.v r) (h2'' : Own SlcE T1 w2 base v' (us ++ [s])) (hg : w1.grownBy w2 v.ownBlock) : Own2 E T1 T2 w2 base v' (p ++ [r]) := by
  obtain ⟨h1, h2, h3, h4, h5⟩ := h
  have h2' := h2.below hb
  have hnew : ∀ q, s.v.ownBlock = some q → w.heap.size ≤ q := fun q hq => (World.ownsRow.lt hu q hq).1
  have hold : ∀ (i : Nat) (u' : Slc), us[i]? = some u' → ∀ q, u'.v.ownBlock = some q → q < w.heap.size := fun i u' hi q hq => by
    obtain ⟨r', hr'⟩ := get_of_lt (xs := p) (k := i) (by have := (List.getElem?_eq_some_iff.1 hi).1; omega)
    exact (World.ownsRow.lt (h3 i u' r' hi hr') q hq).2
  have split : ∀ (i : Nat) (u' : Slc), (us ++ [s])[i]? = some u' → (i = us.length ∧ u' = s) ∨ (i < us.length ∧ us[i]? = some u') := fun i u' hi => by
    by_cases hlt : i < us.length
    · rw [List.getElem?_append_left hlt] at hi; exact .inr ⟨hlt, hi⟩
    · rw [List.getElem?_append_right (by omega)] at hi
      have : i - us.length = 0 := by
        rcases Nat.eq_zero_or_pos (i - us.length) with h | h
        · exact h
        · rw [List.getElem?_eq_none (by simp; omega)] at hi; cases hi
      rw [this] at hi; simp at hi
      exact .inl ⟨by omega, hi.symm⟩
  have hus : Own E T2 w2 base s.v r := (hu.mono hbase).grown hg (by
    rcases hq : s.v.ownBlock with _ | q
    · exact .inl rfl
    · exact .inr (fun e => own_ne hT h2' hu q hq e.symm))
  have hrows : ∀ (i : Nat) (u : Slc) (r' : List α), us[i]? = some u → p[i]? = some r' → Own E T2 w2 base u.v r' := fun i u r' hi hr' =>
    ((h3 i u r' hi hr').below hb).grown hg (by
      rcases hq : u.v.ownBlock with _ | q
      · exact .inl rfl
      · exact .inr (fun e => h5 i u hi q hq e.symm))
  refine ⟨us ++ [s], by simp [h1], h2'', ?_, ?_, ?_⟩
  · intro i u r' hi hr'
    rcases split i u hi with ⟨e1, e2⟩ | ⟨hlt, hi'⟩
    · rw [e1, List.getElem?_append_right (by omega), h1, Nat.sub_self] at hr'
      simp at hr'
      rw [e2, ← hr']; exact hus
    · rw [List.getElem?_append_left (by omega)] at hr'
      exact hrows i u r' hi' hr'
  · intro i j u u' hi hj hij q hq hq'
    rcases split i u hi with ⟨e1, e2⟩ | ⟨hlt, hi'⟩
    · rcases split j u' hj with ⟨e3, e4⟩ | ⟨hlt', hj'⟩
      · omega
      · rw [e2] at hq; have a1 := hnew q hq; have a2 := hold j u' hj' q hq'; omega
    · rcases split j u' hj with ⟨e3, e4⟩ | ⟨hlt', hj'⟩
      · rw [e4] at hq'; have a1 := hnew q hq'; have a2 := hold i u hi' q hq; omega
      · exact h4 i j u u' hi' hj' hij q hq hq'
  · intro i u hi q hq
    rcases split i u hi with ⟨e1, e2⟩ | ⟨hlt, hi'⟩
    · rw [e2] at hq; exact own_ne hT h2'' hus q hq
    · obtain ⟨r', hr'⟩ := get_of_lt (xs := p) (k := i) (by omega)
      exact own_ne hT h2'' (hrows i u r' hi' hr') q hq

theorem Own2.nil {α : Type} {E : El α} (T1 T2 : TypeId) (w : World) (base : Nat) : Own2 E T1 T2 w base (.slice none 0 0) [] :=
  ⟨[], rfl, Own.nil _ _ _, fun i u r h => by simp at h, fun i j u u' h => by simp at h, fun i u h => by simp at h⟩

theorem Own2.empty {α : Type} {E : El α} (T1 T2 : TypeId) (w : World) {base : Nat} (hb : base ≤ w.heap.size) : Own2 E T1 T2 (w.alloc (.cells #[] T1)) base (.slice (some ⟨w.heap.size, 0, none⟩) 0 0) [] :=
  ⟨[], rfl, Own.empty _ _ hb, fun i u r h => by simp at h, fun i j u u' h => by simp at h, fun i u h => by simp at h⟩

theorem Own2.mono {α : Type} {E : El α} {T1 T2 : TypeId} {w : World} {base base' : Nat} {v : Value} {p : List (List α)} (h : Own2 E T1 T2 w base v p) (hb : base' ≤ base) : Own2 E T1 T2 w base' v p := by
  obtain ⟨us, h1, h2, h3, h4, h5⟩ := h
  exact ⟨us, h1, h2.mono hb, fun i u r hu hr => (h3 i u r hu hr).mono hb, h4, h5⟩

/-- What lies wholly below the blocks that were written. (w0: the world in which it was made.) -/
theorem Own2.outLo {α : Type} {E : El α} {T1 T2 : TypeId} {lo hi : Nat} {w w' w0 : World} {base : Nat} {v : Value} {p : List (List α)} (h0 : Own2 E T1 T2 w0 base v p) (hb : Below w0.heap.size w0 w)
    (h : Outside lo hi w w') (hlo : w0.heap.size ≤ lo) : Own2 E T1 T2 w' base v p := by
  obtain ⟨us, hU, hlt⟩ := h0.told
  obtain ⟨h1, h2, h3, h4, h5⟩ := hU.below hb
  refine ⟨us, h1, h.own h2 (fun q hq => .inl (by have := (World.ownsRow.lt hU.2.1 q hq).2; omega)), fun i u r hu hr => h.own (h3 i u r hu hr) (fun q hq => .inl (by have := (hlt i u hu q hq).2; omega)), h4, h5⟩

/-- What lies wholly above them. -/
theorem Own2.outHi {α : Type} {E : El α} {T1 T2 : TypeId} {lo hi : Nat} {w w' : World} {base : Nat} {v : Value} {p : List (List α)} (h0 : Own2 E T1 T2 w base v p)
    (h : Outside lo hi w w') (hhi : hi ≤ base) : Own2 E T1 T2 w' base v p := by
  obtain ⟨us, hU, hlt⟩ := h0.told
  obtain ⟨h1, h2, h3, h4, h5⟩ := hU
  refine ⟨us, h1, h.own h2 (fun q hq => .inr (by have := (World.ownsRow.lt h2 q hq).1; omega)), fun i u r hu hr => h.own (h3 i u r hu hr) (fun q hq => .inr (by have := (hlt i u hu q hq).1; omega)), h4, h5⟩

end Go.Proofs.YtpbmlppdmdmfkaaGreatDoor

namespace Go.Proofs.YtpbmlppdmdmfkaaGreatDoor
open Go.RowKit

/-- u reads as the condition c, in blocks that are ok. -/
inductive RepXc (ok : Nat → Prop) (w : World) : Cs → Cd → Prop
  | mk {o t p x : Int} {s : Slc} {us : List Cs} {ks : List Cd} (h1 : us.length = ks.length) (h2 : Rep CsE w s.v us) (h3 : us = [] ∨ ∀ b o, s.a = some ⟨b, o, none⟩ → ok b)
      (h4 : ∀ (i : Nat) (u : Cs) (k : Cd), us[i]? = some u → ks[i]? = some k → RepXc ok w u k) : RepXc ok w ⟨o, t, p, x, s⟩ (.mk o t p x ks)

/-- s reads as the conditions ks, in blocks that are ok. -/
def Foot (ok : Nat → Prop) (w : World) (s : Slc) (ks : List Cd) : Prop :=
  ∃ us : List Cs, us.length = ks.length ∧ Rep CsE w s.v us ∧ (us = [] ∨ ∀ b o, s.a = some ⟨b, o, none⟩ → ok b) ∧ ∀ (i : Nat) (u : Cs) (k : Cd), us[i]? = some u → ks[i]? = some k → RepXc ok w u k

theorem Foot.cond {ok : Nat → Prop} {w : World} {s : Slc} {ks : List Cd} (h : Foot ok w s ks) (o t p x : Int) : RepXc ok w ⟨o, t, p, x, s⟩ (.mk o t p x ks) := by
  obtain ⟨us, h1, h2, h3, h4⟩ := h
  exact .mk h1 h2 h3 h4

theorem rep_ok {ok : Nat → Prop} {w w' : World} {s : Slc} {us : List Cs} (h : Rep CsE w s.v us) (hf : us = [] ∨ ∀ b o, s.a = some ⟨b, o, none⟩ → ok b) (hk : ∀ q, ok q → q < w.heap.size → w'.heap[q]? = w.heap[q]?) : Rep CsE w' s.v us := by
  obtain ⟨a, c, hv, h1, h2, h⟩ := h
  refine ⟨a, c, hv, h1, h2, fun i x hx => ?_⟩
  obtain ⟨b, o, rfl, hi⟩ := h i x hx
  refine ⟨b, o, rfl, fun j u hu => ?_⟩
  have hc := hi j u hu
  rw [← hc]
  refine cell_of_block (hk b ?_ (lt_of_cell hc)) _
  rcases hf with rfl | hf
  · simp at hx
  · simp only [Slc.v, Value.slice.injEq] at hv
    exact hf b o hv.1

theorem RepXc.step {ok : Nat → Prop} {w w' : World} {u : Cs} {c : Cd} (h : RepXc ok w u c) (hk : ∀ q, ok q → q < w.heap.size → w'.heap[q]? = w.heap[q]?) : RepXc ok w' u c := by
  induction h with
  | mk h1 h2 h3 h4 ih => exact .mk h1 (rep_ok h2 h3 hk) h3 ih
theorem RepXc.weak {ok ok' : Nat → Prop} {w : World} {u : Cs} {c : Cd} (h : RepXc ok w u c) (hi : ∀ q, ok q → ok' q) : RepXc ok' w u c := by
  induction h with
  | mk h1 h2 h3 h4 ih => exact .mk h1 h2 (h3.imp id fun h b o e => hi b (h b o e)) ih
theorem RepXc.rep {ok : Nat → Prop} {w : World} {u : Cs} {c : Cd} (h : RepXc ok w u c) : RepC 0 w u c := by
  induction h with
  | mk h1 h2 h3 h4 ih => exact .mk h1 h2 (.inr fun b o _ => Nat.zero_le _) ih
theorem RepXc.of {lo : Nat} {w : World} {u : Cs} {c : Cd} (h : RepC lo w u c) : RepXc (fun q => lo ≤ q) w u c := by
  induction h with
  | mk h1 h2 h3 h4 ih => exact .mk h1 h2 h3 ih

theorem Foot.step {ok : Nat → Prop} {w w' : World} {s : Slc} {ks : List Cd} (h : Foot ok w s ks) (hk : ∀ q, ok q → q < w.heap.size → w'.heap[q]? = w.heap[q]?) : Foot ok w' s ks := by
  obtain ⟨us, h1, h2, h3, h4⟩ := h
  exact ⟨us, h1, rep_ok h2 h3 hk, h3, fun i u k hu hkk => (h4 i u k hu hkk).step hk⟩
theorem Foot.weak {ok ok' : Nat → Prop} {w : World} {s : Slc} {ks : List Cd} (h : Foot ok w s ks) (hi : ∀ q, ok q → ok' q) : Foot ok' w s ks := by
  obtain ⟨us, h1, h2, h3, h4⟩ := h
  exact ⟨us, h1, h2, h3.imp id fun h b o e => hi b (h b o e), fun i u k hu hkk => (h4 i u k hu hkk).weak hi⟩
theorem Foot.rep {ok : Nat → Prop} {w : World} {s : Slc} {ks : List Cd} (h : Foot ok w s ks) : RepK 0 w s ks := by
  obtain ⟨us, h1, h2, h3, h4⟩ := h
  exact ⟨us, h1, h2, .inr fun b o _ => Nat.zero_le _, fun i u k hu hkk => (h4 i u k hu hkk).rep⟩
theorem Foot.of {lo : Nat} {w : World} {s : Slc} {ks : List Cd} (h : RepK lo w s ks) : Foot (fun q => lo ≤ q) w s ks := by
  obtain ⟨us, h1, h2, h3, h4⟩ := h
  exact ⟨us, h1, h2, h3, fun i u k hu hkk => RepXc.of (h4 i u k hu hkk)⟩
theorem Foot.nil (ok : Nat → Prop) (w : World) : Foot ok w ⟨none, 0, 0⟩ [] := ⟨[], rfl, Rep.nil w, .inl rfl, fun i u k h => by simp at h⟩
theorem Foot.below {ok : Nat → Prop} {w w' : World} {s : Slc} {ks : List Cd} (h : Foot ok w s ks) (hb : Below w.heap.size w w') : Foot ok w' s ks := h.step (fun q _ hq => hb.block q hq)
theorem Foot.set {ok : Nat → Prop} {w : World} {s : Slc} {ks : List Cd} (h : Foot ok w s ks) {g : Nat} (hg : ¬ ok g) (j : Nat) (u : Value) : Foot ok (w.setCell ⟨g, j, none⟩ u) s ks :=
  h.step (fun q hq _ => heap_setCell_other w ⟨g, j, none⟩ q u (fun e => hg (by
    have h2 : q = g := by simpa using e
    exact h2 ▸ hq)))
theorem Foot.outside {ok : Nat → Prop} {b : Nat} {w w' : World} {s : Slc} {ks : List Cd} (h : Foot ok w s ks) (ho : Outside b (b + 1) w w') (hb : ¬ ok b) : Foot ok w' s ks :=
  h.step (fun q hq hqs => ho.block q hqs (by
    have : q ≠ b := fun e => hb (e ▸ hq)
    omega))

theorem Foot.one {ok : Nat → Prop} {w : World} {o t q x : Int} {s : Slc} {ks : List Cd} (h : Foot ok w s ks) (hg : ok w.heap.size) (T : TypeId) :
    Foot ok (w.alloc (.cells #[.int .i64 o, .int .i64 t, .int .i64 q, .int .i64 x, .slice s.a s.n s.cap] T)) ⟨some ⟨w.heap.size, 0, none⟩, 1, 1⟩ [.mk o t q x ks] := by
  refine ⟨[⟨o, t, q, x, s⟩], rfl, ⟨_, 1, rfl, Nat.le_refl _, by unfold maxLen; omega, fun i u hu => ?_⟩, .inr fun b f e => by simp at e; rw [← e.1]; exact hg, fun i u k hu hk => ?_⟩
  · refine ⟨w.heap.size, 0, rfl, fun j v hv => ?_⟩
    cases i with
    | zero =>
      simp at hu; subst hu
      rw [cell_of_row _ _ _ _ T (0, 0) (heap_alloc_new w _)]
      simpa [CsE] using hv
    | succ i => simp at hu
  · cases i with
    | zero =>
      simp at hu hk; subst hu; subst hk
      exact (h.below (belowAlloc _ _)).cond o t q x
    | succ i => simp at hu

/-- A condition that was drawn: all of it from lo on. -/
def QF (lo : Nat) (K : Int) (v : Value) (w : World) : Prop := ∃ (o t q x : Int) (s : Slc) (ks : List Cd), v = .agg #[.int .i64 o, .int .i64 t, .int .i64 q, .int .i64 x, .slice s.a s.n s.cap] ∧ Foot (fun q => lo ≤ q) w s ks ∧ (descs ks : Int) + 2 ≤ K

theorem numLit3 (b : Nat) (a : Option Addr) (c : Nat) (xs : List Int) (p : Int) (y0 y1 y2 : Int) (w' : World) (G : Nat) (hG : w'.heap.size = G) (hb : b < G) (h : Rd (w'.alloc (.cells #[.int .i64 y0, .int .i64 y1, .int .i64 y2] 3)) b a c xs p) (hp : p ≤ 1000000000) :
    Calls Tryz.prog 185 #[.pointer (some ⟨b, 0, none⟩), .slice (some ⟨G, 0, none⟩) 3 3] (w'.alloc (.cells #[.int .i64 y0, .int .i64 y1, .int .i64 y2] 3)) (RetRd (w'.alloc (.cells #[.int .i64 y0, .int .i64 y1, .int .i64 y2] 3)) b a c xs p 1 (OneOf [y0, y1, y2])) := by
  subst hG
  exact num_any b a c xs p (Value.slice (some (Addr.mk w'.heap.size 0 none)) 3 3) [y0, y1, y2] _ h hp (rep_lit w' [y0, y1, y2] 3 (by simp)) (by simp) (by simp) (by intro g o e; simp at e; omega)

theorem numLit4 (b : Nat) (a : Option Addr) (c : Nat) (xs : List Int) (p : Int) (y0 y1 y2 y3 : Int) (w' : World) (G : Nat) (hG : w'.heap.size = G) (hb : b < G) (h : Rd (w'.alloc (.cells #[.int .i64 y0, .int .i64 y1, .int .i64 y2, .int .i64 y3] 3)) b a c xs p) (hp : p ≤ 1000000000) :
    Calls Tryz.prog 185 #[.pointer (some ⟨b, 0, none⟩), .slice (some ⟨G, 0, none⟩) 4 4] (w'.alloc (.cells #[.int .i64 y0, .int .i64 y1, .int .i64 y2, .int .i64 y3] 3)) (RetRd (w'.alloc (.cells #[.int .i64 y0, .int .i64 y1, .int .i64 y2, .int .i64 y3] 3)) b a c xs p 1 (OneOf [y0, y1, y2, y3])) := by
  subst hG
  exact num_any b a c xs p (Value.slice (some (Addr.mk w'.heap.size 0 none)) 4 4) [y0, y1, y2, y3] _ h hp (rep_lit w' [y0, y1, y2, y3] 3 (by simp)) (by simp) (by simp) (by intro g o e; simp at e; omega)

theorem numLit5 (b : Nat) (a : Option Addr) (c : Nat) (xs : List Int) (p : Int) (y0 y1 y2 y3 y4 : Int) (w' : World) (G : Nat) (hG : w'.heap.size = G) (hb : b < G) (h : Rd (w'.alloc (.cells #[.int .i64 y0, .int .i64 y1, .int .i64 y2, .int .i64 y3, .int .i64 y4] 3)) b a c xs p) (hp : p ≤ 1000000000) :
    Calls Tryz.prog 185 #[.pointer (some ⟨b, 0, none⟩), .slice (some ⟨G, 0, none⟩) 5 5] (w'.alloc (.cells #[.int .i64 y0, .int .i64 y1, .int .i64 y2, .int .i64 y3, .int .i64 y4] 3)) (RetRd (w'.alloc (.cells #[.int .i64 y0, .int .i64 y1, .int .i64 y2, .int .i64 y3, .int .i64 y4] 3)) b a c xs p 1 (OneOf [y0, y1, y2, y3, y4])) := by
  subst hG
  exact num_any b a c xs p (Value.slice (some (Addr.mk w'.heap.size 0 none)) 5 5) [y0, y1, y2, y3, y4] _ h hp (rep_lit w' [y0, y1, y2, y3, y4] 3 (by simp)) (by simp) (by simp) (by intro g o e; simp at e; omega)

end Go.Proofs.YtpbmlppdmdmfkaaGreatDoor

namespace Go.Proofs.YtpbmlppdmdmfkaaGreatDoor
open Go.RowKit

/-- A variable that holds a condition: its cells, and that they may be written. -/
structure Box (w : World) (g : Nat) (o t q x : Int) (s : Slc) : Prop where
  lt : g < w.heap.size
  c0 : w.cell? ⟨g, 0, none⟩ = some (.int .i64 o)
  c1 : w.cell? ⟨g, 1, none⟩ = some (.int .i64 t)
  c2 : w.cell? ⟨g, 2, none⟩ = some (.int .i64 q)
  c3 : w.cell? ⟨g, 3, none⟩ = some (.int .i64 x)
  c4 : w.cell? ⟨g, 4, none⟩ = some (.slice s.a s.n s.cap)
  f : ∀ j, w.frozen? ⟨g, j, none⟩ = false

theorem Box.keep {w w' : World} {g : Nat} {o t q x : Int} {s : Slc} (h : Box w g o t q x s) (hb : w'.heap[g]? = w.heap[g]?) (hs : w.heap.size ≤ w'.heap.size) : Box w' g o t q x s :=
  ⟨Nat.lt_of_lt_of_le h.lt hs, (cell_of_block hb _).trans h.c0, (cell_of_block hb _).trans h.c1, (cell_of_block hb _).trans h.c2, (cell_of_block hb _).trans h.c3, (cell_of_block hb _).trans h.c4, fun j => by
    have := h.f j
    unfold World.frozen? at this ⊢
    rw [hb]; exact this⟩
theorem Box.outside {b : Nat} {w w' : World} {g : Nat} {o t q x : Int} {s : Slc} (h : Box w g o t q x s) (ho : Outside b (b + 1) w w') (hg : g ≠ b) : Box w' g o t q x s := h.keep (ho.block g h.lt (by omega)) ho.size
theorem Box.below {w w' : World} {g : Nat} {o t q x : Int} {s : Slc} (h : Box w g o t q x s) {B : Nat} (ho : Below B w w') (hg : g < B) : Box w' g o t q x s := h.keep (ho.block g hg) ho.size
theorem Box.other {w : World} {g g' : Nat} {o t q x : Int} {s : Slc} (h : Box w g o t q x s) (hg : g' ≠ g) (j : Nat) (v : Value) : Box (w.setCell ⟨g', j, none⟩ v) g o t q x s := h.keep (heap_setCell_other w ⟨g', j, none⟩ g v (fun e => hg (by simpa using e.symm))) (by simp)
theorem Box.alloc {w : World} {g : Nat} {o t q x : Int} {s : Slc} (h : Box w g o t q x s) (ob : Obj) : Box (w.alloc ob) g o t q x s := h.below (belowAlloc w ob) h.lt
theorem Box.new (w : World) (o t q x : Int) (a : Option Addr) (n c : Nat) (T : TypeId) : Box (w.alloc (.cells #[.int .i64 o, .int .i64 t, .int .i64 q, .int .i64 x, .slice a n c] T)) w.heap.size o t q x ⟨a, n, c⟩ :=
  ⟨by simp, by simp [go_sem], by simp [go_sem], by simp [go_sem], by simp [go_sem], by simp [go_sem], fun j => by simp [go_sem]⟩
theorem Box.set0 {w : World} {g : Nat} {o t q x : Int} {s : Slc} (h : Box w g o t q x s) (o' : Int) : Box (w.setCell ⟨g, 0, none⟩ (.int .i64 o')) g o' t q x s := by
  have c0 := h.c0; have c1 := h.c1; have c2 := h.c2; have c3 := h.c3; have c4 := h.c4; have f := h.f
  exact ⟨by simpa using h.lt, by simp [go_sem, c0], by simp [go_sem, c1], by simp [go_sem, c2], by simp [go_sem, c3], by simp [go_sem, c4], fun j => by simp [go_sem, f]⟩
theorem Box.set1 {w : World} {g : Nat} {o t q x : Int} {s : Slc} (h : Box w g o t q x s) (t' : Int) : Box (w.setCell ⟨g, 1, none⟩ (.int .i64 t')) g o t' q x s := by
  have c0 := h.c0; have c1 := h.c1; have c2 := h.c2; have c3 := h.c3; have c4 := h.c4; have f := h.f
  exact ⟨by simpa using h.lt, by simp [go_sem, c0], by simp [go_sem, c1], by simp [go_sem, c2], by simp [go_sem, c3], by simp [go_sem, c4], fun j => by simp [go_sem, f]⟩
theorem Box.set2 {w : World} {g : Nat} {o t q x : Int} {s : Slc} (h : Box w g o t q x s) (q' : Int) : Box (w.setCell ⟨g, 2, none⟩ (.int .i64 q')) g o t q' x s := by
  have c0 := h.c0; have c1 := h.c1; have c2 := h.c2; have c3 := h.c3; have c4 := h.c4; have f := h.f
  exact ⟨by simpa using h.lt, by simp [go_sem, c0], by simp [go_sem, c1], by simp [go_sem, c2], by simp [go_sem, c3], by simp [go_sem, c4], fun j => by simp [go_sem, f]⟩
theorem Box.set3 {w : World} {g : Nat} {o t q x : Int} {s : Slc} (h : Box w g o t q x s) (x' : Int) : Box (w.setCell ⟨g, 3, none⟩ (.int .i64 x')) g o t q x' s := by
  have c0 := h.c0; have c1 := h.c1; have c2 := h.c2; have c3 := h.c3; have c4 := h.c4; have f := h.f
  exact ⟨by simpa using h.lt, by simp [go_sem, c0], by simp [go_sem, c1], by simp [go_sem, c2], by simp [go_sem, c3], by simp [go_sem, c4], fun j => by simp [go_sem, f]⟩
theorem Box.set4 {w : World} {g : Nat} {o t q x : Int} {s : Slc} (h : Box w g o t q x s) (s' : Slc) : Box (w.setCell ⟨g, 4, none⟩ (.slice s'.a s'.n s'.cap)) g o t q x s' := by
  have c0 := h.c0; have c1 := h.c1; have c2 := h.c2; have c3 := h.c3; have c4 := h.c4; have f := h.f
  exact ⟨by simpa using h.lt, by simp [go_sem, c0], by simp [go_sem, c1], by simp [go_sem, c2], by simp [go_sem, c3], by simp [go_sem, c4], fun j => by simp [go_sem, f]⟩

/-- What is read lies in blocks that are there. -/
theorem RepXc.old {ok : Nat → Prop} {w : World} {u : Cs} {c : Cd} (h : RepXc ok w u c) : RepXc (fun q => ok q ∧ q < w.heap.size) w u c := by
  induction h with
  | mk h1 h2 h3 h4 ih =>
    refine .mk h1 h2 ?_ ih
    rename_i us ks
    cases us with
    | nil => exact .inl rfl
    | cons u us =>
      refine .inr fun b o e => ⟨?_, ?_⟩
      · rcases h3 with h3 | h3
        · cases h3
        · exact h3 b o e
      · obtain ⟨a', c', hv, -, -, h⟩ := h2
        obtain ⟨b', o', rfl, hi⟩ := h 0 u rfl
        simp only [Slc.v, Value.slice.injEq] at hv
        rw [hv.1] at e
        simp only [Option.some.injEq, Addr.mk.injEq, and_true] at e
        rw [← e.1]
        exact lt_of_cell (hi 0 _ rfl)

/-- A copy of a slice of conditions. -/
theorem Foot.copy {ok : Nat → Prop} {w w1 : World} {us : List Cs} {ks : List Cd} {T : TypeId} {base : Nat} {v : Value} (hl : us.length = ks.length) (hx : ∀ (i : Nat) (u : Cs) (k : Cd), us[i]? = some u → ks[i]? = some k → RepXc ok w u k)
    (hk : ∀ q, ok q → q < w.heap.size → w1.heap[q]? = w.heap[q]?) (ho : Own CsE T w1 base v us) (hb : ∀ q, base ≤ q → ok q) : ∃ s1 : Slc, v = .slice s1.a s1.n s1.cap ∧ Foot ok w1 s1 ks := by
  rcases ho.shape with ⟨rfl, rfl⟩ | ⟨g, cap, rfl, h1, h2, h3, h4⟩
  · obtain rfl : ks = [] := List.eq_nil_of_length_eq_zero hl.symm
    exact ⟨⟨none, 0, 0⟩, rfl, Foot.nil _ _⟩
  · exact ⟨⟨some ⟨g, 0, none⟩, us.length, cap⟩, rfl, us, hl, ho.rep, .inr fun b o e => by simp at e; rw [← e.1]; exact hb g h1, fun i u k hu hkk => (hx i u k hu hkk).step hk⟩

end Go.Proofs.YtpbmlppdmdmfkaaGreatDoor
namespace Go.Proofs.YtpbmlppdmdmfkaaGreatDoor
open Go.RowKit

/-- A source that was just opened. -/
def RetOpen (w : World) (e : Ending) (w' : World) : Prop := ∃ (B : Nat) (a : Option Addr) (c : Nat) (xs : List Int), e = .returned (.pointer (some ⟨B, 0, none⟩)) ∧ Rd w' B a c xs 0 ∧ w.heap.size ≤ B ∧ Below w.heap.size w w'

theorem Rep.take {w : World} {a : Option Addr} {n c : Nat} {xs : List Int} (h : Rep ByteE w (.slice a n c) xs) {k : Nat} (hk : k ≤ xs.length) : Rep ByteE w (.slice a k c) (xs.take k) := by
  obtain ⟨a', c', hv, h1, h2, h3⟩ := h
  simp only [Value.slice.injEq] at hv
  obtain ⟨rfl, rfl, rfl⟩ := hv
  refine ⟨a, c, by rw [List.length_take, Nat.min_eq_left hk], by rw [List.length_take]; omega, h2, fun i x hx => ?_⟩
  rw [List.getElem?_take] at hx
  split at hx
  · exact h3 i x hx
  · cases hx

theorem rep_lt {w : World} {a : Option Addr} {n c : Nat} {xs : List Int} (h : Rep ByteE w (.slice a n c) xs) (g o : Nat) (hne : xs ≠ []) (e : a = some ⟨g, o, none⟩) : g < w.heap.size := by
  cases xs with
  | nil => exact absurd rfl hne
  | cons x xs =>
    obtain ⟨b, o', hb, hlt, -⟩ := h.byte (k := 0) (x := x) rfl
    rw [e] at hb
    simp only [Option.some.injEq, Addr.mk.injEq, and_true] at hb
    omega

set_option maxHeartbeats 800000 in
theorem l17Open_any (v : Value) (xs : List Int) (w : World) (hx : Rep ByteE w v xs) (hb : ∀ x ∈ xs, 0 ≤ x ∧ x ≤ 255) :
    Calls Tryz.prog 97 #[v] w (RetOpen w) := by
  obtain ⟨a, c, rfl, hc1, hc2, hc3, hx⟩ := hx.open
  have HX := hide hx; clear hx
  by_cases hl : xs.length > 2000
  · have hT := hide (HX.out.take (k := 2000) (by omega))
    have hlt : (2000 : Int) < (xs.length : Int) := by omega
    have hc4 : 2000 ≤ c := by omega
    have htl : (xs.take 2000).length = 2000 := by rw [List.length_take]; omega
    have HTL := hide htl; clear htl
    generalize hn : xs.length = n at *
    clear hn
    go_enter Tryz.func97, Tryz.ntmps97
    go_wp2_with fail
    go_ret
    have h2 : Rd (w.alloc (.cells #[.slice a 2000 c, .int .i64 0] 186)) w.heap.size a c (xs.take 2000) 0 :=
      ⟨by simp, by rw [HTL.out]; simp [go_sem], by simp [go_sem], by simp [go_sem], by rw [HTL.out]; exact hT.out.below ((Below.refl _ _).alloc (Nat.le_refl _) _), fun g o hne e => rep_lt hT.out g o hne e, fun x hx => hb x (List.mem_of_mem_take hx), by omega⟩
    exact ⟨w.heap.size, a, c, _, rfl, h2, Nat.le_refl _, (Below.refl _ _).alloc (Nat.le_refl _) _⟩
  · have hge : decide ((xs.length : Int) > 2000) = false := decide_eq_false (by omega)
    clear hl
    have HXR := hide (fun g o hne e => rep_lt HX.out g o hne e)
    generalize hn : xs.length = n at *
    have H := hide hn; clear hn
    go_enter Tryz.func97, Tryz.ntmps97
    go_wp2_with fail
    go_ret
    have h2 : Rd (w.alloc (.cells #[.slice a n c, .int .i64 0] 186)) w.heap.size a c xs 0 :=
      ⟨by simp, by rw [H.out]; simp [go_sem], by simp [go_sem], by simp [go_sem], by rw [H.out]; exact HX.out.below ((Below.refl _ _).alloc (Nat.le_refl _) _), HXR.out, hb, by omega⟩
    exact ⟨w.heap.size, a, c, _, rfl, h2, Nat.le_refl _, (Below.refl _ _).alloc (Nat.le_refl _) _⟩

end Go.Proofs.YtpbmlppdmdmfkaaGreatDoor

namespace Go.Proofs.YtpbmlppdmdmfkaaGreatDoor
open Go.RowKit

/-- Two conditions that were drawn. -/
def RetTwo (w : World) (e : Ending) (w' : World) : Prop := ∃ (o t q x : Int) (s : Slc) (ks : List Cd) (o' t' q' x' : Int) (s' : Slc) (ks' : List Cd),
  e = .returned (.tuple #[.agg #[.int .i64 o, .int .i64 t, .int .i64 q, .int .i64 x, .slice s.a s.n s.cap], .agg #[.int .i64 o', .int .i64 t', .int .i64 q', .int .i64 x', .slice s'.a s'.n s'.cap]]) ∧ RepK 0 w' s ks ∧ RepK 0 w' s' ks' ∧ Below w.heap.size w w'

theorem below_of_outside {b : Nat} {w w' : World} {B : Nat} (h : Outside b (b + 1) w w') (hB : B ≤ b) (hB2 : B ≤ w.heap.size) : Below B w w' := h.below hB hB2

end Go.Proofs.YtpbmlppdmdmfkaaGreatDoor
