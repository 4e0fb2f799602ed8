/-
  The arguments that are drawn for RacesOf, SwapStores and ConflictRel. Condition: none but the bytes' own.
-/
import Derived.Test.YtpbmlppdmdmfkaaGreatDoorZd17
import Derived.Test.YtpbmlppdmdmfkaaGreatDoorZd07
import Derived.Test.YtpbmlppdmdmfkaaGreatDoorZd03
import Derived.Test.YtpbmlppdmdmfkaaGreatDoorZd05
import Derived.Maps.AppendAt
import Derived.Test.YtpbmlppdmdmfkaaGreatDoorZd04
import Derived.Deep.LoopGhost
import Derived.Deep.RegionLaw
import Derived.Deep.DrawnRows
import Derived.Test.YtpbmlppdmdmfkaaGreatDoorZd02
namespace Go.Proofs.YtpbmlppdmdmfkaaGreatDoor
open Go.RowKit

def OneStr (ys : List ByteArray) (v : Value) (_ : World) : Prop := ∃ y ∈ ys, v = .string y

theorem of_any (b : Nat) (a : Option Addr) (c : Nat) (xs : List Int) (p : Int) (v : Value) (ys : List ByteArray) (w : World) (base : Nat) (hr : Rd w b a c xs p) (hp : p ≤ 1000000000) (hy : Own StrE 9 w base v ys) (hl : ys.length ≤ 100) (h0 : 1 ≤ ys.length) (hb : b < base) :
    Calls Tryz.prog 247 #[.pointer (some ⟨b, 0, none⟩), v] w (RetRd w b a c xs p 1 (OneStr ys)) := by
  obtain ⟨a2, n, c2, rfl, hn⟩ := hy.toSl
  have HY := hide hy; clear hy
  have H := hide hn
  have HP := hide (fun w' h => pick_any b a c xs p n w' h hp (by omega) (by omega))
  clear hn
  go_enter Tryz.func247, Tryz.ntmps247
  go_wp2_with fail
  (with_reducible refine (HP.out _ hr).mono ?_); rintro e w1 ⟨v1, p1, rfl, ⟨q, rfl, hq0, hq1⟩, hp1, hr1, ho1⟩
  obtain ⟨Q, rfl⟩ := Int.eq_ofNat_of_zero_le hq0
  have hQ : Q < n := by have := hq1 (by have := H.out; omega); omega
  obtain ⟨y, hyq⟩ := get_of_lt (xs := ys) (k := Q) (by rw [← H.out]; exact hQ)
  have hy1 := ho1.ownHi HY.out hb
  obtain ⟨g, o, rfl, hg, i0⟩ := hy1.rep.str hyq
  have hQ' := nat_of_lt hQ
  have hm := List.mem_of_getElem? hyq
  clear hyq hy1
  go_wp2_with fail
  go_ret
  exact ⟨_, p1, rfl, ⟨y, hm, rfl⟩, hp1, hr1, ho1⟩

theorem QP.below {lo : Nat} {v : Value} {w w' : World} (h : QP lo v w) (hb : Below w.heap.size w w') : QP lo v w' := by
  obtain ⟨P, h1, h2, h3⟩ := h
  exact ⟨P, h1.below hb, h2, h3⟩
theorem QP.mono {lo lo' : Nat} {v : Value} {w : World} (h : QP lo v w) (hl : lo' ≤ lo) : QP lo' v w := by
  obtain ⟨P, h1, h2, h3⟩ := h
  exact ⟨P, h1.mono hl, h2, h3⟩
theorem QP.outside {lo b : Nat} {v : Value} {w w' : World} (h : QP lo v w) (ho : Outside b (b + 1) w w') (hb : b < lo) : QP lo v w' := by
  obtain ⟨P, h1, h2, h3⟩ := h
  exact ⟨P, h1.outside ho hb, h2, h3⟩

set_option maxRecDepth 100000 in
set_option maxHeartbeats 1600000 in
theorem l1Execs200_any (v : Value) (p : List (List Ins)) (w : World) (hp : RepP w v p) (hl : p.flatten.length ≤ 1048576) (hpl : p.length ≤ 1048576) :
    Calls Tryz.prog 141 #[v, .int .i64 200] w fun e w' => ∃ k : Int, e = .returned (.int .i64 k) ∧ Below w.heap.size w w' := by
  have HP := hide hp; clear hp
  have HL := hide hl; clear hl
  go_enter Tryz.func141, Tryz.ntmps141
  go_wp2_with fail
  go_loopw [5, 6] (fun q i wr => ∃ (k : Nat) (N : Int), k ≤ 3 ∧ i = .int .i64 k ∧ q = .int .i64 N ∧ Below w.heap.size w wr) (fun _ i _ => 3 - (intOf i).toNat)
  case atStart => exact ⟨0, 1, by omega, rfl, rfl, Below.refl _ _⟩
  case round =>
    obtain ⟨k, N, hk, rfl, rfl, hb⟩ := hrel
    by_cases hlt : k < 3
    · have hlt' : (k : Int) ≤ 2 := by omega
      have hbR := Nat.le_trans (cnt_le_flatten (fR k) p) HL.out
      have hbW := Nat.le_trans (cnt_le_flatten (fW k) p) HL.out
      have C1 : ∀ w', RepP w' v p → Calls Tryz.prog 220 #[v, .int .i64 (k : Int), .bool true] w' fun e w2 => e = .returned (.int .i64 (cnt (fW k) p : Nat)) ∧ Below w'.heap.size w' w2 := fun w' h => by
        have := l1Count_any v p k true w' h HL.out hpl; rwa [fRW_true] at this
      have C2 : ∀ w', RepP w' v p → Calls Tryz.prog 220 #[v, .int .i64 (k : Int), .bool false] w' fun e w2 => e = .returned (.int .i64 (cnt (fR k) p : Nat)) ∧ Below w'.heap.size w' w2 := fun w' h => by
        have := l1Count_any v p k false w' h HL.out hpl; rwa [fRW_false] at this
      generalize hR : cnt (fR k) p = R at *
      generalize hW : cnt (fW k) p = W at *
      have D1 := hide C1; have D2 := hide C2
      clear hR hW C1 C2
      go_wp2_with (go_at_call 220; (with_reducible refine (D1.out _ (HP.out.below hb)).mono ?_); rintro e w1 ⟨rfl, hb1⟩)
      have hb := hb.trans (hb1.mono hb.size)
      clear hb1
      go_loopw [5, 8] (fun q i wr => ∃ (t : Nat) (M : Int), t ≤ R ∧ i = .int .i64 t ∧ q = .int .i64 M ∧ Below w.heap.size w wr) (fun _ i _ => R - (intOf i).toNat)
      case atStart => exact ⟨0, N, by omega, rfl, rfl, hb⟩
      case round =>
        clear hb
        obtain ⟨t, M, ht, rfl, rfl, hb⟩ := hrel
        by_cases hlt3 : t < R
        · have hlt3' := nat_of_lt hlt3
          by_cases hM : M ≤ 200
          · go_wp2_with (go_at_call 220; (with_reducible refine (D2.out _ (HP.out.below hb)).mono ?_); rintro e w1 ⟨rfl, hb1⟩)
            go_roundw
            case rel => exact ⟨t + 1, _, by omega, by go_num, rfl, hb.trans (hb1.mono hb.size)⟩
            case measure => simp [intOf]; omega
          · have hM' : decide (M ≤ 200) = false := decide_eq_false hM
            clear hM
            go_wp2_with (go_at_call 220; (with_reducible refine (D2.out _ (HP.out.below hb)).mono ?_); rintro e w1 ⟨rfl, hb1⟩)
            have hb := hb.trans (hb1.mono hb.size)
            clear hb1
            go_loopw [5, 9] (fun q i wr => ∃ (s : Nat) (L : Int), 1 ≤ s ∧ s ≤ W + 1 ∧ i = .int .i64 (s + 1) ∧ q = .int .i64 L ∧ Below w.heap.size w wr) (fun _ i _ => W + 1 - (intOf i).toNat)
            case atStart => exact ⟨1, M, by omega, by omega, rfl, rfl, hb⟩
            case round =>
              clear hb
              obtain ⟨s, L, hs1, hs2, rfl, rfl, hb⟩ := hrel
              by_cases hlt5 : (s : Int) + 1 ≤ W
              · by_cases hL : L ≤ 200
                · go_wp2_with fail
                  go_roundw
                  case rel => exact ⟨s + 1, _, by omega, by omega, by go_num, rfl, hb⟩
                  case measure => simp [intOf]; omega
                · have hL' : decide (L ≤ 200) = false := decide_eq_false hL
                  clear hL
                  go_wp2_with fail
                  go_roundw
                  case rel => exact ⟨k + 1, L, by omega, by go_num, rfl, hb⟩
                  case measure => simp [intOf]; omega
              · have hlt5' : decide ((s : Int) + 1 ≤ W) = false := decide_eq_false hlt5
                go_wp2_with fail
                go_roundw
                case rel => exact ⟨k + 1, L, by omega, by go_num, rfl, hb⟩
                case measure => simp [intOf]; omega
        · have hlt3' : decide (t < R) = false := decide_eq_false hlt3
          have hlt3'' : decide ((t : Int) < R) = false := decide_eq_false (by omega)
          go_wp2_with (go_at_call 220; (with_reducible refine (D2.out _ (HP.out.below hb)).mono ?_); rintro e w1 ⟨rfl, hb1⟩)
          have hb := hb.trans (hb1.mono hb.size)
          clear hb1
          go_loopw [5, 9] (fun q i wr => ∃ (s : Nat) (L : Int), 1 ≤ s ∧ s ≤ W + 1 ∧ i = .int .i64 (s + 1) ∧ q = .int .i64 L ∧ Below w.heap.size w wr) (fun _ i _ => W + 1 - (intOf i).toNat)
          case atStart => exact ⟨1, M, by omega, by omega, rfl, rfl, hb⟩
          case round =>
            clear hb
            obtain ⟨s, L, hs1, hs2, rfl, rfl, hb⟩ := hrel
            by_cases hlt5 : (s : Int) + 1 ≤ W
            · by_cases hL : L ≤ 200
              · go_wp2_with fail
                go_roundw
                case rel => exact ⟨s + 1, _, by omega, by omega, by go_num, rfl, hb⟩
                case measure => simp [intOf]; omega
              · have hL' : decide (L ≤ 200) = false := decide_eq_false hL
                clear hL
                go_wp2_with fail
                go_roundw
                case rel => exact ⟨k + 1, L, by omega, by go_num, rfl, hb⟩
                case measure => simp [intOf]; omega
            · have hlt5' : decide ((s : Int) + 1 ≤ W) = false := decide_eq_false hlt5
              go_wp2_with fail
              go_roundw
              case rel => exact ⟨k + 1, L, by omega, by go_num, rfl, hb⟩
              case measure => simp [intOf]; omega
    · have e : k = 3 := by omega
      subst e
      by_cases h3 : 200 < N
      · go_wp2_with fail
        go_ret
        first | exact ⟨_, rfl, hb⟩ | exact ⟨⟨_, rfl⟩, hb⟩
      · have h3' : decide (200 < N) = false := decide_eq_false h3
        go_wp2_with fail
        go_ret
        first | exact ⟨_, rfl, hb⟩ | exact ⟨⟨_, rfl⟩, hb⟩

set_option maxRecDepth 100000 in
set_option maxHeartbeats 1600000 in
theorem l8Small_any (b : Nat) (a : Option Addr) (c : Nat) (xs : List Int) (p : Int) (w : World) (hr : Rd w b a c xs p) (hp : p ≤ 800000000) :
    Calls Tryz.prog 99 #[.pointer (some ⟨b, 0, none⟩)] w (RetRd w b a c xs p 60 (QP w.heap.size)) := by
  have HD := hide (l1Draw_any b a c xs p w hr hp)
  have hlt := hr.lt
  have HS := hide (fun w' => sParseProgram_any ⟨#[120, 61, 49, 59, 97, 61, 121, 124, 121, 61, 49, 59, 97, 61, 120]⟩ w' (by decide))
  clear hr
  go_enter Tryz.func99, Tryz.ntmps99
  go_wp2_with fail
  (with_reducible refine HD.out.mono ?_); rintro e w1 ⟨v1, p1, rfl, ⟨P, ho, hPl, hPr⟩, hp1, hr1, ho1⟩
  have hfl : P.flatten.length ≤ 1048576 := by
    have := flatten_bound P 8 hPr
    have : P.length * 8 ≤ 4 * 8 := Nat.mul_le_mul_right _ (by omega)
    omega
  obtain ⟨us, hU, -⟩ := ho.told
  obtain ⟨oa, on, oc, rfl, hon⟩ := hU.2.1.toSl
  have HX := hide (fun w' h => l1Execs200_any (.slice oa on oc) P w' h hfl (by omega))
  have HO := hide ho; have R1 := hide hr1; have O1 := hide ho1; have HPR := hide hPr
  clear hU ho hr1 ho1 hPr hfl hon HD
  go_wp2_with fail
  (with_reducible refine (HX.out _ HO.out.rep).mono ?_); rintro e w2 ⟨k, rfl, hb2⟩
  have HO2 := hide (HO.out.below hb2); have R2 := hide (R1.out.keep hb2 R1.out.lt); have O2 := hide (O1.out.trans (Outside.of_below hb2))
  clear HO R1 O1 hb2 HX
  by_cases hk : k ≤ 200
  · go_wp2_with fail
    go_ret
    exact ⟨_, p1, rfl, ⟨P, HO2.out, hPl, HPR.out⟩, hp1, R2.out, O2.out⟩
  · have hk' : decide (k ≤ 200) = false := decide_eq_false hk
    clear hk HO2
    go_wp2_with fail
    (with_reducible refine (HS.out _).mono ?_); rintro e w4 ⟨v4, ok, rfl, hQP, hb4⟩
    have hsz := O2.out.size
    go_wp2_with fail
    go_ret
    exact ⟨_, p1, rfl, hQP.mono hsz, hp1, R2.out.keep hb4 R2.out.lt, O2.out.trans (Outside.of_below hb4)⟩

def texts9 : List ByteArray := [⟨#[120, 61, 49, 59, 97, 61, 121, 124, 121, 61, 49, 59, 97, 61, 120]⟩, ⟨#[120, 61, 49, 59, 121, 61, 49, 124, 97, 61, 121, 59, 98, 61, 120]⟩, ⟨#[120, 61, 49, 59, 102, 101, 110, 99, 101, 59, 97, 61, 121, 124, 121, 61, 49, 59, 102, 101, 110, 99, 101, 59, 97, 61, 120]⟩]
theorem texts9_le : ∀ x ∈ texts9, x.size ≤ 1000 := by
  have h : (texts9.all fun x => decide (x.size ≤ 1000)) = true := by rfl
  intro x hx
  have := List.all_eq_true.1 h x hx
  simpa using this

set_option maxRecDepth 100000 in
set_option maxHeartbeats 1600000 in
theorem l9Draw_any (b : Nat) (a : Option Addr) (c : Nat) (xs : List Int) (p : Int) (w : World) (hr : Rd w b a c xs p) (hp : p ≤ 800000000) :
    Calls Tryz.prog 212 #[.pointer (some ⟨b, 0, none⟩)] w (RetRd w b a c xs p 61 (QP w.heap.size)) := by
  have HD := hide (l8Small_any b a c xs p w hr hp)
  have hlt := hr.lt
  clear hr
  go_enter Tryz.func212, Tryz.ntmps212
  go_wp2_with fail
  (with_reducible refine HD.out.mono ?_); rintro e w1 ⟨v1, p1, rfl, ⟨P, ho, hPl, hPr⟩, hp1, hr1, ho1⟩
  have hfl : P.flatten.length ≤ 1048576 := by
    have := flatten_bound P 8 hPr
    have : P.length * 8 ≤ 4 * 8 := Nat.mul_le_mul_right _ (by omega)
    omega
  obtain ⟨us, hU, -⟩ := ho.told
  obtain ⟨oa, on, oc, rfl, hon⟩ := hU.2.1.toSl
  have HX := hide (fun w' h => l9Gaps_any (.slice oa on oc) P w' h hfl)
  have HO := hide ho; have R1 := hide hr1; have O1 := hide ho1; have HPR := hide hPr
  clear hU ho hr1 ho1 hPr hfl hon HD
  go_wp2_with fail
  (with_reducible refine (HX.out _ HO.out.rep).mono ?_); rintro e w2 ⟨v2, rfl, hg2, hb2⟩
  obtain ⟨ga, gn, gc, rfl, -⟩ := hg2.toSl
  have HO2 := hide (HO.out.below hb2); have R2 := hide (R1.out.keep hb2 R1.out.lt); have O2 := hide (O1.out.trans (Outside.of_below hb2))
  clear HO R1 O1 hb2 HX hg2
  have hsz := O2.out.size
  by_cases hk : gn > 5
  · have hk' : (5 : Int) < gn := by omega
    have L2 := hide (Own.lit (E := StrE) (T := 9) hsz texts9 #[.string ⟨#[120, 61, 49, 59, 97, 61, 121, 124, 121, 61, 49, 59, 97, 61, 120]⟩, .string ⟨#[120, 61, 49, 59, 121, 61, 49, 124, 97, 61, 121, 59, 98, 61, 120]⟩, .string ⟨#[120, 61, 49, 59, 102, 101, 110, 99, 101, 59, 97, 61, 121, 124, 121, 61, 49, 59, 102, 101, 110, 99, 101, 59, 97, 61, 120]⟩] 3 rfl rfl (by omega))
    have HF := hide (of_any b a c xs p1 _ texts9 _ _ (R2.out.allocNew _) (by omega) L2.out (by decide) (by decide) hlt)
    have O2' := hide (O2.out.allocNew (.cells #[.string ⟨#[120, 61, 49, 59, 97, 61, 121, 124, 121, 61, 49, 59, 97, 61, 120]⟩, .string ⟨#[120, 61, 49, 59, 121, 61, 49, 124, 97, 61, 121, 59, 98, 61, 120]⟩, .string ⟨#[120, 61, 49, 59, 102, 101, 110, 99, 101, 59, 97, 61, 121, 124, 121, 61, 49, 59, 102, 101, 110, 99, 101, 59, 97, 61, 120]⟩] 9))
    clear HO2 L2 O2 R2
    go_wp2_with fail
    (with_reducible refine HF.out.mono ?_); rintro e w3 ⟨v3, p3, rfl, ⟨y, hy, rfl⟩, hp3, hr3, ho3⟩
    have HS := hide (fun w' => sParseProgram_any y w' (texts9_le y hy))
    have R3 := hide hr3; have O3 := hide (O2'.out.trans ho3)
    clear hr3 ho3 hy O2' HF
    go_wp2_with fail
    (with_reducible refine (HS.out _).mono ?_); rintro e w4 ⟨v4, ok, rfl, hQP, hb4⟩
    have hsz := O3.out.size
    go_wp2_with fail
    go_ret
    exact ⟨_, p3, rfl, hQP.mono hsz, by omega, R3.out.keep hb4 R3.out.lt, O3.out.trans (Outside.of_below hb4)⟩
  · have hk' : decide (5 < gn) = false := decide_eq_false hk
    have hk'' : decide ((5 : Int) < gn) = false := decide_eq_false (by omega)
    clear hk
    go_wp2_with fail
    go_ret
    exact ⟨_, p1, rfl, ⟨P, HO2.out, hPl, HPR.out⟩, by omega, R2.out, O2.out⟩

def texts10 : List ByteArray := [⟨#[97, 61, 120, 58, 49, 59, 121, 61, 49, 124, 98, 61, 120, 58, 50]⟩, ⟨#[120, 61, 49, 59, 120, 61, 50, 124, 121, 61, 49, 59, 97, 61, 121]⟩, ⟨#[97, 61, 122, 58, 49, 124, 98, 61, 122, 58, 50, 124, 99, 61, 122, 58, 51]⟩, ⟨#[97, 61, 120, 124, 98, 61, 120]⟩, ⟨#[120, 61, 49, 59, 97, 61, 120, 58, 50, 124, 98, 61, 121, 59, 121, 61, 51]⟩, ⟨#[97, 61, 120, 58, 49, 59, 98, 61, 121, 58, 49, 124, 97, 61, 121, 58, 50, 59, 98, 61, 120, 58, 50]⟩]
theorem texts10_le : ∀ x ∈ texts10, x.size ≤ 1000 := by
  have h : (texts10.all fun x => decide (x.size ≤ 1000)) = true := by rfl
  intro x hx
  have := List.all_eq_true.1 h x hx
  simpa using this

set_option maxRecDepth 100000 in
set_option maxHeartbeats 1600000 in
theorem l10Draw_any (b : Nat) (a : Option Addr) (c : Nat) (xs : List Int) (p : Int) (w : World) (hr : Rd w b a c xs p) (hp : p ≤ 700000000) :
    Calls Tryz.prog 125 #[.pointer (some ⟨b, 0, none⟩)] w (RetRd w b a c xs p 70 (QP w.heap.size)) := by
  have HP := hide (fun (p : Int) n w' h hp (hn : n ≤ 100) (hn0 : 0 ≤ n) => pick_any b a c xs p n w' h hp (by omega) (by omega))
  have HD := hide (fun (p : Int) w' h hp => l9Draw_any b a c xs p w' h hp)
  have hlt := hr.lt
  have L0 := hide (Own.lit (E := StrE) (T := 9) (w := w) (Nat.le_refl _) texts10 #[.string ⟨#[97, 61, 120, 58, 49, 59, 121, 61, 49, 124, 98, 61, 120, 58, 50]⟩, .string ⟨#[120, 61, 49, 59, 120, 61, 50, 124, 121, 61, 49, 59, 97, 61, 121]⟩, .string ⟨#[97, 61, 122, 58, 49, 124, 98, 61, 122, 58, 50, 124, 99, 61, 122, 58, 51]⟩, .string ⟨#[97, 61, 120, 124, 98, 61, 120]⟩, .string ⟨#[120, 61, 49, 59, 97, 61, 120, 58, 50, 124, 98, 61, 121, 59, 121, 61, 51]⟩, .string ⟨#[97, 61, 120, 58, 49, 59, 98, 61, 121, 58, 49, 124, 97, 61, 121, 58, 50, 59, 98, 61, 120, 58, 50]⟩] 6 rfl rfl (by omega))
  have R0 := hide (hr.allocNew (.cells #[.string ⟨#[97, 61, 120, 58, 49, 59, 121, 61, 49, 124, 98, 61, 120, 58, 50]⟩, .string ⟨#[120, 61, 49, 59, 120, 61, 50, 124, 121, 61, 49, 59, 97, 61, 121]⟩, .string ⟨#[97, 61, 122, 58, 49, 124, 98, 61, 122, 58, 50, 124, 99, 61, 122, 58, 51]⟩, .string ⟨#[97, 61, 120, 124, 98, 61, 120]⟩, .string ⟨#[120, 61, 49, 59, 97, 61, 120, 58, 50, 124, 98, 61, 121, 59, 121, 61, 51]⟩, .string ⟨#[97, 61, 120, 58, 49, 59, 98, 61, 121, 58, 49, 124, 97, 61, 121, 58, 50, 59, 98, 61, 120, 58, 50]⟩] 9))
  have O0 := hide (Outside.of_below (lo := b) (hi := b + 1) (belowAlloc w (.cells #[.string ⟨#[97, 61, 120, 58, 49, 59, 121, 61, 49, 124, 98, 61, 120, 58, 50]⟩, .string ⟨#[120, 61, 49, 59, 120, 61, 50, 124, 121, 61, 49, 59, 97, 61, 121]⟩, .string ⟨#[97, 61, 122, 58, 49, 124, 98, 61, 122, 58, 50, 124, 99, 61, 122, 58, 51]⟩, .string ⟨#[97, 61, 120, 124, 98, 61, 120]⟩, .string ⟨#[120, 61, 49, 59, 97, 61, 120, 58, 50, 124, 98, 61, 121, 59, 121, 61, 51]⟩, .string ⟨#[97, 61, 120, 58, 49, 59, 98, 61, 121, 58, 49, 124, 97, 61, 121, 58, 50, 59, 98, 61, 120, 58, 50]⟩] 9)))
  clear hr
  go_enter Tryz.func125, Tryz.ntmps125
  go_wp2_with fail
  (with_reducible refine (HP.out p _ _ R0.out (by omega) (by omega) (by omega)).mono ?_); rintro e w2 ⟨v2, p2, rfl, ⟨q2, rfl, hq2, -⟩, hp2, hr2, ho2⟩
  have R2 := hide hr2; have O2 := hide (O0.out.trans ho2); have L2 := hide (ho2.ownHi L0.out hlt)
  clear hr2 ho2 R0 O0 L0
  by_cases hq : q2 = 0
  · subst hq
    go_wp2_with fail
    (with_reducible refine (HP.out p2 _ _ R2.out (by omega) (by omega) (by omega)).mono ?_); rintro e w3 ⟨v3, p3, rfl, ⟨q3, rfl, hq3, hq3'⟩, hp3, hr3, ho3⟩
    obtain ⟨Q, rfl⟩ := Int.eq_ofNat_of_zero_le hq3
    have hQ : Q < 6 := by have := hq3' (by omega); omega
    have R3 := hide hr3; have O3 := hide (O2.out.trans ho3)
    have hl3 := ho3.ownHi L2.out hlt
    obtain ⟨x, hx⟩ := get_of_lt (xs := texts10) (k := Q) (by have : texts10.length = 6 := rfl; omega)
    have hxs := texts10_le x (List.mem_of_getElem? hx)
    obtain ⟨g, o, he, hgl, i0⟩ := hl3.rep.str hx
    simp only [Option.some.injEq, Addr.mk.injEq, and_true] at he
    obtain ⟨he1, he2⟩ := he
    rw [← he1, ← he2, Nat.zero_add] at i0
    rw [← he1] at hgl
    have HS := hide (fun w' => sParseProgram_any x w' hxs)
    clear hr3 ho3 R2 O2 L2 hl3 hx hxs he1 he2
    go_wp2_with fail
    (with_reducible refine (HS.out _).mono ?_); rintro e w4 ⟨v4, ok, rfl, hQP, hb4⟩
    have hsz := O3.out.size
    go_wp2_with fail
    go_ret
    exact ⟨_, p3, rfl, hQP.mono hsz, by omega, R3.out.keep hb4 R3.out.lt, O3.out.trans (Outside.of_below hb4)⟩
  · have hq' : (q2 == 0) = false := by simp [hq]
    clear hq L2
    have hsz := O2.out.size
    go_wp2_with fail
    (with_reducible refine (HD.out p2 _ R2.out (by omega)).mono ?_); rintro e w3 ⟨v3, p3, rfl, hQP, hp3, hr3, ho3⟩
    go_wp2_with fail
    go_ret
    exact ⟨_, p3, rfl, hQP.mono hsz, by omega, hr3, O2.out.trans ho3⟩

end Go.Proofs.YtpbmlppdmdmfkaaGreatDoor

namespace Go.Proofs.YtpbmlppdmdmfkaaGreatDoor
open Go.RowKit

/-- A row that was appended to is laid back: in its own block, or in a new one. -/
theorem Own2U.rowput2 {α : Type} {E : El α} {T1 T2 : TypeId} {us : List Slc} {w w' : World} {base g n cap : Nat} {p : List (List α)} (h : Own2U E T1 T2 us w base (.slice (some ⟨g, 0, none⟩) n cap) p) {k : Nat} {s s' : Slc} (hs : us[k]? = some s) {r' : List α}
    (ho : Own E T2 w' base s'.v r') (hg : w.grownBy w' s.v.ownBlock) (hb : s'.v.ownBlock = s.v.ownBlock ∨ ∃ q, s'.v.ownBlock = some q ∧ w.heap.size ≤ q) : Own2U E T1 T2 (us.set k s') (w'.setCell ⟨g, k, none⟩ s'.v) base (.slice (some ⟨g, 0, none⟩) n cap) (p.set k r') := by
  obtain ⟨h1, h2, h3, h4, h5⟩ := h
  have hk := (List.getElem?_eq_some_iff.1 hs).1
  have hglt := (World.ownsRow.lt h2 g rfl).2
  have h2' := h2.grown hg (.inr (fun e => h5 k s hs g (by rw [← e]; rfl) rfl))
  have h2s := h2'.set (i := k) (j := 0) s' (u := s'.v) (by decide) hs rfl
  simp only [SlcE, Nat.mul_one, Nat.add_zero] at h2s
  have hgs : w'.grownBy (w'.setCell ⟨g, k, none⟩ s'.v) (some g) := grown_set (World.grownBy.refl _ _) _ _
  have hlt : ∀ (i : Nat) (u : Slc), us[i]? = some u → ∀ q, u.v.ownBlock = some q → q < w.heap.size := fun i u hi q hq => by
    obtain ⟨r, hr⟩ := get_of_lt (xs := p) (k := i) (by have := (List.getElem?_eq_some_iff.1 hi).1; omega)
    exact (World.ownsRow.lt (h3 i u r hi hr) q hq).2
  have hs5 : ∀ q, s'.v.ownBlock = some q → q ≠ g := fun q hq e => by
    subst e
    rcases hb with hb | ⟨q', h6, h7⟩
    · exact h5 k s hs q (by rw [← hb]; exact hq) rfl
    · rw [h6] at hq; simp at hq; omega
  have hs4 : ∀ (i : Nat) (u : Slc), us[i]? = some u → i ≠ k → ∀ q, u.v.ownBlock = some q → s'.v.ownBlock ≠ some q := fun i u hi hne q hq hq' => by
    rcases hb with hb | ⟨q', h6, h7⟩
    · exact h4 i k u s hi hs hne q hq (by rw [← hb]; exact hq')
    · rw [h6] at hq'; simp at hq'; have := hlt i u hi q hq; omega
  have split : ∀ (i : Nat) (u : Slc), (us.set k s')[i]? = some u → (i = k ∧ u = s') ∨ (i ≠ k ∧ us[i]? = some u) := fun i u hi => by
    rw [List.getElem?_set] at hi
    by_cases e : k = i
    · subst e; rw [if_pos rfl, if_pos hk] at hi; simp at hi; exact .inl ⟨rfl, hi.symm⟩
    · rw [if_neg e] at hi; exact .inr ⟨fun h => e h.symm, hi⟩
  refine ⟨by simp [h1], h2s, ?_, ?_, ?_⟩
  · intro i u r hi hr
    rcases split i u hi with ⟨e1, e2⟩ | ⟨hne, hi'⟩
    · rw [e1, List.getElem?_set, if_pos rfl, if_pos (by omega)] at hr
      simp at hr; subst hr
      rw [e2]
      refine ho.grown hgs ?_
      rcases hq : s'.v.ownBlock with _ | q
      · exact .inl rfl
      · exact .inr (fun e => hs5 q hq (by simpa using e))
    · rw [List.getElem?_set, if_neg (fun e => hne e.symm)] at hr
      refine ((h3 i u r hi' hr).grown hg ?_).grown hgs ?_
      · rcases hq : u.v.ownBlock with _ | q
        · exact .inl rfl
        · exact .inr (fun e => h4 i k u s hi' hs hne q hq e.symm)
      · rcases hq : u.v.ownBlock with _ | q
        · exact .inl rfl
        · exact .inr (fun e => h5 i u hi' q hq (by rw [e]; rfl))
  · intro i j u u' hi hj hij q hq hq'
    rcases split i u hi with ⟨e1, e2⟩ | ⟨hne, hi'⟩
    · rcases split j u' hj with ⟨e3, e4⟩ | ⟨hne', hj'⟩
      · omega
      · rw [e2] at hq; exact hs4 j u' hj' hne' q hq' hq
    · rcases split j u' hj with ⟨e3, e4⟩ | ⟨hne', hj'⟩
      · rw [e4] at hq'; exact hs4 i u hi' hne q hq hq'
      · exact h4 i j u u' hi' hj' hij q hq hq'
  · intro i u hi q hq hq'
    rcases split i u hi with ⟨e1, e2⟩ | ⟨hne, hi'⟩
    · rw [e2] at hq; exact hs5 q hq (by simp [Value.ownBlock] at hq'; exact hq'.symm)
    · exact h5 i u hi' q hq hq'

/-- 'append(s, x)' of one element, and where the result lies. -/
theorem wpList_appAt {α : Type} (E : El α) {P : Program} {w : World} {ops : Array Oper} {rest : List Oper} {o : Oper} {a : Act} {Q : Exit → Act → World → Prop}
    (T : TypeId) {zv : Value} {bytes : Nat} (hinfo : (P.info? T).map (fun i => (i.zero, i.size, i.bytes)) = some (some zv, E.sz, bytes)) (hz : zv.cells.size = E.sz) {t : TypeId} (h1 : P.underlying t = some (.slice T))
    (base : Nat) (v : Value) (xs : List α) (x : α) (hown : Own E T w base v xs) (hby : bytes ≤ 256) (hn : xs.length ≤ 68719476736) (hbase : base ≤ w.heap.size)
    (hg : o.guard = none) (s y : Operand) (hop : o.op = .call { callee := .builtin .append, args := #[s, y], argTypes := #[t, t] })
    (hs : a.eval s = v) (b off c : Nat) (hy : a.eval y = .slice (some ⟨b, off, none⟩) 1 c) (hnews : ∀ j u, (E.c x)[j]? = some u → w.cell? ⟨b, off + j, none⟩ = some u)
    (hK : ∀ v' w', Own E T w' base v' (xs ++ [x]) → w.grownBy w' v.ownBlock → (v'.ownBlock = v.ownBlock ∨ ∃ q, v'.ownBlock = some q ∧ w.heap.size ≤ q) → wpList P ops Q rest (a.put o.dst v') w') :
    wpList P ops Q (o :: rest) a w := by
  obtain ⟨it, hi, hz0, hz1, hz2⟩ := info_parts hinfo
  refine wpList_append_own_at w hg s y t hop base T it zv E.sz bytes h1 hi hz0 hz1 hz2 hz E.pos v xs.length _ hs hown ⟨b, off, none⟩ 1 c (E.c x) hy (by rw [E.len, Nat.one_mul]) ?_ (E.one x) (by unfold maxLen; omega) ?_ hbase ?_
  · intro j u hu
    have hadd : (⟨b, off, none⟩ : Addr).add j = ⟨b, off + j, none⟩ := by unfold Addr.add; split <;> simp_all
    rw [hadd]
    exact hnews j u hu
  · have := Nat.mul_le_mul (show xs.length + 1 ≤ 68719476737 by omega) hby
    omega
  · intro v' w' h2 h3 _ h5
    refine hK v' w' ?_ h3 ?_
    · unfold Own
      simpa [List.flatMap_append] using h2
    · rcases h5 with h5 | h5
      · exact .inl h5
      · exact .inr ⟨_, h5, Nat.le_refl _⟩

/-- The same, at a step of a region that draws. -/
theorem step_appAt {α : Type} (E : El α) {P : Program} {w : World} {ops : Array Oper} {o : Oper} {a : Act} {K : Act → World → Prop} {Q : Exit → Act → World → Prop} {F : Prop}
    (T : TypeId) {zv : Value} {bytes : Nat} (hinfo : (P.info? T).map (fun i => (i.zero, i.size, i.bytes)) = some (some zv, E.sz, bytes)) (hz : zv.cells.size = E.sz) {t : TypeId} (h1 : P.underlying t = some (.slice T))
    (base : Nat) (v : Value) (xs : List α) (x : α) (hown : Own E T w base v xs) (hby : bytes ≤ 256) (hn : xs.length ≤ 68719476736) (hbase : base ≤ w.heap.size)
    (hg : o.guard = none) (s y : Operand) (hop : o.op = .call { callee := .builtin .append, args := #[s, y], argTypes := #[t, t] })
    (hs : a.eval s = v) (b off c : Nat) (hy : a.eval y = .slice (some ⟨b, off, none⟩) 1 c) (hnews : ∀ j u, (E.c x)[j]? = some u → w.cell? ⟨b, off + j, none⟩ = some u)
    (hK : ∀ (s' : Slc) w', Own E T w' base s'.v (xs ++ [x]) → w.grownBy w' v.ownBlock → (s'.v.ownBlock = v.ownBlock ∨ ∃ q, s'.v.ownBlock = some q ∧ w.heap.size ≤ q) → K (a.put o.dst (.slice s'.a s'.n s'.cap)) w') :
    if Region.wanted o (yielded ops a.tmps) = true then Oper.wp P o a w K Q else F := by
  obtain ⟨it, hi, hz0, hz1, hz2⟩ := info_parts hinfo
  refine step_append_lies w hg s y t hop base T it zv E.sz bytes h1 hi hz0 hz1 hz2 hz E.pos v xs.length _ hs hown ⟨b, off, none⟩ 1 c (E.c x) hy (by rw [E.len, Nat.one_mul]) ?_ (E.one x) (by omega) (by unfold maxLen; omega) ?_ hbase _ rfl ?_
  · intro j u hu
    have hadd : (⟨b, off, none⟩ : Addr).add j = ⟨b, off + j, none⟩ := by unfold Addr.add; split <;> simp_all
    rw [hadd]
    exact hnews j u hu
  · have := Nat.mul_le_mul (show xs.length + 1 ≤ 68719476737 by omega) hby
    omega
  · intro g cap w' h2 h3 h4 _
    refine hK ⟨some ⟨g, 0, none⟩, xs.length + 1, cap⟩ w' ?_ h3 ?_
    · unfold Own
      simpa [List.flatMap_append] using h2
    · rcases h4 with h4 | h4
      · exact .inl h4.symm
      · exact .inr ⟨g, rfl, by omega⟩

/-- The first element is left out. -/
theorem Rep.tail {α : Type} {E : El α} {w : World} {g o n c : Nat} {xs : List α} (h : Rep E w (.slice (some ⟨g, o, none⟩) n c) xs) (hn : 1 ≤ n) : Rep E w (.slice (some ⟨g, o + E.sz, none⟩) (n - 1) (c - 1)) xs.tail := by
  obtain ⟨a', c', hv, h1, h2, h3⟩ := h
  simp only [Value.slice.injEq] at hv
  obtain ⟨rfl, rfl, rfl⟩ := hv
  refine ⟨_, c - 1, by rw [List.length_tail], by rw [List.length_tail]; omega, by omega, fun i x hx => ?_⟩
  rw [List.getElem?_tail] at hx
  obtain ⟨b, o', hb, hi⟩ := h3 (i + 1) x hx
  simp only [Option.some.injEq, Addr.mk.injEq, and_true] at hb
  obtain ⟨rfl, rfl⟩ := hb
  refine ⟨g, o + E.sz, rfl, fun j u hu => ?_⟩
  have := hi j u hu
  rw [Nat.add_mul, Nat.one_mul] at this
  rw [← this]
  congr 2
  omega

end Go.Proofs.YtpbmlppdmdmfkaaGreatDoor

namespace Go.Proofs.YtpbmlppdmdmfkaaGreatDoor
open Go.RowKit
attribute [local go_sem ↓] Go.wp_at_zero Go.wp_at_succ

/-- Some program of bounded size, in memory of the call's own; perhaps without its first row. -/
def QM (lo : Nat) (v : Value) (w : World) : Prop := ∃ P : List (List Ins), (OwnP w lo v P ∨ (∃ (g n c : Nat) (x : List Ins), OwnP w lo (.slice (some ⟨g, 0, none⟩) n c) (x :: P) ∧ v = .slice (some ⟨g, 1, none⟩) (n - 1) (c - 1)) ∨ ∃ g, P = [] ∧ v = .slice (some ⟨g, 0, none⟩) 0 0) ∧ P.length ≤ 5 ∧ ∀ r ∈ P, r.length ≤ 9

theorem Rep2.tail {α : Type} {E : El α} {w : World} {g n c : Nat} {x : List α} {P : List (List α)} (h : Rep2 E w (.slice (some ⟨g, 0, none⟩) n c) (x :: P)) : Rep2 E w (.slice (some ⟨g, 1, none⟩) (n - 1) (c - 1)) P := by
  obtain ⟨us, h1, h2, h3⟩ := h
  cases us with
  | nil => simp at h1
  | cons u us =>
    have hn : 1 ≤ n := by
      obtain ⟨a', c', hv, -⟩ := h2
      simp only [Value.slice.injEq] at hv
      obtain ⟨-, rfl, -⟩ := hv
      simp
    refine ⟨us, by simpa using h1, ?_, fun i u' r hu hr => h3 (i + 1) u' r (by simpa using hu) (by simpa using hr)⟩
    have := h2.tail hn
    simpa [SlcE] using this

theorem QM.open {lo : Nat} {v : Value} {w : World} (h : QM lo v w) : ∃ P : List (List Ins), RepP w v P ∧ P.length ≤ 5 ∧ ∀ r ∈ P, r.length ≤ 9 := by
  obtain ⟨P, h, h1, h2⟩ := h
  refine ⟨P, ?_, h1, h2⟩
  rcases h with h | ⟨g, n, c, x, h, rfl⟩ | ⟨g, rfl, rfl⟩
  · exact h.rep
  · exact h.rep.tail
  · exact ⟨[], rfl, ⟨_, 0, rfl, Nat.le_refl _, Nat.zero_le _, fun i x h => by simp at h⟩, fun i u r h => by simp at h⟩

theorem QM.outside {lo b : Nat} {v : Value} {w w' : World} (h : QM lo v w) (ho : Outside b (b + 1) w w') (hb : b < lo) : QM lo v w' := by
  obtain ⟨P, h, h1, h2⟩ := h
  refine ⟨P, ?_, h1, h2⟩
  rcases h with h | ⟨g, n, c, x, h, rfl⟩ | ⟨g, rfl, rfl⟩
  · exact .inl (h.outside ho hb)
  · exact .inr (.inl ⟨g, n, c, x, h.outside ho hb, rfl⟩)
  · exact .inr (.inr ⟨g, rfl, rfl⟩)

theorem QM.below {lo : Nat} {v : Value} {w w' : World} (h : QM lo v w) (hb : Below w.heap.size w w') : QM lo v w' := by
  obtain ⟨P, h, h1, h2⟩ := h
  refine ⟨P, ?_, h1, h2⟩
  rcases h with h | ⟨g, n, c, x, h, rfl⟩ | ⟨g, rfl, rfl⟩
  · exact .inl (h.below hb)
  · exact .inr (.inl ⟨g, n, c, x, h.below hb, rfl⟩)
  · exact .inr (.inr ⟨g, rfl, rfl⟩)

theorem QM.mono {lo lo' : Nat} {v : Value} {w : World} (h : QM lo v w) (hl : lo' ≤ lo) : QM lo' v w := by
  obtain ⟨P, h, h1, h2⟩ := h
  refine ⟨P, ?_, h1, h2⟩
  rcases h with h | ⟨g, n, c, x, h, rfl⟩ | ⟨g, rfl, rfl⟩
  · exact .inl (h.mono hl)
  · exact .inr (.inl ⟨g, n, c, x, h.mono hl, rfl⟩)
  · exact .inr (.inr ⟨g, rfl, rfl⟩)

/-- A number out of a list that the call made. -/
theorem numOwn (b : Nat) (a : Option Addr) (c : Nat) (xs : List Int) (p : Int) (G n : Nat) (ys : List Int) (w' : World) (base : Nat) (hb : b < base) (h : Rd w' b a c xs p) (hp : p ≤ 1000000000) (ho : Own IntE 3 w' base (.slice (some ⟨G, 0, none⟩) n n) ys) (h1 : 1 ≤ ys.length) (h2 : ys.length ≤ 100) :
    Calls Tryz.prog 185 #[.pointer (some ⟨b, 0, none⟩), .slice (some ⟨G, 0, none⟩) n n] w' (RetRd w' b a c xs p 1 (OneOf ys)) := by
  have hG := (World.ownsRow.lt ho G rfl).1
  exact num_any b a c xs p (.slice (some ⟨G, 0, none⟩) n n) ys w' h hp ho.rep h2 h1 (by intro g o e; simp at e; omega)

theorem row_far {w w' : World} {ob : Obj} {row : Option Nat} (hg : (w.alloc ob).grownBy w' row) {g : Nat} (hb : g < w.heap.size) (hne : ∀ q, row = some q → q ≠ g) : (∀ o, w'.cell? ⟨g, o, none⟩ = w.cell? ⟨g, o, none⟩) ∧ ∀ o, w'.frozen? ⟨g, o, none⟩ = w.frozen? ⟨g, o, none⟩ := by
  have e : w'.heap[g]? = w.heap[g]? := by
    rw [hg.block g (by simp; omega) (fun e => hne g e.symm rfl), heap_alloc_old w ob hb]
  refine ⟨fun o => cell_of_block e o, fun o => ?_⟩
  unfold World.frozen?
  rw [e]

theorem news_alloc1 {w : World} {l : List Value} {T : TypeId} {G : Nat} (hG : w.heap.size = G) : ∀ (j : Nat) (u : Value), l[j]? = some u → (w.alloc (.cells l.toArray T)).cell? ⟨G, 0 + j, none⟩ = some u := by
  subst hG; exact news_alloc

def lenV : Value → Nat
  | .slice _ n _ => n
  | _ => 0

theorem mem_set_le {P : List (List Ins)} {I m : Nat} {r : List Ins} (h : ∀ r ∈ P, r.length ≤ m) (hr : r.length ≤ m) : ∀ x ∈ P.set I r, x.length ≤ m := by
  intro x hx
  rcases List.mem_or_eq_of_mem_set hx with h' | rfl
  · exact h x h'
  · exact hr

set_option maxRecDepth 100000 in
set_option maxHeartbeats 20000000 in
theorem l1Mutate_any (b : Nat) (a : Option Addr) (c : Nat) (xs : List Int) (p : Int) (v : Value) (P : List (List Ins)) (w : World) (hr : Rd w b a c xs p) (hp : p ≤ 800000000) (hP : RepP w v P) (hl : P.length ≤ 4) (hl2 : ∀ r ∈ P, r.length ≤ 8) :
    Calls Tryz.prog 98 #[.pointer (some ⟨b, 0, none⟩), v] w (RetRd w b a c xs p 4 (QM w.heap.size)) := by
  have HC := hide (l1Copy_any v P w hP (by omega) (fun r h => Nat.le_trans (hl2 r h) (by omega)))
  have HP := hide (fun (p : Int) n w' h hp (hn : n ≤ 100) (hn0 : 0 ≤ n) => pick_any b a c xs p n w' h hp (by omega) (by omega))
  have HNO := hide (fun (p : Int) G n ys w' base hb h hp ho h1 h2 => numOwn b a c xs p G n ys w' base hb h hp ho h1 h2)
  have HL2 := hide hl2
  have R0 := hide hr
  have hlt := hr.lt
  clear hP hl2 hr
  go_enter Tryz.func98, Tryz.ntmps98
  go_wp2_with fail
  (with_reducible refine HC.out.mono ?_); rintro e w1 ⟨v1, rfl, hO, hb1⟩
  obtain ⟨us, hU, hold⟩ := hO.told
  have R1 := hide (R0.out.keep hb1 hlt); have O1 := hide (Outside.of_below (lo := b) (hi := b + 1) hb1)
  have hs1 := hb1.size
  have HOLD := hide hold
  clear hO hb1 R0 HC hold
  rcases hU.2.1.shape with ⟨rfl, h0⟩ | ⟨g, cap, rfl, hg1, hg2, hc1, hc2⟩
  · obtain rfl : P = [] := List.eq_nil_of_length_eq_zero (by rw [← hU.1, h0]; rfl)
    have HU := hide hU
    clear hU
    go_wp2_with fail
    go_ret
    exact ⟨_, p, rfl, ⟨[], .inl HU.out.own, by simp, by simp⟩, by omega, R1.out, O1.out⟩
  · have HU := hide hU
    have hul : us.length = P.length := hU.1
    clear hU
    generalize hn : us.length = n at *
    have HN := hide hn
    have HPN := hide hul.symm
    clear hn hul
    by_cases hn0 : n = 0
    · subst hn0
      obtain rfl : P = [] := List.eq_nil_of_length_eq_zero HPN.out
      go_wp2_with fail
      go_ret
      exact ⟨_, p, rfl, ⟨[], .inl HU.out.own, by simp, by simp⟩, by omega, R1.out, O1.out⟩
    · have hn0' : ((n : Int) == 0) = false := by simp; omega
      have hn4 : (n : Int) ≤ 4 := by have := HPN.out; omega
      go_wp2_with fail
      (with_reducible refine (HP.out p _ _ R1.out (by omega) (by omega) (by omega)).mono ?_); rintro e w2 ⟨v2, p2, rfl, ⟨q2, rfl, hq2, hq2'⟩, hp2, hr2, ho2⟩
      obtain ⟨I, rfl⟩ := Int.eq_ofNat_of_zero_le hq2
      have hI : I < n := by have := hq2' (by omega); omega
      have hI1 : (I : Int) < n := by omega
      have R2 := hide hr2; have O2 := hide (O1.out.trans ho2); have U2 := hide (HU.out.outside ho2 hlt)
      clear hr2 ho2 R1 O1 HU hq2 hq2'
      go_wp2_with fail
      (with_reducible refine (HP.out p2 _ _ R2.out (by omega) (by omega) (by omega)).mono ?_); rintro e w3 ⟨v3, p3, rfl, ⟨k, rfl, hk, -⟩, hp3, hr3, ho3⟩
      have R3 := hide hr3; have O3 := hide (O2.out.trans ho3); have U3 := hide (U2.out.outside ho3 hlt)
      have hs3 := O3.out.size
      clear hr3 ho3 R2 O2 U2
      obtain ⟨r, hrI⟩ := get_of_lt (xs := P) (k := I) (by rw [HPN.out]; exact hI)
      have hrl := HL2.out r (List.mem_of_getElem? hrI)
      obtain ⟨⟨sa, sn, sc⟩, hsI, hgl, hcell, hrow, -⟩ := U3.out.row hrI
      have hsn : sn = r.length := Own.len hrow
      have hgb : b < g := by omega
      have hfz := U3.out.2.1.frozen 0
      by_cases h0 : k = 0
      · subst h0
        have hI0 : (0 : Int) ≤ (I : Int) := by omega
        have hrg : ∀ q, (Value.slice sa sn sc).ownBlock = some q → q ≠ g := fun q hq e => U3.out.2.2.2.2 I _ hsI q hq (by rw [e]; rfl)
        have HRW := hide hrow; have HSI := hide hsI; have HRI := hide hrI; have HSN := hide hsn
        have hfz := U3.out.2.1.frozen I
        clear hrow hsI hrI hsn
        have LA := hide ((Own.lit (E := IntE) (T := 3) (w := w3) (base := w.heap.size) (by omega) [0, 6, 1, 4] #[.int .i64 0, .int .i64 6, .int .i64 1, .int .i64 4] 4 rfl rfl (by omega)).below (Below.refl _ _).drew)
        have RA := hide ((R3.out.allocNew (.cells #[.int .i64 0, .int .i64 6, .int .i64 1, .int .i64 4] 3)).keep (Below.refl _ _).drew (R3.out.allocNew (.cells #[.int .i64 0, .int .i64 6, .int .i64 1, .int .i64 4] 3)).lt)
        have OA := hide (Outside.of_below (lo := b) (hi := b + 1) ((belowAlloc w3 (.cells #[.int .i64 0, .int .i64 6, .int .i64 1, .int .i64 4] 3)).drew))
        have LABa := hide (((Own.lit (E := IntE) (T := 3) (w := w3) (base := w.heap.size) (by omega) [0, 6, 1, 4] #[.int .i64 0, .int .i64 6, .int .i64 1, .int .i64 4] 4 rfl rfl (by omega)).alloc (.cells #[.int .i64 0, .int .i64 3, .int .i64 (-1)] 3)).below (Below.refl _ _).drew)
        have LABb := hide ((Own.lit (E := IntE) (T := 3) (w := w3.alloc (.cells #[.int .i64 0, .int .i64 6, .int .i64 1, .int .i64 4] 3)) (base := w.heap.size) (by simp; omega) [0, 3, -1] #[.int .i64 0, .int .i64 3, .int .i64 (-1)] 3 rfl rfl (by omega)).below (Below.refl _ _).drew)
        have RAB := hide (((R3.out.allocNew (.cells #[.int .i64 0, .int .i64 6, .int .i64 1, .int .i64 4] 3)).allocNew (.cells #[.int .i64 0, .int .i64 3, .int .i64 (-1)] 3)).keep (Below.refl _ _).drew ((R3.out.allocNew (.cells #[.int .i64 0, .int .i64 6, .int .i64 1, .int .i64 4] 3)).allocNew (.cells #[.int .i64 0, .int .i64 3, .int .i64 (-1)] 3)).lt)
        have OAB := hide (Outside.of_below (lo := b) (hi := b + 1) (((belowAlloc w3 (.cells #[.int .i64 0, .int .i64 6, .int .i64 1, .int .i64 4] 3)).alloc (by simp) (.cells #[.int .i64 0, .int .i64 3, .int .i64 (-1)] 3)).drew))
        have LBAb := hide (((Own.lit (E := IntE) (T := 3) (w := w3) (base := w.heap.size) (by omega) [0, 3, -1] #[.int .i64 0, .int .i64 3, .int .i64 (-1)] 3 rfl rfl (by omega)).alloc (.cells #[.int .i64 0, .int .i64 6, .int .i64 1, .int .i64 4] 3)).below (Below.refl _ _).drew)
        have LBAa := hide ((Own.lit (E := IntE) (T := 3) (w := w3.alloc (.cells #[.int .i64 0, .int .i64 3, .int .i64 (-1)] 3)) (base := w.heap.size) (by simp; omega) [0, 6, 1, 4] #[.int .i64 0, .int .i64 6, .int .i64 1, .int .i64 4] 4 rfl rfl (by omega)).below (Below.refl _ _).drew)
        have RBA := hide (((R3.out.allocNew (.cells #[.int .i64 0, .int .i64 3, .int .i64 (-1)] 3)).allocNew (.cells #[.int .i64 0, .int .i64 6, .int .i64 1, .int .i64 4] 3)).keep (Below.refl _ _).drew ((R3.out.allocNew (.cells #[.int .i64 0, .int .i64 3, .int .i64 (-1)] 3)).allocNew (.cells #[.int .i64 0, .int .i64 6, .int .i64 1, .int .i64 4] 3)).lt)
        have OBA := hide (Outside.of_below (lo := b) (hi := b + 1) (((belowAlloc w3 (.cells #[.int .i64 0, .int .i64 3, .int .i64 (-1)] 3)).alloc (by simp) (.cells #[.int .i64 0, .int .i64 6, .int .i64 1, .int .i64 4] 3)).drew))
        go_wp2_with fail
        go_region_law
                  (first
                    | (go_simp; go_at_call 185; (with_reducible refine (HNO.out p3 _ 4 [0, 6, 1, 4] _ w.heap.size hlt (by first | exact RA.out | exact RAB.out | exact RBA.out) (by omega) (by first | exact LA.out | simpa using LABa.out | simpa using LBAa.out) (by simp) (by simp)).mono ?_); rintro e u1 ⟨v4, p4, rfl, ⟨ya, -, rfl⟩, hp4, hr4, ho4⟩; have R4 := hide hr4; have P4 : Hid (Outside b (b + 1) w3 u1) := hide (by first | exact OA.out.trans ho4 | exact OAB.out.trans ho4 | exact OBA.out.trans ho4); have O4 := hide (O3.out.trans P4.out); (first | have LB4 := hide (ho4.ownHi LABb.out hlt) | have LB4 := hide (ho4.ownHi LBAb.out hlt) | have LB4 := True.intro); have hc4 : u1.cell? ⟨g, I, none⟩ = some (.slice sa sn sc) := ((cell_of_block (P4.out.block g hgl (by omega)) I).trans hcell); have hs4 := O4.out.size; have hz4 : g < u1.heap.size := (by have := P4.out.size; omega); clear hr4 ho4)
                    | (go_simp; go_at_call 185; (with_reducible refine (HNO.out p4 _ 3 [0, 3, -1] _ w.heap.size hlt (by first | exact R4.out | exact R4.out.allocNew _) (by omega) (by first | simpa using LB4.out | exact Own.lit (E := IntE) (T := 3) (w := u1) (base := w.heap.size) (by omega) [0, 3, -1] #[.int .i64 0, .int .i64 3, .int .i64 (-1)] 3 rfl rfl (by omega)) (by simp) (by simp)).mono ?_); rintro e u2 ⟨v5, p5, rfl, ⟨yb, -, rfl⟩, hp5, hr5, ho5⟩; have R5 := hide hr5; have P5 : Hid (Outside b (b + 1) w3 u2) := hide (by first | exact P4.out.trans ho5 | exact (P4.out.allocNew _).trans ho5); have O5 := hide (O3.out.trans P5.out); have hc5 : u2.cell? ⟨g, I, none⟩ = some (.slice sa sn sc) := ((cell_of_block (P5.out.block g hgl (by omega)) I).trans hcell); have hf5 : u2.frozen? ⟨g, I, none⟩ = false := ((ocell P5.out).2 g I hgl (by omega)).trans hfz; have hz5 : g < u2.heap.size := (by have := P5.out.size; omega); clear hr5 ho5)
                    | (refine step_appAt InsE 84 Tryz.infoIns rfl Tryz.underlying82 w.heap.size (.slice sa sn sc) r ⟨ya, yb, 0, 0⟩ ((P5.out.ownHi HRW.out hlt).alloc _) (by decide) (by omega) (by have := O5.out.size; simp; omega) (by rfl) _ _ (by rfl) (by rfl) _ 0 1 (by rfl) news_alloc ?_; intro s' w6 hown6 hgr6 hat6; obtain ⟨hg7, hg8⟩ := row_far hgr6 (g := g) (by have := P5.out.size; omega) (fun q hq e => hrg q hq e); have hc6 : w6.cell? ⟨g, I, none⟩ = some (.slice sa sn sc) := (hg7 I).trans hc5; have hf6 : w6.frozen? ⟨g, I, none⟩ = false := (hg8 I).trans hf5; have hz6 : g < w6.heap.size := (Nat.lt_of_lt_of_le hz5 (Nat.le_trans (belowAlloc _ _).size hgr6.size)); clear hg7 hg8; have HOWN6 := hide hown6; have HGR6 := hide hgr6; have HAT6 := hide hat6; clear hown6 hgr6 hat6))
        all_goals
          have U5 := (U3.out.outside P5.out hlt).below (belowAlloc _ (.cells #[.int .i64 ya, .int .i64 yb, .int .i64 0, .int .i64 0] 84))
          have U6 := U5.rowput2 HSI.out HOWN6.out HGR6.out HAT6.out
          have R6 := ((R5.out.allocNew _).grownNew HGR6.out (fun q hq => by have := HRW.out.rowGe q hq; omega)).setNew (g := g) hgb I (.slice s'.a s'.n s'.cap)
          have O6 := ((O5.out.allocNew _).grownNew HGR6.out (fun q hq => HRW.out.rowGe q hq)).setNew (g := g) hg1 I (.slice s'.a s'.n s'.cap)
          have HU6 := hide U6; have HR6 := hide R6; have HO6 := hide O6
          clear U5 U6 R6 O6
          go_wp2_with fail
          go_ret
          exact ⟨_, _, rfl, ⟨_, .inl HU6.out.own, by simp; omega, mem_set_le (fun r hr => Nat.le_trans (HL2.out r hr) (by omega)) (by simp; omega)⟩, by omega, HR6.out, HO6.out⟩
      have k0 : (k == 0) = false := by simp [h0]
      by_cases h1 : k = 1
      · subst h1
        have hI0 : (0 : Int) ≤ (I : Int) := by omega
        have hrg : ∀ q, (Value.slice sa sn sc).ownBlock = some q → q ≠ g := fun q hq e => U3.out.2.2.2.2 I _ hsI q hq (by rw [e]; rfl)
        have HRW := hide hrow; have HSI := hide hsI; have HRI := hide hrI; have HSN := hide hsn
        have hfz := U3.out.2.1.frozen I
        clear hrow hsI hrI hsn
        have LA := hide ((Own.lit (E := IntE) (T := 3) (w := w3) (base := w.heap.size) (by omega) [4, -1, 3] #[.int .i64 4, .int .i64 (-1), .int .i64 3] 3 rfl rfl (by omega)).below (Below.refl _ _).drew)
        have RA := hide ((R3.out.allocNew (.cells #[.int .i64 4, .int .i64 (-1), .int .i64 3] 3)).keep (Below.refl _ _).drew (R3.out.allocNew (.cells #[.int .i64 4, .int .i64 (-1), .int .i64 3] 3)).lt)
        have OA := hide (Outside.of_below (lo := b) (hi := b + 1) ((belowAlloc w3 (.cells #[.int .i64 4, .int .i64 (-1), .int .i64 3] 3)).drew))
        go_wp2_with fail
        go_region_law
                  (first
                    | (go_simp; go_at_call 185; (with_reducible refine (HNO.out p3 _ 3 [4, -1, 3] _ w.heap.size hlt RA.out (by omega) LA.out (by simp) (by simp)).mono ?_); rintro e u2 ⟨v5, p5, rfl, ⟨yb, -, rfl⟩, hp5, hr5, ho5⟩; have R5 := hide hr5; have P5 : Hid (Outside b (b + 1) w3 u2) := hide (OA.out.trans ho5); have O5 := hide (O3.out.trans P5.out); have hc5 : u2.cell? ⟨g, I, none⟩ = some (.slice sa sn sc) := ((cell_of_block (P5.out.block g hgl (by omega)) I).trans hcell); have hf5 : u2.frozen? ⟨g, I, none⟩ = false := ((ocell P5.out).2 g I hgl (by omega)).trans hfz; have hz5 : g < u2.heap.size := (by have := P5.out.size; omega); clear hr5 ho5)
                    | (refine step_appAt InsE 84 Tryz.infoIns rfl Tryz.underlying82 w.heap.size (.slice sa sn sc) r ⟨2, 0, 0, yb⟩ ((P5.out.ownHi HRW.out hlt).alloc _) (by decide) (by omega) (by have := O5.out.size; simp; omega) (by rfl) _ _ (by rfl) (by rfl) _ 0 1 (by rfl) news_alloc ?_; intro s' w6 hown6 hgr6 hat6; obtain ⟨hg7, hg8⟩ := row_far hgr6 (g := g) (by have := P5.out.size; omega) (fun q hq e => hrg q hq e); have hc6 : w6.cell? ⟨g, I, none⟩ = some (.slice sa sn sc) := (hg7 I).trans hc5; have hf6 : w6.frozen? ⟨g, I, none⟩ = false := (hg8 I).trans hf5; have hz6 : g < w6.heap.size := (Nat.lt_of_lt_of_le hz5 (Nat.le_trans (belowAlloc _ _).size hgr6.size)); clear hg7 hg8; have HOWN6 := hide hown6; have HGR6 := hide hgr6; have HAT6 := hide hat6; clear hown6 hgr6 hat6))
        all_goals
          have U5 := (U3.out.outside P5.out hlt).below (belowAlloc _ (.cells #[.int .i64 2, .int .i64 0, .int .i64 0, .int .i64 yb] 84))
          have U6 := U5.rowput2 HSI.out HOWN6.out HGR6.out HAT6.out
          have R6 := ((R5.out.allocNew _).grownNew HGR6.out (fun q hq => by have := HRW.out.rowGe q hq; omega)).setNew (g := g) hgb I (.slice s'.a s'.n s'.cap)
          have O6 := ((O5.out.allocNew _).grownNew HGR6.out (fun q hq => HRW.out.rowGe q hq)).setNew (g := g) hg1 I (.slice s'.a s'.n s'.cap)
          have HU6 := hide U6; have HR6 := hide R6; have HO6 := hide O6
          clear U5 U6 R6 O6
          go_wp2_with fail
          go_ret
          exact ⟨_, _, rfl, ⟨_, .inl HU6.out.own, by simp; omega, mem_set_le (fun r hr => Nat.le_trans (HL2.out r hr) (by omega)) (by simp; omega)⟩, by omega, HR6.out, HO6.out⟩
      have k1 : (k == 1) = false := by simp [h1]
      by_cases h2 : k = 2
      · subst h2
        clear hsn hrow hcell hfz hsI hrI hgl
        go_wp2_with fail
        go_loopw [5] (fun o wr => ∃ (P' : List (List Ins)) (oa : Option Addr) (on oc : Nat), o = .slice oa on oc ∧ Hid (on = P'.length) ∧ on ≤ 4 ∧ Hid (∀ r ∈ P', r.length ≤ 8) ∧ Hid (OwnP wr w.heap.size (.slice oa on oc) P') ∧ Hid (Rd wr b a c xs p3) ∧ Hid (Outside b (b + 1) w wr)) (fun o _ => 4 - lenV o)
        case atStart => exact ⟨P, some ⟨g, 0, none⟩, n, cap, rfl, hide HPN.out.symm, by omega, HL2, hide U3.out.own, R3, O3⟩
        case round =>
          obtain ⟨P', oa, on, oc, rfl, HON, hon4, HPL, HOW, HRR, HOO⟩ := hrel
          obtain ⟨wm, rfl⟩ : ∃ wm : World, wm = wr := ⟨_, rfl⟩
          have hsm := HOO.out.size
          by_cases hle : on ≤ 3
          · have hle' : (on : Int) ≤ 3 := by omega
            obtain ⟨us', hU', hold'⟩ := HOW.out.told
            have HU' := hide hU'; have HOLD' := hide hold'
            have hub : us'.length ≤ 68719476736 := by have := HON.out; have := hU'.1; omega
            clear hU' hold'
            go_wp2_with (at_builtin; refine wpList_app SlcE 82 Tryz.infoInsS rfl Tryz.underlying23 w.heap.size _ us' ⟨some ⟨wm.heap.size, 0, none⟩, 0, 0⟩ ((HU'.out.2.1.alloc _).alloc _) (by decide) hub (by simp; omega) rfl _ _ rfl rfl _ 0 1 rfl (news_alloc1 (by simp)) ?_; intro v5 w5 ho5 hgr5)
            have hem := (Own.empty (E := InsE) 84 wm (Nat.le_refl _)).alloc (.cells #[.slice (some ⟨wm.heap.size, 0, none⟩) 0 0] 82)
            have ho6 := ((HU'.out.below (belowAlloc _ _)).below (belowAlloc _ _)).app2 (by decide) (fun i u hu q hq => (HOLD'.out i u hu q hq).2) hsm (s := ⟨some ⟨wm.heap.size, 0, none⟩, 0, 0⟩) hem ho5 hgr5
            have R6 := ((HRR.out.allocNew _).allocNew _).grownNew hgr5 (fun q hq => by have := HU'.out.2.1.rowGe q hq; omega)
            have O6 := ((HOO.out.allocNew _).allocNew _).grownNew hgr5 (fun q hq => HU'.out.2.1.rowGe q hq)
            obtain ⟨va, vn, vc, rfl, hvn⟩ := ho5.toSl
            have hvn2 : vn = on + 1 := by rw [hvn, List.length_append, HU'.out.1, ← HON.out]; rfl
            have E1 := hide (show vn = (P' ++ [[]]).length by rw [hvn2, List.length_append, ← HON.out]; rfl)
            have HO6 := hide ho6; have HR6 := hide R6; have HO7 := hide O6
            have hvn4 : vn ≤ 4 := by omega
            have hvn5 : 4 - vn < 4 - on := by omega
            clear ho5 ho6 R6 O6 hgr5 hem hvn hvn2
            go_roundw
            case rel => exact ⟨P' ++ [[]], va, vn, vc, rfl, E1, hvn4, hide (fun r hr => by
              rcases List.mem_append.1 hr with h | h
              · exact HPL.out r h
              · rw [List.mem_singleton.1 h]; simp), HO6, HR6, HO7⟩
            case measure => simpa [lenV] using hvn5
          · have hle' : decide ((on : Int) ≤ 3) = false := decide_eq_false (by omega)
            go_wp2_with fail
            go_ret
            exact ⟨_, p3, rfl, ⟨P', .inl HOW.out, by have := HON.out; omega, fun r hr => Nat.le_trans (HPL.out r hr) (by omega)⟩, by omega, HRR.out, HOO.out⟩
      have k2 : (k == 2) = false := by simp [h2]
      by_cases h3 : k = 3
      · subst h3
        have HRI := hide hrI
        have U4 : Hid (Own2U InsE 82 84 us w3 w.heap.size (.slice (some ⟨g, 0, none⟩) n cap) (P.set I r)) := hide (by
          have e : P.set I r = P := by
            apply List.ext_getElem?
            intro j
            rw [List.getElem?_set]
            split
            · rename_i e; subst e; rw [if_pos (by have := HPN.out; omega), HRI.out]
            · rfl
          rw [e]; exact U3.out)
        clear hsn hrow hcell hfz hsI hrI U3
        go_wp2_with fail
        go_loopg [] (8 - r.length) (fun gk wr => ∃ (r' : List Ins) (us' : List Slc), Hid (r'.length + gk = 8) ∧ Hid (us'.length = n) ∧ Hid (Own2U InsE 82 84 us' wr w.heap.size (.slice (some ⟨g, 0, none⟩) n cap) (P.set I r')) ∧ Hid (Rd wr b a c xs p3) ∧ Hid (Outside b (b + 1) w wr))
        case atStart => exact ⟨r, us, hide (by omega), HN, U4, R3, O3⟩
        case round =>
          obtain ⟨r', us', HGK, HUN, HU', HRR, HOO⟩ := hrel
          have hIP : (P.set I r')[I]? = some r' := by rw [List.getElem?_set, if_pos rfl, if_pos (by have := HPN.out; omega)]
          obtain ⟨⟨sa, sn, sc⟩, hsI, hgl, hcell, hrow, -⟩ := HU'.out.row hIP
          have hsn : sn = r'.length := Own.len hrow
          have hrg : ∀ q, (Value.slice sa sn sc).ownBlock = some q → q ≠ g := fun q hq e => HU'.out.2.2.2.2 I _ hsI q hq (by rw [e]; rfl)
          have hfz := HU'.out.2.1.frozen I
          have hsm := HOO.out.size
          have hgk := HGK.out
          by_cases hle : sn ≤ 7
          · have hle' : (sn : Int) ≤ 7 := by omega
            have hrb : r'.length ≤ 68719476736 := by omega
            have HRW := hide hrow; have HSI := hide hsI; have HSN := hide hsn; have HRG := hide hrg
            clear hrow hsI hsn hrg hIP hgk
            go_wp2_with (at_builtin; refine wpList_appAt InsE 84 Tryz.infoIns rfl Tryz.underlying82 w.heap.size (.slice sa sn sc) r' ⟨1, 0, 0, 0⟩ (HRW.out.alloc _) (by decide) hrb (by simp; omega) rfl _ _ rfl rfl _ 0 1 rfl news_alloc ?_; intro v6 w6 hown6 hgr6 hat6; obtain ⟨⟨s1, s2, s3⟩, rfl, -⟩ := Own.toSlc hown6; obtain ⟨hg7, hg8⟩ := row_far hgr6 (g := g) hgl (fun q hq e => HRG.out q hq e); have hc6 : w6.cell? ⟨g, I, none⟩ = some (.slice sa sn sc) := (hg7 I).trans hcell; have hf6 : w6.frozen? ⟨g, I, none⟩ = false := (hg8 I).trans hfz; have hz6 : g < w6.heap.size := (Nat.lt_of_lt_of_le hgl (Nat.le_trans (belowAlloc _ _).size hgr6.size)); clear hg7 hg8; have HOWN6 := hide hown6; have HGR6 := hide hgr6; have HAT6 := hide hat6; clear hown6 hgr6 hat6)
            have U5 := HU'.out.below (belowAlloc _ (.cells #[.int .i64 1, .int .i64 0, .int .i64 0, .int .i64 0] 84))
            have U6 := U5.rowput2 (s' := ⟨s1, s2, s3⟩) HSI.out HOWN6.out HGR6.out HAT6.out
            rw [List.set_set] at U6
            have R6 := ((HRR.out.allocNew _).grownNew HGR6.out (fun q hq => by have := HRW.out.rowGe q hq; omega)).setNew (g := g) hgb I (.slice s1 s2 s3)
            have O6 := ((HOO.out.allocNew _).grownNew HGR6.out (fun q hq => HRW.out.rowGe q hq)).setNew (g := g) hg1 I (.slice s1 s2 s3)
            have HU6 := hide U6; have HR6 := hide R6; have HO6 := hide O6
            have hgk2 : gk - 1 < gk := by have := HGK.out; have := HSN.out; omega
            clear U5 U6 R6 O6 HOWN6 HAT6 HGR6
            go_roundg (gk - 1)
            case rel => exact ⟨r' ++ [⟨1, 0, 0, 0⟩], us'.set I ⟨s1, s2, s3⟩, hide (by rw [List.length_append]; have := HGK.out; simp; omega), hide (by rw [List.length_set]; exact HUN.out), HU6, HR6, HO6⟩
            case measure => exact hgk2
          · have hle' : decide ((sn : Int) ≤ 7) = false := decide_eq_false (by omega)
            clear hsI hrow hrg hsn hIP
            have HRW := hgk
            clear hgk
            go_wp2_with fail
            go_ret
            exact ⟨_, p3, rfl, ⟨_, .inl HU'.out.own, by rw [List.length_set]; omega, mem_set_le (fun r hr => Nat.le_trans (HL2.out r hr) (by omega)) (by have := HGK.out; omega)⟩, by omega, HRR.out, HOO.out⟩
      have k3 : (k == 3) = false := by simp [h3]
      clear h0 h1 h2 h3 hsn hrow hcell hfz hsI hrI
      by_cases h4 : k = 4
      · subst h4
        have hc1' : (1 : Int) ≤ (cap : Int) := by omega
        have hn1' : (1 : Int) ≤ (n : Int) := by omega
        obtain ⟨x, P', rfl⟩ : ∃ x P', P = x :: P' := by
          cases P with
          | nil => exact absurd HPN.out (by simp; omega)
          | cons x P' => exact ⟨x, P', rfl⟩
        by_cases hc : cap = 1
        · subst hc
          obtain rfl : n = 1 := by omega
          obtain rfl : P' = [] := List.eq_nil_of_length_eq_zero (by have := HPN.out; simp at this; simpa using this)
          go_wp2_with fail
          go_ret
          exact ⟨_, p3, rfl, ⟨[], .inr (.inr ⟨g, rfl, rfl⟩), by simp, by simp⟩, by omega, R3.out, O3.out⟩
        · have hc' : ((cap : Int) == 1) = false := by simp; omega
          have hc3 : (1 : Int) < (cap : Int) := by omega
          have hc4 : 1 < cap := by omega
          clear hc
          go_wp2_with fail
          go_ret
          exact ⟨_, p3, rfl, ⟨P', .inr (.inl ⟨g, n, cap, x, U3.out.own, rfl⟩), by simp at hl; omega, fun r hr => Nat.le_trans (HL2.out r (by simp [hr])) (by omega)⟩, by omega, R3.out, O3.out⟩
      · have k4 : (k == 4) = false := by simp [h4]
        clear h4
        go_wp2_with fail
        go_ret
        exact ⟨_, p3, rfl, ⟨P, .inl U3.out.own, by omega, fun r hr => Nat.le_trans (HL2.out r hr) (by omega)⟩, by omega, R3.out, O3.out⟩

end Go.Proofs.YtpbmlppdmdmfkaaGreatDoor

namespace Go.Proofs.YtpbmlppdmdmfkaaGreatDoor
open Go.RowKit

/-- Some program of bounded size. -/
def RetProg (w : World) (e : Ending) (w' : World) : Prop := ∃ (v : Value) (P : List (List Ins)), e = .returned v ∧ RepP w' v P ∧ P.length ≤ 5 ∧ (∀ r ∈ P, r.length ≤ 9) ∧ Below w.heap.size w w'
def RetProgI (w : World) (e : Ending) (w' : World) : Prop := ∃ (v : Value) (P : List (List Ins)) (y : Int), e = .returned (.tuple #[v, .int .i64 y]) ∧ RepP w' v P ∧ P.length ≤ 5 ∧ (∀ r ∈ P, r.length ≤ 9) ∧ Below w.heap.size w w'

theorem flatten_bound9 {P : List (List Ins)} (hl : P.length ≤ 5) (h : ∀ r ∈ P, r.length ≤ 9) : P.flatten.length ≤ 45 := by
  have := flatten_bound P 9 h
  have : P.length * 9 ≤ 5 * 9 := Nat.mul_le_mul_right _ hl
  omega

set_option maxRecDepth 100000 in
set_option maxHeartbeats 800000 in
theorem DrawRacesOf_any (v : Value) (xs0 : List Int) (w : World) (hx : Rep ByteE w v xs0) (hb : ∀ x ∈ xs0, 0 ≤ x ∧ x ≤ 255) :
    Calls Tryz.prog 59 #[v] w (RetProg w) := by
  have HO := hide (l17Open_any v xs0 w hx hb)
  clear hx hb
  go_enter Tryz.func59, Tryz.ntmps59
  go_wp2_with fail
  (with_reducible refine HO.out.mono ?_); rintro e w1 ⟨b, a, c, xs, rfl, hr1, hbs, hb1⟩
  have R1 := hide hr1; have HB1 := hide hb1
  clear hr1 hb1 HO
  have hlt := R1.out.lt
  go_wp2_with fail
  (with_reducible refine (l10Draw_any b a c xs 0 _ R1.out (by omega)).mono ?_); rintro e w2 ⟨v2, p2, rfl, hQ, hp2, hr2, ho2⟩
  obtain ⟨P, hP, hl, hl2⟩ := hQ
  have R2 := hide hr2; have O2 := hide ho2; have HP := hide hP; have HL2 := hide hl2
  clear hr2 ho2 hP hl2 R1
  go_wp2_with fail
  (with_reducible refine (l1Mutate_any b a c xs p2 v2 P _ R2.out (by omega) HP.out.rep hl HL2.out).mono ?_); rintro e w3 ⟨v3, p3, rfl, hQ3, hp3, hr3, ho3⟩
  obtain ⟨P3, hP3, hl3, hl4⟩ := hQ3.open
  have HL4 := hide hl4
  have HB3 := hide (HB1.out.trans (below_of_outside (O2.out.trans ho3) hbs HB1.out.size))
  clear hr3 ho3 hQ3 hl4
  go_wp2_with fail
  go_ret
  exact ⟨_, P3, rfl, hP3, hl3, HL4.out, HB3.out⟩

end Go.Proofs.YtpbmlppdmdmfkaaGreatDoor
