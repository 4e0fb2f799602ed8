/-
  Programs that are drawn for fences and races. Condition: not too many numbers were taken.
-/
import Derived.Test.YtpnmphfdfadlcaaD11
import Derived.Test.YtpnmphfdfadlcaaF8
import Derived.Test.YtpnmphfdfadlcaaF5
namespace Go.Proofs.Ytpnmphfdfadlcaa
open Go.RowKit

def OneStr (ys : List ByteArray) (v : Value) (_ : World) : Prop := ∃ y ∈ ys, v = .string y

theorem of_any (b : Nat) (a : Option Addr) (c : Nat) (xs : List Int) (p : Int) (v : Value) (ys : List ByteArray) (w : World) (base : Nat) (hr : Rd w b a c xs p) (hp : p ≤ 1000000000) (hy : Own StrE 9 w base v ys) (hl : ys.length ≤ 100) (h0 : 1 ≤ ys.length) (hb : b < base) :
    Calls Try.prog 157 #[.pointer (some ⟨b, 0, none⟩), v] w (RetRd w b a c xs p 1 (OneStr ys)) := by
  obtain ⟨a2, n, c2, rfl, hn⟩ := hy.toSl
  have HY := hide hy; clear hy
  have H := hide hn
  have HP := hide (fun w' h => pick_any b a c xs p n w' h hp (by omega) (by omega))
  clear hn
  go_enter Try.func157, Try.ntmps157
  go_wp2_with fail
  (with_reducible refine (HP.out _ hr).mono ?_); rintro e w1 ⟨v1, p1, rfl, ⟨q, rfl, hq0, hq1⟩, hp1, hr1, ho1⟩
  obtain ⟨Q, rfl⟩ := Int.eq_ofNat_of_zero_le hq0
  have hQ : Q < n := by have := hq1 (by have := H.out; omega); omega
  obtain ⟨y, hyq⟩ := get_of_lt (xs := ys) (k := Q) (by rw [← H.out]; exact hQ)
  have hy1 := ho1.ownHi HY.out hb
  obtain ⟨g, o, rfl, hg, i0⟩ := hy1.rep.str hyq
  have hQ' := nat_of_lt hQ
  have hm := List.mem_of_getElem? hyq
  clear hyq hy1
  go_wp2_with fail
  go_ret
  exact ⟨_, p1, rfl, ⟨y, hm, rfl⟩, hp1, hr1, ho1⟩

theorem QP.below {lo : Nat} {v : Value} {w w' : World} (h : QP lo v w) (hb : Below w.heap.size w w') : QP lo v w' := by
  obtain ⟨P, h1, h2, h3⟩ := h
  exact ⟨P, h1.below hb, h2, h3⟩
theorem QP.mono {lo lo' : Nat} {v : Value} {w : World} (h : QP lo v w) (hl : lo' ≤ lo) : QP lo' v w := by
  obtain ⟨P, h1, h2, h3⟩ := h
  exact ⟨P, h1.mono hl, h2, h3⟩
theorem QP.outside {lo b : Nat} {v : Value} {w w' : World} (h : QP lo v w) (ho : Outside b (b + 1) w w') (hb : b < lo) : QP lo v w' := by
  obtain ⟨P, h1, h2, h3⟩ := h
  exact ⟨P, h1.outside ho hb, h2, h3⟩

set_option maxRecDepth 100000 in
set_option maxHeartbeats 1600000 in
theorem l1Execs200_any (v : Value) (p : List (List Ins)) (w : World) (hp : RepP w v p) (hl : p.flatten.length ≤ 1048576) (hpl : p.length ≤ 1048576) :
    Calls Try.prog 166 #[v, .int .i64 200] w fun e w' => ∃ k : Int, e = .returned (.int .i64 k) ∧ Below w.heap.size w w' := by
  have HP := hide hp; clear hp
  have HL := hide hl; clear hl
  go_enter Try.func166, Try.ntmps166
  go_wp2_with fail
  go_loopw [5, 6] (fun q i wr => ∃ (k : Nat) (N : Int), k ≤ 3 ∧ i = .int .i64 k ∧ q = .int .i64 N ∧ Below w.heap.size w wr) (fun _ i _ => 3 - (intOf i).toNat)
  case atStart => exact ⟨0, 1, by omega, rfl, rfl, Below.refl _ _⟩
  case round =>
    obtain ⟨k, N, hk, rfl, rfl, hb⟩ := hrel
    by_cases hlt : k < 3
    · have hlt' : (k : Int) ≤ 2 := by omega
      have hbR := Nat.le_trans (cnt_le_flatten (fR k) p) HL.out
      have hbW := Nat.le_trans (cnt_le_flatten (fW k) p) HL.out
      have C1 : ∀ w', RepP w' v p → Calls Try.prog 117 #[v, .int .i64 (k : Int), .bool true] w' fun e w2 => e = .returned (.int .i64 (cnt (fW k) p : Nat)) ∧ Below w'.heap.size w' w2 := fun w' h => by
        have := l1Count_any v p k true w' h HL.out hpl; rwa [fRW_true] at this
      have C2 : ∀ w', RepP w' v p → Calls Try.prog 117 #[v, .int .i64 (k : Int), .bool false] w' fun e w2 => e = .returned (.int .i64 (cnt (fR k) p : Nat)) ∧ Below w'.heap.size w' w2 := fun w' h => by
        have := l1Count_any v p k false w' h HL.out hpl; rwa [fRW_false] at this
      generalize hR : cnt (fR k) p = R at *
      generalize hW : cnt (fW k) p = W at *
      have D1 := hide C1; have D2 := hide C2
      clear hR hW C1 C2
      go_wp2_with (go_at_call 117; (with_reducible refine (D1.out _ (HP.out.below hb)).mono ?_); rintro e w1 ⟨rfl, hb1⟩)
      have hb := hb.trans (hb1.mono hb.size)
      clear hb1
      go_loopw [5, 8] (fun q i wr => ∃ (t : Nat) (M : Int), t ≤ R ∧ i = .int .i64 t ∧ q = .int .i64 M ∧ Below w.heap.size w wr) (fun _ i _ => R - (intOf i).toNat)
      case atStart => exact ⟨0, N, by omega, rfl, rfl, hb⟩
      case round =>
        clear hb
        obtain ⟨t, M, ht, rfl, rfl, hb⟩ := hrel
        by_cases hlt3 : t < R
        · have hlt3' := nat_of_lt hlt3
          by_cases hM : M ≤ 200
          · go_wp2_with (go_at_call 117; (with_reducible refine (D2.out _ (HP.out.below hb)).mono ?_); rintro e w1 ⟨rfl, hb1⟩)
            go_roundw
            case rel => exact ⟨t + 1, _, by omega, by go_num, rfl, hb.trans (hb1.mono hb.size)⟩
            case measure => simp [intOf]; omega
          · have hM' : decide (M ≤ 200) = false := decide_eq_false hM
            clear hM
            go_wp2_with (go_at_call 117; (with_reducible refine (D2.out _ (HP.out.below hb)).mono ?_); rintro e w1 ⟨rfl, hb1⟩)
            have hb := hb.trans (hb1.mono hb.size)
            clear hb1
            go_loopw [5, 9] (fun q i wr => ∃ (s : Nat) (L : Int), 1 ≤ s ∧ s ≤ W + 1 ∧ i = .int .i64 (s + 1) ∧ q = .int .i64 L ∧ Below w.heap.size w wr) (fun _ i _ => W + 1 - (intOf i).toNat)
            case atStart => exact ⟨1, M, by omega, by omega, rfl, rfl, hb⟩
            case round =>
              clear hb
              obtain ⟨s, L, hs1, hs2, rfl, rfl, hb⟩ := hrel
              by_cases hlt5 : (s : Int) + 1 ≤ W
              · by_cases hL : L ≤ 200
                · go_wp2_with fail
                  go_roundw
                  case rel => exact ⟨s + 1, _, by omega, by omega, by go_num, rfl, hb⟩
                  case measure => simp [intOf]; omega
                · have hL' : decide (L ≤ 200) = false := decide_eq_false hL
                  clear hL
                  go_wp2_with fail
                  go_roundw
                  case rel => exact ⟨k + 1, L, by omega, by go_num, rfl, hb⟩
                  case measure => simp [intOf]; omega
              · have hlt5' : decide ((s : Int) + 1 ≤ W) = false := decide_eq_false hlt5
                go_wp2_with fail
                go_roundw
                case rel => exact ⟨k + 1, L, by omega, by go_num, rfl, hb⟩
                case measure => simp [intOf]; omega
        · have hlt3' : decide (t < R) = false := decide_eq_false hlt3
          have hlt3'' : decide ((t : Int) < R) = false := decide_eq_false (by omega)
          go_wp2_with (go_at_call 117; (with_reducible refine (D2.out _ (HP.out.below hb)).mono ?_); rintro e w1 ⟨rfl, hb1⟩)
          have hb := hb.trans (hb1.mono hb.size)
          clear hb1
          go_loopw [5, 9] (fun q i wr => ∃ (s : Nat) (L : Int), 1 ≤ s ∧ s ≤ W + 1 ∧ i = .int .i64 (s + 1) ∧ q = .int .i64 L ∧ Below w.heap.size w wr) (fun _ i _ => W + 1 - (intOf i).toNat)
          case atStart => exact ⟨1, M, by omega, by omega, rfl, rfl, hb⟩
          case round =>
            clear hb
            obtain ⟨s, L, hs1, hs2, rfl, rfl, hb⟩ := hrel
            by_cases hlt5 : (s : Int) + 1 ≤ W
            · by_cases hL : L ≤ 200
              · go_wp2_with fail
                go_roundw
                case rel => exact ⟨s + 1, _, by omega, by omega, by go_num, rfl, hb⟩
                case measure => simp [intOf]; omega
              · have hL' : decide (L ≤ 200) = false := decide_eq_false hL
                clear hL
                go_wp2_with fail
                go_roundw
                case rel => exact ⟨k + 1, L, by omega, by go_num, rfl, hb⟩
                case measure => simp [intOf]; omega
            · have hlt5' : decide ((s : Int) + 1 ≤ W) = false := decide_eq_false hlt5
              go_wp2_with fail
              go_roundw
              case rel => exact ⟨k + 1, L, by omega, by go_num, rfl, hb⟩
              case measure => simp [intOf]; omega
    · have e : k = 3 := by omega
      subst e
      by_cases h3 : 200 < N
      · go_wp2_with fail
        go_ret
        first | exact ⟨_, rfl, hb⟩ | exact ⟨⟨_, rfl⟩, hb⟩
      · have h3' : decide (200 < N) = false := decide_eq_false h3
        go_wp2_with fail
        go_ret
        first | exact ⟨_, rfl, hb⟩ | exact ⟨⟨_, rfl⟩, hb⟩

set_option maxRecDepth 100000 in
set_option maxHeartbeats 1600000 in
theorem l8Small_any (b : Nat) (a : Option Addr) (c : Nat) (xs : List Int) (p : Int) (w : World) (hr : Rd w b a c xs p) (hp : p ≤ 800000000) :
    Calls Try.prog 191 #[.pointer (some ⟨b, 0, none⟩)] w (RetRd w b a c xs p 60 (QP w.heap.size)) := by
  have HD := hide (l1Draw_any b a c xs p w hr hp)
  have hlt := hr.lt
  have HS := hide (fun w' => sParseProgram_any ⟨#[120, 61, 49, 59, 97, 61, 121, 124, 121, 61, 49, 59, 97, 61, 120]⟩ w' (by decide))
  clear hr
  go_enter Try.func191, Try.ntmps191
  go_wp2_with fail
  (with_reducible refine HD.out.mono ?_); rintro e w1 ⟨v1, p1, rfl, ⟨P, ho, hPl, hPr⟩, hp1, hr1, ho1⟩
  have hfl : P.flatten.length ≤ 1048576 := by
    have := flatten_bound P 8 hPr
    have : P.length * 8 ≤ 4 * 8 := Nat.mul_le_mul_right _ (by omega)
    omega
  obtain ⟨us, hU, -⟩ := ho.told
  obtain ⟨oa, on, oc, rfl, hon⟩ := hU.2.1.toSl
  have HX := hide (fun w' h => l1Execs200_any (.slice oa on oc) P w' h hfl (by omega))
  have HO := hide ho; have R1 := hide hr1; have O1 := hide ho1; have HPR := hide hPr
  clear hU ho hr1 ho1 hPr hfl hon HD
  go_wp2_with fail
  (with_reducible refine (HX.out _ HO.out.rep).mono ?_); rintro e w2 ⟨k, rfl, hb2⟩
  have HO2 := hide (HO.out.below hb2); have R2 := hide (R1.out.keep hb2 R1.out.lt); have O2 := hide (O1.out.trans (Outside.of_below hb2))
  clear HO R1 O1 hb2 HX
  by_cases hk : k ≤ 200
  · go_wp2_with fail
    go_ret
    exact ⟨_, p1, rfl, ⟨P, HO2.out, hPl, HPR.out⟩, hp1, R2.out, O2.out⟩
  · have hk' : decide (k ≤ 200) = false := decide_eq_false hk
    clear hk HO2
    go_wp2_with fail
    (with_reducible refine (HS.out _).mono ?_); rintro e w4 ⟨v4, ok, rfl, hQP, hb4⟩
    have hsz := O2.out.size
    go_wp2_with fail
    go_ret
    exact ⟨_, p1, rfl, hQP.mono hsz, hp1, R2.out.keep hb4 R2.out.lt, O2.out.trans (Outside.of_below hb4)⟩

def texts9 : List ByteArray := [⟨#[120, 61, 49, 59, 97, 61, 121, 124, 121, 61, 49, 59, 97, 61, 120]⟩, ⟨#[120, 61, 49, 59, 121, 61, 49, 124, 97, 61, 121, 59, 98, 61, 120]⟩, ⟨#[120, 61, 49, 59, 102, 101, 110, 99, 101, 59, 97, 61, 121, 124, 121, 61, 49, 59, 102, 101, 110, 99, 101, 59, 97, 61, 120]⟩]
theorem texts9_le : ∀ x ∈ texts9, x.size ≤ 1000 := by
  have h : (texts9.all fun x => decide (x.size ≤ 1000)) = true := by rfl
  intro x hx
  have := List.all_eq_true.1 h x hx
  simpa using this

set_option maxRecDepth 100000 in
set_option maxHeartbeats 1600000 in
theorem l9Draw_any (b : Nat) (a : Option Addr) (c : Nat) (xs : List Int) (p : Int) (w : World) (hr : Rd w b a c xs p) (hp : p ≤ 800000000) :
    Calls Try.prog 125 #[.pointer (some ⟨b, 0, none⟩)] w (RetRd w b a c xs p 61 (QP w.heap.size)) := by
  have HD := hide (l8Small_any b a c xs p w hr hp)
  have hlt := hr.lt
  clear hr
  go_enter Try.func125, Try.ntmps125
  go_wp2_with fail
  (with_reducible refine HD.out.mono ?_); rintro e w1 ⟨v1, p1, rfl, ⟨P, ho, hPl, hPr⟩, hp1, hr1, ho1⟩
  have hfl : P.flatten.length ≤ 1048576 := by
    have := flatten_bound P 8 hPr
    have : P.length * 8 ≤ 4 * 8 := Nat.mul_le_mul_right _ (by omega)
    omega
  obtain ⟨us, hU, -⟩ := ho.told
  obtain ⟨oa, on, oc, rfl, hon⟩ := hU.2.1.toSl
  have HX := hide (fun w' h => l9Gaps_any (.slice oa on oc) P w' h hfl)
  have HO := hide ho; have R1 := hide hr1; have O1 := hide ho1; have HPR := hide hPr
  clear hU ho hr1 ho1 hPr hfl hon HD
  go_wp2_with fail
  (with_reducible refine (HX.out _ HO.out.rep).mono ?_); rintro e w2 ⟨v2, rfl, hg2, hb2⟩
  obtain ⟨ga, gn, gc, rfl, -⟩ := hg2.toSl
  have HO2 := hide (HO.out.below hb2); have R2 := hide (R1.out.keep hb2 R1.out.lt); have O2 := hide (O1.out.trans (Outside.of_below hb2))
  clear HO R1 O1 hb2 HX hg2
  have hsz := O2.out.size
  by_cases hk : gn > 5
  · have hk' : (5 : Int) < gn := by omega
    have L2 := hide (Own.lit (E := StrE) (T := 9) hsz texts9 #[.string ⟨#[120, 61, 49, 59, 97, 61, 121, 124, 121, 61, 49, 59, 97, 61, 120]⟩, .string ⟨#[120, 61, 49, 59, 121, 61, 49, 124, 97, 61, 121, 59, 98, 61, 120]⟩, .string ⟨#[120, 61, 49, 59, 102, 101, 110, 99, 101, 59, 97, 61, 121, 124, 121, 61, 49, 59, 102, 101, 110, 99, 101, 59, 97, 61, 120]⟩] 3 rfl rfl (by omega))
    have HF := hide (of_any b a c xs p1 _ texts9 _ _ (R2.out.allocNew _) (by omega) L2.out (by decide) (by decide) hlt)
    have O2' := hide (O2.out.allocNew (.cells #[.string ⟨#[120, 61, 49, 59, 97, 61, 121, 124, 121, 61, 49, 59, 97, 61, 120]⟩, .string ⟨#[120, 61, 49, 59, 121, 61, 49, 124, 97, 61, 121, 59, 98, 61, 120]⟩, .string ⟨#[120, 61, 49, 59, 102, 101, 110, 99, 101, 59, 97, 61, 121, 124, 121, 61, 49, 59, 102, 101, 110, 99, 101, 59, 97, 61, 120]⟩] 9))
    clear HO2 L2 O2 R2
    go_wp2_with fail
    (with_reducible refine HF.out.mono ?_); rintro e w3 ⟨v3, p3, rfl, ⟨y, hy, rfl⟩, hp3, hr3, ho3⟩
    have HS := hide (fun w' => sParseProgram_any y w' (texts9_le y hy))
    have R3 := hide hr3; have O3 := hide (O2'.out.trans ho3)
    clear hr3 ho3 hy O2' HF
    go_wp2_with fail
    (with_reducible refine (HS.out _).mono ?_); rintro e w4 ⟨v4, ok, rfl, hQP, hb4⟩
    have hsz := O3.out.size
    go_wp2_with fail
    go_ret
    exact ⟨_, p3, rfl, hQP.mono hsz, by omega, R3.out.keep hb4 R3.out.lt, O3.out.trans (Outside.of_below hb4)⟩
  · have hk' : decide (5 < gn) = false := decide_eq_false hk
    have hk'' : decide ((5 : Int) < gn) = false := decide_eq_false (by omega)
    clear hk
    go_wp2_with fail
    go_ret
    exact ⟨_, p1, rfl, ⟨P, HO2.out, hPl, HPR.out⟩, by omega, R2.out, O2.out⟩

def texts10 : List ByteArray := [⟨#[97, 61, 120, 58, 49, 59, 121, 61, 49, 124, 98, 61, 120, 58, 50]⟩, ⟨#[120, 61, 49, 59, 120, 61, 50, 124, 121, 61, 49, 59, 97, 61, 121]⟩, ⟨#[97, 61, 122, 58, 49, 124, 98, 61, 122, 58, 50, 124, 99, 61, 122, 58, 51]⟩, ⟨#[97, 61, 120, 124, 98, 61, 120]⟩, ⟨#[120, 61, 49, 59, 97, 61, 120, 58, 50, 124, 98, 61, 121, 59, 121, 61, 51]⟩, ⟨#[97, 61, 120, 58, 49, 59, 98, 61, 121, 58, 49, 124, 97, 61, 121, 58, 50, 59, 98, 61, 120, 58, 50]⟩]
theorem texts10_le : ∀ x ∈ texts10, x.size ≤ 1000 := by
  have h : (texts10.all fun x => decide (x.size ≤ 1000)) = true := by rfl
  intro x hx
  have := List.all_eq_true.1 h x hx
  simpa using this

set_option maxRecDepth 100000 in
set_option maxHeartbeats 1600000 in
theorem l10Draw_any (b : Nat) (a : Option Addr) (c : Nat) (xs : List Int) (p : Int) (w : World) (hr : Rd w b a c xs p) (hp : p ≤ 700000000) :
    Calls Try.prog 163 #[.pointer (some ⟨b, 0, none⟩)] w (RetRd w b a c xs p 70 (QP w.heap.size)) := by
  have HP := hide (fun (p : Int) n w' h hp (hn : n ≤ 100) (hn0 : 0 ≤ n) => pick_any b a c xs p n w' h hp (by omega) (by omega))
  have HD := hide (fun (p : Int) w' h hp => l9Draw_any b a c xs p w' h hp)
  have hlt := hr.lt
  have L0 := hide (Own.lit (E := StrE) (T := 9) (w := w) (Nat.le_refl _) texts10 #[.string ⟨#[97, 61, 120, 58, 49, 59, 121, 61, 49, 124, 98, 61, 120, 58, 50]⟩, .string ⟨#[120, 61, 49, 59, 120, 61, 50, 124, 121, 61, 49, 59, 97, 61, 121]⟩, .string ⟨#[97, 61, 122, 58, 49, 124, 98, 61, 122, 58, 50, 124, 99, 61, 122, 58, 51]⟩, .string ⟨#[97, 61, 120, 124, 98, 61, 120]⟩, .string ⟨#[120, 61, 49, 59, 97, 61, 120, 58, 50, 124, 98, 61, 121, 59, 121, 61, 51]⟩, .string ⟨#[97, 61, 120, 58, 49, 59, 98, 61, 121, 58, 49, 124, 97, 61, 121, 58, 50, 59, 98, 61, 120, 58, 50]⟩] 6 rfl rfl (by omega))
  have R0 := hide (hr.allocNew (.cells #[.string ⟨#[97, 61, 120, 58, 49, 59, 121, 61, 49, 124, 98, 61, 120, 58, 50]⟩, .string ⟨#[120, 61, 49, 59, 120, 61, 50, 124, 121, 61, 49, 59, 97, 61, 121]⟩, .string ⟨#[97, 61, 122, 58, 49, 124, 98, 61, 122, 58, 50, 124, 99, 61, 122, 58, 51]⟩, .string ⟨#[97, 61, 120, 124, 98, 61, 120]⟩, .string ⟨#[120, 61, 49, 59, 97, 61, 120, 58, 50, 124, 98, 61, 121, 59, 121, 61, 51]⟩, .string ⟨#[97, 61, 120, 58, 49, 59, 98, 61, 121, 58, 49, 124, 97, 61, 121, 58, 50, 59, 98, 61, 120, 58, 50]⟩] 9))
  have O0 := hide (Outside.of_below (lo := b) (hi := b + 1) (belowAlloc w (.cells #[.string ⟨#[97, 61, 120, 58, 49, 59, 121, 61, 49, 124, 98, 61, 120, 58, 50]⟩, .string ⟨#[120, 61, 49, 59, 120, 61, 50, 124, 121, 61, 49, 59, 97, 61, 121]⟩, .string ⟨#[97, 61, 122, 58, 49, 124, 98, 61, 122, 58, 50, 124, 99, 61, 122, 58, 51]⟩, .string ⟨#[97, 61, 120, 124, 98, 61, 120]⟩, .string ⟨#[120, 61, 49, 59, 97, 61, 120, 58, 50, 124, 98, 61, 121, 59, 121, 61, 51]⟩, .string ⟨#[97, 61, 120, 58, 49, 59, 98, 61, 121, 58, 49, 124, 97, 61, 121, 58, 50, 59, 98, 61, 120, 58, 50]⟩] 9)))
  clear hr
  go_enter Try.func163, Try.ntmps163
  go_wp2_with fail
  (with_reducible refine (HP.out p _ _ R0.out (by omega) (by omega) (by omega)).mono ?_); rintro e w2 ⟨v2, p2, rfl, ⟨q2, rfl, hq2, -⟩, hp2, hr2, ho2⟩
  have R2 := hide hr2; have O2 := hide (O0.out.trans ho2); have L2 := hide (ho2.ownHi L0.out hlt)
  clear hr2 ho2 R0 O0 L0
  by_cases hq : q2 = 0
  · subst hq
    go_wp2_with fail
    (with_reducible refine (HP.out p2 _ _ R2.out (by omega) (by omega) (by omega)).mono ?_); rintro e w3 ⟨v3, p3, rfl, ⟨q3, rfl, hq3, hq3'⟩, hp3, hr3, ho3⟩
    obtain ⟨Q, rfl⟩ := Int.eq_ofNat_of_zero_le hq3
    have hQ : Q < 6 := by have := hq3' (by omega); omega
    have R3 := hide hr3; have O3 := hide (O2.out.trans ho3)
    have hl3 := ho3.ownHi L2.out hlt
    obtain ⟨x, hx⟩ := get_of_lt (xs := texts10) (k := Q) (by have : texts10.length = 6 := rfl; omega)
    have hxs := texts10_le x (List.mem_of_getElem? hx)
    obtain ⟨g, o, he, hgl, i0⟩ := hl3.rep.str hx
    simp only [Option.some.injEq, Addr.mk.injEq, and_true] at he
    obtain ⟨he1, he2⟩ := he
    rw [← he1, ← he2, Nat.zero_add] at i0
    rw [← he1] at hgl
    have HS := hide (fun w' => sParseProgram_any x w' hxs)
    clear hr3 ho3 R2 O2 L2 hl3 hx hxs he1 he2
    go_wp2_with fail
    (with_reducible refine (HS.out _).mono ?_); rintro e w4 ⟨v4, ok, rfl, hQP, hb4⟩
    have hsz := O3.out.size
    go_wp2_with fail
    go_ret
    exact ⟨_, p3, rfl, hQP.mono hsz, by omega, R3.out.keep hb4 R3.out.lt, O3.out.trans (Outside.of_below hb4)⟩
  · have hq' : (q2 == 0) = false := by simp [hq]
    clear hq L2
    have hsz := O2.out.size
    go_wp2_with fail
    (with_reducible refine (HD.out p2 _ R2.out (by omega)).mono ?_); rintro e w3 ⟨v3, p3, rfl, hQP, hp3, hr3, ho3⟩
    go_wp2_with fail
    go_ret
    exact ⟨_, p3, rfl, hQP.mono hsz, by omega, hr3, O2.out.trans ho3⟩

end Go.Proofs.Ytpnmphfdfadlcaa
