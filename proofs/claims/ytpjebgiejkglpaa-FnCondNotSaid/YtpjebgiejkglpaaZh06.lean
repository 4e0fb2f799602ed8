/-
  Which outcomes are valid, in the program and in the reference. No condition but bounds on lengths.
-/
import Derived.Test.YtpjebgiejkglpaaZh01
import Derived.Test.YtpjebgiejkglpaaZh03
import Derived.Test.YtpjebgiejkglpaaZh04
import Derived.Test.YtpjebgiejkglpaaZh02
import Derived.Deep.RegionHeld3
import Derived.Deep.DeepCutAuto
import Derived.Deep.AppendLies
namespace Go.Proofs.Ytpjebgiejkglpaa
open Go.RowKit

theorem sInstrValid_raw (a b c d : Int) (w : World) : Calls Try.prog 95 #[.agg #[.int .i64 a, .int .i64 b, .int .i64 c, .int .i64 d]] w fun e w' => e = .returned (.bool (insValid ⟨a, b, c, d⟩)) ∧ Below w.heap.size w w' := sInstrValid_any ⟨a, b, c, d⟩ w
theorem InstrValid_raw (a b c d : Int) (w : World) : Calls Try.prog 47 #[.agg #[.int .i64 a, .int .i64 b, .int .i64 c, .int .i64 d]] w fun e w' => e = .returned (.bool (insValid ⟨a, b, c, d⟩)) ∧ Below w.heap.size w w' := InstrValid_any ⟨a, b, c, d⟩ w

set_option maxRecDepth 100000 in
set_option maxHeartbeats 1600000 in
theorem l1Shape_any (v : Value) (p : List (List Ins)) (w : World) (hp : RepP w v p) (hl : p.flatten.length ≤ 1048576) :
    Calls Try.prog 69 #[v] w fun e w' => e = .returned (.bool (shapeOk p)) ∧ Below w.heap.size w w' := by
  obtain ⟨a, c, rfl, hc1, hc2, hc3, hp⟩ := hp.open
  have HP := hide hp; clear hp
  have HL := hide hl; clear hl
  generalize hn : p.length = n at *
  have H := hide hn; clear hn
  by_cases h3 : 3 < n
  · have E : Hid (shapeOk p = false) := hide (by unfold shapeOk; rw [H.out]; simp; omega)
    have h3' : (3 : Int) < n := by omega
    go_enter Try.func69, Try.ntmps69
    go_wp2_with fail
    go_ret
    rw [E.out]
    exact ⟨rfl, Below.refl _ _⟩
  · have h3' : (n : Int) ≤ 3 := by omega
    go_enter Try.func69, Try.ntmps69
    go_wp2_with fail
    go_loopw [3, 4] (fun r i wr => ∃ j : Nat, j ≤ n ∧ i = .int .i64 j ∧ r = .int .i64 (cnt notFence (p.take j) : Nat) ∧ Hid ((p.take j).all rowOk = true) ∧ Below w.heap.size w wr) (fun _ i _ => n - (intOf i).toNat)
    case atStart => exact ⟨0, by omega, rfl, by simp [cnt], hide (by simp), Below.refl _ _⟩
    case round =>
      obtain ⟨j, hj, rfl, rfl, hok, hb2⟩ := hrel
      by_cases hlt2 : j < n
      · obtain ⟨wm, rfl⟩ : ∃ wm : World, wm = wr := ⟨_, rfl⟩
        obtain ⟨x, hxk⟩ := get_of_lt (xs := p) (k := j) (by rw [H.out]; exact hlt2)
        obtain ⟨b, o, ra, rc, rfl, hbl, i0, i1⟩ := (HP.out.below hb2).row hxk
        have hlt2' := nat_of_lt hlt2
        obtain ⟨_, _, _, _, hr2, _, _⟩ := i1.open
        have CR := hide (cnt_take_succ notFence hxk)
        have hbR := Nat.le_trans (cnt_take_le notFence p j) HL.out
        have hxl := Nat.le_trans (row_le_flatten hxk) HL.out
        have I1 := hide i1; have X := hide hxk
        clear i1 hxk
        generalize hR : cnt notFence (p.take j) = R at *
        clear hR
        by_cases h7 : 7 < x.length
        · have E : Hid (shapeOk p = false) := hide (by
            have := all_no X.out (by unfold rowOk; simp; omega)
            unfold shapeOk; simp [this])
          have h7' : (7 : Int) < x.length := by omega
          go_wp2_with fail
          go_ret
          rw [E.out]
          exact ⟨rfl, hb2⟩
        · have h7' : (x.length : Int) ≤ 7 := by omega
          go_wp2_with fail
          go_loopw [3, 5] (fun r i wr => ∃ t : Nat, t ≤ x.length ∧ i = .int .i64 t ∧ r = .int .i64 (R + (x.take t).countP notFence : Nat) ∧ Hid ((x.take t).all insValid = true) ∧ Below wm.heap.size wm wr) (fun _ i _ => x.length - (intOf i).toNat)
          case atStart => exact ⟨0, by omega, rfl, by simp, hide (by simp), Below.refl _ _⟩
          case round =>
            obtain ⟨t, ht, rfl, rfl, hok2, hb3⟩ := hrel
            have hbR2 : (x.take t).countP notFence ≤ 1048576 := Nat.le_trans List.countP_le_length (by simp; omega)
            have i0' : wr.cell? ⟨b, o + j, none⟩ = some (.slice ra x.length rc) := (hb3.cell (p := ⟨b, o + j, none⟩) hbl).trans i0
            by_cases hlt3 : t < x.length
            · obtain ⟨y, hyk⟩ := get_of_lt (xs := x) (k := t) hlt3
              obtain ⟨b', o', rfl, hbl', j0, j1, j2, j3⟩ := (I1.out.below hb3).ins hyk
              have hlt3' := nat_of_lt hlt3
              have CR2 := hide (countP_take_succ notFence hyk)
              have Y := hide hyk; clear hyk
              have hbl2 : b < wr.heap.size := by have := hb3.size; omega
              generalize hR2 : (x.take t).countP notFence = R2 at *
              clear hR2
              generalize hv : insValid y = vv at *
              have V := hide hv; clear hv
              cases vv
              · have E : Hid (shapeOk p = false) := hide (by
                  have := all_no X.out (row_no Y.out V.out)
                  unfold shapeOk; simp [this])
                go_wp2_with (go_at_call 95; (with_reducible refine (sInstrValid_raw _ _ _ _ _).mono ?_); rw [V.out]; rintro e w3 ⟨rfl, hb4⟩)
                go_ret
                rw [E.out]
                exact ⟨rfl, hb2.trans ((hb3.trans (hb4.mono hb3.size)).mono hb2.size)⟩
              · have OK3 := hide (all_take_succ hok2.out Y.out V.out)
                have CR3 : Hid ((x.take (t + 1)).countP notFence = R2 + if (y.op != 4) = true then 1 else 0) := CR2
                clear CR2
                by_cases h4 : y.op = 4
                · have g4 : (y.op != 4) = false := by simp [h4]
                  have CR4 : Hid ((x.take (t + 1)).countP notFence = R2) := hide (by have h := CR3.out; rw [g4] at h; simpa using h)
                  clear h4
                  go_wp2_with (go_at_call 95; (with_reducible refine (sInstrValid_raw _ _ _ _ _).mono ?_); rw [V.out]; rintro e w3 ⟨rfl, hb4⟩; obtain ⟨hc4, hf4⟩ := bcell hb4)
                  go_roundw
                  case rel => exact ⟨t + 1, by omega, by go_num, by rw [CR4.out]; simp, OK3, hb3.trans (hb4.mono hb3.size)⟩
                  case measure => simp [intOf]; omega
                · have g4 : (y.op != 4) = true := by simp [h4]
                  have CR4 : Hid ((x.take (t + 1)).countP notFence = R2 + 1) := hide (by have h := CR3.out; rw [g4] at h; simpa using h)
                  clear h4
                  go_wp2_with (go_at_call 95; (with_reducible refine (sInstrValid_raw _ _ _ _ _).mono ?_); rw [V.out]; rintro e w3 ⟨rfl, hb4⟩; obtain ⟨hc4, hf4⟩ := bcell hb4)
                  go_roundw
                  case rel => exact ⟨t + 1, by omega, by go_num, by rw [CR4.out]; simp; omega, OK3, hb3.trans (hb4.mono hb3.size)⟩
                  case measure => simp [intOf]; omega
            · have e : t = x.length := by omega
              have CR4 : Hid (cnt notFence (p.take (j + 1)) = R + (x.take t).countP notFence) := by have h := CR.out; rwa [e, List.take_length]
              have OK4 : Hid ((p.take (j + 1)).all rowOk = true) := hide (all_take_succ hok.out X.out (by
                have h := hok2.out
                rw [e, List.take_length] at h
                unfold rowOk
                rw [h]; simp; omega))
              generalize hR2 : (x.take t).countP notFence = R2 at *
              clear hR2 e
              go_wp2_with fail
              go_roundw
              case rel => exact ⟨j + 1, by omega, by go_num, by rw [CR4.out], OK4, hb2.trans (hb3.mono hb2.size)⟩
              case measure => simp [intOf]; omega
      · have e : j = n := by omega
        have hpt : p.take j = p := List.take_of_length_le (by rw [H.out]; omega)
        rw [hpt] at hok ⊢
        clear hpt
        have E : Hid (shapeOk p = decide ((cnt notFence p : Int) ≤ 12)) := hide (by
          have hle : decide (n ≤ 3) = true := decide_eq_true (by omega)
          unfold shapeOk; rw [hok.out, H.out, hle, Bool.eq_iff_iff]; simp; omega)
        go_wp2_with fail
        go_ret
        rw [E.out]
        exact ⟨rfl, hb2⟩

set_option maxHeartbeats 800000 in
theorem sProgramValid_any (v : Value) (p : List (List Ins)) (w : World) (hp : RepP w v p) (hl : p.flatten.length ≤ 1048576) (hpl : p.length ≤ 1048576) :
    Calls Try.prog 41 #[v] w fun e w' => e = .returned (.bool (progValid p)) ∧ Below w.heap.size w w' := by
  have PV : Hid (progValid p = (shapeOk p && decide (1 ≤ p.length) && decide (prodP p ≤ 3000))) := hide rfl
  have HL := hide hl; clear hl
  obtain ⟨a, c, hv, hc1, hc2, hc3, _⟩ := hp.open
  have HP := hide hp; clear hp
  have HV := hide hv
  subst hv
  generalize hn : p.length = n at *
  have H := hide hn; clear hn
  have HS := hide (fun w' h => l1Shape_any (.slice a n c) p w' h HL.out)
  generalize hs : shapeOk p = s at *
  have S := hide hs; clear hs
  cases s
  · go_enter Try.func41, Try.ntmps41
    go_wp2_with (go_at_call 69; (with_reducible refine (HS.out _ HP.out).mono ?_); rintro e w1 ⟨rfl, hb1⟩)
    go_ret
    rw [PV.out]
    exact ⟨rfl, hb1⟩
  · by_cases h0 : 0 < n
    · have h0' : (0 : Int) < n := by omega
      have HE := hide (fun w' h => l1Execs_any (.slice a n c) p w' h HL.out (by rw [H.out]; omega))
      have hcap := cap_le (prodP p)
      have HCP : Hid (decide (((cap (prodP p) : Nat) : Int) ≤ 3000) = decide (prodP p ≤ 3000)) := hide (by rw [Bool.eq_iff_iff]; simp only [decide_eq_true_eq]; unfold cap; omega)
      generalize hC : cap (prodP p) = C at *
      clear hC
      go_enter Try.func41, Try.ntmps41
      go_wp2_with (first | (go_at_call 69; (with_reducible refine (HS.out _ HP.out).mono ?_); rintro e w1 ⟨rfl, hb1⟩) | (go_at_call 51; (with_reducible refine (HE.out _ (HP.out.below hb1)).mono ?_); rintro e w2 ⟨rfl, hb2⟩))
      go_ret
      rw [PV.out, HCP.out]
      exact ⟨by rw [show decide (1 ≤ n) = true from decide_eq_true h0]; simp, hb1.trans (hb2.mono hb1.size)⟩
    · have h0' : decide ((0 : Int) < n) = false := by simp; omega
      go_enter Try.func41, Try.ntmps41
      go_wp2_with (go_at_call 69; (with_reducible refine (HS.out _ HP.out).mono ?_); rintro e w1 ⟨rfl, hb1⟩)
      go_ret
      rw [PV.out]
      exact ⟨by rw [show decide (1 ≤ n) = false from decide_eq_false (by omega)]; simp, hb1⟩

theorem progValid_no {p : List (List Ins)} (h : shapeOk p = false) : progValid p = false := by unfold progValid; rw [h]; rfl

set_option maxRecDepth 100000 in
set_option maxHeartbeats 1600000 in
theorem ProgramValid_any (v : Value) (p : List (List Ins)) (w : World) (hp : RepP w v p) (hl : p.flatten.length ≤ 1048576) :
    Calls Try.prog 23 #[v] w fun e w' => e = .returned (.bool (progValid p)) ∧ Below w.heap.size w w' := by
  obtain ⟨a, c, rfl, hc1, hc2, hc3, hp⟩ := hp.open
  have HP := hide hp; clear hp
  have HL := hide hl; clear hl
  generalize hn : p.length = n at *
  have H := hide hn; clear hn
  by_cases h3 : 1 ≤ n ∧ n ≤ 3
  · have E : Hid (inB n 1 3 = true) := hide (by unfold inB; simp; omega)
    have h3' : (n : Int) ≤ 3 := by omega
    obtain ⟨_, h3n⟩ := h3
    go_enter Try.func23, Try.ntmps23
    go_wp2_with (go_at_call 26; (with_reducible refine (within_any _ _ _ _).mono ?_); rw [E.out]; rintro e w1 ⟨rfl, rfl⟩)
    go_loopw [3, 14] (fun r i wr => ∃ j : Nat, j ≤ n ∧ i = .int .i64 j ∧ r = .int .i64 (cnt notFence (p.take j) : Nat) ∧ Hid ((p.take j).all rowOk = true) ∧ Below w.heap.size w wr) (fun _ i _ => n - (intOf i).toNat)
    case atStart => exact ⟨0, by omega, rfl, by simp [cnt], hide (by simp), Below.refl _ _⟩
    case round =>
      obtain ⟨j, hj, rfl, rfl, hok, hb2⟩ := hrel
      by_cases hlt2 : j < n
      · obtain ⟨wm, rfl⟩ : ∃ wm : World, wm = wr := ⟨_, rfl⟩
        obtain ⟨x, hxk⟩ := get_of_lt (xs := p) (k := j) (by rw [H.out]; exact hlt2)
        obtain ⟨b, o, ra, rc, rfl, hbl, i0, i1⟩ := (HP.out.below hb2).row hxk
        have hlt2' := nat_of_lt hlt2
        obtain ⟨_, _, _, _, hr2, _, _⟩ := i1.open
        have CR := hide (cnt_take_succ notFence hxk)
        have hbR := Nat.le_trans (cnt_take_le notFence p j) HL.out
        have hxl := Nat.le_trans (row_le_flatten hxk) HL.out
        have I1 := hide i1; have X := hide hxk
        clear i1 hxk
        generalize hR : cnt notFence (p.take j) = R at *
        clear hR
        go_wp2_with fail
        go_loopw [3, 20] (fun r i wr => ∃ t : Nat, t ≤ x.length ∧ i = .int .i64 t ∧ r = .int .i64 (R + (x.take t).countP notFence : Nat) ∧ Hid ((x.take t).all insValid = true) ∧ Below wm.heap.size wm wr) (fun _ i _ => x.length - (intOf i).toNat)
        case atStart => exact ⟨0, by omega, rfl, by simp, hide (by simp), Below.refl _ _⟩
        case round =>
          obtain ⟨t, ht, rfl, rfl, hok2, hb3⟩ := hrel
          have hbR2 : (x.take t).countP notFence ≤ 1048576 := Nat.le_trans List.countP_le_length (by simp; omega)
          by_cases hlt3 : t < x.length
          · obtain ⟨y, hyk⟩ := get_of_lt (xs := x) (k := t) hlt3
            obtain ⟨b', o', rfl, hbl', j0, j1, j2, j3⟩ := (I1.out.below hb3).ins hyk
            have hlt3' := nat_of_lt hlt3
            have CR2 := hide (countP_take_succ notFence hyk)
            have Y := hide hyk; clear hyk
            generalize hR2 : (x.take t).countP notFence = R2 at *
            clear hR2
            generalize hv : insValid y = vv at *
            have V := hide hv; clear hv
            cases vv
            · have E2 : Hid (progValid p = false) := hide (progValid_no (by
                have := all_no X.out (row_no Y.out V.out)
                unfold shapeOk; simp [this]))
              go_wp2_with (go_at_call 47; (with_reducible refine (InstrValid_raw _ _ _ _ _).mono ?_); rw [V.out]; rintro e w3 ⟨rfl, hb4⟩)
              go_ret
              rw [E2.out]
              exact ⟨rfl, hb2.trans (((hb3.alloc hb3.size _).trans (hb4.mono (by have := hb3.size; simp; omega))).mono hb2.size)⟩
            · have OK3 := hide (all_take_succ hok2.out Y.out V.out)
              have CR3 : Hid ((x.take (t + 1)).countP notFence = R2 + if (y.op != 4) = true then 1 else 0) := CR2
              clear CR2
              by_cases h4 : y.op = 4
              · have g4 : (y.op != 4) = false := by simp [h4]
                have CR4 : Hid ((x.take (t + 1)).countP notFence = R2) := hide (by have h := CR3.out; rw [g4] at h; simpa using h)
                clear h4
                go_wp2_with (go_at_call 47; (with_reducible refine (InstrValid_raw _ _ _ _ _).mono ?_); rw [V.out]; rintro e w3 ⟨rfl, hb4⟩; obtain ⟨hc4, hf4⟩ := bcell hb4)
                go_roundw
                case rel => exact ⟨t + 1, by omega, by go_num, by rw [CR4.out]; simp, OK3, (hb3.alloc hb3.size _).trans (hb4.mono (by have := hb3.size; simp; omega))⟩
                case measure => simp [intOf]; omega
              · have g4 : (y.op != 4) = true := by simp [h4]
                have CR4 : Hid ((x.take (t + 1)).countP notFence = R2 + 1) := hide (by have h := CR3.out; rw [g4] at h; simpa using h)
                clear h4
                go_wp2_with (go_at_call 47; (with_reducible refine (InstrValid_raw _ _ _ _ _).mono ?_); rw [V.out]; rintro e w3 ⟨rfl, hb4⟩; obtain ⟨hc4, hf4⟩ := bcell hb4)
                go_roundw
                case rel => exact ⟨t + 1, by omega, by go_num, by rw [CR4.out]; simp; omega, OK3, (hb3.alloc hb3.size _).trans (hb4.mono (by have := hb3.size; simp; omega))⟩
                case measure => simp [intOf]; omega
          · by_cases h7 : 7 < x.length
            · have E2 : Hid (progValid p = false) := hide (progValid_no (by
                have := all_no X.out (by unfold rowOk; simp; omega)
                unfold shapeOk; simp [this]))
              have h7' : (7 : Int) < x.length := by omega
              go_wp2_with fail
              go_ret
              rw [E2.out]
              exact ⟨rfl, hb2.trans (hb3.mono hb2.size)⟩
            · have h7' : (x.length : Int) ≤ 7 := by omega
              have e : t = x.length := by omega
              have CR4 : Hid (cnt notFence (p.take (j + 1)) = R + (x.take t).countP notFence) := by have h := CR.out; rwa [e, List.take_length]
              have OK4 : Hid ((p.take (j + 1)).all rowOk = true) := hide (all_take_succ hok.out X.out (by
                have h := hok2.out
                rw [e, List.take_length] at h
                unfold rowOk
                rw [h]; simp; omega))
              generalize hR2 : (x.take t).countP notFence = R2 at *
              clear hR2 e
              go_wp2_with fail
              go_roundw
              case rel => exact ⟨j + 1, by omega, by go_num, by rw [CR4.out], OK4, hb2.trans (hb3.mono hb2.size)⟩
              case measure => simp [intOf]; omega
      · have e : j = n := by omega
        have hpt : p.take j = p := List.take_of_length_le (by rw [H.out]; omega)
        rw [hpt] at hok ⊢
        clear hpt
        have PV : Hid (progValid p = (decide (cnt notFence p ≤ 12) && decide (prodP p ≤ 3000))) := hide (by
          have hle : decide (n ≤ 3) = true := decide_eq_true (by omega)
          have hle2 : decide (1 ≤ n) = true := decide_eq_true (by omega)
          unfold progValid shapeOk; rw [hok.out, H.out, hle, hle2]; simp)
        have hcn := Nat.le_trans (cnt_le_flatten notFence p) HL.out
        have HE := hide (fun w' h => execs_any (.slice a n c) p w' h HL.out (by rw [H.out]; omega))
        have hcap := cap_le (prodP p)
        have HCP : Hid (decide (((cap (prodP p) : Nat) : Int) ≤ 3000) = decide (prodP p ≤ 3000)) := hide (by rw [Bool.eq_iff_iff]; simp only [decide_eq_true_eq]; unfold cap; omega)
        generalize hC : cap (prodP p) = C at *
        generalize hN : cnt notFence p = N at *
        clear hC hN
        by_cases h12 : N ≤ 12
        · have h12' : (N : Int) ≤ 12 := by omega
          go_wp2_with (go_at_call 48; (with_reducible refine (HE.out _ (HP.out.below hb2)).mono ?_); rintro e w1 ⟨rfl, hb1⟩)
          go_ret
          rw [PV.out, HCP.out]
          exact ⟨by rw [show decide (N ≤ 12) = true from decide_eq_true h12]; simp, hb2.trans (hb1.mono hb2.size)⟩
        · have h12' : decide ((N : Int) ≤ 12) = false := by simp; omega
          go_wp2_with fail
          go_ret
          rw [PV.out]
          exact ⟨by rw [show decide (N ≤ 12) = false from decide_eq_false h12]; simp, hb2⟩
  · have E : Hid (inB n 1 3 = false) := hide (by unfold inB; simp; omega)
    have E2 : Hid (progValid p = false) := hide (by unfold progValid shapeOk; rw [H.out]; simp; omega)
    go_enter Try.func23, Try.ntmps23
    go_wp2_with (go_at_call 26; (with_reducible refine (within_any _ _ _ _).mono ?_); rw [E.out]; rintro e w1 ⟨rfl, rfl⟩)
    go_ret
    rw [E2.out]
    exact ⟨rfl, Below.refl _ _⟩

end Go.Proofs.Ytpjebgiejkglpaa

namespace Go.Proofs.Ytpjebgiejkglpaa
open Go.RowKit

theorem eql_slice_nil (P : Program) (w : World) (t e : TypeId) (a : Option Addr) (n c n' c' : Nat) (h : P.underlying t = some (.slice e)) : (binOp .eql t (.slice a n c) (.slice none n' c')).run P w = .ok (.bool a.isNone) w := Lib.run_eql_slice_nil w t e a n c n' c' h

end Go.Proofs.Ytpjebgiejkglpaa

namespace Go.Proofs.Ytpjebgiejkglpaa
open Go.RowKit

end Go.Proofs.Ytpjebgiejkglpaa

namespace Go.Proofs.Ytpjebgiejkglpaa
open Go.RowKit

theorem Rep.gap {w : World} {a : Option Addr} {n c : Nat} {xs : List Gp} (h : Rep GapE w (.slice a n c) xs) {k : Nat} {x : Gp} (hx : xs[k]? = some x) :
    ∃ b o, a = some ⟨b, o, none⟩ ∧ b < w.heap.size ∧ w.cell? ⟨b, o + k * 2, none⟩ = some (.int .i64 x.t) ∧ w.cell? ⟨b, o + k * 2 + 1, none⟩ = some (.int .i64 x.i) := by
  obtain ⟨a', c', hv, _, _, h⟩ := h
  simp only [Value.slice.injEq] at hv
  obtain ⟨rfl, rfl, rfl⟩ := hv
  obtain ⟨b, o, rfl, h'⟩ := h k x hx
  exact ⟨b, o, rfl, lt_of_cell (h' 0 _ rfl), h' 0 _ rfl, h' 1 _ rfl⟩

theorem Own.gap {T : TypeId} {w : World} {base g n cap : Nat} {xs : List Gp} (h : Own GapE T w base (.slice (some ⟨g, 0, none⟩) n cap) xs) {k : Nat} {x : Gp} (hx : xs[k]? = some x) :
    g < w.heap.size ∧ w.cell? ⟨g, k * 2, none⟩ = some (.int .i64 x.t) ∧ w.cell? ⟨g, k * 2 + 1, none⟩ = some (.int .i64 x.i) ∧ ∀ j, w.frozen? ⟨g, j, none⟩ = false :=
  ⟨(World.ownsRow.lt h g rfl).2, h.cell hx (j := 0) rfl, h.cell hx (j := 1) rfl, fun j => h.frozen j⟩

theorem Own.setGap {T : TypeId} {w : World} {base g n cap : Nat} {xs : List Gp} (h : Own GapE T w base (.slice (some ⟨g, 0, none⟩) n cap) xs) {k : Nat} {z : Gp} (hz : xs[k]? = some z) (x : Gp) :
    Own GapE T ((w.setCell ⟨g, k * 2, none⟩ (.int .i64 x.t)).setCell ⟨g, k * 2 + 1, none⟩ (.int .i64 x.i)) base (.slice (some ⟨g, 0, none⟩) n cap) (xs.set k x) := by
  have h0 := h.set (i := k) (j := 0) ⟨x.t, z.i⟩ (u := .int .i64 x.t) (by decide) hz rfl
  have h1 := h0.set (i := k) (j := 1) x (u := .int .i64 x.i) (by decide) (get_set_self hz _) rfl
  simp only [List.set_set] at h1
  exact h1

/-- The gap whose fields are numbered from m on. -/
def markG (m : Int) : Gp := ⟨m, m + 1⟩
/-- So many gaps, numbered from m on. -/
def marksG : Nat → Int → List Gp
  | 0, _ => []
  | n + 1, m => markG m :: marksG n (m + 2)

theorem marksG_length (n : Nat) (m : Int) : (marksG n m).length = n := by
  induction n generalizing m with
  | zero => rfl
  | succ n ih => simp [marksG, ih]

theorem marksG_get (n : Nat) (m : Int) {k : Nat} (h : k < n) : (marksG n m)[k]? = some (markG (m + 2 * k)) := by
  induction n generalizing m k with
  | zero => omega
  | succ n ih =>
    cases k with
    | zero => simp [marksG]
    | succ k => simp only [marksG, List.getElem?_cons_succ]; rw [ih _ (by omega)]; congr 2; omega

/-- The first k marked, the rest as they were. -/
theorem marksG_step (xs : List Gp) (m : Int) {k : Nat} (hk : k < xs.length) : ((marksG k m) ++ xs.drop k).set k (markG (m + 2 * k)) = marksG (k + 1) m ++ xs.drop (k + 1) := by
  have h1 : marksG (k + 1) m = marksG k m ++ [markG (m + 2 * k)] := by
    apply List.ext_getElem?
    intro i
    by_cases hi : i < k
    · rw [marksG_get _ _ (by omega), List.getElem?_append_left (by rw [marksG_length]; exact hi), marksG_get _ _ hi]
    · by_cases hi2 : i = k
      · subst hi2
        rw [marksG_get _ _ (by omega), List.getElem?_append_right (by rw [marksG_length]; omega), marksG_length]; simp
      · rw [List.getElem?_eq_none (by rw [marksG_length]; omega), List.getElem?_eq_none (by simp [marksG_length]; omega)]
  rw [List.set_append_right _ _ (by rw [marksG_length]; omega), marksG_length, Nat.sub_self, List.drop_eq_getElem_cons hk, List.set_cons_zero, h1]
  simp

end Go.Proofs.Ytpjebgiejkglpaa

namespace Go.Proofs.Ytpjebgiejkglpaa
open Go.RowKit

/-- An event. -/
structure Ev where
  t : Int
  i : Int
  l : Int
  r : Bool
  w : Bool
deriving DecidableEq

def EvE : El Ev := ⟨5, by decide, fun x => [.int .i64 x.t, .int .i64 x.i, .int .i64 x.l, .bool x.r, .bool x.w], fun _ => rfl, fun x u h => by simp at h; rcases h with rfl | rfl | rfl | rfl | rfl <;> rfl⟩
theorem Rep.ev {w : World} {a : Option Addr} {n c : Nat} {xs : List Ev} (h : Rep EvE w (.slice a n c) xs) {k : Nat} {x : Ev} (hx : xs[k]? = some x) :
    ∃ b o, a = some ⟨b, o, none⟩ ∧ b < w.heap.size ∧ w.cell? ⟨b, o + k * 5, none⟩ = some (.int .i64 x.t) ∧ w.cell? ⟨b, o + k * 5 + 1, none⟩ = some (.int .i64 x.i) ∧
      w.cell? ⟨b, o + k * 5 + 2, none⟩ = some (.int .i64 x.l) ∧ w.cell? ⟨b, o + k * 5 + 3, none⟩ = some (.bool x.r) ∧ w.cell? ⟨b, o + k * 5 + 4, none⟩ = some (.bool x.w) := by
  obtain ⟨a', c', hv, _, _, h⟩ := h
  simp only [Value.slice.injEq] at hv
  obtain ⟨rfl, rfl, rfl⟩ := hv
  obtain ⟨b, o, rfl, h'⟩ := h k x hx
  exact ⟨b, o, rfl, lt_of_cell (h' 0 _ rfl), h' 0 _ rfl, h' 1 _ rfl, h' 2 _ rfl, h' 3 _ rfl, h' 4 _ rfl⟩

/-- One element is appended, at a step of a region that draws. -/
theorem step_app {α : Type} (E : El α) {P : Program} {w : World} {ops : Array Oper} {o : Oper} {a : Act} {K : Act → World → Prop} {Q : Exit → Act → World → Prop} {F : Prop}
    (T : TypeId) {zv : Value} {bytes : Nat} (hinfo : (P.info? T).map (fun i => (i.zero, i.size, i.bytes)) = some (some zv, E.sz, bytes)) (hz : zv.cells.size = E.sz) {t : TypeId} (h1 : P.underlying t = some (.slice T))
    (base : Nat) (v : Value) (xs : List α) (x : α) (hown : Own E T w base v xs) (hby : bytes ≤ 256) (hn : xs.length ≤ 68719476736) (hbase : base ≤ w.heap.size)
    (hg : o.guard = none) (s y : Operand) (hop : o.op = .call { callee := .builtin .append, args := #[s, y], argTypes := #[t, t] })
    (hs : a.eval s = v) (b off c : Nat) (hy : a.eval y = .slice (some ⟨b, off, none⟩) 1 c) (hnews : ∀ j u, (E.c x)[j]? = some u → w.cell? ⟨b, off + j, none⟩ = some u)
    (hK : ∀ v' w', Own E T w' base v' (xs ++ [x]) → w.grownBy w' v.ownBlock → K (a.put o.dst v') w') :
    if Region.wanted o (yielded ops a.tmps) = true then Oper.wp P o a w K Q else F := by
  obtain ⟨it, hi, hz0, hz1, hz2⟩ := info_parts hinfo
  refine step_append_lies w hg s y t hop base T it zv E.sz bytes h1 hi hz0 hz1 hz2 hz E.pos v xs.length _ hs hown ⟨b, off, none⟩ 1 c (E.c x) hy (by rw [E.len, Nat.one_mul]) ?_ (E.one x) (by omega) (by unfold maxLen; omega) ?_ hbase _ rfl ?_
  · intro j u hu
    have hadd : (⟨b, off, none⟩ : Addr).add j = ⟨b, off + j, none⟩ := by unfold Addr.add; split <;> simp_all
    rw [hadd]
    exact hnews j u hu
  · have := Nat.mul_le_mul (show xs.length + 1 ≤ 68719476737 by omega) hby
    omega
  · intro g cap w' h2 h3 _ _
    refine hK _ w' ?_ h3
    unfold Own
    simpa [List.flatMap_append] using h2

def evOf (t i : Nat) (x : Ins) : List Ev := if x.op = 4 then [] else [⟨t, i, x.loc, isRop x.op, isWop x.op⟩]
def evRow (t : Nat) (r : List Ins) (k : Nat) : List Ev := (List.range k).flatMap fun i => match r[i]? with
  | some x => evOf t i x
  | none => []
def evTo (p : List (List Ins)) (j : Nat) : List Ev := (List.range j).flatMap fun t => match p[t]? with
  | some r => evRow t r r.length
  | none => []
def evHead (k : Nat) : List Ev := (List.range k).map fun (l : Nat) => ⟨-1, l, l, false, true⟩
def evAll (p : List (List Ins)) : List Ev := evHead 3 ++ evTo p p.length

theorem evHead_succ (k : Nat) : evHead (k + 1) = evHead k ++ [⟨-1, k, k, false, true⟩] := by simp [evHead, List.range_succ]
theorem evHead_length (k : Nat) : (evHead k).length = k := by simp [evHead]
theorem evRow_succ {t : Nat} {r : List Ins} {k : Nat} {x : Ins} (h : r[k]? = some x) : evRow t r (k + 1) = evRow t r k ++ evOf t k x := by
  unfold evRow
  rw [List.range_succ, List.flatMap_append]
  simp [h]
theorem evTo_succ {p : List (List Ins)} {j : Nat} {r : List Ins} (h : p[j]? = some r) : evTo p (j + 1) = evTo p j ++ evRow j r r.length := by
  unfold evTo
  rw [List.range_succ, List.flatMap_append]
  simp [h]
theorem evOf_length (t i : Nat) (x : Ins) : (evOf t i x).length ≤ 1 := by unfold evOf; split <;> simp
theorem evRow_length (t : Nat) (r : List Ins) : ∀ k, (evRow t r k).length ≤ k := by
  intro k
  induction k with
  | zero => simp [evRow]
  | succ k ih =>
    unfold evRow at ih ⊢
    rw [List.range_succ, List.flatMap_append, List.length_append]
    have : ((List.flatMap (fun i => match r[i]? with
      | some x => evOf t i x
      | none => []) [k])).length ≤ 1 := by
      cases h : r[k]? with
      | none => simp [h]
      | some x => simp [h]; exact evOf_length t k x
    omega
theorem evTo_length (p : List (List Ins)) : ∀ j, j ≤ p.length → (evTo p j).length ≤ (p.take j).flatten.length := by
  intro j
  induction j with
  | zero => intro _; simp [evTo]
  | succ j ih =>
    intro hj
    obtain ⟨r, hr⟩ := get_of_lt (xs := p) (k := j) hj
    rw [evTo_succ hr, List.take_add_one, hr, List.flatten_append, List.length_append, List.length_append]
    have h1 := ih (by omega)
    have h2 := evRow_length j r r.length
    simp only [Option.toList_some, List.flatten_cons, List.flatten_nil, List.append_nil]
    omega
theorem evAll_length (p : List (List Ins)) : (evAll p).length ≤ 3 + p.flatten.length := by
  unfold evAll
  have := evTo_length p p.length (Nat.le_refl _)
  rw [List.take_length] at this
  rw [List.length_append, evHead_length]; omega

end Go.Proofs.Ytpjebgiejkglpaa

namespace Go.Proofs.Ytpjebgiejkglpaa
open Go.RowKit

/-- What the function value does, wherever it is called. -/
def TestsN_i_OutcomeValid_1 (f : Int → Bool) : Prop := ∀ (x : Int) (w : World), Calls Try.prog 25 #[.int .i64 x] w fun e w' => e = .returned (.bool (f x)) ∧ Below w.heap.size w w'

set_option maxHeartbeats 400000 in
theorem IndexFuncN_i_OutcomeValid_1 (v : Value) (xs : List Int) (f : Int → Bool) (w : World) (hx : Rep IntE w v xs) (hf : TestsN_i_OutcomeValid_1 f) :
    Calls Try.prog 49 #[v, .func (.func 25) #[] #[]] w fun e w' => (∃ q : Int, e = .returned (.int .i64 q) ∧ IdxOf f xs q) ∧ Below w.heap.size w w' := by
  obtain ⟨a, c, rfl, hc1, hc2, hc3, hx⟩ := hx.open
  have HX := hide hx; clear hx
  have HF := hide hf; clear hf
  generalize hn : xs.length = n at *
  have H := hide hn; clear hn
  go_enter Try.func49, Try.ntmps49
  go_wp2_with fail
  go_loopw [8] (fun i wr => ∃ t : Nat, t ≤ n ∧ i = .int .i64 t ∧ Hid (∀ x ∈ xs.take t, f x = false) ∧ Below w.heap.size w wr) (fun i _ => n - (intOf i).toNat)
  case atStart => exact ⟨0, Nat.zero_le _, rfl, hide (by simp), Below.refl _ _⟩
  case round =>
    obtain ⟨t, ht, rfl, hno, hb⟩ := hrel
    by_cases hlt : t < n
    · obtain ⟨x, hxk⟩ := get_of_lt (xs := xs) (k := t) (by rw [H.out]; exact hlt)
      obtain ⟨b, o, rfl, hbl, i0⟩ := (HX.out.below hb).int hxk
      have hlt' := nat_of_lt hlt
      have X := hide hxk; clear hxk
      generalize hfx : f x = fx
      have FX := hide hfx; clear hfx
      have hcall := HF.out x
      rw [FX.out] at hcall
      have HC := hide hcall; clear hcall
      cases fx
      · have NO : Hid (∀ x ∈ xs.take (t + 1), f x = false) := hide (none_succ hno.out X.out FX.out)
        go_wp2_with fail
        (with_reducible refine (HC.out _).mono ?_); rintro e w2 ⟨rfl, hb2⟩
        go_wp2_with fail
        go_roundw
        case rel => exact ⟨t + 1, by omega, by go_num, NO, hb.trans (hb2.mono hb.size)⟩
        case measure => simp [intOf]; omega
      · go_wp2_with fail
        (with_reducible refine (HC.out _).mono ?_); rintro e w2 ⟨rfl, hb2⟩
        go_wp2_with fail
        go_ret
        exact ⟨⟨_, rfl, .inr ⟨t, x, rfl, X.out, FX.out, hno.out⟩⟩, hb.trans (hb2.mono hb.size)⟩
    · go_wp2_with fail
      go_ret
      refine ⟨⟨_, rfl, .inl ⟨rfl, ?_⟩⟩, hb⟩
      have h := hno.out
      rwa [List.take_of_length_le (by rw [H.out]; omega)] at h

theorem ContainsFuncN_i_OutcomeValid_1 (v : Value) (xs : List Int) (f : Int → Bool) (w : World) (hx : Rep IntE w v xs) (hf : TestsN_i_OutcomeValid_1 f) :
    Calls Try.prog 24 #[v, .func (.func 25) #[] #[]] w fun e w' => e = .returned (.bool (xs.any f)) ∧ Below w.heap.size w w' := by
  have HI := hide (IndexFuncN_i_OutcomeValid_1 v xs f w hx hf)
  obtain ⟨a, c, rfl, -⟩ := hx.open
  clear hx hf
  go_enter Try.func24, Try.ntmps24
  go_wp2_with fail
  (with_reducible refine HI.out.mono ?_); rintro e w1 ⟨⟨q, rfl, hq⟩, hb1⟩
  have E : Hid (decide (0 ≤ q) = xs.any f) := hide hq.any
  clear hq
  go_wp2_with fail
  go_ret
  exact ⟨by rw [← E.out]; rfl, hb1⟩

theorem OutcomeValid_1 : TestsN_i_OutcomeValid_1 (fun x => !inB x 0 3) := by
  intro x w
  have HC := hide (fun w' => within_any x 0 3 w')
  show Calls _ _ _ _ fun e w' => e = .returned (.bool (!inB x 0 3)) ∧ _
  generalize inB x 0 3 = R at *
  go_enter Try.func25, Try.ntmps25
  go_wp2_with (go_at_call 26; (with_reducible refine (HC.out _).mono ?_); rintro e w1 ⟨rfl, rfl⟩)
  go_ret
  exact ⟨rfl, Below.refl _ _⟩

def outValid (p : List (List Ins)) (o : List Int) : Bool := progValid p && (decide (o.length = 3 * p.length + 3) && o.all fun x => inB x 0 3)

set_option maxHeartbeats 800000 in
theorem OutcomeValid_any (v v' : Value) (p : List (List Ins)) (o : List Int) (w : World) (hp : RepP w v p) (ho : Rep IntE w v' o) (hl : p.flatten.length ≤ 1048576) (hpl : p.length ≤ 1048576) :
    Calls Try.prog 9 #[v, v'] w fun e w' => e = .returned (.bool (outValid p o)) ∧ Below w.heap.size w w' := by
  have HP := hide hp; have HO := hide ho
  have HV := hide (ProgramValid_any v p w hp hl)
  have HC := hide (fun w' h => ContainsFuncN_i_OutcomeValid_1 v' o _ w' h OutcomeValid_1)
  obtain ⟨a, c, rfl, hc1, hc2, hc3, -⟩ := hp.open
  obtain ⟨a', c', rfl, hc1', hc2', hc3', -⟩ := ho.open
  have E : Hid (outValid p o = (progValid p && (decide (o.length = 3 * p.length + 3) && o.all fun x => inB x 0 3))) := hide rfl
  have EA : Hid ((o.any fun x => !inB x 0 3) = !(o.all fun x => inB x 0 3)) := hide (by rw [List.not_all_eq_any_not])
  clear hp ho
  generalize outValid p o = R at *
  generalize progValid p = b at *
  generalize (o.any fun x => !inB x 0 3) = A at *
  generalize (o.all fun x => inB x 0 3) = D at *
  generalize p.length = n at *
  generalize o.length = m at *
  cases b
  · obtain rfl : R = false := by rw [E.out]; rfl
    go_enter Try.func9, Try.ntmps9
    go_wp2_with fail
    (with_reducible refine HV.out.mono ?_); rintro e w1 ⟨rfl, hb1⟩
    go_wp2_with fail
    go_ret
    exact ⟨rfl, hb1⟩
  · by_cases hm : m = 3 * n + 3
    · have E2 : Hid (R = !A) := hide (by rw [E.out, EA.out, hm]; simp)
      have hm' : ((m : Int) == 3 * (n : Int) + 2 + 1) = true := by simp; omega
      clear hm
      go_enter Try.func9, Try.ntmps9
      go_wp2_with fail
      (with_reducible refine HV.out.mono ?_); rintro e w1 ⟨rfl, hb1⟩
      go_wp2_with fail
      (with_reducible refine (HC.out _ (HO.out.below hb1)).mono ?_); rintro e w2 ⟨rfl, hb2⟩
      go_wp2_with fail
      go_ret
      exact ⟨by rw [E2.out]; rfl, hb1.trans (hb2.mono hb1.size)⟩
    · obtain rfl : R = false := by rw [E.out]; simp [hm]
      have hm' : ((m : Int) == 3 * (n : Int) + 2 + 1) = false := by simp; omega
      clear hm
      go_enter Try.func9, Try.ntmps9
      go_wp2_with fail
      (with_reducible refine HV.out.mono ?_); rintro e w1 ⟨rfl, hb1⟩
      go_wp2_with fail
      go_ret
      exact ⟨rfl, hb1⟩

theorem l3Size_any (a : Option Addr) (n c : Nat) (w : World) (hn : n ≤ 1048576) : Calls Try.prog 42 #[.slice a n c] w fun e w' => e = .returned (.int .i64 (3 * n + 3)) ∧ w = w' := by
  go_enter Try.func42, Try.ntmps42
  go_wp2_with fail
  go_ret
  refine ⟨congrArg Ending.returned (congrArg (Value.int .i64) ?_), rfl⟩
  omega

set_option maxHeartbeats 800000 in
theorem sOutcomeValid_any (v v' : Value) (p : List (List Ins)) (o : List Int) (w : World) (hp : RepP w v p) (ho : Rep IntE w v' o) (hl : p.flatten.length ≤ 1048576) (hpl : p.length ≤ 1048576) :
    Calls Try.prog 20 #[v, v'] w fun e w' => e = .returned (.bool (outValid p o)) ∧ Below w.heap.size w w' := by
  have HP := hide hp; have HO := hide ho
  have HV := hide (sProgramValid_any v p w hp hl hpl)
  obtain ⟨a, c, rfl, hc1, hc2, hc3, -⟩ := hp.open
  obtain ⟨a', c', rfl, hc1', hc2', hc3', -⟩ := ho.open
  have E : Hid (outValid p o = (progValid p && (decide (o.length = 3 * p.length + 3) && o.all fun x => inB x 0 3))) := hide rfl
  have HZ := hide (fun w' => l3Size_any a p.length c w' hpl)
  clear hp ho
  generalize outValid p o = R at *
  generalize progValid p = b at *
  generalize p.length = n at *
  generalize hm : o.length = m at *
  have H := hide hm; clear hm
  cases b
  · obtain rfl : R = false := by rw [E.out]; rfl
    go_enter Try.func20, Try.ntmps20
    go_wp2_with fail
    (with_reducible refine HV.out.mono ?_); rintro e w1 ⟨rfl, hb1⟩
    go_wp2_with fail
    go_ret
    exact ⟨rfl, hb1⟩
  · by_cases hm : m = 3 * n + 3
    · have E2 : Hid (R = o.all fun x => inB x 0 3) := hide (by rw [E.out, hm]; simp)
      have hm' : ((m : Int) != 3 * (n : Int) + 3) = false := by simp; omega
      clear hm
      go_enter Try.func20, Try.ntmps20
      go_wp2_with fail
      (with_reducible refine HV.out.mono ?_); rintro e w1 ⟨rfl, hb1⟩
      go_wp2_with fail
      (with_reducible refine (HZ.out _).mono ?_); rintro e w2 ⟨rfl, rfl⟩
      go_wp2_with fail
      clear hm'
      go_loopw [5] (fun i wr => ∃ t : Nat, t ≤ m ∧ i = .int .i64 t ∧ Hid (∀ x ∈ o.take t, inB x 0 3 = true) ∧ Below w.heap.size w wr) (fun i _ => m - (intOf i).toNat)
      case atStart => exact ⟨0, Nat.zero_le _, rfl, hide (by simp), hb1⟩
      case round =>
        obtain ⟨t, ht, rfl, hno, hb⟩ := hrel
        by_cases hlt : t < m
        · obtain ⟨x, hxk⟩ := get_of_lt (xs := o) (k := t) (by rw [H.out]; exact hlt)
          obtain ⟨b, o1, rfl, hbl, i0⟩ := (HO.out.below hb).int hxk
          have hlt' := nat_of_lt hlt
          have X := hide hxk; clear hxk
          have HC := hide (fun w' => l1In_any x 3 w')
          generalize hfx : inB x 0 3 = fx at *
          have FX := hide hfx; clear hfx
          cases fx
          · obtain rfl : R = false := by
              rw [E2.out, List.all_eq_false]
              exact ⟨x, List.mem_of_getElem? X.out, by rw [FX.out]; simp⟩
            go_wp2_with fail
            (with_reducible refine (HC.out _).mono ?_); rintro e w2 ⟨rfl, rfl⟩
            go_wp2_with fail
            go_ret
            exact ⟨rfl, hb⟩
          · have NO : Hid (∀ x ∈ o.take (t + 1), inB x 0 3 = true) := hide (by
              intro y hy
              rw [List.take_add_one, X.out] at hy
              simp at hy
              rcases hy with hy | rfl
              · exact hno.out y hy
              · exact FX.out)
            go_wp2_with fail
            (with_reducible refine (HC.out _).mono ?_); rintro e w2 ⟨rfl, rfl⟩
            go_wp2_with fail
            go_roundw
            case rel => exact ⟨t + 1, by omega, by go_num, NO, hb⟩
            case measure => simp [intOf]; omega
        · obtain rfl : R = true := by
            rw [E2.out, List.all_eq_true]
            have h := hno.out
            rwa [List.take_of_length_le (by rw [H.out]; omega)] at h
          go_wp2_with fail
          go_ret
          exact ⟨rfl, hb⟩
    · obtain rfl : R = false := by rw [E.out]; simp [hm]
      have hm' : ((m : Int) != 3 * (n : Int) + 3) = true := by simp; omega
      clear hm
      go_enter Try.func20, Try.ntmps20
      go_wp2_with fail
      (with_reducible refine HV.out.mono ?_); rintro e w1 ⟨rfl, hb1⟩
      go_wp2_with fail
      (with_reducible refine (HZ.out _).mono ?_); rintro e w2 ⟨rfl, rfl⟩
      go_wp2_with fail
      go_ret
      exact ⟨rfl, hb1⟩

end Go.Proofs.Ytpjebgiejkglpaa
