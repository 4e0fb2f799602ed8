/-
  The gaps of a program, as the program and the reference find them.
-/
import Derived.Test.YtpbmlppdmdmfkaaGreatDoorZd03
import Derived.Test.YtpbmlppdmdmfkaaGreatDoorZd02
namespace Go.Proofs.YtpbmlppdmdmfkaaGreatDoor
open Go.RowKit

theorem sInstrValid_raw (a b c d : Int) (w : World) : Calls Tryz.prog 219 #[.agg #[.int .i64 a, .int .i64 b, .int .i64 c, .int .i64 d]] w fun e w' => e = .returned (.bool (insValid ⟨a, b, c, d⟩)) ∧ Below w.heap.size w w' := sInstrValid_any ⟨a, b, c, d⟩ w
theorem InstrValid_raw (a b c d : Int) (w : World) : Calls Tryz.prog 65 #[.agg #[.int .i64 a, .int .i64 b, .int .i64 c, .int .i64 d]] w fun e w' => e = .returned (.bool (insValid ⟨a, b, c, d⟩)) ∧ Below w.heap.size w w' := InstrValid_any ⟨a, b, c, d⟩ w

set_option maxRecDepth 100000 in
set_option maxHeartbeats 1600000 in
theorem l1Shape_any (v : Value) (p : List (List Ins)) (w : World) (hp : RepP w v p) (hl : p.flatten.length ≤ 1048576) :
    Calls Tryz.prog 140 #[v] w fun e w' => e = .returned (.bool (shapeOk p)) ∧ Below w.heap.size w w' := by
  obtain ⟨a, c, rfl, hc1, hc2, hc3, hp⟩ := hp.open
  have HP := hide hp; clear hp
  have HL := hide hl; clear hl
  generalize hn : p.length = n at *
  have H := hide hn; clear hn
  by_cases h3 : 3 < n
  · have E : Hid (shapeOk p = false) := hide (by unfold shapeOk; rw [H.out]; simp; omega)
    have h3' : (3 : Int) < n := by omega
    go_enter Tryz.func140, Tryz.ntmps140
    go_wp2_with fail
    go_ret
    rw [E.out]
    exact ⟨rfl, Below.refl _ _⟩
  · have h3' : (n : Int) ≤ 3 := by omega
    go_enter Tryz.func140, Tryz.ntmps140
    go_wp2_with fail
    go_loopw [3, 4] (fun r i wr => ∃ j : Nat, j ≤ n ∧ i = .int .i64 j ∧ r = .int .i64 (cnt notFence (p.take j) : Nat) ∧ Hid ((p.take j).all rowOk = true) ∧ Below w.heap.size w wr) (fun _ i _ => n - (intOf i).toNat)
    case atStart => exact ⟨0, by omega, rfl, by simp [cnt], hide (by simp), Below.refl _ _⟩
    case round =>
      obtain ⟨j, hj, rfl, rfl, hok, hb2⟩ := hrel
      by_cases hlt2 : j < n
      · obtain ⟨wm, rfl⟩ : ∃ wm : World, wm = wr := ⟨_, rfl⟩
        obtain ⟨x, hxk⟩ := get_of_lt (xs := p) (k := j) (by rw [H.out]; exact hlt2)
        obtain ⟨b, o, ra, rc, rfl, hbl, i0, i1⟩ := (HP.out.below hb2).row hxk
        have hlt2' := nat_of_lt hlt2
        obtain ⟨_, _, _, _, hr2, _, _⟩ := i1.open
        have CR := hide (cnt_take_succ notFence hxk)
        have hbR := Nat.le_trans (cnt_take_le notFence p j) HL.out
        have hxl := Nat.le_trans (row_le_flatten hxk) HL.out
        have I1 := hide i1; have X := hide hxk
        clear i1 hxk
        generalize hR : cnt notFence (p.take j) = R at *
        clear hR
        by_cases h7 : 7 < x.length
        · have E : Hid (shapeOk p = false) := hide (by
            have := all_no X.out (by unfold rowOk; simp; omega)
            unfold shapeOk; simp [this])
          have h7' : (7 : Int) < x.length := by omega
          go_wp2_with fail
          go_ret
          rw [E.out]
          exact ⟨rfl, hb2⟩
        · have h7' : (x.length : Int) ≤ 7 := by omega
          go_wp2_with fail
          go_loopw [3, 5] (fun r i wr => ∃ t : Nat, t ≤ x.length ∧ i = .int .i64 t ∧ r = .int .i64 (R + (x.take t).countP notFence : Nat) ∧ Hid ((x.take t).all insValid = true) ∧ Below wm.heap.size wm wr) (fun _ i _ => x.length - (intOf i).toNat)
          case atStart => exact ⟨0, by omega, rfl, by simp, hide (by simp), Below.refl _ _⟩
          case round =>
            obtain ⟨t, ht, rfl, rfl, hok2, hb3⟩ := hrel
            have hbR2 : (x.take t).countP notFence ≤ 1048576 := Nat.le_trans List.countP_le_length (by simp; omega)
            have i0' : wr.cell? ⟨b, o + j, none⟩ = some (.slice ra x.length rc) := (hb3.cell (p := ⟨b, o + j, none⟩) hbl).trans i0
            by_cases hlt3 : t < x.length
            · obtain ⟨y, hyk⟩ := get_of_lt (xs := x) (k := t) hlt3
              obtain ⟨b', o', rfl, hbl', j0, j1, j2, j3⟩ := (I1.out.below hb3).ins hyk
              have hlt3' := nat_of_lt hlt3
              have CR2 := hide (countP_take_succ notFence hyk)
              have Y := hide hyk; clear hyk
              have hbl2 : b < wr.heap.size := by have := hb3.size; omega
              generalize hR2 : (x.take t).countP notFence = R2 at *
              clear hR2
              generalize hv : insValid y = vv at *
              have V := hide hv; clear hv
              cases vv
              · have E : Hid (shapeOk p = false) := hide (by
                  have := all_no X.out (row_no Y.out V.out)
                  unfold shapeOk; simp [this])
                go_wp2_with (go_at_call 219; (with_reducible refine (sInstrValid_raw _ _ _ _ _).mono ?_); rw [V.out]; rintro e w3 ⟨rfl, hb4⟩)
                go_ret
                rw [E.out]
                exact ⟨rfl, hb2.trans ((hb3.trans (hb4.mono hb3.size)).mono hb2.size)⟩
              · have OK3 := hide (all_take_succ hok2.out Y.out V.out)
                have CR3 : Hid ((x.take (t + 1)).countP notFence = R2 + if (y.op != 4) = true then 1 else 0) := CR2
                clear CR2
                by_cases h4 : y.op = 4
                · have g4 : (y.op != 4) = false := by simp [h4]
                  have CR4 : Hid ((x.take (t + 1)).countP notFence = R2) := hide (by have h := CR3.out; rw [g4] at h; simpa using h)
                  clear h4
                  go_wp2_with (go_at_call 219; (with_reducible refine (sInstrValid_raw _ _ _ _ _).mono ?_); rw [V.out]; rintro e w3 ⟨rfl, hb4⟩; obtain ⟨hc4, hf4⟩ := bcell hb4)
                  go_roundw
                  case rel => exact ⟨t + 1, by omega, by go_num, by rw [CR4.out]; simp, OK3, hb3.trans (hb4.mono hb3.size)⟩
                  case measure => simp [intOf]; omega
                · have g4 : (y.op != 4) = true := by simp [h4]
                  have CR4 : Hid ((x.take (t + 1)).countP notFence = R2 + 1) := hide (by have h := CR3.out; rw [g4] at h; simpa using h)
                  clear h4
                  go_wp2_with (go_at_call 219; (with_reducible refine (sInstrValid_raw _ _ _ _ _).mono ?_); rw [V.out]; rintro e w3 ⟨rfl, hb4⟩; obtain ⟨hc4, hf4⟩ := bcell hb4)
                  go_roundw
                  case rel => exact ⟨t + 1, by omega, by go_num, by rw [CR4.out]; simp; omega, OK3, hb3.trans (hb4.mono hb3.size)⟩
                  case measure => simp [intOf]; omega
            · have e : t = x.length := by omega
              have CR4 : Hid (cnt notFence (p.take (j + 1)) = R + (x.take t).countP notFence) := by have h := CR.out; rwa [e, List.take_length]
              have OK4 : Hid ((p.take (j + 1)).all rowOk = true) := hide (all_take_succ hok.out X.out (by
                have h := hok2.out
                rw [e, List.take_length] at h
                unfold rowOk
                rw [h]; simp; omega))
              generalize hR2 : (x.take t).countP notFence = R2 at *
              clear hR2 e
              go_wp2_with fail
              go_roundw
              case rel => exact ⟨j + 1, by omega, by go_num, by rw [CR4.out], OK4, hb2.trans (hb3.mono hb2.size)⟩
              case measure => simp [intOf]; omega
      · have e : j = n := by omega
        have hpt : p.take j = p := List.take_of_length_le (by rw [H.out]; omega)
        rw [hpt] at hok ⊢
        clear hpt
        have E : Hid (shapeOk p = decide ((cnt notFence p : Int) ≤ 12)) := hide (by
          have hle : decide (n ≤ 3) = true := decide_eq_true (by omega)
          unfold shapeOk; rw [hok.out, H.out, hle, Bool.eq_iff_iff]; simp; omega)
        go_wp2_with fail
        go_ret
        rw [E.out]
        exact ⟨rfl, hb2⟩

set_option maxHeartbeats 800000 in
theorem sProgramValid_any (v : Value) (p : List (List Ins)) (w : World) (hp : RepP w v p) (hl : p.flatten.length ≤ 1048576) (hpl : p.length ≤ 1048576) :
    Calls Tryz.prog 62 #[v] w fun e w' => e = .returned (.bool (progValid p)) ∧ Below w.heap.size w w' := by
  have PV : Hid (progValid p = (shapeOk p && decide (1 ≤ p.length) && decide (prodP p ≤ 3000))) := hide rfl
  have HL := hide hl; clear hl
  obtain ⟨a, c, hv, hc1, hc2, hc3, _⟩ := hp.open
  have HP := hide hp; clear hp
  have HV := hide hv
  subst hv
  generalize hn : p.length = n at *
  have H := hide hn; clear hn
  have HS := hide (fun w' h => l1Shape_any (.slice a n c) p w' h HL.out)
  generalize hs : shapeOk p = s at *
  have S := hide hs; clear hs
  cases s
  · go_enter Tryz.func62, Tryz.ntmps62
    go_wp2_with (go_at_call 140; (with_reducible refine (HS.out _ HP.out).mono ?_); rintro e w1 ⟨rfl, hb1⟩)
    go_ret
    rw [PV.out]
    exact ⟨rfl, hb1⟩
  · by_cases h0 : 0 < n
    · have h0' : (0 : Int) < n := by omega
      have HE := hide (fun w' h => l1Execs_any (.slice a n c) p w' h HL.out (by rw [H.out]; omega))
      have hcap := cap_le (prodP p)
      have HCP : Hid (decide (((cap (prodP p) : Nat) : Int) ≤ 3000) = decide (prodP p ≤ 3000)) := hide (by rw [Bool.eq_iff_iff]; simp only [decide_eq_true_eq]; unfold cap; omega)
      generalize hC : cap (prodP p) = C at *
      clear hC
      go_enter Tryz.func62, Tryz.ntmps62
      go_wp2_with (first | (go_at_call 140; (with_reducible refine (HS.out _ HP.out).mono ?_); rintro e w1 ⟨rfl, hb1⟩) | (go_at_call 141; (with_reducible refine (HE.out _ (HP.out.below hb1)).mono ?_); rintro e w2 ⟨rfl, hb2⟩))
      go_ret
      rw [PV.out, HCP.out]
      exact ⟨by rw [show decide (1 ≤ n) = true from decide_eq_true h0]; simp, hb1.trans (hb2.mono hb1.size)⟩
    · have h0' : decide ((0 : Int) < n) = false := by simp; omega
      go_enter Tryz.func62, Tryz.ntmps62
      go_wp2_with (go_at_call 140; (with_reducible refine (HS.out _ HP.out).mono ?_); rintro e w1 ⟨rfl, hb1⟩)
      go_ret
      rw [PV.out]
      exact ⟨by rw [show decide (1 ≤ n) = false from decide_eq_false (by omega)]; simp, hb1⟩

theorem progValid_no {p : List (List Ins)} (h : shapeOk p = false) : progValid p = false := by unfold progValid; rw [h]; rfl

set_option maxRecDepth 100000 in
set_option maxHeartbeats 1600000 in
theorem ProgramValid_any (v : Value) (p : List (List Ins)) (w : World) (hp : RepP w v p) (hl : p.flatten.length ≤ 1048576) :
    Calls Tryz.prog 16 #[v] w fun e w' => e = .returned (.bool (progValid p)) ∧ Below w.heap.size w w' := by
  obtain ⟨a, c, rfl, hc1, hc2, hc3, hp⟩ := hp.open
  have HP := hide hp; clear hp
  have HL := hide hl; clear hl
  generalize hn : p.length = n at *
  have H := hide hn; clear hn
  by_cases h3 : 1 ≤ n ∧ n ≤ 3
  · have E : Hid (inB n 1 3 = true) := hide (by unfold inB; simp; omega)
    have h3' : (n : Int) ≤ 3 := by omega
    obtain ⟨_, h3n⟩ := h3
    go_enter Tryz.func16, Tryz.ntmps16
    go_wp2_with (go_at_call 64; (with_reducible refine (within_any _ _ _ _).mono ?_); rw [E.out]; rintro e w1 ⟨rfl, rfl⟩)
    go_loopw [3, 14] (fun r i wr => ∃ j : Nat, j ≤ n ∧ i = .int .i64 j ∧ r = .int .i64 (cnt notFence (p.take j) : Nat) ∧ Hid ((p.take j).all rowOk = true) ∧ Below w.heap.size w wr) (fun _ i _ => n - (intOf i).toNat)
    case atStart => exact ⟨0, by omega, rfl, by simp [cnt], hide (by simp), Below.refl _ _⟩
    case round =>
      obtain ⟨j, hj, rfl, rfl, hok, hb2⟩ := hrel
      by_cases hlt2 : j < n
      · obtain ⟨wm, rfl⟩ : ∃ wm : World, wm = wr := ⟨_, rfl⟩
        obtain ⟨x, hxk⟩ := get_of_lt (xs := p) (k := j) (by rw [H.out]; exact hlt2)
        obtain ⟨b, o, ra, rc, rfl, hbl, i0, i1⟩ := (HP.out.below hb2).row hxk
        have hlt2' := nat_of_lt hlt2
        obtain ⟨_, _, _, _, hr2, _, _⟩ := i1.open
        have CR := hide (cnt_take_succ notFence hxk)
        have hbR := Nat.le_trans (cnt_take_le notFence p j) HL.out
        have hxl := Nat.le_trans (row_le_flatten hxk) HL.out
        have I1 := hide i1; have X := hide hxk
        clear i1 hxk
        generalize hR : cnt notFence (p.take j) = R at *
        clear hR
        go_wp2_with fail
        go_loopw [3, 20] (fun r i wr => ∃ t : Nat, t ≤ x.length ∧ i = .int .i64 t ∧ r = .int .i64 (R + (x.take t).countP notFence : Nat) ∧ Hid ((x.take t).all insValid = true) ∧ Below wm.heap.size wm wr) (fun _ i _ => x.length - (intOf i).toNat)
        case atStart => exact ⟨0, by omega, rfl, by simp, hide (by simp), Below.refl _ _⟩
        case round =>
          obtain ⟨t, ht, rfl, rfl, hok2, hb3⟩ := hrel
          have hbR2 : (x.take t).countP notFence ≤ 1048576 := Nat.le_trans List.countP_le_length (by simp; omega)
          by_cases hlt3 : t < x.length
          · obtain ⟨y, hyk⟩ := get_of_lt (xs := x) (k := t) hlt3
            obtain ⟨b', o', rfl, hbl', j0, j1, j2, j3⟩ := (I1.out.below hb3).ins hyk
            have hlt3' := nat_of_lt hlt3
            have CR2 := hide (countP_take_succ notFence hyk)
            have Y := hide hyk; clear hyk
            generalize hR2 : (x.take t).countP notFence = R2 at *
            clear hR2
            generalize hv : insValid y = vv at *
            have V := hide hv; clear hv
            cases vv
            · have E2 : Hid (progValid p = false) := hide (progValid_no (by
                have := all_no X.out (row_no Y.out V.out)
                unfold shapeOk; simp [this]))
              go_wp2_with (go_at_call 65; (with_reducible refine (InstrValid_raw _ _ _ _ _).mono ?_); rw [V.out]; rintro e w3 ⟨rfl, hb4⟩)
              go_ret
              rw [E2.out]
              exact ⟨rfl, hb2.trans (((hb3.alloc hb3.size _).trans (hb4.mono (by have := hb3.size; simp; omega))).mono hb2.size)⟩
            · have OK3 := hide (all_take_succ hok2.out Y.out V.out)
              have CR3 : Hid ((x.take (t + 1)).countP notFence = R2 + if (y.op != 4) = true then 1 else 0) := CR2
              clear CR2
              by_cases h4 : y.op = 4
              · have g4 : (y.op != 4) = false := by simp [h4]
                have CR4 : Hid ((x.take (t + 1)).countP notFence = R2) := hide (by have h := CR3.out; rw [g4] at h; simpa using h)
                clear h4
                go_wp2_with (go_at_call 65; (with_reducible refine (InstrValid_raw _ _ _ _ _).mono ?_); rw [V.out]; rintro e w3 ⟨rfl, hb4⟩; obtain ⟨hc4, hf4⟩ := bcell hb4)
                go_roundw
                case rel => exact ⟨t + 1, by omega, by go_num, by rw [CR4.out]; simp, OK3, (hb3.alloc hb3.size _).trans (hb4.mono (by have := hb3.size; simp; omega))⟩
                case measure => simp [intOf]; omega
              · have g4 : (y.op != 4) = true := by simp [h4]
                have CR4 : Hid ((x.take (t + 1)).countP notFence = R2 + 1) := hide (by have h := CR3.out; rw [g4] at h; simpa using h)
                clear h4
                go_wp2_with (go_at_call 65; (with_reducible refine (InstrValid_raw _ _ _ _ _).mono ?_); rw [V.out]; rintro e w3 ⟨rfl, hb4⟩; obtain ⟨hc4, hf4⟩ := bcell hb4)
                go_roundw
                case rel => exact ⟨t + 1, by omega, by go_num, by rw [CR4.out]; simp; omega, OK3, (hb3.alloc hb3.size _).trans (hb4.mono (by have := hb3.size; simp; omega))⟩
                case measure => simp [intOf]; omega
          · by_cases h7 : 7 < x.length
            · have E2 : Hid (progValid p = false) := hide (progValid_no (by
                have := all_no X.out (by unfold rowOk; simp; omega)
                unfold shapeOk; simp [this]))
              have h7' : (7 : Int) < x.length := by omega
              go_wp2_with fail
              go_ret
              rw [E2.out]
              exact ⟨rfl, hb2.trans (hb3.mono hb2.size)⟩
            · have h7' : (x.length : Int) ≤ 7 := by omega
              have e : t = x.length := by omega
              have CR4 : Hid (cnt notFence (p.take (j + 1)) = R + (x.take t).countP notFence) := by have h := CR.out; rwa [e, List.take_length]
              have OK4 : Hid ((p.take (j + 1)).all rowOk = true) := hide (all_take_succ hok.out X.out (by
                have h := hok2.out
                rw [e, List.take_length] at h
                unfold rowOk
                rw [h]; simp; omega))
              generalize hR2 : (x.take t).countP notFence = R2 at *
              clear hR2 e
              go_wp2_with fail
              go_roundw
              case rel => exact ⟨j + 1, by omega, by go_num, by rw [CR4.out], OK4, hb2.trans (hb3.mono hb2.size)⟩
              case measure => simp [intOf]; omega
      · have e : j = n := by omega
        have hpt : p.take j = p := List.take_of_length_le (by rw [H.out]; omega)
        rw [hpt] at hok ⊢
        clear hpt
        have PV : Hid (progValid p = (decide (cnt notFence p ≤ 12) && decide (prodP p ≤ 3000))) := hide (by
          have hle : decide (n ≤ 3) = true := decide_eq_true (by omega)
          have hle2 : decide (1 ≤ n) = true := decide_eq_true (by omega)
          unfold progValid shapeOk; rw [hok.out, H.out, hle, hle2]; simp)
        have hcn := Nat.le_trans (cnt_le_flatten notFence p) HL.out
        have HE := hide (fun w' h => execs_any (.slice a n c) p w' h HL.out (by rw [H.out]; omega))
        have hcap := cap_le (prodP p)
        have HCP : Hid (decide (((cap (prodP p) : Nat) : Int) ≤ 3000) = decide (prodP p ≤ 3000)) := hide (by rw [Bool.eq_iff_iff]; simp only [decide_eq_true_eq]; unfold cap; omega)
        generalize hC : cap (prodP p) = C at *
        generalize hN : cnt notFence p = N at *
        clear hC hN
        by_cases h12 : N ≤ 12
        · have h12' : (N : Int) ≤ 12 := by omega
          go_wp2_with (go_at_call 66; (with_reducible refine (HE.out _ (HP.out.below hb2)).mono ?_); rintro e w1 ⟨rfl, hb1⟩)
          go_ret
          rw [PV.out, HCP.out]
          exact ⟨by rw [show decide (N ≤ 12) = true from decide_eq_true h12]; simp, hb2.trans (hb1.mono hb2.size)⟩
        · have h12' : decide ((N : Int) ≤ 12) = false := by simp; omega
          go_wp2_with fail
          go_ret
          rw [PV.out]
          exact ⟨by rw [show decide (N ≤ 12) = false from decide_eq_false h12]; simp, hb2⟩
  · have E : Hid (inB n 1 3 = false) := hide (by unfold inB; simp; omega)
    have E2 : Hid (progValid p = false) := hide (by unfold progValid shapeOk; rw [H.out]; simp; omega)
    go_enter Tryz.func16, Tryz.ntmps16
    go_wp2_with (go_at_call 64; (with_reducible refine (within_any _ _ _ _).mono ?_); rw [E.out]; rintro e w1 ⟨rfl, rfl⟩)
    go_ret
    rw [E2.out]
    exact ⟨rfl, Below.refl _ _⟩

end Go.Proofs.YtpbmlppdmdmfkaaGreatDoor

namespace Go.Proofs.YtpbmlppdmdmfkaaGreatDoor
open Go.RowKit

theorem eql_slice_nil (P : Program) (w : World) (t e : TypeId) (a : Option Addr) (n c n' c' : Nat) (h : P.underlying t = some (.slice e)) : (binOp .eql t (.slice a n c) (.slice none n' c')).run P w = .ok (.bool a.isNone) w := Lib.run_eql_slice_nil w t e a n c n' c' h

set_option maxHeartbeats 400000 in
theorem CloneI_any (v : Value) (xs : List Ins) (w : World) (hx : Rep InsE w v xs) (hl : xs.length ≤ 1048576) :
    Calls Tryz.prog 208 #[v] w (RetOwn InsE 84 w xs) := by
  obtain ⟨a, c, rfl, hc1, hc2, hc3, hx⟩ := hx.open
  have HX := hide hx; clear hx
  have hlen : ([] : List Ins).length + xs.length ≤ 68719476736 := by simp; omega
  generalize hn : xs.length = n at *
  have H := hide hn; clear hn
  cases a with
  | none =>
    have hE := fun w' : World => eql_slice_nil Tryz.prog w' 82 84 none n c 0 0 Tryz.underlying82
    have hxs : Hid (xs = []) := hide (by
      cases xs with
      | nil => rfl
      | cons y ys => obtain ⟨b, o, hb, _⟩ := HX.out.ins (k := 0) rfl; cases hb)
    go_enter Tryz.func208, Tryz.ntmps208
    go_wp2_with fail
    go_ret
    rw [hxs.out]
    exact ⟨_, rfl, Own.nil _ _ _, Below.refl _ _⟩
  | some ad =>
    have hE := fun w' : World => eql_slice_nil Tryz.prog w' 82 84 (some ad) n c 0 0 Tryz.underlying82
    go_enter Tryz.func208, Tryz.ntmps208
    go_wp2_with (at_builtin; refine wpList_appS InsE 84 Tryz.infoIns rfl Tryz.underlying82 w.heap.size _ [] xs _ (Own.empty _ w (Nat.le_refl _)) (HX.out.below ((Below.refl _ _).alloc (Nat.le_refl _) _)) (by decide) (by rw [H.out]; exact hlen) (by simp) rfl _ _ rfl rfl rfl ?_; intro v' w1 hown1 hgr1)
    go_ret
    exact ⟨_, rfl, by simpa using hown1, ((Below.refl _ _).alloc (Nat.le_refl _) _).grown hgr1 (by simp) (fun k hk => by simp [Value.ownBlock] at hk; omega)⟩

set_option maxHeartbeats 400000 in
theorem cloneProgram_any (v : Value) (xs : List (List Ins)) (w : World) (hx : RepP w v xs) (hl : xs.length ≤ 1048576) (hl2 : ∀ r ∈ xs, r.length ≤ 1048576) :
    Calls Tryz.prog 116 #[v] w (RetOwn2 InsE 82 84 w xs) := by
  obtain ⟨a, c, rfl, hc1, hc2, hc3, hx⟩ := hx.open
  have HX := hide hx; clear hx
  have HL2 := hide hl2; clear hl2
  generalize hn : xs.length = n at *
  have H := hide hn; clear hn
  go_enter Tryz.func116, Tryz.ntmps116
  go_wp2_with (at_make; refine wpList_make SlcE 82 ⟨none, 0, 0⟩ Tryz.infoInsS rfl Tryz.underlying23 n (by decide) (by omega) rfl _ _ rfl rfl rfl ?_; intro w1 hown hgr)
  have hb1 := below_of_grown hgr
  go_loopw [11] (fun i wr => ∃ k : Nat, k ≤ n ∧ i = .int .i64 k ∧ OwnP wr w.heap.size (.slice (some ⟨w.heap.size, 0, none⟩) n n) (xs.take k ++ List.replicate (n - k) []) ∧ Below w.heap.size w wr) (fun i _ => n - (intOf i).toNat)
  case atStart => exact ⟨0, Nat.zero_le _, rfl, by simpa using Own2.made hown, hb1⟩
  case round =>
    obtain ⟨k, hk, rfl, ho, hb⟩ := hrel
    by_cases hlt : k < n
    · obtain ⟨x, hxk⟩ := get_of_lt (xs := xs) (k := k) (by rw [H.out]; exact hlt)
      obtain ⟨b, o, ra, rc, rfl, hbl, i0, i1⟩ := (HX.out.below hb).row hxk
      have hlt' := nat_of_lt hlt
      have hxl : x.length ≤ 1048576 := HL2.out x (List.mem_of_getElem? hxk)
      have X := hide hxk; clear hxk
      have I1 := hide i1; clear i1
      go_wp2_with (go_at_call 208; (with_reducible refine (CloneI_any _ x _ I1.out hxl).mono ?_); rintro e w2 ⟨u, rfl, hu, hb2⟩; obtain ⟨s, rfl, -⟩ := hu.toSlc; obtain ⟨hgl, ⟨_, f0⟩, hfr⟩ := (ho.below hb2).cellAt (k := k) (by rw [← H.out, length_pad _ _ (by rw [H.out]; omega), H.out]; exact hlt))
      have ho2 := ho.put hb2 hb.size (k := k) (by rw [← H.out, length_pad _ _ (by rw [H.out]; omega), H.out]; exact hlt) hu
      rw [← H.out, set_pad xs _ X.out, H.out] at ho2
      go_roundw
      case rel => exact ⟨k + 1, by omega, by go_num, ho2, (hb.trans (hb2.mono hb.size)).setCell (Nat.le_refl _) _⟩
      case measure => simp [intOf]; omega
    · go_wp2_with fail
      go_ret
      rw [← H.out, pad_all xs _ (by rw [H.out]; omega), H.out] at ho
      exact ⟨_, rfl, ho, hb⟩

set_option maxHeartbeats 800000 in
theorem l1Copy_any (v : Value) (xs : List (List Ins)) (w : World) (hx : RepP w v xs) (hl : xs.length ≤ 1048576) (hl2 : ∀ r ∈ xs, r.length ≤ 1048576) :
    Calls Tryz.prog 183 #[v] w (RetOwn2 InsE 82 84 w xs) := by
  obtain ⟨a, c, rfl, hc1, hc2, hc3, hx⟩ := hx.open
  have HX := hide hx; clear hx
  have HL2 := hide hl2; clear hl2
  generalize hn : xs.length = n at *
  have H := hide hn; clear hn
  go_enter Tryz.func183, Tryz.ntmps183
  go_wp2_with fail
  go_loopw [3, 4] (fun s i wr => ∃ k : Nat, k ≤ n ∧ i = .int .i64 k ∧ OwnP wr w.heap.size s (xs.take k) ∧ Below w.heap.size w wr) (fun _ i _ => n - (intOf i).toNat)
  case atStart => exact ⟨0, Nat.zero_le _, rfl, by simpa using Own2.empty _ _ w (Nat.le_refl _), (Below.refl _ _).alloc (Nat.le_refl _) _⟩
  case round =>
    obtain ⟨k, hk, rfl, ho, hb⟩ := hrel
    by_cases hlt : k < n
    · obtain ⟨x, hxk⟩ := get_of_lt (xs := xs) (k := k) (by rw [H.out]; exact hlt)
      obtain ⟨b, o, ra, rc, rfl, hbl, i0, i1⟩ := (HX.out.below hb).row hxk
      have hlt' := nat_of_lt hlt
      have hxl : x.length ≤ 1048576 := HL2.out x (List.mem_of_getElem? hxk)
      have htk : (xs.take k).length ≤ 1048576 := by simp; omega
      have TS : Hid (xs.take (k + 1) = xs.take k ++ [x]) := hide (by rw [List.take_add_one, hxk]; rfl)
      have X := hide hxk; clear hxk
      have I1 := hide i1; clear i1
      generalize hT : xs.take k = T at *
      clear hT
      have hlen : ([] : List Ins).length + x.length ≤ 68719476736 := by simp; omega
      have hbx := (Below.refl wr.heap.size wr).alloc (Nat.le_refl _) (.cells #[] 84)
      have HBX := hide hbx; clear hbx
      obtain ⟨us, hU, -⟩ := ho.told
      have HU := hide hU; clear hU
      have hub : us.length ≤ 68719476736 := by have := HU.out.1; omega
      go_wp2_with (first | (at_builtin; refine wpList_appS InsE 84 Tryz.infoIns rfl Tryz.underlying82 wr.heap.size _ [] x _ (Own.empty _ wr (Nat.le_refl _)) (I1.out.below HBX.out) (by decide) hlen (by simp) rfl (.tmp 13) (.tmp 17) rfl rfl rfl ?_; intro u w2 hown1 hgr1; obtain ⟨s, rfl, -⟩ := Own.toSlc hown1; have hb2 := HBX.out.grown hgr1 (by simp) (fun k hk => by simp [Value.ownBlock] at hk; omega)) | (at_builtin; refine wpList_app SlcE 82 Tryz.infoInsS rfl Tryz.underlying23 w.heap.size _ us s ((HU.out.2.1.below hb2).alloc _) (by decide) hub (by simp; have := hb.size; have := hb2.size; omega) rfl (.tmp 12) (.tmp 19) rfl rfl w2.heap.size 0 1 rfl news_alloc ?_; intro v' w3 hown3 hgr3))
      have hown1' : OwnI w2 wr.heap.size s.v x := by simpa using hown1
      have ho2 := (HU.out).app (by decide) (hb2.trans ((Below.refl _ _).alloc hb2.size _)) hb.size (hown1'.alloc _) hown3 hgr3
      rw [← TS.out] at ho2
      have hb3 := below_app (hb.trans (hb2.mono hb.size)) (HU.out.2.1.below hb2) hgr3
      go_roundw
      case rel => exact ⟨k + 1, by omega, by go_num, ho2, hb3⟩
      case measure => simp [intOf]; omega
    · go_wp2_with fail
      go_ret
      rw [List.take_of_length_le (by rw [H.out]; omega)] at ho
      exact ⟨_, rfl, ho, hb⟩

end Go.Proofs.YtpbmlppdmdmfkaaGreatDoor

namespace Go.Proofs.YtpbmlppdmdmfkaaGreatDoor
open Go.RowKit

theorem Tryz.infoStr : (Tryz.prog.info? 9).map (fun i => (i.zero, i.size, i.bytes)) = some (some (.string ⟨#[]⟩), 1, 16) := by kernel_rfl

/-- Texts. -/
def StrE : El ByteArray := ⟨1, by decide, fun x => [.string x], fun _ => rfl, fun x u h => by simp at h; subst h; rfl⟩

theorem Rep.str {w : World} {a : Option Addr} {n c : Nat} {xs : List ByteArray} (h : Rep StrE w (.slice a n c) xs) {k : Nat} {x : ByteArray} (hx : xs[k]? = some x) :
    ∃ b o, a = some ⟨b, o, none⟩ ∧ b < w.heap.size ∧ w.cell? ⟨b, o + k, none⟩ = some (.string x) := by
  obtain ⟨a', c', hv, _, _, h⟩ := h
  simp only [Value.slice.injEq] at hv
  obtain ⟨rfl, rfl, rfl⟩ := hv
  obtain ⟨b, o, rfl, h'⟩ := h k x hx
  have := h' 0 _ rfl
  simp only [StrE, Nat.mul_one, Nat.add_zero] at this
  exact ⟨b, o, rfl, lt_of_cell this, this⟩

/-- Byte i. -/
def byteAt (s : ByteArray) (i : Int) : Int := if h : 0 ≤ i ∧ i < s.size then ((s[i.toNat]'(by omega)).toNat : Int) else 0

/-- The value of a letter or a digit, or -1. -/
def placeV (s : ByteArray) (i f m : Int) : Int :=
  if i ≥ s.size then -1 else if byteAt s i < f then -1 else if byteAt s i - f > m then -1 else byteAt s i - f

theorem l1Place_any (s : ByteArray) (i f m : Int) (w : World) (h0 : 0 ≤ i) (hf : 0 ≤ f) (hf2 : f ≤ 255) :
    Calls Tryz.prog 286 #[.string s, .int .i64 i, .int .u8 f, .int .i64 m] w fun e w' => e = .returned (.int .i64 (placeV s i f m)) ∧ Below w.heap.size w w' := by
  by_cases hi : i < s.size
  · have hi1 : decide (i ≥ (s.size : Int)) = false := decide_eq_false (by omega)
    have hii : 0 ≤ i ∧ i < s.size := ⟨h0, hi⟩
    have hg : i.toNat < s.size := by omega
    have hP : placeV s i f m = if ((s[i.toNat]'hg).toNat : Int) < f then -1 else if ((s[i.toNat]'hg).toNat : Int) - f > m then -1 else ((s[i.toNat]'hg).toNat : Int) - f := by
      unfold placeV byteAt
      rw [if_neg (by omega), dif_pos hii]
    rw [hP]
    have hu : ((s[i.toNat]'hg).toNat : Int) ≤ 255 := by have := (s[i.toNat]'hg).toNat_lt; omega
    by_cases h1 : ((s[i.toNat]'hg).toNat : Int) < f
    · rw [if_pos h1]
      clear hP
      go_enter Tryz.func286, Tryz.ntmps286
      go_wp2_with fail
      go_ret
      exact ⟨rfl, Below.refl _ _⟩
    · have h1' : decide (((s[i.toNat]'hg).toNat : Int) < f) = false := decide_eq_false h1
      rw [if_neg h1]
      clear hP
      by_cases h2 : ((s[i.toNat]'hg).toNat : Int) - f > m
      · rw [if_pos h2]
        go_enter Tryz.func286, Tryz.ntmps286
        go_wp2_with fail
        go_ret
        exact ⟨rfl, Below.refl _ _⟩
      · have h2' : decide (((s[i.toNat]'hg).toNat : Int) - f > m) = false := decide_eq_false h2
        rw [if_neg h2]
        go_enter Tryz.func286, Tryz.ntmps286
        go_wp2_with fail
        go_ret
        exact ⟨rfl, Below.refl _ _⟩
  · have hi1 : decide (i ≥ (s.size : Int)) = true := decide_eq_true (by omega)
    have hP : placeV s i f m = -1 := by unfold placeV; rw [if_pos (by omega)]
    rw [hP]
    go_enter Tryz.func286, Tryz.ntmps286
    go_wp2_with fail
    go_ret
    exact ⟨rfl, Below.refl _ _⟩

/-- Some texts, in memory that the call made. -/
def RetStrs (w : World) (n m : Nat) (e : Ending) (w' : World) : Prop := ∃ v xs, e = .returned v ∧ Own StrE 9 w' w.heap.size v xs ∧ Below w.heap.size w w' ∧ xs.length ≤ n ∧ ∀ x ∈ xs, x.size ≤ m

set_option maxRecDepth 100000 in
set_option maxHeartbeats 800000 in
theorem l17Cut_any (s : ByteArray) (c : Int) (w : World) (hs : s.size ≤ 1000) :
    Calls Tryz.prog 244 #[.string s, .int .u8 c] w (RetStrs w (s.size + 1) s.size) := by
  go_enter Tryz.func244, Tryz.ntmps244
  go_wp2_with fail
  go_loopw [5, 6, 7] (fun v f i wr => ∃ (k fr : Nat) (xs : List ByteArray), i = .int .i64 k ∧ f = .int .i64 fr ∧ fr ≤ k ∧ k ≤ s.size + 1 ∧ Own StrE 9 wr w.heap.size v xs ∧ Below w.heap.size w wr ∧ xs.length ≤ k ∧ ∀ x ∈ xs, x.size ≤ s.size) (fun _ _ i _ => s.size + 1 - (intOf i).toNat)
  case atStart => exact ⟨0, 0, [], rfl, rfl, by omega, by omega, Own.empty _ w (Nat.le_refl _), (Below.refl _ _).alloc (Nat.le_refl _) _, by simp, by simp⟩
  case round =>
    obtain ⟨k, fr, xs, rfl, rfl, hfk, hk, ho, hb, hxl, hxs⟩ := hrel
    by_cases hlt : k ≤ s.size
    · have hlt' : (k : Int) ≤ s.size := by omega
      have HX := hide hxs
      have hlen : xs.length ≤ 68719476736 := by omega
      clear hxs
      by_cases hz : k = s.size
      · subst hz
        go_wp2_with (at_builtin; refine wpList_app StrE 9 Tryz.infoStr rfl Tryz.underlying70 w.heap.size _ xs (s.extract fr s.size) (ho.alloc _) (by decide) hlen (by simp; have := hb.size; omega) rfl _ _ rfl rfl _ 0 1 rfl news_alloc ?_; intro v' w1 ho1 hgr1)
        have hb1 := below_app hb ho hgr1
        go_roundw
        case rel => exact ⟨s.size + 1, s.size + 1, xs ++ [s.extract fr s.size], by go_num, by go_num, by omega, by omega, ho1, hb1, by simp; omega, fun x hx => by
          rcases List.mem_append.1 hx with h | h
          · exact HX.out x h
          · rw [List.mem_singleton.1 h, ByteArray.size_extract]; omega⟩
        case measure => simp [intOf]
      · have hz' : ((k : Int) == (s.size : Int)) = false := by simp; omega
        have hks : k < s.size := by omega
        have hki : 0 ≤ (k : Int) ∧ (k : Int) < s.size := by omega
        clear hz
        by_cases hc : ((s[k]'hks).toNat : Int) = c
        · have hc' : (((s[k]'hks).toNat : Int) == c) = true := by simp [hc]
          clear hc
          go_wp2_with (at_builtin; refine wpList_app StrE 9 Tryz.infoStr rfl Tryz.underlying70 w.heap.size _ xs (s.extract fr k) (ho.alloc _) (by decide) hlen (by simp; have := hb.size; omega) rfl _ _ rfl rfl _ 0 1 rfl news_alloc ?_; intro v' w1 ho1 hgr1)
          have hb1 := below_app hb ho hgr1
          go_roundw
          case rel => exact ⟨k + 1, k + 1, xs ++ [s.extract fr k], by go_num, by go_num, by omega, by omega, ho1, hb1, by simp; omega, fun x hx => by
            rcases List.mem_append.1 hx with h | h
            · exact HX.out x h
            · rw [List.mem_singleton.1 h, ByteArray.size_extract]; omega⟩
          case measure => simp [intOf]; omega

        · have hc' : (((s[k]'hks).toNat : Int) == c) = false := by simp [hc]
          clear hc
          go_wp2_with fail
          go_roundw
          case rel => exact ⟨k + 1, fr, xs, by go_num, rfl, by omega, by omega, ho, hb, by omega, HX.out⟩
          case measure => simp [intOf]; omega
    · have hlt' : ¬ (k : Int) ≤ s.size := by omega
      go_wp2_with fail
      go_ret
      exact ⟨_, xs, rfl, ho, hb, by omega, hxs⟩

/-- A variable that holds an instruction: its cells, and that they may be written. -/
structure BoxI (w : World) (g : Nat) (a b c d : Int) : Prop where
  lt : g < w.heap.size
  c0 : w.cell? ⟨g, 0, none⟩ = some (.int .i64 a)
  c1 : w.cell? ⟨g, 1, none⟩ = some (.int .i64 b)
  c2 : w.cell? ⟨g, 2, none⟩ = some (.int .i64 c)
  c3 : w.cell? ⟨g, 3, none⟩ = some (.int .i64 d)
  f : ∀ j, w.frozen? ⟨g, j, none⟩ = false

theorem BoxI.keep {w w' : World} {g : Nat} {a b c d : Int} (h : BoxI w g a b c d) (hb : w'.heap[g]? = w.heap[g]?) (hs : w.heap.size ≤ w'.heap.size) : BoxI w' g a b c d :=
  ⟨Nat.lt_of_lt_of_le h.lt hs, (cell_of_block hb _).trans h.c0, (cell_of_block hb _).trans h.c1, (cell_of_block hb _).trans h.c2, (cell_of_block hb _).trans h.c3, fun j => by
    have := h.f j
    unfold World.frozen? at this ⊢
    rw [hb]; exact this⟩
theorem BoxI.below {w w' : World} {g : Nat} {a b c d : Int} (h : BoxI w g a b c d) {B : Nat} (ho : Below B w w') (hg : g < B) : BoxI w' g a b c d := h.keep (ho.block g hg) ho.size
theorem BoxI.outside {b' : Nat} {w w' : World} {g : Nat} {a b c d : Int} (h : BoxI w g a b c d) (ho : Outside b' (b' + 1) w w') (hg : g ≠ b') : BoxI w' g a b c d := h.keep (ho.block g h.lt (by omega)) ho.size
theorem BoxI.new (w : World) (a b c d : Int) (T : TypeId) : BoxI (w.alloc (.cells #[.int .i64 a, .int .i64 b, .int .i64 c, .int .i64 d] T)) w.heap.size a b c d :=
  ⟨by simp, by simp [go_sem], by simp [go_sem], by simp [go_sem], by simp [go_sem], fun j => by simp [go_sem]⟩

theorem l1Place_c (s : ByteArray) (i f m : Int) (h0 : 0 ≤ i) (hf : 0 ≤ f) (hf2 : f ≤ 255) : ∃ x, placeV s i f m = x ∧ ∀ w, Calls Tryz.prog 286 #[.string s, .int .i64 i, .int .u8 f, .int .i64 m] w fun e w' => e = .returned (.int .i64 x) ∧ Below w.heap.size w w' :=
  ⟨_, rfl, fun w => l1Place_any s i f m w h0 hf hf2⟩

/-- The instruction that a text is read as. -/
def parseI (s : ByteArray) : Ins :=
  if (s.toList == [102, 101, 110, 99, 101]) = true then ⟨4, 0, 0, 0⟩
  else if placeV s 0 97 2 ≥ 0 ∧ (s.size : Int) = 3 then ⟨1, placeV s 2 120 2, placeV s 0 97 2, 0⟩
  else if placeV s 0 97 2 ≥ 0 ∧ (s.size : Int) = 5 then ⟨5, placeV s 2 120 2, placeV s 0 97 2, placeV s 4 48 3⟩
  else if placeV s 0 120 2 ≥ 0 ∧ placeV s 2 97 2 ≥ 0 then ⟨3, placeV s 0 120 2, placeV s 2 97 2, 0⟩
  else ⟨2, placeV s 0 120 2, 0, placeV s 2 48 3⟩

set_option maxRecDepth 100000 in
set_option maxHeartbeats 1600000 in
theorem l1Parse_any (s : ByteArray) (w : World) : Calls Tryz.prog 245 #[.string s] w fun e w' => e = .returned (.agg #[.int .i64 (parseI s).op, .int .i64 (parseI s).loc, .int .i64 (parseI s).reg, .int .i64 (parseI s).val]) ∧ Below w.heap.size w w' := by
  by_cases hf : (s.toList == [102, 101, 110, 99, 101]) = true
  · have e : parseI s = ⟨4, 0, 0, 0⟩ := by unfold parseI; rw [if_pos hf]
    rw [e]
    clear e
    go_enter Tryz.func245, Tryz.ntmps245
    go_wp2_with fail
    refine bodyPost_ret (v := .agg #[.int .i64 4, .int .i64 0, .int .i64 0, .int .i64 0]) (by simp [results, Tryz.results245, go_sem, *]) rfl ⟨rfl, ?_⟩
    exact belowAlloc w _
  · obtain ⟨R, eR, CR⟩ := l1Place_c s 0 97 2 (by omega) (by omega) (by omega)
    obtain ⟨L, eL, CL⟩ := l1Place_c s 0 120 2 (by omega) (by omega) (by omega)
    obtain ⟨L2, eL2, CL2⟩ := l1Place_c s 2 120 2 (by omega) (by omega) (by omega)
    obtain ⟨R2, eR2, CR2⟩ := l1Place_c s 2 97 2 (by omega) (by omega) (by omega)
    obtain ⟨V2, eV2, CV2⟩ := l1Place_c s 2 48 3 (by omega) (by omega) (by omega)
    obtain ⟨V4, eV4, CV4⟩ := l1Place_c s 4 48 3 (by omega) (by omega) (by omega)
    have HI : Hid (parseI s = if R ≥ 0 ∧ (s.size : Int) = 3 then ⟨1, L2, R, 0⟩ else if R ≥ 0 ∧ (s.size : Int) = 5 then ⟨5, L2, R, V4⟩ else if L ≥ 0 ∧ R2 ≥ 0 then ⟨3, L, R2, 0⟩ else ⟨2, L, 0, V2⟩) := hide (by
      unfold parseI; rw [if_neg hf, eR, eL, eL2, eR2, eV2, eV4])
    clear eR eL eL2 eR2 eV2 eV4
    have hf' : (s.toList == [102, 101, 110, 99, 101]) = false := by simpa using hf
    clear hf
    have CR := hide CR; have CL := hide CL; have CL2 := hide CL2; have CR2 := hide CR2; have CV2 := hide CV2; have CV4 := hide CV4
    generalize parseI s = I at *
    have BI0 := hide (BoxI.new w 0 0 0 0 84)
    have HB0 := hide (belowAlloc w (.cells #[.int .i64 0, .int .i64 0, .int .i64 0, .int .i64 0] 84))
    go_enter Tryz.func245, Tryz.ntmps245
    go_wp2_with fail
    (with_reducible refine (CR.out _).mono ?_); rintro e w1 ⟨rfl, hb1⟩
    have BI1 := hide (BI0.out.below hb1 BI0.out.lt); have HB1 := hide (HB0.out.trans (hb1.mono HB0.out.size))
    clear BI0 HB0 hb1
    go_wp2_with fail
    (with_reducible refine (CL.out _).mono ?_); rintro e w2 ⟨rfl, hb2⟩
    have BI2 := hide (BI1.out.below hb2 BI1.out.lt); have HB2 := hide (HB1.out.trans (hb2.mono HB1.out.size))
    clear BI1 HB1 hb2
    by_cases h1 : R ≥ 0
    · by_cases h2 : (s.size : Int) = 3
      · have h2' : ((s.size : Int) == 3) = true := by simp [h2]
        have HI : Hid (I = ⟨1, L2, R, 0⟩) := hide (by rw [HI.out, if_pos ⟨h1, h2⟩])
        clear h2
        go_wp2_with fail
        (with_reducible refine (CL2.out _).mono ?_); rintro e w3 ⟨rfl, hb3⟩
        have BI3 := hide (BI2.out.below hb3 BI2.out.lt); have HB3 := hide (HB2.out.trans (hb3.mono HB2.out.size))
        clear BI2 HB2 hb3
        obtain ⟨lt3, i0, i1, i2, i3, if'⟩ := BI3.out
        go_wp2_with fail
        refine bodyPost_ret (v := .agg #[.int .i64 1, .int .i64 L2, .int .i64 R, .int .i64 0]) (by simp [results, Tryz.results245, go_sem, *]) rfl ⟨by rw [HI.out], ?_⟩
        exact ((((HB3.out.setCell (Nat.le_refl _) _).setCell (Nat.le_refl _) _).setCell (Nat.le_refl _) _).setCell (Nat.le_refl _) _)
      · have h2' : ((s.size : Int) == 3) = false := by simp [h2]
        by_cases h3 : (s.size : Int) = 5
        · have h3' : ((s.size : Int) == 5) = true := by simp [h3]
          have HI : Hid (I = ⟨5, L2, R, V4⟩) := hide (by rw [HI.out, if_neg (fun h => h2 h.2), if_pos ⟨h1, h3⟩])
          clear h2 h3
          go_wp2_with fail
          (with_reducible refine (CL2.out _).mono ?_); rintro e w3 ⟨rfl, hb3⟩
          have BI3 := hide (BI2.out.below hb3 BI2.out.lt); have HB3 := hide (HB2.out.trans (hb3.mono HB2.out.size))
          clear BI2 HB2 hb3
          go_wp2_with fail
          (with_reducible refine (CV4.out _).mono ?_); rintro e w4 ⟨rfl, hb4⟩
          have BI4 := hide (BI3.out.below hb4 BI3.out.lt); have HB4 := hide (HB3.out.trans (hb4.mono HB3.out.size))
          clear BI3 HB3 hb4
          obtain ⟨lt4, i0, i1, i2, i3, if'⟩ := BI4.out
          go_wp2_with fail
          refine bodyPost_ret (v := .agg #[.int .i64 5, .int .i64 L2, .int .i64 R, .int .i64 V4]) (by simp [results, Tryz.results245, go_sem, *]) rfl ⟨by rw [HI.out], ?_⟩
          exact ((((HB4.out.setCell (Nat.le_refl _) _).setCell (Nat.le_refl _) _).setCell (Nat.le_refl _) _).setCell (Nat.le_refl _) _)
        · have h3' : ((s.size : Int) == 5) = false := by simp [h3]
          have HI : Hid (I = if L ≥ 0 ∧ R2 ≥ 0 then ⟨3, L, R2, 0⟩ else ⟨2, L, 0, V2⟩) := hide (by rw [HI.out, if_neg (fun h => h2 h.2), if_neg (fun h => h3 h.2)])
          clear h2 h3
          by_cases h4 : L ≥ 0
          · go_wp2_with fail
            (with_reducible refine (CR2.out _).mono ?_); rintro e w3 ⟨rfl, hb3⟩
            have BI3 := hide (BI2.out.below hb3 BI2.out.lt); have HB3 := hide (HB2.out.trans (hb3.mono HB2.out.size))
            clear BI2 HB2 hb3
            by_cases h5 : R2 ≥ 0
            · have HI : Hid (I = ⟨3, L, R2, 0⟩) := hide (by rw [HI.out, if_pos ⟨h4, h5⟩])
              go_wp2_with fail
              (with_reducible refine (CR2.out _).mono ?_); rintro e w4 ⟨rfl, hb4⟩
              have BI4 := hide (BI3.out.below hb4 BI3.out.lt); have HB4 := hide (HB3.out.trans (hb4.mono HB3.out.size))
              clear BI3 HB3 hb4
              obtain ⟨lt4, i0, i1, i2, i3, if'⟩ := BI4.out
              go_wp2_with fail
              refine bodyPost_ret (v := .agg #[.int .i64 3, .int .i64 L, .int .i64 R2, .int .i64 0]) (by simp [results, Tryz.results245, go_sem, *]) rfl ⟨by rw [HI.out], ?_⟩
              exact ((((HB4.out.setCell (Nat.le_refl _) _).setCell (Nat.le_refl _) _).setCell (Nat.le_refl _) _).setCell (Nat.le_refl _) _)
            · have h5' : decide (R2 ≥ 0) = false := decide_eq_false h5
              have HI : Hid (I = ⟨2, L, 0, V2⟩) := hide (by rw [HI.out, if_neg (fun h => h5 h.2)])
              clear h5
              go_wp2_with fail
              (with_reducible refine (CV2.out _).mono ?_); rintro e w4 ⟨rfl, hb4⟩
              have BI4 := hide (BI3.out.below hb4 BI3.out.lt); have HB4 := hide (HB3.out.trans (hb4.mono HB3.out.size))
              clear BI3 HB3 hb4
              obtain ⟨lt4, i0, i1, i2, i3, if'⟩ := BI4.out
              go_wp2_with fail
              refine bodyPost_ret (v := .agg #[.int .i64 2, .int .i64 L, .int .i64 0, .int .i64 V2]) (by simp [results, Tryz.results245, go_sem, *]) rfl ⟨by rw [HI.out], ?_⟩
              exact ((((HB4.out.setCell (Nat.le_refl _) _).setCell (Nat.le_refl _) _).setCell (Nat.le_refl _) _).setCell (Nat.le_refl _) _)
          · have h4' : decide (L ≥ 0) = false := decide_eq_false h4
            have HI : Hid (I = ⟨2, L, 0, V2⟩) := hide (by rw [HI.out, if_neg (fun h => h4 h.1)])
            clear h4
            go_wp2_with fail
            (with_reducible refine (CV2.out _).mono ?_); rintro e w3 ⟨rfl, hb3⟩
            have BI3 := hide (BI2.out.below hb3 BI2.out.lt); have HB3 := hide (HB2.out.trans (hb3.mono HB2.out.size))
            clear BI2 HB2 hb3
            obtain ⟨lt3, i0, i1, i2, i3, if'⟩ := BI3.out
            go_wp2_with fail
            refine bodyPost_ret (v := .agg #[.int .i64 2, .int .i64 L, .int .i64 0, .int .i64 V2]) (by simp [results, Tryz.results245, go_sem, *]) rfl ⟨by rw [HI.out], ?_⟩
            exact ((((HB3.out.setCell (Nat.le_refl _) _).setCell (Nat.le_refl _) _).setCell (Nat.le_refl _) _).setCell (Nat.le_refl _) _)
    · have h1' : decide (R ≥ 0) = false := decide_eq_false h1
      have HI : Hid (I = if L ≥ 0 ∧ R2 ≥ 0 then ⟨3, L, R2, 0⟩ else ⟨2, L, 0, V2⟩) := hide (by rw [HI.out, if_neg (fun h => h1 h.1), if_neg (fun h => h1 h.1)])
      clear h1
      by_cases h4 : L ≥ 0
      · go_wp2_with fail
        (with_reducible refine (CR2.out _).mono ?_); rintro e w3 ⟨rfl, hb3⟩
        have BI3 := hide (BI2.out.below hb3 BI2.out.lt); have HB3 := hide (HB2.out.trans (hb3.mono HB2.out.size))
        clear BI2 HB2 hb3
        by_cases h5 : R2 ≥ 0
        · have HI : Hid (I = ⟨3, L, R2, 0⟩) := hide (by rw [HI.out, if_pos ⟨h4, h5⟩])
          go_wp2_with fail
          (with_reducible refine (CR2.out _).mono ?_); rintro e w4 ⟨rfl, hb4⟩
          have BI4 := hide (BI3.out.below hb4 BI3.out.lt); have HB4 := hide (HB3.out.trans (hb4.mono HB3.out.size))
          clear BI3 HB3 hb4
          obtain ⟨lt4, i0, i1, i2, i3, if'⟩ := BI4.out
          go_wp2_with fail
          refine bodyPost_ret (v := .agg #[.int .i64 3, .int .i64 L, .int .i64 R2, .int .i64 0]) (by simp [results, Tryz.results245, go_sem, *]) rfl ⟨by rw [HI.out], ?_⟩
          exact ((((HB4.out.setCell (Nat.le_refl _) _).setCell (Nat.le_refl _) _).setCell (Nat.le_refl _) _).setCell (Nat.le_refl _) _)
        · have h5' : decide (R2 ≥ 0) = false := decide_eq_false h5
          have HI : Hid (I = ⟨2, L, 0, V2⟩) := hide (by rw [HI.out, if_neg (fun h => h5 h.2)])
          clear h5
          go_wp2_with fail
          (with_reducible refine (CV2.out _).mono ?_); rintro e w4 ⟨rfl, hb4⟩
          have BI4 := hide (BI3.out.below hb4 BI3.out.lt); have HB4 := hide (HB3.out.trans (hb4.mono HB3.out.size))
          clear BI3 HB3 hb4
          obtain ⟨lt4, i0, i1, i2, i3, if'⟩ := BI4.out
          go_wp2_with fail
          refine bodyPost_ret (v := .agg #[.int .i64 2, .int .i64 L, .int .i64 0, .int .i64 V2]) (by simp [results, Tryz.results245, go_sem, *]) rfl ⟨by rw [HI.out], ?_⟩
          exact ((((HB4.out.setCell (Nat.le_refl _) _).setCell (Nat.le_refl _) _).setCell (Nat.le_refl _) _).setCell (Nat.le_refl _) _)
      · have h4' : decide (L ≥ 0) = false := decide_eq_false h4
        have HI : Hid (I = ⟨2, L, 0, V2⟩) := hide (by rw [HI.out, if_neg (fun h => h4 h.1)])
        clear h4
        go_wp2_with fail
        (with_reducible refine (CV2.out _).mono ?_); rintro e w3 ⟨rfl, hb3⟩
        have BI3 := hide (BI2.out.below hb3 BI2.out.lt); have HB3 := hide (HB2.out.trans (hb3.mono HB2.out.size))
        clear BI2 HB2 hb3
        obtain ⟨lt3, i0, i1, i2, i3, if'⟩ := BI3.out
        go_wp2_with fail
        refine bodyPost_ret (v := .agg #[.int .i64 2, .int .i64 L, .int .i64 0, .int .i64 V2]) (by simp [results, Tryz.results245, go_sem, *]) rfl ⟨by rw [HI.out], ?_⟩
        exact ((((HB3.out.setCell (Nat.le_refl _) _).setCell (Nat.le_refl _) _).setCell (Nat.le_refl _) _).setCell (Nat.le_refl _) _)
end Go.Proofs.YtpbmlppdmdmfkaaGreatDoor

namespace Go.Proofs.YtpbmlppdmdmfkaaGreatDoor

structure Gp where
  t : Int
  i : Int
deriving DecidableEq

abbrev Gp.v (x : Gp) : Value := .agg #[.int .i64 x.t, .int .i64 x.i]
def GapE : El Gp := ⟨2, by decide, fun x => [.int .i64 x.t, .int .i64 x.i], fun _ => rfl, fun x u h => by simp at h; rcases h with rfl | rfl <;> rfl⟩

/-- Whether a fence fits before instruction i of a thread. -/
def gapAt (r : List Ins) (i : Nat) : Bool :=
  match r[i - 1]?, r[i]? with
  | some x, some y => decide (1 ≤ i) && (x.op != 4 && y.op != 4)
  | _, _ => false
def rowGaps (t : Nat) (r : List Ins) (n : Nat) : List Gp := ((List.range n).filter (gapAt r)).map fun (i : Nat) => ⟨t, i⟩
def gapsTo (p : List (List Ins)) (j : Nat) : List Gp := (List.range j).flatMap fun t => match p[t]? with
  | some r => rowGaps t r r.length
  | none => []
def gapsP (p : List (List Ins)) : List Gp := gapsTo p p.length

theorem rowGaps_succ (t : Nat) (r : List Ins) (n : Nat) : rowGaps t r (n + 1) = rowGaps t r n ++ if gapAt r n = true then [⟨t, n⟩] else [] := by
  unfold rowGaps
  rw [List.range_succ, List.filter_append, List.map_append]
  by_cases h : gapAt r n = true <;> simp [h]

theorem rowGaps_one (t : Nat) (r : List Ins) : rowGaps t r 1 = [] := by
  have h : gapAt r 0 = false := by unfold gapAt; split <;> simp
  rw [rowGaps_succ, if_neg (by simp [h])]; simp [rowGaps]

theorem rowGaps_zero (t : Nat) (r : List Ins) : rowGaps t r 0 = [] := by simp [rowGaps]

theorem gapsTo_succ {p : List (List Ins)} {j : Nat} {r : List Ins} (h : p[j]? = some r) : gapsTo p (j + 1) = gapsTo p j ++ rowGaps j r r.length := by
  unfold gapsTo
  rw [List.range_succ, List.flatMap_append]
  simp [h]

theorem rowGaps_length (t : Nat) (r : List Ins) (n : Nat) : (rowGaps t r n).length ≤ n := by
  unfold rowGaps
  rw [List.length_map]
  exact Nat.le_trans (List.length_filter_le _ _) (by simp)

theorem gapsTo_length (p : List (List Ins)) : ∀ j, j ≤ p.length → (gapsTo p j).length ≤ (p.take j).flatten.length := by
  intro j
  induction j with
  | zero => intro _; simp [gapsTo]
  | succ j ih =>
    intro hj
    obtain ⟨r, hr⟩ := get_of_lt (xs := p) (k := j) hj
    rw [gapsTo_succ hr, List.take_add_one, hr, List.flatten_append, List.length_append, List.length_append]
    have h1 := ih (by omega)
    have h2 := rowGaps_length j r r.length
    simp only [Option.toList_some, List.flatten_cons, List.flatten_nil, List.append_nil]
    omega

theorem rowGaps_step {t : Nat} {r : List Ins} {s : Nat} {x y : Ins} (hx : r[s]? = some x) (hy : r[s + 1]? = some y) : rowGaps t r (s + 1 + 1) = rowGaps t r (s + 1) ++ if (x.op != 4 && y.op != 4) = true then [⟨t, (s + 1 : Nat)⟩] else [] := by
  rw [rowGaps_succ]
  have : gapAt r (s + 1) = (x.op != 4 && y.op != 4) := by unfold gapAt; simp [hx, hy]
  rw [this]

theorem gapAt_of {r : List Ins} {i : Nat} {x y : Ins} (hx : r[i - 1]? = some x) (hy : r[i]? = some y) (h1 : 1 ≤ i) : gapAt r i = (x.op != 4 && y.op != 4) := by
  unfold gapAt; rw [hx, hy]; simp [h1]

end Go.Proofs.YtpbmlppdmdmfkaaGreatDoor

namespace Go.Proofs.YtpbmlppdmdmfkaaGreatDoor
open Go.RowKit

theorem Tryz.infoGap : (Tryz.prog.info? 133).map (fun i => (i.zero, i.size, i.bytes)) = some (some (.agg #[.int .i64 0, .int .i64 0]), 2, 16) := by kernel_rfl
abbrev OwnG (w : World) (base : Nat) (v : Value) (xs : List Gp) : Prop := Own GapE 133 w base v xs

set_option maxRecDepth 100000 in
set_option maxHeartbeats 800000 in
theorem gaps_any (v : Value) (p : List (List Ins)) (w : World) (hp : RepP w v p) (hl : p.flatten.length ≤ 1048576) :
    Calls Tryz.prog 112 #[v] w (RetOwn GapE 133 w (gapsP p)) := by
  obtain ⟨a, c, rfl, hc1, hc2, hc3, hp⟩ := hp.open
  have HP := hide hp; clear hp
  have HL := hide hl; clear hl
  have PP : Hid (gapsP p = gapsTo p p.length) := hide rfl
  have HGL := hide (gapsTo_length p)
  generalize hn : p.length = n at *
  have H := hide hn; clear hn
  go_enter Tryz.func112, Tryz.ntmps112
  go_wp2_with fail
  go_loopw [3, 9] (fun s i wr => ∃ j : Nat, j ≤ n ∧ i = .int .i64 j ∧ OwnG wr w.heap.size s (gapsTo p j) ∧ Below w.heap.size w wr) (fun _ i _ => n - (intOf i).toNat)
  case atStart => exact ⟨0, by omega, rfl, World.ownsRow_nil _ _ _ _, Below.refl _ _⟩
  case round =>
    obtain ⟨j, hj, rfl, hown, hb2⟩ := hrel
    by_cases hlt2 : j < n
    · obtain ⟨wm, rfl⟩ : ∃ wm : World, wm = wr := ⟨_, rfl⟩
      obtain ⟨x, hxk⟩ := get_of_lt (xs := p) (k := j) (by rw [H.out]; exact hlt2)
      obtain ⟨b, o, ra, rc, rfl, hbl, i0, i1⟩ := HP.out.row hxk
      have i0 := (hb2.cell (p := ⟨b, o + j, none⟩) hbl).trans i0
      have hlt2' := nat_of_lt hlt2
      have GS := hide (gapsTo_succ hxk)
      have hgl := Nat.le_trans (HGL.out j hj) (Nat.le_trans (flatten_take_le p j) HL.out)
      have hxl := Nat.le_trans (row_le_flatten hxk) HL.out
      have I1 := hide i1; have X := hide hxk
      clear i1 hxk
      generalize hG : gapsTo p j = G at *
      clear hG
      have HO := hide hown; clear hown
      go_wp2_with fail
      go_loopw [3, 6] (fun s i wr => ∃ t : Nat, (t + 1 ≤ x.length ∨ t = 0) ∧ i = .int .i64 ((t : Int) + 1) ∧ OwnG wr w.heap.size s (G ++ rowGaps j x (t + 1)) ∧ Below w.heap.size w wr) (fun _ i _ => x.length - (intOf i).toNat)
      case atStart => exact ⟨0, .inr rfl, rfl, by rw [rowGaps_one, List.append_nil]; exact HO.out, hb2⟩
      case round =>
        obtain ⟨t, ht, rfl, hown, hb3⟩ := hrel
        by_cases hlt3 : t + 1 < x.length
        · obtain ⟨y, hyk⟩ := get_of_lt (xs := x) (k := t) (by omega)
          obtain ⟨z, hzk⟩ := get_of_lt (xs := x) (k := t + 1) hlt3
          obtain ⟨b', o', rfl, hbl', j0, j1, j2, j3⟩ := (I1.out.below hb3).ins hyk
          obtain ⟨b'', o'', e1, hbl'', k0, k1, k2, k3⟩ := (I1.out.below hb3).ins hzk
          simp only [Option.some.injEq, Addr.mk.injEq, and_true] at e1
          obtain ⟨rfl, rfl⟩ := e1
          have hlt3' : (t : Int) + 1 < x.length := by omega
          have ST := hide (rowGaps_step (t := j) hyk hzk)
          have hrl := rowGaps_length j x (t + 1)
          have YK := hide hyk; have ZK := hide hzk
          clear hyk hzk hbl''
          generalize hRG : rowGaps j x (t + 1) = RG at *
          clear hRG
          have hlen : (G ++ RG).length ≤ 68719476736 := by rw [List.length_append]; omega
          by_cases hy : y.op = 4
          · have g4 : (y.op != 4) = false := by simp [hy]
            have ST2 : Hid (rowGaps j x (t + 1 + 1) = RG) := hide (by have h := ST.out; rw [g4] at h; simpa using h)
            clear hy
            go_wp2_with fail
            go_roundw
            case rel => exact ⟨t + 1, by omega, by go_num, by rw [ST2.out]; exact hown, hb3⟩
            case measure => simp [intOf]; omega
          · have g4 : (y.op != 4) = true := by simp [hy]
            clear hy
            by_cases hz : z.op = 4
            · have g5 : (z.op != 4) = false := by simp [hz]
              have ST2 : Hid (rowGaps j x (t + 1 + 1) = RG) := hide (by have h := ST.out; rw [g4, g5] at h; simpa using h)
              clear hz
              go_wp2_with fail
              go_roundw
              case rel => exact ⟨t + 1, by omega, by go_num, by rw [ST2.out]; exact hown, hb3⟩
              case measure => simp [intOf]; omega
            · have g5 : (z.op != 4) = true := by simp [hz]
              have ST2 : Hid (rowGaps j x (t + 1 + 1) = RG ++ [⟨(j : Int), (t : Int) + 1⟩]) := hide (by have h := ST.out; rw [g4, g5] at h; simpa using h)
              clear hz
              go_wp2_with (at_builtin; refine wpList_app GapE 133 Tryz.infoGap rfl Tryz.underlying76 w.heap.size _ _ ⟨(j : Int), (t : Int) + 1⟩ (hown.alloc _) (by decide) hlen (by simp; have := hb3.size; omega) rfl _ _ rfl rfl wr.heap.size 0 1 rfl news_alloc ?_; intro v' w1 hown1 hgr1)
              have hb4 := below_app hb3 hown hgr1
              go_roundw
              case rel => exact ⟨t + 1, by omega, by go_num, by rw [ST2.out, ← List.append_assoc]; exact hown1, hb4⟩
              case measure => simp [intOf]; omega
        · have e : rowGaps j x (t + 1) = rowGaps j x x.length := by
            rcases ht with h | h
            · rw [show t + 1 = x.length by omega]
            · subst h
              rw [rowGaps_one]
              by_cases h0 : x.length = 0
              · rw [h0, rowGaps_zero]
              · rw [show x.length = 1 by omega, rowGaps_one]
          rw [e] at hown
          have hlt3' : (x.length : Int) ≤ (t : Int) + 1 := by omega
          go_wp2_with fail
          go_roundw
          case rel => exact ⟨j + 1, by omega, by go_num, by rw [GS.out]; exact hown, hb3⟩
          case measure => simp [intOf]; omega
    · have e : j = n := by omega
      go_wp2_with fail
      go_ret
      rw [PP.out, ← e]
      exact ⟨_, rfl, hown, hb2⟩

end Go.Proofs.YtpbmlppdmdmfkaaGreatDoor
