/-
  What programs are valid: the program's function and the reference's. Condition: the program has at most 1048576 instructions.
-/
import Derived.Test.YtpnmphfdfadlcaaF4
import Derived.Test.YtpnmphfdfadlcaaF5
namespace Go.Proofs.Ytpnmphfdfadlcaa
open Go.RowKit

theorem sInstrValid_raw (a b c d : Int) (w : World) : Calls Try.prog 214 #[.agg #[.int .i64 a, .int .i64 b, .int .i64 c, .int .i64 d]] w fun e w' => e = .returned (.bool (insValid ⟨a, b, c, d⟩)) ∧ Below w.heap.size w w' := sInstrValid_any ⟨a, b, c, d⟩ w
theorem InstrValid_raw (a b c d : Int) (w : World) : Calls Try.prog 87 #[.agg #[.int .i64 a, .int .i64 b, .int .i64 c, .int .i64 d]] w fun e w' => e = .returned (.bool (insValid ⟨a, b, c, d⟩)) ∧ Below w.heap.size w w' := InstrValid_any ⟨a, b, c, d⟩ w

set_option maxRecDepth 100000 in
set_option maxHeartbeats 1600000 in
theorem l1Shape_any (v : Value) (p : List (List Ins)) (w : World) (hp : RepP w v p) (hl : p.flatten.length ≤ 1048576) :
    Calls Try.prog 165 #[v] w fun e w' => e = .returned (.bool (shapeOk p)) ∧ Below w.heap.size w w' := by
  obtain ⟨a, c, rfl, hc1, hc2, hc3, hp⟩ := hp.open
  have HP := hide hp; clear hp
  have HL := hide hl; clear hl
  generalize hn : p.length = n at *
  have H := hide hn; clear hn
  by_cases h3 : 3 < n
  · have E : Hid (shapeOk p = false) := hide (by unfold shapeOk; rw [H.out]; simp; omega)
    have h3' : (3 : Int) < n := by omega
    go_enter Try.func165, Try.ntmps165
    go_wp2_with fail
    go_ret
    rw [E.out]
    exact ⟨rfl, Below.refl _ _⟩
  · have h3' : (n : Int) ≤ 3 := by omega
    go_enter Try.func165, Try.ntmps165
    go_wp2_with fail
    go_loopw [3, 4] (fun r i wr => ∃ j : Nat, j ≤ n ∧ i = .int .i64 j ∧ r = .int .i64 (cnt notFence (p.take j) : Nat) ∧ Hid ((p.take j).all rowOk = true) ∧ Below w.heap.size w wr) (fun _ i _ => n - (intOf i).toNat)
    case atStart => exact ⟨0, by omega, rfl, by simp [cnt], hide (by simp), Below.refl _ _⟩
    case round =>
      obtain ⟨j, hj, rfl, rfl, hok, hb2⟩ := hrel
      by_cases hlt2 : j < n
      · obtain ⟨wm, rfl⟩ : ∃ wm : World, wm = wr := ⟨_, rfl⟩
        obtain ⟨x, hxk⟩ := get_of_lt (xs := p) (k := j) (by rw [H.out]; exact hlt2)
        obtain ⟨b, o, ra, rc, rfl, hbl, i0, i1⟩ := (HP.out.below hb2).row hxk
        have hlt2' := nat_of_lt hlt2
        obtain ⟨_, _, _, _, hr2, _, _⟩ := i1.open
        have CR := hide (cnt_take_succ notFence hxk)
        have hbR := Nat.le_trans (cnt_take_le notFence p j) HL.out
        have hxl := Nat.le_trans (row_le_flatten hxk) HL.out
        have I1 := hide i1; have X := hide hxk
        clear i1 hxk
        generalize hR : cnt notFence (p.take j) = R at *
        clear hR
        by_cases h7 : 7 < x.length
        · have E : Hid (shapeOk p = false) := hide (by
            have := all_no X.out (by unfold rowOk; simp; omega)
            unfold shapeOk; simp [this])
          have h7' : (7 : Int) < x.length := by omega
          go_wp2_with fail
          go_ret
          rw [E.out]
          exact ⟨rfl, hb2⟩
        · have h7' : (x.length : Int) ≤ 7 := by omega
          go_wp2_with fail
          go_loopw [3, 5] (fun r i wr => ∃ t : Nat, t ≤ x.length ∧ i = .int .i64 t ∧ r = .int .i64 (R + (x.take t).countP notFence : Nat) ∧ Hid ((x.take t).all insValid = true) ∧ Below wm.heap.size wm wr) (fun _ i _ => x.length - (intOf i).toNat)
          case atStart => exact ⟨0, by omega, rfl, by simp, hide (by simp), Below.refl _ _⟩
          case round =>
            obtain ⟨t, ht, rfl, rfl, hok2, hb3⟩ := hrel
            have hbR2 : (x.take t).countP notFence ≤ 1048576 := Nat.le_trans List.countP_le_length (by simp; omega)
            have i0' : wr.cell? ⟨b, o + j, none⟩ = some (.slice ra x.length rc) := (hb3.cell (p := ⟨b, o + j, none⟩) hbl).trans i0
            by_cases hlt3 : t < x.length
            · obtain ⟨y, hyk⟩ := get_of_lt (xs := x) (k := t) hlt3
              obtain ⟨b', o', rfl, hbl', j0, j1, j2, j3⟩ := (I1.out.below hb3).ins hyk
              have hlt3' := nat_of_lt hlt3
              have CR2 := hide (countP_take_succ notFence hyk)
              have Y := hide hyk; clear hyk
              have hbl2 : b < wr.heap.size := by have := hb3.size; omega
              generalize hR2 : (x.take t).countP notFence = R2 at *
              clear hR2
              generalize hv : insValid y = vv at *
              have V := hide hv; clear hv
              cases vv
              · have E : Hid (shapeOk p = false) := hide (by
                  have := all_no X.out (row_no Y.out V.out)
                  unfold shapeOk; simp [this])
                go_wp2_with (go_at_call 214; (with_reducible refine (sInstrValid_raw _ _ _ _ _).mono ?_); rw [V.out]; rintro e w3 ⟨rfl, hb4⟩)
                go_ret
                rw [E.out]
                exact ⟨rfl, hb2.trans ((hb3.trans (hb4.mono hb3.size)).mono hb2.size)⟩
              · have OK3 := hide (all_take_succ hok2.out Y.out V.out)
                have CR3 : Hid ((x.take (t + 1)).countP notFence = R2 + if (y.op != 4) = true then 1 else 0) := CR2
                clear CR2
                by_cases h4 : y.op = 4
                · have g4 : (y.op != 4) = false := by simp [h4]
                  have CR4 : Hid ((x.take (t + 1)).countP notFence = R2) := hide (by have h := CR3.out; rw [g4] at h; simpa using h)
                  clear h4
                  go_wp2_with (go_at_call 214; (with_reducible refine (sInstrValid_raw _ _ _ _ _).mono ?_); rw [V.out]; rintro e w3 ⟨rfl, hb4⟩; obtain ⟨hc4, hf4⟩ := bcell hb4)
                  go_roundw
                  case rel => exact ⟨t + 1, by omega, by go_num, by rw [CR4.out]; simp, OK3, hb3.trans (hb4.mono hb3.size)⟩
                  case measure => simp [intOf]; omega
                · have g4 : (y.op != 4) = true := by simp [h4]
                  have CR4 : Hid ((x.take (t + 1)).countP notFence = R2 + 1) := hide (by have h := CR3.out; rw [g4] at h; simpa using h)
                  clear h4
                  go_wp2_with (go_at_call 214; (with_reducible refine (sInstrValid_raw _ _ _ _ _).mono ?_); rw [V.out]; rintro e w3 ⟨rfl, hb4⟩; obtain ⟨hc4, hf4⟩ := bcell hb4)
                  go_roundw
                  case rel => exact ⟨t + 1, by omega, by go_num, by rw [CR4.out]; simp; omega, OK3, hb3.trans (hb4.mono hb3.size)⟩
                  case measure => simp [intOf]; omega
            · have e : t = x.length := by omega
              have CR4 : Hid (cnt notFence (p.take (j + 1)) = R + (x.take t).countP notFence) := by have h := CR.out; rwa [e, List.take_length]
              have OK4 : Hid ((p.take (j + 1)).all rowOk = true) := hide (all_take_succ hok.out X.out (by
                have h := hok2.out
                rw [e, List.take_length] at h
                unfold rowOk
                rw [h]; simp; omega))
              generalize hR2 : (x.take t).countP notFence = R2 at *
              clear hR2 e
              go_wp2_with fail
              go_roundw
              case rel => exact ⟨j + 1, by omega, by go_num, by rw [CR4.out], OK4, hb2.trans (hb3.mono hb2.size)⟩
              case measure => simp [intOf]; omega
      · have e : j = n := by omega
        have hpt : p.take j = p := List.take_of_length_le (by rw [H.out]; omega)
        rw [hpt] at hok ⊢
        clear hpt
        have E : Hid (shapeOk p = decide ((cnt notFence p : Int) ≤ 12)) := hide (by
          have hle : decide (n ≤ 3) = true := decide_eq_true (by omega)
          unfold shapeOk; rw [hok.out, H.out, hle, Bool.eq_iff_iff]; simp; omega)
        go_wp2_with fail
        go_ret
        rw [E.out]
        exact ⟨rfl, hb2⟩

set_option maxHeartbeats 800000 in
theorem sProgramValid_any (v : Value) (p : List (List Ins)) (w : World) (hp : RepP w v p) (hl : p.flatten.length ≤ 1048576) (hpl : p.length ≤ 1048576) :
    Calls Try.prog 84 #[v] w fun e w' => e = .returned (.bool (progValid p)) ∧ Below w.heap.size w w' := by
  have PV : Hid (progValid p = (shapeOk p && decide (1 ≤ p.length) && decide (prodP p ≤ 3000))) := hide rfl
  have HL := hide hl; clear hl
  obtain ⟨a, c, hv, hc1, hc2, hc3, _⟩ := hp.open
  have HP := hide hp; clear hp
  have HV := hide hv
  subst hv
  generalize hn : p.length = n at *
  have H := hide hn; clear hn
  have HS := hide (fun w' h => l1Shape_any (.slice a n c) p w' h HL.out)
  generalize hs : shapeOk p = s at *
  have S := hide hs; clear hs
  cases s
  · go_enter Try.func84, Try.ntmps84
    go_wp2_with (go_at_call 165; (with_reducible refine (HS.out _ HP.out).mono ?_); rintro e w1 ⟨rfl, hb1⟩)
    go_ret
    rw [PV.out]
    exact ⟨rfl, hb1⟩
  · by_cases h0 : 0 < n
    · have h0' : (0 : Int) < n := by omega
      have HE := hide (fun w' h => l1Execs_any (.slice a n c) p w' h HL.out (by rw [H.out]; omega))
      have hcap := cap_le (prodP p)
      have HCP : Hid (decide (((cap (prodP p) : Nat) : Int) ≤ 3000) = decide (prodP p ≤ 3000)) := hide (by rw [Bool.eq_iff_iff]; simp only [decide_eq_true_eq]; unfold cap; omega)
      generalize hC : cap (prodP p) = C at *
      clear hC
      go_enter Try.func84, Try.ntmps84
      go_wp2_with (first | (go_at_call 165; (with_reducible refine (HS.out _ HP.out).mono ?_); rintro e w1 ⟨rfl, hb1⟩) | (go_at_call 166; (with_reducible refine (HE.out _ (HP.out.below hb1)).mono ?_); rintro e w2 ⟨rfl, hb2⟩))
      go_ret
      rw [PV.out, HCP.out]
      exact ⟨by rw [show decide (1 ≤ n) = true from decide_eq_true h0]; simp, hb1.trans (hb2.mono hb1.size)⟩
    · have h0' : decide ((0 : Int) < n) = false := by simp; omega
      go_enter Try.func84, Try.ntmps84
      go_wp2_with (go_at_call 165; (with_reducible refine (HS.out _ HP.out).mono ?_); rintro e w1 ⟨rfl, hb1⟩)
      go_ret
      rw [PV.out]
      exact ⟨by rw [show decide (1 ≤ n) = false from decide_eq_false (by omega)]; simp, hb1⟩

theorem progValid_no {p : List (List Ins)} (h : shapeOk p = false) : progValid p = false := by unfold progValid; rw [h]; rfl

set_option maxRecDepth 100000 in
set_option maxHeartbeats 1600000 in
theorem ProgramValid_any (v : Value) (p : List (List Ins)) (w : World) (hp : RepP w v p) (hl : p.flatten.length ≤ 1048576) :
    Calls Try.prog 26 #[v] w fun e w' => e = .returned (.bool (progValid p)) ∧ Below w.heap.size w w' := by
  obtain ⟨a, c, rfl, hc1, hc2, hc3, hp⟩ := hp.open
  have HP := hide hp; clear hp
  have HL := hide hl; clear hl
  generalize hn : p.length = n at *
  have H := hide hn; clear hn
  by_cases h3 : 1 ≤ n ∧ n ≤ 3
  · have E : Hid (inB n 1 3 = true) := hide (by unfold inB; simp; omega)
    have h3' : (n : Int) ≤ 3 := by omega
    obtain ⟨_, h3n⟩ := h3
    go_enter Try.func26, Try.ntmps26
    go_wp2_with (go_at_call 86; (with_reducible refine (within_any _ _ _ _).mono ?_); rw [E.out]; rintro e w1 ⟨rfl, rfl⟩)
    go_loopw [3, 14] (fun r i wr => ∃ j : Nat, j ≤ n ∧ i = .int .i64 j ∧ r = .int .i64 (cnt notFence (p.take j) : Nat) ∧ Hid ((p.take j).all rowOk = true) ∧ Below w.heap.size w wr) (fun _ i _ => n - (intOf i).toNat)
    case atStart => exact ⟨0, by omega, rfl, by simp [cnt], hide (by simp), Below.refl _ _⟩
    case round =>
      obtain ⟨j, hj, rfl, rfl, hok, hb2⟩ := hrel
      by_cases hlt2 : j < n
      · obtain ⟨wm, rfl⟩ : ∃ wm : World, wm = wr := ⟨_, rfl⟩
        obtain ⟨x, hxk⟩ := get_of_lt (xs := p) (k := j) (by rw [H.out]; exact hlt2)
        obtain ⟨b, o, ra, rc, rfl, hbl, i0, i1⟩ := (HP.out.below hb2).row hxk
        have hlt2' := nat_of_lt hlt2
        obtain ⟨_, _, _, _, hr2, _, _⟩ := i1.open
        have CR := hide (cnt_take_succ notFence hxk)
        have hbR := Nat.le_trans (cnt_take_le notFence p j) HL.out
        have hxl := Nat.le_trans (row_le_flatten hxk) HL.out
        have I1 := hide i1; have X := hide hxk
        clear i1 hxk
        generalize hR : cnt notFence (p.take j) = R at *
        clear hR
        go_wp2_with fail
        go_loopw [3, 20] (fun r i wr => ∃ t : Nat, t ≤ x.length ∧ i = .int .i64 t ∧ r = .int .i64 (R + (x.take t).countP notFence : Nat) ∧ Hid ((x.take t).all insValid = true) ∧ Below wm.heap.size wm wr) (fun _ i _ => x.length - (intOf i).toNat)
        case atStart => exact ⟨0, by omega, rfl, by simp, hide (by simp), Below.refl _ _⟩
        case round =>
          obtain ⟨t, ht, rfl, rfl, hok2, hb3⟩ := hrel
          have hbR2 : (x.take t).countP notFence ≤ 1048576 := Nat.le_trans List.countP_le_length (by simp; omega)
          by_cases hlt3 : t < x.length
          · obtain ⟨y, hyk⟩ := get_of_lt (xs := x) (k := t) hlt3
            obtain ⟨b', o', rfl, hbl', j0, j1, j2, j3⟩ := (I1.out.below hb3).ins hyk
            have hlt3' := nat_of_lt hlt3
            have CR2 := hide (countP_take_succ notFence hyk)
            have Y := hide hyk; clear hyk
            generalize hR2 : (x.take t).countP notFence = R2 at *
            clear hR2
            generalize hv : insValid y = vv at *
            have V := hide hv; clear hv
            cases vv
            · have E2 : Hid (progValid p = false) := hide (progValid_no (by
                have := all_no X.out (row_no Y.out V.out)
                unfold shapeOk; simp [this]))
              go_wp2_with (go_at_call 87; (with_reducible refine (InstrValid_raw _ _ _ _ _).mono ?_); rw [V.out]; rintro e w3 ⟨rfl, hb4⟩)
              go_ret
              rw [E2.out]
              exact ⟨rfl, hb2.trans (((hb3.alloc hb3.size _).trans (hb4.mono (by have := hb3.size; simp; omega))).mono hb2.size)⟩
            · have OK3 := hide (all_take_succ hok2.out Y.out V.out)
              have CR3 : Hid ((x.take (t + 1)).countP notFence = R2 + if (y.op != 4) = true then 1 else 0) := CR2
              clear CR2
              by_cases h4 : y.op = 4
              · have g4 : (y.op != 4) = false := by simp [h4]
                have CR4 : Hid ((x.take (t + 1)).countP notFence = R2) := hide (by have h := CR3.out; rw [g4] at h; simpa using h)
                clear h4
                go_wp2_with (go_at_call 87; (with_reducible refine (InstrValid_raw _ _ _ _ _).mono ?_); rw [V.out]; rintro e w3 ⟨rfl, hb4⟩; obtain ⟨hc4, hf4⟩ := bcell hb4)
                go_roundw
                case rel => exact ⟨t + 1, by omega, by go_num, by rw [CR4.out]; simp, OK3, (hb3.alloc hb3.size _).trans (hb4.mono (by have := hb3.size; simp; omega))⟩
                case measure => simp [intOf]; omega
              · have g4 : (y.op != 4) = true := by simp [h4]
                have CR4 : Hid ((x.take (t + 1)).countP notFence = R2 + 1) := hide (by have h := CR3.out; rw [g4] at h; simpa using h)
                clear h4
                go_wp2_with (go_at_call 87; (with_reducible refine (InstrValid_raw _ _ _ _ _).mono ?_); rw [V.out]; rintro e w3 ⟨rfl, hb4⟩; obtain ⟨hc4, hf4⟩ := bcell hb4)
                go_roundw
                case rel => exact ⟨t + 1, by omega, by go_num, by rw [CR4.out]; simp; omega, OK3, (hb3.alloc hb3.size _).trans (hb4.mono (by have := hb3.size; simp; omega))⟩
                case measure => simp [intOf]; omega
          · by_cases h7 : 7 < x.length
            · have E2 : Hid (progValid p = false) := hide (progValid_no (by
                have := all_no X.out (by unfold rowOk; simp; omega)
                unfold shapeOk; simp [this]))
              have h7' : (7 : Int) < x.length := by omega
              go_wp2_with fail
              go_ret
              rw [E2.out]
              exact ⟨rfl, hb2.trans (hb3.mono hb2.size)⟩
            · have h7' : (x.length : Int) ≤ 7 := by omega
              have e : t = x.length := by omega
              have CR4 : Hid (cnt notFence (p.take (j + 1)) = R + (x.take t).countP notFence) := by have h := CR.out; rwa [e, List.take_length]
              have OK4 : Hid ((p.take (j + 1)).all rowOk = true) := hide (all_take_succ hok.out X.out (by
                have h := hok2.out
                rw [e, List.take_length] at h
                unfold rowOk
                rw [h]; simp; omega))
              generalize hR2 : (x.take t).countP notFence = R2 at *
              clear hR2 e
              go_wp2_with fail
              go_roundw
              case rel => exact ⟨j + 1, by omega, by go_num, by rw [CR4.out], OK4, hb2.trans (hb3.mono hb2.size)⟩
              case measure => simp [intOf]; omega
      · have e : j = n := by omega
        have hpt : p.take j = p := List.take_of_length_le (by rw [H.out]; omega)
        rw [hpt] at hok ⊢
        clear hpt
        have PV : Hid (progValid p = (decide (cnt notFence p ≤ 12) && decide (prodP p ≤ 3000))) := hide (by
          have hle : decide (n ≤ 3) = true := decide_eq_true (by omega)
          have hle2 : decide (1 ≤ n) = true := decide_eq_true (by omega)
          unfold progValid shapeOk; rw [hok.out, H.out, hle, hle2]; simp)
        have hcn := Nat.le_trans (cnt_le_flatten notFence p) HL.out
        have HE := hide (fun w' h => execs_any (.slice a n c) p w' h HL.out (by rw [H.out]; omega))
        have hcap := cap_le (prodP p)
        have HCP : Hid (decide (((cap (prodP p) : Nat) : Int) ≤ 3000) = decide (prodP p ≤ 3000)) := hide (by rw [Bool.eq_iff_iff]; simp only [decide_eq_true_eq]; unfold cap; omega)
        generalize hC : cap (prodP p) = C at *
        generalize hN : cnt notFence p = N at *
        clear hC hN
        by_cases h12 : N ≤ 12
        · have h12' : (N : Int) ≤ 12 := by omega
          go_wp2_with (go_at_call 88; (with_reducible refine (HE.out _ (HP.out.below hb2)).mono ?_); rintro e w1 ⟨rfl, hb1⟩)
          go_ret
          rw [PV.out, HCP.out]
          exact ⟨by rw [show decide (N ≤ 12) = true from decide_eq_true h12]; simp, hb2.trans (hb1.mono hb2.size)⟩
        · have h12' : decide ((N : Int) ≤ 12) = false := by simp; omega
          go_wp2_with fail
          go_ret
          rw [PV.out]
          exact ⟨by rw [show decide (N ≤ 12) = false from decide_eq_false h12]; simp, hb2⟩
  · have E : Hid (inB n 1 3 = false) := hide (by unfold inB; simp; omega)
    have E2 : Hid (progValid p = false) := hide (by unfold progValid shapeOk; rw [H.out]; simp; omega)
    go_enter Try.func26, Try.ntmps26
    go_wp2_with (go_at_call 86; (with_reducible refine (within_any _ _ _ _).mono ?_); rw [E.out]; rintro e w1 ⟨rfl, rfl⟩)
    go_ret
    rw [E2.out]
    exact ⟨rfl, Below.refl _ _⟩

end Go.Proofs.Ytpnmphfdfadlcaa
