/-
  The walk of FnExactCondSame: it answers true and turns nothing that was there. No condition.
-/
import Derived.Test.YtlnmlmpmpnjfmaaX1
namespace Go.Proofs.Ytlnmlmpmpnjfmaa
open Go.RowKit

set_option maxRecDepth 100000 in
set_option maxHeartbeats 3200000 in
theorem lawCondSame (o0 t0 q0 x0 : Int) (a0 : Option Addr) (n0 c0 : Nat) (k0 : List Cd) (o1 t1 q1 x1 : Int) (a1 : Option Addr) (n1 c1 : Nat) (k1 : List Cd) (w : World) (hp0 : RepK 0 w ⟨a0, n0, c0⟩ k0) (hp1 : RepK 0 w ⟨a1, n1, c1⟩ k1) :
    Calls Try.prog 9 #[.agg #[.int .i64 o0, .int .i64 t0, .int .i64 q0, .int .i64 x0, .slice a0 n0 c0], .agg #[.int .i64 o1, .int .i64 t1, .int .i64 q1, .int .i64 x1, .slice a1 n1 c1]] w fun e w' => e = .returned (.bool true) ∧ Below w.heap.size w w' := by
  have HP0 := hide hp0; clear hp0
  have HP1 := hide hp1; clear hp1
  have hbase := (((Below.refl w.heap.size w).alloc (Nat.le_refl _) (.cells #[.int .i64 o0, .int .i64 t0, .int .i64 q0, .int .i64 x0, .slice a0 n0 c0] 50)).alloc (by simp) (.cells #[.int .i64 o1, .int .i64 t1, .int .i64 q1, .int .i64 x1, .slice a1 n1 c1] 50))
  have HBW := hide hbase; clear hbase
  replace HP0 := hide (HP0.out.below HBW.out)
  replace HP1 := hide (HP1.out.below HBW.out)
  have HS0 := hide (fun w' h => szCond_any o0 t0 q0 x0 k0 a0 n0 c0 1048576 w' h (by omega) (by omega))
  have LE0 := hide (fun h => szK_le k0 1048576 h (by omega))
  generalize szK k0 1048576 = z0 at *
  by_cases hs0 : z0 < 0
  · go_enter Try.func9, Try.ntmps9
    go_wp2_with fail
    generalize hW : ((w.alloc (.cells #[.int .i64 o0, .int .i64 t0, .int .i64 q0, .int .i64 x0, .slice a0 n0 c0] 50)).alloc (.cells #[.int .i64 o1, .int .i64 t1, .int .i64 q1, .int .i64 x1, .slice a1 n1 c1] 50)) = W at *
    have BA0 : BoxC W (w.heap.size) o0 t0 q0 x0 a0 n0 c0 := by rw [← hW]; exact (BoxC.new _ _ _ _ _ _ _ _ _).below (below_alloc _ _)
    have BA1 : BoxC W (w.heap.size + 1) o1 t1 q1 x1 a1 n1 c1 := by rw [← hW, show w.heap.size + 1 = (w.alloc (.cells #[.int .i64 o0, .int .i64 t0, .int .i64 q0, .int .i64 x0, .slice a0 n0 c0] 50)).heap.size by simp]; exact BoxC.new _ _ _ _ _ _ _ _ _
    clear hW
    replace BA0 := hide BA0
    replace BA1 := hide BA1
    (with_reducible refine (HS0.out _ HP0.out).mono ?_); rintro e w1 ⟨rfl, hb1⟩
    replace HBW := hide (Below.next HBW.out hb1)
    replace HP0 := hide (HP0.out.below hb1)
    replace HP1 := hide (HP1.out.below hb1)
    replace BA0 := hide (BA0.out.below hb1)
    replace BA1 := hide (BA1.out.below hb1)
    obtain ⟨lBA0, eBA00, eBA01, eBA02, eBA03, eBA04⟩ := BA0.out
    obtain ⟨lBA1, eBA10, eBA11, eBA12, eBA13, eBA14⟩ := BA1.out
    go_wp2_with fail
    clear lBA0 eBA00 eBA01 eBA02 eBA03 eBA04 lBA1 eBA10 eBA11 eBA12 eBA13 eBA14
    go_ret
    exact ⟨rfl, HBW.out⟩
  · obtain ⟨hz0, hl1_0⟩ := LE0.out hs0
    have HS1 := hide (fun w' h => szCond_any o1 t1 q1 x1 k1 a1 n1 c1 z0 w' h (by omega) (by omega))
    have LE1 := hide (fun h => szK_le k1 z0 h (by omega))
    generalize szK k1 z0 = z1 at *
    by_cases hs1 : z1 < 0
    · go_enter Try.func9, Try.ntmps9
      go_wp2_with fail
      generalize hW : ((w.alloc (.cells #[.int .i64 o0, .int .i64 t0, .int .i64 q0, .int .i64 x0, .slice a0 n0 c0] 50)).alloc (.cells #[.int .i64 o1, .int .i64 t1, .int .i64 q1, .int .i64 x1, .slice a1 n1 c1] 50)) = W at *
      have BA0 : BoxC W (w.heap.size) o0 t0 q0 x0 a0 n0 c0 := by rw [← hW]; exact (BoxC.new _ _ _ _ _ _ _ _ _).below (below_alloc _ _)
      have BA1 : BoxC W (w.heap.size + 1) o1 t1 q1 x1 a1 n1 c1 := by rw [← hW, show w.heap.size + 1 = (w.alloc (.cells #[.int .i64 o0, .int .i64 t0, .int .i64 q0, .int .i64 x0, .slice a0 n0 c0] 50)).heap.size by simp]; exact BoxC.new _ _ _ _ _ _ _ _ _
      clear hW
      replace BA0 := hide BA0
      replace BA1 := hide BA1
      (with_reducible refine (HS0.out _ HP0.out).mono ?_); rintro e w1 ⟨rfl, hb1⟩
      replace HBW := hide (Below.next HBW.out hb1)
      replace HP0 := hide (HP0.out.below hb1)
      replace HP1 := hide (HP1.out.below hb1)
      replace BA0 := hide (BA0.out.below hb1)
      replace BA1 := hide (BA1.out.below hb1)
      obtain ⟨lBA0, eBA00, eBA01, eBA02, eBA03, eBA04⟩ := BA0.out
      obtain ⟨lBA1, eBA10, eBA11, eBA12, eBA13, eBA14⟩ := BA1.out
      go_wp2_with fail
      clear lBA0 eBA00 eBA01 eBA02 eBA03 eBA04 lBA1 eBA10 eBA11 eBA12 eBA13 eBA14
      (with_reducible refine (HS1.out _ HP1.out).mono ?_); rintro e w2 ⟨rfl, hb2⟩
      replace HBW := hide (Below.next HBW.out hb2)
      replace HP0 := hide (HP0.out.below hb2)
      replace HP1 := hide (HP1.out.below hb2)
      replace BA0 := hide (BA0.out.below hb2)
      replace BA1 := hide (BA1.out.below hb2)
      obtain ⟨lBA0, eBA00, eBA01, eBA02, eBA03, eBA04⟩ := BA0.out
      obtain ⟨lBA1, eBA10, eBA11, eBA12, eBA13, eBA14⟩ := BA1.out
      go_wp2_with fail
      clear lBA0 eBA00 eBA01 eBA02 eBA03 eBA04 lBA1 eBA10 eBA11 eBA12 eBA13 eBA14
      go_ret
      exact ⟨rfl, HBW.out⟩
    · obtain ⟨hz1, hl1_1⟩ := LE1.out hs1
      obtain ⟨R, hR⟩ := some_bool (Cd.mk o0 t0 q0 x0 k0 = Cd.mk o1 t1 q1 x1 k1)
      have HR := hide hR; clear hR
      have hneq : (R != R) = false := by simp
      go_enter Try.func9, Try.ntmps9
      go_wp2_with fail
      generalize hW : ((w.alloc (.cells #[.int .i64 o0, .int .i64 t0, .int .i64 q0, .int .i64 x0, .slice a0 n0 c0] 50)).alloc (.cells #[.int .i64 o1, .int .i64 t1, .int .i64 q1, .int .i64 x1, .slice a1 n1 c1] 50)) = W at *
      have BA0 : BoxC W (w.heap.size) o0 t0 q0 x0 a0 n0 c0 := by rw [← hW]; exact (BoxC.new _ _ _ _ _ _ _ _ _).below (below_alloc _ _)
      have BA1 : BoxC W (w.heap.size + 1) o1 t1 q1 x1 a1 n1 c1 := by rw [← hW, show w.heap.size + 1 = (w.alloc (.cells #[.int .i64 o0, .int .i64 t0, .int .i64 q0, .int .i64 x0, .slice a0 n0 c0] 50)).heap.size by simp]; exact BoxC.new _ _ _ _ _ _ _ _ _
      clear hW
      replace BA0 := hide BA0
      replace BA1 := hide BA1
      (with_reducible refine (HS0.out _ HP0.out).mono ?_); rintro e w1 ⟨rfl, hb1⟩
      replace HBW := hide (Below.next HBW.out hb1)
      replace HP0 := hide (HP0.out.below hb1)
      replace HP1 := hide (HP1.out.below hb1)
      replace BA0 := hide (BA0.out.below hb1)
      replace BA1 := hide (BA1.out.below hb1)
      obtain ⟨lBA0, eBA00, eBA01, eBA02, eBA03, eBA04⟩ := BA0.out
      obtain ⟨lBA1, eBA10, eBA11, eBA12, eBA13, eBA14⟩ := BA1.out
      go_wp2_with fail
      clear lBA0 eBA00 eBA01 eBA02 eBA03 eBA04 lBA1 eBA10 eBA11 eBA12 eBA13 eBA14
      (with_reducible refine (HS1.out _ HP1.out).mono ?_); rintro e w2 ⟨rfl, hb2⟩
      replace HBW := hide (Below.next HBW.out hb2)
      replace HP0 := hide (HP0.out.below hb2)
      replace HP1 := hide (HP1.out.below hb2)
      replace BA0 := hide (BA0.out.below hb2)
      replace BA1 := hide (BA1.out.below hb2)
      obtain ⟨lBA0, eBA00, eBA01, eBA02, eBA03, eBA04⟩ := BA0.out
      obtain ⟨lBA1, eBA10, eBA11, eBA12, eBA13, eBA14⟩ := BA1.out
      go_wp2_with fail
      clear lBA0 eBA00 eBA01 eBA02 eBA03 eBA04 lBA1 eBA10 eBA11 eBA12 eBA13 eBA14
      obtain ⟨lBA0, eBA00, eBA01, eBA02, eBA03, eBA04⟩ := BA0.out
      obtain ⟨lBA1, eBA10, eBA11, eBA12, eBA13, eBA14⟩ := BA1.out
      go_cut [6] (fun s V => s = .bool R ∧ Below w2.heap.size w2 V)
      case first =>
        go_region_held3 (fun V => V.cell? ⟨w.heap.size, 0, none⟩ = some (.int .i64 o0) ∧ V.cell? ⟨w.heap.size, 1, none⟩ = some (.int .i64 t0) ∧ V.cell? ⟨w.heap.size, 2, none⟩ = some (.int .i64 q0) ∧ V.cell? ⟨w.heap.size, 3, none⟩ = some (.int .i64 x0) ∧ V.cell? ⟨w.heap.size, 4, none⟩ = some (.slice a0 n0 c0) ∧ V.cell? ⟨w.heap.size + 1, 0, none⟩ = some (.int .i64 o1) ∧ V.cell? ⟨w.heap.size + 1, 1, none⟩ = some (.int .i64 t1) ∧ V.cell? ⟨w.heap.size + 1, 2, none⟩ = some (.int .i64 q1) ∧ V.cell? ⟨w.heap.size + 1, 3, none⟩ = some (.int .i64 x1) ∧ V.cell? ⟨w.heap.size + 1, 4, none⟩ = some (.slice a1 n1 c1)) ((simp [go_sem, *])) (first | (go_at_call 45; (with_reducible refine (toCond_any o0 t0 q0 x0 k0 a0 n0 c0 _ (HP0.out.below (Below.refl _ _).drew) hl1_0).mono ?_); rintro e u2_1 ⟨yA, rfl, hyA, hb2_1⟩; have hq2_1 := Below.next (Below.refl _ _).drew hb2_1; have hz2_A := Below.refl u2_1.heap.size u2_1; obtain ⟨hc2_1, hf2_1⟩ := bcell hq2_1) | (go_at_call 45; (with_reducible refine (toCond_any o1 t1 q1 x1 k1 a1 n1 c1 _ (HP1.out.below hq2_1) hl1_1).mono ?_); rintro e u2_2 ⟨yB, rfl, hyB, hb2_2⟩; have hq2_2 := Below.next hq2_1 hb2_2; have hz2_A := Below.next hz2_A hb2_2; have hz2_B := Below.refl u2_2.heap.size u2_2; obtain ⟨hc2_2, hf2_2⟩ := bcell hq2_2) | (go_at_call 44; (with_reducible refine (CondSameS_any o0 t0 q0 x0 o1 t1 q1 x1 k0 k1 yA.a yB.a yA.n yA.cap yB.n yB.cap R _ ((hyA.low (Nat.zero_le _)).below hz2_A) ((hyB.low (Nat.zero_le _)).below hz2_B) HR.out).mono ?_); rintro e u2_3 ⟨rfl, hb2_3⟩; have hq2_3 := Below.next hq2_2 hb2_3; have hz2_A := Below.next hz2_A hb2_3; have hz2_B := Below.next hz2_B hb2_3; obtain ⟨hc2_3, hf2_3⟩ := bcell hq2_3))
        all_goals
          go_wp2_with fail
          go_meet
          exact ⟨rfl, hq2_3⟩
      case rest =>
        obtain ⟨rfl, hb3⟩ := hcut
        clear lBA0 eBA00 eBA01 eBA02 eBA03 eBA04 lBA1 eBA10 eBA11 eBA12 eBA13 eBA14
        replace HBW := hide (Below.next HBW.out hb3)
        replace HP0 := hide (HP0.out.below hb3)
        replace HP1 := hide (HP1.out.below hb3)
        replace BA0 := hide (BA0.out.below hb3)
        replace BA1 := hide (BA1.out.below hb3)
        generalize wc = w3 at *
        obtain ⟨lBA0, eBA00, eBA01, eBA02, eBA03, eBA04⟩ := BA0.out
        obtain ⟨lBA1, eBA10, eBA11, eBA12, eBA13, eBA14⟩ := BA1.out
        go_wp2_with fail
        clear lBA0 eBA00 eBA01 eBA02 eBA03 eBA04 lBA1 eBA10 eBA11 eBA12 eBA13 eBA14
        (with_reducible refine (toCond_any o0 t0 q0 x0 k0 a0 n0 c0 _ HP0.out hl1_0).mono ?_); rintro e w4 ⟨yX, rfl, hyX, hb4⟩
        replace HBW := hide (Below.next HBW.out hb4)
        replace HP0 := hide (HP0.out.below hb4)
        replace HP1 := hide (HP1.out.below hb4)
        replace BA0 := hide (BA0.out.below hb4)
        replace BA1 := hide (BA1.out.below hb4)
        have HX := hide (hyX.low (Nat.zero_le _)); clear hyX
        obtain ⟨lBA0, eBA00, eBA01, eBA02, eBA03, eBA04⟩ := BA0.out
        obtain ⟨lBA1, eBA10, eBA11, eBA12, eBA13, eBA14⟩ := BA1.out
        go_wp2_with fail
        clear lBA0 eBA00 eBA01 eBA02 eBA03 eBA04 lBA1 eBA10 eBA11 eBA12 eBA13 eBA14
        generalize hV : w4.alloc (.cells #[.int .i64 o0, .int .i64 t0, .int .i64 q0, .int .i64 x0, .slice yX.a yX.n yX.cap] 55) = V5 at *
        have hb5 : Below w4.heap.size w4 V5 := by rw [← hV]; exact below_alloc _ _
        have BX : BoxC V5 w4.heap.size o0 t0 q0 x0 yX.a yX.n yX.cap := by rw [← hV]; exact BoxC.new _ _ _ _ _ _ _ _ _
        clear hV
        replace BX := hide BX
        replace HBW := hide (Below.next HBW.out hb5)
        replace HP0 := hide (HP0.out.below hb5)
        replace HP1 := hide (HP1.out.below hb5)
        replace HX := hide (HX.out.below hb5)
        replace BA0 := hide (BA0.out.below hb5)
        replace BA1 := hide (BA1.out.below hb5)
        (with_reducible refine (toCond_any o1 t1 q1 x1 k1 a1 n1 c1 _ HP1.out hl1_1).mono ?_); rintro e w6 ⟨yY, rfl, hyY, hb6⟩
        replace HBW := hide (Below.next HBW.out hb6)
        replace HP0 := hide (HP0.out.below hb6)
        replace HP1 := hide (HP1.out.below hb6)
        replace HX := hide (HX.out.below hb6)
        replace BA0 := hide (BA0.out.below hb6)
        replace BA1 := hide (BA1.out.below hb6)
        replace BX := hide (BX.out.below hb6)
        have HY := hide (hyY.low (Nat.zero_le _)); clear hyY
        obtain ⟨lBA0, eBA00, eBA01, eBA02, eBA03, eBA04⟩ := BA0.out
        obtain ⟨lBA1, eBA10, eBA11, eBA12, eBA13, eBA14⟩ := BA1.out
        obtain ⟨lBX, eBX0, eBX1, eBX2, eBX3, eBX4⟩ := BX.out
        go_wp2_with fail
        clear lBA0 eBA00 eBA01 eBA02 eBA03 eBA04 lBA1 eBA10 eBA11 eBA12 eBA13 eBA14 lBX eBX0 eBX1 eBX2 eBX3 eBX4
        generalize hV : w6.alloc (.cells #[.int .i64 o1, .int .i64 t1, .int .i64 q1, .int .i64 x1, .slice yY.a yY.n yY.cap] 55) = V7 at *
        have hb7 : Below w6.heap.size w6 V7 := by rw [← hV]; exact below_alloc _ _
        have BY : BoxC V7 w6.heap.size o1 t1 q1 x1 yY.a yY.n yY.cap := by rw [← hV]; exact BoxC.new _ _ _ _ _ _ _ _ _
        clear hV
        replace BY := hide BY
        replace HBW := hide (Below.next HBW.out hb7)
        replace HP0 := hide (HP0.out.below hb7)
        replace HP1 := hide (HP1.out.below hb7)
        replace HX := hide (HX.out.below hb7)
        replace HY := hide (HY.out.below hb7)
        replace BA0 := hide (BA0.out.below hb7)
        replace BA1 := hide (BA1.out.below hb7)
        replace BX := hide (BX.out.below hb7)
        (with_reducible refine (CondSame_any o0 t0 q0 x0 o1 t1 q1 x1 k0 k1 yX.a yY.a yX.n yX.cap yY.n yY.cap R _ HX.out HY.out HR.out).mono ?_); rintro e w8 ⟨rfl, hb8⟩
        replace HBW := hide (Below.next HBW.out hb8)
        replace HP0 := hide (HP0.out.below hb8)
        replace HP1 := hide (HP1.out.below hb8)
        replace HX := hide (HX.out.below hb8)
        replace HY := hide (HY.out.below hb8)
        replace BA0 := hide (BA0.out.below hb8)
        replace BA1 := hide (BA1.out.below hb8)
        replace BX := hide (BX.out.below hb8)
        replace BY := hide (BY.out.below hb8)
        obtain ⟨lBA0, eBA00, eBA01, eBA02, eBA03, eBA04⟩ := BA0.out
        obtain ⟨lBA1, eBA10, eBA11, eBA12, eBA13, eBA14⟩ := BA1.out
        obtain ⟨lBX, eBX0, eBX1, eBX2, eBX3, eBX4⟩ := BX.out
        obtain ⟨lBY, eBY0, eBY1, eBY2, eBY3, eBY4⟩ := BY.out
        go_wp2_with fail
        clear lBA0 eBA00 eBA01 eBA02 eBA03 eBA04 lBA1 eBA10 eBA11 eBA12 eBA13 eBA14 lBX eBX0 eBX1 eBX2 eBX3 eBX4 lBY eBY0 eBY1 eBY2 eBY3 eBY4
        obtain ⟨lBX, eBX0, eBX1, eBX2, eBX3, eBX4⟩ := BX.out
        obtain ⟨lBA0, eBA00, eBA01, eBA02, eBA03, eBA04⟩ := BA0.out
        go_cut [39] (fun s V => s = .bool false ∧ Below w8.heap.size w8 V)
        case first =>
          go_region_held3 (fun V => V.cell? ⟨w4.heap.size, 0, none⟩ = some (.int .i64 o0) ∧ V.cell? ⟨w4.heap.size, 1, none⟩ = some (.int .i64 t0) ∧ V.cell? ⟨w4.heap.size, 2, none⟩ = some (.int .i64 q0) ∧ V.cell? ⟨w4.heap.size, 3, none⟩ = some (.int .i64 x0) ∧ V.cell? ⟨w4.heap.size, 4, none⟩ = some (.slice yX.a yX.n yX.cap) ∧ V.cell? ⟨w.heap.size, 0, none⟩ = some (.int .i64 o0) ∧ V.cell? ⟨w.heap.size, 1, none⟩ = some (.int .i64 t0) ∧ V.cell? ⟨w.heap.size, 2, none⟩ = some (.int .i64 q0) ∧ V.cell? ⟨w.heap.size, 3, none⟩ = some (.int .i64 x0) ∧ V.cell? ⟨w.heap.size, 4, none⟩ = some (.slice a0 n0 c0)) ((simp [go_sem, *])) (first | (go_at_call 45; (with_reducible refine (toCond_any o0 t0 q0 x0 k0 a0 n0 c0 _ (HP0.out.below (Below.refl _ _).drew) hl1_0).mono ?_); rintro e u8_1 ⟨yD, rfl, hyD, hb8_1⟩; have hq8_1 := Below.next (Below.refl _ _).drew hb8_1; have hz8_D := Below.refl u8_1.heap.size u8_1; obtain ⟨hc8_1, hf8_1⟩ := bcell hq8_1) | (go_at_call 47; (with_reducible refine (eqCond_any o0 t0 q0 x0 o0 t0 q0 x0 k0 k0 yX.a yD.a yX.n yX.cap yD.n yD.cap true _ (HX.out.below hq8_1) ((hyD.low (Nat.zero_le _)).below hz8_D) (by simp)).mono ?_); rintro e u8_2 ⟨rfl, hb8_2⟩; have hq8_2 := Below.next hq8_1 hb8_2; have hz8_D := Below.next hz8_D hb8_2; obtain ⟨hc8_2, hf8_2⟩ := bcell hq8_2))
          all_goals
            go_wp2_with fail
            go_meet
            exact ⟨rfl, hq8_2⟩
        case rest =>
          obtain ⟨rfl, hb9⟩ := hcut
          clear lBX eBX0 eBX1 eBX2 eBX3 eBX4 lBA0 eBA00 eBA01 eBA02 eBA03 eBA04
          replace HBW := hide (Below.next HBW.out hb9)
          replace HP0 := hide (HP0.out.below hb9)
          replace HP1 := hide (HP1.out.below hb9)
          replace HX := hide (HX.out.below hb9)
          replace HY := hide (HY.out.below hb9)
          replace BA0 := hide (BA0.out.below hb9)
          replace BA1 := hide (BA1.out.below hb9)
          replace BX := hide (BX.out.below hb9)
          replace BY := hide (BY.out.below hb9)
          generalize wc = w9 at *
          obtain ⟨lBA0, eBA00, eBA01, eBA02, eBA03, eBA04⟩ := BA0.out
          obtain ⟨lBA1, eBA10, eBA11, eBA12, eBA13, eBA14⟩ := BA1.out
          obtain ⟨lBX, eBX0, eBX1, eBX2, eBX3, eBX4⟩ := BX.out
          obtain ⟨lBY, eBY0, eBY1, eBY2, eBY3, eBY4⟩ := BY.out
          go_wp2_with fail
          clear lBA0 eBA00 eBA01 eBA02 eBA03 eBA04 lBA1 eBA10 eBA11 eBA12 eBA13 eBA14 lBX eBX0 eBX1 eBX2 eBX3 eBX4 lBY eBY0 eBY1 eBY2 eBY3 eBY4
          obtain ⟨lBY, eBY0, eBY1, eBY2, eBY3, eBY4⟩ := BY.out
          obtain ⟨lBA1, eBA10, eBA11, eBA12, eBA13, eBA14⟩ := BA1.out
          go_cut [44] (fun s V => s = .bool false ∧ Below w9.heap.size w9 V)
          case first =>
            go_region_held3 (fun V => V.cell? ⟨w6.heap.size, 0, none⟩ = some (.int .i64 o1) ∧ V.cell? ⟨w6.heap.size, 1, none⟩ = some (.int .i64 t1) ∧ V.cell? ⟨w6.heap.size, 2, none⟩ = some (.int .i64 q1) ∧ V.cell? ⟨w6.heap.size, 3, none⟩ = some (.int .i64 x1) ∧ V.cell? ⟨w6.heap.size, 4, none⟩ = some (.slice yY.a yY.n yY.cap) ∧ V.cell? ⟨w.heap.size + 1, 0, none⟩ = some (.int .i64 o1) ∧ V.cell? ⟨w.heap.size + 1, 1, none⟩ = some (.int .i64 t1) ∧ V.cell? ⟨w.heap.size + 1, 2, none⟩ = some (.int .i64 q1) ∧ V.cell? ⟨w.heap.size + 1, 3, none⟩ = some (.int .i64 x1) ∧ V.cell? ⟨w.heap.size + 1, 4, none⟩ = some (.slice a1 n1 c1)) ((simp [go_sem, *])) (first | (go_at_call 45; (with_reducible refine (toCond_any o1 t1 q1 x1 k1 a1 n1 c1 _ (HP1.out.below (Below.refl _ _).drew) hl1_1).mono ?_); rintro e u9_1 ⟨yE, rfl, hyE, hb9_1⟩; have hq9_1 := Below.next (Below.refl _ _).drew hb9_1; have hz9_E := Below.refl u9_1.heap.size u9_1; obtain ⟨hc9_1, hf9_1⟩ := bcell hq9_1) | (go_at_call 47; (with_reducible refine (eqCond_any o1 t1 q1 x1 o1 t1 q1 x1 k1 k1 yY.a yE.a yY.n yY.cap yE.n yE.cap true _ (HY.out.below hq9_1) ((hyE.low (Nat.zero_le _)).below hz9_E) (by simp)).mono ?_); rintro e u9_2 ⟨rfl, hb9_2⟩; have hq9_2 := Below.next hq9_1 hb9_2; have hz9_E := Below.next hz9_E hb9_2; obtain ⟨hc9_2, hf9_2⟩ := bcell hq9_2))
            all_goals
              go_wp2_with fail
              go_meet
              exact ⟨rfl, hq9_2⟩
          case rest =>
            obtain ⟨rfl, hb10⟩ := hcut
            clear lBY eBY0 eBY1 eBY2 eBY3 eBY4 lBA1 eBA10 eBA11 eBA12 eBA13 eBA14
            replace HBW := hide (Below.next HBW.out hb10)
            replace HP0 := hide (HP0.out.below hb10)
            replace HP1 := hide (HP1.out.below hb10)
            replace HX := hide (HX.out.below hb10)
            replace HY := hide (HY.out.below hb10)
            replace BA0 := hide (BA0.out.below hb10)
            replace BA1 := hide (BA1.out.below hb10)
            replace BX := hide (BX.out.below hb10)
            replace BY := hide (BY.out.below hb10)
            generalize wc = w10 at *
            go_wp2_with fail
            go_ret
            exact ⟨rfl, HBW.out⟩

end Go.Proofs.Ytlnmlmpmpnjfmaa
