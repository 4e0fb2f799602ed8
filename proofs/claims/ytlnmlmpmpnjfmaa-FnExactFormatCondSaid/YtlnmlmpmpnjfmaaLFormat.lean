/-
  The walk of FnExactFormatCond: it answers true and turns nothing that was there. No condition.
-/
import Derived.Test.YtlnmlmpmpnjfmaaX1
import Derived.Test.YtlnmlmpmpnjfmaaT8
namespace Go.Proofs.Ytlnmlmpmpnjfmaa
open Go.RowKit

set_option maxRecDepth 100000 in
set_option maxHeartbeats 3200000 in
theorem lawFormatCond (o0 t0 q0 x0 : Int) (a0 : Option Addr) (n0 c0 : Nat) (k0 : List Cd) (w : World) (hp0 : RepK 0 w ⟨a0, n0, c0⟩ k0) :
    Calls Try.prog 11 #[.agg #[.int .i64 o0, .int .i64 t0, .int .i64 q0, .int .i64 x0, .slice a0 n0 c0]] w fun e w' => e = .returned (.bool true) ∧ Below w.heap.size w w' := by
  have HP0 := hide hp0; clear hp0
  have hbase := ((Below.refl w.heap.size w).alloc (Nat.le_refl _) (.cells #[.int .i64 o0, .int .i64 t0, .int .i64 q0, .int .i64 x0, .slice a0 n0 c0] 50))
  have HBW := hide hbase; clear hbase
  replace HP0 := hide (HP0.out.below HBW.out)
  have HS0 := hide (fun w' h => szCond_any o0 t0 q0 x0 k0 a0 n0 c0 1048576 w' h (by omega) (by omega))
  have LE0 := hide (fun h => szK_le k0 1048576 h (by omega))
  generalize szK k0 1048576 = z0 at *
  by_cases hs0 : z0 < 0
  · go_enter Try.func11, Try.ntmps11
    go_wp2_with fail
    generalize hW : (w.alloc (.cells #[.int .i64 o0, .int .i64 t0, .int .i64 q0, .int .i64 x0, .slice a0 n0 c0] 50)) = W at *
    have BA0 : BoxC W (w.heap.size) o0 t0 q0 x0 a0 n0 c0 := by rw [← hW]; exact BoxC.new _ _ _ _ _ _ _ _ _
    clear hW
    replace BA0 := hide BA0
    (with_reducible refine (HS0.out _ HP0.out).mono ?_); rintro e w1 ⟨rfl, hb1⟩
    replace HBW := hide (Below.next HBW.out hb1)
    replace HP0 := hide (HP0.out.below hb1)
    replace BA0 := hide (BA0.out.below hb1)
    obtain ⟨lBA0, eBA00, eBA01, eBA02, eBA03, eBA04⟩ := BA0.out
    go_wp2_with fail
    clear lBA0 eBA00 eBA01 eBA02 eBA03 eBA04
    go_ret
    exact ⟨rfl, HBW.out⟩
  · obtain ⟨hz0, hl1_0⟩ := LE0.out hs0
    generalize hR : fmtC (Cd.mk o0 t0 q0 x0 k0) = R at *
    have HI := hide (fun a n c w' h => by have := FormatCond_any o0 t0 q0 x0 k0 a n c w' h; rw [hR] at this; exact this)
    have HS := hide (fun a n c w' h => by have := FormatCondS_any o0 t0 q0 x0 k0 a n c w' h hl1_0; rw [hR] at this; exact this)
    clear hR
    go_enter Try.func11, Try.ntmps11
    go_wp2_with fail
    generalize hW : (w.alloc (.cells #[.int .i64 o0, .int .i64 t0, .int .i64 q0, .int .i64 x0, .slice a0 n0 c0] 50)) = W at *
    have BA0 : BoxC W (w.heap.size) o0 t0 q0 x0 a0 n0 c0 := by rw [← hW]; exact BoxC.new _ _ _ _ _ _ _ _ _
    clear hW
    replace BA0 := hide BA0
    (with_reducible refine (HS0.out _ HP0.out).mono ?_); rintro e w1 ⟨rfl, hb1⟩
    replace HBW := hide (Below.next HBW.out hb1)
    replace HP0 := hide (HP0.out.below hb1)
    replace BA0 := hide (BA0.out.below hb1)
    obtain ⟨lBA0, eBA00, eBA01, eBA02, eBA03, eBA04⟩ := BA0.out
    go_wp2_with fail
    clear lBA0 eBA00 eBA01 eBA02 eBA03 eBA04
    (with_reducible refine (toCond_any o0 t0 q0 x0 k0 a0 n0 c0 _ HP0.out hl1_0).mono ?_); rintro e w2 ⟨yA, rfl, hyA, hb2⟩
    replace HBW := hide (Below.next HBW.out hb2)
    replace HP0 := hide (HP0.out.below hb2)
    replace BA0 := hide (BA0.out.below hb2)
    have HA := hide (hyA.low (Nat.zero_le _)); clear hyA
    obtain ⟨lBA0, eBA00, eBA01, eBA02, eBA03, eBA04⟩ := BA0.out
    go_wp2_with fail
    clear lBA0 eBA00 eBA01 eBA02 eBA03 eBA04
    (with_reducible refine (HS.out yA.a yA.n yA.cap _ HA.out).mono ?_); rintro e w3 ⟨rfl, hb3⟩
    replace HBW := hide (Below.next HBW.out hb3)
    replace HP0 := hide (HP0.out.below hb3)
    replace HA := hide (HA.out.below hb3)
    replace BA0 := hide (BA0.out.below hb3)
    obtain ⟨lBA0, eBA00, eBA01, eBA02, eBA03, eBA04⟩ := BA0.out
    go_wp2_with fail
    clear lBA0 eBA00 eBA01 eBA02 eBA03 eBA04
    (with_reducible refine (toCond_any o0 t0 q0 x0 k0 a0 n0 c0 _ HP0.out hl1_0).mono ?_); rintro e w4 ⟨yX, rfl, hyX, hb4⟩
    replace HBW := hide (Below.next HBW.out hb4)
    replace HP0 := hide (HP0.out.below hb4)
    replace HA := hide (HA.out.below hb4)
    replace BA0 := hide (BA0.out.below hb4)
    have HX := hide (hyX.low (Nat.zero_le _)); clear hyX
    obtain ⟨lBA0, eBA00, eBA01, eBA02, eBA03, eBA04⟩ := BA0.out
    go_wp2_with fail
    clear lBA0 eBA00 eBA01 eBA02 eBA03 eBA04
    generalize hV : w4.alloc (.cells #[.int .i64 o0, .int .i64 t0, .int .i64 q0, .int .i64 x0, .slice yX.a yX.n yX.cap] 55) = V5 at *
    have hb5 : Below w4.heap.size w4 V5 := by rw [← hV]; exact below_alloc _ _
    have BX : BoxC V5 w4.heap.size o0 t0 q0 x0 yX.a yX.n yX.cap := by rw [← hV]; exact BoxC.new _ _ _ _ _ _ _ _ _
    clear hV
    replace BX := hide BX
    replace HBW := hide (Below.next HBW.out hb5)
    replace HP0 := hide (HP0.out.below hb5)
    replace HA := hide (HA.out.below hb5)
    replace HX := hide (HX.out.below hb5)
    replace BA0 := hide (BA0.out.below hb5)
    (with_reducible refine (HI.out yX.a yX.n yX.cap _ HX.out).mono ?_); rintro e w6 ⟨rfl, hb6⟩
    replace HBW := hide (Below.next HBW.out hb6)
    replace HP0 := hide (HP0.out.below hb6)
    replace HA := hide (HA.out.below hb6)
    replace HX := hide (HX.out.below hb6)
    replace BA0 := hide (BA0.out.below hb6)
    replace BX := hide (BX.out.below hb6)
    obtain ⟨lBA0, eBA00, eBA01, eBA02, eBA03, eBA04⟩ := BA0.out
    obtain ⟨lBX, eBX0, eBX1, eBX2, eBX3, eBX4⟩ := BX.out
    go_wp2_with fail
    clear lBA0 eBA00 eBA01 eBA02 eBA03 eBA04 lBX eBX0 eBX1 eBX2 eBX3 eBX4
    obtain ⟨lBX, eBX0, eBX1, eBX2, eBX3, eBX4⟩ := BX.out
    obtain ⟨lBA0, eBA00, eBA01, eBA02, eBA03, eBA04⟩ := BA0.out
    go_cut [26] (fun s V => s = .bool false ∧ Below w6.heap.size w6 V)
    case first =>
      go_region_held3 (fun V => V.cell? ⟨w4.heap.size, 0, none⟩ = some (.int .i64 o0) ∧ V.cell? ⟨w4.heap.size, 1, none⟩ = some (.int .i64 t0) ∧ V.cell? ⟨w4.heap.size, 2, none⟩ = some (.int .i64 q0) ∧ V.cell? ⟨w4.heap.size, 3, none⟩ = some (.int .i64 x0) ∧ V.cell? ⟨w4.heap.size, 4, none⟩ = some (.slice yX.a yX.n yX.cap) ∧ V.cell? ⟨w.heap.size, 0, none⟩ = some (.int .i64 o0) ∧ V.cell? ⟨w.heap.size, 1, none⟩ = some (.int .i64 t0) ∧ V.cell? ⟨w.heap.size, 2, none⟩ = some (.int .i64 q0) ∧ V.cell? ⟨w.heap.size, 3, none⟩ = some (.int .i64 x0) ∧ V.cell? ⟨w.heap.size, 4, none⟩ = some (.slice a0 n0 c0)) ((simp [go_sem, *])) (first | (go_at_call 45; (with_reducible refine (toCond_any o0 t0 q0 x0 k0 a0 n0 c0 _ (HP0.out.below (Below.refl _ _).drew) hl1_0).mono ?_); rintro e u6_1 ⟨yD, rfl, hyD, hb6_1⟩; have hq6_1 := Below.next (Below.refl _ _).drew hb6_1; have hz6_D := Below.refl u6_1.heap.size u6_1; obtain ⟨hc6_1, hf6_1⟩ := bcell hq6_1) | (go_at_call 47; (with_reducible refine (eqCond_any o0 t0 q0 x0 o0 t0 q0 x0 k0 k0 yX.a yD.a yX.n yX.cap yD.n yD.cap true _ (HX.out.below hq6_1) ((hyD.low (Nat.zero_le _)).below hz6_D) (by simp)).mono ?_); rintro e u6_2 ⟨rfl, hb6_2⟩; have hq6_2 := Below.next hq6_1 hb6_2; have hz6_D := Below.next hz6_D hb6_2; obtain ⟨hc6_2, hf6_2⟩ := bcell hq6_2))
      all_goals
        go_wp2_with fail
        go_meet
        exact ⟨rfl, hq6_2⟩
    case rest =>
      obtain ⟨rfl, hb7⟩ := hcut
      clear lBX eBX0 eBX1 eBX2 eBX3 eBX4 lBA0 eBA00 eBA01 eBA02 eBA03 eBA04
      replace HBW := hide (Below.next HBW.out hb7)
      replace HP0 := hide (HP0.out.below hb7)
      replace HA := hide (HA.out.below hb7)
      replace HX := hide (HX.out.below hb7)
      replace BA0 := hide (BA0.out.below hb7)
      replace BX := hide (BX.out.below hb7)
      generalize wc = w7 at *
      go_wp2_with fail
      go_ret
      exact ⟨rfl, HBW.out⟩

end Go.Proofs.Ytlnmlmpmpnjfmaa
