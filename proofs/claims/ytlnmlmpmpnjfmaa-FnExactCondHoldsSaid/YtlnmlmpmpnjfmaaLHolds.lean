/-
  The walk of FnExactCondHolds: it answers true and turns nothing that was there. No condition.
-/
import Derived.Test.YtlnmlmpmpnjfmaaX1
import Derived.Test.YtlnmlmpmpnjfmaaN5
namespace Go.Proofs.Ytlnmlmpmpnjfmaa
open Go.RowKit

set_option maxRecDepth 100000 in
set_option maxHeartbeats 3200000 in
theorem lawCondHolds (v0 : Value) (p0 : List (List Ins)) (v1 : Value) (p1 : List Int) (o2 t2 q2 x2 : Int) (a2 : Option Addr) (n2 c2 : Nat) (k2 : List Cd) (w : World) (hp0 : RepP w v0 p0) (hp1 : Rep IntE w v1 p1) (hp2 : RepK 0 w ⟨a2, n2, c2⟩ k2) :
    Calls Try.prog 13 #[v0, v1, .agg #[.int .i64 o2, .int .i64 t2, .int .i64 q2, .int .i64 x2, .slice a2 n2 c2]] w fun e w' => e = .returned (.bool true) ∧ Below w.heap.size w w' := by
  have HP0 := hide hp0; clear hp0
  obtain ⟨a0, c0, rfl, -, hm0, -, -⟩ := HP0.out.open
  have HP1 := hide hp1; clear hp1
  obtain ⟨a1, c1, rfl, -, hm1, -, -⟩ := HP1.out.open
  have HP2 := hide hp2; clear hp2
  have hbase := ((Below.refl w.heap.size w).alloc (Nat.le_refl _) (.cells #[.int .i64 o2, .int .i64 t2, .int .i64 q2, .int .i64 x2, .slice a2 n2 c2] 50))
  have HBW := hide hbase; clear hbase
  replace HP0 := hide (HP0.out.below HBW.out)
  replace HP1 := hide (HP1.out.below HBW.out)
  replace HP2 := hide (HP2.out.below HBW.out)
  by_cases hI1 : ((p1.length : Int) > 1048576)
  · generalize p1.length = N1 at *
    go_enter Try.func13, Try.ntmps13
    go_wp2_with fail
    go_ret
    exact ⟨rfl, HBW.out⟩
  · replace hI1 : p1.length ≤ 1048576 := by omega
    have HS0 := hide (fun w' h => szInstrSS_any (.slice a0 p0.length c0) p0 1048576 w' h (by omega) (by omega))
    have LE0 := hide (fun h => szPP_le2 p0 1048576 h (by omega))
    generalize szPP p0 1048576 = z0 at *
    by_cases hs0 : z0 < 0
    · go_enter Try.func13, Try.ntmps13
      go_wp2_with fail
      generalize hW : (w.alloc (.cells #[.int .i64 o2, .int .i64 t2, .int .i64 q2, .int .i64 x2, .slice a2 n2 c2] 50)) = W at *
      have BA2 : BoxC W (w.heap.size) o2 t2 q2 x2 a2 n2 c2 := by rw [← hW]; exact BoxC.new _ _ _ _ _ _ _ _ _
      clear hW
      replace BA2 := hide BA2
      (with_reducible refine (HS0.out _ HP0.out).mono ?_); rintro e w1 ⟨rfl, hb1⟩
      replace HBW := hide (Below.next HBW.out hb1)
      replace HP0 := hide (HP0.out.below hb1)
      replace HP1 := hide (HP1.out.below hb1)
      replace HP2 := hide (HP2.out.below hb1)
      replace BA2 := hide (BA2.out.below hb1)
      obtain ⟨lBA2, eBA20, eBA21, eBA22, eBA23, eBA24⟩ := BA2.out
      go_wp2_with fail
      clear lBA2 eBA20 eBA21 eBA22 eBA23 eBA24
      go_ret
      exact ⟨rfl, HBW.out⟩
    · obtain ⟨hz0, hl1_0, hl2_0, hl3_0⟩ := LE0.out hs0
      have HL3_0 := hide hl3_0; clear hl3_0
      have HS2 := hide (fun w' h => szCond_any o2 t2 q2 x2 k2 a2 n2 c2 z0 w' h (by omega) (by omega))
      have LE2 := hide (fun h => szK_le k2 z0 h (by omega))
      generalize szK k2 z0 = z2 at *
      by_cases hs2 : z2 < 0
      · go_enter Try.func13, Try.ntmps13
        go_wp2_with fail
        generalize hW : (w.alloc (.cells #[.int .i64 o2, .int .i64 t2, .int .i64 q2, .int .i64 x2, .slice a2 n2 c2] 50)) = W at *
        have BA2 : BoxC W (w.heap.size) o2 t2 q2 x2 a2 n2 c2 := by rw [← hW]; exact BoxC.new _ _ _ _ _ _ _ _ _
        clear hW
        replace BA2 := hide BA2
        (with_reducible refine (HS0.out _ HP0.out).mono ?_); rintro e w1 ⟨rfl, hb1⟩
        replace HBW := hide (Below.next HBW.out hb1)
        replace HP0 := hide (HP0.out.below hb1)
        replace HP1 := hide (HP1.out.below hb1)
        replace HP2 := hide (HP2.out.below hb1)
        replace BA2 := hide (BA2.out.below hb1)
        obtain ⟨lBA2, eBA20, eBA21, eBA22, eBA23, eBA24⟩ := BA2.out
        go_wp2_with fail
        clear lBA2 eBA20 eBA21 eBA22 eBA23 eBA24
        (with_reducible refine (HS2.out _ HP2.out).mono ?_); rintro e w2 ⟨rfl, hb2⟩
        replace HBW := hide (Below.next HBW.out hb2)
        replace HP0 := hide (HP0.out.below hb2)
        replace HP1 := hide (HP1.out.below hb2)
        replace HP2 := hide (HP2.out.below hb2)
        replace BA2 := hide (BA2.out.below hb2)
        obtain ⟨lBA2, eBA20, eBA21, eBA22, eBA23, eBA24⟩ := BA2.out
        go_wp2_with fail
        clear lBA2 eBA20 eBA21 eBA22 eBA23 eBA24
        go_ret
        exact ⟨rfl, HBW.out⟩
      · obtain ⟨hz2, hl1_2⟩ := LE2.out hs2
        generalize hR : condHolds p0 p1 (Cd.mk o2 t2 q2 x2 k2) = R at *
        have HI := hide (fun v v' a n c w' hp ho h => by have := CondHolds_any v v' p0 p1 o2 t2 q2 x2 k2 a n c w' hp ho h hl2_0 hl1_0; rw [hR] at this; exact this)
        have HS := hide (fun v v' a n c w' hp ho h => by have := CondHoldsS_any v v' p0 p1 o2 t2 q2 x2 k2 a n c w' hp ho h hl2_0 hl1_0 hl1_2; rw [hR] at this; exact this)
        clear hR
        have hneq : (R != R) = false := by simp
        go_enter Try.func13, Try.ntmps13
        go_wp2_with fail
        generalize hW : (w.alloc (.cells #[.int .i64 o2, .int .i64 t2, .int .i64 q2, .int .i64 x2, .slice a2 n2 c2] 50)) = W at *
        have BA2 : BoxC W (w.heap.size) o2 t2 q2 x2 a2 n2 c2 := by rw [← hW]; exact BoxC.new _ _ _ _ _ _ _ _ _
        clear hW
        replace BA2 := hide BA2
        (with_reducible refine (HS0.out _ HP0.out).mono ?_); rintro e w1 ⟨rfl, hb1⟩
        replace HBW := hide (Below.next HBW.out hb1)
        replace HP0 := hide (HP0.out.below hb1)
        replace HP1 := hide (HP1.out.below hb1)
        replace HP2 := hide (HP2.out.below hb1)
        replace BA2 := hide (BA2.out.below hb1)
        obtain ⟨lBA2, eBA20, eBA21, eBA22, eBA23, eBA24⟩ := BA2.out
        go_wp2_with fail
        clear lBA2 eBA20 eBA21 eBA22 eBA23 eBA24
        (with_reducible refine (HS2.out _ HP2.out).mono ?_); rintro e w2 ⟨rfl, hb2⟩
        replace HBW := hide (Below.next HBW.out hb2)
        replace HP0 := hide (HP0.out.below hb2)
        replace HP1 := hide (HP1.out.below hb2)
        replace HP2 := hide (HP2.out.below hb2)
        replace BA2 := hide (BA2.out.below hb2)
        obtain ⟨lBA2, eBA20, eBA21, eBA22, eBA23, eBA24⟩ := BA2.out
        go_wp2_with fail
        clear lBA2 eBA20 eBA21 eBA22 eBA23 eBA24
        obtain ⟨lBA2, eBA20, eBA21, eBA22, eBA23, eBA24⟩ := BA2.out
        go_cut [8] (fun s V => s = .bool R ∧ Below w2.heap.size w2 V)
        case first =>
          go_region_held3 (fun V => V.cell? ⟨w.heap.size, 0, none⟩ = some (.int .i64 o2) ∧ V.cell? ⟨w.heap.size, 1, none⟩ = some (.int .i64 t2) ∧ V.cell? ⟨w.heap.size, 2, none⟩ = some (.int .i64 q2) ∧ V.cell? ⟨w.heap.size, 3, none⟩ = some (.int .i64 x2) ∧ V.cell? ⟨w.heap.size, 4, none⟩ = some (.slice a2 n2 c2)) ((simp [go_sem, *])) (first | (go_at_call 17; (with_reducible refine (toInstrSS_any _ p0 _ (HP0.out.below (Below.refl _ _).drew) hl1_0 HL3_0.out).mono ?_); rintro e u2_1 ⟨yA, rfl, hyA, hb2_1⟩; obtain ⟨yaA, ycA, rfl, -, -, -, -⟩ := hyA.rep.open; have hq2_1 := Below.next (Below.refl _ _).drew hb2_1; have hz2_A := Below.refl u2_1.heap.size u2_1; obtain ⟨hc2_1, hf2_1⟩ := bcell hq2_1) | (go_at_call 57; (with_reducible refine (toIntS_any _ p1 _ (HP1.out.below hq2_1) (by omega)).mono ?_); rintro e u2_2 ⟨yB, rfl, hyB, hb2_2⟩; obtain ⟨yaB, ycB, rfl, -, -, -, -⟩ := hyB.rep.open; have hq2_2 := Below.next hq2_1 hb2_2; have hz2_A := Below.next hz2_A hb2_2; have hz2_B := Below.refl u2_2.heap.size u2_2; obtain ⟨hc2_2, hf2_2⟩ := bcell hq2_2) | (go_at_call 45; (with_reducible refine (toCond_any o2 t2 q2 x2 k2 a2 n2 c2 _ (HP2.out.below hq2_2) hl1_2).mono ?_); rintro e u2_3 ⟨yC, rfl, hyC, hb2_3⟩; have hq2_3 := Below.next hq2_2 hb2_3; have hz2_A := Below.next hz2_A hb2_3; have hz2_B := Below.next hz2_B hb2_3; have hz2_C := Below.refl u2_3.heap.size u2_3; obtain ⟨hc2_3, hf2_3⟩ := bcell hq2_3) | (go_at_call 56; (with_reducible refine (HS.out _ _ yC.a yC.n yC.cap _ ((hyA.below hz2_A).rep) ((hyB.below hz2_B).rep) ((hyC.low (Nat.zero_le _)).below hz2_C)).mono ?_); rintro e u2_4 ⟨rfl, hb2_4⟩; have hq2_4 := Below.next hq2_3 hb2_4; have hz2_A := Below.next hz2_A hb2_4; have hz2_B := Below.next hz2_B hb2_4; have hz2_C := Below.next hz2_C hb2_4; obtain ⟨hc2_4, hf2_4⟩ := bcell hq2_4))
          all_goals
            go_wp2_with fail
            go_meet
            exact ⟨rfl, hq2_4⟩
        case rest =>
          obtain ⟨rfl, hb3⟩ := hcut
          clear lBA2 eBA20 eBA21 eBA22 eBA23 eBA24
          replace HBW := hide (Below.next HBW.out hb3)
          replace HP0 := hide (HP0.out.below hb3)
          replace HP1 := hide (HP1.out.below hb3)
          replace HP2 := hide (HP2.out.below hb3)
          replace BA2 := hide (BA2.out.below hb3)
          generalize wc = w3 at *
          obtain ⟨lBA2, eBA20, eBA21, eBA22, eBA23, eBA24⟩ := BA2.out
          go_wp2_with fail
          clear lBA2 eBA20 eBA21 eBA22 eBA23 eBA24
          (with_reducible refine (toInstrSS_any _ p0 _ HP0.out hl1_0 HL3_0.out).mono ?_); rintro e w4 ⟨yX, rfl, hyX, hb4⟩
          replace HBW := hide (Below.next HBW.out hb4)
          replace HP0 := hide (HP0.out.below hb4)
          replace HP1 := hide (HP1.out.below hb4)
          replace HP2 := hide (HP2.out.below hb4)
          replace BA2 := hide (BA2.out.below hb4)
          obtain ⟨yaX, ycX, rfl, -, -, -, -⟩ := hyX.rep.open
          have HX := hide hyX; clear hyX
          obtain ⟨lBA2, eBA20, eBA21, eBA22, eBA23, eBA24⟩ := BA2.out
          go_wp2_with fail
          clear lBA2 eBA20 eBA21 eBA22 eBA23 eBA24
          (with_reducible refine (toIntS_any _ p1 _ HP1.out (by omega)).mono ?_); rintro e w5 ⟨yY, rfl, hyY, hb5⟩
          replace HBW := hide (Below.next HBW.out hb5)
          replace HP0 := hide (HP0.out.below hb5)
          replace HP1 := hide (HP1.out.below hb5)
          replace HP2 := hide (HP2.out.below hb5)
          replace HX := hide (HX.out.below hb5)
          replace BA2 := hide (BA2.out.below hb5)
          obtain ⟨yaY, ycY, rfl, -, -, -, -⟩ := hyY.rep.open
          have HY := hide hyY; clear hyY
          obtain ⟨lBA2, eBA20, eBA21, eBA22, eBA23, eBA24⟩ := BA2.out
          go_wp2_with fail
          clear lBA2 eBA20 eBA21 eBA22 eBA23 eBA24
          (with_reducible refine (toCond_any o2 t2 q2 x2 k2 a2 n2 c2 _ HP2.out hl1_2).mono ?_); rintro e w6 ⟨yZ, rfl, hyZ, hb6⟩
          replace HBW := hide (Below.next HBW.out hb6)
          replace HP0 := hide (HP0.out.below hb6)
          replace HP1 := hide (HP1.out.below hb6)
          replace HP2 := hide (HP2.out.below hb6)
          replace HX := hide (HX.out.below hb6)
          replace HY := hide (HY.out.below hb6)
          replace BA2 := hide (BA2.out.below hb6)
          have HZ := hide (hyZ.low (Nat.zero_le _)); clear hyZ
          obtain ⟨lBA2, eBA20, eBA21, eBA22, eBA23, eBA24⟩ := BA2.out
          go_wp2_with fail
          clear lBA2 eBA20 eBA21 eBA22 eBA23 eBA24
          generalize hV : w6.alloc (.cells #[.int .i64 o2, .int .i64 t2, .int .i64 q2, .int .i64 x2, .slice yZ.a yZ.n yZ.cap] 55) = V7 at *
          have hb7 : Below w6.heap.size w6 V7 := by rw [← hV]; exact below_alloc _ _
          have BZ : BoxC V7 w6.heap.size o2 t2 q2 x2 yZ.a yZ.n yZ.cap := by rw [← hV]; exact BoxC.new _ _ _ _ _ _ _ _ _
          clear hV
          replace BZ := hide BZ
          replace HBW := hide (Below.next HBW.out hb7)
          replace HP0 := hide (HP0.out.below hb7)
          replace HP1 := hide (HP1.out.below hb7)
          replace HP2 := hide (HP2.out.below hb7)
          replace HX := hide (HX.out.below hb7)
          replace HY := hide (HY.out.below hb7)
          replace HZ := hide (HZ.out.below hb7)
          replace BA2 := hide (BA2.out.below hb7)
          (with_reducible refine (HI.out _ _ yZ.a yZ.n yZ.cap _ HX.out.rep HY.out.rep HZ.out).mono ?_); rintro e w8 ⟨rfl, hb8⟩
          replace HBW := hide (Below.next HBW.out hb8)
          replace HP0 := hide (HP0.out.below hb8)
          replace HP1 := hide (HP1.out.below hb8)
          replace HP2 := hide (HP2.out.below hb8)
          replace HX := hide (HX.out.below hb8)
          replace HY := hide (HY.out.below hb8)
          replace HZ := hide (HZ.out.below hb8)
          replace BA2 := hide (BA2.out.below hb8)
          replace BZ := hide (BZ.out.below hb8)
          obtain ⟨lBA2, eBA20, eBA21, eBA22, eBA23, eBA24⟩ := BA2.out
          obtain ⟨lBZ, eBZ0, eBZ1, eBZ2, eBZ3, eBZ4⟩ := BZ.out
          go_wp2_with fail
          clear lBA2 eBA20 eBA21 eBA22 eBA23 eBA24 lBZ eBZ0 eBZ1 eBZ2 eBZ3 eBZ4
          (with_reducible refine (toInstrSS_any _ p0 _ HP0.out hl1_0 HL3_0.out).mono ?_); rintro e w9 ⟨yD, rfl, hyD, hb9⟩
          replace HBW := hide (Below.next HBW.out hb9)
          replace HP0 := hide (HP0.out.below hb9)
          replace HP1 := hide (HP1.out.below hb9)
          replace HP2 := hide (HP2.out.below hb9)
          replace HX := hide (HX.out.below hb9)
          replace HY := hide (HY.out.below hb9)
          replace HZ := hide (HZ.out.below hb9)
          replace BA2 := hide (BA2.out.below hb9)
          replace BZ := hide (BZ.out.below hb9)
          obtain ⟨yaD, ycD, rfl, -, -, -, -⟩ := hyD.rep.open
          have HD := hide hyD; clear hyD
          obtain ⟨lBA2, eBA20, eBA21, eBA22, eBA23, eBA24⟩ := BA2.out
          obtain ⟨lBZ, eBZ0, eBZ1, eBZ2, eBZ3, eBZ4⟩ := BZ.out
          go_wp2_with fail
          clear lBA2 eBA20 eBA21 eBA22 eBA23 eBA24 lBZ eBZ0 eBZ1 eBZ2 eBZ3 eBZ4
          (with_reducible refine (eqInstrSS_any _ _ p0 p0 _ HX.out.rep HD.out.rep).mono ?_); rintro e w10 ⟨rfl, hb10⟩
          replace HBW := hide (Below.next HBW.out hb10)
          replace HP0 := hide (HP0.out.below hb10)
          replace HP1 := hide (HP1.out.below hb10)
          replace HP2 := hide (HP2.out.below hb10)
          replace HX := hide (HX.out.below hb10)
          replace HY := hide (HY.out.below hb10)
          replace HZ := hide (HZ.out.below hb10)
          replace HD := hide (HD.out.below hb10)
          replace BA2 := hide (BA2.out.below hb10)
          replace BZ := hide (BZ.out.below hb10)
          rw [decide_eq_true (rfl : p0 = p0)]
          obtain ⟨lBA2, eBA20, eBA21, eBA22, eBA23, eBA24⟩ := BA2.out
          obtain ⟨lBZ, eBZ0, eBZ1, eBZ2, eBZ3, eBZ4⟩ := BZ.out
          go_wp2_with fail
          clear lBA2 eBA20 eBA21 eBA22 eBA23 eBA24 lBZ eBZ0 eBZ1 eBZ2 eBZ3 eBZ4
          (with_reducible refine (toIntS_any _ p1 _ HP1.out (by omega)).mono ?_); rintro e w11 ⟨yE, rfl, hyE, hb11⟩
          replace HBW := hide (Below.next HBW.out hb11)
          replace HP0 := hide (HP0.out.below hb11)
          replace HP1 := hide (HP1.out.below hb11)
          replace HP2 := hide (HP2.out.below hb11)
          replace HX := hide (HX.out.below hb11)
          replace HY := hide (HY.out.below hb11)
          replace HZ := hide (HZ.out.below hb11)
          replace HD := hide (HD.out.below hb11)
          replace BA2 := hide (BA2.out.below hb11)
          replace BZ := hide (BZ.out.below hb11)
          obtain ⟨yaE, ycE, rfl, -, -, -, -⟩ := hyE.rep.open
          have HE := hide hyE; clear hyE
          obtain ⟨lBA2, eBA20, eBA21, eBA22, eBA23, eBA24⟩ := BA2.out
          obtain ⟨lBZ, eBZ0, eBZ1, eBZ2, eBZ3, eBZ4⟩ := BZ.out
          go_wp2_with fail
          clear lBA2 eBA20 eBA21 eBA22 eBA23 eBA24 lBZ eBZ0 eBZ1 eBZ2 eBZ3 eBZ4
          (with_reducible refine (eqIntS_any _ _ p1 p1 _ HY.out.rep HE.out.rep).mono ?_); rintro e w12 ⟨rfl, hb12⟩
          replace HBW := hide (Below.next HBW.out hb12)
          replace HP0 := hide (HP0.out.below hb12)
          replace HP1 := hide (HP1.out.below hb12)
          replace HP2 := hide (HP2.out.below hb12)
          replace HX := hide (HX.out.below hb12)
          replace HY := hide (HY.out.below hb12)
          replace HZ := hide (HZ.out.below hb12)
          replace HD := hide (HD.out.below hb12)
          replace HE := hide (HE.out.below hb12)
          replace BA2 := hide (BA2.out.below hb12)
          replace BZ := hide (BZ.out.below hb12)
          rw [decide_eq_true (rfl : p1 = p1)]
          obtain ⟨lBA2, eBA20, eBA21, eBA22, eBA23, eBA24⟩ := BA2.out
          obtain ⟨lBZ, eBZ0, eBZ1, eBZ2, eBZ3, eBZ4⟩ := BZ.out
          go_wp2_with fail
          clear lBA2 eBA20 eBA21 eBA22 eBA23 eBA24 lBZ eBZ0 eBZ1 eBZ2 eBZ3 eBZ4
          obtain ⟨lBZ, eBZ0, eBZ1, eBZ2, eBZ3, eBZ4⟩ := BZ.out
          obtain ⟨lBA2, eBA20, eBA21, eBA22, eBA23, eBA24⟩ := BA2.out
          go_cut [60] (fun s V => s = .bool false ∧ Below w12.heap.size w12 V)
          case first =>
            go_region_held3 (fun V => V.cell? ⟨w6.heap.size, 0, none⟩ = some (.int .i64 o2) ∧ V.cell? ⟨w6.heap.size, 1, none⟩ = some (.int .i64 t2) ∧ V.cell? ⟨w6.heap.size, 2, none⟩ = some (.int .i64 q2) ∧ V.cell? ⟨w6.heap.size, 3, none⟩ = some (.int .i64 x2) ∧ V.cell? ⟨w6.heap.size, 4, none⟩ = some (.slice yZ.a yZ.n yZ.cap) ∧ V.cell? ⟨w.heap.size, 0, none⟩ = some (.int .i64 o2) ∧ V.cell? ⟨w.heap.size, 1, none⟩ = some (.int .i64 t2) ∧ V.cell? ⟨w.heap.size, 2, none⟩ = some (.int .i64 q2) ∧ V.cell? ⟨w.heap.size, 3, none⟩ = some (.int .i64 x2) ∧ V.cell? ⟨w.heap.size, 4, none⟩ = some (.slice a2 n2 c2)) ((simp [go_sem, *])) (first | (go_at_call 45; (with_reducible refine (toCond_any o2 t2 q2 x2 k2 a2 n2 c2 _ (HP2.out.below (Below.refl _ _).drew) hl1_2).mono ?_); rintro e u12_1 ⟨yF, rfl, hyF, hb12_1⟩; have hq12_1 := Below.next (Below.refl _ _).drew hb12_1; have hz12_F := Below.refl u12_1.heap.size u12_1; obtain ⟨hc12_1, hf12_1⟩ := bcell hq12_1) | (go_at_call 47; (with_reducible refine (eqCond_any o2 t2 q2 x2 o2 t2 q2 x2 k2 k2 yZ.a yF.a yZ.n yZ.cap yF.n yF.cap true _ (HZ.out.below hq12_1) ((hyF.low (Nat.zero_le _)).below hz12_F) (by simp)).mono ?_); rintro e u12_2 ⟨rfl, hb12_2⟩; have hq12_2 := Below.next hq12_1 hb12_2; have hz12_F := Below.next hz12_F hb12_2; obtain ⟨hc12_2, hf12_2⟩ := bcell hq12_2))
            all_goals
              go_wp2_with fail
              go_meet
              exact ⟨rfl, hq12_2⟩
          case rest =>
            obtain ⟨rfl, hb13⟩ := hcut
            clear lBZ eBZ0 eBZ1 eBZ2 eBZ3 eBZ4 lBA2 eBA20 eBA21 eBA22 eBA23 eBA24
            replace HBW := hide (Below.next HBW.out hb13)
            replace HP0 := hide (HP0.out.below hb13)
            replace HP1 := hide (HP1.out.below hb13)
            replace HP2 := hide (HP2.out.below hb13)
            replace HX := hide (HX.out.below hb13)
            replace HY := hide (HY.out.below hb13)
            replace HZ := hide (HZ.out.below hb13)
            replace HD := hide (HD.out.below hb13)
            replace HE := hide (HE.out.below hb13)
            replace BA2 := hide (BA2.out.below hb13)
            replace BZ := hide (BZ.out.below hb13)
            generalize wc = w13 at *
            go_wp2_with fail
            go_ret
            exact ⟨rfl, HBW.out⟩

end Go.Proofs.Ytlnmlmpmpnjfmaa
