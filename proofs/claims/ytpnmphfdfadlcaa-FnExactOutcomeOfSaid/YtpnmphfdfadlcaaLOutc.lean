/-
  The law FnExactOutcomeOf answers true. No condition.
-/
import Derived.Test.YtpnmphfdfadlcaaW4
import Derived.Test.YtpnmphfdfadlcaaLx
import Derived.Test.YtpnmphfdfadlcaaP7
namespace Go.Proofs.Ytpnmphfdfadlcaa
open Go.RowKit

theorem RetNB.made {w : World} {L : List Int} {b : Bool} {e : Ending} {w' : World} (h : RetNB w (L, b) e w') : MadeI w L b e w' := by
  obtain ⟨u, h1, h2, h3⟩ := h
  exact ⟨u, h1, Loc.ofOwn h2, h3⟩

theorem outF_le (p : List (List Ins)) (x : Xc) : (outF p x).1.length ≤ 15 := by
  unfold outF
  split
  · rename_i h
    have h2 := h.1
    unfold execOk at h2
    simp only [Bool.and_eq_true] at h2
    have h3 := (valid_le h2.1).1
    show (outL p (evAll p) x (valsL p x.fr)).length ≤ 15
    rw [outL_length]; omega
  · simp

set_option maxRecDepth 100000 in
set_option maxHeartbeats 6400000 in
theorem lawOutcomeOf (v0 : Value) (p0 : List (List Ins)) (f1 o1 : Value) (x1 : Xc) (w : World) (hp0 : RepP w v0 p0) (hp1 : RepX w f1 o1 x1) :
    Calls Try.prog 10 #[v0, .agg #[f1, o1]] w fun e w' => e = .returned (.bool true) ∧ Below w.heap.size w w' := by
  obtain ⟨fa1, fc1, rfl, -, hmf1, -, -⟩ := hp1.fr.open
  obtain ⟨oa1, oc1, rfl, -, hmo1, -, -⟩ := hp1.od.open
  have R0 : Hid (Loc 0 w.heap.size w (fun W => RepP W v0 p0)) := hide (Loc.arg hp0 (fun _ hb => hp0.below hb))
  clear hp0
  generalize hNF1 : x1.fr.length = NF1 at *
  have HNF1 := hide hNF1; clear hNF1
  generalize hNO1 : x1.od.length = NO1 at *
  have HNO1 := hide hNO1; clear hNO1
  have R1 : Hid (Loc 0 w.heap.size w (fun W => RepX W (.slice fa1 NF1 fc1) (.slice oa1 NO1 oc1) x1)) := hide (Loc.arg hp1 (fun _ hb => hp1.below hb))
  clear hp1
  have HS0 := hide (fun W (h : RepP W v0 p0) => szInstrSS_any v0 p0 1048576 W h (by omega) (by omega))
  have LE0 := hide (fun h => szPP_le2 p0 1048576 h (by omega))
  generalize szPP p0 1048576 = Z0 at *
  by_cases hc0 : Z0 < 0
  · skip
    have HBW : Hid (Below w.heap.size w w) := hide (Below.refl _ _)
    have hb1 := belowAllocB w (.cells #[.slice fa1 NF1 fc1, .slice oa1 NO1 oc1] 76)
    have BA1 := Loc.cells w #[.slice fa1 NF1 fc1, .slice oa1 NO1 oc1] 76
    generalize hW1 : w.alloc (.cells #[.slice fa1 NF1 fc1, .slice oa1 NO1 oc1] 76) = w1 at *
    replace BA1 := hide BA1
    have zz1 : w.heap.size + 1 ≤ w1.heap.size := by rw [← hW1]; simp
    replace R0 := hide (R0.out.below hb1)
    replace R1 := hide (R1.out.below hb1)
    replace HBW := hide (Below.next HBW.out hb1)
    have zw1 : w.heap.size ≤ w1.heap.size := hb1.size
    clear hb1
    go_enter Try.func10, Try.ntmps10
    go_wp2_with fail
    (with_reducible refine (HS0.out _ R0.out.now).mono ?_); rintro e w2 ⟨rfl, hb2⟩
    replace R0 := hide (R0.out.below hb2)
    replace R1 := hide (R1.out.below hb2)
    replace BA1 := hide (BA1.out.below hb2)
    replace HBW := hide (Below.next HBW.out hb2)
    have zw2 : w1.heap.size ≤ w2.heap.size := hb2.size
    clear hb2
    clear hW1
    go_wp2_with fail
    go_ret
    exact ⟨rfl, HBW.out⟩
  · skip
    have hz0 := (LE0.out hc0).1
    have HB0 := hide (LE0.out hc0).2
    have HS1 := hide (fun W (h : RepX W (.slice fa1 NF1 fc1) (.slice oa1 NO1 oc1) x1) => (by have h2 := szX_any fa1 fc1 (.slice oa1 NO1 oc1) x1 Z0 W (by rw [HNF1.out]; exact h) (by omega) (by omega); rw [HNF1.out] at h2; exact h2 : Calls Try.prog 58 #[.agg #[.slice fa1 NF1 fc1, .slice oa1 NO1 oc1], .int .i64 Z0] W fun e w2 => e = .returned (.int .i64 (szXv x1 Z0)) ∧ Below W.heap.size W w2))
    have LE1 := hide (fun h => szX_le2 x1 Z0 h (by omega))
    generalize szXv x1 Z0 = Z1 at *
    by_cases hc1 : Z1 < 0
    · skip
      have HBW : Hid (Below w.heap.size w w) := hide (Below.refl _ _)
      have hb1 := belowAllocB w (.cells #[.slice fa1 NF1 fc1, .slice oa1 NO1 oc1] 76)
      have BA1 := Loc.cells w #[.slice fa1 NF1 fc1, .slice oa1 NO1 oc1] 76
      generalize hW1 : w.alloc (.cells #[.slice fa1 NF1 fc1, .slice oa1 NO1 oc1] 76) = w1 at *
      replace BA1 := hide BA1
      have zz1 : w.heap.size + 1 ≤ w1.heap.size := by rw [← hW1]; simp
      replace R0 := hide (R0.out.below hb1)
      replace R1 := hide (R1.out.below hb1)
      replace HBW := hide (Below.next HBW.out hb1)
      have zw1 : w.heap.size ≤ w1.heap.size := hb1.size
      clear hb1
      go_enter Try.func10, Try.ntmps10
      go_wp2_with fail
      (with_reducible refine (HS0.out _ R0.out.now).mono ?_); rintro e w2 ⟨rfl, hb2⟩
      replace R0 := hide (R0.out.below hb2)
      replace R1 := hide (R1.out.below hb2)
      replace BA1 := hide (BA1.out.below hb2)
      replace HBW := hide (Below.next HBW.out hb2)
      have zw2 : w1.heap.size ≤ w2.heap.size := hb2.size
      clear hb2
      have lBA1 := BA1.out.now
      have eBA10 := cell_of_heapB lBA1 (k := 0) rfl
      have eBA11 := cell_of_heapB lBA1 (k := 1) rfl
      have tBA1 := lt_of_cell eBA10
      clear lBA1
      go_wp2_with fail
      clear eBA10 eBA11 tBA1
      (with_reducible refine (HS1.out _ R1.out.now).mono ?_); rintro e w3 ⟨rfl, hb3⟩
      replace R0 := hide (R0.out.below hb3)
      replace R1 := hide (R1.out.below hb3)
      replace BA1 := hide (BA1.out.below hb3)
      replace HBW := hide (Below.next HBW.out hb3)
      have zw3 : w2.heap.size ≤ w3.heap.size := hb3.size
      clear hb3
      clear hW1
      go_wp2_with fail
      go_ret
      exact ⟨rfl, HBW.out⟩
    · skip
      have hz1 := (LE1.out hc1).1
      have HB1 := hide (LE1.out hc1).2
      have hol : ∀ o ∈ x1.od, o.length ≤ 1048576 := HB1.out.2.2.2
      have HCS0 := fun u f o W (h : RepP W u p0) (h' : RepX W f o x1) => sOutcomeOf_any u f o p0 x1 W h h' HB0.out.2.1 HB0.out.1
      have HCI0 := fun u f o W (h : RepP W u p0) (h' : RepX W f o x1) => OutcomeOf_any u f o p0 x1 W h h' HB0.out.2.1 hol
      have hLn := outF_le p0 x1
      generalize outF p0 x1 = r at *
      obtain ⟨L, b⟩ := r
      have HCS := hide (fun u f o W (h : RepP W u p0) (h' : RepX W f o x1) => (HCS0 u f o W h h').mono fun _ _ h => h.made)
      have HCI := hide (fun u f o W (h : RepP W u p0) (h' : RepX W f o x1) => (HCI0 u f o W h h').mono fun _ _ h => h.made)
      clear HCS0 HCI0 hol
      simp only at hLn
      generalize hNL : L.length = NL at *
      have HL := hide hNL; clear hNL
      have hbb : (b != b) = false := by cases b <;> rfl
      have hPl0 := HB0.out.1
      have hPs0 : sumN (p0.map List.length) ≤ 1048576 := by rw [sumN_flatten]; have := HB0.out.2.1; omega
      have HTO0 := hide (fun W (h : RepP W v0 p0) => toP_made v0 p0 W h HB0.out.1 HB0.out.2.2)
      generalize hM0 : sumN (p0.map List.length) = M0 at *
      have HM0 := hide hM0; clear hM0
      have HTO1 := hide (fun W (h : RepX W (.slice fa1 NF1 fc1) (.slice oa1 NO1 oc1) x1) => toX_made _ _ x1 W h HB1.out.1 HB1.out.2.1 HB1.out.2.2.2)
      have hxf1 := HB1.out.1; have hxo1 := HB1.out.2.1
      have hxs1 : sumN (x1.od.map List.length) ≤ 1048576 := by rw [sumN_flattenN]; have := HB1.out.2.2.1; omega
      generalize hM1 : sumN (x1.od.map List.length) = M1 at *
      have HM1 := hide hM1; clear hM1
      have HBW : Hid (Below w.heap.size w w) := hide (Below.refl _ _)
      have hb1 := belowAllocB w (.cells #[.slice fa1 NF1 fc1, .slice oa1 NO1 oc1] 76)
      have BA1 := Loc.cells w #[.slice fa1 NF1 fc1, .slice oa1 NO1 oc1] 76
      generalize hW1 : w.alloc (.cells #[.slice fa1 NF1 fc1, .slice oa1 NO1 oc1] 76) = w1 at *
      replace BA1 := hide BA1
      have zz1 : w.heap.size + 1 ≤ w1.heap.size := by rw [← hW1]; simp
      replace R0 := hide (R0.out.below hb1)
      replace R1 := hide (R1.out.below hb1)
      replace HBW := hide (Below.next HBW.out hb1)
      have zw1 : w.heap.size ≤ w1.heap.size := hb1.size
      clear hb1
      go_enter Try.func10, Try.ntmps10
      go_wp2_with fail
      (with_reducible refine (HS0.out _ R0.out.now).mono ?_); rintro e w2 ⟨rfl, hb2⟩
      replace R0 := hide (R0.out.below hb2)
      replace R1 := hide (R1.out.below hb2)
      replace BA1 := hide (BA1.out.below hb2)
      replace HBW := hide (Below.next HBW.out hb2)
      have zw2 : w1.heap.size ≤ w2.heap.size := hb2.size
      clear hb2
      have lBA1 := BA1.out.now
      have eBA10 := cell_of_heapB lBA1 (k := 0) rfl
      have eBA11 := cell_of_heapB lBA1 (k := 1) rfl
      have tBA1 := lt_of_cell eBA10
      clear lBA1
      go_wp2_with fail
      clear eBA10 eBA11 tBA1
      (with_reducible refine (HS1.out _ R1.out.now).mono ?_); rintro e w3 ⟨rfl, hb3⟩
      replace R0 := hide (R0.out.below hb3)
      replace R1 := hide (R1.out.below hb3)
      replace BA1 := hide (BA1.out.below hb3)
      replace HBW := hide (Below.next HBW.out hb3)
      have zw3 : w2.heap.size ≤ w3.heap.size := hb3.size
      clear hb3
      clear hW1
      have lBA1 := BA1.out.now
      have eBA10 := cell_of_heapB lBA1 (k := 0) rfl
      have eBA11 := cell_of_heapB lBA1 (k := 1) rfl
      have tBA1 := lt_of_cell eBA10
      clear lBA1
      go_wp2_with fail
      go_region_held3 (fun V => V.cell? ⟨w.heap.size, 0, none⟩ = some (.slice fa1 NF1 fc1) ∧ V.cell? ⟨w.heap.size, 1, none⟩ = some (.slice oa1 NO1 oc1)) ((simp [go_sem, *]))
        (first
          | (go_at_call 34; (with_reducible refine (HTO0.out _ (R0.out.below (Below.refl _ _).drew).now).mono ?_); rintro e w4 ⟨uS0, rfl, L4, hb4⟩; have hb4 := (Below.refl w3.heap.size w3).drew.trans (hb4.mono (Nat.le_refl _)); replace R0 := hide (R0.out.below hb4); replace R1 := hide (R1.out.below hb4); replace BA1 := hide (BA1.out.below hb4); replace HBW := hide (Below.next HBW.out hb4); have zw4 : w3.heap.size ≤ w4.heap.size := hb4.size; have S0 := hide (L4 : LocP w3.heap.size w4.heap.size w4 uS0 p0); clear L4; clear hb4; have lBA1_4 := BA1.out.now; have eBA1_4_0 := cell_of_heapB lBA1_4 (k := 0) rfl; have eBA1_4_1 := cell_of_heapB lBA1_4 (k := 1) rfl; have tBA1_4 := lt_of_cell eBA1_4_0; clear lBA1_4)
          | (go_at_call 60; (with_reducible refine (HTO1.out _ R1.out.now).mono ?_); rintro e w5 ⟨uS1f, uS1o, rfl, L5, hb5⟩; replace R0 := hide (R0.out.below hb5); replace R1 := hide (R1.out.below hb5); replace BA1 := hide (BA1.out.below hb5); replace S0 := hide (S0.out.below hb5); replace HBW := hide (Below.next HBW.out hb5); have zw5 : w4.heap.size ≤ w5.heap.size := hb5.size; have S1 := hide (L5 : LocX w4.heap.size w5.heap.size w5 uS1f uS1o x1); clear L5; clear hb5; have lBA1_5 := BA1.out.now; have eBA1_5_0 := cell_of_heapB lBA1_5 (k := 0) rfl; have eBA1_5_1 := cell_of_heapB lBA1_5 (k := 1) rfl; have tBA1_5 := lt_of_cell eBA1_5_0; clear lBA1_5)
          | (go_at_call 65; (with_reducible refine (HCS.out uS0 (.slice uS1f.a uS1f.n uS1f.cap) (.slice uS1o.a uS1o.n uS1o.cap) _ S0.out.rep2 S1.out.repX).mono ?_); rintro e w6 ⟨uW, rfl, L6, hb6⟩; replace R0 := hide (R0.out.below hb6); replace R1 := hide (R1.out.below hb6); replace BA1 := hide (BA1.out.below hb6); replace S0 := hide (S0.out.below hb6); replace S1 := hide (S1.out.below hb6); replace HBW := hide (Below.next HBW.out hb6); have zw6 : w5.heap.size ≤ w6.heap.size := hb6.size; have W := hide (L6 : LocI w5.heap.size w6.heap.size w6 (.slice uW.a uW.n uW.cap) L); clear L6; clear hb6; have lBA1_6 := BA1.out.now; have eBA1_6_0 := cell_of_heapB lBA1_6 (k := 0) rfl; have eBA1_6_1 := cell_of_heapB lBA1_6 (k := 1) rfl; have tBA1_6 := lt_of_cell eBA1_6_0; clear lBA1_6))
      clear eBA10 eBA11 tBA1 eBA1_4_0 eBA1_4_1 tBA1_4 eBA1_5_0 eBA1_5_1 tBA1_5 eBA1_6_0 eBA1_6_1 tBA1_6
      go_wp2_with fail
      (with_reducible refine (HTO0.out _ R0.out.now).mono ?_); rintro e w7 ⟨uX0, rfl, L7, hb7⟩
      have X0 := hide (L7 : LocP w6.heap.size w7.heap.size w7 uX0 p0)
      clear L7
      replace R0 := hide (R0.out.below hb7)
      replace R1 := hide (R1.out.below hb7)
      replace BA1 := hide (BA1.out.below hb7)
      replace S0 := hide (S0.out.below hb7)
      replace S1 := hide (S1.out.below hb7)
      replace W := hide (W.out.below hb7)
      replace HBW := hide (Below.next HBW.out hb7)
      have zw7 : w6.heap.size ≤ w7.heap.size := hb7.size
      clear hb7
      have lBA1 := BA1.out.now
      have eBA10 := cell_of_heapB lBA1 (k := 0) rfl
      have eBA11 := cell_of_heapB lBA1 (k := 1) rfl
      have tBA1 := lt_of_cell eBA10
      clear lBA1
      go_wp2_with fail
      clear eBA10 eBA11 tBA1
      (with_reducible refine (HTO1.out _ R1.out.now).mono ?_); rintro e w8 ⟨uX1f, uX1o, rfl, L8, hb8⟩
      have X1 := hide (L8 : LocX w7.heap.size w8.heap.size w8 uX1f uX1o x1)
      clear L8
      replace R0 := hide (R0.out.below hb8)
      replace R1 := hide (R1.out.below hb8)
      replace BA1 := hide (BA1.out.below hb8)
      replace S0 := hide (S0.out.below hb8)
      replace S1 := hide (S1.out.below hb8)
      replace W := hide (W.out.below hb8)
      replace X0 := hide (X0.out.below hb8)
      replace HBW := hide (Below.next HBW.out hb8)
      have zw8 : w7.heap.size ≤ w8.heap.size := hb8.size
      clear hb8
      have hb9 := belowAllocB w8 (.cells #[.slice uX1f.a uX1f.n uX1f.cap, .slice uX1o.a uX1o.n uX1o.cap] 80)
      have BX1 := Loc.cells w8 #[.slice uX1f.a uX1f.n uX1f.cap, .slice uX1o.a uX1o.n uX1o.cap] 80
      generalize hW9 : w8.alloc (.cells #[.slice uX1f.a uX1f.n uX1f.cap, .slice uX1o.a uX1o.n uX1o.cap] 80) = w9 at *
      replace BX1 := hide BX1
      have zz9 : w8.heap.size + 1 ≤ w9.heap.size := by rw [← hW9]; simp
      replace R0 := hide (R0.out.below hb9)
      replace R1 := hide (R1.out.below hb9)
      replace BA1 := hide (BA1.out.below hb9)
      replace S0 := hide (S0.out.below hb9)
      replace S1 := hide (S1.out.below hb9)
      replace W := hide (W.out.below hb9)
      replace X0 := hide (X0.out.below hb9)
      replace X1 := hide (X1.out.below hb9)
      replace HBW := hide (Below.next HBW.out hb9)
      have zw9 : w8.heap.size ≤ w9.heap.size := hb9.size
      clear hb9
      have lBX1 := BX1.out.now
      have eBX10 := cell_of_heapB lBX1 (k := 0) rfl
      have eBX11 := cell_of_heapB lBX1 (k := 1) rfl
      have tBX1 := lt_of_cell eBX10
      clear lBX1
      go_wp2_with fail
      clear eBX10 eBX11 tBX1
      (with_reducible refine (HCI.out uX0 (.slice uX1f.a uX1f.n uX1f.cap) (.slice uX1o.a uX1o.n uX1o.cap) _ X0.out.rep2 X1.out.repX).mono ?_); rintro e w10 ⟨uG, rfl, L10, hb10⟩
      have G := hide (L10 : LocI w9.heap.size w10.heap.size w10 (.slice uG.a uG.n uG.cap) L)
      clear L10
      replace R0 := hide (R0.out.below hb10)
      replace R1 := hide (R1.out.below hb10)
      replace BA1 := hide (BA1.out.below hb10)
      replace S0 := hide (S0.out.below hb10)
      replace S1 := hide (S1.out.below hb10)
      replace W := hide (W.out.below hb10)
      replace X0 := hide (X0.out.below hb10)
      replace X1 := hide (X1.out.below hb10)
      replace BX1 := hide (BX1.out.below hb10)
      replace HBW := hide (Below.next HBW.out hb10)
      have zw10 : w9.heap.size ≤ w10.heap.size := hb10.size
      clear hb10
      clear hW9
      go_wp2_with fail
      (with_reducible refine (eqI_same (.slice uG.a uG.n uG.cap) (.slice uW.a uW.n uW.cap) L _ G.out.rep W.out.rep).mono ?_); rintro e w11 ⟨rfl, hb11⟩
      replace R0 := hide (R0.out.below hb11)
      replace R1 := hide (R1.out.below hb11)
      replace BA1 := hide (BA1.out.below hb11)
      replace S0 := hide (S0.out.below hb11)
      replace S1 := hide (S1.out.below hb11)
      replace W := hide (W.out.below hb11)
      replace X0 := hide (X0.out.below hb11)
      replace X1 := hide (X1.out.below hb11)
      replace BX1 := hide (BX1.out.below hb11)
      replace G := hide (G.out.below hb11)
      replace HBW := hide (Below.next HBW.out hb11)
      have zw11 : w10.heap.size ≤ w11.heap.size := hb11.size
      clear hb11
      go_wp2_with fail
      (with_reducible refine (HTO0.out _ R0.out.now).mono ?_); rintro e w12 ⟨uE0, rfl, L12, hb12⟩
      have E0 := hide (L12 : LocP w11.heap.size w12.heap.size w12 uE0 p0)
      clear L12
      replace R0 := hide (R0.out.below hb12)
      replace R1 := hide (R1.out.below hb12)
      replace BA1 := hide (BA1.out.below hb12)
      replace S0 := hide (S0.out.below hb12)
      replace S1 := hide (S1.out.below hb12)
      replace W := hide (W.out.below hb12)
      replace X0 := hide (X0.out.below hb12)
      replace X1 := hide (X1.out.below hb12)
      replace BX1 := hide (BX1.out.below hb12)
      replace G := hide (G.out.below hb12)
      replace HBW := hide (Below.next HBW.out hb12)
      have zw12 : w11.heap.size ≤ w12.heap.size := hb12.size
      clear hb12
      go_wp2_with fail
      (with_reducible refine (eqP_same uX0 uE0 p0 _ X0.out.rep2 E0.out.rep2).mono ?_); rintro e w13 ⟨rfl, hb13⟩
      replace R0 := hide (R0.out.below hb13)
      replace R1 := hide (R1.out.below hb13)
      replace BA1 := hide (BA1.out.below hb13)
      replace S0 := hide (S0.out.below hb13)
      replace S1 := hide (S1.out.below hb13)
      replace W := hide (W.out.below hb13)
      replace X0 := hide (X0.out.below hb13)
      replace X1 := hide (X1.out.below hb13)
      replace BX1 := hide (BX1.out.below hb13)
      replace G := hide (G.out.below hb13)
      replace E0 := hide (E0.out.below hb13)
      replace HBW := hide (Below.next HBW.out hb13)
      have zw13 : w12.heap.size ≤ w13.heap.size := hb13.size
      clear hb13
      clear E0
      have lBA1 := BA1.out.now
      have eBA10 := cell_of_heapB lBA1 (k := 0) rfl
      have eBA11 := cell_of_heapB lBA1 (k := 1) rfl
      have tBA1 := lt_of_cell eBA10
      clear lBA1
      have lBX1 := BX1.out.now
      have eBX10 := cell_of_heapB lBX1 (k := 0) rfl
      have eBX11 := cell_of_heapB lBX1 (k := 1) rfl
      have tBX1 := lt_of_cell eBX10
      clear lBX1
      go_wp2_with fail
      go_region_held3 (fun V => V.cell? ⟨w.heap.size, 0, none⟩ = some (.slice fa1 NF1 fc1) ∧ V.cell? ⟨w.heap.size, 1, none⟩ = some (.slice oa1 NO1 oc1) ∧ V.cell? ⟨w8.heap.size, 0, none⟩ = some (.slice uX1f.a uX1f.n uX1f.cap) ∧ V.cell? ⟨w8.heap.size, 1, none⟩ = some (.slice uX1o.a uX1o.n uX1o.cap)) ((simp [go_sem, *]))
        (first
          | (go_at_call 60; (with_reducible refine (HTO1.out _ (R1.out.below (Below.refl _ _).drew).now).mono ?_); rintro e w14 ⟨uE1f, uE1o, rfl, L14, hb14⟩; have hb14 := (Below.refl w13.heap.size w13).drew.trans (hb14.mono (Nat.le_refl _)); replace R0 := hide (R0.out.below hb14); replace R1 := hide (R1.out.below hb14); replace BA1 := hide (BA1.out.below hb14); replace S0 := hide (S0.out.below hb14); replace S1 := hide (S1.out.below hb14); replace W := hide (W.out.below hb14); replace X0 := hide (X0.out.below hb14); replace X1 := hide (X1.out.below hb14); replace BX1 := hide (BX1.out.below hb14); replace G := hide (G.out.below hb14); replace HBW := hide (Below.next HBW.out hb14); have zw14 : w13.heap.size ≤ w14.heap.size := hb14.size; have E1 := hide (L14 : LocX w13.heap.size w14.heap.size w14 uE1f uE1o x1); clear L14; clear hb14; have lBA1_14 := BA1.out.now; have eBA1_14_0 := cell_of_heapB lBA1_14 (k := 0) rfl; have eBA1_14_1 := cell_of_heapB lBA1_14 (k := 1) rfl; have tBA1_14 := lt_of_cell eBA1_14_0; clear lBA1_14; have lBX1_14 := BX1.out.now; have eBX1_14_0 := cell_of_heapB lBX1_14 (k := 0) rfl; have eBX1_14_1 := cell_of_heapB lBX1_14 (k := 1) rfl; have tBX1_14 := lt_of_cell eBX1_14_0; clear lBX1_14)
          | (go_at_call 62; (with_reducible refine (eqX_same (.slice uX1f.a uX1f.n uX1f.cap) (.slice uX1o.a uX1o.n uX1o.cap) (.slice uE1f.a uE1f.n uE1f.cap) (.slice uE1o.a uE1o.n uE1o.cap) x1 _ X1.out.repX E1.out.repX).mono ?_); rintro e w15 ⟨rfl, hb15⟩; replace R0 := hide (R0.out.below hb15); replace R1 := hide (R1.out.below hb15); replace BA1 := hide (BA1.out.below hb15); replace S0 := hide (S0.out.below hb15); replace S1 := hide (S1.out.below hb15); replace W := hide (W.out.below hb15); replace X0 := hide (X0.out.below hb15); replace X1 := hide (X1.out.below hb15); replace BX1 := hide (BX1.out.below hb15); replace G := hide (G.out.below hb15); replace E1 := hide (E1.out.below hb15); replace HBW := hide (Below.next HBW.out hb15); have zw15 : w14.heap.size ≤ w15.heap.size := hb15.size; clear hb15; have lBA1_15 := BA1.out.now; have eBA1_15_0 := cell_of_heapB lBA1_15 (k := 0) rfl; have eBA1_15_1 := cell_of_heapB lBA1_15 (k := 1) rfl; have tBA1_15 := lt_of_cell eBA1_15_0; clear lBA1_15; have lBX1_15 := BX1.out.now; have eBX1_15_0 := cell_of_heapB lBX1_15 (k := 0) rfl; have eBX1_15_1 := cell_of_heapB lBX1_15 (k := 1) rfl; have tBX1_15 := lt_of_cell eBX1_15_0; clear lBX1_15))
      clear eBA10 eBA11 tBA1 eBX10 eBX11 tBX1 eBA1_14_0 eBA1_14_1 tBA1_14 eBX1_14_0 eBX1_14_1 tBX1_14 eBA1_15_0 eBA1_15_1 tBA1_15 eBX1_15_0 eBX1_15_1 tBX1_15
      clear E1
      go_wp2_with fail
      (with_reducible refine (markP_loc uX0 p0 (1) _ _ _ X0.out (by rw [HM0.out]; omega) (by omega) (by omega) (by omega)).mono ?_); rintro e w16 ⟨rfl, hb16⟩
      replace R0 := hide (R0.out.outs hb16 (by omega))
      replace R1 := hide (R1.out.outs hb16 (by omega))
      replace BA1 := hide (BA1.out.outs hb16 (by omega))
      replace S0 := hide (S0.out.outs hb16 (by omega))
      replace S1 := hide (S1.out.outs hb16 (by omega))
      replace W := hide (W.out.outs hb16 (by omega))
      replace X1 := hide (X1.out.outs hb16 (by omega))
      replace BX1 := hide (BX1.out.outs hb16 (by omega))
      replace G := hide (G.out.outs hb16 (by omega))
      replace HBW := hide (HBW.out.trans (hb16.below (B := w.heap.size) (by omega) HBW.out.size))
      have zw16 : w15.heap.size ≤ w16.heap.size := hb16.size
      clear hb16
      rw [HM0.out]
      clear X0
      have lBX1 := BX1.out.now
      have eBX10 := cell_of_heapB lBX1 (k := 0) rfl
      have eBX11 := cell_of_heapB lBX1 (k := 1) rfl
      have tBX1 := lt_of_cell eBX10
      clear lBX1
      go_wp2_with fail
      clear eBX10 eBX11 tBX1
      (with_reducible refine (markX_loc uX1f uX1o x1 (1 + 4 * (M0 : Int)) _ _ _ X1.out (by omega) (by omega) (by rw [HM1.out]; omega) (by omega) (by omega)).mono ?_); rintro e w17 ⟨rfl, hb17⟩
      replace R0 := hide (R0.out.outs hb17 (by omega))
      replace R1 := hide (R1.out.outs hb17 (by omega))
      replace BA1 := hide (BA1.out.outs hb17 (by omega))
      replace S0 := hide (S0.out.outs hb17 (by omega))
      replace S1 := hide (S1.out.outs hb17 (by omega))
      replace W := hide (W.out.outs hb17 (by omega))
      replace BX1 := hide (BX1.out.outs hb17 (by omega))
      replace G := hide (G.out.outs hb17 (by omega))
      replace HBW := hide (HBW.out.trans (hb17.below (B := w.heap.size) (by omega) HBW.out.size))
      have zw17 : w16.heap.size ≤ w17.heap.size := hb17.size
      clear hb17
      rw [HM1.out, HNF1.out]
      clear X1
      go_wp2_with fail
      (with_reducible refine (eqI_same (.slice uG.a uG.n uG.cap) (.slice uW.a uW.n uW.cap) L _ G.out.rep W.out.rep).mono ?_); rintro e w18 ⟨rfl, hb18⟩
      replace R0 := hide (R0.out.below hb18)
      replace R1 := hide (R1.out.below hb18)
      replace BA1 := hide (BA1.out.below hb18)
      replace S0 := hide (S0.out.below hb18)
      replace S1 := hide (S1.out.below hb18)
      replace W := hide (W.out.below hb18)
      replace BX1 := hide (BX1.out.below hb18)
      replace G := hide (G.out.below hb18)
      replace HBW := hide (Below.next HBW.out hb18)
      have zw18 : w17.heap.size ≤ w18.heap.size := hb18.size
      clear hb18
      go_wp2_with fail
      (with_reducible refine (markI_loc (.slice uG.a uG.n uG.cap) L 1 _ _ _ G.out (by rw [HL.out]; omega) (by omega) (by omega)).mono ?_); rintro e w19 ⟨rfl, G2, hb19⟩
      replace R0 := hide (R0.out.outs hb19 (by omega))
      replace R1 := hide (R1.out.outs hb19 (by omega))
      replace BA1 := hide (BA1.out.outs hb19 (by omega))
      replace S0 := hide (S0.out.outs hb19 (by omega))
      replace S1 := hide (S1.out.outs hb19 (by omega))
      replace W := hide (W.out.outs hb19 (by omega))
      replace BX1 := hide (BX1.out.outs hb19 (by omega))
      replace HBW := hide (HBW.out.trans (hb19.below (B := w.heap.size) (by omega) HBW.out.size))
      have zw19 : w18.heap.size ≤ w19.heap.size := hb19.size
      clear hb19
      rw [HL.out] at G2
      rw [HL.out]
      replace G := hide G2
      clear G2
      go_wp2_with fail
      (with_reducible refine (heldI_loc (.slice uG.a uG.n uG.cap) NL 1 _ _ _ G.out (by omega) (by omega) (by omega)).mono ?_); rintro e w20 ⟨rfl, rfl⟩
      have lBA1 := BA1.out.now
      have eBA10 := cell_of_heapB lBA1 (k := 0) rfl
      have eBA11 := cell_of_heapB lBA1 (k := 1) rfl
      have tBA1 := lt_of_cell eBA10
      clear lBA1
      go_wp2_with fail
      go_region_held3 (fun V => V.cell? ⟨w.heap.size, 0, none⟩ = some (.slice fa1 NF1 fc1) ∧ V.cell? ⟨w.heap.size, 1, none⟩ = some (.slice oa1 NO1 oc1)) ((simp [go_sem, *]))
        (first
          | (go_at_call 34; (with_reducible refine (HTO0.out _ (R0.out.below (Below.refl _ _).drew).now).mono ?_); rintro e w21 ⟨uH0, rfl, L21, hb21⟩; have hb21 := (Below.refl w19.heap.size w19).drew.trans (hb21.mono (Nat.le_refl _)); replace R0 := hide (R0.out.below hb21); replace R1 := hide (R1.out.below hb21); replace BA1 := hide (BA1.out.below hb21); replace S0 := hide (S0.out.below hb21); replace S1 := hide (S1.out.below hb21); replace W := hide (W.out.below hb21); replace BX1 := hide (BX1.out.below hb21); replace G := hide (G.out.below hb21); replace HBW := hide (Below.next HBW.out hb21); have zw21 : w19.heap.size ≤ w21.heap.size := hb21.size; have H0 := hide (L21 : LocP w19.heap.size w21.heap.size w21 uH0 p0); clear L21; clear hb21; have lBA1_21 := BA1.out.now; have eBA1_21_0 := cell_of_heapB lBA1_21 (k := 0) rfl; have eBA1_21_1 := cell_of_heapB lBA1_21 (k := 1) rfl; have tBA1_21 := lt_of_cell eBA1_21_0; clear lBA1_21)
          | (go_at_call 60; (with_reducible refine (HTO1.out _ R1.out.now).mono ?_); rintro e w22 ⟨uH1f, uH1o, rfl, L22, hb22⟩; replace R0 := hide (R0.out.below hb22); replace R1 := hide (R1.out.below hb22); replace BA1 := hide (BA1.out.below hb22); replace S0 := hide (S0.out.below hb22); replace S1 := hide (S1.out.below hb22); replace W := hide (W.out.below hb22); replace BX1 := hide (BX1.out.below hb22); replace G := hide (G.out.below hb22); replace H0 := hide (H0.out.below hb22); replace HBW := hide (Below.next HBW.out hb22); have zw22 : w21.heap.size ≤ w22.heap.size := hb22.size; have H1 := hide (L22 : LocX w21.heap.size w22.heap.size w22 uH1f uH1o x1); clear L22; clear hb22; have lBA1_22 := BA1.out.now; have eBA1_22_0 := cell_of_heapB lBA1_22 (k := 0) rfl; have eBA1_22_1 := cell_of_heapB lBA1_22 (k := 1) rfl; have tBA1_22 := lt_of_cell eBA1_22_0; clear lBA1_22)
          | (go_at_call 66; (with_reducible refine (HCI.out uH0 (.slice uH1f.a uH1f.n uH1f.cap) (.slice uH1o.a uH1o.n uH1o.cap) _ H0.out.rep2 H1.out.repX).mono ?_); rintro e w23 ⟨uT, rfl, L23, hb23⟩; replace R0 := hide (R0.out.below hb23); replace R1 := hide (R1.out.below hb23); replace BA1 := hide (BA1.out.below hb23); replace S0 := hide (S0.out.below hb23); replace S1 := hide (S1.out.below hb23); replace W := hide (W.out.below hb23); replace BX1 := hide (BX1.out.below hb23); replace G := hide (G.out.below hb23); replace H0 := hide (H0.out.below hb23); replace H1 := hide (H1.out.below hb23); replace HBW := hide (Below.next HBW.out hb23); have zw23 : w22.heap.size ≤ w23.heap.size := hb23.size; have T := hide (L23 : LocI w22.heap.size w23.heap.size w23 (.slice uT.a uT.n uT.cap) L); clear L23; clear hb23; have lBA1_23 := BA1.out.now; have eBA1_23_0 := cell_of_heapB lBA1_23 (k := 0) rfl; have eBA1_23_1 := cell_of_heapB lBA1_23 (k := 1) rfl; have tBA1_23 := lt_of_cell eBA1_23_0; clear lBA1_23))
      clear eBA10 eBA11 tBA1 eBA1_21_0 eBA1_21_1 tBA1_21 eBA1_22_0 eBA1_22_1 tBA1_22 eBA1_23_0 eBA1_23_1 tBA1_23
      go_wp2_with fail
      (with_reducible refine (eqI_same (.slice uT.a uT.n uT.cap) (.slice uW.a uW.n uW.cap) L _ T.out.rep W.out.rep).mono ?_); rintro e w24 ⟨rfl, hb24⟩
      replace R0 := hide (R0.out.below hb24)
      replace R1 := hide (R1.out.below hb24)
      replace BA1 := hide (BA1.out.below hb24)
      replace S0 := hide (S0.out.below hb24)
      replace S1 := hide (S1.out.below hb24)
      replace W := hide (W.out.below hb24)
      replace BX1 := hide (BX1.out.below hb24)
      replace G := hide (G.out.below hb24)
      replace H0 := hide (H0.out.below hb24)
      replace H1 := hide (H1.out.below hb24)
      replace T := hide (T.out.below hb24)
      replace HBW := hide (Below.next HBW.out hb24)
      have zw24 : w23.heap.size ≤ w24.heap.size := hb24.size
      clear hb24
      go_wp2_with fail
      (with_reducible refine (heldI_loc (.slice uG.a uG.n uG.cap) NL 1 _ _ _ G.out (by omega) (by omega) (by omega)).mono ?_); rintro e w25 ⟨rfl, rfl⟩
      go_wp2_with fail
      go_ret
      exact ⟨rfl, HBW.out⟩

end Go.Proofs.Ytpnmphfdfadlcaa
