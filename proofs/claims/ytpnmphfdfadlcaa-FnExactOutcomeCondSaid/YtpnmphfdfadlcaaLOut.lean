/-
  The law FnExactOutcomeCond answers true. No condition.
-/
import Derived.Test.YtpnmphfdfadlcaaO8
import Derived.Test.YtpnmphfdfadlcaaLw
import Derived.Test.YtpnmphfdfadlcaaP7
namespace Go.Proofs.Ytpnmphfdfadlcaa
open Go.RowKit

theorem outC_descs (p : List (List Ins)) (os : List Int) : descs (outC p os).1.kids ≤ 2097152 := by
  unfold outC
  split
  · rename_i h
    have h1 := descs_andL (saidL p os)
    have h2 := saidL_length p os
    have h3 : p.length ≤ 3 := by
      have h4 := h.1
      unfold outValid at h4
      simp only [Bool.and_eq_true] at h4
      exact (valid_le h4.1).1
    simp only
    omega
  · simp [zC, Cd.kids, descs]
theorem RetCB.made {w : World} {o t q x : Int} {ks : List Cd} {b : Bool} {e : Ending} {w' : World} (h : RetCB w (.mk o t q x ks, b) e w') : MadeC w o t q x ks b e w' := by
  obtain ⟨o', t', q', x', ks', s, e1, h1, h2, h3⟩ := h
  simp only [Cd.mk.injEq] at e1
  obtain ⟨rfl, rfl, rfl, rfl, rfl⟩ := e1
  exact ⟨s, h1, Loc.ownC h2 (Nat.le_refl _), h3⟩

set_option maxRecDepth 100000 in
set_option maxHeartbeats 6400000 in
theorem lawOutcomeCond (v0 : Value) (p0 : List (List Ins)) (v1 : Value) (p1 : List Int) (w : World) (hp0 : RepP w v0 p0) (hp1 : Rep IntE w v1 p1) :
    Calls Try.prog 6 #[v0, v1] w fun e w' => e = .returned (.bool true) ∧ Below w.heap.size w w' := by
  obtain ⟨a1, c1, rfl, -, hm1, -, hp1⟩ := hp1.open
  have R0 : Hid (Loc 0 w.heap.size w (fun W => RepP W v0 p0)) := hide (Loc.arg hp0 (fun _ hb => hp0.below hb))
  clear hp0
  generalize hN1 : p1.length = N1 at *
  have HN1 := hide hN1; clear hN1
  have R1 : Hid (Loc 0 w.heap.size w (fun W => Rep IntE W (.slice a1 N1 c1) p1)) := hide (Loc.arg hp1 (fun _ hb => hp1.below hb))
  clear hp1
  by_cases hc1 : ((N1 : Int) > 1048576)
  · skip
    have HBW : Hid (Below w.heap.size w w) := hide (Below.refl _ _)
    go_enter Try.func6, Try.ntmps6
    go_wp2_with fail
    go_ret
    exact ⟨rfl, HBW.out⟩
  · skip
    replace hc1 : N1 ≤ 1048576 := by omega
    have HS0 := hide (fun W (h : RepP W v0 p0) => szInstrSS_any v0 p0 1048576 W h (by omega) (by omega))
    have LE0 := hide (fun h => szPP_le2 p0 1048576 h (by omega))
    generalize szPP p0 1048576 = Z0 at *
    by_cases hc0 : Z0 < 0
    · skip
      have HBW : Hid (Below w.heap.size w w) := hide (Below.refl _ _)
      go_enter Try.func6, Try.ntmps6
      go_wp2_with fail
      (with_reducible refine (HS0.out _ R0.out.now).mono ?_); rintro e w1 ⟨rfl, hb1⟩
      replace R0 := hide (R0.out.below hb1)
      replace R1 := hide (R1.out.below hb1)
      replace HBW := hide (Below.next HBW.out hb1)
      have zw1 : w.heap.size ≤ w1.heap.size := hb1.size
      clear hb1
      go_wp2_with fail
      go_ret
      exact ⟨rfl, HBW.out⟩
    · skip
      have hz0 := (LE0.out hc0).1
      have HB0 := hide (LE0.out hc0).2
      have hdk := outC_descs p0 p1
      have HCS0 := fun u k W (h : RepP W u p0) (h' : Rep IntE W k p1) => sOutcomeCond_any u k p0 p1 W h h' HB0.out.2.1 HB0.out.1
      have HCI0 := fun u k W (h : RepP W u p0) (h' : Rep IntE W k p1) => OutcomeCond_any u k p0 p1 W h h' HB0.out.2.1 HB0.out.1
      generalize outC p0 p1 = r at *
      obtain ⟨⟨o, t, q, x, ks⟩, b⟩ := r
      simp only [Cd.kids] at hdk
      have HCS := hide (fun u k W (h : RepP W u p0) (h' : Rep IntE W k p1) => (HCS0 u k W h h').mono fun _ _ h => h.made)
      have HCI := hide (fun u k W (h : RepP W u p0) (h' : Rep IntE W k p1) => (HCI0 u k W h h').mono fun _ _ h => h.made)
      clear HCS0 HCI0
      have hbb : (b != b) = false := by cases b <;> rfl
      have hPl0 := HB0.out.1
      have hPs0 : sumN (p0.map List.length) ≤ 268435456 := by rw [sumN_flatten]; have := HB0.out.2.1; omega
      have HTO0 := hide (fun W (h : RepP W v0 p0) => toP_made v0 p0 W h HB0.out.1 HB0.out.2.2)
      generalize hM0 : sumN (p0.map List.length) = M0 at *
      have HM0 := hide hM0; clear hM0
      have HTO1 := hide (fun W (h : Rep IntE W (.slice a1 N1 c1) p1) => toI_made _ p1 W h (by rw [HN1.out]; omega))
      have HBW : Hid (Below w.heap.size w w) := hide (Below.refl _ _)
      go_enter Try.func6, Try.ntmps6
      go_wp2_with fail
      (with_reducible refine (HS0.out _ R0.out.now).mono ?_); rintro e w1 ⟨rfl, hb1⟩
      replace R0 := hide (R0.out.below hb1)
      replace R1 := hide (R1.out.below hb1)
      replace HBW := hide (Below.next HBW.out hb1)
      have zw1 : w.heap.size ≤ w1.heap.size := hb1.size
      clear hb1
      go_wp2_with fail
      (with_reducible refine (HTO0.out _ R0.out.now).mono ?_); rintro e w2 ⟨uS0, rfl, L2, hb2⟩
      have S0 := hide (L2 : LocP w1.heap.size w2.heap.size w2 uS0 p0)
      clear L2
      replace R0 := hide (R0.out.below hb2)
      replace R1 := hide (R1.out.below hb2)
      replace HBW := hide (Below.next HBW.out hb2)
      have zw2 : w1.heap.size ≤ w2.heap.size := hb2.size
      clear hb2
      go_wp2_with fail
      (with_reducible refine (HTO1.out _ R1.out.now).mono ?_); rintro e w3 ⟨uS1, rfl, L3, hb3⟩
      have S1 := hide (L3 : LocI w2.heap.size w3.heap.size w3 uS1 p1)
      clear L3
      replace R0 := hide (R0.out.below hb3)
      replace R1 := hide (R1.out.below hb3)
      replace S0 := hide (S0.out.below hb3)
      replace HBW := hide (Below.next HBW.out hb3)
      have zw3 : w2.heap.size ≤ w3.heap.size := hb3.size
      clear hb3
      go_wp2_with fail
      (with_reducible refine (HCS.out uS0 uS1 _ S0.out.rep2 S1.out.rep).mono ?_); rintro e w4 ⟨uW, rfl, L4, hb4⟩
      have W := hide (L4 : LocC w3.heap.size w4.heap.size w4 uW ks)
      clear L4
      replace R0 := hide (R0.out.below hb4)
      replace R1 := hide (R1.out.below hb4)
      replace S0 := hide (S0.out.below hb4)
      replace S1 := hide (S1.out.below hb4)
      replace HBW := hide (Below.next HBW.out hb4)
      have zw4 : w3.heap.size ≤ w4.heap.size := hb4.size
      clear hb4
      have hb5 := belowAllocB w4 (.cells #[.int .i64 o, .int .i64 t, .int .i64 q, .int .i64 x, .slice uW.a uW.n uW.cap] 25)
      have BW := Loc.cells w4 #[.int .i64 o, .int .i64 t, .int .i64 q, .int .i64 x, .slice uW.a uW.n uW.cap] 25
      generalize hW5 : w4.alloc (.cells #[.int .i64 o, .int .i64 t, .int .i64 q, .int .i64 x, .slice uW.a uW.n uW.cap] 25) = w5 at *
      replace BW := hide BW
      have zz5 : w4.heap.size + 1 ≤ w5.heap.size := by rw [← hW5]; simp
      replace R0 := hide (R0.out.below hb5)
      replace R1 := hide (R1.out.below hb5)
      replace S0 := hide (S0.out.below hb5)
      replace S1 := hide (S1.out.below hb5)
      replace W := hide (W.out.below hb5)
      replace HBW := hide (Below.next HBW.out hb5)
      have zw5 : w4.heap.size ≤ w5.heap.size := hb5.size
      clear hb5
      go_wp2_with fail
      (with_reducible refine (HTO0.out _ R0.out.now).mono ?_); rintro e w6 ⟨uX0, rfl, L6, hb6⟩
      have X0 := hide (L6 : LocP w5.heap.size w6.heap.size w6 uX0 p0)
      clear L6
      replace R0 := hide (R0.out.below hb6)
      replace R1 := hide (R1.out.below hb6)
      replace S0 := hide (S0.out.below hb6)
      replace S1 := hide (S1.out.below hb6)
      replace W := hide (W.out.below hb6)
      replace BW := hide (BW.out.below hb6)
      replace HBW := hide (Below.next HBW.out hb6)
      have zw6 : w5.heap.size ≤ w6.heap.size := hb6.size
      clear hb6
      clear hW5
      go_wp2_with fail
      (with_reducible refine (HTO1.out _ R1.out.now).mono ?_); rintro e w7 ⟨uX1, rfl, L7, hb7⟩
      have X1 := hide (L7 : LocI w6.heap.size w7.heap.size w7 uX1 p1)
      clear L7
      replace R0 := hide (R0.out.below hb7)
      replace R1 := hide (R1.out.below hb7)
      replace S0 := hide (S0.out.below hb7)
      replace S1 := hide (S1.out.below hb7)
      replace W := hide (W.out.below hb7)
      replace BW := hide (BW.out.below hb7)
      replace X0 := hide (X0.out.below hb7)
      replace HBW := hide (Below.next HBW.out hb7)
      have zw7 : w6.heap.size ≤ w7.heap.size := hb7.size
      clear hb7
      go_wp2_with fail
      (with_reducible refine (HCI.out uX0 uX1 _ X0.out.rep2 X1.out.rep).mono ?_); rintro e w8 ⟨uG, rfl, L8, hb8⟩
      have G := hide (L8 : LocC w7.heap.size w8.heap.size w8 uG ks)
      clear L8
      replace R0 := hide (R0.out.below hb8)
      replace R1 := hide (R1.out.below hb8)
      replace S0 := hide (S0.out.below hb8)
      replace S1 := hide (S1.out.below hb8)
      replace W := hide (W.out.below hb8)
      replace BW := hide (BW.out.below hb8)
      replace X0 := hide (X0.out.below hb8)
      replace X1 := hide (X1.out.below hb8)
      replace HBW := hide (Below.next HBW.out hb8)
      have zw8 : w7.heap.size ≤ w8.heap.size := hb8.size
      clear hb8
      have hb9 := belowAllocB w8 (.cells #[.int .i64 o, .int .i64 t, .int .i64 q, .int .i64 x, .slice uG.a uG.n uG.cap] 25)
      have BG := Loc.cells w8 #[.int .i64 o, .int .i64 t, .int .i64 q, .int .i64 x, .slice uG.a uG.n uG.cap] 25
      generalize hW9 : w8.alloc (.cells #[.int .i64 o, .int .i64 t, .int .i64 q, .int .i64 x, .slice uG.a uG.n uG.cap] 25) = w9 at *
      replace BG := hide BG
      have zz9 : w8.heap.size + 1 ≤ w9.heap.size := by rw [← hW9]; simp
      replace R0 := hide (R0.out.below hb9)
      replace R1 := hide (R1.out.below hb9)
      replace S0 := hide (S0.out.below hb9)
      replace S1 := hide (S1.out.below hb9)
      replace W := hide (W.out.below hb9)
      replace BW := hide (BW.out.below hb9)
      replace X0 := hide (X0.out.below hb9)
      replace X1 := hide (X1.out.below hb9)
      replace G := hide (G.out.below hb9)
      replace HBW := hide (Below.next HBW.out hb9)
      have zw9 : w8.heap.size ≤ w9.heap.size := hb9.size
      clear hb9
      have lBG := BG.out.now
      have eBG0 := cell_of_heapB lBG (k := 0) rfl
      have eBG1 := cell_of_heapB lBG (k := 1) rfl
      have eBG2 := cell_of_heapB lBG (k := 2) rfl
      have eBG3 := cell_of_heapB lBG (k := 3) rfl
      have eBG4 := cell_of_heapB lBG (k := 4) rfl
      have tBG := lt_of_cell eBG0
      clear lBG
      have lBW := BW.out.now
      have eBW0 := cell_of_heapB lBW (k := 0) rfl
      have eBW1 := cell_of_heapB lBW (k := 1) rfl
      have eBW2 := cell_of_heapB lBW (k := 2) rfl
      have eBW3 := cell_of_heapB lBW (k := 3) rfl
      have eBW4 := cell_of_heapB lBW (k := 4) rfl
      have tBW := lt_of_cell eBW0
      clear lBW
      go_wp2_with fail
      clear eBG0 eBG1 eBG2 eBG3 eBG4 tBG eBW0 eBW1 eBW2 eBW3 eBW4 tBW
      (with_reducible refine (eqC_same o t q x ks uG.a uW.a uG.n uG.cap uW.n uW.cap _ G.out.now W.out.now).mono ?_); rintro e w10 ⟨rfl, hb10⟩
      replace R0 := hide (R0.out.below hb10)
      replace R1 := hide (R1.out.below hb10)
      replace S0 := hide (S0.out.below hb10)
      replace S1 := hide (S1.out.below hb10)
      replace W := hide (W.out.below hb10)
      replace BW := hide (BW.out.below hb10)
      replace X0 := hide (X0.out.below hb10)
      replace X1 := hide (X1.out.below hb10)
      replace G := hide (G.out.below hb10)
      replace BG := hide (BG.out.below hb10)
      replace HBW := hide (Below.next HBW.out hb10)
      have zw10 : w9.heap.size ≤ w10.heap.size := hb10.size
      clear hb10
      clear hW9
      go_wp2_with fail
      (with_reducible refine (HTO0.out _ R0.out.now).mono ?_); rintro e w11 ⟨uE0, rfl, L11, hb11⟩
      have E0 := hide (L11 : LocP w10.heap.size w11.heap.size w11 uE0 p0)
      clear L11
      replace R0 := hide (R0.out.below hb11)
      replace R1 := hide (R1.out.below hb11)
      replace S0 := hide (S0.out.below hb11)
      replace S1 := hide (S1.out.below hb11)
      replace W := hide (W.out.below hb11)
      replace BW := hide (BW.out.below hb11)
      replace X0 := hide (X0.out.below hb11)
      replace X1 := hide (X1.out.below hb11)
      replace G := hide (G.out.below hb11)
      replace BG := hide (BG.out.below hb11)
      replace HBW := hide (Below.next HBW.out hb11)
      have zw11 : w10.heap.size ≤ w11.heap.size := hb11.size
      clear hb11
      go_wp2_with fail
      (with_reducible refine (eqP_same uX0 uE0 p0 _ X0.out.rep2 E0.out.rep2).mono ?_); rintro e w12 ⟨rfl, hb12⟩
      replace R0 := hide (R0.out.below hb12)
      replace R1 := hide (R1.out.below hb12)
      replace S0 := hide (S0.out.below hb12)
      replace S1 := hide (S1.out.below hb12)
      replace W := hide (W.out.below hb12)
      replace BW := hide (BW.out.below hb12)
      replace X0 := hide (X0.out.below hb12)
      replace X1 := hide (X1.out.below hb12)
      replace G := hide (G.out.below hb12)
      replace BG := hide (BG.out.below hb12)
      replace E0 := hide (E0.out.below hb12)
      replace HBW := hide (Below.next HBW.out hb12)
      have zw12 : w11.heap.size ≤ w12.heap.size := hb12.size
      clear hb12
      clear E0
      go_wp2_with fail
      (with_reducible refine (HTO1.out _ R1.out.now).mono ?_); rintro e w13 ⟨uE1, rfl, L13, hb13⟩
      have E1 := hide (L13 : LocI w12.heap.size w13.heap.size w13 uE1 p1)
      clear L13
      replace R0 := hide (R0.out.below hb13)
      replace R1 := hide (R1.out.below hb13)
      replace S0 := hide (S0.out.below hb13)
      replace S1 := hide (S1.out.below hb13)
      replace W := hide (W.out.below hb13)
      replace BW := hide (BW.out.below hb13)
      replace X0 := hide (X0.out.below hb13)
      replace X1 := hide (X1.out.below hb13)
      replace G := hide (G.out.below hb13)
      replace BG := hide (BG.out.below hb13)
      replace HBW := hide (Below.next HBW.out hb13)
      have zw13 : w12.heap.size ≤ w13.heap.size := hb13.size
      clear hb13
      go_wp2_with fail
      (with_reducible refine (eqI_same uX1 uE1 p1 _ X1.out.rep E1.out.rep).mono ?_); rintro e w14 ⟨rfl, hb14⟩
      replace R0 := hide (R0.out.below hb14)
      replace R1 := hide (R1.out.below hb14)
      replace S0 := hide (S0.out.below hb14)
      replace S1 := hide (S1.out.below hb14)
      replace W := hide (W.out.below hb14)
      replace BW := hide (BW.out.below hb14)
      replace X0 := hide (X0.out.below hb14)
      replace X1 := hide (X1.out.below hb14)
      replace G := hide (G.out.below hb14)
      replace BG := hide (BG.out.below hb14)
      replace E1 := hide (E1.out.below hb14)
      replace HBW := hide (Below.next HBW.out hb14)
      have zw14 : w13.heap.size ≤ w14.heap.size := hb14.size
      clear hb14
      clear E1
      go_wp2_with fail
      (with_reducible refine (markP_loc uX0 p0 (1) _ _ _ X0.out (by rw [HM0.out]; omega) (by omega) (by omega) (by omega)).mono ?_); rintro e w15 ⟨rfl, hb15⟩
      replace R0 := hide (R0.out.outs hb15 (by omega))
      replace R1 := hide (R1.out.outs hb15 (by omega))
      replace S0 := hide (S0.out.outs hb15 (by omega))
      replace S1 := hide (S1.out.outs hb15 (by omega))
      replace W := hide (W.out.outs hb15 (by omega))
      replace BW := hide (BW.out.outs hb15 (by omega))
      replace X1 := hide (X1.out.outs hb15 (by omega))
      replace G := hide (G.out.outs hb15 (by omega))
      replace BG := hide (BG.out.outs hb15 (by omega))
      replace HBW := hide (HBW.out.trans (hb15.below (B := w.heap.size) (by omega) HBW.out.size))
      have zw15 : w14.heap.size ≤ w15.heap.size := hb15.size
      clear hb15
      rw [HM0.out]
      clear X0
      go_wp2_with fail
      (with_reducible refine (markI_loc uX1 p1 (1 + 4 * (M0 : Int)) _ _ _ X1.out (by rw [HN1.out]; omega) (by omega) (by omega)).mono ?_); rintro e w16 ⟨rfl, -, hb16⟩
      replace R0 := hide (R0.out.outs hb16 (by omega))
      replace R1 := hide (R1.out.outs hb16 (by omega))
      replace S0 := hide (S0.out.outs hb16 (by omega))
      replace S1 := hide (S1.out.outs hb16 (by omega))
      replace W := hide (W.out.outs hb16 (by omega))
      replace BW := hide (BW.out.outs hb16 (by omega))
      replace G := hide (G.out.outs hb16 (by omega))
      replace BG := hide (BG.out.outs hb16 (by omega))
      replace HBW := hide (HBW.out.trans (hb16.below (B := w.heap.size) (by omega) HBW.out.size))
      have zw16 : w15.heap.size ≤ w16.heap.size := hb16.size
      clear hb16
      rw [HN1.out]
      clear X1
      have lBG := BG.out.now
      have eBG0 := cell_of_heapB lBG (k := 0) rfl
      have eBG1 := cell_of_heapB lBG (k := 1) rfl
      have eBG2 := cell_of_heapB lBG (k := 2) rfl
      have eBG3 := cell_of_heapB lBG (k := 3) rfl
      have eBG4 := cell_of_heapB lBG (k := 4) rfl
      have tBG := lt_of_cell eBG0
      clear lBG
      have lBW := BW.out.now
      have eBW0 := cell_of_heapB lBW (k := 0) rfl
      have eBW1 := cell_of_heapB lBW (k := 1) rfl
      have eBW2 := cell_of_heapB lBW (k := 2) rfl
      have eBW3 := cell_of_heapB lBW (k := 3) rfl
      have eBW4 := cell_of_heapB lBW (k := 4) rfl
      have tBW := lt_of_cell eBW0
      clear lBW
      go_wp2_with fail
      clear eBG0 eBG1 eBG2 eBG3 eBG4 tBG eBW0 eBW1 eBW2 eBW3 eBW4 tBW
      (with_reducible refine (eqC_same o t q x ks uG.a uW.a uG.n uG.cap uW.n uW.cap _ G.out.now W.out.now).mono ?_); rintro e w17 ⟨rfl, hb17⟩
      replace R0 := hide (R0.out.below hb17)
      replace R1 := hide (R1.out.below hb17)
      replace S0 := hide (S0.out.below hb17)
      replace S1 := hide (S1.out.below hb17)
      replace W := hide (W.out.below hb17)
      replace BW := hide (BW.out.below hb17)
      replace G := hide (G.out.below hb17)
      replace BG := hide (BG.out.below hb17)
      replace HBW := hide (Below.next HBW.out hb17)
      have zw17 : w16.heap.size ≤ w17.heap.size := hb17.size
      clear hb17
      have lBG := BG.out.now
      have eBG0 := cell_of_heapB lBG (k := 0) rfl
      have eBG1 := cell_of_heapB lBG (k := 1) rfl
      have eBG2 := cell_of_heapB lBG (k := 2) rfl
      have eBG3 := cell_of_heapB lBG (k := 3) rfl
      have eBG4 := cell_of_heapB lBG (k := 4) rfl
      have tBG := lt_of_cell eBG0
      clear lBG
      go_wp2_with fail
      clear eBG0 eBG1 eBG2 eBG3 eBG4 tBG
      (with_reducible refine (markC_loc o t q x ks _ _ uG 1 _ G.out (by have := G.out.le; omega) (by omega) (by omega)).mono ?_); rintro e w18 ⟨qm, xs, rfl, hmk, hds, G2, hb18⟩
      replace R0 := hide (R0.out.outs hb18 (by omega))
      replace R1 := hide (R1.out.outs hb18 (by omega))
      replace S0 := hide (S0.out.outs hb18 (by omega))
      replace S1 := hide (S1.out.outs hb18 (by omega))
      replace W := hide (W.out.outs hb18 (by omega))
      replace BW := hide (BW.out.outs hb18 (by omega))
      replace BG := hide (BG.out.outs hb18 (by omega))
      replace HBW := hide (HBW.out.trans (hb18.below (B := w.heap.size) (by omega) HBW.out.size))
      have zw18 : w17.heap.size ≤ w18.heap.size := hb18.size
      clear hb18
      have hle := hmk.le
      have hqb : qm ≤ 1099511627776 := by omega
      have hq0 : ¬ qm < 0 := by omega
      have hqq : (qm != qm) = false := by simp
      have MK := hide hmk
      replace G := hide G2
      clear hmk hle hds G2
      have lBG := BG.out.now
      have eBG0 := cell_of_heapB lBG (k := 0) rfl
      have eBG1 := cell_of_heapB lBG (k := 1) rfl
      have eBG2 := cell_of_heapB lBG (k := 2) rfl
      have eBG3 := cell_of_heapB lBG (k := 3) rfl
      have eBG4 := cell_of_heapB lBG (k := 4) rfl
      have tBG := lt_of_cell eBG0
      clear lBG
      go_wp2_with fail
      clear eBG0 eBG1 eBG2 eBG3 eBG4 tBG
      (with_reducible refine (heldCond_any o t q x xs uG.a uG.n uG.cap 1 qm _ (G.out.now.rep.low (Nat.zero_le _)) MK.out (by omega) hqb).mono ?_); rintro e w19 ⟨rfl, hb19⟩
      replace R0 := hide (R0.out.below hb19)
      replace R1 := hide (R1.out.below hb19)
      replace S0 := hide (S0.out.below hb19)
      replace S1 := hide (S1.out.below hb19)
      replace W := hide (W.out.below hb19)
      replace BW := hide (BW.out.below hb19)
      replace BG := hide (BG.out.below hb19)
      replace G := hide (G.out.below hb19)
      replace HBW := hide (Below.next HBW.out hb19)
      have zw19 : w18.heap.size ≤ w19.heap.size := hb19.size
      clear hb19
      go_wp2_with fail
      (with_reducible refine (HTO0.out _ R0.out.now).mono ?_); rintro e w20 ⟨uH0, rfl, L20, hb20⟩
      have H0 := hide (L20 : LocP w19.heap.size w20.heap.size w20 uH0 p0)
      clear L20
      replace R0 := hide (R0.out.below hb20)
      replace R1 := hide (R1.out.below hb20)
      replace S0 := hide (S0.out.below hb20)
      replace S1 := hide (S1.out.below hb20)
      replace W := hide (W.out.below hb20)
      replace BW := hide (BW.out.below hb20)
      replace BG := hide (BG.out.below hb20)
      replace G := hide (G.out.below hb20)
      replace HBW := hide (Below.next HBW.out hb20)
      have zw20 : w19.heap.size ≤ w20.heap.size := hb20.size
      clear hb20
      go_wp2_with fail
      (with_reducible refine (HTO1.out _ R1.out.now).mono ?_); rintro e w21 ⟨uH1, rfl, L21, hb21⟩
      have H1 := hide (L21 : LocI w20.heap.size w21.heap.size w21 uH1 p1)
      clear L21
      replace R0 := hide (R0.out.below hb21)
      replace R1 := hide (R1.out.below hb21)
      replace S0 := hide (S0.out.below hb21)
      replace S1 := hide (S1.out.below hb21)
      replace W := hide (W.out.below hb21)
      replace BW := hide (BW.out.below hb21)
      replace BG := hide (BG.out.below hb21)
      replace G := hide (G.out.below hb21)
      replace H0 := hide (H0.out.below hb21)
      replace HBW := hide (Below.next HBW.out hb21)
      have zw21 : w20.heap.size ≤ w21.heap.size := hb21.size
      clear hb21
      go_wp2_with fail
      (with_reducible refine (HCI.out uH0 uH1 _ H0.out.rep2 H1.out.rep).mono ?_); rintro e w22 ⟨uT, rfl, L22, hb22⟩
      have T := hide (L22 : LocC w21.heap.size w22.heap.size w22 uT ks)
      clear L22
      replace R0 := hide (R0.out.below hb22)
      replace R1 := hide (R1.out.below hb22)
      replace S0 := hide (S0.out.below hb22)
      replace S1 := hide (S1.out.below hb22)
      replace W := hide (W.out.below hb22)
      replace BW := hide (BW.out.below hb22)
      replace BG := hide (BG.out.below hb22)
      replace G := hide (G.out.below hb22)
      replace H0 := hide (H0.out.below hb22)
      replace H1 := hide (H1.out.below hb22)
      replace HBW := hide (Below.next HBW.out hb22)
      have zw22 : w21.heap.size ≤ w22.heap.size := hb22.size
      clear hb22
      have hb23 := belowAllocB w22 (.cells #[.int .i64 o, .int .i64 t, .int .i64 q, .int .i64 x, .slice uT.a uT.n uT.cap] 25)
      have BT := Loc.cells w22 #[.int .i64 o, .int .i64 t, .int .i64 q, .int .i64 x, .slice uT.a uT.n uT.cap] 25
      generalize hW23 : w22.alloc (.cells #[.int .i64 o, .int .i64 t, .int .i64 q, .int .i64 x, .slice uT.a uT.n uT.cap] 25) = w23 at *
      replace BT := hide BT
      have zz23 : w22.heap.size + 1 ≤ w23.heap.size := by rw [← hW23]; simp
      replace R0 := hide (R0.out.below hb23)
      replace R1 := hide (R1.out.below hb23)
      replace S0 := hide (S0.out.below hb23)
      replace S1 := hide (S1.out.below hb23)
      replace W := hide (W.out.below hb23)
      replace BW := hide (BW.out.below hb23)
      replace BG := hide (BG.out.below hb23)
      replace G := hide (G.out.below hb23)
      replace H0 := hide (H0.out.below hb23)
      replace H1 := hide (H1.out.below hb23)
      replace T := hide (T.out.below hb23)
      replace HBW := hide (Below.next HBW.out hb23)
      have zw23 : w22.heap.size ≤ w23.heap.size := hb23.size
      clear hb23
      have lBT := BT.out.now
      have eBT0 := cell_of_heapB lBT (k := 0) rfl
      have eBT1 := cell_of_heapB lBT (k := 1) rfl
      have eBT2 := cell_of_heapB lBT (k := 2) rfl
      have eBT3 := cell_of_heapB lBT (k := 3) rfl
      have eBT4 := cell_of_heapB lBT (k := 4) rfl
      have tBT := lt_of_cell eBT0
      clear lBT
      have lBW := BW.out.now
      have eBW0 := cell_of_heapB lBW (k := 0) rfl
      have eBW1 := cell_of_heapB lBW (k := 1) rfl
      have eBW2 := cell_of_heapB lBW (k := 2) rfl
      have eBW3 := cell_of_heapB lBW (k := 3) rfl
      have eBW4 := cell_of_heapB lBW (k := 4) rfl
      have tBW := lt_of_cell eBW0
      clear lBW
      go_wp2_with fail
      clear eBT0 eBT1 eBT2 eBT3 eBT4 tBT eBW0 eBW1 eBW2 eBW3 eBW4 tBW
      (with_reducible refine (eqC_same o t q x ks uT.a uW.a uT.n uT.cap uW.n uW.cap _ T.out.now W.out.now).mono ?_); rintro e w24 ⟨rfl, hb24⟩
      replace R0 := hide (R0.out.below hb24)
      replace R1 := hide (R1.out.below hb24)
      replace S0 := hide (S0.out.below hb24)
      replace S1 := hide (S1.out.below hb24)
      replace W := hide (W.out.below hb24)
      replace BW := hide (BW.out.below hb24)
      replace BG := hide (BG.out.below hb24)
      replace G := hide (G.out.below hb24)
      replace H0 := hide (H0.out.below hb24)
      replace H1 := hide (H1.out.below hb24)
      replace T := hide (T.out.below hb24)
      replace BT := hide (BT.out.below hb24)
      replace HBW := hide (Below.next HBW.out hb24)
      have zw24 : w23.heap.size ≤ w24.heap.size := hb24.size
      clear hb24
      clear hW23
      have lBG := BG.out.now
      have eBG0 := cell_of_heapB lBG (k := 0) rfl
      have eBG1 := cell_of_heapB lBG (k := 1) rfl
      have eBG2 := cell_of_heapB lBG (k := 2) rfl
      have eBG3 := cell_of_heapB lBG (k := 3) rfl
      have eBG4 := cell_of_heapB lBG (k := 4) rfl
      have tBG := lt_of_cell eBG0
      clear lBG
      go_wp2_with fail
      clear eBG0 eBG1 eBG2 eBG3 eBG4 tBG
      (with_reducible refine (heldCond_any o t q x xs uG.a uG.n uG.cap 1 qm _ (G.out.now.rep.low (Nat.zero_le _)) MK.out (by omega) hqb).mono ?_); rintro e w25 ⟨rfl, hb25⟩
      replace R0 := hide (R0.out.below hb25)
      replace R1 := hide (R1.out.below hb25)
      replace S0 := hide (S0.out.below hb25)
      replace S1 := hide (S1.out.below hb25)
      replace W := hide (W.out.below hb25)
      replace BW := hide (BW.out.below hb25)
      replace BG := hide (BG.out.below hb25)
      replace G := hide (G.out.below hb25)
      replace H0 := hide (H0.out.below hb25)
      replace H1 := hide (H1.out.below hb25)
      replace T := hide (T.out.below hb25)
      replace BT := hide (BT.out.below hb25)
      replace HBW := hide (Below.next HBW.out hb25)
      have zw25 : w24.heap.size ≤ w25.heap.size := hb25.size
      clear hb25
      go_wp2_with fail
      go_ret
      exact ⟨rfl, HBW.out⟩

end Go.Proofs.Ytpnmphfdfadlcaa
