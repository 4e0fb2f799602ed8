/-
  The walk of FnSwapStores: it answers true and turns nothing that was there. No condition but the bytes' own.
-/
import Derived.Test.YthglefilfpnikaaD15
import Derived.Test.YthglefilfpnikaaF12
import Derived.Test.YthglefilfpnikaaS1
import Derived.Test.YthglefilfpnikaaP10
namespace Go.Proofs.Ythglefilfpnikaa
open Go.RowKit

theorem swapV_flat {P : List (List Ins)} (y : Int) (h : P.flatten.length ≤ 45) : (swapV P y).flatten.length ≤ 45 := by
  unfold swapV
  split
  · rw [swapP_lengths]; exact h
  · simp

structure SwapTold (P Q : List (List Ins)) : Prop where
  two : opsV 2 Q = 0
  five : opsV 5 Q = opsV 5 P + opsV 2 P
  free : opsV 1 P = 0 → opsV 3 P = 0 → raceFreeB Q = true

theorem swap_told {P : List (List Ins)} {y : Int} (h : swapOk P y = true) : SwapTold P (swapV P y) := by
  have hv := h
  unfold swapOk at hv
  simp only [Bool.and_eq_true] at hv
  rw [swapV_ok h]
  have e : ∀ o, opsV o P = opsTo o P P.length := fun o => by unfold opsV; rw [if_pos hv.1.1]
  have e' : ∀ o, opsV o (swapP y P) = opsTo o (swapP y P) (swapP y P).length := fun o => by unfold opsV; rw [if_pos hv.2]
  exact ⟨by rw [e', ops_swap2], by rw [e', e, e, ops_swap5], fun h1 h3 => free_swap h (by rw [← e, h1]) (by rw [← e, h3])⟩

theorem opsV_le {P : List (List Ins)} (h : P.flatten.length ≤ 45) (o : Int) : opsV o P ≤ 45 := by
  unfold opsV
  split
  · exact Nat.le_trans (opsTo_le o P _) h
  · omega

set_option maxRecDepth 100000 in
set_option maxHeartbeats 3200000 in
theorem lawFnSwapStores (v : Value) (xs : List Int) (w : World) (hx : Rep ByteE w v xs) (hb : ∀ x ∈ xs, 0 ≤ x ∧ x ≤ 255) :
    Calls Try.prog 5 #[v] w fun e w' => e = .returned (.bool true) ∧ Below w.heap.size w w' := by
  obtain ⟨a0, c0, rfl, -, hm, -, hx⟩ := hx.open
  have HD := hide (DrawSwapStores_any (.slice a0 xs.length c0) xs w hx hb)
  clear hx hb
  generalize xs.length = n at *
  by_cases hl : (n : Int) > 1048576
  · go_enter Try.func5, Try.ntmps5
    go_wp2_with fail
    go_ret
    exact ⟨rfl, Below.refl _ _⟩
  · have hl' : decide ((n : Int) > 1048576) = false := decide_eq_false hl
    go_enter Try.func5, Try.ntmps5
    go_wp2_with fail
    (with_reducible refine HD.out.mono ?_); rintro e w1 ⟨v1, P, y, rfl, hP, hPl, hPr, hb1⟩
    have hfl := flatten_bound9 hPl hPr
    have hfq := swapV_flat y hfl
    have HP := hide hP; have HB1 := hide hb1
    have HI := hide (SwapStores_any v1 P y w1 hP (by omega))
    have HS := hide (fun w' h => sSwapStores_any v1 P y w' h (by omega) (by omega))
    have HT := hide (fun h => swap_told (P := P) (y := y) h)
    have HC := hide (fun o w' h => CountOps_any v1 P o w' h (by omega))
    have HCQ := hide (fun q o w' h => CountOps_any q (swapV P y) o w' h (by omega))
    have HF := hide (fun q w' h => RaceFree_any q (swapV P y) w' h (by omega))
    have HBP := hide (fun o => opsV_le hfl o)
    clear hP hb1 HD hPr hfl hfq
    generalize swapV P y = Q at *
    generalize swapOk P y = B at *
    go_wp2_with fail
    (with_reducible refine HI.out.mono ?_); rintro e w2 ⟨q, rfl, o2, hb2⟩
    have O2 := hide o2; have HB2 := hide (HB1.out.trans (hb2.mono HB1.out.size)); have HP2 := hide (HP.out.below hb2)
    clear o2 hb2 HI HP HB1
    go_wp2_with fail
    (with_reducible refine (HS.out _ HP2.out).mono ?_); rintro e w3 ⟨q', rfl, o3, hb3⟩
    have R3 := hide o3.rep; have HB3 := hide (HB2.out.trans (hb3.mono HB2.out.size)); have HP3 := hide (HP2.out.below hb3); have R2 := hide (O2.out.below hb3).rep
    clear o3 hb3 HS HP2 HB2 O2
    have hBB : (B != B) = false := by simp
    go_wp2_with fail
    (with_reducible refine (ProgramSame_any q q' Q Q _ R2.out R3.out).mono ?_); rintro e w4 ⟨rfl, hb4⟩
    rw [decide_eq_true (rfl : Q = Q)]
    have HB4 := hide (HB3.out.trans (hb4.mono HB3.out.size)); have HP4 := hide (HP3.out.below hb4); have R4 := hide (R2.out.below hb4); have R4' := hide (R3.out.below hb4)
    clear hb4 HB3 HP3 R2 R3
    cases B
    · clear HT
      go_wp2_with fail
      (with_reducible refine (ProgramSame_any q q' Q Q _ R4.out R4'.out).mono ?_); rintro e w5 ⟨rfl, hb5⟩
      rw [decide_eq_true (rfl : Q = Q)]
      go_wp2_with fail
      go_ret
      exact ⟨rfl, HB4.out.trans (hb5.mono HB4.out.size)⟩
    · have HT2 := hide (HT.out rfl)
      clear HT hBB
      go_wp2_with fail
      (with_reducible refine (HC.out 1 _ HP4.out).mono ?_); rintro e w5 ⟨rfl, hb5⟩
      have HB5 := hide (HB4.out.trans (hb5.mono HB4.out.size)); have HP5 := hide (HP4.out.below hb5); have R5 := hide (R4.out.below hb5)
      clear hb5 HB4 HP4 R4 R4'
      go_wp2_with fail
      (with_reducible refine (HC.out 3 _ HP5.out).mono ?_); rintro e w6 ⟨rfl, hb6⟩
      have HB6 := hide (HB5.out.trans (hb6.mono HB5.out.size)); have HP6 := hide (HP5.out.below hb6); have R6 := hide (R5.out.below hb6)
      clear hb6 HB5 HP5 R5
      have u1 := HBP.out 1; have u2 := HBP.out 2; have u3 := HBP.out 3; have u5 := HBP.out 5
      have T1 := hide (HT2.out.free)
      have T2 := hide (HT2.out.two)
      have T5 := hide (HT2.out.five)
      have C2 := hide (fun w' h => HC.out 2 w' h); have C5 := hide (fun w' h => HC.out 5 w' h)
      clear HT2 HC HBP
      generalize opsV 1 P = n1 at *
      generalize opsV 2 P = n2 at *
      generalize opsV 3 P = n3 at *
      generalize opsV 5 P = n5 at *
      by_cases hz : n1 = 0 ∧ n3 = 0
      · obtain ⟨rfl, rfl⟩ := hz
        have F := hide (T1.out rfl rfl)
        clear T1
        go_wp2_with fail
        (with_reducible refine (HCQ.out q 2 _ R6.out).mono ?_); rw [T2.out]; rintro e w7 ⟨rfl, hb7⟩
        have HB7 := hide (HB6.out.trans (hb7.mono HB6.out.size)); have HP7 := hide (HP6.out.below hb7); have R7 := hide (R6.out.below hb7)
        clear hb7 HB6 HP6 R6
        go_wp2_with fail
        (with_reducible refine (HCQ.out q 5 _ R7.out).mono ?_); rw [T5.out]; rintro e w8 ⟨rfl, hb8⟩
        have HB8 := hide (HB7.out.trans (hb8.mono HB7.out.size)); have HP8 := hide (HP7.out.below hb8); have R8 := hide (R7.out.below hb8)
        clear hb8 HB7 HP7 R7
        go_wp2_with fail
        (with_reducible refine (C5.out _ HP8.out).mono ?_); rintro e w9 ⟨rfl, hb9⟩
        have HB9 := hide (HB8.out.trans (hb9.mono HB8.out.size)); have HP9 := hide (HP8.out.below hb9); have R9 := hide (R8.out.below hb9)
        clear hb9 HB8 HP8 R8
        go_wp2_with fail
        (with_reducible refine (C2.out _ HP9.out).mono ?_); rintro e w10 ⟨rfl, hb10⟩
        have HB10 := hide (HB9.out.trans (hb10.mono HB9.out.size)); have R10 := hide (R9.out.below hb10)
        clear hb10 HB9 HP9 R9
        have hs : ((n5 + n2 : Nat) : Int) = (n5 : Int) + (n2 : Int) := by omega
        have hs2 : (((n5 + n2 : Nat) : Int) == (n5 : Int) + (n2 : Int)) = true := by simp
        go_wp2_with fail
        (with_reducible refine (HF.out q _ R10.out).mono ?_); rw [F.out]; rintro e w11 ⟨rfl, hb11⟩
        go_wp2_with fail
        go_ret
        exact ⟨rfl, HB10.out.trans (hb11.mono HB10.out.size)⟩
      · have hz' : ((n1 : Int) + (n3 : Int) == 0) = false := by simp; omega
        clear hz T1
        go_wp2_with fail
        (with_reducible refine (HCQ.out q 2 _ R6.out).mono ?_); rw [T2.out]; rintro e w7 ⟨rfl, hb7⟩
        have HB7 := hide (HB6.out.trans (hb7.mono HB6.out.size)); have HP7 := hide (HP6.out.below hb7); have R7 := hide (R6.out.below hb7)
        clear hb7 HB6 HP6 R6
        go_wp2_with fail
        (with_reducible refine (HCQ.out q 5 _ R7.out).mono ?_); rw [T5.out]; rintro e w8 ⟨rfl, hb8⟩
        have HB8 := hide (HB7.out.trans (hb8.mono HB7.out.size)); have HP8 := hide (HP7.out.below hb8)
        clear hb8 HB7 HP7 R7
        go_wp2_with fail
        (with_reducible refine (C5.out _ HP8.out).mono ?_); rintro e w9 ⟨rfl, hb9⟩
        have HB9 := hide (HB8.out.trans (hb9.mono HB8.out.size)); have HP9 := hide (HP8.out.below hb9)
        clear hb9 HB8 HP8
        go_wp2_with fail
        (with_reducible refine (C2.out _ HP9.out).mono ?_); rintro e w10 ⟨rfl, hb10⟩
        have HB10 := hide (HB9.out.trans (hb10.mono HB9.out.size))
        clear hb10 HB9 HP9
        have hs : ((n5 + n2 : Nat) : Int) = (n5 : Int) + (n2 : Int) := by omega
        have hs2 : (((n5 + n2 : Nat) : Int) == (n5 : Int) + (n2 : Int)) = true := by simp
        go_wp2_with fail
        go_ret
        exact ⟨rfl, HB10.out⟩

theorem lawFnSwapStores3 (v : Value) (xs : List Int) (w : World) (h : Rep ByteE w v xs ∧ ∀ x ∈ xs, 0 ≤ x ∧ x ≤ 255) :
    Calls Try.prog 5 #[v] w fun e w' => e = .returned (.bool true) ∧ Below w.heap.size w w' := lawFnSwapStores v xs w h.1 h.2

end Go.Proofs.Ythglefilfpnikaa
