/-
  The walk of FnRaceSwap: it answers true and turns nothing that was there. No condition but the bytes' own.
-/
import Derived.Test.YthglefilfpnikaaD15
import Derived.Test.YthglefilfpnikaaF12
import Derived.Test.YthglefilfpnikaaS1
import Derived.Test.YthglefilfpnikaaP10
import Derived.Test.YthglefilfpnikaaR1
namespace Go.Proofs.Ythglefilfpnikaa
open Go.RowKit

theorem swapV_flat2 {P : List (List Ins)} (y : Int) (h : P.flatten.length ≤ 45) : (swapV P y).flatten.length ≤ 45 := by
  unfold swapV
  split
  · rw [swapP_lengths]; exact h
  · simp

theorem racesV_le2 (p : List (List Ins)) : (racesV p).length ≤ 441 := by
  unfold racesV
  split
  · rename_i h
    obtain ⟨hv1, hv2, hv3, -, -⟩ := valid_le h
    have hfl : p.flatten.length ≤ 21 := by
      have := flatten_le7 (p := p) (fun r hr => (hv3 r hr).1)
      omega
    have hLl : (insAll p).length ≤ 21 := by unfold insAll; rw [instrsTo_length p p.length (Nat.le_refl _), List.take_length]; exact hfl
    exact Nat.le_trans (racesTo_length p (insAll p)) (Nat.mul_le_mul hLl hLl)
  · simp

def inTo (x : Rc) (L : List Rc) (k : Nat) : Bool := decide (x ∈ L.take k)
theorem inTo_succ {x : Rc} {L : List Rc} {k : Nat} {y : Rc} (h : L[k]? = some y) : inTo x L (k + 1) = (inTo x L k || decide (y = x)) := by
  unfold inTo
  rw [List.take_add_one, h, Bool.eq_iff_iff, Bool.or_eq_true, decide_eq_true_eq, decide_eq_true_eq, decide_eq_true_eq, List.mem_append]
  have e : (x ∈ (some y).toList) ↔ y = x := by
    rw [Option.toList_some, List.mem_singleton]; exact eq_comm
  rw [e]
theorem inTo_all {x : Rc} {L : List Rc} {k : Nat} (h : L.length ≤ k) (hx : x ∈ L) : inTo x L k = true := by
  unfold inTo
  rw [List.take_of_length_le h]
  exact decide_eq_true hx
theorem swapV_races {P : List (List Ins)} {y : Int} (h : swapOk P y = true) : (racesV (swapV P y)).Sublist (racesV P) := by rw [swapV_ok h]; exact races_swap h

set_option maxRecDepth 100000 in
set_option maxHeartbeats 3200000 in
theorem lawFnRaceSwap (v : Value) (xs : List Int) (w : World) (hx : Rep ByteE w v xs) (hb : ∀ x ∈ xs, 0 ≤ x ∧ x ≤ 255) :
    Calls Try.prog 4 #[v] w fun e w' => e = .returned (.bool true) ∧ Below w.heap.size w w' := by
  obtain ⟨a0, c0, rfl, -, hm, -, hx⟩ := hx.open
  have HD := hide (DrawSwapStores_any (.slice a0 xs.length c0) xs w hx hb)
  clear hx hb
  generalize xs.length = n at *
  by_cases hl : (n : Int) > 1048576
  · go_enter Try.func4, Try.ntmps4
    go_wp2_with fail
    go_ret
    exact ⟨rfl, Below.refl _ _⟩
  · have hl' : decide ((n : Int) > 1048576) = false := decide_eq_false hl
    go_enter Try.func4, Try.ntmps4
    go_wp2_with fail
    (with_reducible refine HD.out.mono ?_); rintro e w1 ⟨v1, P, y, rfl, hP, hPl, hPr, hb1⟩
    have hfl := flatten_bound9 hPl hPr
    have hfq := swapV_flat2 y hfl
    have HP := hide hP; have HB1 := hide hb1
    have HI := hide (SwapStores_any v1 P y w1 hP (by omega))
    have HS := hide (fun w' h => sSwapStores_any v1 P y w' h (by omega) (by omega))
    have HT := hide (fun h => swapV_races (P := P) (y := y) h)
    have HC := hide (fun w' h => RacesOf_any v1 P w' h (by omega))
    have HCQ := hide (fun q w' h => RacesOf_any q (swapV P y) w' h (by omega))
    have g1 := racesV_le2 P; have g2 := racesV_le2 (swapV P y)
    clear hP hb1 HD hPr hfl hfq
    generalize swapV P y = Q at *
    generalize swapOk P y = B at *
    go_wp2_with fail
    (with_reducible refine HI.out.mono ?_); rintro e w2 ⟨q, rfl, o2, hb2⟩
    have O2 := hide o2; have HB2 := hide (HB1.out.trans (hb2.mono HB1.out.size)); have HP2 := hide (HP.out.below hb2)
    clear o2 hb2 HI HP HB1
    go_wp2_with fail
    (with_reducible refine (HS.out _ HP2.out).mono ?_); rintro e w3 ⟨q', rfl, o3, hb3⟩
    have R3 := hide o3.rep; have HB3 := hide (HB2.out.trans (hb3.mono HB2.out.size)); have HP3 := hide (HP2.out.below hb3); have R2 := hide (O2.out.below hb3).rep
    clear o3 hb3 HS HP2 HB2 O2
    have hBB : (B != B) = false := by simp
    go_wp2_with fail
    (with_reducible refine (ProgramSame_any q q' Q Q _ R2.out R3.out).mono ?_); rintro e w4 ⟨rfl, hb4⟩
    rw [decide_eq_true (rfl : Q = Q)]
    have HB4 := hide (HB3.out.trans (hb4.mono HB3.out.size)); have HP4 := hide (HP3.out.below hb4); have R4 := hide (R2.out.below hb4); have R4' := hide (R3.out.below hb4)
    clear hb4 HB3 HP3 R2 R3
    cases B
    · clear HT
      go_wp2_with fail
      (with_reducible refine (ProgramSame_any q q' Q Q _ R4.out R4'.out).mono ?_); rintro e w5 ⟨rfl, hb5⟩
      rw [decide_eq_true (rfl : Q = Q)]
      go_wp2_with fail
      go_ret
      exact ⟨rfl, HB4.out.trans (hb5.mono HB4.out.size)⟩
    · have HT2 := hide (HT.out rfl)
      clear HT hBB R4'
      go_wp2_with fail
      (with_reducible refine (HC.out _ HP4.out).mono ?_); rintro e w5 ⟨ga, rfl, o5, hb5⟩
      have HB5 := hide (HB4.out.trans (hb5.mono HB4.out.size)); have R5 := hide (R4.out.below hb5); have O5 := hide o5
      clear hb5 HB4 HP4 R4 o5
      go_wp2_with fail
      (with_reducible refine (HCQ.out q _ R5.out).mono ?_); rintro e w6 ⟨gb, rfl, o6, hb6⟩
      have HB6 := hide (HB5.out.trans (hb6.mono HB5.out.size)); have RA := hide (O5.out.below hb6).rep; have RB := hide o6.rep
      clear hb6 HB5 R5 o6 O5 HC HCQ
      generalize racesV P = A at *
      generalize racesV Q = G at *
      obtain ⟨aa, ac, rfl, ac1, ac2, ac3, hRA⟩ := RA.out.open
      obtain ⟨ba, bc, rfl, bc1, bc2, bc3, hRB⟩ := RB.out.open
      have HRA := hide hRA; have HRB := hide hRB
      have hle := HT2.out.length_le
      have HSub := hide (fun x h => HT2.out.subset (a := x) h)
      clear hRA hRB RA RB HT2
      generalize hn1 : A.length = N1 at *
      generalize hn2 : G.length = N2 at *
      have HN1 := hide hn1; have HN2 := hide hn2
      clear hn1 hn2
      go_wp2_with fail
      go_loopw [11] (fun i wr => ∃ k : Nat, k ≤ N2 ∧ i = .int .i64 k ∧ Below w6.heap.size w6 wr) (fun i _ => N2 - (intOf i).toNat)
      case atStart => exact ⟨0, by omega, rfl, Below.refl _ _⟩
      case round =>
        obtain ⟨k, hk, rfl, hbr⟩ := hrel
        by_cases hlt : k < N2
        · obtain ⟨x, hxk⟩ := get_of_lt (xs := G) (k := k) (by rw [HN2.out]; exact hlt)
          have hlt' := nat_of_lt hlt
          have X := hide hxk
          have XA := hide (HSub.out x (List.mem_of_getElem? hxk))
          clear hxk
          go_wp2_with fail
          go_loopw [12, 13] (fun f i wr2 => ∃ j : Nat, j ≤ N1 ∧ i = .int .i64 j ∧ f = .bool (inTo x A j) ∧ Below w6.heap.size w6 wr2) (fun _ i _ => N1 - (intOf i).toNat)
          case atStart => exact ⟨0, by omega, rfl, by simp [inTo], hbr⟩
          case round =>
            obtain ⟨j, hj, rfl, rfl, hbr2⟩ := hrel
            by_cases hlt2 : j < N1
            · obtain ⟨z, hzk⟩ := get_of_lt (xs := A) (k := j) (by rw [HN1.out]; exact hlt2)
              have hlt2' := nat_of_lt hlt2
              have ST := hide (inTo_succ (x := x) hzk)
              obtain ⟨b1, o1, rfl, bl1, i0, i1, i2, i3⟩ := (HRA.out.below hbr2).rc hzk
              obtain ⟨b2, o2, rfl, bl2, j0, j1, j2, j3⟩ := (HRB.out.below hbr2).rc X.out
              clear hzk
              generalize inTo x A j = F at *
              cases F
              · obtain ⟨⟨z0, z1⟩, z2, z3⟩ := z
                obtain ⟨⟨x0, x1⟩, x2, x3⟩ := x
                simp only at i0 i1 i2 i3 j0 j1 j2 j3
                by_cases hzx : (⟨⟨z0, z1⟩, z2, z3⟩ : Rc) = ⟨⟨x0, x1⟩, x2, x3⟩
                · have ST2 : Hid (inTo ⟨⟨x0, x1⟩, x2, x3⟩ A (j + 1) = true) := hide (by rw [ST.out, decide_eq_true hzx]; rfl)
                  obtain ⟨rfl, rfl, rfl, rfl⟩ : z0 = x0 ∧ z1 = x1 ∧ z2 = x2 ∧ z3 = x3 := by simpa [and_assoc] using hzx
                  clear hzx ST
                  go_wp2_with fail
                  refine wp_region_bw (by kernel_rfl) (by kernel_rfl) ?_
                  repeat (go_big_quiet_step (fail))
                  refine wpQuiet_nil ?_
                  intro w7 hb7
                  have hb8 := hbr2.trans (hb7.mono hbr2.size)
                  go_wp2_with fail
                  go_roundw
                  case rel => exact ⟨j + 1, by omega, by go_num, by rw [ST2.out], hb8⟩
                  case measure => simp [intOf]; omega
                · have ST2 : Hid (inTo ⟨⟨x0, x1⟩, x2, x3⟩ A (j + 1) = false) := hide (by rw [ST.out, decide_eq_false hzx]; rfl)
                  have ZX := hide (fun (h0 : z0 = x0) (h1 : z1 = x1) (h2 : z2 = x2) (h3 : z3 = x3) => hzx (by rw [h0, h1, h2, h3]))
                  clear hzx ST
                  by_cases h0 : z0 = x0
                  case neg =>
                    have g0 : (z0 == x0) = false := by simp [h0]
                    go_wp2_with fail
                    refine wp_region_bw (by kernel_rfl) (by kernel_rfl) ?_
                    repeat (go_big_quiet_step (fail))
                    refine wpQuiet_nil ?_
                    intro w7 hb7
                    have hb8 := hbr2.trans (hb7.mono hbr2.size)
                    go_wp2_with fail
                    go_roundw
                    case rel => exact ⟨j + 1, by omega, by go_num, by rw [ST2.out], hb8⟩
                    case measure => simp [intOf]; omega
                  subst h0
                  by_cases h1 : z1 = x1
                  case neg =>
                    have g1 : (z1 == x1) = false := by simp [h1]
                    go_wp2_with fail
                    refine wp_region_bw (by kernel_rfl) (by kernel_rfl) ?_
                    repeat (go_big_quiet_step (fail))
                    refine wpQuiet_nil ?_
                    intro w7 hb7
                    have hb8 := hbr2.trans (hb7.mono hbr2.size)
                    go_wp2_with fail
                    go_roundw
                    case rel => exact ⟨j + 1, by omega, by go_num, by rw [ST2.out], hb8⟩
                    case measure => simp [intOf]; omega
                  subst h1
                  by_cases h2 : z2 = x2
                  case neg =>
                    have g2 : (z2 == x2) = false := by simp [h2]
                    go_wp2_with fail
                    refine wp_region_bw (by kernel_rfl) (by kernel_rfl) ?_
                    repeat (go_big_quiet_step (fail))
                    refine wpQuiet_nil ?_
                    intro w7 hb7
                    have hb8 := hbr2.trans (hb7.mono hbr2.size)
                    go_wp2_with fail
                    go_roundw
                    case rel => exact ⟨j + 1, by omega, by go_num, by rw [ST2.out], hb8⟩
                    case measure => simp [intOf]; omega
                  subst h2
                  have h3 : ¬ z3 = x3 := fun e => ZX.out rfl rfl rfl e
                  have g3 : (z3 == x3) = false := by simp [h3]
                  go_wp2_with fail
                  refine wp_region_bw (by kernel_rfl) (by kernel_rfl) ?_
                  repeat (go_big_quiet_step (fail))
                  refine wpQuiet_nil ?_
                  intro w7 hb7
                  have hb8 := hbr2.trans (hb7.mono hbr2.size)
                  go_wp2_with fail
                  go_roundw
                  case rel => exact ⟨j + 1, by omega, by go_num, by rw [ST2.out], hb8⟩
                  case measure => simp [intOf]; omega
              · have ST2 : Hid (inTo x A (j + 1) = true) := hide (by rw [ST.out, Bool.true_or])
                go_wp2_with fail
                refine wp_region_bw (by kernel_rfl) (by kernel_rfl) ?_
                repeat (go_big_quiet_step (fail))
                refine wpQuiet_nil ?_
                intro w7 hb7
                have hb8 := hbr2.trans (hb7.mono hbr2.size)
                go_wp2_with fail
                go_roundw
                case rel => exact ⟨j + 1, by omega, by go_num, by rw [ST2.out], hb8⟩
                case measure => simp [intOf]; omega
            · have e : j = N1 := by omega
              subst e
              have hin : inTo x A j = true := inTo_all (by rw [HN1.out]; exact Nat.le_refl _) XA.out
              rw [hin]
              go_wp2_with fail
              go_roundw
              case rel => exact ⟨k + 1, by omega, by go_num, hbr2⟩
              case measure => simp [intOf]; omega
        · have e : k = N2 := by omega
          subst e
          have hle' : decide (k ≤ N1) = true := decide_eq_true hle
          go_wp2_with fail
          go_ret
          exact ⟨by simp, HB6.out.trans (hbr.mono HB6.out.size)⟩

theorem lawFnRaceSwap3 (v : Value) (xs : List Int) (w : World) (h : Rep ByteE w v xs ∧ ∀ x ∈ xs, 0 ≤ x ∧ x ≤ 255) :
    Calls Try.prog 4 #[v] w fun e w' => e = .returned (.bool true) ∧ Below w.heap.size w w' := lawFnRaceSwap v xs w h.1 h.2

end Go.Proofs.Ythglefilfpnikaa
