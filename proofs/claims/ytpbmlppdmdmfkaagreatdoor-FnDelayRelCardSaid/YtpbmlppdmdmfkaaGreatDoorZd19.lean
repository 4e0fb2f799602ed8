/-
  FnDelayRel: for every input the law returns true and the input reads afterwards as it read before; the tied card. Condition: none beyond the row's own (the listed variable starts as the program's text lays it, which the card ties).
-/
import Derived.Test.YtpbmlppdmdmfkaaGreatDoorZd18
import Derived.Test.YtpbmlppdmdmfkaaGreatDoorZd16
import Derived.Test.YtpbmlppdmdmfkaaGreatDoorZd05
import Derived.Test.YtpbmlppdmdmfkaaGreatDoorZd04
import Derived.Test.YtpbmlppdmdmfkaaGreatDoorZd09
import Derived.Test.YtpbmlppdmdmfkaaGreatDoorZd11
import Derived.Test.YtpbmlppdmdmfkaaGreatDoorZd10
import Derived.Test.YtpbmlppdmdmfkaaGreatDoorZd02
import Derived.Test.YtpbmlppdmdmfkaaGreatDoorZd08
import Derived.Test.YtpbmlppdmdmfkaaGreatDoorZd00
import Derived.Test.YtpbmlppdmdmfkaaGreatDoorZd06
import Derived.Test.YtpbmlppdmdmfkaaGreatDoorTie
import Derived.Test.YtpbmlppdmdmfkaaGreatDoorCards
import Derived.SevenTiedAt
namespace Go.Proofs.YtpbmlppdmdmfkaaGreatDoor
open Go.RowKit

/-- Three empty rows. -/
theorem three_empty (w : World) (TI TS : TypeId) : Own2U InsE TS TI [⟨some ⟨w.heap.size, 0, none⟩, 0, 0⟩, ⟨some ⟨w.heap.size + 1, 0, none⟩, 0, 0⟩, ⟨some ⟨w.heap.size + 2, 0, none⟩, 0, 0⟩]
    ((((w.alloc (.cells #[] TI)).alloc (.cells #[] TI)).alloc (.cells #[] TI)).alloc (.cells #[.slice (some ⟨w.heap.size, 0, none⟩) 0 0, .slice (some ⟨w.heap.size + 1, 0, none⟩) 0 0, .slice (some ⟨w.heap.size + 2, 0, none⟩) 0 0] TS))
    w.heap.size (.slice (some ⟨w.heap.size + 3, 0, none⟩) 3 3) [[], [], []] := by
  have e1 := ((Own.empty (E := InsE) TI w (base := w.heap.size) (Nat.le_refl _)).alloc (.cells #[] TI)).alloc (.cells #[] TI) |>.alloc (.cells #[.slice (some ⟨w.heap.size, 0, none⟩) 0 0, .slice (some ⟨w.heap.size + 1, 0, none⟩) 0 0, .slice (some ⟨w.heap.size + 2, 0, none⟩) 0 0] TS)
  have e2 := ((Own.empty (E := InsE) TI (w.alloc (.cells #[] TI)) (base := w.heap.size) (by simp)).alloc (.cells #[] TI)).alloc (.cells #[.slice (some ⟨w.heap.size, 0, none⟩) 0 0, .slice (some ⟨w.heap.size + 1, 0, none⟩) 0 0, .slice (some ⟨w.heap.size + 2, 0, none⟩) 0 0] TS)
  have e3 := (Own.empty (E := InsE) TI ((w.alloc (.cells #[] TI)).alloc (.cells #[] TI)) (base := w.heap.size) (by simp; omega)).alloc (.cells #[.slice (some ⟨w.heap.size, 0, none⟩) 0 0, .slice (some ⟨w.heap.size + 1, 0, none⟩) 0 0, .slice (some ⟨w.heap.size + 2, 0, none⟩) 0 0] TS)
  have e4 := Own.lit (E := SlcE) (T := TS) (w := ((w.alloc (.cells #[] TI)).alloc (.cells #[] TI)).alloc (.cells #[] TI)) (base := w.heap.size) (by simp; omega)
    [⟨some ⟨w.heap.size, 0, none⟩, 0, 0⟩, ⟨some ⟨w.heap.size + 1, 0, none⟩, 0, 0⟩, ⟨some ⟨w.heap.size + 2, 0, none⟩, 0, 0⟩] #[.slice (some ⟨w.heap.size, 0, none⟩) 0 0, .slice (some ⟨w.heap.size + 1, 0, none⟩) 0 0, .slice (some ⟨w.heap.size + 2, 0, none⟩) 0 0] 3 rfl rfl (by omega)
  simp only [World.size_alloc] at e1 e2 e3 e4
  refine ⟨rfl, e4, ?_, ?_, ?_⟩
  · intro i u r hu hr
    match i, hu, hr with
    | 0, hu, hr => simp at hu hr; subst hu; subst hr; exact e1
    | 1, hu, hr => simp at hu hr; subst hu; subst hr; exact e2
    | 2, hu, hr => simp at hu hr; subst hu; subst hr; exact e3
  · intro i j u u' hi hj hij q hq hq'
    match i, j, hi, hj with
    | 0, 0, _, _ => exact hij rfl
    | 1, 1, _, _ => exact hij rfl
    | 2, 2, _, _ => exact hij rfl
    | 0, 1, hi, hj => simp at hi hj; subst hi; subst hj; simp [Value.ownBlock] at hq hq'; omega
    | 0, 2, hi, hj => simp at hi hj; subst hi; subst hj; simp [Value.ownBlock] at hq hq'; omega
    | 1, 0, hi, hj => simp at hi hj; subst hi; subst hj; simp [Value.ownBlock] at hq hq'; omega
    | 1, 2, hi, hj => simp at hi hj; subst hi; subst hj; simp [Value.ownBlock] at hq hq'; omega
    | 2, 0, hi, hj => simp at hi hj; subst hi; subst hj; simp [Value.ownBlock] at hq hq'; omega
    | 2, 1, hi, hj => simp at hi hj; subst hi; subst hj; simp [Value.ownBlock] at hq hq'; omega
  · intro i u hu q hq hq'
    match i, hu with
    | 0, hu => simp at hu; subst hu; simp [Value.ownBlock] at hq hq'; omega
    | 1, hu => simp at hu; subst hu; simp [Value.ownBlock] at hq hq'; omega
    | 2, hu => simp at hu; subst hu; simp [Value.ownBlock] at hq hq'; omega

end Go.Proofs.YtpbmlppdmdmfkaaGreatDoor

namespace Go.Proofs.YtpbmlppdmdmfkaaGreatDoor
open Go.RowKit

theorem sameRowN_any (v v' : Value) (xs ys : List Int) (w : World) (hx : Rep IntE w v xs) (hy : Rep IntE w v' ys) :
    Calls Tryz.prog 107 #[v, v'] w fun e w' => e = .returned (.bool (decide (xs = ys))) ∧ Below w.heap.size w w' := by
  go_enter Tryz.func107, Tryz.ntmps107
  go_wp2_with fail
  (with_reducible refine (EqualN_any v v' xs ys _ hx hy).mono ?_); rintro e w1 ⟨rfl, hb1⟩
  go_wp2_with fail
  go_ret
  exact ⟨rfl, hb1⟩

set_option maxHeartbeats 400000 in
theorem EqualFuncN_any (v v' : Value) (xs ys : List (List Int)) (w : World) (hx : RepNN w v xs) (hy : RepNN w v' ys) :
    Calls Tryz.prog 106 #[v, v', .func (.func 107) #[] #[]] w fun e w' => e = .returned (.bool (decide (xs = ys))) ∧ Below w.heap.size w w' := by
  obtain ⟨a, c, rfl, hc1, hc2, hc3, hx⟩ := hx.open
  obtain ⟨a', c', rfl, hc1', hc2', hc3', hy⟩ := hy.open
  have HX := hide hx; clear hx
  have HY := hide hy; clear hy
  generalize hn : xs.length = n at *
  generalize hn' : ys.length = n' at *
  have H := hide hn; clear hn
  have H' := hide hn'; clear hn'
  by_cases hc : n = n'
  · subst hc
    have hc' : ((n : Int) != n) = false := by simp
    go_enter Tryz.func106, Tryz.ntmps106
    go_wp2_with fail
    go_loopw [17] (fun v wr => ∃ k : Nat, k ≤ n ∧ v = .int .i64 k ∧ Hid (xs.take k = ys.take k) ∧ Below w.heap.size w wr) (fun v _ => n - (intOf v).toNat)
    case atStart => exact ⟨0, Nat.zero_le _, rfl, hide (by simp), Below.refl _ _⟩
    case round =>
      obtain ⟨k, hk, rfl, T, hb⟩ := hrel
      by_cases hlt : k < n
      · obtain ⟨x, hxk⟩ := get_of_lt (xs := xs) (k := k) (by rw [H.out]; exact hlt)
        obtain ⟨y, hyk⟩ := get_of_lt (xs := ys) (k := k) (by rw [H'.out]; exact hlt)
        obtain ⟨b, o, ra, rc, rfl, hbl, i0, i1⟩ := (HX.out.below hb).row hxk
        obtain ⟨b', o', ra', rc', rfl, hbl', j0, j1⟩ := (HY.out.below hb).row hyk
        have hlt' := nat_of_lt hlt
        have X := hide hxk; clear hxk
        have Y := hide hyk; clear hyk
        have HC := hide (sameRowN_any _ _ x y _ i1 j1)
        clear i1 j1
        go_wp2_with fail
        (with_reducible refine HC.out.mono ?_); rintro e w1 ⟨rfl, hb1⟩
        have hb2 := hb.trans (hb1.mono hb.size)
        clear HC
        generalize hd : decide (x = y) = d
        cases d
        · have hq := ne_of_get X.out Y.out (of_decide_eq_false hd)
          clear hd
          go_wp2_with fail
          go_ret
          exact ⟨by simp [hq], hb2⟩
        · have T' := hide (take_eq_succ T.out X.out Y.out (of_decide_eq_true hd))
          clear hd
          go_wp2_with fail
          go_roundw
          case rel => exact ⟨k + 1, by omega, by go_num, T', hb2⟩
          case measure => simp [intOf]; omega
      · have e2 : xs = ys := take_all_eq T.out (by rw [H.out]; omega) (by rw [H'.out]; omega)
        subst e2
        go_wp2_with fail
        go_ret
        exact ⟨by simp, hb⟩
  · have hc' : ((n : Int) != n') = true := by simp; omega
    have hq : xs ≠ ys := fun h => hc (by rw [← H.out, ← H'.out, h])
    go_enter Tryz.func106, Tryz.ntmps106
    go_wp2_with fail
    go_ret
    exact ⟨by simp [hq], Below.refl _ _⟩


theorem ExecSame_any (f o f' o' : Slc) (x y : Xc) (w : World) (hx : RepX w f.v o.v x) (hy : RepX w f'.v o'.v y) :
    Calls Tryz.prog 45 #[.agg #[.slice f.a f.n f.cap, .slice o.a o.n o.cap], .agg #[.slice f'.a f'.n f'.cap, .slice o'.a o'.n o'.cap]] w fun e w' => e = .returned (.bool (decide (x = y))) ∧ Below w.heap.size w w' := by
  have HX := hide hx; have HY := hide hy
  clear hx hy
  obtain ⟨f1, f2, f3⟩ := f; obtain ⟨o1, o2, o3⟩ := o; obtain ⟨g1, g2, g3⟩ := f'; obtain ⟨q1, q2, q3⟩ := o'
  have B2 : Hid (Below w.heap.size w ((w.alloc (.cells #[.slice f1 f2 f3, .slice o1 o2 o3] 35)).alloc (.cells #[.slice g1 g2 g3, .slice q1 q2 q3] 35))) := hide (((Below.refl _ _).alloc (Nat.le_refl _) _).alloc (by simp) _)
  have HE1 := hide (EqualN_any _ _ x.fr y.fr _ (HX.out.fr.below B2.out) (HY.out.fr.below B2.out))
  have HE2 := hide (fun w' (hb : Below w.heap.size w w') => EqualFuncN_any _ _ x.od y.od w' (HX.out.od.below hb) (HY.out.od.below hb))
  have Z0 : Hid (((w.alloc (.cells #[.slice f1 f2 f3, .slice o1 o2 o3] 35)).alloc (.cells #[.slice g1 g2 g3, .slice q1 q2 q3] 35)).heap[w.heap.size]? = some (.cells #[.slice f1 f2 f3, .slice o1 o2 o3] 35 (0, 0))) := hide (by rw [heap_alloc_old _ _ (by simp)]; exact heap_alloc_new w _)
  have Z1 : Hid (((w.alloc (.cells #[.slice f1 f2 f3, .slice o1 o2 o3] 35)).alloc (.cells #[.slice g1 g2 g3, .slice q1 q2 q3] 35)).heap[w.heap.size + 1]? = some (.cells #[.slice g1 g2 g3, .slice q1 q2 q3] 35 (0, 0))) := hide (by have h := heap_alloc_new (w.alloc (.cells #[.slice f1 f2 f3, .slice o1 o2 o3] 35)) (.cells #[.slice g1 g2 g3, .slice q1 q2 q3] 35); simpa using h)
  have XE : Hid (x = y ↔ x.fr = y.fr ∧ x.od = y.od) := hide (by cases x; cases y; simp)
  generalize hd : decide (x = y) = d
  have HD := hide hd; clear hd
  go_enter Tryz.func45, Tryz.ntmps45
  go_wp2_with fail
  (with_reducible refine HE1.out.mono ?_); rintro e w1 ⟨rfl, hb1⟩
  have hbk := (hb1.block w.heap.size (by simp; omega)).trans Z0.out
  have hbk2 := (hb1.block (w.heap.size + 1) (by simp)).trans Z1.out
  have d1 : w1.cell? ⟨w.heap.size, 1, none⟩ = some (.slice o1 o2 o3) := cell_of_heapV hbk (k := 1) rfl
  have d2 : w1.cell? ⟨w.heap.size + 1, 1, none⟩ = some (.slice q1 q2 q3) := cell_of_heapV hbk2 (k := 1) rfl
  have l1 := lt_of_cell d1; have l2 := lt_of_cell d2
  have B3 := hide (B2.out.trans (hb1.mono B2.out.size))
  clear hbk hbk2 hb1 Z0 Z1 HE1
  generalize hf : decide (x.fr = y.fr) = df at *
  have HF := hide hf; clear hf
  cases df
  · go_wp2_with fail
    go_ret
    refine ⟨?_, B3.out⟩
    have h1 := of_decide_eq_false HF.out
    have : d = false := by rw [← HD.out]; exact decide_eq_false fun h => h1 (XE.out.1 h).1
    rw [this]; rfl
  · have HC := hide (HE2.out _ B3.out)
    go_wp2_with fail
    (with_reducible refine HC.out.mono ?_); rintro e w2 ⟨rfl, hb2⟩
    generalize ho : decide (x.od = y.od) = dO
    have HO := hide ho; clear ho
    go_wp2_with fail
    go_ret
    refine ⟨?_, B3.out.trans (hb2.mono B3.out.size)⟩
    have h1 := of_decide_eq_true HF.out
    have : d = dO := by rw [← HD.out, ← HO.out]; simp only [XE.out, h1, true_and]
    rw [this]; rfl

def allXV (p : List (List Ins)) : List Xc := if progValid p = true then allX (evAll p) else []

theorem AllExecs_any (v : Value) (p : List (List Ins)) (w : World) (hp : RepP w v p) (hl : p.flatten.length ≤ 1048576) :
    Calls Tryz.prog 13 #[v] w fun e w' => ∃ u : Slc, e = .returned (.slice u.a u.n u.cap) ∧ RowsX w' w.heap.size u.v (allXV p) ∧ Below w.heap.size w w' := by
  have HV := hide (ProgramValid_any v p w hp hl)
  have HE := hide (fun w' h k => allExecs_any v p w' h hl k)
  have HP := hide hp
  clear hp
  have E2 : Hid (allXV p = if progValid p = true then allX (evAll p) else []) := hide rfl
  obtain ⟨a, c, rfl, -, -, -, -⟩ := HP.out.open
  generalize progValid p = b at *
  cases b
  · have E3 : Hid (allXV p = []) := hide (by rw [E2.out]; rfl)
    go_enter Tryz.func13, Tryz.ntmps13
    go_wp2_with fail
    (with_reducible refine HV.out.mono ?_); rintro e w1 ⟨rfl, hb1⟩
    go_wp2_with fail
    go_ret
    rw [E3.out]
    exact ⟨⟨none, 0, 0⟩, rfl, OwnF.nil _ _ _, hb1⟩
  · have E3 : Hid (allXV p = allX (evAll p)) := hide (by rw [E2.out]; rfl)
    go_enter Tryz.func13, Tryz.ntmps13
    go_wp2_with fail
    (with_reducible refine HV.out.mono ?_); rintro e w1 ⟨rfl, hb1⟩
    go_wp2_with fail
    (with_reducible refine (HE.out _ (HP.out.below hb1) trivial).mono ?_); rintro e w2 ⟨u2, rfl, o2, hb2⟩
    go_wp2_with fail
    go_ret
    rw [E3.out]
    exact ⟨u2, rfl, o2.mono hb1.size, hb1.trans (hb2.mono hb1.size)⟩

end Go.Proofs.YtpbmlppdmdmfkaaGreatDoor

namespace Go.Proofs.YtpbmlppdmdmfkaaGreatDoor
open Go.RowKit

set_option maxHeartbeats 1600000 in
theorem CountRel_any (v : Value) (n : Nat) (f : Nat → Nat → Bool) (w : World) (hx : Rep IntE w v (relOf n f)) (hn : n ≤ 15) :
    Calls Tryz.prog 17 #[v] w fun e w' => e = .returned (.int .i64 (pairsTo n f n : Nat)) ∧ Below w.heap.size w w' := by
  have HA := hide (RelValid_any v n f w hx (by omega))
  obtain ⟨a, c, rfl, -, -, -, hx⟩ := hx.open
  simp only [relOf_length] at *
  have HX := hide hx
  have HS : Hid (∀ k, pairsTo n f (k + 1) = pairsTo n f k + cntB (f k) n) := hide (fun k => rfl)
  have hq0 : Hid (pairsTo n f 0 = 0) := hide rfl
  have HL := hide (fun k => pairsTo_le n f k)
  have HC := hide (fun k => cntB_le (f k) n)
  have HO := hide (fun k w' => OnesCount_any (maskTo (f k) n) w' (Nat.lt_of_lt_of_le (maskTo_lt (f k) n) (Nat.pow_le_pow_right (by decide : 0 < 2) hn)))
  have HM := hide (fun k => ones_mask (f k) hn)
  have HB := hide (fun k => bitsTo_mask (f k) n (by omega))
  have HT := hide (fun k => Nat.lt_of_lt_of_le (maskTo_lt (f k) n) (Nat.pow_le_pow_right (by decide : 0 < 2) hn))
  clear hx
  generalize hG : relOf n f = G at *
  have HG := hide hG; clear hG
  generalize hq : pairsTo n f = Q at *
  clear hq
  go_enter Tryz.func17, Tryz.ntmps17
  go_wp2_with fail
  (with_reducible refine HA.out.mono ?_); rintro e w0 ⟨rfl, hb0⟩
  have HB0 := hide hb0; clear hb0 HA
  go_wp2_with fail
  go_loopw [3, 11] (fun s i wr => ∃ k : Nat, k ≤ n ∧ i = .int .i64 k ∧ s = .int .i64 (Q k : Nat) ∧ wr = w0) (fun _ i _ => n - (intOf i).toNat)
  case atStart => exact ⟨0, Nat.zero_le _, rfl, by rw [hq0.out]; rfl, rfl⟩
  case round =>
    obtain ⟨k, hk, rfl, rfl, rfl⟩ := hrel
    by_cases hlt : k < n
    · have hlt' := nat_of_lt hlt
      obtain ⟨b, o, rfl, hbl, i0⟩ := (HX.out.below HB0.out).int (by rw [← HG.out]; exact relOf_get hlt)
      rw [HB.out] at i0
      have ho := HO.out k
      rw [HM.out] at ho
      have HO1 := hide ho
      have hm := HT.out k
      have hs := HS.out k
      have hl := HL.out (k + 1)
      have hc := HC.out k
      have hm2 : IntKind.u64.wrap (maskTo (f k) n : Int) = (maskTo (f k) n : Int) := by rw [IntKind.wrap_u64]; omega
      have hkn : (k + 1) * n ≤ 225 := by
        have h1 : (k + 1) * n ≤ 15 * 15 := Nat.mul_le_mul (by omega) hn
        omega
      have hq1 : wrap64 ((Q k : Int) + (cntB (f k) n : Int)) = (Q (k + 1) : Int) := by unfold wrap64; omega
      clear hs hl
      generalize maskTo (f k) n = m at *
      generalize cntB (f k) n = z at *
      go_wp2_with fail
      (with_reducible refine (HO1.out _).mono ?_); rintro e w2 ⟨rfl, rfl⟩
      go_wp2_with fail
      go_roundw
      case rel => exact ⟨k + 1, by omega, by go_num, by first | rw [← hq1] | simp [hq1], by first | exact rfl | trivial⟩
      case measure => simp [intOf]; omega
    · go_wp2_with fail
      go_ret
      obtain rfl : k = n := by omega
      exact ⟨rfl, HB0.out⟩

end Go.Proofs.YtpbmlppdmdmfkaaGreatDoor

namespace Go.Proofs.YtpbmlppdmdmfkaaGreatDoor
open Go.RowKit

def eventsV (p : List (List Ins)) : List Ev := if progValid p = true then evAll p else []

set_option maxHeartbeats 800000 in
theorem wmInts_any (v v' : Value) (xs : List Int) (w : World) (hx : Rep IntE w v xs) (hy : Rep IntE w v' xs) :
    Calls Tryz.prog 14 #[v, v'] w fun e w' => e = .returned (.bool true) ∧ Below w.heap.size w w' := by
  obtain ⟨a, c, rfl, hc1, hc2, hc3, hx⟩ := hx.open
  obtain ⟨a', c', rfl, hc1', hc2', hc3', hy⟩ := hy.open
  have HX := hide hx; clear hx
  have HY := hide hy; clear hy
  generalize hn : xs.length = n at *
  have H := hide hn; clear hn
  have hnn : ((n : Int) != n) = false := by simp
  go_enter Tryz.func14, Tryz.ntmps14
  go_wp2_with fail
  go_loopw [5] (fun v wr => ∃ k : Nat, k ≤ n ∧ v = .int .i64 k ∧ Below w.heap.size w wr) (fun v _ => n - (intOf v).toNat)
  case atStart => exact ⟨0, Nat.zero_le _, rfl, Below.refl _ _⟩
  case round =>
    obtain ⟨k, hk, rfl, hb⟩ := hrel
    by_cases hlt : k < n
    · obtain ⟨x, hxk⟩ := get_of_lt (xs := xs) (k := k) (by rw [H.out]; exact hlt)
      obtain ⟨b, o, rfl, hbl, i0⟩ := (HX.out.below hb).int hxk
      obtain ⟨b', o', rfl, hbl', j0⟩ := (HY.out.below hb).int hxk
      have hlt' := nat_of_lt hlt
      clear hxk
      go_wp2_with fail
      refine wp_region_bw (by kernel_rfl) (by kernel_rfl) ?_
      repeat (go_big_quiet_step (fail))
      refine wpQuiet_nil ?_
      intro w1 hb1
      go_wp2_with fail
      go_roundw
      case rel => exact ⟨k + 1, by omega, by go_num, hb.trans (hb1.mono hb.size)⟩
      case measure => simp [intOf]; omega
    · have hkg : decide (k < n) = false := decide_eq_false hlt
      go_wp2_with fail
      go_ret
      exact ⟨rfl, hb⟩

end Go.Proofs.YtpbmlppdmdmfkaaGreatDoor

namespace Go.Proofs.YtpbmlppdmdmfkaaGreatDoor
open Go.RowKit

theorem RowsX.len {w : World} {base : Nat} {a : Option Addr} {n c : Nat} {L : List Xc} (h : RowsX w base (.slice a n c) L) : n = L.length := by
  rcases h.shape with ⟨h1, h2⟩ | ⟨g, cap, h1, -⟩
  · simp only [Value.slice.injEq] at h1; rw [h1.2.1, h2]; rfl
  · simp only [Value.slice.injEq] at h1; exact h1.2.1
theorem RowsX.row {w : World} {base : Nat} {a : Option Addr} {n c : Nat} {L : List Xc} (h : RowsX w base (.slice a n c) L) {k : Nat} {x : Xc} (hr : L[k]? = some x) :
    ∃ (f o : Slc) (g : Nat), a = some ⟨g, 0, none⟩ ∧ g < w.heap.size ∧ w.cell? ⟨g, k * 2, none⟩ = some (.slice f.a f.n f.cap) ∧ w.cell? ⟨g, k * 2 + 1, none⟩ = some (.slice o.a o.n o.cap) ∧ RepX w f.v o.v x := by
  obtain ⟨us, ds, h⟩ := h
  obtain ⟨u, d, g, -, -, h1, -, h2, h3, -, h4⟩ := h.at hr
  have h5 := h3 0 _ rfl
  have h6 := h3 1 _ rfl
  simp only [XE, Nat.add_zero] at h5 h6
  exact ⟨u.f, u.o, g, h1, h2, h5, h6, h4.now⟩

theorem odLen {p : List (List Ins)} {x : Xc} (h : execOk p x = true) : ∀ o ∈ x.od, o.length ≤ (evAll p).length := by
  intro o ho
  unfold execOk at h
  simp only [Bool.and_eq_true, decide_eq_true_eq] at h
  obtain ⟨i, hi⟩ := List.mem_iff_getElem?.1 ho
  have hlt := (List.getElem?_eq_some_iff.1 hi).1
  obtain ⟨o', h1, h2⟩ := ordersOk_get h.2.2.2.2 (by rw [← h.2.2.1]; exact hlt)
  rw [hi] at h1; simp only [Option.some.injEq] at h1; subst h1
  unfold orderOk at h2
  simp only [Bool.and_eq_true, decide_eq_true_eq] at h2
  rw [h2.1.length_eq]; exact wrL_length _ _

theorem WithinRel_any (v v' : Value) (n : Nat) (f g : Nat → Nat → Bool) (w : World) (hx : Rep IntE w v (relOf n f)) (hy : Rep IntE w v' (relOf n g)) (hn : n ≤ 16) :
    Calls Tryz.prog 19 #[v, v'] w fun e w' => e = .returned (.bool (decide (relOf n (fOr f g) = relOf n g))) ∧ Below w.heap.size w w' := by
  have HA := hide (areRels_any v v' n f g w hx hy hn)
  have HU := hide (fun w' (hb : Below w.heap.size w w') => UnionRel_any v v' n f g w' (hx.below hb) (hy.below hb) hn)
  have HY := hide hy
  obtain ⟨a, c, rfl, -, -, -, -⟩ := hx.open
  obtain ⟨a', c', rfl, -, -, -, -⟩ := hy.open
  clear hx hy
  have HQ := hide (fun (u u' : Value) w' h1 h2 => EqualN_any u u' (relOf n (fOr f g)) (relOf n g) w' h1 h2)
  generalize relOf n (fOr f g) = RU at *
  generalize relOf n g = RG at *
  generalize hd : decide (RU = RG) = d at *
  clear hd
  go_enter Tryz.func19, Tryz.ntmps19
  go_wp2_with fail
  (with_reducible refine HA.out.mono ?_); rintro e w1 ⟨rfl, hb1⟩
  have HU1 := hide (HU.out _ hb1)
  have HB1 := hide hb1
  clear hb1 HA HU
  go_wp2_with fail
  (with_reducible refine HU1.out.mono ?_); rintro e w2 ⟨vu, rfl, ou, hb2⟩
  have HQ2 := hide (HQ.out vu _ w2 ou.rep ((HY.out.below HB1.out).below hb2))
  have HB2 := hide (HB1.out.trans (hb2.mono HB1.out.size))
  clear ou hb2 HQ HU1 HY
  go_wp2_with fail
  (with_reducible refine HQ2.out.mono ?_); rintro e w3 ⟨rfl, hb3⟩
  have HB3 := hide (HB2.out.trans (hb3.mono HB2.out.size))
  clear hb3
  go_wp2_with fail
  go_ret
  exact ⟨rfl, HB3.out⟩

theorem DrawDelayRel_any (v : Value) (xs0 : List Int) (w : World) (hx : Rep ByteE w v xs0) (hb : ∀ x ∈ xs0, 0 ≤ x ∧ x ≤ 255) :
    Calls Tryz.prog 11 #[v] w (RetProg w) := by
  have HD := hide (DrawRacesOf_any v xs0 w hx hb)
  obtain ⟨a, c, rfl, -, -, -, -⟩ := hx.open
  clear hx hb
  go_enter Tryz.func11, Tryz.ntmps11
  go_wp2_with fail
  (with_reducible refine HD.out.mono ?_); rintro e w1 ⟨v1, P, rfl, h1, h2, h3, h4⟩
  go_wp2_with fail
  go_ret
  exact ⟨v1, P, rfl, h1, h2, h3, h4⟩

set_option maxRecDepth 100000 in
set_option maxHeartbeats 6400000 in
theorem lawFnDelayRel (v : Value) (xs : List Int) (w : World) (h : Rep ByteE w v xs ∧ ∀ x ∈ xs, 0 ≤ x ∧ x ≤ 255) (hg : Glob w) :
    Calls Tryz.prog 3 #[v] w fun e w' => e = .returned (.bool true) ∧ Below w.heap.size w w' := by
  obtain ⟨hx, hb⟩ := h
  obtain ⟨a0, c0, rfl, -, hm, -, hx⟩ := hx.open
  have HD := hide (DrawDelayRel_any (.slice a0 xs.length c0) xs w hx hb)
  have HG := hide hg
  clear hx hb hg
  generalize xs.length = n at *
  by_cases hl : (n : Int) > 1048576
  · go_enter Tryz.func3, Tryz.ntmps3
    go_wp2_with fail
    go_ret
    exact ⟨rfl, Below.refl _ _⟩
  · have hl' : decide ((n : Int) > 1048576) = false := decide_eq_false hl
    go_enter Tryz.func3, Tryz.ntmps3
    go_wp2_with fail
    (with_reducible refine HD.out.mono ?_); rintro e w1 ⟨v1, P, rfl, hP, hPl, hPr, hb1⟩
    have hfl := flatten_bound9 hPl hPr
    obtain ⟨pa, pc, rfl, -, hpc2, -, hP⟩ := hP.open
    have HP := hide hP; have HB1 := hide hb1; have HG1 := hide (HG.out.below hb1)
    have HA := hide (fun w' h => AllExecs_any (.slice pa P.length pc) P w' h (by omega))
    have HDR := hide (fun w' h => DelayRel_any (.slice pa P.length pc) P w' h (by omega))
    have HS := hide (fun w' h => sDelayRel_any (.slice pa P.length pc) P w' h (by omega) (by omega))
    have HV := hide (fun w' h => ProgramValid_any (.slice pa P.length pc) P w' h (by omega))
    have HCF := hide (fun w' h => ConflictRel_any (.slice pa P.length pc) P w' h (by omega))
    have HW := hide (fun v v' l w' hx hy => wmInts_any v v' l w' hx hy)
    have hdl : (delayV P).length = if progValid P = true then (evAll P).length else 0 := by
      unfold delayV delays
      split
      · rw [relOf_length]
      · rfl
    have HDL := hide hdl
    have HEL := hide (fun h => evAll_le (p := P) h)
    have HNE := hide (fun h => allX_ne (p := P) h)
    have HRO := hide (fun (x : Xc) f1 o1 f2 f3 o2 o3 w' h1 h2 h3 h4 h5 => RelOf_any (.slice pa P.length pc) f1 o1 f2 f3 o2 o3 ⟨#[112, 111]⟩ P x (relN P x 0) w' (isPairAt_po P x) h1 h2 h3 (by omega) h4 h5 (by kernel_rfl))
    have HXO := hide (fun h x hx => allX_ok (p := P) h (x := x) hx)
    have HFP : Hid (P.flatten.length ≤ 45) := hide hfl
    have VD : Hid (delayV P = if progValid P = true then relOf (evAll P).length (delF (evAll P).length (confB (evAll P)) (poB (evAll P))) else []) := hide rfl
    have VC : Hid (conflictV P = if progValid P = true then relOf (evAll P).length (confB (evAll P)) else []) := hide rfl
    have VX : Hid (allXV P = if progValid P = true then allX (evAll P) else []) := hide rfl
    have HPO := hide (fun (x : Xc) i k => relN_po (p := P) (x := x) i k)
    clear hP hb1 HD hPr hPl hfl hdl HG
    generalize hpn : P.length = pn at *
    clear hpn
    go_wp2_with fail
    (with_reducible refine (HDR.out _ HP.out).mono ?_); rintro e w2 ⟨v2, rfl, o2, hb2⟩
    have HB2 := hide hb2
    have HP2 := hide (HP.out.below hb2); have HG2 := hide (HG1.out.below hb2); have HD2 := hide o2.rep
    clear o2 hb2 HP HG1 HDR
    go_wp2_with fail
    (with_reducible refine (HA.out _ HP2.out).mono ?_); rintro e w3 ⟨⟨la, ln, lc⟩, rfl, hr3, hb3⟩
    have hln := RowsX.len hr3
    have HR3 := hide hr3
    have HP3 := hide (HP2.out.below hb3); have HG3 := hide (HG2.out.below hb3); have HD3 := hide (HD2.out.below hb3); have HB3 := hide (HB2.out.trans (hb3.mono HB2.out.size))
    clear hr3 hb3 HP2 HG2 HD2 HB2 HA
    obtain ⟨da, dc, hde, -, -, -, hD3⟩ := HD3.out.open
    subst hde
    go_wp2_with fail
    (with_reducible refine (HS.out _ HP3.out).mono ?_); rintro e w4 ⟨v4, rfl, o4, hb4⟩
    have HP4 := hide (HP3.out.below hb4); have HG4 := hide (HG3.out.below hb4); have HD4 := hide (HD3.out.below hb4); have HB4 := hide (HB3.out.trans (hb4.mono HB3.out.size)); have HR4 := hide (OwnF.below HR3.out hb4)
    have HWC := hide (HW.out _ v4 (delayV P) w4 HD4.out o4.rep)
    clear o4 hb4 hD3 HP3 HG3 HD3 HB3 HR3
    go_wp2_with fail
    (with_reducible refine HWC.out.mono ?_); rintro e w5 ⟨rfl, hb5⟩
    have HP5 := hide (HP4.out.below hb5); have HG5 := hide (HG4.out.below hb5); have HD5 := hide (HD4.out.below hb5); have HB5 := hide (HB4.out.trans (hb5.mono HB4.out.size)); have HR5 := hide (OwnF.below HR4.out hb5)
    clear hb5 HP4 HG4 HD4 HB4 HR4 HWC
    go_wp2_with fail
    (with_reducible refine (HV.out _ HP5.out).mono ?_); rintro e w6 ⟨rfl, hb6⟩
    have HP6 := hide (HP5.out.below hb6); have HG6 := hide (HG5.out.below hb6); have HD6 := hide (HD5.out.below hb6); have HB6 := hide (HB5.out.trans (hb6.mono HB5.out.size)); have HR6 := hide (OwnF.below HR5.out hb6)
    clear hb6 HP5 HG5 HD5 HB5 HR5 HV
    cases hpv : progValid P with
    | false =>
      have e1 : delayV P = [] := by rw [VD.out, hpv]; rfl
      have e2 : (delayV P).length = 0 := by rw [e1]; rfl
      have HS6 := hide (HS.out _ HP6.out)
      rw [e1] at HS6
      rw [e1] at HD6
      rw [e2]
      have E0 : Hid (((0 : Nat) : Int) == 0) := hide rfl
      clear e1 e2 hpv VD VC VX HXO HRO HNE HEL HDL hln
      simp only [List.length_nil] at HD6
      go_wp2_with fail
      (with_reducible refine HS6.out.mono ?_); rintro e w7 ⟨v7, rfl, o7, hb7⟩
      have HWC := hide (HW.out _ v7 [] w7 (HD6.out.below hb7) o7.rep)
      have HB7 := hide (HB6.out.trans (hb7.mono HB6.out.size))
      clear o7 hb7 HW HS6
      go_wp2_with fail
      (with_reducible refine HWC.out.mono ?_); rintro e w8 ⟨rfl, hb8⟩
      go_wp2_with fail
      go_ret
      exact ⟨rfl, HB1.out.trans ((HB7.out.trans (hb8.mono HB7.out.size)).mono HB1.out.size)⟩
    | true =>
      have hen := HEL.out hpv
      have eD : delayV P = relOf (evAll P).length (delF (evAll P).length (confB (evAll P)) (poB (evAll P))) := by rw [VD.out, if_pos hpv]
      have eC : conflictV P = relOf (evAll P).length (confB (evAll P)) := by rw [VC.out, if_pos hpv]
      have eX : allXV P = allX (evAll P) := by rw [VX.out, if_pos hpv]
      obtain ⟨x, hx⟩ := get_of_lt (xs := allXV P) (k := 0) (by rw [eX]; exact HNE.out hpv)
      have hX := HXO.out hpv x (by rw [← eX]; exact List.mem_of_getElem? hx)
      obtain ⟨⟨f1, f2, f3⟩, ⟨o1, o2, o3⟩, g, hga, hgl, c0', c1', hXR⟩ := RowsX.row HR6.out hx
      subst hga
      simp only [Nat.zero_mul, Nat.zero_add] at c0' c1'
      have hlpos : (((allXV P).length : Int) == 0) = false := by
        have h1 := (List.getElem?_eq_some_iff.1 hx).1
        have h2 : ((allXV P).length : Int) ≠ 0 := by omega
        simpa using h2
      have hx0 : 0 < (allXV P).length := (List.getElem?_eq_some_iff.1 hx).1
      have hx0' : (0 : Int) < ((allXV P).length : Int) := by omega
      have hol : ∀ o ∈ x.od, o.length ≤ 1048576 := fun o ho => by have := odLen hX o ho; omega
      have hPO : relN P x 0 = poB (evAll P) := by funext i k; exact HPO.out x i k
      have HRO6 := hide (fun w' (hb : Below w6.heap.size w6 w') => HRO.out x f1 o1 f2 f3 o2 o3 w' (HP6.out.below hb) (hXR.below hb) hX hol (HG6.out.below hb))
      rw [hPO] at HRO6
      have HC6 := hide (HCF.out _ HP6.out)
      rw [eC] at HC6
      have HDN := hide (fun h => delF_none (n := (evAll P).length) (c := confB (evAll P)) (po := poB (evAll P)) h)
      have HDP := hide (delF_po (n := (evAll P).length) (c := confB (evAll P)) (po := poB (evAll P)) (by omega))
      have hdl2 : (delayV P).length = (evAll P).length := by rw [eD, relOf_length]
      rw [eD] at HD6
      rw [hdl2]
      rw [relOf_length] at HD6
      have HN15 := hide hen
      have c0'' := c0'; have c1'' := c1'
      have HCL := hide (And.intro c0' c1'); have HGL := hide hgl
      clear eD eC eX hx hX hXR hol hPO HRO HCF HNE HEL HDL HXO VD VC VX HPO hpv hdl2 HW HS c0' c1' c0'' c1'' hgl HR6 hln hen HFP
      generalize confB (evAll P) = CB at *
      generalize poB (evAll P) = PB at *
      generalize (evAll P).length = N at *
      generalize delF N CB PB = DB at *
      generalize (allXV P).length = xn at *
      go_wp2_with fail
      (with_reducible refine HC6.out.mono ?_); rintro e w7 ⟨v7, rfl, o7, hb7⟩
      have HCR := hide (CountRel_any v7 N CB w7 o7.rep HN15.out)
      have HB7' := hide hb7
      clear o7 hb7 HC6
      go_wp2_with fail
      (with_reducible refine HCR.out.mono ?_); rintro e w8 ⟨rfl, hb8⟩
      have HB8 := hide (HB7'.out.trans (hb8.mono HB7'.out.size))
      have c0 := (HB8.out.cell (p := ⟨g, 0, none⟩) HGL.out).trans HCL.out.1
      have c1 := (HB8.out.cell (p := ⟨g, 1, none⟩) HGL.out).trans HCL.out.2
      have cl := lt_of_cell c0
      have HR8 := hide (HRO6.out _ HB8.out)
      have HD8 := hide (HD6.out.below HB8.out)
      have HB8w := hide (HB6.out.trans (HB8.out.mono HB6.out.size))
      clear hb8 HB7' HCR HRO6
      by_cases hz : pairsTo N CB N = 0
      · have hz2 := HDN.out hz
        rw [hz]
        have HCD := hide (fun w' h => CountRel_any (.slice da N dc) N DB w' h HN15.out)
        rw [hz2] at HCD
        clear hz hz2 HDN
        go_wp2_with fail
        (with_reducible refine HR8.out.mono ?_); rintro e w9 ⟨v9, rfl, o9, hb9⟩
        have HWI := hide (WithinRel_any _ v9 N DB PB w9 (HD8.out.below hb9) o9.rep (by have := HN15.out; omega))
        rw [HDP.out, decide_eq_true rfl] at HWI
        have HB9 := hide (HB8w.out.trans (hb9.mono HB8w.out.size))
        have HD9 := hide (HD8.out.below hb9)
        clear o9 hb9 HR8
        go_wp2_with fail
        (with_reducible refine HWI.out.mono ?_); rintro e w10 ⟨rfl, hb10⟩
        have HB10 := hide (HB9.out.trans (hb10.mono HB9.out.size))
        have HC10 := hide (HCD.out _ (HD9.out.below hb10))
        clear hb10 HWI HCD
        go_wp2_with fail
        (with_reducible refine HC10.out.mono ?_); rintro e w11 ⟨rfl, hb11⟩
        go_wp2_with fail
        go_ret
        exact ⟨rfl, HB1.out.trans ((HB10.out.trans (hb11.mono HB10.out.size)).mono HB1.out.size)⟩
      · have hz' : (((pairsTo N CB N : Nat) : Int) == 0) = false := by
          have h2 : ((pairsTo N CB N : Nat) : Int) ≠ 0 := by omega
          simpa using h2
        clear hz HDN
        go_wp2_with fail
        (with_reducible refine HR8.out.mono ?_); rintro e w9 ⟨v9, rfl, o9, hb9⟩
        have HWI := hide (WithinRel_any _ v9 N DB PB w9 (HD8.out.below hb9) o9.rep (by have := HN15.out; omega))
        rw [HDP.out, decide_eq_true rfl] at HWI
        have HB9 := hide (HB8w.out.trans (hb9.mono HB8w.out.size))
        clear o9 hb9 HR8
        go_wp2_with fail
        (with_reducible refine HWI.out.mono ?_); rintro e w10 ⟨rfl, hb10⟩
        go_wp2_with fail
        go_ret
        exact ⟨rfl, HB1.out.trans ((HB9.out.trans (hb10.mono HB9.out.size)).mono HB1.out.size)⟩

end Go.Proofs.YtpbmlppdmdmfkaaGreatDoor

namespace Go.Proofs.YtpbmlppdmdmfkaaGreatDoor
open Go Go.RowKit Go.ChangeShapes Go.WideShapes Go.ChangeAt
open Go.ChangeMaps (open_string)

theorem fnDelayRel_reads : ∀ t ∈ Tryz.f3.params.toList, Tryz.prog.readableRec t = true ∧ t < Tryz.prog.types.size := by
  intro t ht
  have : t = 22 := by simpa [Tryz.params3] using ht
  subst this
  exact ⟨by kernel_rfl, of_decide_eq_true (by kernel_rfl)⟩

set_option maxRecDepth 100000 in
theorem fnDelayRel_lifted (os : Os) (started : os.Started) (H : Type) (enc : TypeId × Value → H) :
    ReturnsInHanded {} Tryz.checked os 3 .any (fun w args => (Rows.fnDelayRelSpec.pre enc Tryz.prog Tryz.f3 [] false w args ∧ laidMetH Tryz.prog laidL w) ∧ sizedMet enc Tryz.prog Tryz.f3 (OpenSpec.ofChange Rows.fnDelayRelSpec) false w args)
      (Rows.fnDelayRelSpec.post enc Tryz.prog Tryz.f3 false true false false) := by
  refine returnsInHanded_of_change_and (C := Tryz.checked) (X := fun w _ => laidMetH Tryz.prog laidL w) (fun _ _ _ hh h => h.of_heap hh) Tryz.own started (by kernel_rfl) Tryz.func3
    (ChangeSpec.witness_shaped (enc := enc) (C := Tryz.checked) (os := os) (X := fun w _ => laidMetH Tryz.prog laidL w) false (World.doorLaid Tryz.prog 14 os) #[.slice none 0 0] 8 rfl (World.shaped_of_RefB (by kernel_rfl) (by kernel_rfl)) (by kernel_rfl) (by kernel_rfl) (by kernel_rfl) (door_met os _)) ?_
  intro W base args ds gs before hval0 hW _ _ hL _
  have hval : ∀ (j : Nat) t v, Tryz.f3.params[j]? = some t → args[j]? = some v → Value.okWide Tryz.prog W .any base t v := hval0
  have hW' := hW
  obtain ⟨p, q, hA0, hV, rfl, hfz, hnd⟩ := hW
  have hA : DataW.TrodAll enc Tryz.prog W 0 (fun _ => true) true Tryz.f3.params.toList args.toList ds p := hA0
  rw [Tryz.params3] at hA hval
  obtain ⟨v0, d0, rfl, rfl, h0⟩ := trodAll_one hA
  obtain ⟨g1, rfl⟩ : ∃ g1, gs = [g1] := by
    match gs, hV with
    | [g1], _ => exact ⟨g1, rfl⟩
    | [], h => exact h.elim
    | _ :: _ :: _, ⟨_, _, _, _, _, _, _, _, _, _, h, _⟩ => exact h.elim
  obtain ⟨B0, hB0⟩ := bytes_of_trod (okWide_slice Tryz.underlying22 (hval 0 22 v0 rfl rfl)) h0
  refine (lawFnDelayRel v0 B0 W hB0 (glob_of_laid hL)).mono fun e W' ⟨he, hb⟩ => ?_
  exact ⟨_, he, post_lawV Tryz.laidOut fnDelayRel_reads (by kernel_rfl) rfl (by kernel_rfl) Tryz.underlying4 hW' hb⟩

theorem fnDelayRel_named : Tryz.prog.funcNamed Rows.fnDelayRelRow.func = some 3 := by kernel_rfl
theorem fnDelayRel_closed : joinedFacts Tryz.prog 3 Tryz.f3 Rows.fnDelayRelSpec Rows.fnDelayRelRow = true := by kernel_rfl
theorem fnDelayRel_inst : Func.isInstance Tryz.prog Tryz.f3 Rows.fnDelayRelRow.origin Rows.fnDelayRelRow.targs := of_decide_eq_true (by kernel_rfl)
theorem fnDelayRel_wrap : Func.isWrapper Tryz.prog Tryz.f3 Rows.fnDelayRelRow.wrapper Rows.fnDelayRelRow.mainSum := by unfold Func.isWrapper; first | (rw [if_pos (by decide +kernel)]; kernel_rfl) | (rw [if_neg (by decide +kernel)]; exact ⟨rfl, rfl⟩)
theorem fnDelayRel_wf : Rows.fnDelayRelRow.wfByText (OpenSpec.ofChange Rows.fnDelayRelSpec) = true := by kernel_rfl
theorem fnDelayRel_main : Tryz.prog.mainIs = some (Rows.fnDelayRelCard.stood.harness.1, Rows.fnDelayRelCard.stood.harness.2.toList) := by kernel_rfl
theorem fnDelayRel_looks : false = Tryz.prog.looks [] := by kernel_rfl
theorem fnDelayRel_goes : false = Rows.fnDelayRelRow.goesBy Tryz.prog := by kernel_rfl

theorem fnDelayRel_row : Rows.FnDelayRelSaid :=
  OpenClaim.holds_of_wide 3 Tryz.f3 rfl rfl rfl rfl rfl rfl rfl ⟨rfl, rfl, rfl, rfl, rfl⟩ rfl rfl rfl rfl rfl fnDelayRel_named Tryz.func3 fnDelayRel_closed fnDelayRel_inst fnDelayRel_wrap
    (fun os started H enc _ => fnDelayRel_lifted os started H enc)

theorem fnDelayRel_holds : Rows.FnDelayRelCardSaid :=
  Claim7.holds_tied_plain_at .later [] [.widerDeep] true Rows.fnDelayRelCard.stood.harness false
    fnDelayRel_row (fun _ h => by cases h) fnDelayRel_wf (fun _ h => by cases h) fnDelayRel_row_tie rfl ⟨rfl, rfl⟩ fnDelayRel_main rfl
    (fun f fn hf hfn => by
      obtain rfl : f = 3 := Option.some.inj (fnDelayRel_named.symm.trans hf) |>.symm
      obtain rfl : fn = Tryz.f3 := (Option.some.inj (Tryz.func3.symm.trans hfn)).symm
      exact ⟨fnDelayRel_looks, fun j t ht => by
        rw [Tryz.params3] at ht
        have hm : t ∈ [22] := by simpa using Array.mem_of_getElem? ht
        have hall : ([22].all fun u => !Tryz.prog.wantsStandIn u) = true := by kernel_rfl
        exact (show Tryz.prog.wantsStandIn t = false by simpa using List.all_eq_true.1 hall t hm)⟩)
    fnDelayRel_goes

end Go.Proofs.YtpbmlppdmdmfkaaGreatDoor
