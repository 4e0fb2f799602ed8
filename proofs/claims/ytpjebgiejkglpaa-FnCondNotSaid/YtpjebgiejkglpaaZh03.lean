/-
  Lists of outcomes: whether one is among others. Condition: none but what slices read as.
-/
import Derived.Test.YtpjebgiejkglpaaZh00
namespace Go.Proofs.Ytpjebgiejkglpaa
open Go.RowKit

def fRW (writes : Bool) (loc : Int) (x : Ins) : Bool := x.loc == loc && (if writes = true then isWop x.op else isRop x.op)
theorem fRW_yes {b : Bool} {loc : Int} {x : Ins} (h : x.loc = loc) : fRW b loc x = (if b = true then isWop x.op else isRop x.op) := by simp [fRW, h]
theorem fRW_no {b : Bool} {loc : Int} {x : Ins} (h : x.loc ≠ loc) : fRW b loc x = false := by simp [fRW, h]

set_option maxRecDepth 100000 in
set_option maxHeartbeats 1600000 in
theorem l1Count_any (v : Value) (p : List (List Ins)) (loc : Int) (wr? : Bool) (w : World) (hp : RepP w v p) (hl : p.flatten.length ≤ 1048576) (hpl : p.length ≤ 1048576) :
    Calls Try.prog 74 #[v, .int .i64 loc, .bool wr?] w fun e w' => e = .returned (.int .i64 (cnt (fRW wr? loc) p : Nat)) ∧ Below w.heap.size w w' := by
  obtain ⟨a, c, rfl, hc1, hc2, hc3, hp⟩ := hp.open
  have HP := hide hp; clear hp
  have HL := hide hl; clear hl
  generalize hn : p.length = n at *
  have H := hide hn; clear hn
  generalize hF : fRW wr? loc = F at *
  have HF := hide hF; clear hF
  go_enter Try.func74, Try.ntmps74
  go_wp2_with fail
  go_loopw [7, 8] (fun r i wr => ∃ j : Nat, j ≤ n ∧ i = .int .i64 j ∧ r = .int .i64 (cnt F (p.take j) : Nat) ∧ Below w.heap.size w wr) (fun _ i _ => n - (intOf i).toNat)
  case atStart => exact ⟨0, by omega, rfl, by simp [cnt], Below.refl _ _⟩
  case round =>
    obtain ⟨j, hj, rfl, rfl, hb2⟩ := hrel
    by_cases hlt2 : j < n
    · obtain ⟨wm, rfl⟩ : ∃ wm : World, wm = wr := ⟨_, rfl⟩
      obtain ⟨x, hxk⟩ := get_of_lt (xs := p) (k := j) (by rw [H.out]; exact hlt2)
      obtain ⟨b, o, ra, rc, rfl, hbl, i0, i1⟩ := (HP.out.below hb2).row hxk
      have hlt2' := nat_of_lt hlt2
      obtain ⟨_, _, _, _, hr2, _, _⟩ := i1.open
      have CR := hide (cnt_take_succ F hxk)
      have hbR := Nat.le_trans (cnt_take_le F p j) HL.out
      have hxl := Nat.le_trans (row_le_flatten hxk) HL.out
      have I1 := hide i1; have X := hide hxk
      clear i1 hxk
      generalize hR : cnt F (p.take j) = R at *
      clear hR
      go_wp2_with fail
      go_loopw [7, 9] (fun r i wr => ∃ t : Nat, t ≤ x.length ∧ i = .int .i64 t ∧ r = .int .i64 (R + (x.take t).countP F : Nat) ∧ Below wm.heap.size wm wr) (fun _ i _ => x.length - (intOf i).toNat)
      case atStart => exact ⟨0, by omega, rfl, by simp, Below.refl _ _⟩
      case round =>
        obtain ⟨t, ht, rfl, rfl, hb3⟩ := hrel
        have hbR2 : (x.take t).countP F ≤ 1048576 := Nat.le_trans List.countP_le_length (by simp; omega)
        have i0' : wr.cell? ⟨b, o + j, none⟩ = some (.slice ra x.length rc) := (hb3.cell (p := ⟨b, o + j, none⟩) hbl).trans i0
        by_cases hlt3 : t < x.length
        · obtain ⟨y, hyk⟩ := get_of_lt (xs := x) (k := t) hlt3
          obtain ⟨b', o', rfl, hbl', j0, j1, j2, j3⟩ := (I1.out.below hb3).ins hyk
          have hlt3' := nat_of_lt hlt3
          have CR2 := hide (countP_take_succ F hyk)
          have Y := hide hyk; clear hyk
          generalize hR2 : (x.take t).countP F = R2 at *
          clear hR2
          by_cases hloc : y.loc = loc
          · have CR3 : Hid ((x.take (t + 1)).countP F = R2 + if (if wr? = true then isWop y.op else isRop y.op) = true then 1 else 0) := by have h := CR2.out; rwa [← HF.out, fRW_yes hloc, HF.out] at h
            clear CR2
            rw [hloc] at j1
            clear hloc HF
            have hkk : (loc == loc) = true := by simp
            generalize hro : isRop y.op = ro at *
            generalize hwo : isWop y.op = wo at *
            have RO := hide hro; have WO := hide hwo; clear hro hwo
            cases wr?
            · cases ro
              all_goals
                go_wp2_with (go_at_call 92; (with_reducible refine (l1Reads_raw _ _ _ _ _).mono ?_); rw [RO.out]; rintro e w3 ⟨rfl, hb4⟩)
                go_roundw
                case rel => exact ⟨t + 1, by omega, by go_num, by rw [CR3.out]; simp; try omega, (hb3.alloc hb3.size _).trans (hb4.mono (by have := hb3.size; simp; omega))⟩
                case measure => simp [intOf]; omega
            · cases wo
              all_goals
                go_wp2_with (go_at_call 93; (with_reducible refine (l1Writes_raw _ _ _ _ _).mono ?_); rw [WO.out]; rintro e w3 ⟨rfl, hb4⟩)
                go_roundw
                case rel => exact ⟨t + 1, by omega, by go_num, by rw [CR3.out]; simp; try omega, (hb3.alloc hb3.size _).trans (hb4.mono (by have := hb3.size; simp; omega))⟩
                case measure => simp [intOf]; omega
          · have CR3 : Hid ((x.take (t + 1)).countP F = R2) := hide (by have h := CR2.out; rw [← HF.out, fRW_no hloc, HF.out] at h; simpa using h)
            clear CR2
            have hkk : (y.loc == loc) = false := by simpa using hloc
            clear hloc
            go_wp2_with fail
            go_roundw
            case rel => exact ⟨t + 1, by omega, by go_num, by rw [CR3.out], hb3.alloc hb3.size _⟩
            case measure => simp [intOf]; omega
        · have e : t = x.length := by omega
          have CR4 : Hid (cnt F (p.take (j + 1)) = R + (x.take t).countP F) := by have h := CR.out; rwa [e, List.take_length]
          generalize hR2 : (x.take t).countP F = R2 at *
          clear hR2 e
          go_wp2_with fail
          go_roundw
          case rel => exact ⟨j + 1, by omega, by go_num, by rw [CR4.out], hb2.trans (hb3.mono hb2.size)⟩
          case measure => simp [intOf]; omega
    · have e : j = n := by omega
      have hpt : p.take j = p := List.take_of_length_le (by rw [H.out]; omega)
      rw [hpt]
      clear hpt
      go_wp2_with fail
      go_ret
      exact ⟨rfl, hb2⟩

theorem fRW_true (loc : Int) : fRW true loc = fW loc := by funext x; simp [fRW, fW]
theorem fRW_false (loc : Int) : fRW false loc = fR loc := by funext x; simp [fRW, fR]

set_option maxRecDepth 100000 in
set_option maxHeartbeats 1600000 in
theorem l1Execs_any (v : Value) (p : List (List Ins)) (w : World) (hp : RepP w v p) (hl : p.flatten.length ≤ 1048576) (hpl : p.length ≤ 1048576) :
    Calls Try.prog 51 #[v, .int .i64 3000] w fun e w' => e = .returned (.int .i64 (cap (prodP p) : Nat)) ∧ Below w.heap.size w w' := by
  have HP := hide hp; clear hp
  have HL := hide hl; clear hl
  have hPP : prodTo p 3 = prodP p := rfl
  have PP := hide hPP; clear hPP
  go_enter Try.func51, Try.ntmps51
  go_wp2_with fail
  go_loopw [5, 6] (fun q i wr => ∃ k N : Nat, k ≤ 3 ∧ i = .int .i64 k ∧ q = .int .i64 N ∧ Hid (cap N = cap (prodTo p k)) ∧ N ≤ 3145731000 ∧ Below w.heap.size w wr) (fun _ i _ => 3 - (intOf i).toNat)
  case atStart => exact ⟨0, 1, by omega, rfl, rfl, hide rfl, by omega, Below.refl _ _⟩
  case round =>
    obtain ⟨k, N, hk, rfl, rfl, hN, hNb, hb⟩ := hrel
    by_cases hlt : k < 3
    · have hlt' : (k : Int) ≤ 2 := by omega
      have hbR := Nat.le_trans (cnt_le_flatten (fR k) p) HL.out
      have hbW := Nat.le_trans (cnt_le_flatten (fW k) p) HL.out
      have PS : Hid (prodTo p (k + 1) = prodTo p k * ((cnt (fW k) p + 1) ^ cnt (fR k) p * fact (cnt (fW k) p))) := hide rfl
      have C1 : ∀ w', RepP w' v p → Calls Try.prog 74 #[v, .int .i64 (k : Int), .bool true] w' fun e w2 => e = .returned (.int .i64 (cnt (fW k) p : Nat)) ∧ Below w'.heap.size w' w2 := fun w' h => by
        have := l1Count_any v p k true w' h HL.out hpl; rwa [fRW_true] at this
      have C2 : ∀ w', RepP w' v p → Calls Try.prog 74 #[v, .int .i64 (k : Int), .bool false] w' fun e w2 => e = .returned (.int .i64 (cnt (fR k) p : Nat)) ∧ Below w'.heap.size w' w2 := fun w' h => by
        have := l1Count_any v p k false w' h HL.out hpl; rwa [fRW_false] at this
      generalize hR : cnt (fR k) p = R at *
      generalize hW : cnt (fW k) p = W at *
      generalize hQ : prodTo p k = Q at *
      have D1 := hide C1; have D2 := hide C2
      clear hR hW hQ C1 C2
      go_wp2_with (go_at_call 74; (with_reducible refine (D1.out _ (HP.out.below hb)).mono ?_); rintro e w1 ⟨rfl, hb1⟩)
      have hb := hb.trans (hb1.mono hb.size)
      clear hb1
      go_loopw [5, 8] (fun q i wr => ∃ t M : Nat, t ≤ R ∧ i = .int .i64 t ∧ q = .int .i64 M ∧ Hid (cap M = cap (Q * (W + 1) ^ t)) ∧ M ≤ 3145731000 ∧ Below w.heap.size w wr) (fun _ i _ => R - (intOf i).toNat)
      case atStart => exact ⟨0, N, by omega, rfl, rfl, hide (by simpa using hN.out), hNb, hb⟩
      case round =>
        clear hb hN hNb
        obtain ⟨t, M, ht, rfl, rfl, hM, hMb, hb⟩ := hrel
        by_cases hgo : t < R ∧ M ≤ 3000
        · obtain ⟨hlt3, hM3⟩ := hgo
          have hlt3' := nat_of_lt hlt3
          have hM3' : (M : Int) ≤ 3000 := by omega
          have hmul : M * (W + 1) ≤ 3000 * 1048577 := Nat.mul_le_mul hM3 (by omega)
          have e1 : ((M * (W + 1) : Nat) : Int) = (M : Int) * (W + 1) := by simp
          have hmul2 : (M : Int) * (W + 1) ≤ 3145731000 := by omega
          have hmul3 : 0 ≤ (M : Int) * (W + 1) := by omega
          have E : Hid (cap (M * (W + 1)) = cap (Q * (W + 1) ^ (t + 1))) := hide (by rw [cap_mul' hM.out _ (by omega), Nat.pow_succ, Nat.mul_assoc])
          have E1 := hide e1; clear e1
          go_wp2_with (go_at_call 74; (with_reducible refine (D2.out _ (HP.out.below hb)).mono ?_); rintro e w1 ⟨rfl, hb1⟩)
          go_roundw
          case rel => exact ⟨t + 1, M * (W + 1), by omega, by go_num, by rw [E1.out], E, by omega, hb.trans (hb1.mono hb.size)⟩
          case measure => simp [intOf]; omega
        · have hM2 : Hid (cap M = cap (Q * (W + 1) ^ R)) := hide (by
            by_cases h3 : 3000 < M
            · obtain ⟨m, h1, h2⟩ := pow_mul_rest (a := W) ht
              rw [h2, ← Nat.mul_assoc]
              exact cap_past hM.out h3 m h1
            · rw [show R = t by omega]; exact hM.out)
          have PS2 : Hid (prodTo p (k + 1) = (Q * (W + 1) ^ R) * fact W) := hide (by rw [PS.out, Nat.mul_assoc])
          by_cases hlt3 : t < R
          all_goals
            have hM3 : t < R → 3000 < (M : Int) := fun h => by omega
            have HM3 := hide hM3; clear hM3
            try (have hM4 : 3000 < (M : Int) := HM3.out hlt3)
            go_wp2_with (go_at_call 74; (with_reducible refine (D2.out _ (HP.out.below hb)).mono ?_); rintro e w1 ⟨rfl, hb1⟩)
            have hb := hb.trans (hb1.mono hb.size)
            clear hb1
            generalize hQ2 : Q * (W + 1) ^ R = Q2 at *
            clear hQ2
            go_loopw [5, 9] (fun q i wr => ∃ s L : Nat, 1 ≤ s ∧ s ≤ W + 1 ∧ i = .int .i64 (s + 1) ∧ q = .int .i64 L ∧ Hid (cap L = cap (Q2 * fact s)) ∧ L ≤ 3145731000 ∧ Hid (s ≤ W ∨ s = 1) ∧ Below w.heap.size w wr) (fun _ i _ => W + 1 - (intOf i).toNat)
            case atStart => exact ⟨1, M, by omega, by omega, rfl, rfl, hide (by simpa [fact] using hM2.out), hMb, hide (.inr rfl), hb⟩
            case round =>
              clear hb
              obtain ⟨s, L, hs1, hs2, rfl, rfl, hL, hLb, hsW, hb⟩ := hrel
              by_cases hgo2 : s + 1 ≤ W ∧ L ≤ 3000
              · obtain ⟨hlt5, hL3⟩ := hgo2
                have hlt5' : (s : Int) + 1 ≤ W := by omega
                have hL3' : (L : Int) ≤ 3000 := by omega
                have hmul : L * (s + 1) ≤ 3000 * 1048577 := Nat.mul_le_mul hL3 (by omega)
                have e1 : ((L * (s + 1) : Nat) : Int) = (L : Int) * (s + 1) := by simp
                have hmul2 : (L : Int) * (s + 1) ≤ 3145731000 := by omega
                have hmul3 : 0 ≤ (L : Int) * (s + 1) := by omega
                have E : Hid (cap (L * (s + 1)) = cap (Q2 * fact (s + 1))) := hide (by rw [cap_mul' hL.out _ (by omega), fact, Nat.mul_assoc])
                have E1 := hide e1; clear e1
                go_wp2_with fail
                go_roundw
                case rel => exact ⟨s + 1, L * (s + 1), by omega, by omega, by go_num, by rw [E1.out], E, by omega, hide (.inl hlt5), hb⟩
                case measure => simp [intOf]; omega
              · have hL2 : Hid (cap L = cap (prodTo p (k + 1))) := hide (by
                  rw [PS2.out]
                  by_cases h3 : 3000 < L
                  · rcases hsW.out with h | h
                    · obtain ⟨m, h1, h2⟩ := fact_mul h
                      rw [h2, ← Nat.mul_assoc]
                      exact cap_past hL.out h3 m h1
                    · have hl := hL.out
                      rw [h, show fact 1 = 1 from rfl, Nat.mul_one] at hl
                      exact cap_past hl h3 _ (fact_pos W)
                  · by_cases hs : s = W
                    · rw [← hs]; exact hL.out
                    · rcases hsW.out with h | h
                      · omega
                      · have h0 : W = 0 := by omega
                        have hl := hL.out
                        rw [h] at hl
                        rw [h0]; exact hl)
                by_cases hlt5 : s + 1 ≤ W
                all_goals
                  have hlt5' : s + 1 ≤ W → 3000 < (L : Int) := fun h => by omega
                  have HL3 := hide hlt5'; clear hlt5'
                  try (have hL4 : 3000 < (L : Int) := HL3.out hlt5)
                  go_wp2_with fail
                  go_roundw
                  case rel => exact ⟨k + 1, L, by omega, by go_num, rfl, hL2, hLb, hb⟩
                  case measure => simp [intOf]; omega
    · have e : k = 3 := by omega
      subst e
      have hN2 : Hid (cap N = cap (prodP p)) := hide (by rw [hN.out, PP.out])
      by_cases h3 : 3000 < N
      · have E : Hid (((cap (prodP p) : Nat) : Int) = 3001) := hide (by rw [← hN2.out]; unfold cap; omega)
        have h3' : (3000 : Int) < N := by omega
        go_wp2_with fail
        go_ret
        rw [E.out]
        exact ⟨rfl, hb⟩
      · have E : Hid (((cap (prodP p) : Nat) : Int) = N) := hide (by rw [← hN2.out]; unfold cap; omega)
        have h3' : (N : Int) ≤ 3000 := by omega
        go_wp2_with fail
        go_ret
        rw [E.out]
        exact ⟨rfl, hb⟩

end Go.Proofs.Ytpjebgiejkglpaa

namespace Go.Proofs.Ytpjebgiejkglpaa
open Go.RowKit

def l3L : List Int → List Int → Int
  | x :: xs, y :: ys => if x < y then -1 else if y < x then 1 else l3L xs ys
  | _, _ => 0

theorem l3L_drop {a b : List Int} {k : Nat} {x y : Int} (hx : a[k]? = some x) (hy : b[k]? = some y) : l3L (a.drop k) (b.drop k) = if x < y then -1 else if y < x then 1 else l3L (a.drop (k + 1)) (b.drop (k + 1)) := by
  obtain ⟨hk, rfl⟩ := List.getElem?_eq_some_iff.1 hx
  obtain ⟨hk', rfl⟩ := List.getElem?_eq_some_iff.1 hy
  rw [List.drop_eq_getElem_cons hk, List.drop_eq_getElem_cons hk', l3L]

theorem l3L_zero {a b : List Int} (h : a.length = b.length) : l3L a b = 0 ↔ a = b := by
  induction a generalizing b with
  | nil => cases b <;> simp_all [l3L]
  | cons x a ih =>
    cases b with
    | nil => simp at h
    | cons y b =>
      simp only [l3L]
      have := ih (b := b) (by simpa using h)
      split
      · constructor
        · intro h; omega
        · intro h; simp at h; omega
      · split
        · constructor
          · intro h; omega
          · intro h; simp at h; omega
        · rw [this]
          constructor
          · intro h; rw [h, show x = y by omega]
          · intro h; simp at h; exact h.2

theorem l3L_end {a b : List Int} {k : Nat} (h : a.length ≤ k ∨ b.length ≤ k) : l3L (a.drop k) (b.drop k) = 0 := by
  rcases h with h | h
  · rw [List.drop_of_length_le h]; simp [l3L]
  · rw [List.drop_of_length_le h]; cases a.drop k <;> simp [l3L]

set_option maxHeartbeats 400000 in
theorem l3Less_any (v v' : Value) (xs ys : List Int) (w : World) (hx : Rep IntE w v xs) (hy : Rep IntE w v' ys) :
    Calls Try.prog 89 #[v, v'] w fun e w' => e = .returned (.int .i64 (l3L xs ys)) ∧ Below w.heap.size w w' := by
  obtain ⟨a, c, rfl, hc1, hc2, hc3, hx⟩ := hx.open
  obtain ⟨a', c', rfl, hc1', hc2', hc3', hy⟩ := hy.open
  have HX := hide hx; clear hx
  have HY := hide hy; clear hy
  have HS : Hid (l3L (xs.drop 0) (ys.drop 0) = l3L xs ys) := hide (by simp)
  generalize hR : l3L xs ys = R at *
  clear hR
  generalize hn : xs.length = n at *
  generalize hn' : ys.length = n' at *
  have H := hide hn; clear hn
  have H' := hide hn'; clear hn'
  go_enter Try.func89, Try.ntmps89
  go_wp2_with fail
  go_loopw [5] (fun v wr => ∃ k : Nat, k ≤ n ∧ k ≤ n' ∧ v = .int .i64 k ∧ Hid (l3L (xs.drop k) (ys.drop k) = R) ∧ Below w.heap.size w wr) (fun v _ => n - (intOf v).toNat)
  case atStart => exact ⟨0, Nat.zero_le _, Nat.zero_le _, rfl, HS, Below.refl _ _⟩
  case round =>
    obtain ⟨k, hk, hk', rfl, T, hb⟩ := hrel
    by_cases hlt : k < n
    · have hlt1 := nat_of_lt hlt
      by_cases hlt2 : k < n'
      · have hlt3 := nat_of_lt hlt2
        obtain ⟨x, hxk⟩ := get_of_lt (xs := xs) (k := k) (by rw [H.out]; exact hlt)
        obtain ⟨y, hyk⟩ := get_of_lt (xs := ys) (k := k) (by rw [H'.out]; exact hlt2)
        obtain ⟨b, o, rfl, hbl, i0⟩ := (HX.out.below hb).int hxk
        obtain ⟨b', o', rfl, hbl', j0⟩ := (HY.out.below hb).int hyk
        have ST := hide (l3L_drop hxk hyk)
        clear hxk hyk
        by_cases hxy : x < y
        · have E : Hid (R = -1) := hide (by rw [← T.out, ST.out, if_pos hxy])
          go_wp2_with fail
          refine wp_region_bw (by kernel_rfl) (by kernel_rfl) ?_
          repeat (go_big_quiet_step (fail))
          refine wpQuiet_nil ?_
          intro w1 hw1
          obtain ⟨c1, -⟩ := bcell hw1
          go_wp2_with fail
          go_ret
          rw [E.out]
          exact ⟨rfl, hb.trans (hw1.mono hb.size)⟩
        · have E0 : Hid ((if y < x then 1 else l3L (xs.drop (k + 1)) (ys.drop (k + 1))) = R) := hide (by rw [← T.out, ST.out, if_neg hxy])
          have hxy' : y ≤ x := Int.not_lt.1 hxy
          clear hxy
          go_wp2_with fail
          refine wp_region_bw (by kernel_rfl) (by kernel_rfl) ?_
          repeat (go_big_quiet_step (fail))
          refine wpQuiet_nil ?_
          intro w1 hw1
          obtain ⟨c1, -⟩ := bcell hw1
          have hbl1 : b < w1.heap.size := by have := hw1.size; omega
          have hbl1' : b' < w1.heap.size := by have := hw1.size; omega
          have i1 := (c1 b (o + k) hbl).trans i0
          have j1 := (c1 b' (o' + k) hbl').trans j0
          by_cases hyx : y < x
          · have E : Hid (R = 1) := hide (by rw [← E0.out, if_pos hyx])
            go_wp2_with fail
            refine wp_region_bw (by kernel_rfl) (by kernel_rfl) ?_
            repeat (go_big_quiet_step (fail))
            refine wpQuiet_nil ?_
            intro w2 hw2
            go_wp2_with fail
            go_ret
            rw [E.out]
            exact ⟨rfl, (hb.trans (hw1.mono hb.size)).trans (hw2.mono (by have := hb.size; have := hw1.size; omega))⟩
          · have E : Hid (l3L (xs.drop (k + 1)) (ys.drop (k + 1)) = R) := hide (by rw [← E0.out, if_neg hyx])
            have hyx' : x ≤ y := Int.not_lt.1 hyx
            clear hyx
            go_wp2_with fail
            refine wp_region_bw (by kernel_rfl) (by kernel_rfl) ?_
            repeat (go_big_quiet_step (fail))
            refine wpQuiet_nil ?_
            intro w2 hw2
            go_wp2_with fail
            go_roundw
            case rel => exact ⟨k + 1, by omega, by omega, by go_num, E, (hb.trans (hw1.mono hb.size)).trans (hw2.mono (by have := hb.size; have := hw1.size; omega))⟩
            case measure => simp [intOf]; omega
      · have hlt3 : decide ((k : Int) < n') = false := by simp; omega
        have E : Hid (R = 0) := hide (by rw [← T.out]; exact l3L_end (.inr (by rw [H'.out]; omega)))
        go_wp2_with fail
        go_ret
        rw [E.out]
        exact ⟨rfl, hb⟩
    · have hlt3 : decide ((k : Int) < n) = false := by simp; omega
      have E : Hid (R = 0) := hide (by rw [← T.out]; exact l3L_end (.inl (by rw [H.out]; omega)))
      go_wp2_with fail
      go_ret
      rw [E.out]
      exact ⟨rfl, hb⟩

end Go.Proofs.Ytpjebgiejkglpaa
