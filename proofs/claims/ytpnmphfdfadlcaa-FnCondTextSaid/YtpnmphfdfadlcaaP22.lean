/-
  The reference's parser of conditions, and its ParseCond. No condition.
-/
import Derived.Test.YtpnmphfdfadlcaaP21
namespace Go.Proofs.Ytpnmphfdfadlcaa
open Go.RowKit

theorem sIs_at2 {s : ByteArray} {i : Int} (h0 : 0 ≤ i) (hg : i.toNat < s.size) (k : UInt8) : sIs s.data.toList i k = (s[i.toNat]'hg == k) := by
  unfold sIs
  rw [byte_get s i h0 hg, decide_eq_true h0, Bool.true_and]
  rfl

set_option maxRecDepth 100000 in
set_option maxHeartbeats 1600000 in
theorem parse_zero : ParseAt 0 := by
  intro s i w hs
  have HB1 := hide (belowAlloc w (.cells #[.int .i64 0, .int .i64 0, .int .i64 0, .int .i64 0, .slice none 0 0] 25))
  have E : sP 0 s.data.toList i = (zeroC, -1) := rfl
  rw [E]
  clear E
  go_enter Try.func81, Try.ntmps81
  go_wp2_with fail
  refine bodyPost_ret (v := .tuple #[.agg #[.int .i64 0, .int .i64 0, .int .i64 0, .int .i64 0, .slice none 0 0], .int .i64 (-1)]) (by simp [results, Try.results81, go_sem]) rfl (RetSP.no HB1.out)

set_option maxRecDepth 100000 in
set_option maxHeartbeats 1600000 in
theorem parse_step (d : Nat) (hd : d ≤ 20) (ih : ParseAt d) : ParseAt (d + 1) := by
  intro s i w hs
  have HB1 := hide (belowAlloc w (.cells #[.int .i64 0, .int .i64 0, .int .i64 0, .int .i64 0, .slice none 0 0] 25))
  have HT := hide (two_step d hd ih)
  have HA := hide (fun i' w' => ih s i' w' hs)
  have EV : Hid (sP (d + 1) s.data.toList i = if i < 0 ∨ (s.data.toList.length : Int) ≤ i then (zeroC, -1)
    else if sIs s.data.toList i 126 = true then (.mk 5 0 0 0 [(sP d s.data.toList (i + 1)).1], (sP d s.data.toList (i + 1)).2)
    else if sIs s.data.toList i 40 = true then twoS d s.data.toList (i + 1)
    else if 0 ≤ sPl s.data.toList i 48 9 then
      if i + 4 > s.data.toList.length then (zeroC, -1)
      else (.mk 1 (sPl s.data.toList i 48 9) (sPl s.data.toList (i + 1) 97 2) (sPl s.data.toList (i + 3) 48 9) [], i + 4)
    else if i + 3 > s.data.toList.length then (zeroC, -1)
    else (.mk 2 0 (sPl s.data.toList i 120 2) (sPl s.data.toList (i + 2) 48 9) [], i + 3)) := hide (by
      conv => lhs; unfold sP
      unfold twoS
      rfl)
  have hlen : s.data.toList.length = s.size := Array.length_toList
  rw [hlen] at EV
  clear hlen ih
  generalize sP (d + 1) s.data.toList i = r at *
  have hD : ((d + 1 : Nat) : Int) - 1 = (d : Int) := by omega
  have hD2 : ((d + 1 : Nat) : Int) ≤ 30 := by omega
  have hD3 : decide (((d + 1 : Nat) : Int) < 1) = false := decide_eq_false (by omega)
  have HTW := hide (fun w' => HT.out s (i + 1) w' hs)
  have HAA := hide (fun w' => HA.out (i + 1) w')
  clear HT HA
  generalize ((d + 1 : Nat) : Int) = D at *
  by_cases h0 : i < 0
  · obtain rfl : r = (zeroC, -1) := by rw [EV.out, if_pos (Or.inl h0)]
    have t0 : decide (i < 0) = true := decide_eq_true h0
    clear EV
    go_enter Try.func81, Try.ntmps81
    go_wp2_with fail
    refine bodyPost_ret (v := .tuple #[.agg #[.int .i64 0, .int .i64 0, .int .i64 0, .int .i64 0, .slice none 0 0], .int .i64 (-1)]) (by simp [results, Try.results81, go_sem]) rfl (RetSP.no HB1.out)
  · have t0 : decide (i < 0) = false := decide_eq_false h0
    by_cases h1 : i < s.size
    · have t1 : decide (i ≥ (s.size : Int)) = false := decide_eq_false (by omega)
      have hii : 0 ≤ i ∧ i < s.size := ⟨by omega, h1⟩
      have hg : i.toNat < s.size := by omega
      have EV2 := EV.out
      rw [if_neg (by omega), sIs_at2 (by omega) hg, sIs_at2 (by omega) hg] at EV2
      clear EV
      have hu : ((s[i.toNat]'hg).toNat : Int) ≤ 255 := by have := (s[i.toNat]'hg).toNat_lt; omega
      by_cases e126 : s[i.toNat]'hg = 126
      · have g126 : (((s[i.toNat]'hg).toNat : Int) == 126) = true := by rw [e126]; rfl
        rw [if_pos (by rw [e126]; rfl)] at EV2
        rcases hAA : sP d s.data.toList (i + 1) with ⟨ac, a2⟩
        rw [hAA] at EV2 HAA
        have EV := hide EV2
        clear EV2 e126 hAA
        go_enter Try.func81, Try.ntmps81
        go_wp2_with fail
        (with_reducible refine (HAA.out _).mono ?_); rintro e w1 ⟨ao, at', aq, ax, aks, sa, rfl, rfl, owna, hba⟩
        have r0 := (hba.cell (p := ⟨w.heap.size, 0, none⟩) (by simp)).trans (by simp [go_sem] : _ = some (.int .i64 0))
        have r1 := (hba.cell (p := ⟨w.heap.size, 1, none⟩) (by simp)).trans (by simp [go_sem] : _ = some (.int .i64 0))
        have r2 := (hba.cell (p := ⟨w.heap.size, 2, none⟩) (by simp)).trans (by simp [go_sem] : _ = some (.int .i64 0))
        have r3 := (hba.cell (p := ⟨w.heap.size, 3, none⟩) (by simp)).trans (by simp [go_sem] : _ = some (.int .i64 0))
        have r4 := (hba.cell (p := ⟨w.heap.size, 4, none⟩) (by simp)).trans (by simp [go_sem] : _ = some (.slice none 0 0))
        have rf : ∀ j, w1.frozen? ⟨w.heap.size, j, none⟩ = false := fun j => (hba.frozen (p := ⟨w.heap.size, j, none⟩) (by simp)).trans (by simp [go_sem])
        have hz1 := hba.size
        simp at hz1
        have hx1 : w.heap.size < w1.heap.size := by omega
        have OA : Hid (OwnC 25 w1 (w.heap.size + 1) w1.heap.size sa aks) := hide (by simpa using owna)
        have HBA := hide (HB1.out.trans (hba.mono (by simp)))
        clear owna hba
        obtain rfl := EV.out
        have OWN := hide ((OwnC.one (((((((OA.out.setOut (g := w.heap.size) (by omega) 0 (.int .i64 5)).setOut (g := w.heap.size) (by omega) 1 (.int .i64 0)).setOut (g := w.heap.size) (by omega) 2 (.int .i64 0)).setOut (g := w.heap.size) (by omega) 3 (.int .i64 0)).setOut (g := w.heap.size) (by omega) 4 (.slice (some ⟨w1.heap.size + 1, 0, none⟩) 1 1))).keepB (belowAlloc _ (.cells #[.int .i64 ao, .int .i64 at', .int .i64 aq, .int .i64 ax, .slice sa.a sa.n sa.cap] 25))) (by omega) (by simp) ao at' aq ax).wide (lo' := w.heap.size) (by omega) (Nat.le_refl _))
        go_wp2_with fail
        refine bodyPost_ret (v := .tuple #[.agg #[.int .i64 5, .int .i64 0, .int .i64 0, .int .i64 0, .slice (some ⟨w1.heap.size + 1, 0, none⟩) 1 1], .int .i64 a2]) (by simp [results, Try.results81, go_sem, r0, r1, r2, r3, r4, hx1]) rfl ⟨5, 0, 0, 0, [.mk ao at' aq ax aks], ⟨some ⟨w1.heap.size + 1, 0, none⟩, 1, 1⟩, rfl, rfl, by simpa using OWN.out, ((((((HBA.out.setCell (Nat.le_refl _) _).setCell (Nat.le_refl _) _).setCell (Nat.le_refl _) _).setCell (Nat.le_refl _) _).setCell (Nat.le_refl _) _).alloc (by simp; omega) _).alloc (by simp; omega) _⟩
      · have g126 : (((s[i.toNat]'hg).toNat : Int) == 126) = false := u8_ne e126
        rw [if_neg (by simpa using e126)] at EV2
        by_cases e40 : s[i.toNat]'hg = 40
        · have g40 : (((s[i.toNat]'hg).toNat : Int) == 40) = true := by rw [e40]; rfl
          rw [if_pos (by rw [e40]; rfl)] at EV2
          subst EV2
          clear e126 e40
          generalize twoS d s.data.toList (i + 1) = r at *
          obtain ⟨rc, ri⟩ := r
          go_enter Try.func81, Try.ntmps81
          go_wp2_with fail
          (with_reducible refine (HTW.out _).mono ?_); rintro e w1 ⟨ao, at', aq, ax, aks, sa, e1, rfl, owna, hba⟩
          have r0 := (hba.cell (p := ⟨w.heap.size, 0, none⟩) (by simp)).trans (by simp [go_sem] : _ = some (.int .i64 0))
          have r1 := (hba.cell (p := ⟨w.heap.size, 1, none⟩) (by simp)).trans (by simp [go_sem] : _ = some (.int .i64 0))
          have r2 := (hba.cell (p := ⟨w.heap.size, 2, none⟩) (by simp)).trans (by simp [go_sem] : _ = some (.int .i64 0))
          have r3 := (hba.cell (p := ⟨w.heap.size, 3, none⟩) (by simp)).trans (by simp [go_sem] : _ = some (.int .i64 0))
          have r4 := (hba.cell (p := ⟨w.heap.size, 4, none⟩) (by simp)).trans (by simp [go_sem] : _ = some (.slice none 0 0))
          have rf : ∀ j, w1.frozen? ⟨w.heap.size, j, none⟩ = false := fun j => (hba.frozen (p := ⟨w.heap.size, j, none⟩) (by simp)).trans (by simp [go_sem])
          have hz1 := hba.size
          simp at hz1
          have hx1 : w.heap.size < w1.heap.size := by omega
          have OA : Hid (OwnC 25 w1 (w.heap.size + 1) w1.heap.size sa aks) := hide (by simpa using owna)
          have HBA := hide (HB1.out.trans (hba.mono (by simp)))
          clear owna hba
          have E1 := hide e1; clear e1
          go_wp2_with fail
          refine bodyPost_ret (v := .tuple #[.agg #[.int .i64 ao, .int .i64 at', .int .i64 aq, .int .i64 ax, .slice sa.a sa.n sa.cap], .int .i64 ri]) (by simp [results, Try.results81, go_sem, r0, r1, r2, r3, r4]) rfl ⟨ao, at', aq, ax, aks, sa, E1.out, rfl, ((((((OA.out.setOut (g := w.heap.size) (by omega) _ _).setOut (g := w.heap.size) (by omega) _ _).setOut (g := w.heap.size) (by omega) _ _).setOut (g := w.heap.size) (by omega) _ _).setOut (g := w.heap.size) (by omega) _ _)).wide (by omega) (by simp), (((((HBA.out.setCell (Nat.le_refl _) _).setCell (Nat.le_refl _) _).setCell (Nat.le_refl _) _).setCell (Nat.le_refl _) _).setCell (Nat.le_refl _) _)⟩
        · have g40 : (((s[i.toNat]'hg).toNat : Int) == 40) = false := u8_ne e40
          rw [if_neg (by simpa using e40)] at EV2
          have HDG := hide (fun w' => l11Digit_any s i w' (by omega))
          by_cases hd : 0 ≤ sPl s.data.toList i 48 9
          · have td : decide (sPl s.data.toList i 48 9 ≥ 0) = true := decide_eq_true hd
            rw [if_pos hd] at EV2
            by_cases h4 : i + 4 > s.size
            · have t4 : decide (i + 4 > (s.size : Int)) = true := decide_eq_true h4
              rw [if_pos h4] at EV2
              subst EV2
              clear e126 e40 hd h4
              generalize sPl s.data.toList i 48 9 = v0 at *
              go_enter Try.func81, Try.ntmps81
              go_wp2_with fail
              (with_reducible refine (HDG.out _).mono ?_); rintro e w1 ⟨rfl, rfl⟩
              go_wp2_with fail
              refine bodyPost_ret (v := .tuple #[.agg #[.int .i64 0, .int .i64 0, .int .i64 0, .int .i64 0, .slice none 0 0], .int .i64 (-1)]) (by simp [results, Try.results81, go_sem]) rfl (RetSP.no HB1.out)
            · have t4 : decide (i + 4 > (s.size : Int)) = false := decide_eq_false h4
              rw [if_neg h4] at EV2
              have H1 := hide (fun w' => l1PlaceL_any s (i + 1) 97 2 w' (by omega) (by omega) (by omega))
              have H3 := hide (fun w' => l11Digit_any s (i + 3) w' (by omega))
              clear e126 e40 hd
              generalize sPl s.data.toList i 48 9 = v0 at *
              generalize sPl s.data.toList (i + 1) 97 2 = v1 at *
              generalize sPl s.data.toList (i + 3) 48 9 = v3 at *
              subst EV2
              go_enter Try.func81, Try.ntmps81
              go_wp2_with fail
              (with_reducible refine (HDG.out _).mono ?_); rintro e w1 ⟨rfl, rfl⟩
              go_wp2_with fail
              (with_reducible refine (HDG.out _).mono ?_); rintro e w1 ⟨rfl, rfl⟩
              go_wp2_with fail
              (with_reducible refine (H1.out _).mono ?_); rintro e w1 ⟨rfl, rfl⟩
              go_wp2_with fail
              (with_reducible refine (H3.out _).mono ?_); rintro e w1 ⟨rfl, rfl⟩
              go_wp2_with fail
              refine bodyPost_ret (v := .tuple #[.agg #[.int .i64 1, .int .i64 v0, .int .i64 v1, .int .i64 v3, .slice none 0 0], .int .i64 (i + 4)]) (by simp [results, Try.results81, go_sem]) rfl ⟨1, v0, v1, v3, [], ⟨none, 0, 0⟩, rfl, rfl, .nil, belowAlloc _ _⟩
          · have td : decide (sPl s.data.toList i 48 9 ≥ 0) = false := decide_eq_false hd
            rw [if_neg hd] at EV2
            by_cases h4 : i + 3 > s.size
            · have t4 : decide (i + 3 > (s.size : Int)) = true := decide_eq_true h4
              rw [if_pos h4] at EV2
              subst EV2
              clear e126 e40 hd h4
              generalize sPl s.data.toList i 48 9 = v0 at *
              go_enter Try.func81, Try.ntmps81
              go_wp2_with fail
              (with_reducible refine (HDG.out _).mono ?_); rintro e w1 ⟨rfl, rfl⟩
              go_wp2_with fail
              refine bodyPost_ret (v := .tuple #[.agg #[.int .i64 0, .int .i64 0, .int .i64 0, .int .i64 0, .slice none 0 0], .int .i64 (-1)]) (by simp [results, Try.results81, go_sem]) rfl (RetSP.no HB1.out)
            · have t4 : decide (i + 3 > (s.size : Int)) = false := decide_eq_false h4
              rw [if_neg h4] at EV2
              have H1 := hide (fun w' => l1PlaceL_any s i 120 2 w' (by omega) (by omega) (by omega))
              have H3 := hide (fun w' => l11Digit_any s (i + 2) w' (by omega))
              clear e126 e40 hd
              generalize sPl s.data.toList i 48 9 = v0 at *
              generalize sPl s.data.toList i 120 2 = v1 at *
              generalize sPl s.data.toList (i + 2) 48 9 = v3 at *
              subst EV2
              go_enter Try.func81, Try.ntmps81
              go_wp2_with fail
              (with_reducible refine (HDG.out _).mono ?_); rintro e w1 ⟨rfl, rfl⟩
              go_wp2_with fail
              (with_reducible refine (H1.out _).mono ?_); rintro e w1 ⟨rfl, rfl⟩
              go_wp2_with fail
              (with_reducible refine (H3.out _).mono ?_); rintro e w1 ⟨rfl, rfl⟩
              go_wp2_with fail
              refine bodyPost_ret (v := .tuple #[.agg #[.int .i64 2, .int .i64 0, .int .i64 v1, .int .i64 v3, .slice none 0 0], .int .i64 (i + 3)]) (by simp [results, Try.results81, go_sem]) rfl ⟨2, 0, v1, v3, [], ⟨none, 0, 0⟩, rfl, rfl, .nil, belowAlloc _ _⟩
    · have t1 : decide (i ≥ (s.size : Int)) = true := decide_eq_true (by omega)
      obtain rfl : r = (zeroC, -1) := by rw [EV.out, if_pos (Or.inr (by omega))]
      clear EV
      go_enter Try.func81, Try.ntmps81
      go_wp2_with fail
      refine bodyPost_ret (v := .tuple #[.agg #[.int .i64 0, .int .i64 0, .int .i64 0, .int .i64 0, .slice none 0 0], .int .i64 (-1)]) (by simp [results, Try.results81, go_sem]) rfl (RetSP.no HB1.out)

theorem parse_any : ∀ (d : Nat), d ≤ 20 → ParseAt d := by
  intro d
  induction d with
  | zero => intro _; exact parse_zero
  | succ d ih => intro h; exact parse_step d (by omega) (ih (by omega))

end Go.Proofs.Ytpnmphfdfadlcaa
