/-
  The reference's parser of conditions: two parts in brackets. No condition but a bound on the text.
-/
import Derived.Test.YtpnmphfdfadlcaaP20
namespace Go.Proofs.Ytpnmphfdfadlcaa
open Go.RowKit

/-- What the reference's parser hands back. -/
def RetSP (w : World) (r : Cd × Int) (e : Ending) (w' : World) : Prop :=
  ∃ (o t q x : Int) (ks : List Cd) (s : Slc), r.1 = .mk o t q x ks ∧ e = .returned (.tuple #[.agg #[.int .i64 o, .int .i64 t, .int .i64 q, .int .i64 x, .slice s.a s.n s.cap], .int .i64 r.2]) ∧ OwnC 25 w' w.heap.size w'.heap.size s ks ∧ Below w.heap.size w w'
theorem RetSP.no {w w' : World} (h : Below w.heap.size w w') : RetSP w (zeroC, -1) (.returned (.tuple #[.agg #[.int .i64 0, .int .i64 0, .int .i64 0, .int .i64 0, .slice none 0 0], .int .i64 (-1)])) w' := ⟨0, 0, 0, 0, [], ⟨none, 0, 0⟩, rfl, rfl, .nil, h⟩

def ParseAt (d : Nat) : Prop := ∀ (s : ByteArray) (i : Int) (w : World), s.size ≤ 300 → Calls Try.prog 81 #[.string s, .int .i64 i, .int .i64 d] w (RetSP w (sP d s.data.toList i))

def twoS (d : Nat) (l : List UInt8) (i : Int) : Cd × Int :=
  if sIs l (sP d l i).2 38 = false ∧ sIs l (sP d l i).2 124 = false then (zeroC, -1)
  else if sIs l (sP d l ((sP d l i).2 + 1)).2 41 = false then (zeroC, -1)
  else (.mk (if sIs l (sP d l i).2 124 = true then 4 else 3) 0 0 0 [(sP d l i).1, (sP d l ((sP d l i).2 + 1)).1], (sP d l ((sP d l i).2 + 1)).2 + 1)
def TwoAtS (d : Nat) : Prop := ∀ (s : ByteArray) (i : Int) (w : World), s.size ≤ 300 → Calls Try.prog 160 #[.string s, .int .i64 i, .int .i64 ((d + 1 : Nat) : Int)] w (RetSP w (twoS d s.data.toList i))

theorem sIs_yes {s : ByteArray} {i : Int} {k : UInt8} (h : sIs s.data.toList i k = true) : 0 ≤ i ∧ i < s.size ∧ ∃ hg : i.toNat < s.size, s[i.toNat]'hg = k := by
  unfold sIs at h
  rw [Bool.and_eq_true, decide_eq_true_eq, beq_iff_eq] at h
  obtain ⟨h0, h1⟩ := h
  by_cases hi : i < s.size
  · have hg : i.toNat < s.size := by omega
    refine ⟨h0, hi, hg, ?_⟩
    rw [byte_get s i h0 hg] at h1
    exact Option.some.inj h1
  · rw [byte_none s i (by omega)] at h1
    cases h1

set_option maxRecDepth 100000 in
set_option maxHeartbeats 1600000 in
theorem two_step (d : Nat) (hd : d ≤ 20) (ih : ParseAt d) : TwoAtS d := by
  intro s i w hs
  have HA := hide (ih s i (w.alloc (.cells #[.int .i64 0, .int .i64 0, .int .i64 0, .int .i64 0, .slice none 0 0] 25)) hs)
  have HQ := hide (fun i' w' => ih s i' w' hs)
  have EV : Hid (twoS d s.data.toList i = if sIs s.data.toList (sP d s.data.toList i).2 38 = false ∧ sIs s.data.toList (sP d s.data.toList i).2 124 = false then (zeroC, -1)
    else if sIs s.data.toList (sP d s.data.toList ((sP d s.data.toList i).2 + 1)).2 41 = false then (zeroC, -1)
    else (.mk (if sIs s.data.toList (sP d s.data.toList i).2 124 = true then 4 else 3) 0 0 0 [(sP d s.data.toList i).1, (sP d s.data.toList ((sP d s.data.toList i).2 + 1)).1], (sP d s.data.toList ((sP d s.data.toList i).2 + 1)).2 + 1)) := hide rfl
  generalize twoS d s.data.toList i = r at *
  rcases hAA : sP d s.data.toList i with ⟨ac, a2⟩
  rw [hAA] at HA EV
  rcases hBB : sP d s.data.toList (a2 + 1) with ⟨bc, b2⟩
  have HB := hide (fun w' => HQ.out (a2 + 1) w')
  rw [hBB] at HB EV
  clear hAA hBB HQ ih
  simp only at EV
  have HI38 := hide (fun w' => l7Is_any s a2 38 38 rfl w')
  have HI124 := hide (fun w' => l7Is_any s a2 124 124 rfl w')
  have HI41 := hide (fun w' => l7Is_any s b2 41 41 rfl w')
  have Y38 := hide (@sIs_yes s a2 38)
  have Y124 := hide (@sIs_yes s a2 124)
  have Y41 := hide (@sIs_yes s b2 41)
  generalize sIs s.data.toList a2 38 = y38 at *
  generalize sIs s.data.toList a2 124 = y124 at *
  generalize sIs s.data.toList b2 41 = y41 at *
  have hb1 := belowAlloc w (.cells #[.int .i64 0, .int .i64 0, .int .i64 0, .int .i64 0, .slice none 0 0] 25)
  have HB1 := hide hb1
  have hD : ((d + 1 : Nat) : Int) - 1 = (d : Int) := by omega
  have hD2 : ((d + 1 : Nat) : Int) ≤ 30 := by omega
  have hD3 : 0 ≤ ((d + 1 : Nat) : Int) := by omega
  generalize ((d + 1 : Nat) : Int) = D at *
  go_enter Try.func160, Try.ntmps160
  go_wp2_with fail
  (with_reducible refine HA.out.mono ?_); rintro e w1 ⟨ao, at', aq, ax, aks, sa, rfl, rfl, owna, hba⟩
  have r0 := (hba.cell (p := ⟨w.heap.size, 0, none⟩) (by simp)).trans (by simp [go_sem] : _ = some (.int .i64 0))
  have r1 := (hba.cell (p := ⟨w.heap.size, 1, none⟩) (by simp)).trans (by simp [go_sem] : _ = some (.int .i64 0))
  have r2 := (hba.cell (p := ⟨w.heap.size, 2, none⟩) (by simp)).trans (by simp [go_sem] : _ = some (.int .i64 0))
  have r3 := (hba.cell (p := ⟨w.heap.size, 3, none⟩) (by simp)).trans (by simp [go_sem] : _ = some (.int .i64 0))
  have r4 := (hba.cell (p := ⟨w.heap.size, 4, none⟩) (by simp)).trans (by simp [go_sem] : _ = some (.slice none 0 0))
  have rf : ∀ j, w1.frozen? ⟨w.heap.size, j, none⟩ = false := fun j => (hba.frozen (p := ⟨w.heap.size, j, none⟩) (by simp)).trans (by simp [go_sem])
  have hz1 := hba.size
  simp at hz1
  have hx1 : w.heap.size < w1.heap.size := by omega
  have OA : Hid (OwnC 25 w1 (w.heap.size + 1) w1.heap.size sa aks) := hide (by simpa using owna)
  have HBA := hide (HB1.out.trans (hba.mono (by simp)))
  clear owna hba hb1 HB1 HA
  have hb8 := belowAlloc w1 (.cells #[.int .i64 ao, .int .i64 at', .int .i64 aq, .int .i64 ax, .slice sa.a sa.n sa.cap] 25)
  have HB8 := hide hb8
  have BX8 := hide (BoxC.new w1 ao at' aq ax sa.a sa.n sa.cap 25)
  have OA8 := hide (OA.out.keepB hb8)
  clear hb8
  go_wp2_with fail
  (with_reducible refine (HI38.out _).mono ?_); rintro e w2 ⟨rfl, rfl⟩
  cases y38
  · go_wp2_with fail
    (with_reducible refine (HI124.out _).mono ?_); rintro e w3 ⟨rfl, rfl⟩
    cases y124
    · obtain rfl : r = (zeroC, -1) := by rw [EV.out]; simp
      go_wp2_with fail
      refine bodyPost_ret (v := .tuple #[.agg #[.int .i64 0, .int .i64 0, .int .i64 0, .int .i64 0, .slice none 0 0], .int .i64 (-1)]) (by simp [results, Try.results160, go_sem, r0, r1, r2, r3, r4, hx1]) rfl (RetSP.no ((((((HBA.out.setCell (Nat.le_refl _) _).setCell (Nat.le_refl _) _).setCell (Nat.le_refl _) _).setCell (Nat.le_refl _) _).setCell (Nat.le_refl _) _).alloc (by simp; omega) _))
    · obtain ⟨z0, z1, hg, hbyte⟩ := Y124.out rfl
      have hii : 0 ≤ a2 ∧ a2 < s.size := ⟨z0, z1⟩
      have hby : ((s[a2.toNat]'hg).toNat : Int) = 124 := by rw [hbyte]; rfl
      have htest : (((s[a2.toNat]'hg).toNat : Int) == 124) = true := by rw [hby]; rfl
      clear hbyte hby
      go_wp2_with fail
      (with_reducible refine (HB.out _).mono ?_); rintro e w4 ⟨bo, bt, bq, bx, bks, sb, rfl, rfl, ownb, hb4⟩
      have hb4' := HB8.out.trans (hb4.mono HB8.out.size)
      have r0 := (hb4'.cell (p := ⟨w.heap.size, 0, none⟩) hx1).trans r0
      have r1 := (hb4'.cell (p := ⟨w.heap.size, 1, none⟩) hx1).trans r1
      have r2 := (hb4'.cell (p := ⟨w.heap.size, 2, none⟩) hx1).trans r2
      have r3 := (hb4'.cell (p := ⟨w.heap.size, 3, none⟩) hx1).trans r3
      have r4 := (hb4'.cell (p := ⟨w.heap.size, 4, none⟩) hx1).trans r4
      have rf : ∀ j, w4.frozen? ⟨w.heap.size, j, none⟩ = false := fun j => (hb4'.frozen (p := ⟨w.heap.size, j, none⟩) hx1).trans (rf j)
      have hx4 : w.heap.size < w4.heap.size := Nat.lt_of_lt_of_le hx1 hb4'.size
      have hz4 := hb4.size
      simp at hz4
      have hx9 : w1.heap.size < w4.heap.size := by omega
      obtain ⟨bl8, p0, p1, p2, p3, p4⟩ := BX8.out.below hb4
      have OB : Hid (OwnC 25 w4 (w1.heap.size + 1) w4.heap.size sb bks) := hide (by simpa using ownb)
      have HB4 := hide (HBA.out.trans (hb4'.mono (by omega)))
      have OWN := hide ((OwnC.two ((((((((OA8.out.keepB hb4).setOut (g := w.heap.size) (by omega) 0 (.int .i64 4)).setOut (g := w.heap.size) (by omega) 1 (.int .i64 0)).setOut (g := w.heap.size) (by omega) 2 (.int .i64 0)).setOut (g := w.heap.size) (by omega) 3 (.int .i64 0)).setOut (g := w.heap.size) (by omega) 4 (.slice (some ⟨w4.heap.size + 1, 0, none⟩) 2 2))).wide (hi' := w1.heap.size + 1) (Nat.le_refl _) (by omega) |>.keepB (belowAlloc _ (.cells #[.int .i64 bo, .int .i64 bt, .int .i64 bq, .int .i64 bx, .slice sb.a sb.n sb.cap] 25))) (((((((OB.out.setOut (g := w.heap.size) (by omega) 0 (.int .i64 4)).setOut (g := w.heap.size) (by omega) 1 (.int .i64 0)).setOut (g := w.heap.size) (by omega) 2 (.int .i64 0)).setOut (g := w.heap.size) (by omega) 3 (.int .i64 0)).setOut (g := w.heap.size) (by omega) 4 (.slice (some ⟨w4.heap.size + 1, 0, none⟩) 2 2))).keepB (belowAlloc _ (.cells #[.int .i64 bo, .int .i64 bt, .int .i64 bq, .int .i64 bx, .slice sb.a sb.n sb.cap] 25))) (by omega) (by omega) (by simp) ao at' aq ax bo bt bq bx).wide (lo' := w.heap.size) (by omega) (Nat.le_refl _))
      clear ownb hb4 hb4'
      go_wp2_with fail
      (with_reducible refine (HI41.out _).mono ?_); rintro e w5 ⟨rfl, rfl⟩
      cases y41
      · obtain rfl : r = (zeroC, -1) := by rw [EV.out]; simp
        go_wp2_with fail
        refine bodyPost_ret (v := .tuple #[.agg #[.int .i64 0, .int .i64 0, .int .i64 0, .int .i64 0, .slice none 0 0], .int .i64 (-1)]) (by simp [results, Try.results160, go_sem, r0, r1, r2, r3, r4, hx4]) rfl (RetSP.no ((((((HB4.out.setCell (Nat.le_refl _) _).setCell (Nat.le_refl _) _).setCell (Nat.le_refl _) _).setCell (Nat.le_refl _) _).setCell (Nat.le_refl _) _).alloc (by simp; omega) _))
      · obtain ⟨z2, z3, -, -⟩ := Y41.out rfl
        obtain rfl : r = (.mk 4 0 0 0 [.mk ao at' aq ax aks, .mk bo bt bq bx bks], b2 + 1) := by rw [EV.out]; simp
        go_wp2_with fail
        refine bodyPost_ret (v := .tuple #[.agg #[.int .i64 4, .int .i64 0, .int .i64 0, .int .i64 0, .slice (some ⟨w4.heap.size + 1, 0, none⟩) 2 2], .int .i64 (b2 + 1)]) (by simp [results, Try.results160, go_sem, r0, r1, r2, r3, r4, hx4]) rfl ⟨4, 0, 0, 0, [.mk ao at' aq ax aks, .mk bo bt bq bx bks], ⟨some ⟨w4.heap.size + 1, 0, none⟩, 2, 2⟩, rfl, rfl, by simpa using OWN.out, ((((((HB4.out.setCell (Nat.le_refl _) _).setCell (Nat.le_refl _) _).setCell (Nat.le_refl _) _).setCell (Nat.le_refl _) _).setCell (Nat.le_refl _) _).alloc (by simp; omega) _).alloc (by simp; omega) _⟩
  · have hy : y124 = false := by
      obtain ⟨-, -, hg, h1⟩ := Y38.out rfl
      cases y124
      · rfl
      · obtain ⟨-, -, hg2, h2⟩ := Y124.out rfl
        rw [h1] at h2
        exact absurd h2 (by decide)
    subst hy
    obtain ⟨z0, z1, hg, hbyte⟩ := Y38.out rfl
    have hii : 0 ≤ a2 ∧ a2 < s.size := ⟨z0, z1⟩
    have hby : ((s[a2.toNat]'hg).toNat : Int) = 38 := by rw [hbyte]; rfl
    have htest : (((s[a2.toNat]'hg).toNat : Int) == 124) = false := by rw [hby]; rfl
    clear hbyte hby
    go_wp2_with fail
    (with_reducible refine (HB.out _).mono ?_); rintro e w4 ⟨bo, bt, bq, bx, bks, sb, rfl, rfl, ownb, hb4⟩
    have hb4' := HB8.out.trans (hb4.mono HB8.out.size)
    have r0 := (hb4'.cell (p := ⟨w.heap.size, 0, none⟩) hx1).trans r0
    have r1 := (hb4'.cell (p := ⟨w.heap.size, 1, none⟩) hx1).trans r1
    have r2 := (hb4'.cell (p := ⟨w.heap.size, 2, none⟩) hx1).trans r2
    have r3 := (hb4'.cell (p := ⟨w.heap.size, 3, none⟩) hx1).trans r3
    have r4 := (hb4'.cell (p := ⟨w.heap.size, 4, none⟩) hx1).trans r4
    have rf : ∀ j, w4.frozen? ⟨w.heap.size, j, none⟩ = false := fun j => (hb4'.frozen (p := ⟨w.heap.size, j, none⟩) hx1).trans (rf j)
    have hx4 : w.heap.size < w4.heap.size := Nat.lt_of_lt_of_le hx1 hb4'.size
    have hz4 := hb4.size
    simp at hz4
    have hx9 : w1.heap.size < w4.heap.size := by omega
    obtain ⟨bl8, p0, p1, p2, p3, p4⟩ := BX8.out.below hb4
    have OB : Hid (OwnC 25 w4 (w1.heap.size + 1) w4.heap.size sb bks) := hide (by simpa using ownb)
    have HB4 := hide (HBA.out.trans (hb4'.mono (by omega)))
    have OWN := hide ((OwnC.two ((((((((OA8.out.keepB hb4).setOut (g := w.heap.size) (by omega) 0 (.int .i64 3)).setOut (g := w.heap.size) (by omega) 1 (.int .i64 0)).setOut (g := w.heap.size) (by omega) 2 (.int .i64 0)).setOut (g := w.heap.size) (by omega) 3 (.int .i64 0)).setOut (g := w.heap.size) (by omega) 4 (.slice (some ⟨w4.heap.size + 1, 0, none⟩) 2 2))).wide (hi' := w1.heap.size + 1) (Nat.le_refl _) (by omega) |>.keepB (belowAlloc _ (.cells #[.int .i64 bo, .int .i64 bt, .int .i64 bq, .int .i64 bx, .slice sb.a sb.n sb.cap] 25))) (((((((OB.out.setOut (g := w.heap.size) (by omega) 0 (.int .i64 3)).setOut (g := w.heap.size) (by omega) 1 (.int .i64 0)).setOut (g := w.heap.size) (by omega) 2 (.int .i64 0)).setOut (g := w.heap.size) (by omega) 3 (.int .i64 0)).setOut (g := w.heap.size) (by omega) 4 (.slice (some ⟨w4.heap.size + 1, 0, none⟩) 2 2))).keepB (belowAlloc _ (.cells #[.int .i64 bo, .int .i64 bt, .int .i64 bq, .int .i64 bx, .slice sb.a sb.n sb.cap] 25))) (by omega) (by omega) (by simp) ao at' aq ax bo bt bq bx).wide (lo' := w.heap.size) (by omega) (Nat.le_refl _))
    clear ownb hb4 hb4'
    go_wp2_with fail
    (with_reducible refine (HI41.out _).mono ?_); rintro e w5 ⟨rfl, rfl⟩
    cases y41
    · obtain rfl : r = (zeroC, -1) := by rw [EV.out]; simp
      go_wp2_with fail
      refine bodyPost_ret (v := .tuple #[.agg #[.int .i64 0, .int .i64 0, .int .i64 0, .int .i64 0, .slice none 0 0], .int .i64 (-1)]) (by simp [results, Try.results160, go_sem, r0, r1, r2, r3, r4, hx4]) rfl (RetSP.no ((((((HB4.out.setCell (Nat.le_refl _) _).setCell (Nat.le_refl _) _).setCell (Nat.le_refl _) _).setCell (Nat.le_refl _) _).setCell (Nat.le_refl _) _).alloc (by simp; omega) _))
    · obtain ⟨z2, z3, -, -⟩ := Y41.out rfl
      obtain rfl : r = (.mk 3 0 0 0 [.mk ao at' aq ax aks, .mk bo bt bq bx bks], b2 + 1) := by rw [EV.out]; simp
      go_wp2_with fail
      refine bodyPost_ret (v := .tuple #[.agg #[.int .i64 3, .int .i64 0, .int .i64 0, .int .i64 0, .slice (some ⟨w4.heap.size + 1, 0, none⟩) 2 2], .int .i64 (b2 + 1)]) (by simp [results, Try.results160, go_sem, r0, r1, r2, r3, r4, hx4]) rfl ⟨3, 0, 0, 0, [.mk ao at' aq ax aks, .mk bo bt bq bx bks], ⟨some ⟨w4.heap.size + 1, 0, none⟩, 2, 2⟩, rfl, rfl, by simpa using OWN.out, ((((((HB4.out.setCell (Nat.le_refl _) _).setCell (Nat.le_refl _) _).setCell (Nat.le_refl _) _).setCell (Nat.le_refl _) _).setCell (Nat.le_refl _) _).alloc (by simp; omega) _).alloc (by simp; omega) _⟩
end Go.Proofs.Ytpnmphfdfadlcaa
