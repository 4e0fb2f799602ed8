/-
  The program's parser of conditions at an opening bracket and an &. No condition but a bound on sizes.
-/
import Derived.Test.YtpnmphfdfadlcaaP16
import Derived.Deep.RegionLaw
namespace Go.Proofs.Ytpnmphfdfadlcaa
open Go.RowKit

theorem BoxC.outside {w w' : World} {pb b : Nat} {o t q x : Int} {a : Option Addr} {n c : Nat} (h : BoxC w b o t q x a n c) (ho : Outside pb (pb + 1) w w') (hb : b ≠ pb) : BoxC w' b o t q x a n c := by
  have e := ho.block b h.lt (by omega)
  exact ⟨Nat.lt_of_lt_of_le h.lt ho.size, (cell_of_block e 0).trans h.c0, (cell_of_block e 1).trans h.c1, (cell_of_block e 2).trans h.c2, (cell_of_block e 3).trans h.c3, (cell_of_block e 4).trans h.c4⟩

/-- What the parser hands back, its parts written out. -/
def RetPCr (w : World) (pb : Nat) (o t q x : Int) (ks : List Cd) (l : List UInt8) (f : Bool) (e : Ending) (w' : World) : Prop :=
  ∃ s : Slc, e = .returned (.agg #[.int .i64 o, .int .i64 t, .int .i64 q, .int .i64 x, .slice s.a s.n s.cap]) ∧ OwnC 25 w' w.heap.size w'.heap.size s ks ∧ PS w' pb l f ∧ Outside pb (pb + 1) w w'

set_option maxRecDepth 100000 in
set_option maxHeartbeats 1600000 in
theorem cond_and (n : Nat) (ih : CondAt n) (pb : Nat) (l : List UInt8) (f : Bool) (w : World) (h : PS w pb l f) (hl : l.length < n + 1) (l1 : List UInt8) (hr : pB l f = (40, l1, false))
    (ao at' ap ax : Int) (aks : List Cd) (l2 : List UInt8) (f2 : Bool) (hA : pC n l1 false = (.mk ao at' ap ax aks, l2, f2)) (c2 : UInt8) (l3 : List UInt8) (f3 : Bool) (hr2 : pB l2 f2 = (c2, l3, f3))
    (bo bt bp bx : Int) (bks : List Cd) (l4 : List UInt8) (f4 : Bool) (hBB : pC n l3 f3 = (.mk bo bt bp bx bks, l4, f4)) (c3 : UInt8) (l5 : List UInt8) (f5 : Bool) (hr3 : pB l4 f4 = (c3, l5, f5)) (e38 : c2 = 38) :
    Calls Try.prog 72 #[.pointer (some ⟨pb, 0, none⟩)] w (RetPC w pb (.mk 3 0 0 0 [.mk ao at' ap ax aks, .mk bo bt bp bx bks], l5, f5)) := by
  have hl1 := pB_len2 (l := l) (f := f) (by rw [hr])
  have la := pC_len n l1 false
  have lb := pB_len l2 f2
  rw [hr] at hl1; rw [hA] at la; rw [hr2] at lb
  simp only at hl1 la lb
  have hl3 : l1.length < n := by omega
  have hl4 : l3.length < n := by omega
  have hne : w.heap.size ≠ pb := by have := h.lt; omega
  have P0 := hide (h.allocNew (.cells #[.int .i64 0, .int .i64 0, .int .i64 0, .int .i64 0, .slice none 0 0] 25))
  have O0 := hide (Outside.of_below (lo := pb) (hi := pb + 1) (belowAlloc w (.cells #[.int .i64 0, .int .i64 0, .int .i64 0, .int .i64 0, .slice none 0 0] 25)))
  have HB1 := byte_any pb l f _ P0.out
  have HC := fun w' h => ih pb l1 false w' h hl3
  have HB3 := fun w' h => byte_any pb l2 f2 w' h
  have HC4 := fun w' h => ih pb l3 f3 w' h hl4
  have HB5 := fun w' h => byte_any pb l4 f4 w' h
  rw [hr] at HB1; rw [hA] at HC; rw [hr2] at HB3; rw [hBB] at HC4; rw [hr3] at HB5
  simp only at HB1 HC HB3 HC4 HB5
  have HB1 := hide HB1; have HC : Hid (∀ w', PS w' pb l1 false → Calls Try.prog 72 #[.pointer (some ⟨pb, 0, none⟩)] w' (RetPCr w' pb ao at' ap ax aks l2 f2)) := hide HC; have HB3 := hide HB3; have HC4 : Hid (∀ w', PS w' pb l3 f3 → Calls Try.prog 72 #[.pointer (some ⟨pb, 0, none⟩)] w' (RetPCr w' pb bo bt bp bx bks l4 f4)) := hide HC4; have HB5 := hide HB5
  have hcc2 := c2.toNat_lt
  have g38 : ((c2.toNat : Int) == 38) = true := by subst e38; rfl
  clear hl la lb hl1 hr hA hr2 hBB hr3 e38 h
  go_enter Try.func72, Try.ntmps72
  go_wp2_with fail
  (with_reducible refine HB1.out.mono ?_); rintro e w1 ⟨rfl, hp1, hg1⟩
  have O1 := hide (outside_of_row hg1)
  clear hg1
  have q1 := hp1.c1
  have HP1 := hide hp1
  have hx1 := hp1.lt
  clear hp1
  obtain ⟨hc1, hf1⟩ := ocell O1.out
  go_wp2_with fail
  (with_reducible refine (HC.out _ HP1.out).mono ?_); rintro e w2 ⟨s2, rfl, own2, hp2, hg2⟩
  have O2 := hide (O1.out.trans hg2)
  have HP2 := hide hp2; have HO2 := hide own2
  have hsz1 := O1.out.size
  have hsz2 := hg2.size
  simp at hsz1
  have hx2 := hp2.lt
  clear hp2 hg2 own2 hc1 hf1 q1
  have HP3 := hide (HP2.out.allocNew (.cells #[.int .i64 ao, .int .i64 at', .int .i64 ap, .int .i64 ax, .slice s2.a s2.n s2.cap] 25))
  have O3 := hide (O2.out.allocNew (.cells #[.int .i64 ao, .int .i64 at', .int .i64 ap, .int .i64 ax, .slice s2.a s2.n s2.cap] 25))
  have BX := hide (BoxC.new w2 ao at' ap ax s2.a s2.n s2.cap 25)
  have HO3 := hide (HO2.out.keepB (belowAlloc w2 (.cells #[.int .i64 ao, .int .i64 at', .int .i64 ap, .int .i64 ax, .slice s2.a s2.n s2.cap] 25)))
  clear HP2 O2 HO2
  go_wp2_with fail
  (with_reducible refine (HB3.out _ HP3.out).mono ?_); rintro e w3 ⟨rfl, hp3, hg3⟩
  have G3 := outside_of_row hg3
  have O4 := hide (O3.out.trans G3)
  have HP4 := hide hp3
  have hsz3 := hg3.size
  simp at hsz3
  have HO4 := hide (HO3.out.apart G3 (.inr (show pb + 1 ≤ w1.heap.size from hx1)))
  have hgne : w2.heap.size ≠ pb := by omega
  have hgl4 : w2.heap.size < w3.heap.size := by omega
  obtain ⟨hc3, hf3⟩ := ocell G3
  have k0 := (hc3 w2.heap.size 0 (by simp) hgne).trans BX.out.c0
  have k1 := (hc3 w2.heap.size 1 (by simp) hgne).trans BX.out.c1
  have k2 := (hc3 w2.heap.size 2 (by simp) hgne).trans BX.out.c2
  have k3 := (hc3 w2.heap.size 3 (by simp) hgne).trans BX.out.c3
  have k4 := (hc3 w2.heap.size 4 (by simp) hgne).trans BX.out.c4
  have hne3 : w3.heap.size ≠ pb := by omega
  have hne3' : w2.heap.size ≠ w3.heap.size := by omega
  clear hp3 hg3 hc3 hf3 G3 HP3 O3 HO3 BX
  have PA := hide (HP4.out.below (Below.refl _ _).drew)
  have PB := hide ((HP4.out.allocNew (.cells #[.int .i64 0, .int .i64 0, .int .i64 0, .int .i64 0, .slice none 0 0] 25)).below (Below.refl _ _).drew)
  have OA := hide (Outside.of_below (lo := pb) (hi := pb + 1) (w := w3) (w' := w3.drew) ((Below.refl _ _).drew))
  have OB := hide (Outside.of_below (lo := pb) (hi := pb + 1) ((belowAlloc w3 (.cells #[.int .i64 0, .int .i64 0, .int .i64 0, .int .i64 0, .slice none 0 0] 25)).drew))
  clear HB1 HC HB3
  go_upto_region 11 with fail
  go_cut [6] (fun s6 W => ∃ (b6 : Nat) (s : Slc), s6 = .pointer (some ⟨b6, 0, none⟩) ∧ b6 ≠ pb ∧ Hid (BoxC W b6 3 0 0 0 s.a s.n s.cap) ∧ Hid (OwnC 25 W w1.heap.size W.heap.size s [.mk ao at' ap ax aks, .mk bo bt bp bx bks]) ∧ Hid (PS W pb l4 f4) ∧ Hid (Outside pb (pb + 1) w3 W))
  case first =>
    go_region_law
      (first
        | (go_simp; go_at_call 72; (with_reducible refine (HC4.out _ PA.out).mono ?_); rintro e u1 ⟨s4, rfl, own4, hp4, hg4⟩; have RB : Hid (OwnC 25 u1 w3.heap.size u1.heap.size s4 bks) := hide own4; have P5 := hide hp4; have Q5 := hide (OA.out.trans hg4); have RA := hide (HO4.out.apart Q5.out (.inr hx1)); have hz5 := Q5.out.size; (have k0 := (cell_of_block (Q5.out.block w2.heap.size hgl4 (by omega)) 0).trans k0); (have k1 := (cell_of_block (Q5.out.block w2.heap.size hgl4 (by omega)) 1).trans k1); (have k2 := (cell_of_block (Q5.out.block w2.heap.size hgl4 (by omega)) 2).trans k2); (have k3 := (cell_of_block (Q5.out.block w2.heap.size hgl4 (by omega)) 3).trans k3); (have k4 := (cell_of_block (Q5.out.block w2.heap.size hgl4 (by omega)) 4).trans k4); (have hy1 : w2.heap.size < u1.heap.size := Nat.lt_of_lt_of_le hgl4 Q5.out.size); clear own4 hp4 hg4)
        | (go_simp; go_at_call 72; (with_reducible refine (HC4.out _ PB.out).mono ?_); rintro e u1 ⟨s4, rfl, own4, hp4, hg4⟩; have RB : Hid (OwnC 25 u1 (w3.heap.size + 1) u1.heap.size s4 bks) := hide (by simpa using own4); have P5 := hide hp4; have Q5 := hide (OB.out.trans hg4); have RA := hide (HO4.out.apart Q5.out (.inr hx1)); have hz5 := Q5.out.size; (have k0 := (cell_of_block (Q5.out.block w2.heap.size hgl4 (by omega)) 0).trans k0); (have k1 := (cell_of_block (Q5.out.block w2.heap.size hgl4 (by omega)) 1).trans k1); (have k2 := (cell_of_block (Q5.out.block w2.heap.size hgl4 (by omega)) 2).trans k2); (have k3 := (cell_of_block (Q5.out.block w2.heap.size hgl4 (by omega)) 3).trans k3); (have k4 := (cell_of_block (Q5.out.block w2.heap.size hgl4 (by omega)) 4).trans k4); (have hy1 : w2.heap.size < u1.heap.size := Nat.lt_of_lt_of_le hgl4 Q5.out.size); (have hy2 : w3.heap.size < u1.heap.size := (by have := hg4.size; simp at this; omega)); (have zb := hg4.block w3.heap.size (by simp) (by omega)); (have z0 : u1.cell? ⟨w3.heap.size, 0, none⟩ = some (.int .i64 0) := (cell_of_block zb 0).trans (by simp [go_sem])); (have z1 : u1.cell? ⟨w3.heap.size, 1, none⟩ = some (.int .i64 0) := (cell_of_block zb 1).trans (by simp [go_sem])); (have z2 : u1.cell? ⟨w3.heap.size, 2, none⟩ = some (.int .i64 0) := (cell_of_block zb 2).trans (by simp [go_sem])); (have z3 : u1.cell? ⟨w3.heap.size, 3, none⟩ = some (.int .i64 0) := (cell_of_block zb 3).trans (by simp [go_sem])); (have z4 : u1.cell? ⟨w3.heap.size, 4, none⟩ = some (.slice none 0 0) := (cell_of_block zb 4).trans (by simp [go_sem])); (have zf : ∀ j, u1.frozen? ⟨w3.heap.size, j, none⟩ = false := (fun j => by unfold World.frozen?; rw [zb]; exact (by simp [go_sem] : ((w3.alloc (.cells #[.int .i64 0, .int .i64 0, .int .i64 0, .int .i64 0, .slice none 0 0] 25)).drew).frozen? ⟨w3.heap.size, j, none⟩ = false))); clear own4 hp4 hg4 zb))
    · go_wp2_with fail
      go_meet
      exact ⟨u1.heap.size + 1, ⟨some ⟨u1.heap.size, 0, none⟩, 2, 2⟩, rfl, by omega, hide (by simpa using BoxC.new (u1.alloc (.cells #[.int .i64 ao, .int .i64 at', .int .i64 ap, .int .i64 ax, .slice s2.a s2.n s2.cap, .int .i64 bo, .int .i64 bt, .int .i64 bp, .int .i64 bx, .slice s4.a s4.n s4.cap] 25)) 3 0 0 0 (some ⟨u1.heap.size, 0, none⟩) 2 2 25), hide (((OwnC.two (RA.out.wide (hi' := w3.heap.size) (Nat.le_refl _) (by omega)) RB.out (by omega) hz5 (Nat.le_refl _) ao at' ap ax bo bt bp bx).keepB (belowAlloc _ _)).wide (Nat.le_refl _) (by simp)), hide ((P5.out.allocNew _).allocNew _), hide ((Q5.out.allocNew _).allocNew _)⟩
    · go_wp2_with fail
      go_meet
      exact ⟨u1.heap.size, ⟨some ⟨u1.heap.size + 1, 0, none⟩, 2, 2⟩, rfl, by omega, hide ((BoxC.new u1 3 0 0 0 (some ⟨u1.heap.size + 1, 0, none⟩) 2 2 25).below (belowAlloc _ _)), hide (by simpa using (OwnC.two ((RA.out.wide (hi' := w3.heap.size) (Nat.le_refl _) (by omega)).keepB (belowAlloc u1 (.cells #[.int .i64 3, .int .i64 0, .int .i64 0, .int .i64 0, .slice (some ⟨u1.heap.size + 1, 0, none⟩) 2 2] 25))) (RB.out.keepB (belowAlloc u1 (.cells #[.int .i64 3, .int .i64 0, .int .i64 0, .int .i64 0, .slice (some ⟨u1.heap.size + 1, 0, none⟩) 2 2] 25))) (by omega) hz5 (by simp) ao at' ap ax bo bt bp bx)), hide ((P5.out.allocNew _).allocNew _), hide ((Q5.out.allocNew _).allocNew _)⟩
    · go_wp2_with fail
      go_meet
      exact ⟨w3.heap.size, ⟨some ⟨u1.heap.size, 0, none⟩, 2, 2⟩, rfl, by omega, hide ⟨by simp; omega, by simp [go_sem, hy2, z0], by simp [go_sem, hy2, z1], by simp [go_sem, hy2, z2], by simp [go_sem, hy2, z3], by simp [go_sem, hy2, z4]⟩, hide (by simpa using (OwnC.two ((((((RA.out.setHi (g := w3.heap.size) (by omega) 0 (.int .i64 3)).setHi (g := w3.heap.size) (by omega) 1 (.int .i64 0)).setHi (g := w3.heap.size) (by omega) 2 (.int .i64 0)).setHi (g := w3.heap.size) (by omega) 3 (.int .i64 0)).setHi (g := w3.heap.size) (by omega) 4 (.slice (some ⟨u1.heap.size, 0, none⟩) 2 2)).wide (hi' := w3.heap.size + 1) (Nat.le_refl _) (by omega)) ((((((RB.out.setOut (g := w3.heap.size) (by omega) 0 (.int .i64 3)).setOut (g := w3.heap.size) (by omega) 1 (.int .i64 0)).setOut (g := w3.heap.size) (by omega) 2 (.int .i64 0)).setOut (g := w3.heap.size) (by omega) 3 (.int .i64 0)).setOut (g := w3.heap.size) (by omega) 4 (.slice (some ⟨u1.heap.size, 0, none⟩) 2 2))) (by omega) hy2 (by simp) ao at' ap ax bo bt bp bx)), hide ((((((P5.out.setNew hne3 _ _).setNew hne3 _ _).setNew hne3 _ _).setNew hne3 _ _).setNew hne3 _ _).allocNew _), hide ((((((Q5.out.setNew (Nat.le_refl _) _ _).setNew (Nat.le_refl _) _ _).setNew (Nat.le_refl _) _ _).setNew (Nat.le_refl _) _ _).setNew (Nat.le_refl _) _ _).allocNew _)⟩
    · go_wp2_with fail
      go_meet
      exact ⟨u1.heap.size + 1, ⟨some ⟨u1.heap.size, 0, none⟩, 2, 2⟩, rfl, by omega, hide (by simpa using BoxC.new (u1.alloc (.cells #[.int .i64 ao, .int .i64 at', .int .i64 ap, .int .i64 ax, .slice s2.a s2.n s2.cap, .int .i64 bo, .int .i64 bt, .int .i64 bp, .int .i64 bx, .slice s4.a s4.n s4.cap] 25)) 3 0 0 0 (some ⟨u1.heap.size, 0, none⟩) 2 2 25), hide (((OwnC.two (RA.out.wide (hi' := w3.heap.size) (Nat.le_refl _) (by omega)) RB.out (by omega) hz5 (Nat.le_refl _) ao at' ap ax bo bt bp bx).keepB (belowAlloc _ _)).wide (Nat.le_refl _) (by simp)), hide ((P5.out.allocNew _).allocNew _), hide ((Q5.out.allocNew _).allocNew _)⟩
    · go_wp2_with fail
      go_meet
      exact ⟨u1.heap.size, ⟨some ⟨u1.heap.size + 1, 0, none⟩, 2, 2⟩, rfl, by omega, hide ((BoxC.new u1 3 0 0 0 (some ⟨u1.heap.size + 1, 0, none⟩) 2 2 25).below (belowAlloc _ _)), hide (by simpa using (OwnC.two ((RA.out.wide (hi' := w3.heap.size) (Nat.le_refl _) (by omega)).keepB (belowAlloc u1 (.cells #[.int .i64 3, .int .i64 0, .int .i64 0, .int .i64 0, .slice (some ⟨u1.heap.size + 1, 0, none⟩) 2 2] 25))) (RB.out.keepB (belowAlloc u1 (.cells #[.int .i64 3, .int .i64 0, .int .i64 0, .int .i64 0, .slice (some ⟨u1.heap.size + 1, 0, none⟩) 2 2] 25))) (by omega) hz5 (by simp) ao at' ap ax bo bt bp bx)), hide ((P5.out.allocNew _).allocNew _), hide ((Q5.out.allocNew _).allocNew _)⟩
    · go_wp2_with fail
      go_meet
      exact ⟨u1.heap.size, ⟨some ⟨u1.heap.size + 1, 0, none⟩, 2, 2⟩, rfl, by omega, hide ((BoxC.new u1 3 0 0 0 (some ⟨u1.heap.size + 1, 0, none⟩) 2 2 25).below (belowAlloc _ _)), hide (by simpa using (OwnC.two ((RA.out.wide (hi' := w3.heap.size) (Nat.le_refl _) (by omega)).keepB (belowAlloc u1 (.cells #[.int .i64 3, .int .i64 0, .int .i64 0, .int .i64 0, .slice (some ⟨u1.heap.size + 1, 0, none⟩) 2 2] 25))) (RB.out.keepB (belowAlloc u1 (.cells #[.int .i64 3, .int .i64 0, .int .i64 0, .int .i64 0, .slice (some ⟨u1.heap.size + 1, 0, none⟩) 2 2] 25))) (by omega) hz5 (by simp) ao at' ap ax bo bt bp bx)), hide ((P5.out.allocNew _).allocNew _), hide ((Q5.out.allocNew _).allocNew _)⟩
    · go_wp2_with fail
      go_meet
      exact ⟨w3.heap.size, ⟨some ⟨u1.heap.size, 0, none⟩, 2, 2⟩, rfl, by omega, hide ⟨by simp; omega, by simp [go_sem, hy2, z0], by simp [go_sem, hy2, z1], by simp [go_sem, hy2, z2], by simp [go_sem, hy2, z3], by simp [go_sem, hy2, z4]⟩, hide (by simpa using (OwnC.two ((((((RA.out.setHi (g := w3.heap.size) (by omega) 0 (.int .i64 3)).setHi (g := w3.heap.size) (by omega) 1 (.int .i64 0)).setHi (g := w3.heap.size) (by omega) 2 (.int .i64 0)).setHi (g := w3.heap.size) (by omega) 3 (.int .i64 0)).setHi (g := w3.heap.size) (by omega) 4 (.slice (some ⟨u1.heap.size, 0, none⟩) 2 2)).wide (hi' := w3.heap.size + 1) (Nat.le_refl _) (by omega)) ((((((RB.out.setOut (g := w3.heap.size) (by omega) 0 (.int .i64 3)).setOut (g := w3.heap.size) (by omega) 1 (.int .i64 0)).setOut (g := w3.heap.size) (by omega) 2 (.int .i64 0)).setOut (g := w3.heap.size) (by omega) 3 (.int .i64 0)).setOut (g := w3.heap.size) (by omega) 4 (.slice (some ⟨u1.heap.size, 0, none⟩) 2 2))) (by omega) hy2 (by simp) ao at' ap ax bo bt bp bx)), hide ((((((P5.out.setNew hne3 _ _).setNew hne3 _ _).setNew hne3 _ _).setNew hne3 _ _).setNew hne3 _ _).allocNew _), hide ((((((Q5.out.setNew (Nat.le_refl _) _ _).setNew (Nat.le_refl _) _ _).setNew (Nat.le_refl _) _ _).setNew (Nat.le_refl _) _ _).setNew (Nat.le_refl _) _ _).allocNew _)⟩
    · go_wp2_with fail
      go_meet
      exact ⟨w3.heap.size, ⟨some ⟨u1.heap.size, 0, none⟩, 2, 2⟩, rfl, by omega, hide ⟨by simp; omega, by simp [go_sem, hy2, z0], by simp [go_sem, hy2, z1], by simp [go_sem, hy2, z2], by simp [go_sem, hy2, z3], by simp [go_sem, hy2, z4]⟩, hide (by simpa using (OwnC.two ((((((RA.out.setHi (g := w3.heap.size) (by omega) 0 (.int .i64 3)).setHi (g := w3.heap.size) (by omega) 1 (.int .i64 0)).setHi (g := w3.heap.size) (by omega) 2 (.int .i64 0)).setHi (g := w3.heap.size) (by omega) 3 (.int .i64 0)).setHi (g := w3.heap.size) (by omega) 4 (.slice (some ⟨u1.heap.size, 0, none⟩) 2 2)).wide (hi' := w3.heap.size + 1) (Nat.le_refl _) (by omega)) ((((((RB.out.setOut (g := w3.heap.size) (by omega) 0 (.int .i64 3)).setOut (g := w3.heap.size) (by omega) 1 (.int .i64 0)).setOut (g := w3.heap.size) (by omega) 2 (.int .i64 0)).setOut (g := w3.heap.size) (by omega) 3 (.int .i64 0)).setOut (g := w3.heap.size) (by omega) 4 (.slice (some ⟨u1.heap.size, 0, none⟩) 2 2))) (by omega) hy2 (by simp) ao at' ap ax bo bt bp bx)), hide ((((((P5.out.setNew hne3 _ _).setNew hne3 _ _).setNew hne3 _ _).setNew hne3 _ _).setNew hne3 _ _).allocNew _), hide ((((((Q5.out.setNew (Nat.le_refl _) _ _).setNew (Nat.le_refl _) _ _).setNew (Nat.le_refl _) _ _).setNew (Nat.le_refl _) _ _).setNew (Nat.le_refl _) _ _).allocNew _)⟩
  case rest =>
    obtain ⟨b6, s, rfl, hb6, HBX, HOW, HPS, HOU⟩ := hcut
    have O6 := hide (O4.out.trans HOU.out)
    obtain ⟨hc6, hf6⟩ := ocell O6.out
    go_wp2_with fail
    (with_reducible refine (HB5.out _ HPS.out).mono ?_); rintro e w7 ⟨rfl, hp7, hg7⟩
    have G7 := outside_of_row hg7
    have O7 := hide (O6.out.trans G7)
    have HP7 := hide hp7
    have HO7 := hide (HOW.out.apart G7 (.inr (show pb + 1 ≤ w1.heap.size from hx1)))
    have hx7 := HBX.out.lt
    have BX7 := hide (HBX.out.outside G7 hb6)
    have y0 := BX7.out.c0
    have y1 := BX7.out.c1
    have y2 := BX7.out.c2
    have y3 := BX7.out.c3
    have y4 := BX7.out.c4
    have y5 := BX7.out.lt
    have hx8 : w.heap.size < w7.heap.size := by have := O7.out.size; simp at this; omega
    have hx9 : w.heap.size < w1.heap.size := by omega
    have hx10 : wc.heap.size ≤ w7.heap.size := G7.size
    clear hp7 hg7 G7 hc6 hf6 O6 HOW HPS HBX
    obtain ⟨hc7, hf7⟩ := ocell O7.out
    go_wp2_with fail
    refine bodyPost_ret (v := .agg #[.int .i64 3, .int .i64 0, .int .i64 0, .int .i64 0, .slice s.a s.n s.cap]) (by simp [results, Try.results72, go_sem, hc7, hne]) rfl ⟨s, rfl, (((((HO7.out.setOut hx9 _ _).setOut hx9 _ _).setOut hx9 _ _).setOut hx9 _ _).setOut hx9 _ _).wide (by omega) (by simpa using hx10), ((((((HP7.out.setNew hne _ _).setNew hne _ _).setNew hne _ _).setNew hne _ _).setNew hne _ _)), ((((((O0.out.trans O7.out).setNew (Nat.le_refl _) _ _).setNew (Nat.le_refl _) _ _).setNew (Nat.le_refl _) _ _).setNew (Nat.le_refl _) _ _).setNew (Nat.le_refl _) _ _)⟩

end Go.Proofs.Ytpnmphfdfadlcaa
