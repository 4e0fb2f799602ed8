/-
  ParseCond of the program. No condition.
-/
import Derived.Test.YtpnmphfdfadlcaaP18
namespace Go.Proofs.Ytpnmphfdfadlcaa
open Go.RowKit

theorem two_any (n : Nat) (ih : CondAt n) : TwoAt n := by
  intro pb l f w h hl l1 hr
  rcases hA : pC n l1 false with ⟨⟨ao, at', ap, ax, aks⟩, l2, f2⟩
  rcases hr2 : pB l2 f2 with ⟨c2, l3, f3⟩
  rcases hBB : pC n l3 f3 with ⟨⟨bo, bt, bp, bx, bks⟩, l4, f4⟩
  rcases hr3 : pB l4 f4 with ⟨c3, l5, f5⟩
  rw [pC_two hr hA (r2 := (c2, l3, f3)) hr2 hBB (r3 := (c3, l5, f5)) hr3]
  by_cases e38 : c2 = 38
  · have := cond_and n ih pb l f w h hl l1 hr ao at' ap ax aks l2 f2 hA c2 l3 f3 hr2 bo bt bp bx bks l4 f4 hBB c3 l5 f5 hr3 e38
    simp only [if_pos e38]
    exact this
  · have := cond_or n ih pb l f w h hl l1 hr ao at' ap ax aks l2 f2 hA c2 l3 f3 hr2 bo bt bp bx bks l4 f4 hBB c3 l5 f5 hr3 e38
    simp only [if_neg e38]
    exact this

theorem cond_any : ∀ (n : Nat), CondAt n := by
  intro n
  induction n with
  | zero => intro pb l f w _ h; omega
  | succ n ih => exact cond_step n ih (two_any n ih)

/-- What both parsers answer. -/
def parseV (s : ByteArray) : Cd × Bool := if s.size > 300 then (zeroC, false) else parI s

/-- A condition that the call made, and whether there is one. -/
def RetPV (w : World) (r : Cd × Bool) (e : Ending) (w' : World) : Prop :=
  ∃ (o t q x : Int) (ks : List Cd) (s : Slc), r.1 = .mk o t q x ks ∧ e = .returned (.tuple #[.agg #[.int .i64 o, .int .i64 t, .int .i64 q, .int .i64 x, .slice s.a s.n s.cap], .bool r.2]) ∧ OwnC 25 w' w.heap.size w'.heap.size s ks ∧ Below w.heap.size w w'
theorem RetPV.no {w w' : World} (h : Below w.heap.size w w') : RetPV w (zeroC, false) (.returned (.tuple #[.agg #[.int .i64 0, .int .i64 0, .int .i64 0, .int .i64 0, .slice none 0 0], .bool false])) w' :=
  ⟨0, 0, 0, 0, [], ⟨none, 0, 0⟩, rfl, rfl, .nil, h⟩

theorem bytes_ne {a b : ByteArray} (h : a ≠ b) : (a.toList == b.toList) = false := by
  rw [beq_eq_false_iff_ne, ByteArray.toList_eq, ByteArray.toList_eq]
  intro e
  exact h (ByteArray.ext (Array.toList_inj.1 e))
theorem strB_toList (s : ByteArray) : strB s.data.toList = s := strB_data s

set_option maxRecDepth 100000 in
set_option maxHeartbeats 1600000 in
theorem ParseCond_any (s : ByteArray) (w : World) : Calls Try.prog 15 #[.string s] w (RetPV w (parseV s)) := by
  by_cases hs : s.size > 300
  · have E : parseV s = (zeroC, false) := by unfold parseV; rw [if_pos hs]
    rw [E]
    clear E
    have hs' : decide ((s.size : Int) > 300) = true := decide_eq_true (by omega)
    have HB := hide (belowAlloc w (.cells #[.int .i64 0, .int .i64 0, .int .i64 0, .int .i64 0, .slice none 0 0] 25))
    clear hs
    go_enter Try.func15, Try.ntmps15
    go_wp2_with fail
    refine bodyPost_ret (v := .tuple #[.agg #[.int .i64 0, .int .i64 0, .int .i64 0, .int .i64 0, .slice none 0 0], .bool false]) (by simp [results, Try.results15, go_sem]) rfl (RetPV.no HB.out)
  · have hs' : decide ((s.size : Int) > 300) = false := decide_eq_false (by omega)
    have EV : Hid (parseV s = if (pC 301 s.data.toList false).2.2 = false ∧ (pC 301 s.data.toList false).2.1 = [] ∧ fmtC (pC 301 s.data.toList false).1 = s then ((pC 301 s.data.toList false).1, true) else (zeroC, false)) := hide (by unfold parseV; rw [if_neg hs]; rfl)
    have hb1 := belowAlloc w (.cells #[.int .i64 0, .int .i64 0, .int .i64 0, .int .i64 0, .slice none 0 0] 25)
    have HB2 := hide (hb1.alloc hb1.size (.cells #[.string s, .bool false] 92))
    have HP : PS ((w.alloc (.cells #[.int .i64 0, .int .i64 0, .int .i64 0, .int .i64 0, .slice none 0 0] 25)).alloc (.cells #[.string s, .bool false] 92)) (w.heap.size + 1) s.data.toList false :=
      ⟨by simp, by rw [strB_toList]; simp [go_sem], by simp [go_sem], fun j => by simp [go_sem]⟩
    have hlen : s.data.toList.length < 301 := by
      have e : s.data.toList.length = s.size := Array.length_toList
      omega
    have HC := cond_any 301 (w.heap.size + 1) s.data.toList false _ HP hlen
    clear hlen
    rcases hP : pC 301 s.data.toList false with ⟨⟨o, t, q, x, ks⟩, l2, f2⟩
    rw [hP] at HC EV
    have HC : Hid (Calls Try.prog 72 _ _ (RetPCr _ (w.heap.size + 1) o t q x ks l2 f2)) := hide HC
    have HV : Hid (parseV s = if f2 = false ∧ l2 = [] ∧ fmtC (.mk o t q x ks) = s then (.mk o t q x ks, true) else (zeroC, false)) := EV
    clear hP EV HP hs hb1
    generalize parseV s = r at *
    go_enter Try.func15, Try.ntmps15
    go_wp2_with fail
    (with_reducible refine HC.out.mono ?_); rintro e w2 ⟨s2, rfl, own2, hp2, hg2⟩
    have hsz2 := hg2.size
    simp at hsz2
    have hx2 : w.heap.size < w2.heap.size := by omega
    have HBW := hide (HB2.out.trans (hg2.below (B := w.heap.size) (by omega) (by simp; omega)))
    obtain ⟨hc2, hf2⟩ := ocell hg2
    have hne : w.heap.size ≠ w.heap.size + 1 := by omega
    have q0 := (hc2 w.heap.size 0 (by simp; omega) hne).trans (by simp [go_sem] : _ = some (.int .i64 0))
    have q1 := (hc2 w.heap.size 1 (by simp; omega) hne).trans (by simp [go_sem] : _ = some (.int .i64 0))
    have q2 := (hc2 w.heap.size 2 (by simp; omega) hne).trans (by simp [go_sem] : _ = some (.int .i64 0))
    have q3 := (hc2 w.heap.size 3 (by simp; omega) hne).trans (by simp [go_sem] : _ = some (.int .i64 0))
    have q4 := (hc2 w.heap.size 4 (by simp; omega) hne).trans (by simp [go_sem] : _ = some (.slice none 0 0))
    have qf : ∀ j, w2.frozen? ⟨w.heap.size, j, none⟩ = false := fun j => (hf2 w.heap.size j (by simp; omega) hne).trans (by simp [go_sem])
    obtain ⟨hpl, c0, c1, cf⟩ := hp2
    have OWN := hide own2
    clear own2 hg2 hc2 hf2
    cases f2
    · cases l2 with
      | cons c l2 =>
        obtain rfl : r = (zeroC, false) := by rw [HV.out, if_neg (by simp)]
        have hi := strB_ne c l2
        generalize strB (c :: l2) = s3 at *
        go_wp2_with fail
        refine bodyPost_ret (v := .tuple #[.agg #[.int .i64 0, .int .i64 0, .int .i64 0, .int .i64 0, .slice none 0 0], .bool false]) (by simp [results, Try.results15, go_sem, q0, q1, q2, q3, q4, hx2]) rfl (RetPV.no ((((((HBW.out.setCell (Nat.le_refl _) _).setCell (Nat.le_refl _) _).setCell (Nat.le_refl _) _).setCell (Nat.le_refl _) _).setCell (Nat.le_refl _) _).alloc (by simp; omega) _))
      | nil =>
        rw [strB_nil] at c0
        have hb4 := belowAlloc w2 (.cells #[.int .i64 o, .int .i64 t, .int .i64 q, .int .i64 x, .slice s2.a s2.n s2.cap] 25)
        have HF := hide (FormatCond_any o t q x ks s2.a s2.n s2.cap _ ((OWN.out.keepB hb4).rep.low (Nat.zero_le _)))
        by_cases hfm : fmtC (.mk o t q x ks) = s
        · obtain rfl : r = (.mk o t q x ks, true) := by rw [HV.out, if_pos ⟨rfl, rfl, hfm⟩]
          rw [hfm] at HF
          clear hfm HV
          go_wp2_with fail
          (with_reducible refine HF.out.mono ?_); rintro e w5 ⟨rfl, hb5⟩
          have hb6 := hb4.trans (hb5.mono hb4.size)
          obtain ⟨bl, x0, x1, x2, x3, x4⟩ := (BoxC.new w2 o t q x s2.a s2.n s2.cap 25).below hb5
          have r0 := (hb6.cell (p := ⟨w.heap.size, 0, none⟩) hx2).trans q0
          have r1 := (hb6.cell (p := ⟨w.heap.size, 1, none⟩) hx2).trans q1
          have r2 := (hb6.cell (p := ⟨w.heap.size, 2, none⟩) hx2).trans q2
          have r3 := (hb6.cell (p := ⟨w.heap.size, 3, none⟩) hx2).trans q3
          have r4 := (hb6.cell (p := ⟨w.heap.size, 4, none⟩) hx2).trans q4
          have rf : ∀ j, w5.frozen? ⟨w.heap.size, j, none⟩ = false := fun j => (hb6.frozen (p := ⟨w.heap.size, j, none⟩) hx2).trans (qf j)
          have hx5 : w.heap.size < w5.heap.size := Nat.lt_of_lt_of_le hx2 hb6.size
          have HB5 := hide (HBW.out.trans (hb6.mono (by omega)))
          have OWN5 := hide (OWN.out.keepB hb6)
          clear q0 q1 q2 q3 q4 qf hb5 hb6
          go_wp2_with fail
          refine bodyPost_ret (v := .tuple #[.agg #[.int .i64 o, .int .i64 t, .int .i64 q, .int .i64 x, .slice s2.a s2.n s2.cap], .bool true]) (by simp [results, Try.results15, go_sem, r0, r1, r2, r3, r4]) rfl ⟨o, t, q, x, ks, s2, rfl, rfl, (((((OWN5.out.setOut (g := w.heap.size) (by simp; omega) _ _).setOut (g := w.heap.size) (by simp; omega) _ _).setOut (g := w.heap.size) (by simp; omega) _ _).setOut (g := w.heap.size) (by simp; omega) _ _).setOut (g := w.heap.size) (by simp; omega) _ _).wide (by simp; omega) (by simp; omega), (((((HB5.out.setCell (Nat.le_refl _) _).setCell (Nat.le_refl _) _).setCell (Nat.le_refl _) _).setCell (Nat.le_refl _) _).setCell (Nat.le_refl _) _)⟩
        · obtain rfl : r = (zeroC, false) := by rw [HV.out, if_neg (fun h => hfm h.2.2)]
          generalize fmtC (.mk o t q x ks) = tx at *
          have hnt : (tx.toList == s.toList) = false := bytes_ne hfm
          go_wp2_with fail
          (with_reducible refine HF.out.mono ?_); rintro e w5 ⟨rfl, hb5⟩
          have hb6 := hb4.trans (hb5.mono hb4.size)
          obtain ⟨bl, x0, x1, x2, x3, x4⟩ := (BoxC.new w2 o t q x s2.a s2.n s2.cap 25).below hb5
          have r0 := (hb6.cell (p := ⟨w.heap.size, 0, none⟩) hx2).trans q0
          have r1 := (hb6.cell (p := ⟨w.heap.size, 1, none⟩) hx2).trans q1
          have r2 := (hb6.cell (p := ⟨w.heap.size, 2, none⟩) hx2).trans q2
          have r3 := (hb6.cell (p := ⟨w.heap.size, 3, none⟩) hx2).trans q3
          have r4 := (hb6.cell (p := ⟨w.heap.size, 4, none⟩) hx2).trans q4
          have rf : ∀ j, w5.frozen? ⟨w.heap.size, j, none⟩ = false := fun j => (hb6.frozen (p := ⟨w.heap.size, j, none⟩) hx2).trans (qf j)
          have hx5 : w.heap.size < w5.heap.size := Nat.lt_of_lt_of_le hx2 hb6.size
          have HB5 := hide (HBW.out.trans (hb6.mono (by omega)))
          have OWN5 := hide (OWN.out.keepB hb6)
          clear q0 q1 q2 q3 q4 qf hb5 hb6
          go_wp2_with fail
          refine bodyPost_ret (v := .tuple #[.agg #[.int .i64 0, .int .i64 0, .int .i64 0, .int .i64 0, .slice none 0 0], .bool false]) (by simp [results, Try.results15, go_sem, r0, r1, r2, r3, r4]) rfl (RetPV.no (((((HB5.out.setCell (Nat.le_refl _) _).setCell (Nat.le_refl _) _).setCell (Nat.le_refl _) _).setCell (Nat.le_refl _) _).setCell (Nat.le_refl _) _))
    · obtain rfl : r = (zeroC, false) := by rw [HV.out, if_neg (by simp)]
      go_wp2_with fail
      refine bodyPost_ret (v := .tuple #[.agg #[.int .i64 0, .int .i64 0, .int .i64 0, .int .i64 0, .slice none 0 0], .bool false]) (by simp [results, Try.results15, go_sem, q0, q1, q2, q3, q4, hx2]) rfl (RetPV.no ((((((HBW.out.setCell (Nat.le_refl _) _).setCell (Nat.le_refl _) _).setCell (Nat.le_refl _) _).setCell (Nat.le_refl _) _).setCell (Nat.le_refl _) _).alloc (by simp; omega) _))

end Go.Proofs.Ytpnmphfdfadlcaa
