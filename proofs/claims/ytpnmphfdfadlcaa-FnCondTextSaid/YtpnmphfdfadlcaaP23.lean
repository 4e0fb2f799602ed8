/-
  ParseCond of the reference. No condition.
-/
import Derived.Test.YtpnmphfdfadlcaaP22
namespace Go.Proofs.Ytpnmphfdfadlcaa
open Go.RowKit

theorem sP_descs : ∀ (d : Nat) (l : List UInt8) (i : Int), descs (sP d l i).1.kids + 2 ≤ 2 ^ (d + 1) := by
  intro d
  induction d with
  | zero => intro l i; exact (by decide : descs [] + 2 ≤ 2 ^ 1)
  | succ d ih =>
    intro l i
    have hp : 2 ^ (d + 1 + 1) = 2 * 2 ^ (d + 1) := by rw [Nat.pow_succ]; omega
    have hq : 2 ≤ 2 ^ (d + 1) := by have := ih l i; omega
    have hz : descs [] = 0 := rfl
    rw [hp]
    unfold sP
    simp only
    split
    · show descs [] + 2 ≤ _; omega
    · split
      · have h1 := ih l (i + 1)
        simp only [Cd.kids, descs_cons, hz]
        simp only [Cd.kids] at h1
        omega
      · split
        · split
          · show descs [] + 2 ≤ _; omega
          · split
            · show descs [] + 2 ≤ _; omega
            · have h1 := ih l (i + 1)
              have h2 := ih l ((sP d l (i + 1)).2 + 1)
              simp only [Cd.kids, descs_cons, hz]
              simp only [Cd.kids] at h1 h2
              omega
        · split
          · split
            · show descs [] + 2 ≤ _; omega
            · show descs [] + 2 ≤ _; omega
          · split
            · show descs [] + 2 ≤ _; omega
            · show descs [] + 2 ≤ _; omega

set_option maxRecDepth 100000 in
set_option maxHeartbeats 1600000 in
theorem sParseCond_any (s : ByteArray) (w : World) : Calls Try.prog 21 #[.string s] w (RetPV w (parseV s)) := by
  by_cases hs : s.size > 300
  · have E : parseV s = (zeroC, false) := by unfold parseV; rw [if_pos hs]
    rw [E]
    clear E
    have hs' : decide ((s.size : Int) > 300) = true := decide_eq_true (by omega)
    have HB := hide (belowAlloc w (.cells #[.int .i64 0, .int .i64 0, .int .i64 0, .int .i64 0, .slice none 0 0] 25))
    clear hs
    go_enter Try.func21, Try.ntmps21
    go_wp2_with fail
    refine bodyPost_ret (v := .tuple #[.agg #[.int .i64 0, .int .i64 0, .int .i64 0, .int .i64 0, .slice none 0 0], .bool false]) (by simp [results, Try.results21, go_sem]) rfl (RetPV.no HB.out)
  · have hs' : decide ((s.size : Int) > 300) = false := decide_eq_false (by omega)
    have EV : Hid (parseV s = if s.size ≠ 0 ∧ (sP 10 s.data.toList 0).2 = (s.size : Int) ∧ fmtC (sP 10 s.data.toList 0).1 = s then ((sP 10 s.data.toList 0).1, true) else (zeroC, false)) := hide (by unfold parseV; rw [if_neg hs, ← parse_eq]; rfl)
    have hb1 := belowAlloc w (.cells #[.int .i64 0, .int .i64 0, .int .i64 0, .int .i64 0, .slice none 0 0] 25)
    have HB1 := hide hb1
    have HD := sP_descs 10 s.data.toList 0
    have HC : Hid (Calls Try.prog 81 #[.string s, .int .i64 0, .int .i64 10] _ (RetSP _ (sP 10 s.data.toList 0))) := hide (parse_any 10 (by omega) s 0 (w.alloc (.cells #[.int .i64 0, .int .i64 0, .int .i64 0, .int .i64 0, .slice none 0 0] 25)) (by omega))
    generalize parseV s = r at *
    generalize sP 10 s.data.toList 0 = rr at *
    obtain ⟨c, a2⟩ := rr
    simp only at EV
    clear hs hb1
    go_enter Try.func21, Try.ntmps21
    go_wp2_with fail
    (with_reducible refine HC.out.mono ?_); rintro e w2 ⟨o, t, q, x, ks, s2, rfl, rfl, own2, hb2⟩
    have q0 := (hb2.cell (p := ⟨w.heap.size, 0, none⟩) (by simp)).trans (by simp [go_sem] : _ = some (.int .i64 0))
    have q1 := (hb2.cell (p := ⟨w.heap.size, 1, none⟩) (by simp)).trans (by simp [go_sem] : _ = some (.int .i64 0))
    have q2 := (hb2.cell (p := ⟨w.heap.size, 2, none⟩) (by simp)).trans (by simp [go_sem] : _ = some (.int .i64 0))
    have q3 := (hb2.cell (p := ⟨w.heap.size, 3, none⟩) (by simp)).trans (by simp [go_sem] : _ = some (.int .i64 0))
    have q4 := (hb2.cell (p := ⟨w.heap.size, 4, none⟩) (by simp)).trans (by simp [go_sem] : _ = some (.slice none 0 0))
    have qf : ∀ j, w2.frozen? ⟨w.heap.size, j, none⟩ = false := fun j => (hb2.frozen (p := ⟨w.heap.size, j, none⟩) (by simp)).trans (by simp [go_sem])
    have hz2 := hb2.size
    simp at hz2
    have hx2 : w.heap.size < w2.heap.size := by omega
    have HBW := hide (HB1.out.trans (hb2.mono (by simp)))
    have OWN : Hid (OwnC 25 w2 (w.heap.size + 1) w2.heap.size s2 ks) := hide (by simpa using own2)
    clear own2 hb2 HB1 HC
    by_cases he : s.size = 0
    · have hse : s.toList.isEmpty = true := by
        rw [ByteArray.toList_eq]
        have : s.data.toList.length = 0 := he
        rw [List.eq_nil_of_length_eq_zero this]; rfl
      obtain rfl : r = (zeroC, false) := by rw [EV.out, if_neg (fun h => h.1 he)]
      clear EV he
      go_wp2_with fail
      refine bodyPost_ret (v := .tuple #[.agg #[.int .i64 0, .int .i64 0, .int .i64 0, .int .i64 0, .slice none 0 0], .bool false]) (by simp [results, Try.results21, go_sem, q0, q1, q2, q3, q4, hx2]) rfl (RetPV.no ((((((HBW.out.setCell (Nat.le_refl _) _).setCell (Nat.le_refl _) _).setCell (Nat.le_refl _) _).setCell (Nat.le_refl _) _).setCell (Nat.le_refl _) _).alloc (by simp; omega) _))
    · have hse : s.toList.isEmpty = false := by
        rw [ByteArray.toList_eq]
        cases hl : s.data.toList with
        | nil => exact absurd (show s.size = 0 by have e : s.data.toList.length = s.size := Array.length_toList
                                                  rw [← e, hl]; rfl) he
        | cons _ _ => rfl
      by_cases ha : a2 = (s.size : Int)
      · have ht : (a2 != (s.size : Int)) = false := by simp [ha]
        have hb4 := belowAlloc w2 (.cells #[.int .i64 o, .int .i64 t, .int .i64 q, .int .i64 x, .slice s2.a s2.n s2.cap] 25)
        have HF := hide (FormatCondS_any o t q x ks s2.a s2.n s2.cap _ ((OWN.out.keepB hb4).rep.low (Nat.zero_le _)) (by simp only [Cd.kids] at HD; omega))
        by_cases hfm : fmtC (.mk o t q x ks) = s
        · obtain rfl : r = (.mk o t q x ks, true) := by rw [EV.out, if_pos ⟨he, ha, hfm⟩]
          rw [hfm] at HF
          clear hfm EV ha he
          go_wp2_with fail
          (with_reducible refine HF.out.mono ?_); rintro e w5 ⟨rfl, hb5⟩
          have hb6 := hb4.trans (hb5.mono hb4.size)
          obtain ⟨bl, x0, x1, x2, x3, x4⟩ := (BoxC.new w2 o t q x s2.a s2.n s2.cap 25).below hb5
          have r0 := (hb6.cell (p := ⟨w.heap.size, 0, none⟩) hx2).trans q0
          have r1 := (hb6.cell (p := ⟨w.heap.size, 1, none⟩) hx2).trans q1
          have r2 := (hb6.cell (p := ⟨w.heap.size, 2, none⟩) hx2).trans q2
          have r3 := (hb6.cell (p := ⟨w.heap.size, 3, none⟩) hx2).trans q3
          have r4 := (hb6.cell (p := ⟨w.heap.size, 4, none⟩) hx2).trans q4
          have rf : ∀ j, w5.frozen? ⟨w.heap.size, j, none⟩ = false := fun j => (hb6.frozen (p := ⟨w.heap.size, j, none⟩) hx2).trans (qf j)
          have hx5 : w.heap.size < w5.heap.size := Nat.lt_of_lt_of_le hx2 hb6.size
          have HB5 := hide (HBW.out.trans (hb6.mono (by omega)))
          have OWN5 := hide (OWN.out.keepB hb6)
          clear q0 q1 q2 q3 q4 qf hb5 hb6
          go_wp2_with fail
          refine bodyPost_ret (v := .tuple #[.agg #[.int .i64 o, .int .i64 t, .int .i64 q, .int .i64 x, .slice s2.a s2.n s2.cap], .bool true]) (by simp [results, Try.results21, go_sem, r0, r1, r2, r3, r4]) rfl ⟨o, t, q, x, ks, s2, rfl, rfl, ((((((OWN5.out.setOut (g := w.heap.size) (by simp) _ _).setOut (g := w.heap.size) (by simp) _ _).setOut (g := w.heap.size) (by simp) _ _).setOut (g := w.heap.size) (by simp) _ _).setOut (g := w.heap.size) (by simp) _ _)).wide (by simp) (by simp; omega), (((((HB5.out.setCell (Nat.le_refl _) _).setCell (Nat.le_refl _) _).setCell (Nat.le_refl _) _).setCell (Nat.le_refl _) _).setCell (Nat.le_refl _) _)⟩
        · obtain rfl : r = (zeroC, false) := by rw [EV.out, if_neg (fun h => hfm h.2.2)]
          generalize fmtC (.mk o t q x ks) = tx at *
          have hnt : (tx.toList == s.toList) = false := bytes_ne hfm
          clear ha he EV
          go_wp2_with fail
          (with_reducible refine HF.out.mono ?_); rintro e w5 ⟨rfl, hb5⟩
          have hb6 := hb4.trans (hb5.mono hb4.size)
          obtain ⟨bl, x0, x1, x2, x3, x4⟩ := (BoxC.new w2 o t q x s2.a s2.n s2.cap 25).below hb5
          have r0 := (hb6.cell (p := ⟨w.heap.size, 0, none⟩) hx2).trans q0
          have r1 := (hb6.cell (p := ⟨w.heap.size, 1, none⟩) hx2).trans q1
          have r2 := (hb6.cell (p := ⟨w.heap.size, 2, none⟩) hx2).trans q2
          have r3 := (hb6.cell (p := ⟨w.heap.size, 3, none⟩) hx2).trans q3
          have r4 := (hb6.cell (p := ⟨w.heap.size, 4, none⟩) hx2).trans q4
          have rf : ∀ j, w5.frozen? ⟨w.heap.size, j, none⟩ = false := fun j => (hb6.frozen (p := ⟨w.heap.size, j, none⟩) hx2).trans (qf j)
          have hx5 : w.heap.size < w5.heap.size := Nat.lt_of_lt_of_le hx2 hb6.size
          have HB5 := hide (HBW.out.trans (hb6.mono (by omega)))
          have OWN5 := hide (OWN.out.keepB hb6)
          clear q0 q1 q2 q3 q4 qf hb5 hb6
          go_wp2_with fail
          refine bodyPost_ret (v := .tuple #[.agg #[.int .i64 0, .int .i64 0, .int .i64 0, .int .i64 0, .slice none 0 0], .bool false]) (by simp [results, Try.results21, go_sem, r0, r1, r2, r3, r4]) rfl (RetPV.no (((((HB5.out.setCell (Nat.le_refl _) _).setCell (Nat.le_refl _) _).setCell (Nat.le_refl _) _).setCell (Nat.le_refl _) _).setCell (Nat.le_refl _) _))
      · have ht : (a2 != (s.size : Int)) = true := by simp [ha]
        obtain rfl : r = (zeroC, false) := by rw [EV.out, if_neg (fun h => ha h.2.1)]
        clear ha he EV
        go_wp2_with fail
        refine bodyPost_ret (v := .tuple #[.agg #[.int .i64 0, .int .i64 0, .int .i64 0, .int .i64 0, .slice none 0 0], .bool false]) (by simp [results, Try.results21, go_sem, q0, q1, q2, q3, q4, hx2]) rfl (RetPV.no ((((((HBW.out.setCell (Nat.le_refl _) _).setCell (Nat.le_refl _) _).setCell (Nat.le_refl _) _).setCell (Nat.le_refl _) _).setCell (Nat.le_refl _) _).alloc (by simp; omega) _))

end Go.Proofs.Ytpnmphfdfadlcaa
