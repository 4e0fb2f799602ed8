/-
  The program's relation of conflicts. Condition: bounds on lengths.
-/
import Derived.Test.YtpnmphfdfadlcaaE5
import Derived.Test.YtpnmphfdfadlcaaE3
import Derived.Test.YtpnmphfdfadlcaaF15
namespace Go.Proofs.Ytpnmphfdfadlcaa
open Go.RowKit

set_option maxRecDepth 100000 in
set_option maxHeartbeats 3200000 in
theorem conflictRel_1 (B1 B2 : Nat) (la pa : Option Addr) (lc pc : Nat) (p : List (List Ins)) (w0 : World) (h1 : w0.cell? ⟨B1, 0, none⟩ = some (.slice la (evAll p).length lc)) (h2 : w0.cell? ⟨B2, 0, none⟩ = some (.slice pa p.length pc))
    (hL : Rep EvE w0 (.slice la (evAll p).length lc) (evAll p)) (hP : RepP w0 (.slice pa p.length pc) p) : TestsP_conf ⟨B1, 0, none⟩ ⟨B2, 0, none⟩ (evAll p).length (confB (evAll p)) w0 := by
  intro i k w hi hk hb
  have q1 := (hb.cell (p := ⟨B1, 0, none⟩) (lt_of_cell h1)).trans h1
  have q2 := (hb.cell (p := ⟨B2, 0, none⟩) (lt_of_cell h2)).trans h2
  have HP := hide (hP.below hb)
  obtain ⟨a, ha⟩ := get_of_lt hi
  obtain ⟨b, hbb⟩ := get_of_lt hk
  obtain ⟨d, o, rfl, hd, i0, i1, i2, i3, i4⟩ := (hL.below hb).ev ha
  obtain ⟨d', o', hde, hd', j0, j1, j2, j3, j4⟩ := (hL.below hb).ev hbb
  simp only [Option.some.injEq, Addr.mk.injEq, and_true] at hde
  obtain ⟨rfl, rfl⟩ := hde
  have hB1 := lt_of_cell q1
  have hB2 := lt_of_cell q2
  have CE := hide (confB_eq ha hbb)
  have MA := hide (mem_evAll (List.mem_of_getElem? ha))
  have MB := hide (mem_evAll (List.mem_of_getElem? hbb))
  have hi' := nat_of_lt hi; have hk' := nat_of_lt hk
  clear ha hbb hL h1 h2 hb hP
  generalize confB (evAll p) i k = R at *
  generalize (evAll p).length = n at *
  go_enter Try.func164, Try.ntmps164
  go_wp2_with fail
  go_cut [7, 8] (fun s7 s8 W => ∃ b7 b8 : Nat, s7 = .pointer (some ⟨b7, 0, none⟩) ∧ s8 = .pointer (some ⟨b8, 0, none⟩) ∧ b7 < W.heap.size ∧ b8 < W.heap.size ∧
    W.cell? ⟨b7, 0, none⟩ = some (.int .i64 a.t) ∧ W.cell? ⟨b7, 1, none⟩ = some (.int .i64 a.i) ∧ W.cell? ⟨b8, 0, none⟩ = some (.int .i64 b.t) ∧ W.cell? ⟨b8, 1, none⟩ = some (.int .i64 b.i) ∧ Below w.heap.size w W)
  case first =>
    go_region_held3 (fun W => W.cell? ⟨B1, 0, none⟩ = some (.slice (some ⟨d, o, none⟩) n lc) ∧
      W.cell? ⟨d, o + i * 5, none⟩ = some (.int .i64 a.t) ∧ W.cell? ⟨d, o + i * 5 + 1, none⟩ = some (.int .i64 a.i) ∧ W.cell? ⟨d, o + i * 5 + 2, none⟩ = some (.int .i64 a.l) ∧ W.cell? ⟨d, o + i * 5 + 3, none⟩ = some (.bool a.r) ∧ W.cell? ⟨d, o + i * 5 + 4, none⟩ = some (.bool a.w) ∧
      W.cell? ⟨d, o + k * 5, none⟩ = some (.int .i64 b.t) ∧ W.cell? ⟨d, o + k * 5 + 1, none⟩ = some (.int .i64 b.i) ∧ W.cell? ⟨d, o + k * 5 + 2, none⟩ = some (.int .i64 b.l) ∧ W.cell? ⟨d, o + k * 5 + 3, none⟩ = some (.bool b.r) ∧ W.cell? ⟨d, o + k * 5 + 4, none⟩ = some (.bool b.w)) ((simp [go_sem, *])) (first | fail)
    all_goals
      go_wp2_with fail
      go_meet
      refine ⟨_, _, rfl, rfl, by first | (simp; done) | (simp; omega), by first | (simp; done) | (simp; omega), by simp [go_sem], by simp [go_sem], by simp [go_sem], by simp [go_sem], ?_⟩
      exact (((Below.refl _ _).alloc (Nat.le_refl _) _).alloc (by simp) _).drew
  case rest =>
    obtain ⟨b7, b8, rfl, rfl, hb7, hb8, m0, m1, n0, n1, hbW⟩ := hcut
    have c2 := (hbW.cell (p := ⟨B2, 0, none⟩) hB2).trans q2
    have hB2' : B2 < wc.heap.size := by have := hbW.size; omega
    have HPc := hide (HP.out.below hbW)
    have HBW := hide hbW
    clear hbW q1 q2 i0 i1 i2 i3 i4 j0 j1 j2 j3 j4
    rcases MA.out with ha | ⟨t, i1, r, x, hr, hx, rfl, hx4⟩
    · have g1 : decide (0 ≤ a.t) = false := by rw [ha]; rfl
      obtain rfl : R = false := by rw [CE.out, g1]; rfl
      clear ha
      go_wp2_with fail
      refine wp_region_bw (by kernel_rfl) (by kernel_rfl) ?_
      repeat (go_big_quiet_step (fail))
      refine wpQuiet_nil ?_
      intro w5 hb5
      go_wp2_with fail
      go_ret
      exact ⟨rfl, HBW.out.trans (hb5.mono HBW.out.size)⟩
    · rcases MB.out with hb | ⟨t', i1', r', x', hr', hx', rfl, hx4'⟩
      · have g2 : decide (0 ≤ b.t) = false := by rw [hb]; rfl
        obtain rfl : R = false := by rw [CE.out, g2]; simp
        clear hb
        go_wp2_with fail
        refine wp_region_bw (by kernel_rfl) (by kernel_rfl) ?_
        repeat (go_big_quiet_step (fail))
        refine wpQuiet_nil ?_
        intro w5 hb5
        go_wp2_with fail
        go_ret
        exact ⟨rfl, HBW.out.trans (hb5.mono HBW.out.size)⟩
      · by_cases htt : t = t'
        · have g3 : (((t : Nat) : Int) != ((t' : Nat) : Int)) = false := by simp [htt]
          obtain rfl : R = false := by rw [CE.out]; simp only; rw [g3]; simp
          clear htt
          go_wp2_with fail
          refine wp_region_bw (by kernel_rfl) (by kernel_rfl) ?_
          repeat (go_big_quiet_step (fail))
          refine wpQuiet_nil ?_
          intro w5 hb5
          go_wp2_with fail
          go_ret
          exact ⟨rfl, HBW.out.trans (hb5.mono HBW.out.size)⟩
        · have g3 : (((t : Nat) : Int) != ((t' : Nat) : Int)) = true := by simp; omega
          have E : Hid (R = conflictR x.op x.loc x'.op x'.loc) := hide (by rw [CE.out, conflictR_ev hx4 hx4']; simp only; rw [g3]; simp)
          obtain ⟨d0, e0, ra, rc, rfl, hd0, p0, p1⟩ := HPc.out.row hr
          obtain ⟨d1, e1, rfl, hd1, s0, s1, s2, s3⟩ := p1.ins hx
          obtain ⟨d2, e2, ra', rc', hd2e, hd2, p2, p3⟩ := HPc.out.row hr'
          simp only [Option.some.injEq, Addr.mk.injEq, and_true] at hd2e
          obtain ⟨rfl, rfl⟩ := hd2e
          obtain ⟨d3, e3, rfl, hd3, u0, u1, u2, u3⟩ := p3.ins hx'
          have v1 := nat_of_lt (List.getElem?_eq_some_iff.1 hr).1; have v2 := nat_of_lt (List.getElem?_eq_some_iff.1 hr').1
          have v3 := nat_of_lt (List.getElem?_eq_some_iff.1 hx).1; have v4 := nat_of_lt (List.getElem?_eq_some_iff.1 hx').1
          have v5 := (List.getElem?_eq_some_iff.1 hr).1; have v6 := (List.getElem?_eq_some_iff.1 hr').1
          have v7 := (List.getElem?_eq_some_iff.1 hx).1; have v8 := (List.getElem?_eq_some_iff.1 hx').1
          have HC := hide (fun w' => conflict_raw x.op x.loc x.reg x.val x'.op x'.loc x'.reg x'.val w')
          generalize conflictR x.op x.loc x'.op x'.loc = cf at *
          obtain rfl : R = cf := E.out
          clear hr hx hr' hx' p1 p3 htt hx4 hx4'
          generalize p.length = np at *
          go_wp2_with fail
          refine wp_region_bw (by kernel_rfl) (by kernel_rfl) ?_
          repeat (go_big_quiet_step ((go_at_call 95; (with_reducible exact Calls.bw (HC.out _)))))
          refine wpQuiet_nil ?_
          intro w5 hb5
          go_wp2_with fail
          go_ret
          exact ⟨rfl, HBW.out.trans (hb5.mono HBW.out.size)⟩

end Go.Proofs.Ytpnmphfdfadlcaa
