/-
  The gaps of a program, as the program and the reference find them.
-/
import Derived.Test.YtpnmphfdfadlcaaF6
import Derived.Test.YtpnmphfdfadlcaaP2
namespace Go.Proofs.Ytpnmphfdfadlcaa
open Go.RowKit

theorem Try.infoGap : (Try.prog.info? 70).map (fun i => (i.zero, i.size, i.bytes)) = some (some (.agg #[.int .i64 0, .int .i64 0]), 2, 16) := by kernel_rfl
abbrev OwnG (w : World) (base : Nat) (v : Value) (xs : List Gp) : Prop := Own GapE 70 w base v xs

set_option maxRecDepth 100000 in
set_option maxHeartbeats 800000 in
theorem gaps_any (v : Value) (p : List (List Ins)) (w : World) (hp : RepP w v p) (hl : p.flatten.length ≤ 1048576) :
    Calls Try.prog 103 #[v] w (RetOwn GapE 70 w (gapsP p)) := by
  obtain ⟨a, c, rfl, hc1, hc2, hc3, hp⟩ := hp.open
  have HP := hide hp; clear hp
  have HL := hide hl; clear hl
  have PP : Hid (gapsP p = gapsTo p p.length) := hide rfl
  have HGL := hide (gapsTo_length p)
  generalize hn : p.length = n at *
  have H := hide hn; clear hn
  go_enter Try.func103, Try.ntmps103
  go_wp2_with fail
  go_loopw [3, 9] (fun s i wr => ∃ j : Nat, j ≤ n ∧ i = .int .i64 j ∧ OwnG wr w.heap.size s (gapsTo p j) ∧ Below w.heap.size w wr) (fun _ i _ => n - (intOf i).toNat)
  case atStart => exact ⟨0, by omega, rfl, World.ownsRow_nil _ _ _ _, Below.refl _ _⟩
  case round =>
    obtain ⟨j, hj, rfl, hown, hb2⟩ := hrel
    by_cases hlt2 : j < n
    · obtain ⟨wm, rfl⟩ : ∃ wm : World, wm = wr := ⟨_, rfl⟩
      obtain ⟨x, hxk⟩ := get_of_lt (xs := p) (k := j) (by rw [H.out]; exact hlt2)
      obtain ⟨b, o, ra, rc, rfl, hbl, i0, i1⟩ := HP.out.row hxk
      have i0 := (hb2.cell (p := ⟨b, o + j, none⟩) hbl).trans i0
      have hlt2' := nat_of_lt hlt2
      have GS := hide (gapsTo_succ hxk)
      have hgl := Nat.le_trans (HGL.out j hj) (Nat.le_trans (flatten_take_le p j) HL.out)
      have hxl := Nat.le_trans (row_le_flatten hxk) HL.out
      have I1 := hide i1; have X := hide hxk
      clear i1 hxk
      generalize hG : gapsTo p j = G at *
      clear hG
      have HO := hide hown; clear hown
      go_wp2_with fail
      go_loopw [3, 6] (fun s i wr => ∃ t : Nat, (t + 1 ≤ x.length ∨ t = 0) ∧ i = .int .i64 ((t : Int) + 1) ∧ OwnG wr w.heap.size s (G ++ rowGaps j x (t + 1)) ∧ Below w.heap.size w wr) (fun _ i _ => x.length - (intOf i).toNat)
      case atStart => exact ⟨0, .inr rfl, rfl, by rw [rowGaps_one, List.append_nil]; exact HO.out, hb2⟩
      case round =>
        obtain ⟨t, ht, rfl, hown, hb3⟩ := hrel
        by_cases hlt3 : t + 1 < x.length
        · obtain ⟨y, hyk⟩ := get_of_lt (xs := x) (k := t) (by omega)
          obtain ⟨z, hzk⟩ := get_of_lt (xs := x) (k := t + 1) hlt3
          obtain ⟨b', o', rfl, hbl', j0, j1, j2, j3⟩ := (I1.out.below hb3).ins hyk
          obtain ⟨b'', o'', e1, hbl'', k0, k1, k2, k3⟩ := (I1.out.below hb3).ins hzk
          simp only [Option.some.injEq, Addr.mk.injEq, and_true] at e1
          obtain ⟨rfl, rfl⟩ := e1
          have hlt3' : (t : Int) + 1 < x.length := by omega
          have ST := hide (rowGaps_step (t := j) hyk hzk)
          have hrl := rowGaps_length j x (t + 1)
          have YK := hide hyk; have ZK := hide hzk
          clear hyk hzk hbl''
          generalize hRG : rowGaps j x (t + 1) = RG at *
          clear hRG
          have hlen : (G ++ RG).length ≤ 68719476736 := by rw [List.length_append]; omega
          by_cases hy : y.op = 4
          · have g4 : (y.op != 4) = false := by simp [hy]
            have ST2 : Hid (rowGaps j x (t + 1 + 1) = RG) := hide (by have h := ST.out; rw [g4] at h; simpa using h)
            clear hy
            go_wp2_with fail
            go_roundw
            case rel => exact ⟨t + 1, by omega, by go_num, by rw [ST2.out]; exact hown, hb3⟩
            case measure => simp [intOf]; omega
          · have g4 : (y.op != 4) = true := by simp [hy]
            clear hy
            by_cases hz : z.op = 4
            · have g5 : (z.op != 4) = false := by simp [hz]
              have ST2 : Hid (rowGaps j x (t + 1 + 1) = RG) := hide (by have h := ST.out; rw [g4, g5] at h; simpa using h)
              clear hz
              go_wp2_with fail
              go_roundw
              case rel => exact ⟨t + 1, by omega, by go_num, by rw [ST2.out]; exact hown, hb3⟩
              case measure => simp [intOf]; omega
            · have g5 : (z.op != 4) = true := by simp [hz]
              have ST2 : Hid (rowGaps j x (t + 1 + 1) = RG ++ [⟨(j : Int), (t : Int) + 1⟩]) := hide (by have h := ST.out; rw [g4, g5] at h; simpa using h)
              clear hz
              go_wp2_with (at_builtin; refine wpList_app GapE 70 Try.infoGap rfl Try.underlying54 w.heap.size _ _ ⟨(j : Int), (t : Int) + 1⟩ (hown.alloc _) (by decide) hlen (by simp; have := hb3.size; omega) rfl _ _ rfl rfl wr.heap.size 0 1 rfl news_alloc ?_; intro v' w1 hown1 hgr1)
              have hb4 := below_app hb3 hown hgr1
              go_roundw
              case rel => exact ⟨t + 1, by omega, by go_num, by rw [ST2.out, ← List.append_assoc]; exact hown1, hb4⟩
              case measure => simp [intOf]; omega
        · have e : rowGaps j x (t + 1) = rowGaps j x x.length := by
            rcases ht with h | h
            · rw [show t + 1 = x.length by omega]
            · subst h
              rw [rowGaps_one]
              by_cases h0 : x.length = 0
              · rw [h0, rowGaps_zero]
              · rw [show x.length = 1 by omega, rowGaps_one]
          rw [e] at hown
          have hlt3' : (x.length : Int) ≤ (t : Int) + 1 := by omega
          go_wp2_with fail
          go_roundw
          case rel => exact ⟨j + 1, by omega, by go_num, by rw [GS.out]; exact hown, hb3⟩
          case measure => simp [intOf]; omega
    · have e : j = n := by omega
      go_wp2_with fail
      go_ret
      rw [PP.out, ← e]
      exact ⟨_, rfl, hown, hb2⟩

end Go.Proofs.Ytpnmphfdfadlcaa
