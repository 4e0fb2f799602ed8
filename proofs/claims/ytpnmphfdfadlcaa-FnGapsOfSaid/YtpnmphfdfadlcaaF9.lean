/-
  GapsOf, of the program and of the reference; the law FnExactGapsOf.
-/
import Derived.Test.YtpnmphfdfadlcaaF8
import Derived.Test.YtpnmphfdfadlcaaP3
namespace Go.Proofs.Ytpnmphfdfadlcaa
open Go.RowKit

def gapsV (p : List (List Ins)) : List Gp := if progValid p = true then gapsP p else []

set_option maxHeartbeats 400000 in
theorem GapsOf_any (v : Value) (p : List (List Ins)) (w : World) (hp : RepP w v p) (hl : p.flatten.length ≤ 1048576) :
    Calls Try.prog 55 #[v] w (RetOwn GapE 70 w (gapsV p)) := by
  have GV : Hid (gapsV p = if progValid p = true then gapsP p else []) := hide rfl
  have HP := hide hp; clear hp
  have HV := hide (fun w' h => ProgramValid_any v p w' h hl)
  have HG := hide (fun w' h => gaps_any v p w' h hl)
  generalize hb : progValid p = b at *
  clear hb
  cases b
  · go_enter Try.func55, Try.ntmps55
    go_wp2_with (go_at_call 26; (with_reducible refine (HV.out _ HP.out).mono ?_); rintro e w1 ⟨rfl, hb1⟩)
    go_ret
    rw [GV.out]
    exact ⟨_, rfl, Own.nil _ _ _, hb1⟩
  · go_enter Try.func55, Try.ntmps55
    go_wp2_with (first | (go_at_call 26; (with_reducible refine (HV.out _ HP.out).mono ?_); rintro e w1 ⟨rfl, hb1⟩) | (go_at_call 103; (with_reducible refine (HG.out _ (HP.out.below hb1)).mono ?_); rintro e w2 ⟨u, rfl, hu, hb2⟩))
    go_ret
    rw [GV.out]
    exact ⟨_, rfl, hu.mono hb1.size, Below.next hb1 hb2⟩

set_option maxHeartbeats 400000 in
theorem sGapsOf_any (v : Value) (p : List (List Ins)) (w : World) (hp : RepP w v p) (hl : p.flatten.length ≤ 1048576) (hpl : p.length ≤ 1048576) :
    Calls Try.prog 57 #[v] w (RetOwn GapE 70 w (gapsV p)) := by
  have GV : Hid (gapsV p = if progValid p = true then gapsP p else []) := hide rfl
  have HP := hide hp; clear hp
  have HV := hide (fun w' h => sProgramValid_any v p w' h hl hpl)
  have HG := hide (fun w' h => l9Gaps_any v p w' h hl)
  generalize hb : progValid p = b at *
  clear hb
  cases b
  · go_enter Try.func57, Try.ntmps57
    go_wp2_with (go_at_call 84; (with_reducible refine (HV.out _ HP.out).mono ?_); rintro e w1 ⟨rfl, hb1⟩)
    go_ret
    rw [GV.out]
    exact ⟨_, rfl, Own.empty _ _ hb1.size, hb1.alloc hb1.size _⟩
  · go_enter Try.func57, Try.ntmps57
    go_wp2_with (first | (go_at_call 84; (with_reducible refine (HV.out _ HP.out).mono ?_); rintro e w1 ⟨rfl, hb1⟩) | (go_at_call 98; (with_reducible refine (HG.out _ (HP.out.below hb1)).mono ?_); rintro e w2 ⟨u, rfl, hu, hb2⟩))
    go_ret
    rw [GV.out]
    exact ⟨_, rfl, hu.mono hb1.size, Below.next hb1 hb2⟩

theorem gapsV_length (p : List (List Ins)) (hl : p.flatten.length ≤ 1048576) : (gapsV p).length ≤ 1048576 := by
  unfold gapsV
  split
  · unfold gapsP
    have := gapsTo_length p p.length (Nat.le_refl _)
    rw [List.take_length] at this
    omega
  · simp

end Go.Proofs.Ytpnmphfdfadlcaa
