/-
  Which outcomes are valid, in the program and in the reference. No condition but bounds on lengths.
-/
import Derived.Test.YtpnmphfdfadlcaaN2
import Derived.Test.YtpnmphfdfadlcaaF6
namespace Go.Proofs.Ytpnmphfdfadlcaa
open Go.RowKit

/-- What the function value does, wherever it is called. -/
def TestsN_i_OutcomeValid_1 (f : Int → Bool) : Prop := ∀ (x : Int) (w : World), Calls Try.prog 147 #[.int .i64 x] w fun e w' => e = .returned (.bool (f x)) ∧ Below w.heap.size w w'

set_option maxHeartbeats 400000 in
theorem IndexFuncN_i_OutcomeValid_1 (v : Value) (xs : List Int) (f : Int → Bool) (w : World) (hx : Rep IntE w v xs) (hf : TestsN_i_OutcomeValid_1 f) :
    Calls Try.prog 210 #[v, .func (.func 147) #[] #[]] w fun e w' => (∃ q : Int, e = .returned (.int .i64 q) ∧ IdxOf f xs q) ∧ Below w.heap.size w w' := by
  obtain ⟨a, c, rfl, hc1, hc2, hc3, hx⟩ := hx.open
  have HX := hide hx; clear hx
  have HF := hide hf; clear hf
  generalize hn : xs.length = n at *
  have H := hide hn; clear hn
  go_enter Try.func210, Try.ntmps210
  go_wp2_with fail
  go_loopw [8] (fun i wr => ∃ t : Nat, t ≤ n ∧ i = .int .i64 t ∧ Hid (∀ x ∈ xs.take t, f x = false) ∧ Below w.heap.size w wr) (fun i _ => n - (intOf i).toNat)
  case atStart => exact ⟨0, Nat.zero_le _, rfl, hide (by simp), Below.refl _ _⟩
  case round =>
    obtain ⟨t, ht, rfl, hno, hb⟩ := hrel
    by_cases hlt : t < n
    · obtain ⟨x, hxk⟩ := get_of_lt (xs := xs) (k := t) (by rw [H.out]; exact hlt)
      obtain ⟨b, o, rfl, hbl, i0⟩ := (HX.out.below hb).int hxk
      have hlt' := nat_of_lt hlt
      have X := hide hxk; clear hxk
      generalize hfx : f x = fx
      have FX := hide hfx; clear hfx
      have hcall := HF.out x
      rw [FX.out] at hcall
      have HC := hide hcall; clear hcall
      cases fx
      · have NO : Hid (∀ x ∈ xs.take (t + 1), f x = false) := hide (none_succ hno.out X.out FX.out)
        go_wp2_with fail
        (with_reducible refine (HC.out _).mono ?_); rintro e w2 ⟨rfl, hb2⟩
        go_wp2_with fail
        go_roundw
        case rel => exact ⟨t + 1, by omega, by go_num, NO, hb.trans (hb2.mono hb.size)⟩
        case measure => simp [intOf]; omega
      · go_wp2_with fail
        (with_reducible refine (HC.out _).mono ?_); rintro e w2 ⟨rfl, hb2⟩
        go_wp2_with fail
        go_ret
        exact ⟨⟨_, rfl, .inr ⟨t, x, rfl, X.out, FX.out, hno.out⟩⟩, hb.trans (hb2.mono hb.size)⟩
    · go_wp2_with fail
      go_ret
      refine ⟨⟨_, rfl, .inl ⟨rfl, ?_⟩⟩, hb⟩
      have h := hno.out
      rwa [List.take_of_length_le (by rw [H.out]; omega)] at h

theorem ContainsFuncN_i_OutcomeValid_1 (v : Value) (xs : List Int) (f : Int → Bool) (w : World) (hx : Rep IntE w v xs) (hf : TestsN_i_OutcomeValid_1 f) :
    Calls Try.prog 146 #[v, .func (.func 147) #[] #[]] w fun e w' => e = .returned (.bool (xs.any f)) ∧ Below w.heap.size w w' := by
  have HI := hide (IndexFuncN_i_OutcomeValid_1 v xs f w hx hf)
  obtain ⟨a, c, rfl, -⟩ := hx.open
  clear hx hf
  go_enter Try.func146, Try.ntmps146
  go_wp2_with fail
  (with_reducible refine HI.out.mono ?_); rintro e w1 ⟨⟨q, rfl, hq⟩, hb1⟩
  have E : Hid (decide (0 ≤ q) = xs.any f) := hide hq.any
  clear hq
  go_wp2_with fail
  go_ret
  exact ⟨by rw [← E.out]; rfl, hb1⟩

theorem OutcomeValid_1 : TestsN_i_OutcomeValid_1 (fun x => !inB x 0 3) := by
  intro x w
  have HC := hide (fun w' => within_any x 0 3 w')
  show Calls _ _ _ _ fun e w' => e = .returned (.bool (!inB x 0 3)) ∧ _
  generalize inB x 0 3 = R at *
  go_enter Try.func147, Try.ntmps147
  go_wp2_with (go_at_call 86; (with_reducible refine (HC.out _).mono ?_); rintro e w1 ⟨rfl, rfl⟩)
  go_ret
  exact ⟨rfl, Below.refl _ _⟩

def outValid (p : List (List Ins)) (o : List Int) : Bool := progValid p && (decide (o.length = 3 * p.length + 3) && o.all fun x => inB x 0 3)

set_option maxHeartbeats 800000 in
theorem OutcomeValid_any (v v' : Value) (p : List (List Ins)) (o : List Int) (w : World) (hp : RepP w v p) (ho : Rep IntE w v' o) (hl : p.flatten.length ≤ 1048576) (hpl : p.length ≤ 1048576) :
    Calls Try.prog 69 #[v, v'] w fun e w' => e = .returned (.bool (outValid p o)) ∧ Below w.heap.size w w' := by
  have HP := hide hp; have HO := hide ho
  have HV := hide (ProgramValid_any v p w hp hl)
  have HC := hide (fun w' h => ContainsFuncN_i_OutcomeValid_1 v' o _ w' h OutcomeValid_1)
  obtain ⟨a, c, rfl, hc1, hc2, hc3, -⟩ := hp.open
  obtain ⟨a', c', rfl, hc1', hc2', hc3', -⟩ := ho.open
  have E : Hid (outValid p o = (progValid p && (decide (o.length = 3 * p.length + 3) && o.all fun x => inB x 0 3))) := hide rfl
  have EA : Hid ((o.any fun x => !inB x 0 3) = !(o.all fun x => inB x 0 3)) := hide (by rw [List.not_all_eq_any_not])
  clear hp ho
  generalize outValid p o = R at *
  generalize progValid p = b at *
  generalize (o.any fun x => !inB x 0 3) = A at *
  generalize (o.all fun x => inB x 0 3) = D at *
  generalize p.length = n at *
  generalize o.length = m at *
  cases b
  · obtain rfl : R = false := by rw [E.out]; rfl
    go_enter Try.func69, Try.ntmps69
    go_wp2_with fail
    (with_reducible refine HV.out.mono ?_); rintro e w1 ⟨rfl, hb1⟩
    go_wp2_with fail
    go_ret
    exact ⟨rfl, hb1⟩
  · by_cases hm : m = 3 * n + 3
    · have E2 : Hid (R = !A) := hide (by rw [E.out, EA.out, hm]; simp)
      have hm' : ((m : Int) == 3 * (n : Int) + 2 + 1) = true := by simp; omega
      clear hm
      go_enter Try.func69, Try.ntmps69
      go_wp2_with fail
      (with_reducible refine HV.out.mono ?_); rintro e w1 ⟨rfl, hb1⟩
      go_wp2_with fail
      (with_reducible refine (HC.out _ (HO.out.below hb1)).mono ?_); rintro e w2 ⟨rfl, hb2⟩
      go_wp2_with fail
      go_ret
      exact ⟨by rw [E2.out]; rfl, hb1.trans (hb2.mono hb1.size)⟩
    · obtain rfl : R = false := by rw [E.out]; simp [hm]
      have hm' : ((m : Int) == 3 * (n : Int) + 2 + 1) = false := by simp; omega
      clear hm
      go_enter Try.func69, Try.ntmps69
      go_wp2_with fail
      (with_reducible refine HV.out.mono ?_); rintro e w1 ⟨rfl, hb1⟩
      go_wp2_with fail
      go_ret
      exact ⟨rfl, hb1⟩

theorem l3Size_any (a : Option Addr) (n c : Nat) (w : World) (hn : n ≤ 1048576) : Calls Try.prog 118 #[.slice a n c] w fun e w' => e = .returned (.int .i64 (3 * n + 3)) ∧ w = w' := by
  go_enter Try.func118, Try.ntmps118
  go_wp2_with fail
  go_ret
  refine ⟨congrArg Ending.returned (congrArg (Value.int .i64) ?_), rfl⟩
  omega

set_option maxHeartbeats 800000 in
theorem sOutcomeValid_any (v v' : Value) (p : List (List Ins)) (o : List Int) (w : World) (hp : RepP w v p) (ho : Rep IntE w v' o) (hl : p.flatten.length ≤ 1048576) (hpl : p.length ≤ 1048576) :
    Calls Try.prog 114 #[v, v'] w fun e w' => e = .returned (.bool (outValid p o)) ∧ Below w.heap.size w w' := by
  have HP := hide hp; have HO := hide ho
  have HV := hide (sProgramValid_any v p w hp hl hpl)
  obtain ⟨a, c, rfl, hc1, hc2, hc3, -⟩ := hp.open
  obtain ⟨a', c', rfl, hc1', hc2', hc3', -⟩ := ho.open
  have E : Hid (outValid p o = (progValid p && (decide (o.length = 3 * p.length + 3) && o.all fun x => inB x 0 3))) := hide rfl
  have HZ := hide (fun w' => l3Size_any a p.length c w' hpl)
  clear hp ho
  generalize outValid p o = R at *
  generalize progValid p = b at *
  generalize p.length = n at *
  generalize hm : o.length = m at *
  have H := hide hm; clear hm
  cases b
  · obtain rfl : R = false := by rw [E.out]; rfl
    go_enter Try.func114, Try.ntmps114
    go_wp2_with fail
    (with_reducible refine HV.out.mono ?_); rintro e w1 ⟨rfl, hb1⟩
    go_wp2_with fail
    go_ret
    exact ⟨rfl, hb1⟩
  · by_cases hm : m = 3 * n + 3
    · have E2 : Hid (R = o.all fun x => inB x 0 3) := hide (by rw [E.out, hm]; simp)
      have hm' : ((m : Int) != 3 * (n : Int) + 3) = false := by simp; omega
      clear hm
      go_enter Try.func114, Try.ntmps114
      go_wp2_with fail
      (with_reducible refine HV.out.mono ?_); rintro e w1 ⟨rfl, hb1⟩
      go_wp2_with fail
      (with_reducible refine (HZ.out _).mono ?_); rintro e w2 ⟨rfl, rfl⟩
      go_wp2_with fail
      clear hm'
      go_loopw [5] (fun i wr => ∃ t : Nat, t ≤ m ∧ i = .int .i64 t ∧ Hid (∀ x ∈ o.take t, inB x 0 3 = true) ∧ Below w.heap.size w wr) (fun i _ => m - (intOf i).toNat)
      case atStart => exact ⟨0, Nat.zero_le _, rfl, hide (by simp), hb1⟩
      case round =>
        obtain ⟨t, ht, rfl, hno, hb⟩ := hrel
        by_cases hlt : t < m
        · obtain ⟨x, hxk⟩ := get_of_lt (xs := o) (k := t) (by rw [H.out]; exact hlt)
          obtain ⟨b, o1, rfl, hbl, i0⟩ := (HO.out.below hb).int hxk
          have hlt' := nat_of_lt hlt
          have X := hide hxk; clear hxk
          have HC := hide (fun w' => l1In_any x 3 w')
          generalize hfx : inB x 0 3 = fx at *
          have FX := hide hfx; clear hfx
          cases fx
          · obtain rfl : R = false := by
              rw [E2.out, List.all_eq_false]
              exact ⟨x, List.mem_of_getElem? X.out, by rw [FX.out]; simp⟩
            go_wp2_with fail
            (with_reducible refine (HC.out _).mono ?_); rintro e w2 ⟨rfl, rfl⟩
            go_wp2_with fail
            go_ret
            exact ⟨rfl, hb⟩
          · have NO : Hid (∀ x ∈ o.take (t + 1), inB x 0 3 = true) := hide (by
              intro y hy
              rw [List.take_add_one, X.out] at hy
              simp at hy
              rcases hy with hy | rfl
              · exact hno.out y hy
              · exact FX.out)
            go_wp2_with fail
            (with_reducible refine (HC.out _).mono ?_); rintro e w2 ⟨rfl, rfl⟩
            go_wp2_with fail
            go_roundw
            case rel => exact ⟨t + 1, by omega, by go_num, NO, hb⟩
            case measure => simp [intOf]; omega
        · obtain rfl : R = true := by
            rw [E2.out, List.all_eq_true]
            have h := hno.out
            rwa [List.take_of_length_le (by rw [H.out]; omega)] at h
          go_wp2_with fail
          go_ret
          exact ⟨rfl, hb⟩
    · obtain rfl : R = false := by rw [E.out]; simp [hm]
      have hm' : ((m : Int) != 3 * (n : Int) + 3) = true := by simp; omega
      clear hm
      go_enter Try.func114, Try.ntmps114
      go_wp2_with fail
      (with_reducible refine HV.out.mono ?_); rintro e w1 ⟨rfl, hb1⟩
      go_wp2_with fail
      (with_reducible refine (HZ.out _).mono ?_); rintro e w2 ⟨rfl, rfl⟩
      go_wp2_with fail
      go_ret
      exact ⟨rfl, hb1⟩

end Go.Proofs.Ytpnmphfdfadlcaa
