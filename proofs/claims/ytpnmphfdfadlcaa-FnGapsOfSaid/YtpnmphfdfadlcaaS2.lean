/-
  The program's count of the instructions of a kind. Condition: bounds on lengths.
-/
import Derived.Test.YtpnmphfdfadlcaaF6
namespace Go.Proofs.Ytpnmphfdfadlcaa
open Go.RowKit

/-- How many of the first k instructions of a row are of the kind; of the first j rows of a program. -/
def opsRow (o : Int) (r : List Ins) (k : Nat) : Nat := ((r.take k).filter fun x => x.op == o).length
def opsTo (o : Int) (p : List (List Ins)) (j : Nat) : Nat := ((p.take j).map fun r => opsRow o r r.length).sum
def opsV (o : Int) (p : List (List Ins)) : Nat := if progValid p = true then opsTo o p p.length else 0

theorem opsRow_succ {o : Int} {r : List Ins} {k : Nat} {x : Ins} (h : r[k]? = some x) : opsRow o r (k + 1) = opsRow o r k + if x.op == o then 1 else 0 := by
  unfold opsRow
  rw [List.take_add_one, h, List.filter_append, List.length_append]
  simp only [Option.toList_some]
  split <;> rename_i h <;> simp [h]
theorem opsRow_le (o : Int) (r : List Ins) (k : Nat) : opsRow o r k ≤ r.length := by
  unfold opsRow
  exact Nat.le_trans (List.length_filter_le _ _) (by simp; omega)
theorem opsTo_succ {o : Int} {p : List (List Ins)} {j : Nat} {r : List Ins} (h : p[j]? = some r) : opsTo o p (j + 1) = opsTo o p j + opsRow o r r.length := by
  unfold opsTo
  rw [List.take_add_one, h, List.map_append, List.sum_append]
  simp
theorem opsTo_le (o : Int) (p : List (List Ins)) : ∀ j, opsTo o p j ≤ p.flatten.length := by
  intro j
  have h : ∀ q : List (List Ins), ((q.map fun r => opsRow o r r.length).sum) ≤ q.flatten.length := by
    intro q
    induction q with
    | nil => simp
    | cons r q ih =>
      have := opsRow_le o r r.length
      simp only [List.map_cons, List.sum_cons, List.flatten_cons, List.length_append]; omega
  unfold opsTo
  refine Nat.le_trans (h _) ?_
  have e : p.flatten.length = (p.take j).flatten.length + (p.drop j).flatten.length := by
    rw [← List.length_append, ← List.flatten_append, List.take_append_drop]
  omega

set_option maxHeartbeats 800000 in
theorem CountOps_any (v : Value) (p : List (List Ins)) (o : Int) (w : World) (hp : RepP w v p) (hl : p.flatten.length ≤ 1048576) :
    Calls Try.prog 53 #[v, .int .i64 o] w fun e w' => e = .returned (.int .i64 (opsV o p : Nat)) ∧ Below w.heap.size w w' := by
  have HV := hide (ProgramValid_any v p w hp hl)
  unfold opsV
  by_cases hv : progValid p = true
  · rw [if_pos hv]
    rw [hv] at HV
    obtain ⟨a, c, rfl, hc1, hc2, hc3, hp⟩ := hp.open
    have HP := hide hp; clear hp hv
    have HL := hide (opsTo_le o p)
    have HL2 := hide hl
    have hlen := HL2.out
    generalize hn : p.length = n at *
    have H := hide hn; clear hn
    go_enter Try.func53, Try.ntmps53
    go_wp2_with fail
    (with_reducible refine HV.out.mono ?_); rintro e w1 ⟨rfl, hb1⟩
    go_wp2_with fail
    go_loopw [5, 15] (fun s i wr => ∃ j : Nat, j ≤ n ∧ i = .int .i64 j ∧ s = .int .i64 (opsTo o p j : Nat) ∧ Below w.heap.size w wr) (fun _ i _ => n - (intOf i).toNat)
    case atStart => exact ⟨0, by omega, rfl, by simp [opsTo], hb1⟩
    case round =>
      obtain ⟨j, hj, rfl, rfl, hb2⟩ := hrel
      by_cases hlt : j < n
      · obtain ⟨x, hxk⟩ := get_of_lt (xs := p) (k := j) (by rw [H.out]; exact hlt)
        obtain ⟨b, o1, ra, rc, rfl, hbl, i0, i1⟩ := (HP.out.below hb2).row hxk
        obtain ⟨_, _, _, _, hr2, _, _⟩ := i1.open
        have hlt' := nat_of_lt hlt
        have TS := hide (opsTo_succ (o := o) hxk)
        have hxl := Nat.le_trans (row_le_flatten hxk) HL2.out
        have I1 := hide i1; clear i1 hxk
        have hS := HL.out j
        have hRl := hide (opsRow_le o x)
        generalize opsTo o p j = S at *
        go_wp2_with fail
        go_loopw [5, 21] (fun s i wr2 => ∃ k : Nat, k ≤ x.length ∧ i = .int .i64 k ∧ s = .int .i64 (S + opsRow o x k : Nat) ∧ Below wr.heap.size wr wr2) (fun _ i _ => x.length - (intOf i).toNat)
        case atStart => exact ⟨0, by omega, rfl, by simp [opsRow], Below.refl _ _⟩
        case round =>
          obtain ⟨k, hk, rfl, rfl, hb3⟩ := hrel
          by_cases hlt2 : k < x.length
          · obtain ⟨y, hyk⟩ := get_of_lt (xs := x) (k := k) hlt2
            obtain ⟨b2, o2, rfl, hbl2, j0, j1, j2, j3⟩ := (I1.out.below hb3).ins hyk
            have hlt2' := nat_of_lt hlt2
            have RS := hide (opsRow_succ (o := o) hyk)
            have hR := hRl.out k
            clear hyk
            have hSb : S ≤ 1048576 := by omega
            have hRb : opsRow o x k ≤ 1048576 := by omega
            generalize opsRow o x k = R at *
            by_cases ho : y.op = o
            · have ho' : (y.op == o) = true := by simp [ho]
              have RS2 : Hid (opsRow o x (k + 1) = R + 1) := hide (by rw [RS.out, if_pos ho'])
              clear ho
              go_wp2_with fail
              go_roundw
              case rel => exact ⟨k + 1, by omega, by go_num, by rw [RS2.out]; go_num, hb3.alloc hb3.size _⟩
              case measure => simp [intOf]; omega
            · have ho' : (y.op == o) = false := by simp [ho]
              have RS2 : Hid (opsRow o x (k + 1) = R) := hide (by rw [RS.out, ho']; simp)
              clear ho
              go_wp2_with fail
              go_roundw
              case rel => exact ⟨k + 1, by omega, by go_num, by rw [RS2.out], hb3.alloc hb3.size _⟩
              case measure => simp [intOf]; omega
          · have e : k = x.length := by omega
            subst e
            go_wp2_with fail
            go_roundw
            case rel => exact ⟨j + 1, by omega, by go_num, by rw [TS.out], hb2.trans (hb3.mono hb2.size)⟩
            case measure => simp [intOf]; omega
      · have e : j = n := by omega
        subst e
        go_wp2_with fail
        go_ret
        exact ⟨rfl, hb2⟩
  · have hv' : progValid p = false := by simpa using hv
    rw [if_neg hv]
    rw [hv'] at HV
    clear hv hv' hp
    go_enter Try.func53, Try.ntmps53
    go_wp2_with fail
    (with_reducible refine HV.out.mono ?_); rintro e w1 ⟨rfl, hb1⟩
    go_wp2_with fail
    go_ret
    exact ⟨rfl, hb1⟩

end Go.Proofs.Ytpnmphfdfadlcaa
