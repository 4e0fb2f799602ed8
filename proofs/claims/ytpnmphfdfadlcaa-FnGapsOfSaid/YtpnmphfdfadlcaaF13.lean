/-
  DropFences, of the program and of the reference. Condition: bounds on lengths.
-/
import Derived.Test.YtpnmphfdfadlcaaF11
import Derived.Test.YtpnmphfdfadlcaaSlI
namespace Go.Proofs.Ytpnmphfdfadlcaa
open Go.RowKit

def isFence (x : Ins) : Bool := x.op == 4
def dropI (r : List Ins) : List Ins := r.filter fun x => !isFence x
def dropP (p : List (List Ins)) : List (List Ins) := p.map dropI
def dropV (p : List (List Ins)) : List (List Ins) := if progValid p = true then dropP p else []

theorem dropI_length (r : List Ins) : (dropI r).length ≤ r.length := List.length_filter_le _ _

theorem dropP_flatten (p : List (List Ins)) : (dropP p).flatten.length ≤ p.flatten.length := by
  unfold dropP
  induction p with
  | nil => exact Nat.le_refl _
  | cons r p ih =>
    have := dropI_length r
    simp at ih ⊢; omega

theorem dropTest : Tests_i_DropFences_1 isFence := by
  intro x w
  obtain ⟨x0, x1, x2, x3⟩ := x
  go_enter Try.func132, Try.ntmps132
  go_wp2
  go_ret
  exact ⟨rfl, (Below.refl _ _).alloc (Nat.le_refl _) _⟩

set_option maxRecDepth 100000 in
set_option maxHeartbeats 800000 in
theorem DropFences_any (v : Value) (p : List (List Ins)) (w : World) (hp : RepP w v p) (hl : p.flatten.length ≤ 1048576) :
    Calls Try.prog 52 #[v] w (RetOwn2B InsE 73 72 w (dropV p) (progValid p)) := by
  have HP := hide hp; clear hp
  have HV := hide (fun w' h => ProgramValid_any v p w' h hl)
  have E2 : Hid (dropV p = if progValid p = true then dropP p else []) := hide rfl
  generalize hb : progValid p = b at *
  have B := hide hb; clear hb
  cases b
  · go_enter Try.func52, Try.ntmps52
    go_wp2_with (go_at_call 26; (with_reducible refine (HV.out _ HP.out).mono ?_); rintro e w1 ⟨rfl, hb1⟩)
    go_ret2
    rw [E2.out]
    exact ⟨_, rfl, Own2.nil _ _ _ _, hb1⟩
  · obtain ⟨hv1, hv2, -, -, -⟩ := valid_le B.out
    have HR := hide (row_of_valid B.out)
    generalize hn : p.length = n at *
    have H := hide hn; clear hn
    go_enter Try.func52, Try.ntmps52
    go_wp2_with fail
    (with_reducible refine (HV.out _ HP.out).mono ?_); rintro e w1 ⟨rfl, hb1⟩
    go_wp2_with fail
    (with_reducible refine (cloneProgram_any v p w1 (HP.out.below hb1) (by rw [H.out]; omega) HR.out).mono ?_); rintro e w2 ⟨u, rfl, hu, hb2⟩
    have hb2 := Below.next hb1 hb2
    obtain ⟨us, hU, -⟩ := hu.told
    have hul := hU.1
    rcases hU.2.1.shape with ⟨-, h0⟩ | ⟨g, cap, rfl, hg1, hg2, hc1, hc2⟩
    · exfalso; rw [h0, H.out] at hul; simp at hul; omega
    · have hln : us.length = n := hul.trans H.out
      rw [hln] at hU hc1 ⊢
      clear hu hul
      have HU := hide hU; clear hU
      go_wp2_with fail
      go_loopw [13] (fun i wr => ∃ j : Nat, j ≤ n ∧ i = .int .i64 j ∧ (∃ us, Own2U InsE 73 72 us wr w1.heap.size (.slice (some ⟨g, 0, none⟩) n cap) (mapPre dropI j p)) ∧ Below w.heap.size w wr) (fun i _ => n - (intOf i).toNat)
      case atStart => exact ⟨0, by omega, rfl, ⟨us, by rw [mapPre_zero]; exact HU.out⟩, hb2⟩
      case round =>
        obtain ⟨j, hj, rfl, ⟨us', ho⟩, hb⟩ := hrel
        by_cases hlt : j < n
        · obtain ⟨x, hxk⟩ := get_of_lt (xs := p) (k := j) (by rw [H.out]; exact hlt)
          have hlt' := nat_of_lt hlt
          obtain ⟨s, hs, hgl, f0, hrow, -⟩ := ho.row (mapPre_get hxk)
          have hxl := HR.out x (List.mem_of_getElem? hxk)
          have hlo := hrow.lo
          have hfrz := ho.2.1.frozen j
          have hgne : some g ≠ s.v.ownBlock := fun e => own_ne (by decide) ho.2.1 hrow g e.symm rfl
          have X := hide hxk; have HS := hide hs; have RW := hide hrow; have HLO := hide hlo; have HGN := hide hgne; have HO := hide ho
          clear hxk hs hrow hlo hgne ho
          have f1 : wr.cell? ⟨g, j, none⟩ = some s.v := f0
          go_wp2_with fail
          (with_reducible refine (DeleteFunc_i_DropFences_1 s.v x isFence wr w1.heap.size RW.out hxl dropTest).mono ?_); rintro e w3 ⟨v', rfl, ho3, hgr, hbk⟩
          obtain ⟨s', rfl, -⟩ := ho3.toSlc
          have f2 := hgr.cell f1 HGN.out
          have hfr2 : w3.frozen? ⟨g, j, none⟩ = false := (World.frozen?_of_block (w := wr) (hgr.block g hgl HGN.out)).trans hfrz
          have hgl3 : g < w3.heap.size := lt_of_cell f2
          have hput := HO.out.rowput HS.out ho3 hgr hbk
          have hput2 : Own2U InsE 73 72 (us'.set j s') (w3.setCell ⟨g, j, none⟩ s'.v) w1.heap.size (.slice (some ⟨g, 0, none⟩) n cap) (mapPre dropI (j + 1) p) := by
            rw [← mapPre_set X.out]; exact hput
          have hb3 := hb.grown hgr hb.size (fun k hk => by have := (HLO.out k hk).1; have := hb1.size; omega)
          have HP2 := hide hput2
          clear hput hput2 hbk f0 f1
          go_wp2_with fail
          go_roundw
          case rel => exact ⟨j + 1, by omega, by go_num, ⟨_, HP2.out⟩, hb3.setCell (by have := hb1.size; simp; omega) _⟩
          case measure => simp [intOf]; omega
        · rw [mapPre_all (by rw [H.out]; omega)] at ho
          go_wp2_with fail
          go_ret2
          rw [E2.out]
          exact ⟨_, rfl, (Own2.mono ho.own hb1.size), hb⟩

end Go.Proofs.Ytpnmphfdfadlcaa
