/-
  DropFences of the reference. Condition: bounds on lengths.
-/
import Derived.Test.YtkgkgmalgilabaaF13
namespace Go.Proofs.Ytkgkgmalgilabaa
open Go.RowKit

theorem dropI_succ {x : List Ins} {t : Nat} {y : Ins} (h : x[t]? = some y) : dropI (x.take (t + 1)) = dropI (x.take t) ++ if y.op = 4 then [] else [y] := by
  unfold dropI
  rw [List.take_add_one, h, List.filter_append]
  by_cases e : y.op = 4 <;> simp [isFence, e]

set_option maxRecDepth 100000 in
set_option maxHeartbeats 800000 in
theorem l9Drop_any (v : Value) (p : List (List Ins)) (w : World) (hp : RepP w v p) (hl : p.length ≤ 1048576) (hl2 : ∀ r ∈ p, r.length ≤ 1048576) :
    Calls Try.prog 94 #[v] w (RetOwn2 InsE 86 103 w (dropP p)) := by
  obtain ⟨a, c, rfl, hc1, hc2, hc3, hp⟩ := hp.open
  have HP := hide hp; clear hp
  have HL2 := hide hl2; clear hl2
  generalize hn : p.length = n at *
  have H := hide hn; clear hn
  go_enter Try.func94, Try.ntmps94
  go_wp2_with fail
  go_loopw [3, 4] (fun s i wr => ∃ j : Nat, j ≤ n ∧ i = .int .i64 j ∧ OwnP wr w.heap.size s (dropP (p.take j)) ∧ Below w.heap.size w wr) (fun _ i _ => n - (intOf i).toNat)
  case atStart => exact ⟨0, by omega, rfl, by simpa [dropP] using Own2.empty _ _ w (Nat.le_refl _), (Below.refl _ _).alloc (Nat.le_refl _) _⟩
  case round =>
    obtain ⟨j, hj, rfl, ho, hb⟩ := hrel
    by_cases hlt : j < n
    · obtain ⟨wm, rfl⟩ : ∃ wm : World, wm = wr := ⟨_, rfl⟩
      obtain ⟨x, hxk⟩ := get_of_lt (xs := p) (k := j) (by rw [H.out]; exact hlt)
      obtain ⟨b, o, ra, rc, rfl, hbl, i0, i1⟩ := HP.out.row hxk
      have hlt' := nat_of_lt hlt
      have hxl := HL2.out x (List.mem_of_getElem? hxk)
      have DS : Hid (dropP (p.take (j + 1)) = dropP (p.take j) ++ [dropI x]) := hide (by unfold dropP; rw [List.take_add_one, hxk]; simp)
      have hdl : (dropP (p.take j)).length ≤ 1048576 := by unfold dropP; simp; omega
      have IW := hide i0; have I1 := hide i1; have X := hide hxk
      have i0 := (hb.cell (p := ⟨b, o + j, none⟩) hbl).trans i0
      clear hxk i1
      generalize hD : dropP (p.take j) = D at *
      clear hD
      obtain ⟨us, hU, -⟩ := ho.told
      have HU := hide hU; have HO := hide ho
      clear hU ho
      go_wp2_with fail
      go_loopw [5, 6] (fun s i wr => ∃ t : Nat, t ≤ x.length ∧ i = .int .i64 t ∧ OwnI wr wm.heap.size s (dropI (x.take t)) ∧ Below wm.heap.size wm wr) (fun _ i _ => x.length - (intOf i).toNat)
      case atStart => exact ⟨0, by omega, rfl, by simpa [dropI] using Own.empty _ wm (Nat.le_refl _), (Below.refl _ _).alloc (Nat.le_refl _) _⟩
      case round =>
        obtain ⟨t, ht, rfl, hr, hb3⟩ := hrel
        have hbw := hb.trans (hb3.mono hb.size)
        have i0w := (hbw.cell (p := ⟨b, o + j, none⟩) hbl).trans IW.out
        by_cases hlt3 : t < x.length
        · obtain ⟨y, hyk⟩ := get_of_lt (xs := x) (k := t) hlt3
          obtain ⟨b', o', rfl, hbl', j0, j1, j2, j3⟩ := (I1.out.below hbw).ins hyk
          have hlt3' := nat_of_lt hlt3
          have ST := hide (dropI_succ hyk)
          have hil : (dropI (x.take t)).length ≤ 68719476736 := by have := dropI_length (x.take t); simp at this; omega
          have Y := hide hyk; clear hyk
          generalize hI : dropI (x.take t) = L at *
          clear hI
          by_cases h4 : y.op = 4
          · have g4 : (y.op != 4) = false := by simp [h4]
            have ST2 : Hid (dropI (x.take (t + 1)) = L) := hide (by have h := ST.out; rw [if_pos h4] at h; simpa using h)
            clear h4 ST
            go_wp2_with fail
            go_roundw
            case rel => exact ⟨t + 1, by omega, by go_num, by rw [ST2.out]; exact hr, hb3⟩
            case measure => simp [intOf]; omega
          · have g4 : (y.op != 4) = true := by simp [h4]
            have ST2 : Hid (dropI (x.take (t + 1)) = L ++ [y]) := hide (by have h := ST.out; rwa [if_neg h4] at h)
            clear h4 ST
            go_wp2_with (at_builtin; refine wpList_app InsE 103 Try.infoIns rfl Try.underlying86 wm.heap.size _ L y (hr.alloc _) (by decide) hil (by have := hb3.size; simp; omega) rfl _ _ rfl rfl wr.heap.size 0 1 rfl news_alloc ?_; intro v' w1 hown1 hgr1)
            have hb4 := below_app hb3 hr hgr1
            go_roundw
            case rel => exact ⟨t + 1, by omega, by go_num, by rw [ST2.out]; exact hown1, hb4⟩
            case measure => simp [intOf]; omega
        · have e : t = x.length := by omega
          rw [e, List.take_length] at hr
          obtain ⟨s, rfl, -⟩ := hr.toSlc
          have hub : us.length ≤ 68719476736 := by have := HU.out.1; omega
          go_wp2_with (at_builtin; refine wpList_app SlcE 86 Try.infoInsS rfl Try.underlying49 w.heap.size _ us s ((HU.out.2.1.below hb3).alloc _) (by decide) hub (by simp; have := hb.size; have := hb3.size; omega) rfl _ _ rfl rfl wr.heap.size 0 1 rfl news_alloc ?_; intro v' w3 hown3 hgr3)
          have ho2 := (HU.out).app (by decide) (hb3.trans ((Below.refl _ _).alloc hb3.size _)) hb.size (hr.alloc _) hown3 hgr3
          rw [← DS.out] at ho2
          have hb5 := below_app hbw (HU.out.2.1.below hb3) hgr3
          go_roundw
          case rel => exact ⟨j + 1, by omega, by go_num, ho2, hb5⟩
          case measure => simp [intOf]; omega
    · go_wp2_with fail
      go_ret
      rw [List.take_of_length_le (by rw [H.out]; omega)] at ho
      exact ⟨_, rfl, ho, hb⟩

set_option maxHeartbeats 400000 in
theorem sDropFences_any (v : Value) (p : List (List Ins)) (w : World) (hp : RepP w v p) (hl : p.flatten.length ≤ 1048576) (hpl : p.length ≤ 1048576) :
    Calls Try.prog 52 #[v] w (RetOwn2B InsE 86 103 w (dropV p) (progValid p)) := by
  have HP := hide hp; clear hp
  have HV := hide (fun w' h => sProgramValid_any v p w' h hl hpl)
  have E2 : Hid (dropV p = if progValid p = true then dropP p else []) := hide rfl
  generalize hb : progValid p = b at *
  have B := hide hb; clear hb
  cases b
  · go_enter Try.func52, Try.ntmps52
    go_wp2_with (go_at_call 73; (with_reducible refine (HV.out _ HP.out).mono ?_); rintro e w1 ⟨rfl, hb1⟩)
    go_ret2
    rw [E2.out]
    exact ⟨_, rfl, Own2.empty _ _ _ hb1.size, hb1.alloc hb1.size _⟩
  · have HR := hide (row_of_valid B.out)
    go_enter Try.func52, Try.ntmps52
    go_wp2_with (first | (go_at_call 73; (with_reducible refine (HV.out _ HP.out).mono ?_); rintro e w1 ⟨rfl, hb1⟩) | (go_at_call 94; (with_reducible refine (l9Drop_any v p _ (HP.out.below hb1) hpl HR.out).mono ?_); rintro e w2 ⟨u, rfl, hu, hb2⟩))
    go_ret2
    rw [E2.out]
    exact ⟨_, rfl, hu.mono hb1.size, Below.next hb1 hb2⟩

end Go.Proofs.Ytkgkgmalgilabaa
