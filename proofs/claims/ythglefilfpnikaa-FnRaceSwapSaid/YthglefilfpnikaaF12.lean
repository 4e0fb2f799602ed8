/-
  SwapStores of the reference. Condition: bounds on lengths.
-/
import Derived.Test.YthglefilfpnikaaF11
namespace Go.Proofs.Ythglefilfpnikaa
open Go.RowKit

set_option maxRecDepth 100000 in
set_option maxHeartbeats 1600000 in
theorem sSwapStores_any (v : Value) (p : List (List Ins)) (reg : Int) (w : World) (hp : RepP w v p) (hl : p.flatten.length ≤ 1048576) (hpl : p.length ≤ 1048576) :
    Calls Try.prog 14 #[v, .int .i64 reg] w (RetOwn2B InsE 33 32 w (swapV p reg) (swapOk p reg)) := by
  have HP := hide hp; clear hp
  have HV := hide (fun w' h => sProgramValid_any v p w' h hl hpl)
  generalize hb : progValid p = b at *
  have B := hide hb; clear hb
  generalize hr : inB reg 0 2 = rb at *
  have R := hide hr; clear hr
  cases b
  · have E1 : Hid (swapOk p reg = false) := hide (by unfold swapOk; rw [B.out]; rfl)
    have E2 : Hid (swapV p reg = []) := hide (by unfold swapV; rw [E1.out]; rfl)
    go_enter Try.func14, Try.ntmps14
    go_wp2_with (go_at_call 42; (with_reducible refine (HV.out _ HP.out).mono ?_); rintro e w1 ⟨rfl, hb1⟩)
    go_ret2
    rw [E1.out, E2.out]
    exact ⟨_, rfl, Own2.empty _ _ _ hb1.size, hb1.alloc hb1.size _⟩
  · cases rb
    · have E1 : Hid (swapOk p reg = false) := hide (by unfold swapOk; rw [B.out, R.out]; rfl)
      have E2 : Hid (swapV p reg = []) := hide (by unfold swapV; rw [E1.out]; rfl)
      go_enter Try.func14, Try.ntmps14
      go_wp2_with (first | (go_at_call 42; (with_reducible refine (HV.out _ HP.out).mono ?_); rintro e w1 ⟨rfl, hb1⟩) | (go_at_call 48; (with_reducible refine (l1In_any _ _ _).mono ?_); rw [R.out]; rintro e w2 ⟨rfl, rfl⟩))
      go_ret2
      rw [E1.out, E2.out]
      exact ⟨_, rfl, Own2.empty _ _ _ hb1.size, hb1.alloc hb1.size _⟩
    · obtain ⟨hv1, hv2, -, -, -⟩ := valid_le B.out
      have HR := hide (row_of_valid B.out)
      have E1 : Hid (swapOk p reg = progValid (swapP reg p)) := hide (by unfold swapOk; rw [B.out, R.out]; rfl)
      have E2 : Hid (swapV p reg = if progValid (swapP reg p) = true then swapP reg p else []) := hide (by unfold swapV; rw [E1.out])
      generalize hn : p.length = n at *
      have H := hide hn; clear hn
      go_enter Try.func14, Try.ntmps14
      go_wp2_with (first | (go_at_call 42; (with_reducible refine (HV.out _ HP.out).mono ?_); rintro e w1 ⟨rfl, hb1⟩) | (go_at_call 48; (with_reducible refine (l1In_any _ _ _).mono ?_); rw [R.out]; rintro e w2 ⟨rfl, rfl⟩))
      go_wp2_with fail
      (with_reducible refine (l1Copy_any v p w1 (HP.out.below hb1) (by rw [H.out]; omega) HR.out).mono ?_); rintro e w2 ⟨u, rfl, hu, hb2⟩
      have hb2 := Below.next hb1 hb2
      obtain ⟨us, hU, -⟩ := hu.told
      have hul := hU.1
      rcases hU.2.1.shape with ⟨-, h0⟩ | ⟨g, cap, rfl, hg1, hg2, hc1, hc2⟩
      · exfalso; rw [h0, H.out] at hul; simp at hul; omega
      · have hln : us.length = n := hul.trans H.out
        rw [hln] at hU hc1 ⊢
        clear hu hul
        have HU := hide hU; clear hU
        go_wp2_with fail
        go_loopw [7] (fun i wr => ∃ j : Nat, j ≤ n ∧ i = .int .i64 j ∧ Own2U InsE 33 32 us wr w1.heap.size (.slice (some ⟨g, 0, none⟩) n cap) (mapPre (List.map (swapI reg)) j p) ∧ Below w.heap.size w wr) (fun i _ => n - (intOf i).toNat)
        case atStart => exact ⟨0, by omega, rfl, by rw [mapPre_zero]; exact HU.out, hb2⟩
        case round =>
          obtain ⟨j, hj, rfl, ho, hb⟩ := hrel
          by_cases hlt : j < n
          · obtain ⟨x, hxk⟩ := get_of_lt (xs := p) (k := j) (by rw [H.out]; exact hlt)
            have hlt' := nat_of_lt hlt
            obtain ⟨s, hs, hgl, f0, hrow, hback⟩ := ho.row (mapPre_get hxk)
            obtain ⟨sa, sn, sc⟩ := s
            have hsn := hrow.len
            have hxl := HR.out x (List.mem_of_getElem? hxk)
            have X := hide hxk; have BK := hide hback; have RW := hide hrow
            clear hxk hback hrow hs
            simp only at hsn
            subst hsn
            have hgne : some g ≠ Value.ownBlock (.slice sa x.length sc) := fun e => own_ne (by decide) ho.2.1 RW.out g e.symm rfl
            have HGN := hide hgne; clear hgne
            have hlo := RW.out.lo
            have HLO := hide hlo; clear hlo
            obtain ⟨wm, rfl⟩ : ∃ wm : World, wm = wr := ⟨_, rfl⟩
            go_wp2_with fail
            go_loopw [8] (fun i wr => ∃ t : Nat, t ≤ x.length ∧ i = .int .i64 t ∧ Own InsE 32 wr w1.heap.size (.slice sa x.length sc) (mapPre (swapI reg) t x) ∧ wm.grownBy wr (Value.ownBlock (.slice sa x.length sc))) (fun i _ => x.length - (intOf i).toNat)
            case atStart => exact ⟨0, by omega, rfl, by rw [mapPre_zero]; exact RW.out, World.grownBy.refl _ _⟩
            case round =>
              obtain ⟨t, ht, rfl, hr, hgr⟩ := hrel
              have f1 := hgr.cell f0 HGN.out
              have hglr : g < wr.heap.size := lt_of_cell f1
              by_cases hlt2 : t < x.length
              · obtain ⟨y, hyk⟩ := get_of_lt (xs := x) (k := t) hlt2
                have hlt2' := nat_of_lt hlt2
                rcases hr.shape with ⟨h0, -⟩ | ⟨g', cap', hv, -, -, -, -⟩
                · exfalso
                  simp only [Value.slice.injEq] at h0
                  omega
                · simp only [Value.slice.injEq] at hv
                  obtain ⟨rfl, -, -⟩ := hv
                  have hget := mapPre_get (f := swapI reg) hyk
                  have hgg : ¬ g = g' := fun e => HGN.out (by rw [e]; rfl)
                  have hgg' : ¬ g' = g := fun e => hgg e.symm
                  obtain ⟨hgl', k0, k1, k2, k3, hfr⟩ := hr.ins hget
                  have hset0 := hr.set (i := t) (j := 0) ⟨5, y.loc, y.reg, y.val⟩ (u := .int .i64 5) (by decide) hget rfl
                  have hset := hset0.set (i := t) (j := 2) ⟨5, y.loc, reg, y.val⟩ (u := .int .i64 reg) (by decide) (get_set_self hget _) rfl
                  simp only [List.set_set] at hset
                  clear hset0
                  have G := hide hget; have Y := hide hyk; have S := hide hset
                  clear hget hyk hset
                  by_cases h2 : y.op = 2
                  · have S2 := S.out
                    have e5 : swapI reg y = ⟨5, y.loc, reg, y.val⟩ := by unfold swapI; rw [if_pos h2]
                    rw [← e5, mapPre_set Y.out] at S2
                    clear e5
                    have S3 := hide S2; clear S2
                    rw [h2] at k0
                    clear S h2
                    go_wp2_with fail
                    go_roundw
                    case rel => exact ⟨t + 1, by omega, by go_num, S3.out, grown_set (grown_set hgr _ _) _ _⟩
                    case measure => simp [intOf]; omega
                  · have g2 : (y.op == 2) = false := by simpa using h2
                    have SM := hide (mapPre_same (f := swapI reg) Y.out (by unfold swapI; rw [if_neg h2]))
                    clear h2
                    go_wp2_with fail
                    go_roundw
                    case rel => exact ⟨t + 1, by omega, by go_num, by rw [SM.out]; exact hr, hgr⟩
                    case measure => simp [intOf]; omega
              · rw [mapPre_all (by omega)] at hr
                have hB := BK.out _ _ hr hgr
                rw [mapPre_set X.out] at hB
                have HB := hide hB; clear hB
                go_wp2_with fail
                go_roundw
                case rel => exact ⟨j + 1, by omega, by go_num, HB.out, hb.grown hgr hb.size (fun k hk => by have := (HLO.out k hk).1; have := hb1.size; omega)⟩
                case measure => simp [intOf]; omega
          · rw [mapPre_all (by rw [H.out]; omega)] at ho
            have HQ := hide (fun w' h => sProgramValid_any (.slice (some ⟨g, 0, none⟩) n cap) (swapP reg p) w' h (by rw [swapP_lengths]; exact hl) (by unfold swapP; rw [List.length_map, H.out]; exact hpl))
            generalize hvq : progValid (swapP reg p) = vq at *
            clear hvq
            have ho2 : Own2 InsE 33 32 wr w1.heap.size (.slice (some ⟨g, 0, none⟩) n cap) (swapP reg p) := ho.own
            cases vq
            · go_wp2_with (go_at_call 42; (with_reducible refine (HQ.out _ ho2.rep).mono ?_); rintro e w4 ⟨rfl, hb4⟩)
              go_ret2
              rw [E1.out, E2.out]
              exact ⟨_, rfl, Own2.empty _ _ _ (by have := hb.size; have := hb4.size; omega), (hb.trans (hb4.mono hb.size)).alloc (by have := hb.size; have := hb4.size; omega) _⟩
            · go_wp2_with (go_at_call 42; (with_reducible refine (HQ.out _ ho2.rep).mono ?_); rintro e w4 ⟨rfl, hb4⟩)
              go_ret2
              rw [E1.out, E2.out]
              exact ⟨_, rfl, (ho2.below hb4).mono hb1.size, hb.trans (hb4.mono hb.size)⟩

end Go.Proofs.Ythglefilfpnikaa
