/-
  SwapStores, of the program and of the reference. Condition: bounds on lengths.
-/
import Derived.Test.YthglefilfpnikaaF10
namespace Go.Proofs.Ythglefilfpnikaa
open Go.RowKit

/-- The first k done by f. -/
def mapPre {α : Type} (f : α → α) (k : Nat) (xs : List α) : List α := (xs.take k).map f ++ xs.drop k

section
variable {α : Type} {f : α → α} {k : Nat} {xs : List α}
theorem mapPre_zero : mapPre f 0 xs = xs := by simp [mapPre]
theorem mapPre_all (h : xs.length ≤ k) : mapPre f k xs = xs.map f := by simp [mapPre, List.take_of_length_le h, List.drop_of_length_le h]
theorem mapPre_length : (mapPre f k xs).length = xs.length := by simp [mapPre]; omega
theorem mapPre_get {x : α} (h : xs[k]? = some x) : (mapPre f k xs)[k]? = some x := by
  have hk := (List.getElem?_eq_some_iff.1 h).1
  unfold mapPre
  rw [List.getElem?_append_right (by simp; omega), List.getElem?_drop]
  simp only [List.length_map, List.length_take]
  rw [Nat.min_eq_left (by omega), Nat.sub_self, Nat.add_zero, h]
theorem mapPre_set {x : α} (h : xs[k]? = some x) : (mapPre f k xs).set k (f x) = mapPre f (k + 1) xs := by
  have hk := (List.getElem?_eq_some_iff.1 h).1
  unfold mapPre
  rw [List.set_append_right _ _ (by simp; omega), List.drop_eq_getElem_cons hk]
  simp only [List.length_map, List.length_take]
  rw [Nat.min_eq_left (by omega), Nat.sub_self, List.set_cons_zero, List.take_add_one, h]
  simp
theorem mapPre_same {x : α} (h : xs[k]? = some x) (hf : f x = x) : mapPre f (k + 1) xs = mapPre f k xs := by
  rw [← mapPre_set h, hf]
  have hg := mapPre_get (f := f) h
  apply List.ext_getElem?
  intro i
  rw [List.getElem?_set]
  by_cases e : k = i
  · subst e; rw [if_pos rfl, if_pos (by rw [mapPre_length]; exact (List.getElem?_eq_some_iff.1 h).1), hg]
  · rw [if_neg e]
end

def swapI (reg : Int) (x : Ins) : Ins := if x.op = 2 then ⟨5, x.loc, reg, x.val⟩ else x
def swapP (reg : Int) (p : List (List Ins)) : List (List Ins) := p.map fun r => r.map (swapI reg)
def swapOk (p : List (List Ins)) (reg : Int) : Bool := progValid p && inB reg 0 2 && progValid (swapP reg p)
def swapV (p : List (List Ins)) (reg : Int) : List (List Ins) := if swapOk p reg = true then swapP reg p else []

theorem grown_alloc {w w' : World} {row : Option Nat} (h : w.grownBy w' row) (o : Obj) : w.grownBy (w'.alloc o) row :=
  ⟨h.os, h.tape, h.output, by have := h.size; simp; omega, fun q hq hne => (heap_alloc_old w' o (by have := h.size; omega)).trans (h.block q hq hne)⟩

/-- What a function that makes a program, or none, hands back. -/
def RetOwn2B {α : Type} (E : El α) (T1 T2 : TypeId) (w : World) (p : List (List α)) (b : Bool) (e : Ending) (w' : World) : Prop := ∃ v, e = .returned (.tuple #[v, .bool b]) ∧ Own2 E T1 T2 w' w.heap.size v p ∧ Below w.heap.size w w'

theorem swapP_lengths (reg : Int) (p : List (List Ins)) : (swapP reg p).flatten.length = p.flatten.length := by
  unfold swapP
  induction p with
  | nil => rfl
  | cons r p ih => simp at ih ⊢; omega

theorem row_of_valid {p : List (List Ins)} (h : progValid p = true) : ∀ r ∈ p, r.length ≤ 1048576 := fun r hr => by
  have := ((valid_le h).2.2.1 r hr).1; omega

set_option maxRecDepth 100000 in
set_option maxHeartbeats 1600000 in
theorem SwapStores_any (v : Value) (p : List (List Ins)) (reg : Int) (w : World) (hp : RepP w v p) (hl : p.flatten.length ≤ 1048576) :
    Calls Try.prog 13 #[v, .int .i64 reg] w (RetOwn2B InsE 33 32 w (swapV p reg) (swapOk p reg)) := by
  have HP := hide hp; clear hp
  have HV := hide (fun w' h => ProgramValid_any v p w' h hl)
  generalize hb : progValid p = b at *
  have B := hide hb; clear hb
  generalize hr : inB reg 0 2 = rb at *
  have R := hide hr; clear hr
  cases b
  · have E1 : Hid (swapOk p reg = false) := hide (by unfold swapOk; rw [B.out]; rfl)
    have E2 : Hid (swapV p reg = []) := hide (by unfold swapV; rw [E1.out]; rfl)
    go_enter Try.func13, Try.ntmps13
    go_wp2_with (go_at_call 33; (with_reducible refine (HV.out _ HP.out).mono ?_); rintro e w1 ⟨rfl, hb1⟩)
    go_ret2
    rw [E1.out, E2.out]
    exact ⟨_, rfl, Own2.nil _ _ _ _, hb1⟩
  · cases rb
    · have E1 : Hid (swapOk p reg = false) := hide (by unfold swapOk; rw [B.out, R.out]; rfl)
      have E2 : Hid (swapV p reg = []) := hide (by unfold swapV; rw [E1.out]; rfl)
      go_enter Try.func13, Try.ntmps13
      go_wp2_with (first | (go_at_call 33; (with_reducible refine (HV.out _ HP.out).mono ?_); rintro e w1 ⟨rfl, hb1⟩) | (go_at_call 46; (with_reducible refine (within_any _ _ _ _).mono ?_); rw [R.out]; rintro e w2 ⟨rfl, rfl⟩))
      go_ret2
      rw [E1.out, E2.out]
      exact ⟨_, rfl, Own2.nil _ _ _ _, hb1⟩
    · obtain ⟨hv1, hv2, -, -, -⟩ := valid_le B.out
      have HR := hide (row_of_valid B.out)
      have E1 : Hid (swapOk p reg = progValid (swapP reg p)) := hide (by unfold swapOk; rw [B.out, R.out]; rfl)
      have E2 : Hid (swapV p reg = if progValid (swapP reg p) = true then swapP reg p else []) := hide (by unfold swapV; rw [E1.out])
      generalize hn : p.length = n at *
      have H := hide hn; clear hn
      go_enter Try.func13, Try.ntmps13
      go_wp2_with (first | (go_at_call 33; (with_reducible refine (HV.out _ HP.out).mono ?_); rintro e w1 ⟨rfl, hb1⟩) | (go_at_call 46; (with_reducible refine (within_any _ _ _ _).mono ?_); rw [R.out]; rintro e w2 ⟨rfl, rfl⟩))
      go_wp2_with fail
      (with_reducible refine (cloneProgram_any v p w1 (HP.out.below hb1) (by rw [H.out]; omega) HR.out).mono ?_); rintro e w2 ⟨u, rfl, hu, hb2⟩
      have hb2 := Below.next hb1 hb2
      obtain ⟨us, hU, -⟩ := hu.told
      have hul := hU.1
      rcases hU.2.1.shape with ⟨-, h0⟩ | ⟨g, cap, rfl, hg1, hg2, hc1, hc2⟩
      · exfalso; rw [h0, H.out] at hul; simp at hul; omega
      · have hln : us.length = n := hul.trans H.out
        rw [hln] at hU hc1 ⊢
        clear hu hul
        have HU := hide hU; clear hU
        go_wp2_with fail
        go_loopw [23] (fun i wr => ∃ j : Nat, j ≤ n ∧ i = .int .i64 j ∧ Own2U InsE 33 32 us wr w1.heap.size (.slice (some ⟨g, 0, none⟩) n cap) (mapPre (List.map (swapI reg)) j p) ∧ Below w.heap.size w wr) (fun i _ => n - (intOf i).toNat)
        case atStart => exact ⟨0, by omega, rfl, by rw [mapPre_zero]; exact HU.out, hb2⟩
        case round =>
          obtain ⟨j, hj, rfl, ho, hb⟩ := hrel
          by_cases hlt : j < n
          · obtain ⟨x, hxk⟩ := get_of_lt (xs := p) (k := j) (by rw [H.out]; exact hlt)
            have hlt' := nat_of_lt hlt
            obtain ⟨s, hs, hgl, f0, hrow, hback⟩ := ho.row (mapPre_get hxk)
            obtain ⟨sa, sn, sc⟩ := s
            have hsn := hrow.len
            have hxl := HR.out x (List.mem_of_getElem? hxk)
            have X := hide hxk; have BK := hide hback; have RW := hide hrow
            clear hxk hback hrow hs
            simp only at hsn
            subst hsn
            have hlo := RW.out.lo
            have HLO := hide hlo; clear hlo
            obtain ⟨wm, rfl⟩ : ∃ wm : World, wm = wr := ⟨_, rfl⟩
            go_wp2_with fail
            go_loopw [29] (fun i wr => ∃ t : Nat, t ≤ x.length ∧ i = .int .i64 t ∧ Own InsE 32 wr w1.heap.size (.slice sa x.length sc) (mapPre (swapI reg) t x) ∧ wm.grownBy wr (Value.ownBlock (.slice sa x.length sc))) (fun i _ => x.length - (intOf i).toNat)
            case atStart => exact ⟨0, by omega, rfl, by rw [mapPre_zero]; exact RW.out, World.grownBy.refl _ _⟩
            case round =>
              obtain ⟨t, ht, rfl, hr, hgr⟩ := hrel
              by_cases hlt2 : t < x.length
              · obtain ⟨y, hyk⟩ := get_of_lt (xs := x) (k := t) hlt2
                have hlt2' := nat_of_lt hlt2
                rcases hr.shape with ⟨h0, -⟩ | ⟨g', cap', hv, -, -, -, -⟩
                · exfalso
                  simp only [Value.slice.injEq] at h0
                  omega
                · simp only [Value.slice.injEq] at hv
                  obtain ⟨rfl, -, -⟩ := hv
                  have hget := mapPre_get (f := swapI reg) hyk
                  obtain ⟨hgl', k0, k1, k2, k3, hfr⟩ := hr.ins hget
                  have hset := hr.setIns hget (swapI reg y)
                  rw [mapPre_set hyk] at hset
                  have G := hide hget; have Y := hide hyk; have S := hide hset
                  clear hget hyk hset
                  by_cases h2 : y.op = 2
                  · have S2 := S.out
                    rw [show swapI reg y = ⟨5, y.loc, reg, y.val⟩ by unfold swapI; rw [if_pos h2]] at S2
                    simp only at S2
                    have S3 := hide S2; clear S2
                    rw [h2] at k0
                    clear S h2
                    go_wp2_with fail
                    go_roundw
                    case rel => exact ⟨t + 1, by omega, by go_num, S3.out.alloc _, grown_alloc (grown_set (grown_set (grown_set (grown_set hgr _ _) _ _) _ _) _ _) _⟩
                    case measure => simp [intOf]; omega
                  · have g2 : (y.op == 2) = false := by simpa using h2
                    have SM := hide (mapPre_same (f := swapI reg) Y.out (by unfold swapI; rw [if_neg h2]))
                    clear h2
                    go_wp2_with fail
                    go_roundw
                    case rel => exact ⟨t + 1, by omega, by go_num, by rw [SM.out]; exact hr.alloc _, grown_alloc hgr _⟩
                    case measure => simp [intOf]; omega
              · rw [mapPre_all (by omega)] at hr
                have hB := BK.out _ _ hr hgr
                rw [mapPre_set X.out] at hB
                have HB := hide hB; clear hB
                go_wp2_with fail
                go_roundw
                case rel => exact ⟨j + 1, by omega, by go_num, HB.out, hb.grown hgr hb.size (fun k hk => by have := (HLO.out k hk).1; have := hb1.size; omega)⟩
                case measure => simp [intOf]; omega
          · rw [mapPre_all (by rw [H.out]; omega)] at ho
            have HQ := hide (fun w' h => ProgramValid_any (.slice (some ⟨g, 0, none⟩) n cap) (swapP reg p) w' h (by rw [swapP_lengths]; exact hl))
            generalize hvq : progValid (swapP reg p) = vq at *
            clear hvq
            have ho2 : Own2 InsE 33 32 wr w1.heap.size (.slice (some ⟨g, 0, none⟩) n cap) (swapP reg p) := ho.own
            cases vq
            · go_wp2_with (go_at_call 33; (with_reducible refine (HQ.out _ ho2.rep).mono ?_); rintro e w4 ⟨rfl, hb4⟩)
              go_ret2
              rw [E1.out, E2.out]
              exact ⟨_, rfl, Own2.nil _ _ _ _, hb.trans (hb4.mono hb.size)⟩
            · go_wp2_with (go_at_call 33; (with_reducible refine (HQ.out _ ho2.rep).mono ?_); rintro e w4 ⟨rfl, hb4⟩)
              go_ret2
              rw [E1.out, E2.out]
              exact ⟨_, rfl, (ho2.below hb4).mono hb1.size, hb.trans (hb4.mono hb.size)⟩

end Go.Proofs.Ythglefilfpnikaa
