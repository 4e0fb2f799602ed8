/-
  Programs that the reference reads from texts. Condition: the text is not too long.
-/
import Derived.Test.YtpnmphfdfadlcaaD8
namespace Go.Proofs.Ytpnmphfdfadlcaa
open Go.RowKit

theorem progValid_ins {p : List (List Ins)} (h : progValid p = true) : ∀ r ∈ p, ∀ x ∈ r, insValid x = true := by
  intro r hr x hx
  obtain ⟨k, hk⟩ := List.getElem?_of_mem hx
  unfold progValid shapeOk at h
  simp only [Bool.and_eq_true, List.all_eq_true] at h
  have := h.1.1.1.2 r hr
  cases hv : insValid x with
  | true => rfl
  | false => rw [row_no hk hv] at this; cases this

theorem Own.toSl {α : Type} {E : El α} {T : TypeId} {w : World} {base : Nat} {v : Value} {xs : List α} (h : Own E T w base v xs) : ∃ a n c, v = .slice a n c ∧ n = xs.length := by
  rcases h.shape with ⟨rfl, rfl⟩ | ⟨g, cap, rfl, _⟩
  · exact ⟨none, 0, 0, rfl, rfl⟩
  · exact ⟨_, _, _, rfl, rfl⟩

theorem Own.grown_ne {α β : Type} {E : El α} {F : El β} {T U : TypeId} {w w' : World} {base base' : Nat} {v u : Value} {xs : List α} {ys : List β} (h : Own E T w base v xs) (k : Own F U w base' u ys) (hT : T ≠ U) (hg : w.grownBy w' u.ownBlock) : Own E T w' base v xs :=
  h.grown hg (by
    rcases hq : v.ownBlock with _ | q
    · exact .inl rfl
    · refine .inr (fun e => ?_)
      exact own_ne hT h k q e.symm hq)

theorem flatten_bound (p : List (List Ins)) (m : Nat) (h : ∀ r ∈ p, r.length ≤ m) : p.flatten.length ≤ p.length * m := by
  induction p with
  | nil => simp
  | cons r p ih =>
    have h1 := h r (by simp)
    have h2 := ih (fun r hr => h r (by simp [hr]))
    rw [List.flatten_cons, List.length_append, List.length_cons, Nat.succ_mul]
    omega

/-- Some program of bounded size, in memory of the call's own. -/
def QP (lo : Nat) (v : Value) (w : World) : Prop := ∃ P : List (List Ins), OwnP w lo v P ∧ P.length ≤ 4 ∧ ∀ r ∈ P, r.length ≤ 8

def RetParse (w : World) (e : Ending) (w' : World) : Prop := ∃ v ok, e = .returned (.tuple #[v, .bool ok]) ∧ QP w.heap.size v w' ∧ Below w.heap.size w w'

set_option maxRecDepth 100000 in
set_option maxHeartbeats 1600000 in
theorem sParseProgram_any (s : ByteArray) (w : World) (hs : s.size ≤ 1000) :
    Calls Try.prog 192 #[.string s] w (RetParse w) := by
  have HC := hide (l17Cut_any s 124 (w.alloc (.cells #[] 73)) hs)
  have HB0 := hide (belowAlloc w (.cells #[] 73))
  have HO0 := hide (Own2.empty (E := InsE) 73 72 w (Nat.le_refl w.heap.size))
  go_enter Try.func192, Try.ntmps192
  go_wp2_with fail
  (with_reducible refine HC.out.mono ?_); rintro e w1 ⟨tv, ts, rfl, hto, hb1, -, hts⟩
  have hT := hto.mono (show w.heap.size ≤ _ from HB0.out.size)
  have hO := HO0.out.below hb1
  have hB := HB0.out.trans (hb1.mono HB0.out.size)
  have HTS := hide hts
  clear hto hb1 HC HB0 HO0 hts
  obtain ⟨ta, tn, tc, rfl, htn⟩ := hT.toSl
  have HT := hide hT; have HO := hide hO; have HB := hide hB; have HTN := hide htn
  clear hT hO hB htn
  go_wp2_with fail
  go_loopw [4, 6] (fun v i wr => ∃ (j : Nat) (P : List (List Ins)), i = .int .i64 j ∧ j ≤ 4 ∧ P.length ≤ j ∧ (∀ r ∈ P, r.length ≤ 8) ∧ OwnP wr w.heap.size v P ∧ Own StrE 9 wr w.heap.size (.slice ta tn tc) ts ∧ Below w.heap.size w wr) (fun _ i _ => 4 - (intOf i).toNat)
  case atStart => exact ⟨0, [], rfl, by omega, by simp, by simp, HO.out, HT.out, HB.out⟩
  case round =>
    obtain ⟨j, P, rfl, hj, hPl, hPr, ho, hT, hb⟩ := hrel
    by_cases hlt : j < tn
    · have hlt' := nat_of_lt hlt
      by_cases hlt3 : j ≤ 3
      · have hlt3' : (j : Int) ≤ 3 := by omega
        obtain ⟨wm, rfl⟩ : ∃ wm : World, wm = wr := ⟨_, rfl⟩
        obtain ⟨x, hxj⟩ := get_of_lt (xs := ts) (k := j) (by rw [← HTN.out]; exact hlt)
        obtain ⟨b, o, rfl, hbl, i0⟩ := hT.rep.str hxj
        have hxs := HTS.out x (List.mem_of_getElem? hxj)
        obtain ⟨us, hU, -⟩ := ho.told
        have hub : us.length ≤ 68719476736 := by rw [hU.1]; omega
        have HU := hide hU; have HT2 := hide hT; have HX := hide hxj; have HPr := hide hPr
        have HC := hide (l17Cut_any x 59 (wm.alloc (.cells #[] 72)) (by omega))
        have BL := hide (belowAlloc wm (.cells #[] 72))
        clear hU ho hT hxj hPr
        have hbs := hb.size
        go_wp2_with fail
        (with_reducible refine HC.out.mono ?_); rintro e w2 ⟨wv, ws, rfl, hwo, hb2, -, -⟩
        have HL0 := hide ((Own.empty (E := InsE) 72 wm (Nat.le_refl wm.heap.size)).below hb2)
        have HB2 := hide (BL.out.trans (hb2.mono BL.out.size))
        have HT3 := hide (HT2.out.below HB2.out)
        have HW := hide (hwo.mono (show w.heap.size ≤ _ from Nat.le_trans hbs BL.out.size))
        obtain ⟨wa, wn, wc, rfl, hwn⟩ := hwo.toSl
        have HWN := hide hwn
        clear hwn hwo hb2 HC BL i0
        go_wp2_with fail
        go_loopw [7, 9] (fun l k wr' => ∃ (K : Nat) (xs : List Ins), k = .int .i64 K ∧ K ≤ 8 ∧ xs.length = K ∧ OwnI wr' wm.heap.size l xs ∧ Own StrE 9 wr' w.heap.size (.slice (some ⟨b, o, none⟩) tn tc) ts ∧ Own StrE 9 wr' w.heap.size (.slice wa wn wc) ws ∧ Below wm.heap.size wm wr') (fun _ k _ => 8 - (intOf k).toNat)
        case atStart => exact ⟨0, [], rfl, by omega, rfl, HL0.out, HT3.out, HW.out, HB2.out⟩
        case round =>
          obtain ⟨K, xs, rfl, hK, hxl, hl, hT, hW, hb3⟩ := hrel
          have hbs3 := hb3.size
          have HXL := hide hxl
          clear hxl
          obtain ⟨b2, o2, he, -, i0⟩ := hT.rep.str HX.out
          simp only [Option.some.injEq, Addr.mk.injEq, and_true] at he
          obtain ⟨rfl, rfl⟩ := he
          have hbl3 := lt_of_cell i0
          by_cases hk : K < wn
          · have hk' := nat_of_lt hk
            by_cases hk7 : K ≤ 7
            · have hk7' : (K : Int) ≤ 7 := by omega
              by_cases hx0 : (x.toList == []) = true
              · have hx0'' : x.toList = [] := by simpa using hx0
                obtain ⟨la, ln, lc, rfl, hln⟩ := hl.toSl
                have hU3 := hide (HU.out.2.1.below hb3)
                have HL := hide hl; have HH := hide hT
                clear hl hT hW hln
                go_wp2_with (at_builtin; refine wpList_app SlcE 73 Try.infoInsS rfl Try.underlying34 w.heap.size _ us ⟨la, ln, lc⟩ (hU3.out.alloc _) (by decide) hub (by simp; omega) rfl _ _ rfl rfl _ 0 1 rfl news_alloc ?_; intro v5 w5 ho5 hgr5)
                have ho6 := HU.out.app (by decide) (hb3.trans ((Below.refl _ _).alloc hb3.size _)) hbs (s := ⟨la, ln, lc⟩) (HL.out.alloc _) ho5 hgr5
                have hT6 := (HH.out.alloc _).grown_ne (hU3.out.alloc _) (by decide) hgr5
                have hb6 := below_app (hb.trans (hb3.mono hb.size)) hU3.out hgr5
                go_roundw
                case rel => exact ⟨j + 1, P ++ [xs], by go_num, by omega, by simp; omega, by
                  intro r hr
                  rcases List.mem_append.1 hr with h | h
                  · exact HPr.out r h
                  · rw [List.mem_singleton.1 h, HXL.out]; omega, ho6, hT6, hb6⟩
                case measure => simp [intOf]; omega
              · have hx0' : (x.toList == []) = false := by simpa using hx0
                have hx0'' : ¬ x.toList = [] := by simpa using hx0
                clear hx0
                obtain ⟨y, hyk⟩ := get_of_lt (xs := ws) (k := K) (by rw [← HWN.out]; exact hk)
                obtain ⟨b4, o4, rfl, hbl4, j0⟩ := hW.rep.str hyk
                have HY := hide (fun w' => l1Parse_any y w')
                have HH := hide hT; have HHW := hide hW; have HHL := hide hl
                clear hyk hT hW hl
                generalize parseI y = I at *
                go_wp2_with fail
                (with_reducible refine (HY.out _).mono ?_); rintro e w4 ⟨rfl, hb4⟩
                have hbs4 := hb4.size
                have hxl64 : xs.length ≤ 68719476736 := by rw [HXL.out]; omega
                have hl4 := hide (HHL.out.below hb4)
                have hT4 := hide (HH.out.below hb4); have hW4 := hide (HHW.out.below hb4)
                have hb34 := hide (hb3.trans (hb4.mono hb3.size))
                clear HY hb4
                go_wp2_with (at_builtin; refine wpList_app InsE 72 Try.infoIns rfl Try.underlying73 wm.heap.size _ xs I (hl4.out.alloc _) (by decide) hxl64 (by simp; omega) rfl _ _ rfl rfl _ 0 1 rfl news_alloc ?_; intro v6 w6 ho6 hgr6)
                have hb6 := below_app hb34.out hl4.out hgr6
                have hT6 := (hT4.out.alloc _).grown_ne (hl4.out.alloc _) (by decide) hgr6
                have hW6 := (hW4.out.alloc _).grown_ne (hl4.out.alloc _) (by decide) hgr6
                go_roundw
                case rel => exact ⟨K + 1, xs ++ [I], by go_num, by omega, by simp [HXL.out], ho6, hT6, hW6, hb6⟩
                case measure => simp [intOf]; omega
            · have hk7' : decide ((K : Int) ≤ 7) = false := decide_eq_false (by omega)
              obtain ⟨la, ln, lc, rfl, hln⟩ := hl.toSl
              have hU3 := hide (HU.out.2.1.below hb3)
              have HL := hide hl; have HH := hide hT
              clear hl hT hW hln
              go_wp2_with (at_builtin; refine wpList_app SlcE 73 Try.infoInsS rfl Try.underlying34 w.heap.size _ us ⟨la, ln, lc⟩ (hU3.out.alloc _) (by decide) hub (by simp; omega) rfl _ _ rfl rfl _ 0 1 rfl news_alloc ?_; intro v5 w5 ho5 hgr5)
              have ho6 := HU.out.app (by decide) (hb3.trans ((Below.refl _ _).alloc hb3.size _)) hbs (s := ⟨la, ln, lc⟩) (HL.out.alloc _) ho5 hgr5
              have hT6 := (HH.out.alloc _).grown_ne (hU3.out.alloc _) (by decide) hgr5
              have hb6 := below_app (hb.trans (hb3.mono hb.size)) hU3.out hgr5
              go_roundw
              case rel => exact ⟨j + 1, P ++ [xs], by go_num, by omega, by simp; omega, by
                intro r hr
                rcases List.mem_append.1 hr with h | h
                · exact HPr.out r h
                · rw [List.mem_singleton.1 h, HXL.out]; omega, ho6, hT6, hb6⟩
              case measure => simp [intOf]; omega
          · have hk' : decide (K < wn) = false := decide_eq_false hk
            have hk'' : decide ((K : Int) < wn) = false := decide_eq_false (by omega)
            obtain ⟨la, ln, lc, rfl, hln⟩ := hl.toSl
            have hU3 := hide (HU.out.2.1.below hb3)
            have HL := hide hl; have HH := hide hT
            clear hl hT hW hln
            go_wp2_with (at_builtin; refine wpList_app SlcE 73 Try.infoInsS rfl Try.underlying34 w.heap.size _ us ⟨la, ln, lc⟩ (hU3.out.alloc _) (by decide) hub (by simp; omega) rfl _ _ rfl rfl _ 0 1 rfl news_alloc ?_; intro v5 w5 ho5 hgr5)
            have ho6 := HU.out.app (by decide) (hb3.trans ((Below.refl _ _).alloc hb3.size _)) hbs (s := ⟨la, ln, lc⟩) (HL.out.alloc _) ho5 hgr5
            have hT6 := (HH.out.alloc _).grown_ne (hU3.out.alloc _) (by decide) hgr5
            have hb6 := below_app (hb.trans (hb3.mono hb.size)) hU3.out hgr5
            go_roundw
            case rel => exact ⟨j + 1, P ++ [xs], by go_num, by omega, by simp; omega, by
              intro r hr
              rcases List.mem_append.1 hr with h | h
              · exact HPr.out r h
              · rw [List.mem_singleton.1 h, HXL.out]; omega, ho6, hT6, hb6⟩
            case measure => simp [intOf]; omega
      · have hlt3' : decide ((j : Int) ≤ 3) = false := decide_eq_false (by omega)
        obtain ⟨us, hU, -⟩ := ho.told
        obtain ⟨oa, on, oc, rfl, hon⟩ := hU.2.1.toSl
        have hfl : P.flatten.length ≤ 1048576 := by
          have := flatten_bound P 8 hPr
          have : P.length * 8 ≤ 4 * 8 := Nat.mul_le_mul_right _ (by omega)
          omega
        have HV := hide (fun w' h => sProgramValid_any (.slice oa on oc) P w' h hfl (by omega))
        have HTX := hide (fun w' h hv => l1Program_any (.slice oa on oc) P w' h hv (by omega) (fun r hr => Nat.le_trans (hPr r hr) (by omega)))
        have HI := hide (progValid_ins (p := P))
        have HO := hide ho; have HPr := hide hPr; have HB := hide hb
        clear hU hT hon ho hPr hb hfl
        go_wp2_with fail
        (with_reducible refine (HV.out _ HO.out.rep).mono ?_); rintro e w4 ⟨rfl, hb4⟩
        have HB4 := hide (HB.out.trans (hb4.mono HB.out.size))
        have HO4 := hide (HO.out.below hb4)
        clear hb4 HB HO HV
        by_cases hv : progValid P = true
        · have HTX := hide (fun w' h => HTX.out w' h (HI.out hv))
          clear HI
          generalize progTx P P.length = X at *
          go_wp2_with fail
          (with_reducible refine (HTX.out _ HO4.out.rep).mono ?_); rintro e w5 ⟨rfl, hb5⟩
          have HB5 := hide (HB4.out.trans (hb5.mono HB4.out.size))
          have HO5 := hide (HO4.out.below hb5)
          clear hb5 HB4 HO4 HTX
          by_cases hq : (X.toList == s.toList) = true
          · have hq' : X.toList = s.toList := by simpa using hq
            go_wp2_with fail
            go_ret2
            exact ⟨_, _, rfl, ⟨P, HO5.out, by omega, HPr.out⟩, HB5.out⟩
          · have hq' : (X.toList == s.toList) = false := by simpa using hq
            have hq'' : ¬ X.toList = s.toList := by simpa using hq
            clear hq
            go_wp2_with fail
            go_ret2
            exact ⟨_, _, rfl, ⟨[], Own2.empty _ _ _ HB5.out.size, by simp, by simp⟩, HB5.out.trans ((belowAlloc _ _).mono HB5.out.size)⟩
        · have hv' : progValid P = false := by simpa using hv
          clear hv
          go_wp2_with fail
          go_ret2
          exact ⟨_, _, rfl, ⟨[], Own2.empty _ _ _ HB4.out.size, by simp, by simp⟩, HB4.out.trans ((belowAlloc _ _).mono HB4.out.size)⟩
    · have hlt' : decide (j < tn) = false := decide_eq_false hlt
      have hlt'' : decide ((j : Int) < tn) = false := decide_eq_false (by omega)
      obtain ⟨us, hU, -⟩ := ho.told
      obtain ⟨oa, on, oc, rfl, hon⟩ := hU.2.1.toSl
      have hfl : P.flatten.length ≤ 1048576 := by
        have := flatten_bound P 8 hPr
        have : P.length * 8 ≤ 4 * 8 := Nat.mul_le_mul_right _ (by omega)
        omega
      have HV := hide (fun w' h => sProgramValid_any (.slice oa on oc) P w' h hfl (by omega))
      have HTX := hide (fun w' h hv => l1Program_any (.slice oa on oc) P w' h hv (by omega) (fun r hr => Nat.le_trans (hPr r hr) (by omega)))
      have HI := hide (progValid_ins (p := P))
      have HO := hide ho; have HPr := hide hPr; have HB := hide hb
      clear hU hT hon ho hPr hb hfl
      go_wp2_with fail
      (with_reducible refine (HV.out _ HO.out.rep).mono ?_); rintro e w4 ⟨rfl, hb4⟩
      have HB4 := hide (HB.out.trans (hb4.mono HB.out.size))
      have HO4 := hide (HO.out.below hb4)
      clear hb4 HB HO HV
      by_cases hv : progValid P = true
      · have HTX := hide (fun w' h => HTX.out w' h (HI.out hv))
        clear HI
        generalize progTx P P.length = X at *
        go_wp2_with fail
        (with_reducible refine (HTX.out _ HO4.out.rep).mono ?_); rintro e w5 ⟨rfl, hb5⟩
        have HB5 := hide (HB4.out.trans (hb5.mono HB4.out.size))
        have HO5 := hide (HO4.out.below hb5)
        clear hb5 HB4 HO4 HTX
        by_cases hq : (X.toList == s.toList) = true
        · have hq' : X.toList = s.toList := by simpa using hq
          go_wp2_with fail
          go_ret2
          exact ⟨_, _, rfl, ⟨P, HO5.out, by omega, HPr.out⟩, HB5.out⟩
        · have hq' : (X.toList == s.toList) = false := by simpa using hq
          have hq'' : ¬ X.toList = s.toList := by simpa using hq
          clear hq
          go_wp2_with fail
          go_ret2
          exact ⟨_, _, rfl, ⟨[], Own2.empty _ _ _ HB5.out.size, by simp, by simp⟩, HB5.out.trans ((belowAlloc _ _).mono HB5.out.size)⟩
      · have hv' : progValid P = false := by simpa using hv
        clear hv
        go_wp2_with fail
        go_ret2
        exact ⟨_, _, rfl, ⟨[], Own2.empty _ _ _ HB4.out.size, by simp, by simp⟩, HB4.out.trans ((belowAlloc _ _).mono HB4.out.size)⟩

end Go.Proofs.Ytpnmphfdfadlcaa
