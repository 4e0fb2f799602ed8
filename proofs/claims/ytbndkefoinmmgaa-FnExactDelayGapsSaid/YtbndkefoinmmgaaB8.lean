/-
  The closure of the program's DelayGaps, and DelayGaps of the program. Condition: bounds on lengths.
-/
import Derived.Test.YtbndkefoinmmgaaB7
namespace Go.Proofs.Ytbndkefoinmmgaa
open Go.RowKit

theorem box_keep {w w' : World} {ab : Nat} {cs : Array Value} {T : TypeId} (hb : w.heap[ab]? = some (.cells cs T (0, 0))) (h : Below w.heap.size w w') : w'.heap[ab]? = some (.cells cs T (0, 0)) := (h.block ab (Array.getElem?_eq_some_iff.1 hb).1).trans hb
theorem box_at {w : World} {ab : Nat} {cs : Array Value} {T : TypeId} (hb : w.heap[ab]? = some (.cells cs T (0, 0))) (j : Nat) : w.cell? ⟨ab, j, none⟩ = cs[j]? := cell_of_row w ab j cs T (0, 0) hb

theorem anyTo_succ_false {f : Nat → Bool} {m : Nat} (h : anyTo f m = false) (h2 : f m = false) : anyTo f (m + 1) = false := by
  show (anyTo f m || f m) = false
  rw [h, h2]; rfl

set_option maxRecDepth 100000 in
set_option maxHeartbeats 3200000 in
theorem DelayGaps_1 (B1 B2 lc lc2 : Nat) (la la2 : Option Addr) (L : List Ev) (D : Nat → Nat → Bool) (w0 : World) (h1 : w0.cell? ⟨B1, 0, none⟩ = some (.slice la L.length lc)) (hL : Rep EvE w0 (.slice la L.length lc) L)
    (h2 : w0.cell? ⟨B2, 0, none⟩ = some (.slice la2 L.length lc2)) (hD : Rep IntE w0 (.slice la2 L.length lc2) (relOf L.length D)) (hn : L.length ≤ 16) : TestsG ⟨B1, 0, none⟩ ⟨B2, 0, none⟩ (fun g => !needB L D g) w0 := by
  intro g w hb
  have q1 := (hb.cell (p := ⟨B1, 0, none⟩) (lt_of_cell h1)).trans h1
  have q2 := (hb.cell (p := ⟨B2, 0, none⟩) (lt_of_cell h2)).trans h2
  have HL := hide (hL.below hb); have HD := hide (hD.below hb)
  have HR := hide (fun i k w' h hi hk => related_any (.slice la2 L.length lc2) L.length i k D w' h (by omega) hi hk)
  have HE := hide (fun i k (a b : Ev) (hi : L[i]? = some a) (hk : L[k]? = some b) => hitB_eq (D := D) (g := g) hi hk)
  have NE : Hid (needB L D g = anyTo (fun i => anyTo (hitB L D g i) L.length) L.length) := hide rfl
  have hB1 := lt_of_cell q1; have hB2 := lt_of_cell q2
  have Q1 := hide q1; have Q2 := hide q2
  clear h1 h2 hb hL hD q2
  show Calls _ _ _ _ fun e w' => e = .returned (.bool (!needB L D g)) ∧ _
  generalize hN : needB L D g = N at *
  generalize hP : hitB L D g = P at *
  clear hN hP
  generalize hnn : L.length = n at *
  have H := hide hnn; clear hnn
  go_enter Try.func57, Try.ntmps57
  go_wp2_with fail
  go_loopw [11] (fun i wr => ∃ t : Nat, t ≤ n ∧ i = .int .i64 t ∧ Hid (anyTo (fun i => anyTo (P i) n) t = false) ∧ Hid (wr.heap[w.heap.size]? = some (.cells #[.int .i64 g.t, .int .i64 g.i] 57 (0, 0))) ∧ Hid (Below w.heap.size w wr)) (fun i _ => n - (intOf i).toNat)
  case atStart => exact ⟨0, Nat.zero_le _, rfl, hide rfl, hide (heap_alloc_new w _), hide (belowAlloc0 w _)⟩
  case round =>
    obtain ⟨t, ht, rfl, HNO, HBX, HB⟩ := hrel
    by_cases hlt : t < n
    · obtain ⟨wm, rfl⟩ : ∃ wm : World, wm = wr := ⟨_, rfl⟩
      obtain ⟨ea, hea⟩ := get_of_lt (xs := L) (k := t) (by rw [H.out]; exact hlt)
      obtain ⟨d, o, rfl, hd, i0, i1, i2, i3, i4⟩ := (HL.out.below HB.out).ev hea
      have hlt' := nat_of_lt hlt
      have c1 := (HB.out.cell (p := ⟨B1, 0, none⟩) hB1).trans Q1.out
      have hc1 := lt_of_cell c1
      have HEA := hide hea; clear hea
      go_wp2_with fail
      go_loopw [18] (fun i wr => ∃ k : Nat, k ≤ n ∧ i = .int .i64 k ∧ Hid (anyTo (P t) k = false) ∧ Hid (wr.heap[w.heap.size]? = some (.cells #[.int .i64 g.t, .int .i64 g.i] 57 (0, 0))) ∧ Hid (wr.heap[wm.heap.size]? = some (.cells #[.int .i64 ea.t, .int .i64 ea.i, .int .i64 ea.l, .bool ea.r, .bool ea.w] 75 (0, 0))) ∧ Hid (Below w.heap.size w wr)) (fun i _ => n - (intOf i).toNat)
      case atStart => exact ⟨0, Nat.zero_le _, rfl, hide rfl, hide (box_keep HBX.out (belowAlloc0 wm _)), hide (heap_alloc_new wm _), hide (HB.out.alloc HB.out.size _)⟩
      case round =>
        obtain ⟨k, hk, rfl, HNI, HBX, HBA, HB⟩ := hrel
        by_cases hlt2 : k < n
        · obtain ⟨eb, heb⟩ := get_of_lt (xs := L) (k := k) (by rw [H.out]; exact hlt2)
          obtain ⟨d', o', hde, hd', j0, j1, j2, j3, j4⟩ := (HL.out.below HB.out).ev heb
          simp only [Option.some.injEq, Addr.mk.injEq, and_true] at hde
          obtain ⟨rfl, rfl⟩ := hde
          have hlt2' := nat_of_lt hlt2
          have CE := hide (HE.out t k _ _ HEA.out heb)
          have HN1 : Hid (P t k = true → N = true) := hide (fun h => by rw [NE.out]; exact anyTo_true (k := t) (anyTo_true h hlt2) hlt)
          have HN2 : Hid (P t k = false → anyTo (P t) (k + 1) = false) := hide (fun h => anyTo_succ_false HNI.out h)
          have hbl1 : w.heap.size < wr.heap.size := (Array.getElem?_eq_some_iff.1 HBX.out).1
          have hbl2 : wm.heap.size < wr.heap.size := (Array.getElem?_eq_some_iff.1 HBA.out).1
          have x0 := box_at HBX.out 0
          have x1 := box_at HBX.out 1
          have y0 := box_at HBA.out 0
          have y1 := box_at HBA.out 1
          have c2 := (HB.out.cell (p := ⟨B2, 0, none⟩) hB2).trans Q2.out
          have hc2 := lt_of_cell c2
          have HB3 := hide (HB.out.alloc HB.out.size (.cells #[.int .i64 eb.t, .int .i64 eb.i, .int .i64 eb.l, .bool eb.r, .bool eb.w] 75))
          have HBX3 := hide (box_keep HBX.out (belowAlloc0 wr (.cells #[.int .i64 eb.t, .int .i64 eb.i, .int .i64 eb.l, .bool eb.r, .bool eb.w] 75)))
          have HBA3 := hide (box_keep HBA.out (belowAlloc0 wr (.cells #[.int .i64 eb.t, .int .i64 eb.i, .int .i64 eb.l, .bool eb.r, .bool eb.w] 75)))
          have HC := hide (HR.out t k _ (HD.out.below HB3.out) hlt hlt2)
          have HEB := hide heb
          clear heb i0 i1 i2 i3 i4 c1 hc1
          generalize hR : P t k = R at *
          clear hR
          rcases Bool.eq_false_or_eq_true (ea.t == g.t) with g0 | g0
          · rcases Bool.eq_false_or_eq_true (D t k) with g1 | g1
            · rw [g1] at HC
              rcases Bool.eq_false_or_eq_true (decide (ea.i < g.i)) with g2 | g2
              · rcases Bool.eq_false_or_eq_true (decide (g.i ≤ eb.i)) with g3 | g3
                · obtain rfl : R = true := by rw [CE.out]; simp [g0, g1, g2, g3]
                  obtain rfl := HN1.out rfl
                  go_wp2_with fail
                  (with_reducible refine HC.out.mono ?_); rintro e w2 ⟨rfl, rfl⟩
                  go_wp2_with fail
                  go_ret
                  exact ⟨rfl, HB3.out⟩
                · obtain rfl : R = false := by rw [CE.out]; simp [g0, g1, g2, g3]
                  have HN3 := hide (HN2.out rfl); clear HN1 HN2 CE
                  go_wp2_with fail
                  (with_reducible refine HC.out.mono ?_); rintro e w2 ⟨rfl, rfl⟩
                  go_wp2_with fail
                  go_roundw
                  case rel => exact ⟨k + 1, by omega, by go_num, HN3, HBX3, HBA3, HB3⟩
                  case measure => simp [intOf]; omega
              · obtain rfl : R = false := by rw [CE.out]; simp [g0, g1, g2]
                have HN3 := hide (HN2.out rfl); clear HN1 HN2 CE
                go_wp2_with fail
                (with_reducible refine HC.out.mono ?_); rintro e w2 ⟨rfl, rfl⟩
                go_wp2_with fail
                go_roundw
                case rel => exact ⟨k + 1, by omega, by go_num, HN3, HBX3, HBA3, HB3⟩
                case measure => simp [intOf]; omega
            · rw [g1] at HC
              obtain rfl : R = false := by rw [CE.out]; simp [g0, g1]
              have HN3 := hide (HN2.out rfl); clear HN1 HN2 CE
              go_wp2_with fail
              (with_reducible refine HC.out.mono ?_); rintro e w2 ⟨rfl, rfl⟩
              go_wp2_with fail
              go_roundw
              case rel => exact ⟨k + 1, by omega, by go_num, HN3, HBX3, HBA3, HB3⟩
              case measure => simp [intOf]; omega
          · obtain rfl : R = false := by rw [CE.out]; simp [g0]
            have HN3 := hide (HN2.out rfl); clear HN1 HN2 CE
            go_wp2_with fail
            go_roundw
            case rel => exact ⟨k + 1, by omega, by go_num, HN3, HBX3, HBA3, HB3⟩
            case measure => simp [intOf]; omega
        · have e : k = n := by omega
          subst e
          have HN3 := hide (anyTo_succ_false HNO.out HNI.out)
          go_wp2_with fail
          go_roundw
          case rel => exact ⟨t + 1, by omega, by go_num, HN3, HBX, HB⟩
          case measure => simp [intOf]; omega
    · have e : t = n := by omega
      subst e
      obtain rfl : N = false := by rw [NE.out]; exact HNO.out
      go_wp2_with fail
      go_ret
      exact ⟨rfl, HB.out⟩

/-- The gaps that some delay runs over. -/
def delayGapsP (p : List (List Ins)) : List Gp := (gapsP p).filter (needB (evAll p) (delF (evAll p).length (confB (evAll p)) (poB (evAll p))))
def delayGapsV (p : List (List Ins)) : List Gp := if progValid p = true then delayGapsP p else []

set_option maxRecDepth 100000 in
set_option maxHeartbeats 800000 in
theorem DelayGaps_any (v : Value) (p : List (List Ins)) (w : World) (hp : RepP w v p) (hl : p.flatten.length ≤ 1048576) :
    Calls Try.prog 20 #[v] w (RetOwn GapE 57 w (delayGapsV p)) := by
  have HP := hide hp; clear hp
  have HV := hide (fun w' h => ProgramValid_any v p w' h hl)
  have HG := hide (fun w' h => gaps_any v p w' h hl)
  have HE := hide (fun w' h h2 => events_any v p w' h h2)
  have HDR := hide (fun w' h h1 h2 => delayRel_any v p w' h h1 h2)
  have E2 : Hid (delayGapsV p = if progValid p = true then delayGapsP p else []) := hide rfl
  have E3 : Hid (delayGapsP p = (gapsP p).filter (needB (evAll p) (delF (evAll p).length (confB (evAll p)) (poB (evAll p))))) := hide rfl
  have CD : Hid (delays p = relOf (evAll p).length (delF (evAll p).length (confB (evAll p)) (poB (evAll p)))) := hide rfl
  have HGL : Hid ((gapsP p).length ≤ 1048576) := hide (by
    have := gapsTo_length p p.length (Nat.le_refl _)
    rw [List.take_length] at this
    unfold gapsP
    omega)
  have HF : Hid (progValid p = true → p.flatten.length ≤ 50 ∧ (evAll p).length ≤ 16) := hide (fun h => by
    obtain ⟨hv1, -, hv3, -, -⟩ := valid_le h
    have := flatten_le7' (p := p) (fun r hr => (hv3 r hr).1)
    have := evAll_le h
    omega)
  obtain ⟨a, c, rfl, -, -, -, -⟩ := HP.out.open
  generalize progValid p = b at *
  cases b
  · go_enter Try.func20, Try.ntmps20
    go_wp2_with fail
    (with_reducible refine (HV.out _ HP.out).mono ?_); rintro e w1 ⟨rfl, hb1⟩
    go_wp2_with fail
    go_ret
    rw [E2.out]
    exact ⟨_, rfl, Own.nil _ _ _, hb1⟩
  · have E4 : Hid (delayGapsV p = delayGapsP p) := hide (by rw [E2.out]; rfl)
    obtain ⟨hf1, hf2⟩ := HF.out rfl
    generalize delayGapsP p = Z at *
    generalize delF (evAll p).length (confB (evAll p)) (poB (evAll p)) = D at *
    generalize evAll p = L at *
    generalize gapsP p = G at *
    generalize delays p = DL at *
    go_enter Try.func20, Try.ntmps20
    go_wp2_with fail
    (with_reducible refine (HV.out _ HP.out).mono ?_); rintro e w1 ⟨rfl, hb1⟩
    have HB1 := hide hb1; have HP1 := hide (HP.out.below hb1); clear hb1
    go_wp2_with fail
    (with_reducible refine (HE.out _ HP1.out (by omega)).mono ?_); rintro e w2 ⟨v2, rfl, o2, hb2⟩
    obtain ⟨a2, c2, rfl, -, -, -, -⟩ := o2.rep.open
    have HB2 := hide (HB1.out.trans (hb2.mono HB1.out.size)); have HP2 := hide (HP1.out.below hb2); have L2 := hide o2.rep
    clear o2 hb2 HP1 HB1
    go_wp2_with fail
    (with_reducible refine (HDR.out _ HP2.out hf1 hf2).mono ?_); rintro e w3 ⟨v3, rfl, o3, hb3⟩
    rw [CD.out] at o3
    obtain ⟨a3, c3, rfl, -, -, -, -⟩ := o3.rep.open
    rw [relOf_length] at *
    have HB3 := hide (HB2.out.trans (hb3.mono HB2.out.size)); have HP3 := hide (HP2.out.below hb3); have L3 := hide (L2.out.below hb3); have D3 := hide o3.rep
    clear o3 hb3 HP2 HB2 L2
    have hb4 := (belowAlloc0 w3 (.cells #[.slice a2 L.length c2] 71))
    have hb5 := hb4.trans ((belowAlloc0 (w3.alloc (.cells #[.slice a2 L.length c2] 71)) (.cells #[.slice a3 L.length c3] 24)).mono hb4.size)
    have m1 : ((w3.alloc (.cells #[.slice a2 L.length c2] 71)).alloc (.cells #[.slice a3 L.length c3] 24)).cell? ⟨w3.heap.size, 0, none⟩ = some (.slice a2 L.length c2) := by simp [go_sem]
    have m2 : ((w3.alloc (.cells #[.slice a2 L.length c2] 71)).alloc (.cells #[.slice a3 L.length c3] 24)).cell? ⟨w3.heap.size + 1, 0, none⟩ = some (.slice a3 L.length c3) := by simp [go_sem]
    have HT := hide (DelayGaps_1 w3.heap.size (w3.heap.size + 1) c2 c3 a2 a3 L D _ m1 (L3.out.below hb5) m2 (D3.out.below hb5) hf2)
    have HP5 := hide (HP3.out.below hb5); have HB5 := hide (HB3.out.trans (hb5.mono HB3.out.size))
    clear m1 m2 hb4 hb5 HP3 HB3 L3 D3
    go_wp2_with fail
    (with_reducible refine (HG.out _ HP5.out).mono ?_); rintro e w6 ⟨v6, rfl, o6, hb6⟩
    have HD := hide (DeleteFunc_dg ⟨w3.heap.size, 0, none⟩ ⟨w3.heap.size + 1, 0, none⟩ v6 G (fun g => !needB L D g) _ w6 _ o6 HGL.out HT.out hb6 (Nat.le_refl _))
    have HB6 := hide (HB5.out.trans (hb6.mono HB5.out.size)); have HO6 := hide o6; have hs5 := HB5.out.size
    clear hb6 o6
    go_wp2_with fail
    (with_reducible refine HD.out.mono ?_); rintro e w7 ⟨v7, rfl, o7, hg7, -⟩
    have hb7 := below_row hg7 (B := w.heap.size) HB6.out.size (fun k hk => Nat.le_trans hs5 (HO6.out.lo k hk).1)
    have HO7 := hide o7; have HB7 := hide (HB6.out.trans hb7)
    clear o7 hg7 hb7
    go_wp2_with fail
    go_ret
    have ho := HO7.out
    rw [E4.out, E3.out]
    rw [show (fun x => !(!needB L D x)) = needB L D by funext x; simp] at ho
    exact ⟨_, rfl, ho.mono hs5, HB7.out⟩

end Go.Proofs.Ytbndkefoinmmgaa
