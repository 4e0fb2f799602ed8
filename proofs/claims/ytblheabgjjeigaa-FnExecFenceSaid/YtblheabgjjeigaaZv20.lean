/-
  FnExecFence: for every input the law returns true and the input reads afterwards as it read before. No condition.
-/
import Derived.Test.YtblheabgjjeigaaZv19
import Derived.Test.YtblheabgjjeigaaZv05
import Derived.Test.YtblheabgjjeigaaZv03
import Derived.Test.YtblheabgjjeigaaZv17
import Derived.Test.YtblheabgjjeigaaZv00
namespace Go.Proofs.Ytblheabgjjeigaa
open Go.RowKit

theorem sameRowN_any (v v' : Value) (xs ys : List Int) (w : World) (hx : Rep IntE w v xs) (hy : Rep IntE w v' ys) :
    Calls Try.prog 43 #[v, v'] w fun e w' => e = .returned (.bool (decide (xs = ys))) ∧ Below w.heap.size w w' := by
  go_enter Try.func43, Try.ntmps43
  go_wp2_with fail
  (with_reducible refine (EqualN_any v v' xs ys _ hx hy).mono ?_); rintro e w1 ⟨rfl, hb1⟩
  go_wp2_with fail
  go_ret
  exact ⟨rfl, hb1⟩

set_option maxHeartbeats 400000 in
theorem EqualFuncN_any (v v' : Value) (xs ys : List (List Int)) (w : World) (hx : RepNN w v xs) (hy : RepNN w v' ys) :
    Calls Try.prog 42 #[v, v', .func (.func 43) #[] #[]] w fun e w' => e = .returned (.bool (decide (xs = ys))) ∧ Below w.heap.size w w' := by
  obtain ⟨a, c, rfl, hc1, hc2, hc3, hx⟩ := hx.open
  obtain ⟨a', c', rfl, hc1', hc2', hc3', hy⟩ := hy.open
  have HX := hide hx; clear hx
  have HY := hide hy; clear hy
  generalize hn : xs.length = n at *
  generalize hn' : ys.length = n' at *
  have H := hide hn; clear hn
  have H' := hide hn'; clear hn'
  by_cases hc : n = n'
  · subst hc
    have hc' : ((n : Int) != n) = false := by simp
    go_enter Try.func42, Try.ntmps42
    go_wp2_with fail
    go_loopw [17] (fun v wr => ∃ k : Nat, k ≤ n ∧ v = .int .i64 k ∧ Hid (xs.take k = ys.take k) ∧ Below w.heap.size w wr) (fun v _ => n - (intOf v).toNat)
    case atStart => exact ⟨0, Nat.zero_le _, rfl, hide (by simp), Below.refl _ _⟩
    case round =>
      obtain ⟨k, hk, rfl, T, hb⟩ := hrel
      by_cases hlt : k < n
      · obtain ⟨x, hxk⟩ := get_of_lt (xs := xs) (k := k) (by rw [H.out]; exact hlt)
        obtain ⟨y, hyk⟩ := get_of_lt (xs := ys) (k := k) (by rw [H'.out]; exact hlt)
        obtain ⟨b, o, ra, rc, rfl, hbl, i0, i1⟩ := (HX.out.below hb).row hxk
        obtain ⟨b', o', ra', rc', rfl, hbl', j0, j1⟩ := (HY.out.below hb).row hyk
        have hlt' := nat_of_lt hlt
        have X := hide hxk; clear hxk
        have Y := hide hyk; clear hyk
        have HC := hide (sameRowN_any _ _ x y _ i1 j1)
        clear i1 j1
        go_wp2_with fail
        (with_reducible refine HC.out.mono ?_); rintro e w1 ⟨rfl, hb1⟩
        have hb2 := hb.trans (hb1.mono hb.size)
        clear HC
        generalize hd : decide (x = y) = d
        cases d
        · have hq := ne_of_get X.out Y.out (of_decide_eq_false hd)
          clear hd
          go_wp2_with fail
          go_ret
          exact ⟨by simp [hq], hb2⟩
        · have T' := hide (take_eq_succ T.out X.out Y.out (of_decide_eq_true hd))
          clear hd
          go_wp2_with fail
          go_roundw
          case rel => exact ⟨k + 1, by omega, by go_num, T', hb2⟩
          case measure => simp [intOf]; omega
      · have e2 : xs = ys := take_all_eq T.out (by rw [H.out]; omega) (by rw [H'.out]; omega)
        subst e2
        go_wp2_with fail
        go_ret
        exact ⟨by simp, hb⟩
  · have hc' : ((n : Int) != n') = true := by simp; omega
    have hq : xs ≠ ys := fun h => hc (by rw [← H.out, ← H'.out, h])
    go_enter Try.func42, Try.ntmps42
    go_wp2_with fail
    go_ret
    exact ⟨by simp [hq], Below.refl _ _⟩


theorem ExecSame_any (f o f' o' : Slc) (x y : Xc) (w : World) (hx : RepX w f.v o.v x) (hy : RepX w f'.v o'.v y) :
    Calls Try.prog 20 #[.agg #[.slice f.a f.n f.cap, .slice o.a o.n o.cap], .agg #[.slice f'.a f'.n f'.cap, .slice o'.a o'.n o'.cap]] w fun e w' => e = .returned (.bool (decide (x = y))) ∧ Below w.heap.size w w' := by
  have HX := hide hx; have HY := hide hy
  clear hx hy
  obtain ⟨f1, f2, f3⟩ := f; obtain ⟨o1, o2, o3⟩ := o; obtain ⟨g1, g2, g3⟩ := f'; obtain ⟨q1, q2, q3⟩ := o'
  have B2 : Hid (Below w.heap.size w ((w.alloc (.cells #[.slice f1 f2 f3, .slice o1 o2 o3] 27)).alloc (.cells #[.slice g1 g2 g3, .slice q1 q2 q3] 27))) := hide (((Below.refl _ _).alloc (Nat.le_refl _) _).alloc (by simp) _)
  have HE1 := hide (EqualN_any _ _ x.fr y.fr _ (HX.out.fr.below B2.out) (HY.out.fr.below B2.out))
  have HE2 := hide (fun w' (hb : Below w.heap.size w w') => EqualFuncN_any _ _ x.od y.od w' (HX.out.od.below hb) (HY.out.od.below hb))
  have Z0 : Hid (((w.alloc (.cells #[.slice f1 f2 f3, .slice o1 o2 o3] 27)).alloc (.cells #[.slice g1 g2 g3, .slice q1 q2 q3] 27)).heap[w.heap.size]? = some (.cells #[.slice f1 f2 f3, .slice o1 o2 o3] 27 (0, 0))) := hide (by rw [heap_alloc_old _ _ (by simp)]; exact heap_alloc_new w _)
  have Z1 : Hid (((w.alloc (.cells #[.slice f1 f2 f3, .slice o1 o2 o3] 27)).alloc (.cells #[.slice g1 g2 g3, .slice q1 q2 q3] 27)).heap[w.heap.size + 1]? = some (.cells #[.slice g1 g2 g3, .slice q1 q2 q3] 27 (0, 0))) := hide (by have h := heap_alloc_new (w.alloc (.cells #[.slice f1 f2 f3, .slice o1 o2 o3] 27)) (.cells #[.slice g1 g2 g3, .slice q1 q2 q3] 27); simpa using h)
  have XE : Hid (x = y ↔ x.fr = y.fr ∧ x.od = y.od) := hide (by cases x; cases y; simp)
  generalize hd : decide (x = y) = d
  have HD := hide hd; clear hd
  go_enter Try.func20, Try.ntmps20
  go_wp2_with fail
  (with_reducible refine HE1.out.mono ?_); rintro e w1 ⟨rfl, hb1⟩
  have hbk := (hb1.block w.heap.size (by simp; omega)).trans Z0.out
  have hbk2 := (hb1.block (w.heap.size + 1) (by simp)).trans Z1.out
  have d1 : w1.cell? ⟨w.heap.size, 1, none⟩ = some (.slice o1 o2 o3) := cell_of_heapV hbk (k := 1) rfl
  have d2 : w1.cell? ⟨w.heap.size + 1, 1, none⟩ = some (.slice q1 q2 q3) := cell_of_heapV hbk2 (k := 1) rfl
  have l1 := lt_of_cell d1; have l2 := lt_of_cell d2
  have B3 := hide (B2.out.trans (hb1.mono B2.out.size))
  clear hbk hbk2 hb1 Z0 Z1 HE1
  generalize hf : decide (x.fr = y.fr) = df at *
  have HF := hide hf; clear hf
  cases df
  · go_wp2_with fail
    go_ret
    refine ⟨?_, B3.out⟩
    have h1 := of_decide_eq_false HF.out
    have : d = false := by rw [← HD.out]; exact decide_eq_false fun h => h1 (XE.out.1 h).1
    rw [this]; rfl
  · have HC := hide (HE2.out _ B3.out)
    go_wp2_with fail
    (with_reducible refine HC.out.mono ?_); rintro e w2 ⟨rfl, hb2⟩
    generalize ho : decide (x.od = y.od) = dO
    have HO := hide ho; clear ho
    go_wp2_with fail
    go_ret
    refine ⟨?_, B3.out.trans (hb2.mono B3.out.size)⟩
    have h1 := of_decide_eq_true HF.out
    have : d = dO := by rw [← HD.out, ← HO.out]; simp only [XE.out, h1, true_and]
    rw [this]; rfl

def allXV (p : List (List Ins)) : List Xc := if progValid p = true then allX (evAll p) else []

theorem AllExecs_any (v : Value) (p : List (List Ins)) (w : World) (hp : RepP w v p) (hl : p.flatten.length ≤ 1048576) :
    Calls Try.prog 16 #[v] w fun e w' => ∃ u : Slc, e = .returned (.slice u.a u.n u.cap) ∧ RowsX w' w.heap.size u.v (allXV p) ∧ Below w.heap.size w w' := by
  have HV := hide (ProgramValid_any v p w hp hl)
  have HE := hide (fun w' h k => allExecs_any v p w' h hl k)
  have HP := hide hp
  clear hp
  have E2 : Hid (allXV p = if progValid p = true then allX (evAll p) else []) := hide rfl
  obtain ⟨a, c, rfl, -, -, -, -⟩ := HP.out.open
  generalize progValid p = b at *
  cases b
  · have E3 : Hid (allXV p = []) := hide (by rw [E2.out]; rfl)
    go_enter Try.func16, Try.ntmps16
    go_wp2_with fail
    (with_reducible refine HV.out.mono ?_); rintro e w1 ⟨rfl, hb1⟩
    go_wp2_with fail
    go_ret
    rw [E3.out]
    exact ⟨⟨none, 0, 0⟩, rfl, OwnF.nil _ _ _, hb1⟩
  · have E3 : Hid (allXV p = allX (evAll p)) := hide (by rw [E2.out]; rfl)
    go_enter Try.func16, Try.ntmps16
    go_wp2_with fail
    (with_reducible refine HV.out.mono ?_); rintro e w1 ⟨rfl, hb1⟩
    go_wp2_with fail
    (with_reducible refine (HE.out _ (HP.out.below hb1) trivial).mono ?_); rintro e w2 ⟨u2, rfl, o2, hb2⟩
    go_wp2_with fail
    go_ret
    rw [E3.out]
    exact ⟨u2, rfl, o2.mono hb1.size, hb1.trans (hb2.mono hb1.size)⟩

theorem sAllExecs_any (v : Value) (p : List (List Ins)) (w : World) (hp : RepP w v p) (hl : p.flatten.length ≤ 1048576) (hpl : p.length ≤ 1048576) :
    Calls Try.prog 17 #[v] w fun e w' => ∃ u : Slc, e = .returned (.slice u.a u.n u.cap) ∧ RowsX w' w.heap.size u.v (allXV p) ∧ Below w.heap.size w w' := by
  have HV := hide (sProgramValid_any v p w hp hl hpl)
  have HE := hide (fun w' h k => l6All_any v p w' h hl k)
  have HP := hide hp
  clear hp
  have E2 : Hid (allXV p = if progValid p = true then allX (evAll p) else []) := hide rfl
  obtain ⟨a, c, rfl, -, -, -, -⟩ := HP.out.open
  generalize progValid p = b at *
  cases b
  · have E3 : Hid (allXV p = []) := hide (by rw [E2.out]; rfl)
    go_enter Try.func17, Try.ntmps17
    go_wp2_with fail
    (with_reducible refine HV.out.mono ?_); rintro e w1 ⟨rfl, hb1⟩
    go_wp2_with fail
    go_ret
    rw [E3.out]
    exact ⟨⟨some ⟨w1.heap.size, 0, none⟩, 0, 0⟩, rfl, OwnF.empty _ w1 hb1.size, hb1.alloc hb1.size _⟩
  · have E3 : Hid (allXV p = allX (evAll p)) := hide (by rw [E2.out]; rfl)
    go_enter Try.func17, Try.ntmps17
    go_wp2_with fail
    (with_reducible refine HV.out.mono ?_); rintro e w1 ⟨rfl, hb1⟩
    go_wp2_with fail
    (with_reducible refine (HE.out _ (HP.out.below hb1) trivial).mono ?_); rintro e w2 ⟨u2, rfl, o2, hb2⟩
    go_wp2_with fail
    go_ret
    rw [E3.out]
    exact ⟨u2, rfl, o2.mono hb1.size, hb1.trans (hb2.mono hb1.size)⟩

theorem DrawAllExecs_any (v : Value) (xs0 : List Int) (w : World) (hx : Rep ByteE w v xs0) (hb : ∀ x ∈ xs0, 0 ≤ x ∧ x ≤ 255) :
    Calls Try.prog 15 #[v] w (RetProg w) := by
  have HD := hide (DrawProgramValid_any v xs0 w hx hb)
  obtain ⟨a, c, rfl, -, -, -, -⟩ := hx.open
  clear hx hb
  go_enter Try.func15, Try.ntmps15
  go_wp2_with fail
  (with_reducible refine HD.out.mono ?_); rintro e w1 ⟨v1, P, rfl, h1, h2, h3, h4⟩
  go_wp2_with fail
  go_ret
  exact ⟨v1, P, rfl, h1, h2, h3, h4⟩

end Go.Proofs.Ytblheabgjjeigaa

namespace Go.Proofs.Ytblheabgjjeigaa
open Go.RowKit

theorem RowsX.len {w : World} {base : Nat} {a : Option Addr} {n c : Nat} {L : List Xc} (h : RowsX w base (.slice a n c) L) : n = L.length := by
  rcases h.shape with ⟨h1, h2⟩ | ⟨g, cap, h1, -⟩
  · simp only [Value.slice.injEq] at h1; rw [h1.2.1, h2]; rfl
  · simp only [Value.slice.injEq] at h1; exact h1.2.1
theorem RowsX.row {w : World} {base : Nat} {a : Option Addr} {n c : Nat} {L : List Xc} (h : RowsX w base (.slice a n c) L) {k : Nat} {x : Xc} (hr : L[k]? = some x) :
    ∃ (f o : Slc) (g : Nat), a = some ⟨g, 0, none⟩ ∧ g < w.heap.size ∧ w.cell? ⟨g, k * 2, none⟩ = some (.slice f.a f.n f.cap) ∧ w.cell? ⟨g, k * 2 + 1, none⟩ = some (.slice o.a o.n o.cap) ∧ RepX w f.v o.v x := by
  obtain ⟨us, ds, h⟩ := h
  obtain ⟨u, d, g, -, -, h1, -, h2, h3, -, h4⟩ := h.at hr
  have h5 := h3 0 _ rfl
  have h6 := h3 1 _ rfl
  simp only [XE, Nat.add_zero] at h5 h6
  exact ⟨u.f, u.o, g, h1, h2, h5, h6, h4.now⟩

theorem dropP_flat (p : List (List Ins)) : (dropP p).flatten.length ≤ p.flatten.length := by
  induction p with
  | nil => exact Nat.le_refl _
  | cons r p ih =>
    have h1 : dropP (r :: p) = dropI r :: dropP p := rfl
    rw [h1, List.flatten_cons, List.flatten_cons, List.length_append, List.length_append]
    have h2 : (dropI r).length ≤ r.length := List.length_filter_le _ _
    omega

set_option maxRecDepth 100000 in
set_option maxHeartbeats 6400000 in
theorem lawFnExecFence (v : Value) (xs : List Int) (w : World) (h : Rep ByteE w v xs ∧ ∀ x ∈ xs, 0 ≤ x ∧ x ≤ 255) :
    Calls Try.prog 5 #[v] w fun e w' => e = .returned (.bool true) ∧ Below w.heap.size w w' := by
  obtain ⟨hx, hb⟩ := h
  obtain ⟨a0, c0, rfl, -, hm, -, hx⟩ := hx.open
  have HD := hide (DrawAllExecs_any (.slice a0 xs.length c0) xs w hx hb)
  clear hx hb
  generalize xs.length = n at *
  by_cases hl : (n : Int) > 1048576
  · go_enter Try.func5, Try.ntmps5
    go_wp2_with fail
    go_ret
    exact ⟨rfl, Below.refl _ _⟩
  · have hl' : decide ((n : Int) > 1048576) = false := decide_eq_false hl
    go_enter Try.func5, Try.ntmps5
    go_wp2_with fail
    (with_reducible refine HD.out.mono ?_); rintro e w1 ⟨v1, P, rfl, hP, hPl, hPr, hb1⟩
    have hfl := flatten_bound9 hPl hPr
    obtain ⟨pa, pc, rfl, -, hpc2, -, hP⟩ := hP.open
    have HP := hide hP; have HB1 := hide hb1
    have HA := hide (fun w' h => AllExecs_any (.slice pa P.length pc) P w' h (by omega))
    have HS := hide (fun w' h => sAllExecs_any (.slice pa P.length pc) P w' h (by omega) (by omega))
    have HV := hide (fun w' h => ProgramValid_any (.slice pa P.length pc) P w' h (by omega))
    have HDF := hide (fun w' h => DropFences_any (.slice pa P.length pc) P w' h (by omega))
    have HA2 := hide (fun v' w' h => AllExecs_any v' (dropP P) w' h (by have := dropP_flat P; omega))
    have HQ : Hid (progValid P = true → dropV P = dropP P ∧ allXV (dropP P) = allXV P) := hide (fun h => ⟨by unfold dropV; rw [if_pos h], by unfold allXV; rw [if_pos h, if_pos (progValid_drop h), allX_drop]⟩)
    have HEL : Hid ((allXV P).length ≤ 3000) := hide (by
      unfold allXV
      split
      · exact allX_le ‹_›
      · simp)
    clear hP hb1 HD hPr hPl hfl
    generalize P.length = pn at *
    generalize progValid P = pv at *
    generalize dropV P = DV at *
    generalize dropP P = DP at *
    generalize allXV DP = E2 at *
    generalize allXV P = E at *
    go_wp2_with fail
    (with_reducible refine (HA.out _ HP.out).mono ?_); rintro e w2 ⟨⟨la, ln, lc⟩, rfl, hr2, hb2⟩
    obtain rfl : ln = E.length := RowsX.len hr2
    have HR2 := hide hr2; have HB2 := hide hb2
    have HP2 := hide (HP.out.below hb2)
    clear hr2 hb2 HA HP
    go_wp2_with fail
    (with_reducible refine (HS.out _ HP2.out).mono ?_); rintro e w3 ⟨⟨sa, sn, sc⟩, rfl, hr3, hb3⟩
    obtain rfl : sn = E.length := RowsX.len hr3
    have HR3 := hide (OwnF.below HR2.out hb3); have HB3 := hide (HB2.out.trans (hb3.mono HB2.out.size))
    have HP3 := hide (HP2.out.below hb3)
    clear hr3 hb3 HR2 HB2 HP2
    generalize hen : E.length = en at *
    have HN := hide hen; clear hen
    have hen3 : en ≤ 3000 := HEL.out
    go_wp2_with fail
    (with_reducible refine (HV.out _ HP3.out).mono ?_); rintro e w4 ⟨rfl, hb4⟩
    have HR4 := hide (OwnF.below HR3.out hb4); have HB4 := hide (HB3.out.trans (hb4.mono HB3.out.size))
    have HP4 := hide (HP3.out.below hb4)
    clear hb4 HR3 HB3 HP3 HV
    cases pv
    · go_wp2_with fail
      (with_reducible refine (HS.out _ HP4.out).mono ?_); rintro e w5 ⟨⟨ta, tn, tc⟩, rfl, hr5, hb5⟩
      have htn := RowsX.len hr5
      rw [HN.out] at htn
      subst htn
      clear hr5
      go_wp2_with fail
      go_ret
      exact ⟨by simp, HB1.out.trans ((HB4.out.trans (hb5.mono HB4.out.size)).mono HB1.out.size)⟩
    · obtain ⟨hq1, hq2⟩ := HQ.out rfl
      subst hq1; subst hq2
      go_wp2_with fail
      (with_reducible refine (HDF.out _ HP4.out).mono ?_); rintro e w5 ⟨v5, rfl, ho5, hb5⟩
      have HR5 := hide (OwnF.below HR4.out hb5); have HB5 := hide (HB4.out.trans (hb5.mono HB4.out.size))
      have HC5 := hide (HA2.out v5 _ ho5.rep)
      clear hb5 ho5 HR4 HB4 HP4 HDF HA2
      go_wp2_with fail
      (with_reducible refine HC5.out.mono ?_); rintro e w6 ⟨⟨ka, kn, kc⟩, rfl, hr6, hb6⟩
      have hkn := RowsX.len hr6
      rw [HN.out] at hkn
      subst hkn
      have HK6 := hide hr6
      have HR6 := hide (OwnF.below HR5.out hb6); have HB6 := hide (HB5.out.trans (hb6.mono HB5.out.size))
      clear hr6 hb6 HR5 HB5 HC5
      go_wp2_with fail
      go_loopw [8] (fun i wr => ∃ k : Nat, k ≤ kn ∧ i = .int .i64 k ∧ Below w6.heap.size w6 wr) (fun i _ => kn - (intOf i).toNat)
      case atStart => exact ⟨0, Nat.zero_le _, rfl, Below.refl _ _⟩
      case round =>
        obtain ⟨k, hk, rfl, hb⟩ := hrel
        by_cases hlt : k < kn
        · obtain ⟨x, hxk⟩ := get_of_lt (xs := E2) (k := k) (by rw [HN.out]; exact hlt)
          obtain ⟨f, o, g, hga, hg, c0', c1', hX⟩ := RowsX.row (OwnF.below HR6.out hb) hxk
          obtain ⟨f', o', g', hga', hg', e0', e1', hX'⟩ := RowsX.row (OwnF.below HK6.out hb) hxk
          subst hga; subst hga'
          have hlt' := nat_of_lt hlt
          have HC := hide (fun (y : BW wr) => ExecSame_any f o f' o' x x y.val (hX.below y.prop) (hX'.below y.prop))
          simp only [decide_true] at HC
          have HBB := hide hb
          clear hxk hX hX' hb
          go_wp2_with fail
          refine wp_region_bw (by kernel_rfl) (by kernel_rfl) ?_
          repeat (go_big_quiet_step ((go_at_call 20; (with_reducible exact Calls.bw (HC.out _)))))
          refine wpQuiet_nil ?_
          intro w7 hb7
          go_wp2_with fail
          go_roundw
          case rel => exact ⟨k + 1, by omega, by go_num, HBB.out.trans (hb7.mono HBB.out.size)⟩
          case measure => simp [intOf]; omega
        · obtain rfl : k = kn := by omega
          have hkg : decide ((k : Int) < (k : Int)) = false := by simp
          have hkg2 : decide (k < k) = false := by simp
          go_wp2_with fail
          go_ret
          exact ⟨by simp, HB1.out.trans ((HB6.out.trans (hb.mono HB6.out.size)).mono HB1.out.size)⟩

end Go.Proofs.Ytblheabgjjeigaa

namespace Go.Proofs.Ytblheabgjjeigaa
open Go.RowKit Go.ChangeShapes Go.WideShapes Go.ChangeAt
open Go.ChangeMaps (open_string)

theorem fnExecFence_reads : ∀ t ∈ Try.f5.params.toList, Try.prog.readableRec t = true ∧ t < Try.prog.types.size := by
  intro t ht
  have : t = 22 := by simpa [Try.params5] using ht
  subst this
  exact ⟨by kernel_rfl, of_decide_eq_true (by kernel_rfl)⟩

set_option maxRecDepth 100000 in
theorem fnExecFence_lifted (os : Os) (started : os.Started) (H : Type) (enc : TypeId × Value → H) :
    ReturnsInHanded {} Try.checked os 5 .any (Rows.fnExecFenceSpec.pre6 enc Try.prog Try.f5 Rows.fnExecFenceRow.domain false) (Rows.fnExecFenceSpec.post enc Try.prog Try.f5 false true false false) := by
  refine returnsInHanded_of_change (C := Try.checked) Try.own started (by kernel_rfl) Try.func5
    (ChangeSpec.witness6 (enc := enc) (C := Try.checked) false ⟨#[], #[.slice none 0 0], []⟩ 8 (by kernel_rfl) (by kernel_rfl) (by kernel_rfl) (by kernel_rfl)) ?_
  intro W base args ds gs before hval0 hW hcnd _
  have hval : ∀ (j : Nat) t v, Try.f5.params[j]? = some t → args[j]? = some v → Value.okWide Try.prog W .any base t v := hval0
  have hW' := hW
  obtain ⟨p, q, hA0, hV, rfl, hfz, hnd⟩ := hW
  have hA : DataW.TrodAll enc Try.prog W 0 (fun _ => true) true Try.f5.params.toList args.toList ds p := hA0
  rw [Try.params5] at hA hval
  obtain ⟨v0, d0, rfl, rfl, h0⟩ := trodAll_one hA
  obtain ⟨rfl, rfl⟩ := trodVars_none hV
  obtain ⟨B0, hB0⟩ := bytes_of_trod (okWide_slice Try.underlying22 (hval 0 22 v0 rfl rfl)) h0
  refine (lawFnExecFence v0 B0 W hB0).mono fun e W' ⟨he, hb⟩ => ?_
  exact ⟨_, he, post_law Try.laidOut fnExecFence_reads rfl rfl (by kernel_rfl) Try.underlying4 hW' hb⟩

theorem fnExecFence_holds : Rows.FnExecFenceSaid :=
  OpenClaim.holds_of_wide 5 Try.f5 rfl rfl rfl rfl rfl rfl rfl ⟨rfl, rfl, rfl, rfl, rfl⟩ rfl rfl rfl rfl rfl (by kernel_rfl) Try.func5 (by kernel_rfl)
    (of_decide_eq_true (by kernel_rfl)) (by unfold Func.isWrapper; first | (rw [if_pos (by decide +kernel)]; kernel_rfl) | (rw [if_neg (by decide +kernel)]; exact ⟨rfl, rfl⟩))
    (fun os started H enc _ => fnExecFence_lifted os started H enc)

end Go.Proofs.Ytblheabgjjeigaa
