/-
  Programs that are drawn. Condition: not too many numbers were taken.
-/
import Derived.Test.YtpnmphfdfadlcaaD10
namespace Go.Proofs.Ytpnmphfdfadlcaa
open Go.RowKit

theorem Own2U.outside {α : Type} {E : El α} {T1 T2 : TypeId} {b : Nat} {us : List Slc} {w w' : World} {base : Nat} {v : Value} {p : List (List α)} (h : Own2U E T1 T2 us w base v p) (ho : Outside b (b + 1) w w') (hb : b < base) : Own2U E T1 T2 us w' base v p := by
  obtain ⟨h1, h2, h3, h4, h5⟩ := h
  exact ⟨h1, ho.ownHi h2 hb, fun i u r hu hr => ho.ownHi (h3 i u r hu hr) hb, h4, h5⟩

theorem Own2.outside {α : Type} {E : El α} {T1 T2 : TypeId} {b : Nat} {w w' : World} {base : Nat} {v : Value} {p : List (List α)} (h : Own2 E T1 T2 w base v p) (ho : Outside b (b + 1) w w') (hb : b < base) : Own2 E T1 T2 w' base v p :=
  h.outHi ho hb

/-- A row of the call's own is appended; the worlds need not lie below. -/
theorem Own2U.app2 {α : Type} {E : El α} {T1 T2 : TypeId} (hT : T1 ≠ T2) {us : List Slc} {w1 w2 : World} {base B : Nat} {v v' : Value} {p : List (List α)} (h : Own2U E T1 T2 us w1 base v p)
    (hold : ∀ (i : Nat) (u' : Slc), us[i]? = some u' → ∀ q, u'.v.ownBlock = some q → q < B) (hbase : base ≤ B) {r : List α} {s : Slc}
    (hu : Own E T2 w1 B s.v r) (h2'' : Own SlcE T1 w2 base v' (us ++ [s])) (hg : w1.grownBy w2 v.ownBlock) : Own2 E T1 T2 w2 base v' (p ++ [r]) := by
  obtain ⟨h1, h2', h3, h4, h5⟩ := h
  have hnew : ∀ q, s.v.ownBlock = some q → B ≤ q := fun q hq => (World.ownsRow.lt hu q hq).1
  have split : ∀ (i : Nat) (u' : Slc), (us ++ [s])[i]? = some u' → (i = us.length ∧ u' = s) ∨ (i < us.length ∧ us[i]? = some u') := fun i u' hi => by
    by_cases hlt : i < us.length
    · rw [List.getElem?_append_left hlt] at hi; exact .inr ⟨hlt, hi⟩
    · rw [List.getElem?_append_right (by omega)] at hi
      have : i - us.length = 0 := by
        rcases Nat.eq_zero_or_pos (i - us.length) with h | h
        · exact h
        · rw [List.getElem?_eq_none (by simp; omega)] at hi; cases hi
      rw [this] at hi; simp at hi
      exact .inl ⟨by omega, hi.symm⟩
  have hus : Own E T2 w2 base s.v r := (hu.mono hbase).grown hg (by
    rcases hq : s.v.ownBlock with _ | q
    · exact .inl rfl
    · exact .inr (fun e => own_ne hT h2' hu q hq e.symm))
  have hrows : ∀ (i : Nat) (u : Slc) (r' : List α), us[i]? = some u → p[i]? = some r' → Own E T2 w2 base u.v r' := fun i u r' hi hr' =>
    (h3 i u r' hi hr').grown hg (by
      rcases hq : u.v.ownBlock with _ | q
      · exact .inl rfl
      · exact .inr (fun e => h5 i u hi q hq e.symm))
  refine ⟨us ++ [s], by simp [h1], h2'', ?_, ?_, ?_⟩
  · intro i u r' hi hr'
    rcases split i u hi with ⟨e1, e2⟩ | ⟨hlt, hi'⟩
    · rw [e1, List.getElem?_append_right (by omega), h1, Nat.sub_self] at hr'
      simp at hr'
      rw [e2, ← hr']; exact hus
    · rw [List.getElem?_append_left (by omega)] at hr'
      exact hrows i u r' hi' hr'
  · intro i j u u' hi hj hij q hq hq'
    rcases split i u hi with ⟨e1, e2⟩ | ⟨hlt, hi'⟩
    · rcases split j u' hj with ⟨e3, e4⟩ | ⟨hlt', hj'⟩
      · omega
      · rw [e2] at hq; have a1 := hnew q hq; have a2 := hold j u' hj' q hq'; omega
    · rcases split j u' hj with ⟨e3, e4⟩ | ⟨hlt', hj'⟩
      · rw [e4] at hq'; have a1 := hnew q hq'; have a2 := hold i u hi' q hq; omega
      · exact h4 i j u u' hi' hj' hij q hq hq'
  · intro i u hi q hq
    rcases split i u hi with ⟨e1, e2⟩ | ⟨hlt, hi'⟩
    · rw [e2] at hq; exact own_ne hT h2'' hus q hq
    · obtain ⟨r', hr'⟩ := get_of_lt (xs := p) (k := i) (by omega)
      exact own_ne hT h2'' (hrows i u r' hi' hr') q hq

theorem Own.rowGe {α : Type} {E : El α} {T : TypeId} {w : World} {base : Nat} {v : Value} {xs : List α} (h : Own E T w base v xs) : ∀ q, v.ownBlock = some q → base ≤ q := fun q hq => (World.ownsRow.lt h q hq).1

theorem OneOf.open3 {x y z : Int} {v : Value} {w : World} (h : OneOf [x, y, z] v w) : ∃ u, v = .int .i64 u ∧ (u = x ∨ u = y ∨ u = z) := by
  obtain ⟨u, hu, rfl⟩ := h
  exact ⟨u, rfl, by simpa using hu⟩
theorem OneOf.open5 {x y z s t : Int} {v : Value} {w : World} (h : OneOf [x, y, z, s, t] v w) : ∃ u, v = .int .i64 u ∧ (u = x ∨ u = y ∨ u = z ∨ u = s ∨ u = t) := by
  obtain ⟨u, hu, rfl⟩ := h
  exact ⟨u, rfl, by simpa using hu⟩

set_option maxRecDepth 100000 in
set_option maxHeartbeats 3200000 in
theorem l1Draw_any (b : Nat) (a : Option Addr) (c : Nat) (xs : List Int) (p : Int) (w : World) (hr : Rd w b a c xs p) (hp : p ≤ 800000000) :
    Calls Try.prog 195 #[.pointer (some ⟨b, 0, none⟩)] w (RetRd w b a c xs p 60 (QP w.heap.size)) := by
  have HP := hide (fun (p : Int) n w' h hp (hn : n ≤ 100) (hn0 : 0 ≤ n) => pick_any b a c xs p n w' h hp (by omega) (by omega))
  have HI := hide (fun (p : Int) w' h hp => l1Instr_any b a c xs p w' h hp)
  have HN3 := hide (fun (p : Int) w' G hG hb h hp => numLit3 b a c xs p 2 3 1 w' G hG hb h hp)
  have HN5 := hide (fun (p : Int) w' G hG hb h hp => numLit5 b a c xs p 2 1 3 2 0 w' G hG hb h hp)
  have hlt := hr.lt
  have R0 := hide hr
  clear hr
  go_enter Try.func195, Try.ntmps195
  go_wp2_with fail
  (with_reducible refine (l1Tests_any w).mono ?_); rintro e w1 ⟨rfl, hl1, hb1⟩
  have R1 := hide (R0.out.keep hb1 hlt); have O1 := hide (Outside.of_below (lo := b) (hi := b + 1) hb1); have L1 := hide hl1
  clear hb1 hl1 R0
  go_wp2_with fail
  (with_reducible refine (HP.out p _ _ R1.out (by omega) (by omega) (by omega)).mono ?_); rintro e w2 ⟨v2, p2, rfl, ⟨q2, rfl, hq2, -⟩, hp2, hr2, ho2⟩
  have R2 := hide hr2; have O2 := hide (O1.out.trans ho2); have L2 := hide (ho2.ownHi L1.out hlt)
  clear hr2 ho2 R1 O1 L1
  by_cases hq : 0 < q2
  · go_wp2_with fail
    (with_reducible refine (HP.out p2 _ _ R2.out (by omega) (by omega) (by omega)).mono ?_); rintro e w3 ⟨v3, p3, rfl, ⟨q3, rfl, hq3, hq3'⟩, hp3, hr3, ho3⟩
    obtain ⟨Q, rfl⟩ := Int.eq_ofNat_of_zero_le hq3
    have hQ : Q < 21 := by have := hq3' (by omega); omega
    have R3 := hide hr3; have O3 := hide (O2.out.trans ho3)
    have hl3 := ho3.ownHi L2.out hlt
    obtain ⟨x, hx⟩ := get_of_lt (xs := testTexts) (k := Q) (by have : testTexts.length = 21 := rfl; omega)
    have hxs := testTexts_le x (List.mem_of_getElem? hx)
    obtain ⟨g, o, he, hgl, i0⟩ := hl3.rep.str hx
    simp only [Option.some.injEq, Addr.mk.injEq, and_true] at he
    obtain ⟨he1, he2⟩ := he
    rw [← he1, ← he2, Nat.zero_add] at i0
    rw [← he1] at hgl
    have HS := hide (fun w' => sParseProgram_any x w' hxs)
    clear hr3 ho3 R2 O2 L2 hl3 hx hxs he1 he2
    go_wp2_with fail
    (with_reducible refine (HS.out _).mono ?_); rintro e w4 ⟨v4, ok, rfl, hQP, hb4⟩
    have hsz := O3.out.size
    have hQP : Hid (QP w.heap.size v4 w4) := hide (by
      obtain ⟨P, h1, h2, h3⟩ := hQP
      exact ⟨P, h1.mono hsz, h2, h3⟩)
    have R4 := hide (R3.out.keep hb4 R3.out.lt); have O4 := hide (O3.out.trans (Outside.of_below hb4))
    clear hb4 R3 O3 HS i0 hgl
    by_cases hok : ok = true
    · subst hok
      go_wp2_with fail
      go_ret
      exact ⟨_, p3, rfl, hQP.out, by omega, R4.out, O4.out⟩
    · obtain rfl : ok = false := by simpa using hok
      clear hok
      have hsK4 := O4.out.size
      go_wp2_with fail
      (with_reducible refine (HN3.out p3 _ _ (by simp) (by omega) ((R4.out.allocNew _).allocNew _) (by omega)).mono ?_); rintro e wa ⟨va, pa, rfl, hone, hpa, hra, hoa⟩
      obtain ⟨y, rfl, hy⟩ := hone.open3
      have RA := hide hra; have OA := hide (((O4.out.allocNew (.cells #[] 73)).allocNew (.cells #[.int .i64 2, .int .i64 3, .int .i64 1] 3)).trans hoa)
      have UA := hide ((((Own2.empty (E := InsE) 73 72 w4 hsK4).below (belowAlloc _ _))).outside hoa hlt)
      obtain ⟨Y, rfl⟩ : ∃ Y : Nat, y = (Y : Int) := ⟨y.toNat, by omega⟩
      have hY : Y ≤ 3 := by omega
      clear hra hoa hone R4 O4 hy
      go_wp2_with fail
      go_loopw [6, 7] (fun v i wr => ∃ (m : Nat) (P : List (List Ins)) (pp : Int), i = .int .i64 m ∧ P.length + m ≤ 3 ∧ (∀ r ∈ P, r.length ≤ 3) ∧ OwnP wr w.heap.size v P ∧ Rd wr b a c xs pp ∧ pp + 14 * m ≤ p3 + 50 ∧ Outside b (b + 1) w wr) (fun _ i _ => (intOf i).toNat)
      case atStart => exact ⟨Y, [], pa, rfl, by simpa using hY, by simp, UA.out, RA.out, by omega, OA.out⟩
      case round =>
        obtain ⟨m, P, pp, rfl, hPl, hPr, ho, hR, hpp, hO⟩ := hrel
        obtain ⟨wm, rfl⟩ : ∃ wm : World, wm = wr := ⟨_, rfl⟩
        clear RA OA UA
        by_cases hm : 0 < m
        · have hm' : (0 : Int) < m := by omega
          have hsm := hO.size
          obtain ⟨us, hU, hold⟩ := ho.told
          have hub : us.length ≤ 68719476736 := by rw [hU.1]; omega
          have HU := hide hU; have HOLD := hide hold; have RM := hide hR; have OM := hide hO; have HPR := hide hPr
          clear ho hR hO hU hold hPr
          go_wp2_with fail
          (with_reducible refine (HN5.out pp _ _ (by simp) (by omega) ((RM.out.allocNew _).allocNew _) (by omega)).mono ?_); rintro e wb ⟨vb, pb, rfl, hone, hpb, hrb, hob⟩
          obtain ⟨z, rfl, hz⟩ := hone.open5
          have RB := hide hrb; have OB := hide ((((Outside.refl b (b + 1) wm).allocNew (.cells #[] 72)).allocNew (.cells #[.int .i64 2, .int .i64 1, .int .i64 3, .int .i64 2, .int .i64 0] 3)).trans hob)
          have LB := hide (hob.ownHi ((Own.empty (E := InsE) 72 wm (Nat.le_refl _)).alloc (.cells #[.int .i64 2, .int .i64 1, .int .i64 3, .int .i64 2, .int .i64 0] 3)) (show b < wm.heap.size by omega))
          obtain ⟨Z, rfl⟩ : ∃ Z : Nat, z = (Z : Int) := ⟨z.toNat, by omega⟩
          have hZ : Z ≤ 3 := by omega
          clear hrb hob hone hz
          go_wp2_with fail
          go_loopw [8, 9] (fun l k wr' => ∃ (n : Nat) (ys : List Ins) (pq : Int), k = .int .i64 n ∧ ys.length + n ≤ 3 ∧ OwnI wr' wm.heap.size l ys ∧ Rd wr' b a c xs pq ∧ pq + 4 * n ≤ pb + 12 ∧ Outside b (b + 1) wm wr') (fun _ k _ => (intOf k).toNat)
          case atStart => exact ⟨Z, [], pb, rfl, by simpa using hZ, LB.out, RB.out, by omega, OB.out⟩
          case round =>
            obtain ⟨n, ys, pq, rfl, hyl, hl, hR, hpq, hO⟩ := hrel
            clear RB OB LB
            by_cases hn : 0 < n
            · have hn' : (0 : Int) < n := by omega
              have RW := hide hR; have OW := hide hO; have LW := hide hl
              clear hR hO hl
              go_wp2_with fail
              (with_reducible refine (HI.out pq _ RW.out (by omega)).mono ?_); rintro e wc ⟨vc, pc, rfl, ⟨io, il, ir, ix, rfl⟩, hpc, hrc, hoc⟩
              have hlc := hide (hoc.ownHi LW.out (show b < wm.heap.size by omega))
              have RC := hide hrc; have OC := hide (OW.out.trans hoc)
              have hsz := OC.out.size
              have hyl64 : ys.length ≤ 68719476736 := by omega
              clear hrc hoc RW OW LW
              go_wp2_with (at_builtin; refine wpList_app InsE 72 Try.infoIns rfl Try.underlying73 wm.heap.size _ ys ⟨io, il, ir, ix⟩ (hlc.out.alloc _) (by decide) hyl64 (by simp; omega) rfl _ _ rfl rfl _ 0 1 rfl news_alloc ?_; intro v6 w6 ho6 hgr6)
              have R6 := (RC.out.allocNew _).grownNew hgr6 (fun q hq => by have := hlc.out.rowGe q hq; omega)
              have O6 := (OC.out.allocNew _).grownNew hgr6 (fun q hq => hlc.out.rowGe q hq)
              go_roundw
              case rel => exact ⟨n - 1, ys ++ [⟨io, il, ir, ix⟩], pc, by go_num, by simp; omega, ho6, R6, by omega, O6⟩
              case measure => simp [intOf]; omega
            · obtain rfl : n = 0 := by omega
              obtain ⟨la, ln, lc, rfl, hln⟩ := hl.toSl
              have hU3 := hide (HU.out.outside hO hlt)
              have HL := hide hl; have RW := hide hR; have OW := hide hO
              have hsz := hO.size
              clear hl hR hO hln
              go_wp2_with (at_builtin; refine wpList_app SlcE 73 Try.infoInsS rfl Try.underlying34 w.heap.size _ us ⟨la, ln, lc⟩ (hU3.out.2.1.alloc _) (by decide) hub (by simp; omega) rfl _ _ rfl rfl _ 0 1 rfl news_alloc ?_; intro v5 w5 ho5 hgr5)
              have ho6 := (hU3.out.below (belowAlloc _ _)).app2 (by decide) (fun i u hu q hq => (HOLD.out i u hu q hq).2) hsm (s := ⟨la, ln, lc⟩) (HL.out.alloc _) ho5 hgr5
              have R6 := (RW.out.allocNew _).grownNew hgr5 (fun q hq => by have := hU3.out.2.1.rowGe q hq; omega)
              have O6 := ((OM.out.trans OW.out).allocNew _).grownNew hgr5 (fun q hq => hU3.out.2.1.rowGe q hq)
              go_roundw
              case rel => exact ⟨m - 1, P ++ [ys], pq, by go_num, by simp; omega, by
                intro r hr
                rcases List.mem_append.1 hr with h | h
                · exact HPR.out r h
                · rw [List.mem_singleton.1 h]; omega, ho6, R6, by omega, O6⟩
              case measure => simp [intOf]; omega
        · obtain rfl : m = 0 := by omega
          obtain ⟨us, hU, -⟩ := ho.told
          obtain ⟨oa, on, oc, rfl, hon⟩ := hU.2.1.toSl
          have hfl : P.flatten.length ≤ 1048576 := by
            have := flatten_bound P 3 hPr
            have : P.length * 3 ≤ 3 * 3 := Nat.mul_le_mul_right _ (by omega)
            omega
          have HV := hide (fun w' h => sProgramValid_any (.slice oa on oc) P w' h hfl (by omega))
          have HO := hide ho; have RM := hide hR; have OM := hide hO; have HPR := hide hPr
          clear hU hon ho hR hO hPr hfl
          go_wp2_with fail
          (with_reducible refine (HV.out _ HO.out.rep).mono ?_); rintro e w4 ⟨rfl, hb4⟩
          have R4 := hide (RM.out.keep hb4 RM.out.lt); have O4 := hide (OM.out.trans (Outside.of_below hb4)); have HO4 := hide (HO.out.below hb4)
          clear hb4 HO RM OM HV
          by_cases hv : progValid P = true
          · go_wp2_with fail
            go_ret
            exact ⟨_, pp, rfl, ⟨P, HO4.out, by omega, fun r hr => Nat.le_trans (HPR.out r hr) (by omega)⟩, by omega, R4.out, O4.out⟩
          · have hv' : progValid P = false := by simpa using hv
            clear hv HO4
            go_wp2_with fail
            (with_reducible refine (HI.out pp _ R4.out (by omega)).mono ?_); rintro e wc ⟨vc, pc, rfl, ⟨io, il, ir, ix, rfl⟩, hpc, hrc, hoc⟩
            have RC := hide hrc; have OC := hide (O4.out.trans hoc)
            clear hrc hoc R4 O4
            have hsz := OC.out.size
            go_wp2_with fail
            go_ret
            exact ⟨_, pc, rfl, ⟨[[⟨io, il, ir, ix⟩]], own2_one hsz ⟨io, il, ir, ix⟩ rfl, by simp, by simp⟩, by omega, (RC.out.allocNew _).allocNew _, (OC.out.allocNew _).allocNew _⟩
  · have hq' : decide (0 < q2) = false := decide_eq_false hq
    clear hq
    have hsK2 := O2.out.size
    go_wp2_with fail
    (with_reducible refine (HN3.out p2 _ _ (by simp) (by omega) ((R2.out.allocNew _).allocNew _) (by omega)).mono ?_); rintro e wa ⟨va, pa, rfl, hone, hpa, hra, hoa⟩
    obtain ⟨y, rfl, hy⟩ := hone.open3
    have RA := hide hra; have OA := hide (((O2.out.allocNew (.cells #[] 73)).allocNew (.cells #[.int .i64 2, .int .i64 3, .int .i64 1] 3)).trans hoa)
    have UA := hide ((((Own2.empty (E := InsE) 73 72 w2 hsK2).below (belowAlloc _ _))).outside hoa hlt)
    obtain ⟨Y, rfl⟩ : ∃ Y : Nat, y = (Y : Int) := ⟨y.toNat, by omega⟩
    have hY : Y ≤ 3 := by omega
    clear hra hoa hone R2 O2 hy
    go_wp2_with fail
    go_loopw [6, 7] (fun v i wr => ∃ (m : Nat) (P : List (List Ins)) (pp : Int), i = .int .i64 m ∧ P.length + m ≤ 3 ∧ (∀ r ∈ P, r.length ≤ 3) ∧ OwnP wr w.heap.size v P ∧ Rd wr b a c xs pp ∧ pp + 14 * m ≤ p2 + 50 ∧ Outside b (b + 1) w wr) (fun _ i _ => (intOf i).toNat)
    case atStart => exact ⟨Y, [], pa, rfl, by simpa using hY, by simp, UA.out, RA.out, by omega, OA.out⟩
    case round =>
      obtain ⟨m, P, pp, rfl, hPl, hPr, ho, hR, hpp, hO⟩ := hrel
      obtain ⟨wm, rfl⟩ : ∃ wm : World, wm = wr := ⟨_, rfl⟩
      clear RA OA UA
      by_cases hm : 0 < m
      · have hm' : (0 : Int) < m := by omega
        have hsm := hO.size
        obtain ⟨us, hU, hold⟩ := ho.told
        have hub : us.length ≤ 68719476736 := by rw [hU.1]; omega
        have HU := hide hU; have HOLD := hide hold; have RM := hide hR; have OM := hide hO; have HPR := hide hPr
        clear ho hR hO hU hold hPr
        go_wp2_with fail
        (with_reducible refine (HN5.out pp _ _ (by simp) (by omega) ((RM.out.allocNew _).allocNew _) (by omega)).mono ?_); rintro e wb ⟨vb, pb, rfl, hone, hpb, hrb, hob⟩
        obtain ⟨z, rfl, hz⟩ := hone.open5
        have RB := hide hrb; have OB := hide ((((Outside.refl b (b + 1) wm).allocNew (.cells #[] 72)).allocNew (.cells #[.int .i64 2, .int .i64 1, .int .i64 3, .int .i64 2, .int .i64 0] 3)).trans hob)
        have LB := hide (hob.ownHi ((Own.empty (E := InsE) 72 wm (Nat.le_refl _)).alloc (.cells #[.int .i64 2, .int .i64 1, .int .i64 3, .int .i64 2, .int .i64 0] 3)) (show b < wm.heap.size by omega))
        obtain ⟨Z, rfl⟩ : ∃ Z : Nat, z = (Z : Int) := ⟨z.toNat, by omega⟩
        have hZ : Z ≤ 3 := by omega
        clear hrb hob hone hz
        go_wp2_with fail
        go_loopw [8, 9] (fun l k wr' => ∃ (n : Nat) (ys : List Ins) (pq : Int), k = .int .i64 n ∧ ys.length + n ≤ 3 ∧ OwnI wr' wm.heap.size l ys ∧ Rd wr' b a c xs pq ∧ pq + 4 * n ≤ pb + 12 ∧ Outside b (b + 1) wm wr') (fun _ k _ => (intOf k).toNat)
        case atStart => exact ⟨Z, [], pb, rfl, by simpa using hZ, LB.out, RB.out, by omega, OB.out⟩
        case round =>
          obtain ⟨n, ys, pq, rfl, hyl, hl, hR, hpq, hO⟩ := hrel
          clear RB OB LB
          by_cases hn : 0 < n
          · have hn' : (0 : Int) < n := by omega
            have RW := hide hR; have OW := hide hO; have LW := hide hl
            clear hR hO hl
            go_wp2_with fail
            (with_reducible refine (HI.out pq _ RW.out (by omega)).mono ?_); rintro e wc ⟨vc, pc, rfl, ⟨io, il, ir, ix, rfl⟩, hpc, hrc, hoc⟩
            have hlc := hide (hoc.ownHi LW.out (show b < wm.heap.size by omega))
            have RC := hide hrc; have OC := hide (OW.out.trans hoc)
            have hsz := OC.out.size
            have hyl64 : ys.length ≤ 68719476736 := by omega
            clear hrc hoc RW OW LW
            go_wp2_with (at_builtin; refine wpList_app InsE 72 Try.infoIns rfl Try.underlying73 wm.heap.size _ ys ⟨io, il, ir, ix⟩ (hlc.out.alloc _) (by decide) hyl64 (by simp; omega) rfl _ _ rfl rfl _ 0 1 rfl news_alloc ?_; intro v6 w6 ho6 hgr6)
            have R6 := (RC.out.allocNew _).grownNew hgr6 (fun q hq => by have := hlc.out.rowGe q hq; omega)
            have O6 := (OC.out.allocNew _).grownNew hgr6 (fun q hq => hlc.out.rowGe q hq)
            go_roundw
            case rel => exact ⟨n - 1, ys ++ [⟨io, il, ir, ix⟩], pc, by go_num, by simp; omega, ho6, R6, by omega, O6⟩
            case measure => simp [intOf]; omega
          · obtain rfl : n = 0 := by omega
            obtain ⟨la, ln, lc, rfl, hln⟩ := hl.toSl
            have hU3 := hide (HU.out.outside hO hlt)
            have HL := hide hl; have RW := hide hR; have OW := hide hO
            have hsz := hO.size
            clear hl hR hO hln
            go_wp2_with (at_builtin; refine wpList_app SlcE 73 Try.infoInsS rfl Try.underlying34 w.heap.size _ us ⟨la, ln, lc⟩ (hU3.out.2.1.alloc _) (by decide) hub (by simp; omega) rfl _ _ rfl rfl _ 0 1 rfl news_alloc ?_; intro v5 w5 ho5 hgr5)
            have ho6 := (hU3.out.below (belowAlloc _ _)).app2 (by decide) (fun i u hu q hq => (HOLD.out i u hu q hq).2) hsm (s := ⟨la, ln, lc⟩) (HL.out.alloc _) ho5 hgr5
            have R6 := (RW.out.allocNew _).grownNew hgr5 (fun q hq => by have := hU3.out.2.1.rowGe q hq; omega)
            have O6 := ((OM.out.trans OW.out).allocNew _).grownNew hgr5 (fun q hq => hU3.out.2.1.rowGe q hq)
            go_roundw
            case rel => exact ⟨m - 1, P ++ [ys], pq, by go_num, by simp; omega, by
              intro r hr
              rcases List.mem_append.1 hr with h | h
              · exact HPR.out r h
              · rw [List.mem_singleton.1 h]; omega, ho6, R6, by omega, O6⟩
            case measure => simp [intOf]; omega
      · obtain rfl : m = 0 := by omega
        obtain ⟨us, hU, -⟩ := ho.told
        obtain ⟨oa, on, oc, rfl, hon⟩ := hU.2.1.toSl
        have hfl : P.flatten.length ≤ 1048576 := by
          have := flatten_bound P 3 hPr
          have : P.length * 3 ≤ 3 * 3 := Nat.mul_le_mul_right _ (by omega)
          omega
        have HV := hide (fun w' h => sProgramValid_any (.slice oa on oc) P w' h hfl (by omega))
        have HO := hide ho; have RM := hide hR; have OM := hide hO; have HPR := hide hPr
        clear hU hon ho hR hO hPr hfl
        go_wp2_with fail
        (with_reducible refine (HV.out _ HO.out.rep).mono ?_); rintro e w4 ⟨rfl, hb4⟩
        have R4 := hide (RM.out.keep hb4 RM.out.lt); have O4 := hide (OM.out.trans (Outside.of_below hb4)); have HO4 := hide (HO.out.below hb4)
        clear hb4 HO RM OM HV
        by_cases hv : progValid P = true
        · go_wp2_with fail
          go_ret
          exact ⟨_, pp, rfl, ⟨P, HO4.out, by omega, fun r hr => Nat.le_trans (HPR.out r hr) (by omega)⟩, by omega, R4.out, O4.out⟩
        · have hv' : progValid P = false := by simpa using hv
          clear hv HO4
          go_wp2_with fail
          (with_reducible refine (HI.out pp _ R4.out (by omega)).mono ?_); rintro e wc ⟨vc, pc, rfl, ⟨io, il, ir, ix, rfl⟩, hpc, hrc, hoc⟩
          have RC := hide hrc; have OC := hide (O4.out.trans hoc)
          clear hrc hoc R4 O4
          have hsz := OC.out.size
          go_wp2_with fail
          go_ret
          exact ⟨_, pc, rfl, ⟨[[⟨io, il, ir, ix⟩]], own2_one hsz ⟨io, il, ir, ix⟩ rfl, by simp, by simp⟩, by omega, (RC.out.allocNew _).allocNew _, (OC.out.allocNew _).allocNew _⟩

end Go.Proofs.Ytpnmphfdfadlcaa
