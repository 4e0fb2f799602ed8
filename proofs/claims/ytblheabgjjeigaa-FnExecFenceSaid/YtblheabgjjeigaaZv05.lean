/-
  The laws' own functions on lists of lists of numbers: size, copy, equality (after the ones on lists). No condition but bounds on lengths.
-/
import Derived.Test.YtblheabgjjeigaaZv04
import Derived.Test.YtblheabgjjeigaaZv02
import Derived.Test.YtblheabgjjeigaaZv03
import Derived.Deep.RegionHeld3
import Derived.Deep.DeepCutAuto
import Derived.Deep.AppendLies
import Derived.Test.YtblheabgjjeigaaZv00
namespace Go.Proofs.Ytblheabgjjeigaa
open Go.RowKit

theorem Own2U.outside {α : Type} {E : El α} {T1 T2 : TypeId} {b : Nat} {us : List Slc} {w w' : World} {base : Nat} {v : Value} {p : List (List α)} (h : Own2U E T1 T2 us w base v p) (ho : Outside b (b + 1) w w') (hb : b < base) : Own2U E T1 T2 us w' base v p := by
  obtain ⟨h1, h2, h3, h4, h5⟩ := h
  exact ⟨h1, ho.ownHi h2 hb, fun i u r hu hr => ho.ownHi (h3 i u r hu hr) hb, h4, h5⟩

theorem Own2.outside {α : Type} {E : El α} {T1 T2 : TypeId} {b : Nat} {w w' : World} {base : Nat} {v : Value} {p : List (List α)} (h : Own2 E T1 T2 w base v p) (ho : Outside b (b + 1) w w') (hb : b < base) : Own2 E T1 T2 w' base v p :=
  h.outHi ho hb

/-- A row of the call's own is appended; the worlds need not lie below. -/
theorem Own2U.app2 {α : Type} {E : El α} {T1 T2 : TypeId} (hT : T1 ≠ T2) {us : List Slc} {w1 w2 : World} {base B : Nat} {v v' : Value} {p : List (List α)} (h : Own2U E T1 T2 us w1 base v p)
    (hold : ∀ (i : Nat) (u' : Slc), us[i]? = some u' → ∀ q, u'.v.ownBlock = some q → q < B) (hbase : base ≤ B) {r : List α} {s : Slc}
    (hu : Own E T2 w1 B s.v r) (h2'' : Own SlcE T1 w2 base v' (us ++ [s])) (hg : w1.grownBy w2 v.ownBlock) : Own2 E T1 T2 w2 base v' (p ++ [r]) := by
  obtain ⟨h1, h2', h3, h4, h5⟩ := h
  have hnew : ∀ q, s.v.ownBlock = some q → B ≤ q := fun q hq => (World.ownsRow.lt hu q hq).1
  have split : ∀ (i : Nat) (u' : Slc), (us ++ [s])[i]? = some u' → (i = us.length ∧ u' = s) ∨ (i < us.length ∧ us[i]? = some u') := fun i u' hi => by
    by_cases hlt : i < us.length
    · rw [List.getElem?_append_left hlt] at hi; exact .inr ⟨hlt, hi⟩
    · rw [List.getElem?_append_right (by omega)] at hi
      have : i - us.length = 0 := by
        rcases Nat.eq_zero_or_pos (i - us.length) with h | h
        · exact h
        · rw [List.getElem?_eq_none (by simp; omega)] at hi; cases hi
      rw [this] at hi; simp at hi
      exact .inl ⟨by omega, hi.symm⟩
  have hus : Own E T2 w2 base s.v r := (hu.mono hbase).grown hg (by
    rcases hq : s.v.ownBlock with _ | q
    · exact .inl rfl
    · exact .inr (fun e => own_ne hT h2' hu q hq e.symm))
  have hrows : ∀ (i : Nat) (u : Slc) (r' : List α), us[i]? = some u → p[i]? = some r' → Own E T2 w2 base u.v r' := fun i u r' hi hr' =>
    (h3 i u r' hi hr').grown hg (by
      rcases hq : u.v.ownBlock with _ | q
      · exact .inl rfl
      · exact .inr (fun e => h5 i u hi q hq e.symm))
  refine ⟨us ++ [s], by simp [h1], h2'', ?_, ?_, ?_⟩
  · intro i u r' hi hr'
    rcases split i u hi with ⟨e1, e2⟩ | ⟨hlt, hi'⟩
    · rw [e1, List.getElem?_append_right (by omega), h1, Nat.sub_self] at hr'
      simp at hr'
      rw [e2, ← hr']; exact hus
    · rw [List.getElem?_append_left (by omega)] at hr'
      exact hrows i u r' hi' hr'
  · intro i j u u' hi hj hij q hq hq'
    rcases split i u hi with ⟨e1, e2⟩ | ⟨hlt, hi'⟩
    · rcases split j u' hj with ⟨e3, e4⟩ | ⟨hlt', hj'⟩
      · omega
      · rw [e2] at hq; have a1 := hnew q hq; have a2 := hold j u' hj' q hq'; omega
    · rcases split j u' hj with ⟨e3, e4⟩ | ⟨hlt', hj'⟩
      · rw [e4] at hq'; have a1 := hnew q hq'; have a2 := hold i u hi' q hq; omega
      · exact h4 i j u u' hi' hj' hij q hq hq'
  · intro i u hi q hq
    rcases split i u hi with ⟨e1, e2⟩ | ⟨hlt, hi'⟩
    · rw [e2] at hq; exact own_ne hT h2'' hus q hq
    · obtain ⟨r', hr'⟩ := get_of_lt (xs := p) (k := i) (by omega)
      exact own_ne hT h2'' (hrows i u r' hi' hr') q hq

theorem Own.rowGe {α : Type} {E : El α} {T : TypeId} {w : World} {base : Nat} {v : Value} {xs : List α} (h : Own E T w base v xs) : ∀ q, v.ownBlock = some q → base ≤ q := fun q hq => (World.ownsRow.lt h q hq).1

theorem OneOf.open3 {x y z : Int} {v : Value} {w : World} (h : OneOf [x, y, z] v w) : ∃ u, v = .int .i64 u ∧ (u = x ∨ u = y ∨ u = z) := by
  obtain ⟨u, hu, rfl⟩ := h
  exact ⟨u, rfl, by simpa using hu⟩
theorem OneOf.open5 {x y z s t : Int} {v : Value} {w : World} (h : OneOf [x, y, z, s, t] v w) : ∃ u, v = .int .i64 u ∧ (u = x ∨ u = y ∨ u = z ∨ u = s ∨ u = t) := by
  obtain ⟨u, hu, rfl⟩ := h
  exact ⟨u, rfl, by simpa using hu⟩

/-- A valid program that was drawn. -/
def QPV (lo : Nat) (v : Value) (w : World) : Prop := ∃ P : List (List Ins), OwnP w lo v P ∧ P.length ≤ 4 ∧ (∀ r ∈ P, r.length ≤ 8) ∧ progValid P = true
theorem one_valid {x : Ins} (h : insValid x = true) : progValid [[x]] = true := by
  have hc : ∀ (f : Ins → Bool), cnt f [[x]] = if f x = true then 1 else 0 := fun f => by simp [cnt, List.countP_cons]
  have hp : ∀ l : Nat, pl [[x]] l ≤ 2 := fun l => by
    unfold pl
    rw [hc, hc]
    split <;> split <;> decide
  have hP : prodP [[x]] ≤ 8 := by
    simp only [prodP, prodTo, Nat.one_mul]
    have h0 := hp 0; have h1 := hp 1; have h2 := hp 2
    exact Nat.le_trans (Nat.mul_le_mul (Nat.mul_le_mul h0 h1) h2) (by decide)
  have hn : cnt notFence [[x]] ≤ 12 := by rw [hc]; split <;> omega
  unfold progValid shapeOk rowOk
  simp [h, hn]
  omega

set_option maxRecDepth 100000 in
set_option maxHeartbeats 3200000 in
theorem l1Draw_anyV (b : Nat) (a : Option Addr) (c : Nat) (xs : List Int) (p : Int) (w : World) (hr : Rd w b a c xs p) (hp : p ≤ 800000000) :
    Calls Try.prog 64 #[.pointer (some ⟨b, 0, none⟩)] w (RetRd w b a c xs p 60 (QPV w.heap.size)) := by
  have HP := hide (fun (p : Int) n w' h hp (hn : n ≤ 100) (hn0 : 0 ≤ n) => pick_any b a c xs p n w' h hp (by omega) (by omega))
  have HI := hide (fun (p : Int) w' h hp => l1Instr_anyV b a c xs p w' h hp)
  have HN3 := hide (fun (p : Int) w' G hG hb h hp => numLit3 b a c xs p 2 3 1 w' G hG hb h hp)
  have HN5 := hide (fun (p : Int) w' G hG hb h hp => numLit5 b a c xs p 2 1 3 2 0 w' G hG hb h hp)
  have hlt := hr.lt
  have R0 := hide hr
  clear hr
  go_enter Try.func64, Try.ntmps64
  go_wp2_with fail
  (with_reducible refine (l1Tests_any w).mono ?_); rintro e w1 ⟨rfl, hl1, hb1⟩
  have R1 := hide (R0.out.keep hb1 hlt); have O1 := hide (Outside.of_below (lo := b) (hi := b + 1) hb1); have L1 := hide hl1
  clear hb1 hl1 R0
  go_wp2_with fail
  (with_reducible refine (HP.out p _ _ R1.out (by omega) (by omega) (by omega)).mono ?_); rintro e w2 ⟨v2, p2, rfl, ⟨q2, rfl, hq2, -⟩, hp2, hr2, ho2⟩
  have R2 := hide hr2; have O2 := hide (O1.out.trans ho2); have L2 := hide (ho2.ownHi L1.out hlt)
  clear hr2 ho2 R1 O1 L1
  by_cases hq : 0 < q2
  · go_wp2_with fail
    (with_reducible refine (HP.out p2 _ _ R2.out (by omega) (by omega) (by omega)).mono ?_); rintro e w3 ⟨v3, p3, rfl, ⟨q3, rfl, hq3, hq3'⟩, hp3, hr3, ho3⟩
    obtain ⟨Q, rfl⟩ := Int.eq_ofNat_of_zero_le hq3
    have hQ : Q < 21 := by have := hq3' (by omega); omega
    have R3 := hide hr3; have O3 := hide (O2.out.trans ho3)
    have hl3 := ho3.ownHi L2.out hlt
    obtain ⟨x, hx⟩ := get_of_lt (xs := testTexts) (k := Q) (by have : testTexts.length = 21 := rfl; omega)
    have hxs := testTexts_le x (List.mem_of_getElem? hx)
    obtain ⟨g, o, he, hgl, i0⟩ := hl3.rep.str hx
    simp only [Option.some.injEq, Addr.mk.injEq, and_true] at he
    obtain ⟨he1, he2⟩ := he
    rw [← he1, ← he2, Nat.zero_add] at i0
    rw [← he1] at hgl
    have HS := hide (fun w' => sParseProgram_anyV x w' hxs)
    clear hr3 ho3 R2 O2 L2 hl3 hx hxs he1 he2
    go_wp2_with fail
    (with_reducible refine (HS.out _).mono ?_); rintro e w4 ⟨v4, ok, rfl, hQP, hb4⟩
    have hsz := O3.out.size
    have hQP : Hid (ok = true → QPV w.heap.size v4 w4) := hide (by
      obtain ⟨P, h1, h2, h3, h4⟩ := hQP
      exact fun h => ⟨P, h1.mono hsz, h2, h3, h4 h⟩)
    have R4 := hide (R3.out.keep hb4 R3.out.lt); have O4 := hide (O3.out.trans (Outside.of_below hb4))
    clear hb4 R3 O3 HS i0 hgl
    by_cases hok : ok = true
    · subst hok
      go_wp2_with fail
      go_ret
      exact ⟨_, p3, rfl, hQP.out trivial, by omega, R4.out, O4.out⟩
    · obtain rfl : ok = false := by simpa using hok
      clear hok
      have hsK4 := O4.out.size
      go_wp2_with fail
      (with_reducible refine (HN3.out p3 _ _ (by simp) (by omega) ((R4.out.allocNew _).allocNew _) (by omega)).mono ?_); rintro e wa ⟨va, pa, rfl, hone, hpa, hra, hoa⟩
      obtain ⟨y, rfl, hy⟩ := hone.open3
      have RA := hide hra; have OA := hide (((O4.out.allocNew (.cells #[] 51)).allocNew (.cells #[.int .i64 2, .int .i64 3, .int .i64 1] 3)).trans hoa)
      have UA := hide ((((Own2.empty (E := InsE) 51 53 w4 hsK4).below (belowAlloc _ _))).outside hoa hlt)
      obtain ⟨Y, rfl⟩ : ∃ Y : Nat, y = (Y : Int) := ⟨y.toNat, by omega⟩
      have hY : Y ≤ 3 := by omega
      clear hra hoa hone R4 O4 hy
      go_wp2_with fail
      go_loopw [6, 7] (fun v i wr => ∃ (m : Nat) (P : List (List Ins)) (pp : Int), i = .int .i64 m ∧ P.length + m ≤ 3 ∧ (∀ r ∈ P, r.length ≤ 3) ∧ OwnP wr w.heap.size v P ∧ Rd wr b a c xs pp ∧ pp + 14 * m ≤ p3 + 50 ∧ Outside b (b + 1) w wr) (fun _ i _ => (intOf i).toNat)
      case atStart => exact ⟨Y, [], pa, rfl, by simpa using hY, by simp, UA.out, RA.out, by omega, OA.out⟩
      case round =>
        obtain ⟨m, P, pp, rfl, hPl, hPr, ho, hR, hpp, hO⟩ := hrel
        obtain ⟨wm, rfl⟩ : ∃ wm : World, wm = wr := ⟨_, rfl⟩
        clear RA OA UA
        by_cases hm : 0 < m
        · have hm' : (0 : Int) < m := by omega
          have hsm := hO.size
          obtain ⟨us, hU, hold⟩ := ho.told
          have hub : us.length ≤ 68719476736 := by rw [hU.1]; omega
          have HU := hide hU; have HOLD := hide hold; have RM := hide hR; have OM := hide hO; have HPR := hide hPr
          clear ho hR hO hU hold hPr
          go_wp2_with fail
          (with_reducible refine (HN5.out pp _ _ (by simp) (by omega) ((RM.out.allocNew _).allocNew _) (by omega)).mono ?_); rintro e wb ⟨vb, pb, rfl, hone, hpb, hrb, hob⟩
          obtain ⟨z, rfl, hz⟩ := hone.open5
          have RB := hide hrb; have OB := hide ((((Outside.refl b (b + 1) wm).allocNew (.cells #[] 53)).allocNew (.cells #[.int .i64 2, .int .i64 1, .int .i64 3, .int .i64 2, .int .i64 0] 3)).trans hob)
          have LB := hide (hob.ownHi ((Own.empty (E := InsE) 53 wm (Nat.le_refl _)).alloc (.cells #[.int .i64 2, .int .i64 1, .int .i64 3, .int .i64 2, .int .i64 0] 3)) (show b < wm.heap.size by omega))
          obtain ⟨Z, rfl⟩ : ∃ Z : Nat, z = (Z : Int) := ⟨z.toNat, by omega⟩
          have hZ : Z ≤ 3 := by omega
          clear hrb hob hone hz
          go_wp2_with fail
          go_loopw [8, 9] (fun l k wr' => ∃ (n : Nat) (ys : List Ins) (pq : Int), k = .int .i64 n ∧ ys.length + n ≤ 3 ∧ OwnI wr' wm.heap.size l ys ∧ Rd wr' b a c xs pq ∧ pq + 4 * n ≤ pb + 12 ∧ Outside b (b + 1) wm wr') (fun _ k _ => (intOf k).toNat)
          case atStart => exact ⟨Z, [], pb, rfl, by simpa using hZ, LB.out, RB.out, by omega, OB.out⟩
          case round =>
            obtain ⟨n, ys, pq, rfl, hyl, hl, hR, hpq, hO⟩ := hrel
            clear RB OB LB
            by_cases hn : 0 < n
            · have hn' : (0 : Int) < n := by omega
              have RW := hide hR; have OW := hide hO; have LW := hide hl
              clear hR hO hl
              go_wp2_with fail
              (with_reducible refine (HI.out pq _ RW.out (by omega)).mono ?_); rintro e wc ⟨vc, pc, rfl, ⟨io, il, ir, ix, rfl, hiv⟩, hpc, hrc, hoc⟩
              have hlc := hide (hoc.ownHi LW.out (show b < wm.heap.size by omega))
              have RC := hide hrc; have OC := hide (OW.out.trans hoc)
              have hsz := OC.out.size
              have hyl64 : ys.length ≤ 68719476736 := by omega
              clear hrc hoc RW OW LW
              go_wp2_with (at_builtin; refine wpList_app InsE 53 Try.infoIns rfl Try.underlying51 wm.heap.size _ ys ⟨io, il, ir, ix⟩ (hlc.out.alloc _) (by decide) hyl64 (by simp; omega) rfl _ _ rfl rfl _ 0 1 rfl news_alloc ?_; intro v6 w6 ho6 hgr6)
              have R6 := (RC.out.allocNew _).grownNew hgr6 (fun q hq => by have := hlc.out.rowGe q hq; omega)
              have O6 := (OC.out.allocNew _).grownNew hgr6 (fun q hq => hlc.out.rowGe q hq)
              go_roundw
              case rel => exact ⟨n - 1, ys ++ [⟨io, il, ir, ix⟩], pc, by go_num, by simp; omega, ho6, R6, by omega, O6⟩
              case measure => simp [intOf]; omega
            · obtain rfl : n = 0 := by omega
              obtain ⟨la, ln, lc, rfl, hln⟩ := hl.toSl
              have hU3 := hide (HU.out.outside hO hlt)
              have HL := hide hl; have RW := hide hR; have OW := hide hO
              have hsz := hO.size
              clear hl hR hO hln
              go_wp2_with (at_builtin; refine wpList_app SlcE 51 Try.infoInsS rfl Try.underlying23 w.heap.size _ us ⟨la, ln, lc⟩ (hU3.out.2.1.alloc _) (by decide) hub (by simp; omega) rfl _ _ rfl rfl _ 0 1 rfl news_alloc ?_; intro v5 w5 ho5 hgr5)
              have ho6 := (hU3.out.below (belowAlloc _ _)).app2 (by decide) (fun i u hu q hq => (HOLD.out i u hu q hq).2) hsm (s := ⟨la, ln, lc⟩) (HL.out.alloc _) ho5 hgr5
              have R6 := (RW.out.allocNew _).grownNew hgr5 (fun q hq => by have := hU3.out.2.1.rowGe q hq; omega)
              have O6 := ((OM.out.trans OW.out).allocNew _).grownNew hgr5 (fun q hq => hU3.out.2.1.rowGe q hq)
              go_roundw
              case rel => exact ⟨m - 1, P ++ [ys], pq, by go_num, by simp; omega, by
                intro r hr
                rcases List.mem_append.1 hr with h | h
                · exact HPR.out r h
                · rw [List.mem_singleton.1 h]; omega, ho6, R6, by omega, O6⟩
              case measure => simp [intOf]; omega
        · obtain rfl : m = 0 := by omega
          obtain ⟨us, hU, -⟩ := ho.told
          obtain ⟨oa, on, oc, rfl, hon⟩ := hU.2.1.toSl
          have hfl : P.flatten.length ≤ 1048576 := by
            have := flatten_bound P 3 hPr
            have : P.length * 3 ≤ 3 * 3 := Nat.mul_le_mul_right _ (by omega)
            omega
          have HV := hide (fun w' h => sProgramValid_any (.slice oa on oc) P w' h hfl (by omega))
          have HO := hide ho; have RM := hide hR; have OM := hide hO; have HPR := hide hPr
          clear hU hon ho hR hO hPr hfl
          go_wp2_with fail
          (with_reducible refine (HV.out _ HO.out.rep).mono ?_); rintro e w4 ⟨rfl, hb4⟩
          have R4 := hide (RM.out.keep hb4 RM.out.lt); have O4 := hide (OM.out.trans (Outside.of_below hb4)); have HO4 := hide (HO.out.below hb4)
          clear hb4 HO RM OM HV
          by_cases hv : progValid P = true
          · go_wp2_with fail
            go_ret
            exact ⟨_, pp, rfl, ⟨P, HO4.out, by omega, fun r hr => Nat.le_trans (HPR.out r hr) (by omega), hv⟩, by omega, R4.out, O4.out⟩
          · have hv' : progValid P = false := by simpa using hv
            clear hv HO4
            go_wp2_with fail
            (with_reducible refine (HI.out pp _ R4.out (by omega)).mono ?_); rintro e wc ⟨vc, pc, rfl, ⟨io, il, ir, ix, rfl, hiv⟩, hpc, hrc, hoc⟩
            have RC := hide hrc; have OC := hide (O4.out.trans hoc)
            clear hrc hoc R4 O4
            have hsz := OC.out.size
            go_wp2_with fail
            go_ret
            exact ⟨_, pc, rfl, ⟨[[⟨io, il, ir, ix⟩]], own2_one hsz ⟨io, il, ir, ix⟩ rfl, by simp, by simp, one_valid hiv⟩, by omega, (RC.out.allocNew _).allocNew _, (OC.out.allocNew _).allocNew _⟩
  · have hq' : decide (0 < q2) = false := decide_eq_false hq
    clear hq
    have hsK2 := O2.out.size
    go_wp2_with fail
    (with_reducible refine (HN3.out p2 _ _ (by simp) (by omega) ((R2.out.allocNew _).allocNew _) (by omega)).mono ?_); rintro e wa ⟨va, pa, rfl, hone, hpa, hra, hoa⟩
    obtain ⟨y, rfl, hy⟩ := hone.open3
    have RA := hide hra; have OA := hide (((O2.out.allocNew (.cells #[] 51)).allocNew (.cells #[.int .i64 2, .int .i64 3, .int .i64 1] 3)).trans hoa)
    have UA := hide ((((Own2.empty (E := InsE) 51 53 w2 hsK2).below (belowAlloc _ _))).outside hoa hlt)
    obtain ⟨Y, rfl⟩ : ∃ Y : Nat, y = (Y : Int) := ⟨y.toNat, by omega⟩
    have hY : Y ≤ 3 := by omega
    clear hra hoa hone R2 O2 hy
    go_wp2_with fail
    go_loopw [6, 7] (fun v i wr => ∃ (m : Nat) (P : List (List Ins)) (pp : Int), i = .int .i64 m ∧ P.length + m ≤ 3 ∧ (∀ r ∈ P, r.length ≤ 3) ∧ OwnP wr w.heap.size v P ∧ Rd wr b a c xs pp ∧ pp + 14 * m ≤ p2 + 50 ∧ Outside b (b + 1) w wr) (fun _ i _ => (intOf i).toNat)
    case atStart => exact ⟨Y, [], pa, rfl, by simpa using hY, by simp, UA.out, RA.out, by omega, OA.out⟩
    case round =>
      obtain ⟨m, P, pp, rfl, hPl, hPr, ho, hR, hpp, hO⟩ := hrel
      obtain ⟨wm, rfl⟩ : ∃ wm : World, wm = wr := ⟨_, rfl⟩
      clear RA OA UA
      by_cases hm : 0 < m
      · have hm' : (0 : Int) < m := by omega
        have hsm := hO.size
        obtain ⟨us, hU, hold⟩ := ho.told
        have hub : us.length ≤ 68719476736 := by rw [hU.1]; omega
        have HU := hide hU; have HOLD := hide hold; have RM := hide hR; have OM := hide hO; have HPR := hide hPr
        clear ho hR hO hU hold hPr
        go_wp2_with fail
        (with_reducible refine (HN5.out pp _ _ (by simp) (by omega) ((RM.out.allocNew _).allocNew _) (by omega)).mono ?_); rintro e wb ⟨vb, pb, rfl, hone, hpb, hrb, hob⟩
        obtain ⟨z, rfl, hz⟩ := hone.open5
        have RB := hide hrb; have OB := hide ((((Outside.refl b (b + 1) wm).allocNew (.cells #[] 53)).allocNew (.cells #[.int .i64 2, .int .i64 1, .int .i64 3, .int .i64 2, .int .i64 0] 3)).trans hob)
        have LB := hide (hob.ownHi ((Own.empty (E := InsE) 53 wm (Nat.le_refl _)).alloc (.cells #[.int .i64 2, .int .i64 1, .int .i64 3, .int .i64 2, .int .i64 0] 3)) (show b < wm.heap.size by omega))
        obtain ⟨Z, rfl⟩ : ∃ Z : Nat, z = (Z : Int) := ⟨z.toNat, by omega⟩
        have hZ : Z ≤ 3 := by omega
        clear hrb hob hone hz
        go_wp2_with fail
        go_loopw [8, 9] (fun l k wr' => ∃ (n : Nat) (ys : List Ins) (pq : Int), k = .int .i64 n ∧ ys.length + n ≤ 3 ∧ OwnI wr' wm.heap.size l ys ∧ Rd wr' b a c xs pq ∧ pq + 4 * n ≤ pb + 12 ∧ Outside b (b + 1) wm wr') (fun _ k _ => (intOf k).toNat)
        case atStart => exact ⟨Z, [], pb, rfl, by simpa using hZ, LB.out, RB.out, by omega, OB.out⟩
        case round =>
          obtain ⟨n, ys, pq, rfl, hyl, hl, hR, hpq, hO⟩ := hrel
          clear RB OB LB
          by_cases hn : 0 < n
          · have hn' : (0 : Int) < n := by omega
            have RW := hide hR; have OW := hide hO; have LW := hide hl
            clear hR hO hl
            go_wp2_with fail
            (with_reducible refine (HI.out pq _ RW.out (by omega)).mono ?_); rintro e wc ⟨vc, pc, rfl, ⟨io, il, ir, ix, rfl, hiv⟩, hpc, hrc, hoc⟩
            have hlc := hide (hoc.ownHi LW.out (show b < wm.heap.size by omega))
            have RC := hide hrc; have OC := hide (OW.out.trans hoc)
            have hsz := OC.out.size
            have hyl64 : ys.length ≤ 68719476736 := by omega
            clear hrc hoc RW OW LW
            go_wp2_with (at_builtin; refine wpList_app InsE 53 Try.infoIns rfl Try.underlying51 wm.heap.size _ ys ⟨io, il, ir, ix⟩ (hlc.out.alloc _) (by decide) hyl64 (by simp; omega) rfl _ _ rfl rfl _ 0 1 rfl news_alloc ?_; intro v6 w6 ho6 hgr6)
            have R6 := (RC.out.allocNew _).grownNew hgr6 (fun q hq => by have := hlc.out.rowGe q hq; omega)
            have O6 := (OC.out.allocNew _).grownNew hgr6 (fun q hq => hlc.out.rowGe q hq)
            go_roundw
            case rel => exact ⟨n - 1, ys ++ [⟨io, il, ir, ix⟩], pc, by go_num, by simp; omega, ho6, R6, by omega, O6⟩
            case measure => simp [intOf]; omega
          · obtain rfl : n = 0 := by omega
            obtain ⟨la, ln, lc, rfl, hln⟩ := hl.toSl
            have hU3 := hide (HU.out.outside hO hlt)
            have HL := hide hl; have RW := hide hR; have OW := hide hO
            have hsz := hO.size
            clear hl hR hO hln
            go_wp2_with (at_builtin; refine wpList_app SlcE 51 Try.infoInsS rfl Try.underlying23 w.heap.size _ us ⟨la, ln, lc⟩ (hU3.out.2.1.alloc _) (by decide) hub (by simp; omega) rfl _ _ rfl rfl _ 0 1 rfl news_alloc ?_; intro v5 w5 ho5 hgr5)
            have ho6 := (hU3.out.below (belowAlloc _ _)).app2 (by decide) (fun i u hu q hq => (HOLD.out i u hu q hq).2) hsm (s := ⟨la, ln, lc⟩) (HL.out.alloc _) ho5 hgr5
            have R6 := (RW.out.allocNew _).grownNew hgr5 (fun q hq => by have := hU3.out.2.1.rowGe q hq; omega)
            have O6 := ((OM.out.trans OW.out).allocNew _).grownNew hgr5 (fun q hq => hU3.out.2.1.rowGe q hq)
            go_roundw
            case rel => exact ⟨m - 1, P ++ [ys], pq, by go_num, by simp; omega, by
              intro r hr
              rcases List.mem_append.1 hr with h | h
              · exact HPR.out r h
              · rw [List.mem_singleton.1 h]; omega, ho6, R6, by omega, O6⟩
            case measure => simp [intOf]; omega
      · obtain rfl : m = 0 := by omega
        obtain ⟨us, hU, -⟩ := ho.told
        obtain ⟨oa, on, oc, rfl, hon⟩ := hU.2.1.toSl
        have hfl : P.flatten.length ≤ 1048576 := by
          have := flatten_bound P 3 hPr
          have : P.length * 3 ≤ 3 * 3 := Nat.mul_le_mul_right _ (by omega)
          omega
        have HV := hide (fun w' h => sProgramValid_any (.slice oa on oc) P w' h hfl (by omega))
        have HO := hide ho; have RM := hide hR; have OM := hide hO; have HPR := hide hPr
        clear hU hon ho hR hO hPr hfl
        go_wp2_with fail
        (with_reducible refine (HV.out _ HO.out.rep).mono ?_); rintro e w4 ⟨rfl, hb4⟩
        have R4 := hide (RM.out.keep hb4 RM.out.lt); have O4 := hide (OM.out.trans (Outside.of_below hb4)); have HO4 := hide (HO.out.below hb4)
        clear hb4 HO RM OM HV
        by_cases hv : progValid P = true
        · go_wp2_with fail
          go_ret
          exact ⟨_, pp, rfl, ⟨P, HO4.out, by omega, fun r hr => Nat.le_trans (HPR.out r hr) (by omega), hv⟩, by omega, R4.out, O4.out⟩
        · have hv' : progValid P = false := by simpa using hv
          clear hv HO4
          go_wp2_with fail
          (with_reducible refine (HI.out pp _ R4.out (by omega)).mono ?_); rintro e wc ⟨vc, pc, rfl, ⟨io, il, ir, ix, rfl, hiv⟩, hpc, hrc, hoc⟩
          have RC := hide hrc; have OC := hide (O4.out.trans hoc)
          clear hrc hoc R4 O4
          have hsz := OC.out.size
          go_wp2_with fail
          go_ret
          exact ⟨_, pc, rfl, ⟨[[⟨io, il, ir, ix⟩]], own2_one hsz ⟨io, il, ir, ix⟩ rfl, by simp, by simp, one_valid hiv⟩, by omega, (RC.out.allocNew _).allocNew _, (OC.out.allocNew _).allocNew _⟩

theorem l1Draw_any (b : Nat) (a : Option Addr) (c : Nat) (xs : List Int) (p : Int) (w : World) (hr : Rd w b a c xs p) (hp : p ≤ 800000000) :
    Calls Try.prog 64 #[.pointer (some ⟨b, 0, none⟩)] w (RetRd w b a c xs p 60 (QP w.heap.size)) :=
  (l1Draw_anyV b a c xs p w hr hp).mono fun _ _ ⟨v, p', h1, ⟨P, h2, h3, h4, _⟩, h5⟩ => ⟨v, p', h1, ⟨P, h2, h3, h4⟩, h5⟩

end Go.Proofs.Ytblheabgjjeigaa

namespace Go.Proofs.Ytblheabgjjeigaa

structure Gp where
  t : Int
  i : Int
deriving DecidableEq

abbrev Gp.v (x : Gp) : Value := .agg #[.int .i64 x.t, .int .i64 x.i]
def GapE : El Gp := ⟨2, by decide, fun x => [.int .i64 x.t, .int .i64 x.i], fun _ => rfl, fun x u h => by simp at h; rcases h with rfl | rfl <;> rfl⟩

/-- Whether a fence fits before instruction i of a thread. -/
def gapAt (r : List Ins) (i : Nat) : Bool :=
  match r[i - 1]?, r[i]? with
  | some x, some y => decide (1 ≤ i) && (x.op != 4 && y.op != 4)
  | _, _ => false
def rowGaps (t : Nat) (r : List Ins) (n : Nat) : List Gp := ((List.range n).filter (gapAt r)).map fun (i : Nat) => ⟨t, i⟩
def gapsTo (p : List (List Ins)) (j : Nat) : List Gp := (List.range j).flatMap fun t => match p[t]? with
  | some r => rowGaps t r r.length
  | none => []
def gapsP (p : List (List Ins)) : List Gp := gapsTo p p.length

theorem rowGaps_succ (t : Nat) (r : List Ins) (n : Nat) : rowGaps t r (n + 1) = rowGaps t r n ++ if gapAt r n = true then [⟨t, n⟩] else [] := by
  unfold rowGaps
  rw [List.range_succ, List.filter_append, List.map_append]
  by_cases h : gapAt r n = true <;> simp [h]

theorem rowGaps_one (t : Nat) (r : List Ins) : rowGaps t r 1 = [] := by
  have h : gapAt r 0 = false := by unfold gapAt; split <;> simp
  rw [rowGaps_succ, if_neg (by simp [h])]; simp [rowGaps]

theorem rowGaps_zero (t : Nat) (r : List Ins) : rowGaps t r 0 = [] := by simp [rowGaps]

theorem gapsTo_succ {p : List (List Ins)} {j : Nat} {r : List Ins} (h : p[j]? = some r) : gapsTo p (j + 1) = gapsTo p j ++ rowGaps j r r.length := by
  unfold gapsTo
  rw [List.range_succ, List.flatMap_append]
  simp [h]

theorem rowGaps_length (t : Nat) (r : List Ins) (n : Nat) : (rowGaps t r n).length ≤ n := by
  unfold rowGaps
  rw [List.length_map]
  exact Nat.le_trans (List.length_filter_le _ _) (by simp)

theorem gapsTo_length (p : List (List Ins)) : ∀ j, j ≤ p.length → (gapsTo p j).length ≤ (p.take j).flatten.length := by
  intro j
  induction j with
  | zero => intro _; simp [gapsTo]
  | succ j ih =>
    intro hj
    obtain ⟨r, hr⟩ := get_of_lt (xs := p) (k := j) hj
    rw [gapsTo_succ hr, List.take_add_one, hr, List.flatten_append, List.length_append, List.length_append]
    have h1 := ih (by omega)
    have h2 := rowGaps_length j r r.length
    simp only [Option.toList_some, List.flatten_cons, List.flatten_nil, List.append_nil]
    omega

theorem rowGaps_step {t : Nat} {r : List Ins} {s : Nat} {x y : Ins} (hx : r[s]? = some x) (hy : r[s + 1]? = some y) : rowGaps t r (s + 1 + 1) = rowGaps t r (s + 1) ++ if (x.op != 4 && y.op != 4) = true then [⟨t, (s + 1 : Nat)⟩] else [] := by
  rw [rowGaps_succ]
  have : gapAt r (s + 1) = (x.op != 4 && y.op != 4) := by unfold gapAt; simp [hx, hy]
  rw [this]

theorem gapAt_of {r : List Ins} {i : Nat} {x y : Ins} (hx : r[i - 1]? = some x) (hy : r[i]? = some y) (h1 : 1 ≤ i) : gapAt r i = (x.op != 4 && y.op != 4) := by
  unfold gapAt; rw [hx, hy]; simp [h1]

end Go.Proofs.Ytblheabgjjeigaa

namespace Go.Proofs.Ytblheabgjjeigaa
open Go.RowKit

end Go.Proofs.Ytblheabgjjeigaa

namespace Go.Proofs.Ytblheabgjjeigaa
open Go.RowKit

/-- An event. -/
structure Ev where
  t : Int
  i : Int
  l : Int
  r : Bool
  w : Bool
deriving DecidableEq

def EvE : El Ev := ⟨5, by decide, fun x => [.int .i64 x.t, .int .i64 x.i, .int .i64 x.l, .bool x.r, .bool x.w], fun _ => rfl, fun x u h => by simp at h; rcases h with rfl | rfl | rfl | rfl | rfl <;> rfl⟩
theorem Try.infoEvent : (Try.prog.info? 36).map (fun i => (i.zero, i.size, i.bytes)) = some (some (.agg #[.int .i64 0, .int .i64 0, .int .i64 0, .bool false, .bool false]), 5, 32) := by kernel_rfl
abbrev OwnE (w : World) (base : Nat) (v : Value) (xs : List Ev) : Prop := Own EvE 36 w base v xs

theorem Rep.ev {w : World} {a : Option Addr} {n c : Nat} {xs : List Ev} (h : Rep EvE w (.slice a n c) xs) {k : Nat} {x : Ev} (hx : xs[k]? = some x) :
    ∃ b o, a = some ⟨b, o, none⟩ ∧ b < w.heap.size ∧ w.cell? ⟨b, o + k * 5, none⟩ = some (.int .i64 x.t) ∧ w.cell? ⟨b, o + k * 5 + 1, none⟩ = some (.int .i64 x.i) ∧
      w.cell? ⟨b, o + k * 5 + 2, none⟩ = some (.int .i64 x.l) ∧ w.cell? ⟨b, o + k * 5 + 3, none⟩ = some (.bool x.r) ∧ w.cell? ⟨b, o + k * 5 + 4, none⟩ = some (.bool x.w) := by
  obtain ⟨a', c', hv, _, _, h⟩ := h
  simp only [Value.slice.injEq] at hv
  obtain ⟨rfl, rfl, rfl⟩ := hv
  obtain ⟨b, o, rfl, h'⟩ := h k x hx
  exact ⟨b, o, rfl, lt_of_cell (h' 0 _ rfl), h' 0 _ rfl, h' 1 _ rfl, h' 2 _ rfl, h' 3 _ rfl, h' 4 _ rfl⟩

/-- One element is appended, at a step of a region that draws. -/
theorem step_app {α : Type} (E : El α) {P : Program} {w : World} {ops : Array Oper} {o : Oper} {a : Act} {K : Act → World → Prop} {Q : Exit → Act → World → Prop} {F : Prop}
    (T : TypeId) {zv : Value} {bytes : Nat} (hinfo : (P.info? T).map (fun i => (i.zero, i.size, i.bytes)) = some (some zv, E.sz, bytes)) (hz : zv.cells.size = E.sz) {t : TypeId} (h1 : P.underlying t = some (.slice T))
    (base : Nat) (v : Value) (xs : List α) (x : α) (hown : Own E T w base v xs) (hby : bytes ≤ 256) (hn : xs.length ≤ 68719476736) (hbase : base ≤ w.heap.size)
    (hg : o.guard = none) (s y : Operand) (hop : o.op = .call { callee := .builtin .append, args := #[s, y], argTypes := #[t, t] })
    (hs : a.eval s = v) (b off c : Nat) (hy : a.eval y = .slice (some ⟨b, off, none⟩) 1 c) (hnews : ∀ j u, (E.c x)[j]? = some u → w.cell? ⟨b, off + j, none⟩ = some u)
    (hK : ∀ v' w', Own E T w' base v' (xs ++ [x]) → w.grownBy w' v.ownBlock → K (a.put o.dst v') w') :
    if Region.wanted o (yielded ops a.tmps) = true then Oper.wp P o a w K Q else F := by
  obtain ⟨it, hi, hz0, hz1, hz2⟩ := info_parts hinfo
  refine step_append_lies w hg s y t hop base T it zv E.sz bytes h1 hi hz0 hz1 hz2 hz E.pos v xs.length _ hs hown ⟨b, off, none⟩ 1 c (E.c x) hy (by rw [E.len, Nat.one_mul]) ?_ (E.one x) (by omega) (by unfold maxLen; omega) ?_ hbase _ rfl ?_
  · intro j u hu
    have hadd : (⟨b, off, none⟩ : Addr).add j = ⟨b, off + j, none⟩ := by unfold Addr.add; split <;> simp_all
    rw [hadd]
    exact hnews j u hu
  · have := Nat.mul_le_mul (show xs.length + 1 ≤ 68719476737 by omega) hby
    omega
  · intro g cap w' h2 h3 _ _
    refine hK _ w' ?_ h3
    unfold Own
    simpa [List.flatMap_append] using h2

def evOf (t i : Nat) (x : Ins) : List Ev := if x.op = 4 then [] else [⟨t, i, x.loc, isRop x.op, isWop x.op⟩]
def evRow (t : Nat) (r : List Ins) (k : Nat) : List Ev := (List.range k).flatMap fun i => match r[i]? with
  | some x => evOf t i x
  | none => []
def evTo (p : List (List Ins)) (j : Nat) : List Ev := (List.range j).flatMap fun t => match p[t]? with
  | some r => evRow t r r.length
  | none => []
def evHead (k : Nat) : List Ev := (List.range k).map fun (l : Nat) => ⟨-1, l, l, false, true⟩
def evAll (p : List (List Ins)) : List Ev := evHead 3 ++ evTo p p.length

theorem evHead_succ (k : Nat) : evHead (k + 1) = evHead k ++ [⟨-1, k, k, false, true⟩] := by simp [evHead, List.range_succ]
theorem evHead_length (k : Nat) : (evHead k).length = k := by simp [evHead]
theorem evRow_succ {t : Nat} {r : List Ins} {k : Nat} {x : Ins} (h : r[k]? = some x) : evRow t r (k + 1) = evRow t r k ++ evOf t k x := by
  unfold evRow
  rw [List.range_succ, List.flatMap_append]
  simp [h]
theorem evTo_succ {p : List (List Ins)} {j : Nat} {r : List Ins} (h : p[j]? = some r) : evTo p (j + 1) = evTo p j ++ evRow j r r.length := by
  unfold evTo
  rw [List.range_succ, List.flatMap_append]
  simp [h]
theorem evOf_length (t i : Nat) (x : Ins) : (evOf t i x).length ≤ 1 := by unfold evOf; split <;> simp
theorem evRow_length (t : Nat) (r : List Ins) : ∀ k, (evRow t r k).length ≤ k := by
  intro k
  induction k with
  | zero => simp [evRow]
  | succ k ih =>
    unfold evRow at ih ⊢
    rw [List.range_succ, List.flatMap_append, List.length_append]
    have : ((List.flatMap (fun i => match r[i]? with
      | some x => evOf t i x
      | none => []) [k])).length ≤ 1 := by
      cases h : r[k]? with
      | none => simp [h]
      | some x => simp [h]; exact evOf_length t k x
    omega
theorem evTo_length (p : List (List Ins)) : ∀ j, j ≤ p.length → (evTo p j).length ≤ (p.take j).flatten.length := by
  intro j
  induction j with
  | zero => intro _; simp [evTo]
  | succ j ih =>
    intro hj
    obtain ⟨r, hr⟩ := get_of_lt (xs := p) (k := j) hj
    rw [evTo_succ hr, List.take_add_one, hr, List.flatten_append, List.length_append, List.length_append]
    have h1 := ih (by omega)
    have h2 := evRow_length j r r.length
    simp only [Option.toList_some, List.flatten_cons, List.flatten_nil, List.append_nil]
    omega
theorem evAll_length (p : List (List Ins)) : (evAll p).length ≤ 3 + p.flatten.length := by
  unfold evAll
  have := evTo_length p p.length (Nat.le_refl _)
  rw [List.take_length] at this
  rw [List.length_append, evHead_length]; omega

end Go.Proofs.Ytblheabgjjeigaa

namespace Go.Proofs.Ytblheabgjjeigaa

theorem evOf_len (t i : Nat) (x : Ins) : (evOf t i x).length = if notFence x = true then 1 else 0 := by
  unfold evOf notFence
  by_cases h : x.op = 4
  · simp [h]
  · simp [h]
theorem evRow_len (t : Nat) (r : List Ins) : ∀ k, k ≤ r.length → (evRow t r k).length = (r.take k).countP notFence := by
  intro k
  induction k with
  | zero => intro _; simp [evRow]
  | succ k ih =>
    intro hk
    obtain ⟨x, hx⟩ := get_of_lt (xs := r) (k := k) hk
    rw [evRow_succ hx, List.length_append, ih (by omega), countP_take_succ _ hx, evOf_len]
theorem evTo_len (p : List (List Ins)) : ∀ j, j ≤ p.length → (evTo p j).length = cnt notFence (p.take j) := by
  intro j
  induction j with
  | zero => intro _; simp [evTo, cnt]
  | succ j ih =>
    intro hj
    obtain ⟨r, hr⟩ := get_of_lt (xs := p) (k := j) hj
    rw [evTo_succ hr, List.length_append, ih (by omega), cnt_take_succ _ hr, evRow_len j r r.length (Nat.le_refl _), List.take_length]
theorem evAll_le {p : List (List Ins)} (h : progValid p = true) : (evAll p).length ≤ 15 := by
  obtain ⟨-, -, -, h4, -⟩ := valid_le h
  unfold evAll
  rw [List.length_append, evHead_length, evTo_len p p.length (Nat.le_refl _), List.take_length]
  omega

end Go.Proofs.Ytblheabgjjeigaa

namespace Go.Proofs.Ytblheabgjjeigaa

/-- A candidate. -/
structure Xc where
  fr : List Int
  od : List (List Int)
deriving DecidableEq

def wr1 (l : Int) (i : Nat) (e : Ev) : List Int := if (e.w && e.l == l) = true then [(i : Int)] else []
def wrTo (es : List Ev) (l : Int) (k : Nat) : List Int := (List.range k).flatMap fun i => match es[i]? with
  | some e => wr1 l i e
  | none => []
/-- The events that write a location. -/
def wrL (es : List Ev) (l : Int) : List Int := wrTo es l es.length

theorem wrTo_succ {es : List Ev} (l : Int) {k : Nat} {e : Ev} (h : es[k]? = some e) : wrTo es l (k + 1) = wrTo es l k ++ wr1 l k e := by
  unfold wrTo
  rw [List.range_succ, List.flatMap_append]
  simp [h]
theorem wr1_length (l : Int) (i : Nat) (e : Ev) : (wr1 l i e).length ≤ 1 := by unfold wr1; split <;> simp
theorem wrTo_length (es : List Ev) (l : Int) : ∀ k, k ≤ es.length → (wrTo es l k).length ≤ k := by
  intro k
  induction k with
  | zero => intro _; simp [wrTo]
  | succ k ih =>
    intro hk
    obtain ⟨e, he⟩ := get_of_lt (xs := es) (k := k) hk
    rw [wrTo_succ l he, List.length_append]
    have := ih (by omega)
    have := wr1_length l k e
    omega
theorem wrL_length (es : List Ev) (l : Int) : (wrL es l).length ≤ es.length := wrTo_length es l es.length (Nat.le_refl _)
theorem mem_wrTo {es : List Ev} {l x : Int} : ∀ {k : Nat}, k ≤ es.length → (x ∈ wrTo es l k ↔ ∃ (i : Nat) (e : Ev), i < k ∧ x = i ∧ es[i]? = some e ∧ e.w = true ∧ e.l = l) := by
  intro k
  induction k with
  | zero => intro _; simp [wrTo]
  | succ k ih =>
    intro hk
    obtain ⟨e, he⟩ := get_of_lt (xs := es) (k := k) hk
    rw [wrTo_succ l he, List.mem_append, ih (by omega)]
    constructor
    · rintro (⟨i, e', h1, h2⟩ | h)
      · exact ⟨i, e', by omega, h2⟩
      · unfold wr1 at h
        split at h
        · rename_i hc
          simp at h hc
          exact ⟨k, e, by omega, h, he, hc.1, hc.2⟩
        · simp at h
    · rintro ⟨i, e', h1, h2, h3, h4, h5⟩
      by_cases hi : i = k
      · subst hi
        rw [he] at h3; simp at h3; subst h3
        refine .inr ?_
        unfold wr1
        rw [if_pos (by simp [h4, h5])]
        simp [h2]
      · exact .inl ⟨i, e', by omega, h2, h3, h4, h5⟩
theorem mem_wrL {es : List Ev} {l x : Int} : x ∈ wrL es l ↔ ∃ (i : Nat) (e : Ev), i < es.length ∧ x = i ∧ es[i]? = some e ∧ e.w = true ∧ e.l = l := mem_wrTo (Nat.le_refl _)
theorem wrTo_sorted (es : List Ev) (l : Int) : ∀ k, k ≤ es.length → (wrTo es l k).Pairwise (· < ·) := by
  intro k
  induction k with
  | zero => intro _; simp [wrTo]
  | succ k ih =>
    intro hk
    obtain ⟨e, he⟩ := get_of_lt (xs := es) (k := k) hk
    rw [wrTo_succ l he, List.pairwise_append]
    refine ⟨ih (by omega), ?_, ?_⟩
    · unfold wr1; split <;> simp
    · intro a ha b hb
      obtain ⟨i, e', h1, h2, -⟩ := (mem_wrTo (by omega)).1 ha
      unfold wr1 at hb
      split at hb
      · simp at hb; omega
      · simp at hb
theorem wrL_sorted (es : List Ev) (l : Int) : (wrL es l).Pairwise (· < ·) := wrTo_sorted es l es.length (Nat.le_refl _)
theorem wrL_nodup (es : List Ev) (l : Int) : (wrL es l).Nodup := (wrL_sorted es l).imp (fun h => Int.ne_of_lt h)

def fromOk (es : List Ev) (i : Nat) (e : Ev) (f : Int) : Bool := if e.r = true then (f != (i : Int)) && (wrL es e.l).contains f else f == -1
def fromsOk (es : List Ev) (fr : List Int) (k : Nat) : Bool := (List.range k).all fun i => match es[i]?, fr[i]? with
  | some e, some f => fromOk es i e f
  | _, _ => false
theorem fromsOk_succ {es : List Ev} {fr : List Int} {k : Nat} {e : Ev} {f : Int} (h : es[k]? = some e) (h2 : fr[k]? = some f) : fromsOk es fr (k + 1) = (fromsOk es fr k && fromOk es k e f) := by
  unfold fromsOk
  rw [List.range_succ, List.all_append]
  simp [h, h2]
def orderOk (es : List Ev) (l : Nat) (o : List Int) : Bool := decide (o.Perm (wrL es l)) && (o.head? == some (l : Int))
def ordersOk (es : List Ev) (od : List (List Int)) (k : Nat) : Bool := (List.range k).all fun l => match od[l]? with
  | some o => orderOk es l o
  | none => false
theorem ordersOk_succ {es : List Ev} {od : List (List Int)} {k : Nat} {o : List Int} (h : od[k]? = some o) : ordersOk es od (k + 1) = (ordersOk es od k && orderOk es k o) := by
  unfold ordersOk
  rw [List.range_succ, List.all_append]
  simp [h]
/-- Whether x is a candidate for p. -/
def execOk (p : List (List Ins)) (x : Xc) : Bool :=
  progValid p && (decide (x.fr.length = (evAll p).length) && (decide (x.od.length = 3) && (fromsOk (evAll p) x.fr (evAll p).length && ordersOk (evAll p) x.od 3)))

theorem fromsOk_get {es : List Ev} {fr : List Int} {k i : Nat} (h : fromsOk es fr k = true) (hi : i < k) : ∃ e f, es[i]? = some e ∧ fr[i]? = some f ∧ fromOk es i e f = true := by
  unfold fromsOk at h
  rw [List.all_eq_true] at h
  have := h i (List.mem_range.2 hi)
  split at this
  · rename_i e f he hf
    exact ⟨e, f, he, hf, this⟩
  · cases this
theorem ordersOk_get {es : List Ev} {od : List (List Int)} {k i : Nat} (h : ordersOk es od k = true) (hi : i < k) : ∃ o, od[i]? = some o ∧ orderOk es i o = true := by
  unfold ordersOk at h
  rw [List.all_eq_true] at h
  have := h i (List.mem_range.2 hi)
  split at this
  · rename_i o ho
    exact ⟨o, ho, this⟩
  · cases this

theorem fromsOk_no {es : List Ev} {fr : List Int} {k n : Nat} {e : Ev} {f : Int} (h : es[k]? = some e) (h2 : fr[k]? = some f) (hn : k < n) (hf : fromOk es k e f = false) : fromsOk es fr n = false := by
  unfold fromsOk
  rw [List.all_eq_false]
  exact ⟨k, List.mem_range.2 hn, by simp [h, h2, hf]⟩
theorem ordersOk_no {es : List Ev} {od : List (List Int)} {k n : Nat} {o : List Int} (h : od[k]? = some o) (hn : k < n) (hf : orderOk es k o = false) : ordersOk es od n = false := by
  unfold ordersOk
  rw [List.all_eq_false]
  exact ⟨k, List.mem_range.2 hn, by simp [h, hf]⟩

/-- Of two lists of one length, the one without doubles lies within the other: they have the same elements. -/
theorem perm_of_sub {xs ys : List Int} (hn : xs.Nodup) (hs : ∀ x ∈ xs, x ∈ ys) (hl : ys.length ≤ xs.length) : ys.Perm xs := by
  induction xs generalizing ys with
  | nil => simp at hl; subst hl; exact .nil
  | cons x xs ih =>
    have hx : x ∈ ys := hs x (by simp)
    have hp := List.perm_cons_erase hx
    refine hp.trans (.cons x (ih (List.nodup_cons.1 hn).2 (fun y hy => ?_) ?_))
    · have hne : y ≠ x := fun e => (List.nodup_cons.1 hn).1 (e ▸ hy)
      exact (List.mem_erase_of_ne hne).2 (hs y (by simp [hy]))
    · rw [List.length_erase_of_mem hx]; simp at hl; omega

theorem head_wrL {p : List (List Ins)} {l : Nat} (hl : l < 3) : (wrL (evAll p) l).head? = some (l : Int) := by
  have h3 : ∀ k, 3 ≤ k → k ≤ (evAll p).length → ∃ t, wrTo (evAll p) l k = (l : Int) :: t := by
    intro k
    induction k with
    | zero => intro h; omega
    | succ k ih =>
      intro h hk
      by_cases hk2 : k = 2
      · subst hk2
        have e0 : (evAll p)[0]? = some ⟨-1, 0, 0, false, true⟩ := rfl
        have e1 : (evAll p)[1]? = some ⟨-1, 1, 1, false, true⟩ := rfl
        have e2 : (evAll p)[2]? = some ⟨-1, 2, 2, false, true⟩ := rfl
        rw [wrTo_succ _ e2, wrTo_succ _ e1, wrTo_succ _ e0]
        have : l = 0 ∨ l = 1 ∨ l = 2 := by omega
        rcases this with rfl | rfl | rfl <;> exact ⟨_, rfl⟩
      · obtain ⟨e, he⟩ := get_of_lt (xs := evAll p) (k := k) hk
        obtain ⟨t, ht⟩ := ih (by omega) (by omega)
        rw [wrTo_succ _ he, ht]
        exact ⟨_, rfl⟩
  obtain ⟨t, ht⟩ := h3 (evAll p).length (by unfold evAll; simp [evHead_length]) (Nat.le_refl _)
  unfold wrL
  rw [ht]; rfl

end Go.Proofs.Ytblheabgjjeigaa

namespace Go.Proofs.Ytblheabgjjeigaa
open Go.RowKit

theorem news_allocV {w : World} {l : List Value} {T : TypeId} {G : Nat} (hG : w.heap.size = G) : ∀ (j : Nat) (u : Value), l[j]? = some u → (w.alloc (.cells l.toArray T)).cell? ⟨G, 0 + j, none⟩ = some u := by
  subst hG; exact news_alloc
theorem below_app2 {α : Type} {E : El α} {T : TypeId} {w wr w1 : World} {o o2 : Obj} {v : Value} {xs : List α} (hb : Below w.heap.size w wr) (hown : Own E T wr w.heap.size v xs) (hg : ((wr.alloc o).alloc o2).grownBy w1 v.ownBlock) : Below w.heap.size w w1 :=
  below_app (hb.alloc hb.size o) (hown.alloc o) hg

set_option maxRecDepth 100000 in
set_option maxHeartbeats 1600000 in
theorem writersOf_any (v : Value) (es : List Ev) (l : Int) (w : World) (hx : Rep EvE w v es) (hl : es.length ≤ 1048676) :
    Calls Try.prog 49 #[v, .int .i64 l] w (RetOwn IntE 3 w (wrL es l)) := by
  obtain ⟨a, c, rfl, hc1, hc2, hc3, hx⟩ := hx.open
  have HX := hide hx; clear hx
  have HW : Hid (wrL es l = wrTo es l es.length) := hide rfl
  have HLEN := hide (wrTo_length es l)
  generalize hn : es.length = n at *
  have H := hide hn; clear hn
  go_enter Try.func49, Try.ntmps49
  go_wp2_with fail
  go_loopw [5, 10] (fun s i wr => ∃ t : Nat, t ≤ n ∧ i = .int .i64 t ∧ OwnN wr w.heap.size s (wrTo es l t) ∧ Below w.heap.size w wr) (fun _ i _ => n - (intOf i).toNat)
  case atStart => exact ⟨0, Nat.zero_le _, rfl, Own.nil _ _ _, Below.refl _ _⟩
  case round =>
    obtain ⟨t, ht, rfl, hown, hb⟩ := hrel
    by_cases hlt : t < n
    · obtain ⟨e, hek⟩ := get_of_lt (xs := es) (k := t) (by rw [H.out]; exact hlt)
      obtain ⟨b, o, rfl, hbl, i0, i1, i2, i3, i4⟩ := (HX.out.below hb).ev hek
      have hlt' := nat_of_lt hlt
      have HS := hide (wrTo_succ l hek)
      have hlen : (wrTo es l t).length ≤ 68719476736 := Nat.le_trans (HLEN.out t (by omega)) (by omega)
      clear hek
      obtain ⟨et, ei, el, er, ew⟩ := e
      simp only at i0 i1 i2 i3 i4
      generalize wrTo es l t = G at *
      cases ew
      · have HS2 : Hid (wrTo es l (t + 1) = G) := hide (by rw [HS.out, wr1]; simp)
        go_wp2_with fail
        go_roundw
        case rel => exact ⟨t + 1, by omega, by go_num, by rw [HS2.out]; exact hown.alloc _, hb.alloc hb.size _⟩
        case measure => simp [intOf]; omega
      · by_cases hel : el = l
        · have HS2 : Hid (wrTo es l (t + 1) = G ++ [(t : Int)]) := hide (by rw [HS.out, wr1, if_pos (by simp [hel])])
          have k1 : (el == l) = true := by simp [hel]
          clear hel
          go_wp2_with (at_builtin; refine wpList_app IntE 3 Try.infoInt rfl Try.underlying24 w.heap.size _ G (t : Int) ((hown.alloc _).alloc _) (by decide) hlen (by simp; have := hb.size; omega) rfl _ _ rfl rfl _ 0 1 rfl (news_allocV (by simp)) ?_; intro v' w1 hown1 hgr1)
          have hb1 := below_app2 hb hown hgr1
          go_roundw
          case rel => exact ⟨t + 1, by omega, by go_num, by rw [HS2.out]; exact hown1, hb1⟩
          case measure => simp [intOf]; omega
        · have HS2 : Hid (wrTo es l (t + 1) = G) := hide (by rw [HS.out, wr1, if_neg (by simp [hel])]; simp)
          have k1 : (el == l) = false := by simp [hel]
          clear hel
          go_wp2_with fail
          go_roundw
          case rel => exact ⟨t + 1, by omega, by go_num, by rw [HS2.out]; exact hown.alloc _, hb.alloc hb.size _⟩
          case measure => simp [intOf]; omega
    · have e : t = n := by omega
      go_wp2_with fail
      go_ret
      rw [HW.out, ← e]
      exact ⟨_, rfl, hown, hb⟩

set_option maxRecDepth 100000 in
set_option maxHeartbeats 1600000 in
theorem l6Writers_any (v : Value) (es : List Ev) (l : Int) (w : World) (hx : Rep EvE w v es) (hl : es.length ≤ 1048676) :
    Calls Try.prog 55 #[v, .int .i64 l] w (RetOwn IntE 3 w (wrL es l)) := by
  obtain ⟨a, c, rfl, hc1, hc2, hc3, hx⟩ := hx.open
  have HX := hide hx; clear hx
  have HW : Hid (wrL es l = wrTo es l es.length) := hide rfl
  have HLEN := hide (wrTo_length es l)
  generalize hn : es.length = n at *
  have H := hide hn; clear hn
  go_enter Try.func55, Try.ntmps55
  go_wp2_with fail
  go_loopw [5, 6] (fun s i wr => ∃ t : Nat, t ≤ n ∧ i = .int .i64 t ∧ OwnN wr w.heap.size s (wrTo es l t) ∧ Below w.heap.size w wr) (fun _ i _ => n - (intOf i).toNat)
  case atStart => exact ⟨0, Nat.zero_le _, rfl, Own.empty (E := IntE) _ w (Nat.le_refl _), (Below.refl _ _).alloc (Nat.le_refl _) _⟩
  case round =>
    obtain ⟨t, ht, rfl, hown, hb⟩ := hrel
    by_cases hlt : t < n
    · obtain ⟨e, hek⟩ := get_of_lt (xs := es) (k := t) (by rw [H.out]; exact hlt)
      obtain ⟨b, o, rfl, hbl, i0, i1, i2, i3, i4⟩ := (HX.out.below hb).ev hek
      have hlt' := nat_of_lt hlt
      have HS := hide (wrTo_succ l hek)
      have hlen : (wrTo es l t).length ≤ 68719476736 := Nat.le_trans (HLEN.out t (by omega)) (by omega)
      clear hek
      obtain ⟨et, ei, el, er, ew⟩ := e
      simp only at i0 i1 i2 i3 i4
      generalize wrTo es l t = G at *
      cases ew
      · have HS2 : Hid (wrTo es l (t + 1) = G) := hide (by rw [HS.out, wr1]; simp)
        go_wp2_with fail
        go_roundw
        case rel => exact ⟨t + 1, by omega, by go_num, by rw [HS2.out]; exact hown, hb⟩
        case measure => simp [intOf]; omega
      · by_cases hel : el = l
        · have HS2 : Hid (wrTo es l (t + 1) = G ++ [(t : Int)]) := hide (by rw [HS.out, wr1, if_pos (by simp [hel])])
          have k1 : (el == l) = true := by simp [hel]
          clear hel
          go_wp2_with (at_builtin; refine wpList_app IntE 3 Try.infoInt rfl Try.underlying24 w.heap.size _ G (t : Int) (hown.alloc _) (by decide) hlen (by simp; have := hb.size; omega) rfl _ _ rfl rfl _ 0 1 rfl (news_allocV (by simp)) ?_; intro v' w1 hown1 hgr1)
          have hb1 := below_app hb hown hgr1
          go_roundw
          case rel => exact ⟨t + 1, by omega, by go_num, by rw [HS2.out]; exact hown1, hb1⟩
          case measure => simp [intOf]; omega
        · have HS2 : Hid (wrTo es l (t + 1) = G) := hide (by rw [HS.out, wr1, if_neg (by simp [hel])]; simp)
          have k1 : (el == l) = false := by simp [hel]
          clear hel
          go_wp2_with fail
          go_roundw
          case rel => exact ⟨t + 1, by omega, by go_num, by rw [HS2.out]; exact hown, hb⟩
          case measure => simp [intOf]; omega
    · have e : t = n := by omega
      go_wp2_with fail
      go_ret
      rw [HW.out, ← e]
      exact ⟨_, rfl, hown, hb⟩

/-- The place of a number in a list, or -1. -/
def PlaceOf (xs : List Int) (x q : Int) : Prop := (q = -1 ∧ x ∉ xs) ∨ ∃ k : Nat, q = k ∧ xs[k]? = some x ∧ x ∉ xs.take k
theorem PlaceOf.lt {xs : List Int} {x q : Int} (h : PlaceOf xs x q) : decide (q < 0) = !xs.contains x := by
  rcases h with ⟨rfl, h⟩ | ⟨k, rfl, h, -⟩
  · simp [h]
  · have := List.mem_of_getElem? h
    simp [this]
theorem notin_succ {xs : List Int} {x y : Int} {t : Nat} (h : x ∉ xs.take t) (hy : xs[t]? = some y) (hne : y ≠ x) : x ∉ xs.take (t + 1) := by
  rw [List.take_add_one, hy]
  simp [h, Ne.symm hne]

set_option maxHeartbeats 800000 in
theorem l6Place_any (v : Value) (xs : List Int) (x : Int) (w : World) (hx : Rep IntE w v xs) :
    Calls Try.prog 54 #[v, .int .i64 x] w fun e w' => (∃ q : Int, e = .returned (.int .i64 q) ∧ PlaceOf xs x q) ∧ w = w' := by
  obtain ⟨a, c, rfl, hc1, hc2, hc3, hx⟩ := hx.open
  have HX := hide hx; clear hx
  generalize hn : xs.length = n at *
  have H := hide hn; clear hn
  go_enter Try.func54, Try.ntmps54
  go_wp2_with fail
  go_loop [5] (fun i => ∃ t : Nat, t ≤ n ∧ i = .int .i64 t ∧ Hid (x ∉ xs.take t)) (fun i => n - (intOf i).toNat)
  case atStart => exact ⟨0, Nat.zero_le _, rfl, hide (by simp)⟩
  case round =>
    obtain ⟨t, ht, rfl, hno⟩ := hrel
    by_cases hlt : t < n
    · obtain ⟨y, hy⟩ := get_of_lt (xs := xs) (k := t) (by rw [H.out]; exact hlt)
      obtain ⟨b, o, rfl, hbl, i0⟩ := HX.out.int hy
      have hlt' := nat_of_lt hlt
      have X := hide hy; clear hy
      by_cases hxy : y = x
      · have k1 : (y == x) = true := by simp [hxy]
        have XE := hide hxy
        clear hxy
        go_wp2_with fail
        go_ret
        exact ⟨⟨_, rfl, .inr ⟨t, rfl, XE.out ▸ X.out, hno.out⟩⟩, rfl⟩
      · have k1 : (y == x) = false := by simp [hxy]
        have NO : Hid (x ∉ xs.take (t + 1)) := hide (notin_succ hno.out X.out hxy)
        clear hxy
        go_wp2_with fail
        go_round
        case rel => exact ⟨t + 1, by omega, by go_num, NO⟩
        case measure => simp [intOf]; omega
    · go_wp2_with fail
      go_ret
      refine ⟨⟨_, rfl, .inl ⟨rfl, ?_⟩⟩, rfl⟩
      have h := hno.out
      rwa [List.take_of_length_le (by rw [H.out]; omega)] at h

end Go.Proofs.Ytblheabgjjeigaa

namespace Go.Proofs.Ytblheabgjjeigaa
open Go.RowKit

/-- The place of the first element of which f says yes, or -1. -/
def IdxOf {α : Type} (f : α → Bool) (xs : List α) (q : Int) : Prop := (q = -1 ∧ ∀ x ∈ xs, f x = false) ∨ ∃ (t : Nat) (x : α), q = t ∧ xs[t]? = some x ∧ f x = true ∧ ∀ y ∈ xs.take t, f y = false

theorem none_succ {α : Type} {f : α → Bool} {xs : List α} {t : Nat} {x : α} (h : ∀ y ∈ xs.take t, f y = false) (hx : xs[t]? = some x) (hf : f x = false) : ∀ y ∈ xs.take (t + 1), f y = false := by
  intro y hy
  rw [List.take_add_one, hx] at hy
  simp at hy
  rcases hy with hy | rfl
  · exact h y hy
  · exact hf

theorem IdxOf.any {α : Type} {f : α → Bool} {xs : List α} {q : Int} (h : IdxOf f xs q) : decide (0 ≤ q) = xs.any f := by
  rcases h with ⟨rfl, h⟩ | ⟨t, x, rfl, hx, hf, -⟩
  · rw [List.any_eq_false.2 (fun x hx => by rw [h x hx]; simp)]; rfl
  · rw [List.any_eq_true.2 ⟨x, List.mem_of_getElem? hx, hf⟩]; simp

end Go.Proofs.Ytblheabgjjeigaa

namespace Go.Proofs.Ytblheabgjjeigaa
open Go.RowKit

theorem Try.infoIntS : (Try.prog.info? 24).map (fun i => (i.zero, i.size, i.bytes)) = some (some (.slice none 0 0), 1, 24) := by kernel_rfl

abbrev OwnNN (w : World) (base : Nat) (v : Value) (p : List (List Int)) : Prop := Own2 IntE 24 3 w base v p
abbrev RepNN (w : World) (v : Value) (p : List (List Int)) : Prop := Rep2 IntE w v p

set_option maxHeartbeats 400000 in
theorem EqualN_any (v v' : Value) (xs ys : List Int) (w : World) (hx : Rep IntE w v xs) (hy : Rep IntE w v' ys) :
    Calls Try.prog 41 #[v, v'] w fun e w' => e = .returned (.bool (decide (xs = ys))) ∧ Below w.heap.size w w' := by
  obtain ⟨a, c, rfl, hc1, hc2, hc3, hx⟩ := hx.open
  obtain ⟨a', c', rfl, hc1', hc2', hc3', hy⟩ := hy.open
  have HX := hide hx; clear hx
  have HY := hide hy; clear hy
  generalize hn : xs.length = n at *
  generalize hn' : ys.length = n' at *
  have H := hide hn; clear hn
  have H' := hide hn'; clear hn'
  by_cases hc : n = n'
  · subst hc
    have hc' : ((n : Int) != n) = false := by simp
    go_enter Try.func41, Try.ntmps41
    go_wp2_with fail
    go_loopw [13] (fun v wr => ∃ k : Nat, k ≤ n ∧ v = .int .i64 k ∧ Hid (xs.take k = ys.take k) ∧ Below w.heap.size w wr) (fun v _ => n - (intOf v).toNat)
    case atStart => exact ⟨0, Nat.zero_le _, rfl, hide (by simp), Below.refl _ _⟩
    case round =>
      obtain ⟨k, hk, rfl, T, hb⟩ := hrel
      by_cases hlt : k < n
      · obtain ⟨x, hxk⟩ := get_of_lt (xs := xs) (k := k) (by rw [H.out]; exact hlt)
        obtain ⟨y, hyk⟩ := get_of_lt (xs := ys) (k := k) (by rw [H'.out]; exact hlt)
        obtain ⟨b, o, rfl, hbl, i0⟩ := (HX.out.below hb).int hxk
        obtain ⟨b', o', rfl, hbl', j0⟩ := (HY.out.below hb).int hyk
        have hlt' := nat_of_lt hlt
        have X := hide hxk; clear hxk
        have Y := hide hyk; clear hyk
        by_cases hxy : x = y
        · have T' := hide (take_eq_succ T.out X.out Y.out hxy)
          have hd : (x != y) = false := by simp [hxy]
          clear hxy
          go_wp2_with fail
          refine wp_region_bw (by kernel_rfl) (by kernel_rfl) ?_
          repeat (go_big_quiet_step (fail))
          refine wpQuiet_nil ?_
          intro w1 hb1
          have hb2 := hb.trans (hb1.mono hb.size)
          go_wp2_with fail
          go_roundw
          case rel => exact ⟨k + 1, by omega, by go_num, T', hb2⟩
          case measure => simp [intOf]; omega
        · have hq := ne_of_get X.out Y.out hxy
          have hd : (x != y) = true := by simp [hxy]
          clear hxy
          go_wp2_with fail
          refine wp_region_bw (by kernel_rfl) (by kernel_rfl) ?_
          repeat (go_big_quiet_step (fail))
          refine wpQuiet_nil ?_
          intro w1 hb1
          have hb2 := hb.trans (hb1.mono hb.size)
          go_wp2_with fail
          go_ret
          exact ⟨by simp [hq], hb2⟩
      · have e2 : xs = ys := take_all_eq T.out (by rw [H.out]; omega) (by rw [H'.out]; omega)
        subst e2
        go_wp2_with fail
        go_ret
        exact ⟨by simp, hb⟩
  · have hc' : ((n : Int) != n') = true := by simp; omega
    have hq : xs ≠ ys := fun h => hc (by rw [← H.out, ← H'.out, h])
    go_enter Try.func41, Try.ntmps41
    go_wp2_with fail
    go_ret
    exact ⟨by simp [hq], Below.refl _ _⟩

/-- What a list of lists's size leaves, or -1. -/
def szN : List (List Int) → Int → Int
  | [], l => l
  | r :: p, l => if l - r.length < 0 then -1 else szN p (l - r.length)

theorem szN_le (p : List (List Int)) (l : Int) (h : 0 ≤ szN p l) : szN p l ≤ l ∧ ∀ r ∈ p, (r.length : Int) ≤ l := by
  induction p generalizing l with
  | nil => simp [szN]
  | cons r p ih =>
    simp only [szN] at h ⊢
    split at h
    · omega
    · rename_i hl
      rw [if_neg hl]
      obtain ⟨h1, h2⟩ := ih _ h
      refine ⟨by omega, fun q hq => ?_⟩
      rcases List.mem_cons.1 hq with rfl | hq
      · omega
      · have := h2 q hq; omega

def szNN (p : List (List Int)) (l : Int) : Int := if l - p.length < 0 then -1 else szN p (l - p.length)

theorem szN_eq (p : List (List Int)) (l : Int) (h : 0 ≤ szN p l) : szN p l = l - p.flatten.length ∨ p = [] := by
  induction p generalizing l with
  | nil => exact .inr rfl
  | cons r p ih =>
    left
    simp only [szN] at h ⊢
    split at h
    · omega
    · rename_i hl
      rw [if_neg hl]
      rcases ih _ h with h1 | h1
      · rw [h1]; simp; omega
      · subst h1; simp [szN]

theorem szNN_le (p : List (List Int)) (h : ¬ szNN p 1048576 < 0) : p.length ≤ 1048576 ∧ p.flatten.length ≤ 1048576 ∧ ∀ r ∈ p, r.length ≤ 1048576 := by
  unfold szNN at h
  split at h
  · omega
  · rename_i hl
    have h1 := szN_le p _ (Int.not_lt.1 h)
    refine ⟨by omega, ?_, fun r hr => by have := h1.2 r hr; omega⟩
    rcases szN_eq p _ (Int.not_lt.1 h) with h2 | h2
    · rw [h2] at h; omega
    · subst h2; simp


end Go.Proofs.Ytblheabgjjeigaa
