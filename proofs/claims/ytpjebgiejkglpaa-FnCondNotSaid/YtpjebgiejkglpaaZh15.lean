/-
  The reference's outcome of a state. Condition: bounds on lengths.
-/
import Derived.Test.YtpjebgiejkglpaaZh13
import Derived.Test.YtpjebgiejkglpaaZh02
namespace Go.Proofs.Ytpjebgiejkglpaa
open Go.RowKit

abbrev St.q (s : St) : Sq := ⟨s.pc, s.rg, s.mm⟩
theorem l3Reg_M (t r : Nat) (w : World) (h0 : t ≤ 2) (h1 : r ≤ 2) : Calls Try.prog 46 #[.int .i64 (t : Int), .int .i64 (r : Int)] w fun e w' => e = .returned (.int .i64 ((t * 3 + r : Nat) : Int)) ∧ w = w' := by
  go_enter Try.func46, Try.ntmps46
  go_wp2_with fail
  go_ret
  refine ⟨congrArg Ending.returned (congrArg (Value.int .i64) ?_), rfl⟩
  omega

theorem sqVal_yes {s : Sq} {t : Nat} {i : Ins} (h : i.op = 3) : sqVal s t i = s.rg.getD (t * 3 + i.reg.toNat) 0 := by unfold sqVal; rw [if_pos h]
theorem sqVal_no {s : Sq} {t : Nat} {i : Ins} (h : i.op ≠ 3) : sqVal s t i = i.val := by unfold sqVal; rw [if_neg h]

set_option maxHeartbeats 1600000 in
theorem l3Value_any (x : SV) (s : St) (t r : Nat) (op loc val : Int) (w : World) (hx : RepSt w x s) (ht : t ≤ 2) (h1 : r ≤ 2) (hl : t * 3 + r < s.rg.length) :
    Calls Try.prog 94 #[.agg #[.slice x.p.a x.p.n x.p.cap, .slice x.r.a x.r.n x.r.cap, .slice x.m.a x.m.n x.m.cap, .slice x.b.a x.b.n x.b.cap], .int .i64 (t : Int), .agg #[.int .i64 op, .int .i64 loc, .int .i64 (r : Int), .int .i64 val]] w
      fun e w' => e = .returned (.int .i64 (sqVal s.q t ⟨op, loc, r, val⟩)) ∧ Below w.heap.size w w' := by
  obtain ⟨⟨pa, pn, pk⟩, ⟨ra, rn, rk⟩, ⟨ma, mn, mk⟩, ⟨ba, bn, bk⟩⟩ := x
  obtain ⟨y, hy⟩ := get_of_lt (xs := s.rg) (k := t * 3 + r) hl
  obtain ⟨_, _, hv2, -, -, -, -⟩ := hx.rg.open
  simp only [Slc.v, Value.slice.injEq] at hv2
  obtain ⟨rfl, hn2, rfl⟩ := hv2
  obtain ⟨b, o, rfl, hbl, i0⟩ := (show Rep IntE w (.slice ra rn rk) s.rg from hx.rg).int hy
  have HREG := hide (fun w' => l3Reg_M t r w' ht h1)
  have hlt : ((t * 3 + r : Nat) : Int) < (rn : Int) := by omega
  have hb0 := (belowAlloc w (.cells #[.slice pa pn pk, .slice (some ⟨b, o, none⟩) rn rk, .slice ma mn mk, .slice ba bn bk] 84)).alloc (by simp) (.cells #[.int .i64 op, .int .i64 loc, .int .i64 (r : Int), .int .i64 val] 69)
  have HB0 := hide hb0
  obtain ⟨A0, hA0⟩ : ∃ A0, A0 = (w.alloc (.cells #[.slice pa pn pk, .slice (some ⟨b, o, none⟩) rn rk, .slice ma mn mk, .slice ba bn bk] 84)).alloc (.cells #[.int .i64 op, .int .i64 loc, .int .i64 (r : Int), .int .i64 val] 69) := ⟨_, rfl⟩
  rw [← hA0] at HB0
  have hbl1 : b < A0.heap.size := Nat.lt_of_lt_of_le hbl HB0.out.size
  have i1 := (HB0.out.cell (p := ⟨b, o + (t * 3 + r), none⟩) hbl).trans i0
  have hX1 : A0.heap[w.heap.size]? = some (.cells #[.slice pa pn pk, .slice (some ⟨b, o, none⟩) rn rk, .slice ma mn mk, .slice ba bn bk] 84 (0, 0)) := by
    rw [hA0, heap_alloc_old _ _ (by simp)]; exact heap_alloc_new w _
  have hX2 : A0.heap[w.heap.size + 1]? = some (.cells #[.int .i64 op, .int .i64 loc, .int .i64 (r : Int), .int .i64 val] 69 (0, 0)) := by
    have h := heap_alloc_new (w.alloc (.cells #[.slice pa pn pk, .slice (some ⟨b, o, none⟩) rn rk, .slice ma mn mk, .slice ba bn bk] 84)) (.cells #[.int .i64 op, .int .i64 loc, .int .i64 (r : Int), .int .i64 val] 69)
    rw [hA0]; simpa using h
  have a1 : A0.cell? ⟨w.heap.size, 1, none⟩ = some (.slice (some ⟨b, o, none⟩) rn rk) := cellH hX1 (k := 1) rfl
  have a2 : A0.cell? ⟨w.heap.size + 1, 2, none⟩ = some (.int .i64 (r : Int)) := cellH hX2 (k := 2) rfl
  have a3 : A0.cell? ⟨w.heap.size + 1, 0, none⟩ = some (.int .i64 op) := cellH hX2 (k := 0) rfl
  have a4 : A0.cell? ⟨w.heap.size + 1, 3, none⟩ = some (.int .i64 val) := cellH hX2 (k := 3) rfl
  have al := lt_of_cell a1
  have al2 := lt_of_cell a2
  have HA0 := hide hA0
  clear hX1 hX2 hA0
  have E1 : Hid (op = 3 → sqVal s.q t ⟨op, loc, r, val⟩ = y) := hide fun h => by rw [sqVal_yes h]; simp only [Int.toNat_natCast, List.getD_eq_getElem?_getD, hy, Option.getD_some]
  have E2 : Hid (op ≠ 3 → sqVal s.q t ⟨op, loc, r, val⟩ = val) := hide fun h => sqVal_no h
  generalize sqVal s.q t ⟨op, loc, r, val⟩ = R at *
  generalize t * 3 + r = q at *
  clear hx hy hl hb0 hn2 i0 hbl
  by_cases h3 : op = 3
  · obtain rfl := E1.out h3
    subst h3
    clear E1 E2
    go_enter Try.func94, Try.ntmps94
    go_wp2_with fail
    rw [← HA0.out]
    go_wp2_with fail
    refine wp_region_bw (by kernel_rfl) (by kernel_rfl) ?_
    repeat (go_big_quiet_step ((go_at_call 46; (with_reducible exact Calls.bw_same (HREG.out _)))))
    refine wpQuiet_nil ?_
    intro w1 hw1
    go_wp2_with fail
    go_ret
    exact ⟨rfl, HB0.out.trans (hw1.mono HB0.out.size)⟩
  · obtain rfl := E2.out h3
    have h3' : (op == 3) = false := by simpa using h3
    clear E1 E2 h3
    go_enter Try.func94, Try.ntmps94
    go_wp2_with fail
    go_ret
    exact ⟨rfl, by rw [← HA0.out]; exact HB0.out⟩

theorem doneF {p : List (List Ins)} {s : Sq} {t : Nat} {k : Int} {r : List Ins} (hk : s.pc[t]? = some k) (hr : p[t]? = some r) (h : k < r.length) : sqDone p s = false := by
  unfold sqDone
  rw [List.all_eq_false]
  refine ⟨t, List.mem_range.2 (List.getElem?_eq_some_iff.1 hr).1, ?_⟩
  simp [List.getD_eq_getElem?_getD, hk, hr]
  omega
theorem doneT {p : List (List Ins)} {s : Sq} (h : ∀ t < p.length, ∃ k r, s.pc[t]? = some k ∧ p[t]? = some r ∧ (r.length : Int) ≤ k) : sqDone p s = true := by
  unfold sqDone
  rw [List.all_eq_true]
  intro t ht
  obtain ⟨k, r, hk, hr, hn⟩ := h t (List.mem_range.1 ht)
  simp [List.getD_eq_getElem?_getD, hk, hr]
  omega

set_option maxHeartbeats 1600000 in
theorem l3Done_any (vp : Value) (p : List (List Ins)) (x : SV) (s : St) (w : World) (hp : RepP w vp p) (hx : RepSt w x s) (hl : s.pc.length = p.length) (hpl : p.length ≤ 1048576) :
    Calls Try.prog 64 #[vp, .agg #[.slice x.p.a x.p.n x.p.cap, .slice x.r.a x.r.n x.r.cap, .slice x.m.a x.m.n x.m.cap, .slice x.b.a x.b.n x.b.cap]] w
      fun e w' => e = .returned (.bool (sqDone p s.q)) ∧ Below w.heap.size w w' := by
  obtain ⟨⟨pa, pn, pk⟩, ⟨ra, rn, rk⟩, ⟨ma, mn, mk⟩, ⟨ba, bn, bk⟩⟩ := x
  obtain ⟨va, vc, rfl, hc1, hc2, hc3, hp⟩ := hp.open
  obtain ⟨_, _, hv2, -, -, -, -⟩ := hx.pc.open
  simp only [Slc.v, Value.slice.injEq] at hv2
  obtain ⟨rfl, hn2, rfl⟩ := hv2
  have HX : Hid (Rep IntE w (.slice pa pn pk) s.pc) := hide hx.pc
  have HP := hide hp
  have HL := hide hl
  obtain ⟨A0, hA0⟩ : ∃ A0, A0 = w.alloc (.cells #[.slice pa pn pk, .slice ra rn rk, .slice ma mn mk, .slice ba bn bk] 84) := ⟨_, rfl⟩
  have HB : Hid (Below w.heap.size w A0) := hide (by rw [hA0]; exact belowAlloc _ _)
  have hz : A0.heap.size = w.heap.size + 1 := by rw [hA0]; simp
  have HX2 : Hid (A0.heap[w.heap.size]? = some (.cells #[.slice pa pn pk, .slice ra rn rk, .slice ma mn mk, .slice ba bn bk] 84 (0, 0))) := hide (by rw [hA0]; exact heap_alloc_new w _)
  have HA0 := hide hA0
  have hpn : pn = p.length := by omega
  generalize hn : p.length = n at *
  have HN := hide hn
  clear hA0 hx hp hl hn2 hn
  subst hpn
  go_enter Try.func64, Try.ntmps64
  go_wp2_with fail
  rw [← HA0.out]
  go_loopw [5] (fun i wr => ∃ k : Nat, k ≤ pn ∧ i = .int .i64 k ∧ Hid (∀ t < k, ∃ c r, s.pc[t]? = some c ∧ p[t]? = some r ∧ (r.length : Int) ≤ c) ∧ Below A0.heap.size A0 wr) (fun i _ => pn - (intOf i).toNat)
  case atStart => exact ⟨0, Nat.zero_le _, rfl, hide (fun t h => absurd h (Nat.not_lt_zero t)), Below.refl _ _⟩
  case round =>
    obtain ⟨k, hk, rfl, hno, hb⟩ := hrel
    by_cases hlt : k < pn
    · have hlt' := nat_of_lt hlt
      have hbw := HB.out.trans (hb.mono HB.out.size)
      have d0 : wr.cell? ⟨w.heap.size, 0, none⟩ = some (.slice pa pn pk) := cellH ((hb.block w.heap.size (by omega)).trans HX2.out) (k := 0) rfl
      have dl := lt_of_cell d0
      obtain ⟨y, hy⟩ := get_of_lt (xs := s.pc) (k := k) (by rw [HL.out]; exact hlt)
      obtain ⟨r, hrk⟩ := get_of_lt (xs := p) (k := k) (by rw [HN.out]; exact hlt)
      obtain ⟨b, o, rfl, hbl, i0⟩ := (HX.out.below hbw).int hy
      obtain ⟨b2, o2, qa, qc, rfl, hbl2, q0, q1⟩ := (HP.out.below hbw).row hrk
      obtain ⟨_, _, _, _, hrl, _, _⟩ := q1.open
      have HBR := hide hb
      have HBS := hide hb.size
      have Y := hide hy; have RK := hide hrk
      clear hy hrk q1 hb hbw
      by_cases hlt2 : y < (r.length : Int)
      · have E : Hid (sqDone p s.q = false) := hide (doneF (s := s.q) Y.out RK.out hlt2)
        go_wp2_with fail
        refine wp_region_bw (by kernel_rfl) (by kernel_rfl) ?_
        repeat (go_big_quiet_step (fail))
        refine wpQuiet_nil ?_
        intro w1 hw1
        go_wp2_with fail
        go_ret
        rw [E.out]
        exact ⟨rfl, HB.out.trans ((HBR.out.trans (hw1.mono HBS.out)).mono HB.out.size)⟩
      · have NO : Hid (∀ t < k + 1, ∃ c r, s.pc[t]? = some c ∧ p[t]? = some r ∧ (r.length : Int) ≤ c) := hide fun t ht => by
          by_cases e : t = k
          · subst e; exact ⟨y, r, Y.out, RK.out, Int.not_lt.1 hlt2⟩
          · exact hno.out t (by omega)
        have hlt3 : (r.length : Int) ≤ y := Int.not_lt.1 hlt2
        clear hlt2
        go_wp2_with fail
        refine wp_region_bw (by kernel_rfl) (by kernel_rfl) ?_
        repeat (go_big_quiet_step (fail))
        refine wpQuiet_nil ?_
        intro w1 hw1
        go_wp2_with fail
        go_roundw
        case rel => exact ⟨k + 1, by omega, by go_num, NO, HBR.out.trans (hw1.mono HBS.out)⟩
        case measure => simp [intOf]; omega
    · obtain rfl : k = pn := by omega
      have E : Hid (sqDone p s.q = true) := hide (doneT (s := s.q) (fun t ht => hno.out t (by rw [HN.out] at ht; exact ht)))
      go_wp2_with fail
      go_ret
      rw [E.out]
      exact ⟨rfl, HB.out.trans (hb.mono HB.out.size)⟩

end Go.Proofs.Ytpjebgiejkglpaa

namespace Go.Proofs.Ytpjebgiejkglpaa
open Go.RowKit

structure JOc (A0 : World) (rg mm : List Int) (a f1 f2 : Bool) (A : Nat) (f g : Slc) (W : World) : Prop where
  out : Below A0.heap.size A0 W
  o1 : a = true → f1 = false → Own IntE 3 W A0.heap.size (.slice (some ⟨A, 0, none⟩) 0 0) []
  o2 : f1 = true → f2 = false → Own IntE 3 W A0.heap.size f.v rg
  o3 : f2 = true → Own IntE 3 W A0.heap.size g.v (rg ++ mm)
  i1 : f1 = true → a = true
  i2 : f2 = true → f1 = true
section
variable {A0 W w' : World} {rg mm : List Int} {a f1 f2 : Bool} {A : Nat} {f g s' : Slc}
theorem JOc.lit (hJ : JOc A0 rg mm false f1 f2 A f g W) : JOc A0 rg mm true f1 f2 W.heap.size f g (W.alloc (.cells #[] 3)) := by
  cases h1 : f1 with
  | true => exact (nomatch hJ.i1 h1)
  | false =>
    subst h1
    cases h2 : f2 with
    | true => exact (nomatch hJ.i2 h2)
    | false =>
      subst h2
      exact ⟨hJ.out.alloc hJ.out.size _, fun _ _ => Own.empty _ _ hJ.out.size, fun e => (nomatch e), fun e => (nomatch e), fun e => (nomatch e), fun e => (nomatch e)⟩
theorem JOc.app1 (hJ : JOc A0 rg mm a false f2 A f g W) (ha : a = true) (ho : Own IntE 3 w' A0.heap.size s'.v ([] ++ rg)) (hg : W.grownBy w' (Slc.v ⟨some ⟨A, 0, none⟩, 0, 0⟩).ownBlock) : JOc A0 rg mm a true f2 A s' g w' := by
  cases h2 : f2 with
  | true => exact (nomatch hJ.i2 h2)
  | false =>
    subst h2
    exact ⟨hJ.out.grown hg hJ.out.size fun q hq => (World.ownsRow.lt (hJ.o1 ha rfl) q hq).1, fun _ e => (nomatch e), fun _ _ => ho, fun e => (nomatch e), fun _ => ha, fun e => (nomatch e)⟩
theorem JOc.app2 (hJ : JOc A0 rg mm a f1 false A f g W) (h1 : f1 = true) (ho : Own IntE 3 w' A0.heap.size s'.v (rg ++ mm)) (hg : W.grownBy w' f.v.ownBlock) : JOc A0 rg mm a f1 true A f s' w' :=
  ⟨hJ.out.grown hg hJ.out.size fun q hq => (World.ownsRow.lt (hJ.o2 h1 rfl) q hq).1, fun _ e => (by rw [h1] at e; exact (nomatch e)), fun _ e => (nomatch e), fun _ => ho, hJ.i1, fun _ => h1⟩
end

set_option maxRecDepth 100000 in
set_option maxHeartbeats 6400000 in
theorem l3Outcome_any (x : SV) (s : St) (w : World) (hx : RepSt w x s) (h2 : s.rg.length ≤ 1048576) (h3 : s.mm.length ≤ 1048576) :
    Calls Try.prog 66 #[.agg #[.slice x.p.a x.p.n x.p.cap, .slice x.r.a x.r.n x.r.cap, .slice x.m.a x.m.n x.m.cap, .slice x.b.a x.b.n x.b.cap]] w (RetOwn IntE 3 w (sqOut s.q)) := by
  obtain ⟨⟨pa, pn, pk⟩, ⟨ra, rn, rk⟩, ⟨ma, mn, mk⟩, ⟨ba, bn, bk⟩⟩ := x
  have HX := hide hx
  clear hx
  obtain ⟨A0, hA0⟩ : ∃ A0, A0 = w.alloc (.cells #[.slice pa pn pk, .slice ra rn rk, .slice ma mn mk, .slice ba bn bk] 84) := ⟨_, rfl⟩
  have HB : Hid (Below w.heap.size w A0) := hide (by rw [hA0]; exact belowAlloc _ _)
  have hz : A0.heap.size = w.heap.size + 1 := by rw [hA0]; simp
  have HX2 : Hid (A0.heap[w.heap.size]? = some (.cells #[.slice pa pn pk, .slice ra rn rk, .slice ma mn mk, .slice ba bn bk] 84 (0, 0))) := hide (by rw [hA0]; exact heap_alloc_new w _)
  have HA0 := hide hA0
  clear hA0
  go_enter Try.func66, Try.ntmps66
  go_wp2_with fail
  rw [← HA0.out]
  -- reg outc
  refine wp_region_inv3 (n := 7) (by kernel_rfl) rfl (by kernel_rfl) (by kernel_rfl) (fun A ls a' W => ∃ (ga : Nat) (f : Slc) (g : Slc) (x3 x4 x5 x6 x7 x8 x9 : Value), a' = putAll A [(3, x3), (4, x4), (5, x5), (6, x6), (7, x7), (8, x8), (9, x9)] ∧ Vd ls 0 [] x3 (.slice (some ⟨ga, 0, none⟩) 0 0) ∧ Vd ls 1 [] x4 (.pointer (some ⟨w.heap.size, 1, none⟩)) ∧ Vd ls 2 [] x5 (.slice ra rn rk) ∧ Vd ls 3 [0] x6 (.slice f.a f.n f.cap) ∧ Vd ls 4 [] x7 (.pointer (some ⟨w.heap.size, 2, none⟩)) ∧ Vd ls 5 [] x8 (.slice ma mn mk) ∧ Vd ls 6 [0, 3] x9 (.slice g.a g.n g.cap) ∧ JOc A0 s.rg s.mm (fl ls 0) (fl ls 3) (fl ls 6) ga f g W) ?r0 ?rs ?re
  case r0 =>
    exact ⟨0, ⟨none, 0, 0⟩, ⟨none, 0, 0⟩, undef, undef, undef, undef, undef, undef, undef, by simp only [putAll, Act.put, List.setIfInBounds_toArray, List.set_cons_succ, List.set_cons_zero], Vd.start, Vd.start, Vd.start, Vd.start, Vd.start, Vd.start, Vd.start, by simp only [fl_start]; exact ⟨(Below.refl _ _).drew, fun h => (nomatch h), fun h => (nomatch h), fun h => (nomatch h), fun h => (nomatch h), fun h => (nomatch h)⟩⟩
  case rs =>
    rintro ls a' W hs hnl ⟨ga, f, g, x3, x4, x5, x6, x7, x8, x9, ha, cv0, cv1, cv2, cv3, cv4, cv5, cv6, hJ⟩ k o hkn mc K hK
    simp only [putAll, Act.put, List.setIfInBounds_toArray, List.set_cons_succ, List.set_cons_zero] at ha
    subst ha
    have hkc : k = 0 ∨ k = 1 ∨ k = 2 ∨ k = 3 ∨ k = 4 ∨ k = 5 ∨ k = 6 := by omega
    have hop := mc.op
    have haf := mc.after
    rcases hkc with rfl | rfl | rfl | rfl | rfl | rfl | rfl
    · simp at hop; subst hop; simp [Region.binds] at haf
      have f0 := fl_no mc.new; rw [f0] at hJ
      go_simp
      exact hK _ _ ⟨W.heap.size, f, g, _, _, _, _, _, _, _, by simp only [putAll, Act.put, List.setIfInBounds_toArray, List.set_cons_succ, List.set_cons_zero], Vd.same (by simp), cv1.set (by decide), cv2.set (by decide), cv3.void (by decide) (by decide) mc.new, cv4.set (by decide), cv5.set (by decide), cv6.void (by decide) (by decide) mc.new, by rw [fl_got hs (by decide), fl_set (show 0 ≠ 3 by decide), fl_set (show 0 ≠ 6 by decide)]; exact hJ.lit⟩
    · simp at hop; subst hop; simp [Region.binds] at haf
      go_simp
      exact hK _ _ ⟨ga, f, g, _, _, _, _, _, _, _, by simp only [putAll, Act.put, List.setIfInBounds_toArray, List.set_cons_succ, List.set_cons_zero], cv0.set (by decide), Vd.same (by simp), cv2.set (by decide), cv3.set (by decide), cv4.set (by decide), cv5.set (by decide), cv6.set (by decide), by rw [fl_set (show 1 ≠ 0 by decide), fl_set (show 1 ≠ 3 by decide), fl_set (show 1 ≠ 6 by decide)]; exact hJ⟩
    · simp at hop; subst hop; simp [Region.binds] at haf
      obtain rfl := (cv1.get (by simp [haf])).symm
      have hbk := (hJ.out.block w.heap.size (by omega)).trans HX2.out
      have d1 : W.cell? ⟨w.heap.size, 1, none⟩ = some (.slice ra rn rk) := cellH hbk (k := 1) rfl
      have dl := lt_of_cell d1
      go_simp
      exact hK _ _ ⟨ga, f, g, _, _, _, _, _, _, _, by simp only [putAll, Act.put, List.setIfInBounds_toArray, List.set_cons_succ, List.set_cons_zero], cv0.set (by decide), cv1.set (by decide), Vd.same (by simp), cv3.set (by decide), cv4.set (by decide), cv5.set (by decide), cv6.set (by decide), by rw [fl_set (show 2 ≠ 0 by decide), fl_set (show 2 ≠ 3 by decide), fl_set (show 2 ≠ 6 by decide)]; exact hJ⟩
    · simp at hop; subst hop; simp [Region.binds] at haf
      obtain rfl := (cv0.get (by simp [haf])).symm
      obtain rfl := (cv2.get (by simp [haf])).symm
      have f3 := fl_no mc.new; rw [f3] at hJ
      have f0 := fl_yes (show ls[0]? = some true by simp [haf]); rw [f0] at hJ
      refine step_appSAt IntE 3 Try.infoInt rfl Try.underlying24 A0.heap.size ⟨some ⟨ga, 0, none⟩, 0, 0⟩ [] s.rg _ (hJ.o1 rfl rfl) ((HX.out.rg.below HB.out).below hJ.out) (by decide) (by simp; omega) hJ.out.size (by rfl) _ _ (by rfl) (by rfl) (by rfl) ?_; intro s6 w6 hown6 hgr6 hat6
      exact hK _ _ ⟨ga, s6, g, _, _, _, _, _, _, _, by simp only [putAll, Act.put, List.setIfInBounds_toArray, List.set_cons_succ, List.set_cons_zero], cv0.set (by decide), cv1.set (by decide), cv2.set (by decide), Vd.same (by simp [haf]), cv4.set (by decide), cv5.set (by decide), cv6.void (by decide) (by decide) mc.new, by rw [fl_set (show 3 ≠ 0 by decide), fl_got hs (by decide), fl_set (show 3 ≠ 6 by decide), f0]; exact hJ.app1 rfl hown6 hgr6⟩
    · simp at hop; subst hop; simp [Region.binds] at haf
      go_simp
      exact hK _ _ ⟨ga, f, g, _, _, _, _, _, _, _, by simp only [putAll, Act.put, List.setIfInBounds_toArray, List.set_cons_succ, List.set_cons_zero], cv0.set (by decide), cv1.set (by decide), cv2.set (by decide), cv3.set (by decide), Vd.same (by simp), cv5.set (by decide), cv6.set (by decide), by rw [fl_set (show 4 ≠ 0 by decide), fl_set (show 4 ≠ 3 by decide), fl_set (show 4 ≠ 6 by decide)]; exact hJ⟩
    · simp at hop; subst hop; simp [Region.binds] at haf
      obtain rfl := (cv4.get (by simp [haf])).symm
      have hbk := (hJ.out.block w.heap.size (by omega)).trans HX2.out
      have d2 : W.cell? ⟨w.heap.size, 2, none⟩ = some (.slice ma mn mk) := cellH hbk (k := 2) rfl
      have dl := lt_of_cell d2
      go_simp
      exact hK _ _ ⟨ga, f, g, _, _, _, _, _, _, _, by simp only [putAll, Act.put, List.setIfInBounds_toArray, List.set_cons_succ, List.set_cons_zero], cv0.set (by decide), cv1.set (by decide), cv2.set (by decide), cv3.set (by decide), cv4.set (by decide), Vd.same (by simp), cv6.set (by decide), by rw [fl_set (show 5 ≠ 0 by decide), fl_set (show 5 ≠ 3 by decide), fl_set (show 5 ≠ 6 by decide)]; exact hJ⟩
    · simp at hop; subst hop; simp [Region.binds] at haf
      have q3 := (cv3 (by simp [haf])).1; simp at q3
      obtain rfl := (cv3.get (by simp [haf])).symm
      obtain rfl := (cv5.get (by simp [haf])).symm
      have f6 := fl_no mc.new; rw [f6] at hJ
      have f3 := fl_yes (show ls[3]? = some true by simp [haf]); rw [f3] at hJ
      refine step_appSAt IntE 3 Try.infoInt rfl Try.underlying24 A0.heap.size f s.rg s.mm _ (hJ.o2 rfl rfl) ((HX.out.mm.below HB.out).below hJ.out) (by decide) (by omega) hJ.out.size (by rfl) _ _ (by rfl) (by rfl) (by rfl) ?_; intro s6 w6 hown6 hgr6 hat6
      exact hK _ _ ⟨ga, f, s6, _, _, _, _, _, _, _, by simp only [putAll, Act.put, List.setIfInBounds_toArray, List.set_cons_succ, List.set_cons_zero], cv0.set (by decide), cv1.set (by decide), cv2.set (by decide), cv3.set (by decide), cv4.set (by decide), cv5.set (by decide), Vd.same (by simp [haf, q3]), by rw [fl_set (show 6 ≠ 0 by decide), fl_set (show 6 ≠ 3 by decide), fl_got hs (by decide), f3]; exact hJ.app2 rfl hown6 hgr6⟩
  case re =>
    rintro ls a' W hall ⟨ga, f, g, x3, x4, x5, x6, x7, x8, x9, ha, cv0, cv1, cv2, cv3, cv4, cv5, cv6, hJ⟩ o hop
    simp only [putAll, Act.put, List.setIfInBounds_toArray, List.set_cons_succ, List.set_cons_zero] at ha
    subst ha
    simp at hop; subst hop
    obtain rfl := (cv0.get (hall 0 (by decide))).symm
    obtain rfl := (cv1.get (hall 1 (by decide))).symm
    obtain rfl := (cv2.get (hall 2 (by decide))).symm
    obtain rfl := (cv3.get (hall 3 (by decide))).symm
    obtain rfl := (cv4.get (hall 4 (by decide))).symm
    obtain rfl := (cv5.get (hall 5 (by decide))).symm
    obtain rfl := (cv6.get (hall 6 (by decide))).symm
    rw [fl_yes (hall 0 (by decide))] at hJ
    rw [fl_yes (hall 3 (by decide))] at hJ
    rw [fl_yes (hall 6 (by decide))] at hJ
    go_simp
    go_wp2_with fail
    go_ret
    exact ⟨_, rfl, (hJ.o3 rfl).mono HB.out.size, HB.out.trans (hJ.out.mono HB.out.size)⟩
  -- end outc

end Go.Proofs.Ytpjebgiejkglpaa
