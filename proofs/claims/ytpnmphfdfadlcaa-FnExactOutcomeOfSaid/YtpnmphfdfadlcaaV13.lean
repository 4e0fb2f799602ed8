/-
  The reference's l6Reg and l6Write. Condition: bounds on lengths.
-/
import Derived.Test.YtpnmphfdfadlcaaV12
namespace Go.Proofs.Ytpnmphfdfadlcaa
open Go.RowKit

set_option maxRecDepth 100000 in
set_option maxHeartbeats 3200000 in
theorem l6Reg_any (vp ve : Value) (p : List (List Ins)) (es : List Ev) (hes : es = evAll p) (t idx reg : Int) (w : World) (hp : RepP w vp p) (he : Rep EvE w ve es) (hl : es.length ≤ 1048676) :
    Calls Try.prog 206 #[vp, ve, .int .i64 t, .int .i64 idx, .int .i64 reg] w fun e w' => e = .returned (.int .i64 (lastRd p es t idx reg)) ∧ Below w.heap.size w w' := by
  obtain ⟨ea, ec, rfl, -, -, -, he'⟩ := he.open
  obtain ⟨pa, pc, rfl, -, -, -, hp'⟩ := hp.open
  have HP := hide hp'; have HE := hide he'
  have HER := hide (fun k e h hr => ev_read (p := p) (k := k) (e := e) (hes ▸ h) hr)
  have HR : Hid (lastRd p es t idx reg = lastTo p es t idx reg es.length) := hide rfl
  have HS := hide (fun k e h => lastTo_succ p (es := es) t idx reg (k := k) (e := e) h)
  have H0 : Hid (lastTo p es t idx reg 0 = -1) := hide rfl
  clear hes hp he hp' he'
  generalize lastRd p es t idx reg = R at *
  generalize hn : es.length = n at *
  have H := hide hn; clear hn
  go_enter Try.func206, Try.ntmps206
  go_wp2_with fail
  go_loopw [11, 12] (fun l i wr => ∃ k : Nat, k ≤ n ∧ i = .int .i64 k ∧ l = .int .i64 (lastTo p es t idx reg k) ∧ Below w.heap.size w wr) (fun _ i _ => n - (intOf i).toNat)
  case atStart => exact ⟨0, Nat.zero_le _, rfl, by rw [H0.out], Below.refl _ _⟩
  case round =>
    obtain ⟨k, hk, rfl, rfl, hb⟩ := hrel
    by_cases hlt : k < n
    · obtain ⟨e, hek⟩ := get_of_lt (xs := es) (k := k) (by rw [H.out]; exact hlt)
      obtain ⟨b, o, rfl, hbl, i0, i1, i2, i3, i4⟩ := (HE.out.below hb).ev hek
      have hlt' := nat_of_lt hlt
      have S := hide (HS.out k e hek)
      have ER := hide (fun hr => HER.out k e hek hr)
      have HH : Hid (hitR p t idx reg e = ((e.t == t) && (decide (e.i < idx) && (e.r && ((insE p e).reg == reg))))) := hide rfl
      have HBA := hide (hb.alloc hb.size (.cells #[.int .i64 e.t, .int .i64 e.i, .int .i64 e.l, .bool e.r, .bool e.w] 88))
      clear hek
      generalize lastTo p es t idx reg k = G at *
      by_cases g1 : e.t = t
      · have k1 : (e.t == t) = true := by simp [g1]
        by_cases g2 : e.i < idx
        · have k2 : decide (e.i < idx) = true := by simp [g2]
          cases her : e.r
          · have S2 : Hid (lastTo p es t idx reg (k + 1) = G) := hide (by rw [S.out, HH.out, her]; simp)
            rw [her] at i3 HBA
            subst g1
            clear g2 HH ER S her
            go_wp2_with fail
            refine wp_region_bw (by kernel_rfl) (by kernel_rfl) ?_
            repeat (go_big_quiet_step (fail))
            refine wpQuiet_nil ?_
            intro w1 hb1
            go_wp2_with fail
            go_roundw
            case rel => exact ⟨k + 1, by omega, by go_num, by rw [S2.out], HBA.out.trans (hb1.mono HBA.out.size)⟩
            case measure => simp [intOf]; omega
          · obtain ⟨t', i', r, ht, hi, hpt, hri⟩ := ER.out her
            obtain ⟨b2, o2, ra, rc, rfl, hbl2, q0, q1⟩ := (HP.out.below hb).row hpt
            obtain ⟨b3, o3, rfl, hbl3, r0, r1, r2, r3⟩ := q1.ins hri
            have htn : (t' : Int) < (p.length : Int) := by have := (List.getElem?_eq_some_iff.1 hpt).1; omega
            have hin : (i' : Int) < (r.length : Int) := by have := (List.getElem?_eq_some_iff.1 hri).1; omega
            have HG1 := hide g1; have HT := hide ht; have HI := hide hi
            have HRG : Hid ((insE p e).reg = (insE p e).reg) := hide rfl
            rw [her] at i3 HBA HH
            obtain ⟨et, ei, el, er, ew⟩ := e
            simp only at ht hi g1 k1 k2 g2 i0 i1 i2 i3 i4 her
            subst her
            subst ht
            subst hi
            subst g1
            generalize hins : insE p ⟨(t' : Int), (i' : Int), el, true, ew⟩ = ix at *
            clear hins hpt hri q1 ER HG1 HT HI HRG
            by_cases g3 : ix.reg = reg
            · have k3 : (ix.reg == reg) = true := by simp [g3]
              have S2 : Hid (lastTo p es (t' : Int) idx reg (k + 1) = (k : Int)) := hide (by rw [S.out, HH.out, k3, k2]; simp)
              clear g3 S HH k1
              go_wp2_with fail
              refine wp_region_bw (by kernel_rfl) (by kernel_rfl) ?_
              repeat (go_big_quiet_step (fail))
              refine wpQuiet_nil ?_
              intro w1 hb1
              go_wp2_with fail
              go_roundw
              case rel => exact ⟨k + 1, by omega, by go_num, by rw [S2.out], HBA.out.trans (hb1.mono HBA.out.size)⟩
              case measure => simp [intOf]; omega
            · have k3 : (ix.reg == reg) = false := by simp [g3]
              have S2 : Hid (lastTo p es (t' : Int) idx reg (k + 1) = G) := hide (by rw [S.out, HH.out, k3]; simp)
              clear g3 S HH k1
              go_wp2_with fail
              refine wp_region_bw (by kernel_rfl) (by kernel_rfl) ?_
              repeat (go_big_quiet_step (fail))
              refine wpQuiet_nil ?_
              intro w1 hb1
              go_wp2_with fail
              go_roundw
              case rel => exact ⟨k + 1, by omega, by go_num, by rw [S2.out], HBA.out.trans (hb1.mono HBA.out.size)⟩
              case measure => simp [intOf]; omega
        · have k2 : decide (e.i < idx) = false := by simp [g2]
          have S2 : Hid (lastTo p es t idx reg (k + 1) = G) := hide (by rw [S.out, HH.out, k2]; simp)
          subst g1
          clear g2 HH ER S
          go_wp2_with fail
          refine wp_region_bw (by kernel_rfl) (by kernel_rfl) ?_
          repeat (go_big_quiet_step (fail))
          refine wpQuiet_nil ?_
          intro w1 hb1
          go_wp2_with fail
          go_roundw
          case rel => exact ⟨k + 1, by omega, by go_num, by rw [S2.out], HBA.out.trans (hb1.mono HBA.out.size)⟩
          case measure => simp [intOf]; omega
      · have k1 : (e.t == t) = false := by simp [g1]
        have S2 : Hid (lastTo p es t idx reg (k + 1) = G) := hide (by rw [S.out, HH.out, k1]; simp)
        clear g1
        generalize hitR p t idx reg e = hh at *
        clear HH S ER
        go_wp2_with fail
        refine wp_region_bw (by kernel_rfl) (by kernel_rfl) ?_
        repeat (go_big_quiet_step (fail))
        refine wpQuiet_nil ?_
        intro w1 hb1
        go_wp2_with fail
        go_roundw
        case rel => exact ⟨k + 1, by omega, by go_num, by rw [S2.out], HBA.out.trans (hb1.mono HBA.out.size)⟩
        case measure => simp [intOf]; omega
    · have e : k = n := by omega
      subst e
      go_wp2_with fail
      go_ret
      exact ⟨by rw [HR.out]; rfl, hb⟩


set_option maxRecDepth 100000 in
set_option maxHeartbeats 6400000 in
theorem l6Write_any (vp ve vf vo vk : Value) (p : List (List Ins)) (es : List Ev) (hes : es = evAll p) (x : Xc) (i : Nat) (K : List Int) (w : World) (hp : RepP w vp p) (he : Rep EvE w ve es) (hx : RepX w vf vo x) (hk : Rep IntE w vk K) (hok : fromsOk es x.fr es.length = true) (hi : i < es.length) (hKl : K.length = es.length) (hl : es.length ≤ 1048676) :
    Calls Try.prog 199 #[vp, ve, .agg #[vf, vo], .int .i64 i, vk] w fun e w' => e = .returned (.int .i64 (linkV (depV p es x.fr) K i)) ∧ Below w.heap.size w w' := by
  have HLR := hide (fun t idx reg w' h h' => l6Reg_any vp ve p es hes t idx reg w' h h' hl)
  have HP0 := hide hp; have HE0 := hide he
  obtain ⟨e, hek⟩ := get_of_lt (xs := es) (k := i) hi
  have hcs : (e.t < 0) ∨ ∃ (t i' : Nat) (r : List Ins), e.t = t ∧ e.i = i' ∧ p[t]? = some r ∧ r[i']? = some (insE p e) := by
    rcases ev_cases (p := p) (k := i) (e := e) (by rw [← hes]; exact hek) with h | ⟨t, i', r, h1, h2, h3, h4, -⟩
    · exact .inl (by omega)
    · exact .inr ⟨t, i', r, h1, h2, h3, h4⟩
  obtain ⟨fa, fc, rfl, -, -, -, hf'⟩ := hx.fr.open
  obtain ⟨oa, oc, rfl, -, -, -, -⟩ := hx.od.open
  obtain ⟨ea, ec, rfl, -, -, -, he'⟩ := he.open
  obtain ⟨pa, pc, rfl, -, -, -, hp'⟩ := hp.open
  obtain ⟨ka, kc, rfl, -, -, -, hk'⟩ := hk.open
  have HF := hide hf'; have HP := hide hp'; have HK := hide hk'; have HOK := hide hok; have HKL := hide hKl
  have D0 := hide (fun h => dep_t0 (p := p) (fr := x.fr) hek h)
  have DO := hide (fun ht h => dep_op (p := p) (fr := x.fr) hek ht h)
  have DR0 := hide (fun ht h h2 => dep_r0 (p := p) (fr := x.fr) hek ht h h2)
  have DRR := hide (fun ht h r j h2 h3 => dep_rr (p := p) (fr := x.fr) (r := r) (j := j) hek ht h h2 h3)
  have HLK : Hid (linkV (depV p es x.fr) K i = match depV p es x.fr i with | .inl v => v | .inr j => (K[j]?).getD (-1)) := hide rfl
  have HBX := hide ((Below.refl w.heap.size w).alloc (Nat.le_refl _) (.cells #[.slice fa x.fr.length fc, .slice oa x.od.length oc] 80))
  have HX1 := hide (heap_alloc_new w (.cells #[.slice fa x.fr.length fc, .slice oa x.od.length oc] 80))
  have he1 := he'.below HBX.out
  obtain ⟨b, o, rfl, hbl, i0, i1, i2, i3, i4⟩ := he1.ev hek
  have HP1 := hide (HP.out.below HBX.out)
  have HFR1 := hide (HF.out.below HBX.out); have HK1 := hide (HK.out.below HBX.out)
  have HP01 := hide (HP0.out.below HBX.out); have HE01 := hide (HE0.out.below HBX.out)
  have HES := hide hes
  have hlt' := nat_of_lt hi
  clear hek hes hp he hx hk hok hKl hf' he' hp' hk' he1 HF HP HK HP0 HE0
  generalize linkV (depV p es x.fr) K i = R at *
  generalize hn : es.length = n at *
  generalize x.od.length = on at *
  generalize hfn : x.fr.length = fn at *
  have HN := hide hn; have HFN := hide hfn; clear hn hfn
  generalize hpn : p.length = pn at *
  have HPN := hide hpn; clear hpn
  generalize hkn : K.length = kn at *
  have HKN := hide hkn; clear hkn
  rcases hcs with ht | ⟨t', i', r, het, hei, hpt, hri⟩
  · have k1 : decide (e.t < 0) = true := by simp [ht]
    obtain rfl : R = 0 := by rw [HLK.out, D0.out ht]
    go_enter Try.func199, Try.ntmps199
    go_wp2_with fail
    go_ret
    exact ⟨rfl, HBX.out.alloc HBX.out.size _⟩
  · obtain ⟨et, ei, el, er, ew⟩ := e
    simp only at het hei i0 i1 i2 i3 i4
    subst het
    subst hei
    have ht : ¬ ((t' : Int) < 0) := by omega
    have k1 : decide ((t' : Int) < 0) = false := by simp
    obtain ⟨b2, o2, ra, rc, rfl, hbl2, q0, q1⟩ := HP1.out.row hpt
    obtain ⟨b3, o3, rfl, hbl3, r0, r1, r2, r3⟩ := q1.ins hri
    have htn : (t' : Int) < (pn : Int) := by have := (List.getElem?_eq_some_iff.1 hpt).1; have := HPN.out; omega
    have hin : (i' : Int) < (r.length : Int) := by have := (List.getElem?_eq_some_iff.1 hri).1; omega
    have DO2 := hide (DO.out ht); have DR2 := hide (DR0.out ht); have DRR2 := hide (DRR.out ht)
    clear DO DR0 DRR
    generalize hins : insE p ⟨(t' : Int), (i' : Int), el, er, ew⟩ = ix at *
    obtain ⟨xo, xl, xr, xv⟩ := ix
    simp only at r0 r1 r2 r3 DO2 DR2 DRR2
    have hlx := (Array.getElem?_eq_some_iff.1 HX1.out).1
    clear hpt hri q1 hins D0
    generalize r.length = rl at *
    go_enter Try.func199, Try.ntmps199
    go_wp2_with fail
    have hsz : (w.alloc (.cells #[.slice fa fn fc, .slice oa on oc] 80)).heap.size = w.heap.size + 1 := by simp
    generalize hw1 : w.alloc (.cells #[.slice fa fn fc, .slice oa on oc] 80) = w1 at *
    clear hw1
    have HSZ := hide hsz; clear hsz
    have HBA := hide ((Below.refl w1.heap.size w1).alloc (Nat.le_refl _) (.cells #[.int .i64 (t' : Int), .int .i64 (i' : Int), .int .i64 el, .bool er, .bool ew] 88))
    have hev := (heap_alloc_new w1 (.cells #[.int .i64 (t' : Int), .int .i64 (i' : Int), .int .i64 el, .bool er, .bool ew] 88))
    rw [HSZ.out] at hev
    have HEV := hide hev; clear hev
    go_cut [12] (fun s7 W => ∃ b7 : Nat, s7 = .pointer (some ⟨b7, 0, none⟩) ∧ b7 < W.heap.size ∧ W.cell? ⟨b7, 0, none⟩ = some (.int .i64 xo) ∧ W.cell? ⟨b7, 2, none⟩ = some (.int .i64 xr) ∧ W.cell? ⟨b7, 3, none⟩ = some (.int .i64 xv) ∧ Below (w1.alloc (.cells #[.int .i64 (t' : Int), .int .i64 (i' : Int), .int .i64 el, .bool er, .bool ew] 88)).heap.size (w1.alloc (.cells #[.int .i64 (t' : Int), .int .i64 (i' : Int), .int .i64 el, .bool er, .bool ew] 88)) W)
    case first =>
      have e0 := cell_of_heapV HEV.out (k := 0) rfl
      have e1 := cell_of_heapV HEV.out (k := 1) rfl
      have le := lt_of_cell e0
      go_region_held3 (fun W => W.cell? ⟨w.heap.size + 1, 0, none⟩ = some (.int .i64 (t' : Int)) ∧ W.cell? ⟨w.heap.size + 1, 1, none⟩ = some (.int .i64 (i' : Int)) ∧ W.cell? ⟨b2, o2 + t', none⟩ = some (.slice (some ⟨b3, o3, none⟩) rl rc) ∧
        W.cell? ⟨b3, o3 + i' * 4, none⟩ = some (.int .i64 xo) ∧ W.cell? ⟨b3, o3 + i' * 4 + 1, none⟩ = some (.int .i64 xl) ∧ W.cell? ⟨b3, o3 + i' * 4 + 2, none⟩ = some (.int .i64 xr) ∧ W.cell? ⟨b3, o3 + i' * 4 + 3, none⟩ = some (.int .i64 xv)) ((simp [go_sem, *])) (first | fail)
      all_goals
        go_wp2_with fail
        go_meet
        refine ⟨_, rfl, by first | (simp; done) | (simp; omega), by simp [go_sem], by simp [go_sem], by simp [go_sem], ?_⟩
        exact ((Below.refl _ _).alloc (Nat.le_refl _) _).drew
    case rest =>
      obtain ⟨b7, rfl, hb7, m0, m2, m3, hbW⟩ := hcut
      have HBW := hide (HBA.out.trans (hbW.mono HBA.out.size))
      have HEVc := hide ((hbW.block (w.heap.size + 1) (Array.getElem?_eq_some_iff.1 HEV.out).1).trans HEV.out)
      clear hbW HBA HEV i0 i1 i2 i3 i4 q0 r0 r1 r2 r3
      by_cases hop : xo = 3
      · subst hop
        have e0 := cell_of_heapV HEVc.out (k := 0) rfl
        have e1 := cell_of_heapV HEVc.out (k := 1) rfl
        have le := lt_of_cell e0
        have HL := hide (HLR.out (t' : Int) (i' : Int) xr wc (HP01.out.below HBW.out) (HE01.out.below HBW.out))
        have DR0' := hide (DR2.out rfl); have DRR' := hide (DRR2.out rfl)
        clear DR2 DRR2 DO2 HLR
        go_wp2_with fail
        (with_reducible refine HL.out.mono ?_); rintro e w5 ⟨rfl, hb5⟩
        have HB5 := hide (HBW.out.trans (hb5.mono HBW.out.size))
        clear hb5 e0 e1 le m0 m2 m3 HL HEVc
        rcases lastRd_cases p es (t' : Int) (i' : Int) xr with hlr | ⟨rr, e2, hlr, he2, hrd⟩
        · obtain rfl : R = 0 := by rw [HLK.out, DR0'.out (by rw [hlr]; omega)]
          rw [hlr]
          clear hlr DR0' DRR'
          go_wp2_with fail
          go_ret
          exact ⟨rfl, HBX.out.trans (HB5.out.mono HBX.out.size)⟩
        · obtain ⟨j, e3, hfj, hej, -, -, -⟩ := from_write (k := rr) (by rw [HN.out]; exact HOK.out) he2 hrd
          have hjn : j < kn := by have := (List.getElem?_eq_some_iff.1 hej).1; have := HN.out; have := HKL.out; omega
          obtain ⟨u, hu⟩ := get_of_lt (xs := K) (k := j) (by rw [HKN.out]; exact hjn)
          obtain rfl : R = u := by rw [HLK.out, DRR'.out rr j hlr hfj]; simp [hu]
          rw [hlr]
          obtain ⟨b4, o4, rfl, hb4, j0⟩ := (HFR1.out.below HB5.out).int hfj
          obtain ⟨b5, o5, rfl, hb5, u0⟩ := (HK1.out.below HB5.out).int hu
          have hrn : (rr : Int) < (fn : Int) := by have := (List.getElem?_eq_some_iff.1 hfj).1; have := HFN.out; omega
          have hjn' : (j : Int) < (kn : Int) := by omega
          have hr0 : decide ((rr : Int) < 0) = false := by simp
          have hxb := (HB5.out.block w.heap.size hlx).trans HX1.out
          have x0 := cell_of_heapV hxb (k := 0) rfl
          have xl0 := lt_of_cell x0
          clear hlr hfj hu DR0' DRR' he2 hej hxb
          go_wp2_with fail
          go_ret
          exact ⟨rfl, HBX.out.trans (HB5.out.mono HBX.out.size)⟩
      · have k2 : (xo != 3) = true := by simp [hop]
        obtain rfl : R = xv := by rw [HLK.out, DO2.out hop]
        clear hop
        go_wp2_with fail
        go_ret
        exact ⟨rfl, HBX.out.trans (HBW.out.mono HBX.out.size)⟩

end Go.Proofs.Ytpnmphfdfadlcaa
