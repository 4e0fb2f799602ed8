/-
  The program's valuer: value. Condition: bounds on lengths.
-/
import Derived.Test.YtpnmphfdfadlcaaV10
import Derived.Maps.AppendAt
namespace Go.Proofs.Ytpnmphfdfadlcaa
open Go.RowKit

/-- What value hands back. -/
def RetVal (c : Option Int) (base : Nat) (bs : Slc) (bz : List Bool) (w : World) (e : Ending) (w' : World) : Prop :=
  e = .returned (.tuple #[.int .i64 (c.getD 0), .bool c.isSome]) ∧ Own BoolE 4 w' base bs.v bz ∧ w.grownBy w' bs.v.ownBlock
theorem RetVal.some_ {v : Int} {c : Option Int} (hc : c = some v) {base : Nat} {bs : Slc} {bz : List Bool} {w w' : World} (h : Own BoolE 4 w base bs.v bz) (hb : Below w.heap.size w w') : RetVal c base bs bz w (.returned (.tuple #[.int .i64 v, .bool true])) w' := by
  subst hc
  exact ⟨rfl, h.below hb, ⟨hb.os, hb.tape, hb.output, hb.size, fun k hk _ => hb.block k hk⟩⟩
theorem RetVal.none_ {c : Option Int} (hc : c = none) {base : Nat} {bs : Slc} {bz : List Bool} {w w' : World} (h : Own BoolE 4 w base bs.v bz) (hb : Below w.heap.size w w') : RetVal c base bs bz w (.returned (.tuple #[.int .i64 0, .bool false])) w' := by
  subst hc
  exact ⟨rfl, h.below hb, ⟨hb.os, hb.tape, hb.output, hb.size, fun k hk _ => hb.block k hk⟩⟩

theorem below_grown_row {w w' : World} (hb : Below w.heap.size w w') (row : Option Nat) : w.grownBy w' row := ⟨hb.os, hb.tape, hb.output, hb.size, fun k hk _ => hb.block k hk⟩

set_option maxRecDepth 100000 in
set_option maxHeartbeats 6400000 in
theorem value_any (pb : Nat) (ps fs os ess vs bs : Slc) (p : List (List Ins)) (es : List Ev) (hes : es = evAll p) (fr : List Int) (w0 : World) (hp : RepP w0 ps.v p) (hf : Rep IntE w0 fs.v fr) (he : Rep EvE w0 ess.v es) (hok : fromsOk es fr es.length = true) (hlen : fr.length = es.length) (hl : es.length ≤ 1048676) :
    ∀ (N : Nat) (bz : List Bool) (i : Nat) (w : World), bz.length = es.length → i < es.length → bz.countP (fun b => !b) < N → (∀ b, bz[b]? = some true → ∃ m, Reach (depV p es fr) (m + 1) b i) → Below w0.heap.size w0 w → VS w pb ps fs os ess vs bs → Own BoolE 4 w w0.heap.size bs.v bz →
      Calls Try.prog 205 #[.pointer (some ⟨pb, 0, none⟩), .int .i64 i] w (RetVal (chain (depV p es fr) es.length i) w0.heap.size bs bz w) := by
  have HES := hide hes; have HOK := hide hok; have HLEN := hide hlen
  clear hes hok hlen
  intro N
  induction N with
  | zero => intro bz i w _ _ h; omega
  | succ N ih =>
    intro bz i w hbz hi hN hpath hw0 hvs hown
    obtain ⟨pa, pn, pc⟩ := ps
    obtain ⟨fa, fn, fc⟩ := fs
    obtain ⟨ea, en, ec⟩ := ess
    obtain ⟨ba, bn, bc⟩ := bs
    obtain ⟨e, hek⟩ := get_of_lt (xs := es) (k := i) hi
    have hpw := hp.below hw0
    have hfw := hf.below hw0
    have hew := he.below hw0
    obtain ⟨ea', ec', heq, -, -, -, he'⟩ := hew.open
    simp only [Value.slice.injEq] at heq
    obtain ⟨rfl, rfl, rfl⟩ := heq
    obtain ⟨pa', pc', heq, -, -, -, hp'⟩ := hpw.open
    simp only [Value.slice.injEq] at heq
    obtain ⟨rfl, rfl, rfl⟩ := heq
    obtain ⟨fa', fc', heq, -, -, -, hf'⟩ := hfw.open
    simp only [Value.slice.injEq] at heq
    obtain ⟨rfl, rfl, rfl⟩ := heq
    rcases hown.shape with ⟨h0, h1⟩ | ⟨g, cap, hsl, hg1, hg2, hg3, hg4⟩
    · exfalso; subst h1; simp at hbz; omega
    simp only [Value.slice.injEq] at hsl
    obtain ⟨rfl, rfl, rfl⟩ := hsl
    obtain ⟨b, o, rfl, hbl, i0, i1, i2, i3, i4⟩ := he'.ev hek
    have HVS := hide hvs; have HOWN := hide hown; have HP := hide hp'; have HFR := hide hf'
    have v3 := cell_of_heapV hvs.blk (k := 3) rfl
    have hpbl := lt_of_cell v3
    have hlt' := nat_of_lt hi
    have HB0 := hide hw0
    have D0 := hide (fun h => dep_t0 (p := p) (fr := fr) hek h)
    have HBZ := hide hbz; have HPA := hide hpath; have IH := hide ih
    have HEK := hide hek
    have HNN := hide hN
    clear hvs hown hp' hf' hpw hfw hew he' hbz hpath ih hek hN hw0
    have CE : Hid (∀ v, depV p es fr i = .inl v → chain (depV p es fr) es.length i = some v) := hide (fun v h => chain_end hi h)
    generalize hn : es.length = n at *
    have HN := hide hn
    clear hn
    by_cases ht : e.t < 0
    · have C := hide (CE.out 0 (D0.out ht))
      have k1 : decide (e.t < 0) = true := by simp [ht]
      have HBA := hide ((Below.refl w.heap.size w).alloc (Nat.le_refl _) (.cells #[.int .i64 e.t, .int .i64 e.i, .int .i64 e.l, .bool e.r, .bool e.w] 88))
      generalize chain (depV p es fr) n i = R at *
      go_enter Try.func205, Try.ntmps205
      go_wp2_with fail
      go_ret2
      exact RetVal.some_ C.out HOWN.out HBA.out
    · have k1 : decide (e.t < 0) = false := by simp [ht]
      have hcs : ∃ (t i' : Nat) (r : List Ins), e.t = t ∧ e.i = i' ∧ p[t]? = some r ∧ r[i']? = some (insE p e) := by
        rcases ev_cases (p := p) (k := i) (e := e) (by rw [← HES.out]; exact HEK.out) with h | ⟨t, i', r, h1, h2, h3, h4, -⟩
        · exfalso; omega
        · exact ⟨t, i', r, h1, h2, h3, h4⟩
      obtain ⟨t', i', r, het, hei, hpt, hri⟩ := hcs
      obtain ⟨b2, o2, ra, rc, rfl, hbl2, q0, q1⟩ := HP.out.row hpt
      obtain ⟨b3, o3, rfl, hbl3, r0, r1, r2, r3⟩ := q1.ins hri
      have htn : (t' : Int) < (p.length : Int) := by have := (List.getElem?_eq_some_iff.1 hpt).1; omega
      have hin : (i' : Int) < (r.length : Int) := by have := (List.getElem?_eq_some_iff.1 hri).1; omega
      have v0 := cell_of_heapV HVS.out.blk (k := 0) rfl
      have DO := hide (fun h => dep_op (p := p) (fr := fr) HEK.out ht h)
      have DR0 := hide (fun h h2 => dep_r0 (p := p) (fr := fr) HEK.out ht h h2)
      have DRR := hide (fun h r j h2 h3 => dep_rr (p := p) (fr := fr) (r := r) (j := j) HEK.out ht h h2 h3)
      obtain ⟨et, ei, el, er, ew⟩ := e
      simp only at het hei i0 i1 i2 i3 i4 ht k1
      subst het
      subst hei
      generalize hins : insE p ⟨(t' : Int), (i' : Int), el, er, ew⟩ = ix at *
      obtain ⟨xo, xl, xr, xv⟩ := ix
      simp only at r0 r1 r2 r3 DO DR0 DRR
      have HBA := hide ((Below.refl w.heap.size w).alloc (Nat.le_refl _) (.cells #[.int .i64 (t' : Int), .int .i64 (i' : Int), .int .i64 el, .bool er, .bool ew] 88))
      have HEV := hide (heap_alloc_new w (.cells #[.int .i64 (t' : Int), .int .i64 (i' : Int), .int .i64 el, .bool er, .bool ew] 88))
      clear hpt hri q1 hins D0 HEK
      generalize p.length = pl at *
      generalize r.length = rl at *
      go_enter Try.func205, Try.ntmps205
      go_wp2_with fail
      go_cut [7] (fun s7 W => ∃ b7 : Nat, s7 = .pointer (some ⟨b7, 0, none⟩) ∧ b7 < W.heap.size ∧ W.cell? ⟨b7, 0, none⟩ = some (.int .i64 xo) ∧ W.cell? ⟨b7, 2, none⟩ = some (.int .i64 xr) ∧ W.cell? ⟨b7, 3, none⟩ = some (.int .i64 xv) ∧ w.heap.size < W.heap.size ∧ Below (w.alloc (.cells #[.int .i64 (t' : Int), .int .i64 (i' : Int), .int .i64 el, .bool er, .bool ew] 88)).heap.size (w.alloc (.cells #[.int .i64 (t' : Int), .int .i64 (i' : Int), .int .i64 el, .bool er, .bool ew] 88)) W)
      case first =>
        go_region_held3 (fun W => W.cell? ⟨pb, 0, none⟩ = some (.slice (some ⟨b2, o2, none⟩) pl pc) ∧ W.cell? ⟨w.heap.size, 0, none⟩ = some (.int .i64 (t' : Int)) ∧ W.cell? ⟨w.heap.size, 1, none⟩ = some (.int .i64 (i' : Int)) ∧ W.cell? ⟨b2, o2 + t', none⟩ = some (.slice (some ⟨b3, o3, none⟩) rl rc) ∧
          W.cell? ⟨b3, o3 + i' * 4, none⟩ = some (.int .i64 xo) ∧ W.cell? ⟨b3, o3 + i' * 4 + 1, none⟩ = some (.int .i64 xl) ∧ W.cell? ⟨b3, o3 + i' * 4 + 2, none⟩ = some (.int .i64 xr) ∧ W.cell? ⟨b3, o3 + i' * 4 + 3, none⟩ = some (.int .i64 xv)) ((simp [go_sem, *])) (first | fail)
        all_goals
          go_wp2_with fail
          go_meet
          refine ⟨_, rfl, by first | (simp; done) | (simp; omega), by simp [go_sem], by simp [go_sem], by simp [go_sem], by first | (simp; done) | (simp; omega), ?_⟩
          exact ((Below.refl _ _).alloc (Nat.le_refl _) _).drew
      case rest =>
        obtain ⟨b7, rfl, hb7, m0, m2, m3, hlw, hbW⟩ := hcut
        have HBW := hide (HBA.out.trans (hbW.mono HBA.out.size))
        have HEVc := hide ((hbW.block w.heap.size (Array.getElem?_eq_some_iff.1 HEV.out).1).trans HEV.out)
        clear hbW HBA HEV v0 v3 i0 i1 i2 i3 i4 q0 r0 r1 r2 r3
        have VC := hide (HVS.out.below HBW.out)
        have OC := hide (HOWN.out.below HBW.out)
        have hpc := Nat.lt_of_lt_of_le hpbl HBW.out.size
        by_cases hop : xo = 3
        · subst hop
          obtain ⟨bi, hbi⟩ := get_of_lt (xs := bz) (k := i) (by rw [HBZ.out]; exact hi)
          obtain ⟨hgl, f0, hfr⟩ := OC.out.boolc hbi
          have hin2 : (i : Int) < (bz.length : Int) := by have := HBZ.out; omega
          have v5 := cell_of_heapV VC.out.blk (k := 5) rfl
          cases bi
          · have HBI := hide hbi
            have HLR := hide (lastRead_any pb ⟨some ⟨b2, o2, none⟩, pl, pc⟩ ⟨fa, fr.length, fc⟩ os ⟨some ⟨b, o, none⟩, n, ec⟩ vs ⟨some ⟨g, 0, none⟩, bz.length, bc⟩ p es HES.out (t' : Int) (i' : Int) xr wc VC.out (hp.below (HB0.out.trans (HBW.out.mono HB0.out.size))) (he.below (HB0.out.trans (HBW.out.mono HB0.out.size))) (by rw [HN.out]; exact hl))
            have e0 := cell_of_heapV HEVc.out (k := 0) rfl
            have e1 := cell_of_heapV HEVc.out (k := 1) rfl
            have DR0' := hide (DR0.out rfl); have DRR' := hide (DRR.out rfl)
            have HNE : g ≠ pb := fun e => by
              rcases OC.out.2 with ⟨h, -⟩ | ⟨g', cap', cur, h, -, hgg, -⟩
              · simp at h
              · simp only [Value.slice.injEq, Option.some.injEq, Addr.mk.injEq, and_true] at h
                obtain ⟨rfl, -, -⟩ := h
                have h2 := VC.out.blk
                rw [← e, hgg] at h2
                simp at h2
            have hgw0 : w0.heap.size ≤ g := hg1
            clear DR0 DRR DO hbi
            go_wp2_with fail
            (with_reducible refine HLR.out.mono ?_); rintro e w5 ⟨rfl, hb5⟩
            have HB5 := hide (HBW.out.trans (hb5.mono HBW.out.size))
            have V5 := hide (VC.out.below hb5)
            have O5 := hide (OC.out.below hb5)
            have hb7' := Nat.lt_of_lt_of_le hb7 hb5.size
            clear hb5 e0 e1 v5 f0 hfr m0 m2 m3 HLR VC OC HEVc
            rcases lastRd_cases p es (t' : Int) (i' : Int) xr with hlr | ⟨rr, e2, hlr, he2, hrd⟩
            · have C := hide (CE.out 0 (DR0'.out (by rw [hlr]; omega)))
              rw [hlr]
              clear hlr DR0' DRR'
              generalize chain (depV p es fr) n i = R at *
              go_wp2_with fail
              go_ret2
              exact RetVal.some_ C.out HOWN.out HB5.out
            · obtain ⟨j, e3, hfj, hej, -, -, -⟩ := from_write (k := rr) (by rw [HN.out]; exact HOK.out) he2 hrd
              have DD := hide (DRR'.out rr j hlr hfj)
              rw [hlr]
              obtain ⟨b4, o4, rfl, hb4, -⟩ := hf.int hfj
              have hjn : j < n := by have := (List.getElem?_eq_some_iff.1 hej).1; have := HN.out; omega
              have hrn : (rr : Int) < (fr.length : Int) := by have := (List.getElem?_eq_some_iff.1 hfj).1; omega
              have hr0 : decide ((rr : Int) < 0) = false := by simp
              obtain ⟨b4', o4', h4, hb4w, j0⟩ := ((hf.below HB0.out).below HB5.out).int hfj
              simp only [Option.some.injEq, Addr.mk.injEq, and_true] at h4
              obtain ⟨rfl, rfl⟩ := h4
              have ne1 : pb ≠ g := fun e => HNE e.symm
              have ne2 : b4 ≠ g := by omega
              obtain ⟨hgl5, f5, hfr5⟩ := O5.out.boolc HBI.out
              have v5 := cell_of_heapV V5.out.blk (k := 5) rfl
              have v1 := cell_of_heapV V5.out.blk (k := 1) rfl
              have hpb5 := lt_of_cell v1
              have HIV := hide (IH.out (bz.set i true) j (w5.setCell ⟨g, i, none⟩ (.bool true)) (by rw [List.length_set]; exact HBZ.out) hjn (by have := count_set HBI.out; have := HNN.out; omega)
                (fun b hb => by
                  rw [List.getElem?_set] at hb
                  split at hb
                  · rename_i hib
                    subst hib
                    exact ⟨0, .step DD.out (.zero j)⟩
                  · obtain ⟨m, hm⟩ := HPA.out b hb
                    exact ⟨m + 1, hm.snoc DD.out⟩)
                ((HB0.out.trans (HB5.out.mono HB0.out.size)).setCell hgw0 _) ⟨(heap_setCell_other w5 ⟨g, i, none⟩ pb _ ne1).trans V5.out.blk⟩ (by have h := O5.out.setBool HBI.out true; simpa using h))
              have CN : Hid (chain (depV p es fr) n i = chain (depV p es fr) n j) := hide (by
                rw [← HN.out]
                exact chain_next (fun a b h1 h2 => dep_lt (by rw [HN.out]; exact HOK.out) a b h1 h2) (by rw [HN.out]; exact hi) DD.out)
              have hinb : (i : Int) < (bz.length : Int) := by have := HBZ.out; omega
              clear hlr hfj DR0' DRR' he2 hej
              generalize chain (depV p es fr) n i = R at *
              generalize chain (depV p es fr) n j = Rj at *
              go_wp2_with fail
              (with_reducible refine HIV.out.mono ?_); rintro e w7 ⟨rfl, own7, hg7⟩
              have hV7 : w7.heap[pb]? = w5.heap[pb]? := (hg7.block pb (by simpa using hpb5) (by simpa [Value.ownBlock] using ne1)).trans (heap_setCell_other w5 ⟨g, i, none⟩ pb _ ne1)
              have V7 := hV7.trans V5.out.blk
              have hbt : (bz.set i true)[i]? = some true := by rw [List.getElem?_set, if_pos rfl, if_pos (by rw [HBZ.out]; exact hi)]
              obtain ⟨hgl7, f7, hfr7⟩ := own7.boolc (by simpa using hbt)
              have u5 := cell_of_heapV V7 (k := 5) rfl
              have hpb7 := lt_of_cell u5
              have OW := hide (own7.setBool (by simpa using hbt) false)
              have HG := hide ((((below_grown_row HB5.out (some g)).trans (grown_set (World.grownBy.refl w5 (some g)) i (.bool true))).trans hg7).trans (grown_set (World.grownBy.refl w7 (some g)) i (.bool false)))
              have SB := hide (set_back HBI.out)
              clear own7 hg7 hV7 V7 hbt v5 v1 j0 f5 hfr5 HIV
              go_wp2_with fail
              go_ret2
              refine ⟨by rw [CN.out]; rfl, ?_, HG.out⟩
              have h := OW.out
              rw [SB.out] at h
              exact h
          · have C : Hid (chain (depV p es fr) n i = none) := hide (by
              obtain ⟨m, hm⟩ := HPA.out i hbi
              exact chain_cyc hm n)
            clear hbi
            generalize chain (depV p es fr) n i = R at *
            go_wp2_with fail
            go_ret2
            exact RetVal.none_ C.out HOWN.out HBW.out
        · have k2 : (xo != 3) = true := by simp [hop]
          have C := hide (CE.out xv (DO.out hop))
          clear hop
          generalize chain (depV p es fr) n i = R at *
          go_wp2_with fail
          go_ret2
          exact RetVal.some_ C.out HOWN.out HBW.out

end Go.Proofs.Ytpnmphfdfadlcaa
