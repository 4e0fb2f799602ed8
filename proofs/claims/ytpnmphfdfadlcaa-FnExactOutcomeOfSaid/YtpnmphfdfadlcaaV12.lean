/-
  The program's valuesOf, of a valid candidate. Condition: bounds on lengths.
-/
import Derived.Test.YtpnmphfdfadlcaaV11
namespace Go.Proofs.Ytpnmphfdfadlcaa
open Go.RowKit

theorem Try.infoBool : (Try.prog.info? 4).map (fun i => (i.zero, i.size, i.bytes)) = some (some (.bool false), 1, 1) := by kernel_rfl

/-- Numbers that a call made, and whether there are any. -/
def RetNB (w : World) (r : List Int × Bool) (e : Ending) (w' : World) : Prop := ∃ u : Slc, e = .returned (.tuple #[.slice u.a u.n u.cap, .bool r.2]) ∧ Own IntE 3 w' w.heap.size u.v r.1 ∧ Below w.heap.size w w'
theorem RetNB.no {w w' : World} (h : Below w.heap.size w w') : RetNB w ([], false) (.returned (.tuple #[.slice none 0 0, .bool false])) w' := ⟨⟨none, 0, 0⟩, rfl, Own.nil _ _ _, h⟩

theorem VS.ne {α : Type} {E : El α} {T : TypeId} (hT : T ≠ 193) {w : World} {pb : Nat} {ps fs os es vs bs : Slc} (h : VS w pb ps fs os es vs bs) {base : Nat} {v : Value} {xs : List α} (ho : Own E T w base v xs) : ∀ q, v.ownBlock = some q → q ≠ pb := by
  intro q hq e
  subst e
  rcases ho.2 with ⟨rfl, -⟩ | ⟨g', cap', cur, rfl, -, hgg, -⟩
  · simp [Value.ownBlock] at hq
  · simp [Value.ownBlock] at hq
    subst hq
    have h2 := h.blk
    rw [hgg] at h2
    simp at h2
    exact hT h2.2
theorem VS.setVals {w : World} {pb : Nat} {ps fs os es vs bs : Slc} (h : VS w pb ps fs os es vs bs) (u : Slc) : VS (w.setCell ⟨pb, 4, none⟩ (.slice u.a u.n u.cap)) pb ps fs os es u bs := ⟨(heap_setCell_same w pb 4 _ _ (.slice u.a u.n u.cap) h.blk).trans rfl⟩
theorem VS.setBusy {w : World} {pb : Nat} {ps fs os es vs bs : Slc} (h : VS w pb ps fs os es vs bs) (u : Slc) : VS (w.setCell ⟨pb, 5, none⟩ (.slice u.a u.n u.cap)) pb ps fs os es vs u := ⟨(heap_setCell_same w pb 5 _ _ (.slice u.a u.n u.cap) h.blk).trans rfl⟩
theorem VS.grown {w w' : World} {pb : Nat} {ps fs os es vs bs : Slc} (h : VS w pb ps fs os es vs bs) {row : Option Nat} (hg : w.grownBy w' row) (hr : ∀ q, row = some q → q ≠ pb) : VS w' pb ps fs os es vs bs :=
  ⟨(hg.block pb (Array.getElem?_eq_some_iff.1 h.blk).1 (fun e => hr pb e.symm rfl)).trans h.blk⟩

/-- What holds between two rounds. -/
def LV (w0 : World) (pb : Nat) (ps fs os ess bs : Slc) (n : Nat) (vals : List Int) (W : World) : Prop :=
  ∃ vs : Slc, VS W pb ps fs os ess vs bs ∧ Own IntE 3 W w0.heap.size vs.v vals ∧ Own BoolE 4 W w0.heap.size bs.v (List.replicate n false) ∧ Below w0.heap.size w0 W
theorem LV.alloc {w0 : World} {pb : Nat} {ps fs os ess bs : Slc} {n : Nat} {vals : List Int} {W : World} (h : LV w0 pb ps fs os ess bs n vals W) (o : Obj) : LV w0 pb ps fs os ess bs n vals (W.alloc o) := by
  obtain ⟨vs, h1, h2, h3, h4⟩ := h
  have hb := (Below.refl W.heap.size W).alloc (Nat.le_refl _) o
  exact ⟨vs, h1.below hb, h2.below hb, h3.below hb, h4.trans (hb.mono h4.size)⟩

set_option maxRecDepth 100000 in
set_option maxHeartbeats 6400000 in
theorem valuesOf_any (v vf vo : Value) (p : List (List Ins)) (x : Xc) (w : World) (hp : RepP w v p) (hx : RepX w vf vo x) (hl : p.flatten.length ≤ 1048576) (hok : execOk p x = true) :
    Calls Try.prog 140 #[v, .agg #[vf, vo]] w (RetNB w (if valsOk p x.fr = true then (valsL p x.fr, true) else ([], false))) := by
  have HE := hide (fun w' h => events_any v p w' h hl)
  unfold execOk at hok
  simp only [Bool.and_eq_true, decide_eq_true_eq] at hok
  obtain ⟨hpv, hfl, hol, hfo, hoo⟩ := hok
  have HFO := hide hfo; have HFL := hide hfl
  have hen := evAll_le hpv
  clear hpv hol hoo hfo hfl
  have HP := hide hp; have HX := hide hx
  obtain ⟨pa, pc, rfl, -, hpn, -, -⟩ := hp.open
  obtain ⟨fa, fc, rfl, -, hfn, -, -⟩ := hx.fr.open
  obtain ⟨oa, oc, rfl, -, hon, -, -⟩ := hx.od.open
  clear hp hx
  have HRV : Hid ((if valsOk p x.fr = true then (valsL p x.fr, true) else ([], false)) = if okTo (evAll p) (cX p x.fr) (evAll p).length = true then (valTo (evAll p) (cX p x.fr) (evAll p).length, true) else ([], false)) := hide rfl
  generalize (if valsOk p x.fr = true then (valsL p x.fr, true) else ([], false)) = R at *
  have HC : Hid (cX p x.fr = chain (depV p (evAll p) x.fr) (evAll p).length) := hide rfl
  generalize cX p x.fr = c at *
  generalize hes : evAll p = es at *
  have HES := hide hes.symm
  have HVS := hide (fun k e h => valTo_succ (es := es) c (k := k) (e := e) h)
  have HOS := hide (fun k e h => okTo_succ (es := es) c (k := k) (e := e) h)
  have HON := hide (fun k e h hw hc => okTo_no (es := es) c (k := k) (e := e) h hw hc)
  have HVL := hide (valTo_length es c)
  clear hes
  have HB0 := hide ((Below.refl w.heap.size w).alloc (Nat.le_refl _) (.cells #[.slice fa x.fr.length fc, .slice oa x.od.length oc] 80))
  have HBX := hide (heap_alloc_new w (.cells #[.slice fa x.fr.length fc, .slice oa x.od.length oc] 80))
  have HP0 := hide (HP.out.below HB0.out); have HX0 := hide (HX.out.below HB0.out)
  generalize hfn' : x.fr.length = fn at *
  generalize hon' : x.od.length = on at *
  generalize hpn' : p.length = pn at *
  have HFN := hide hfn'; clear hfn' hon' hpn'
  have e0 := cell_of_heapV HBX.out (k := 0) rfl
  have e1 := cell_of_heapV HBX.out (k := 1) rfl
  have lb := lt_of_cell e0
  go_enter Try.func140, Try.ntmps140
  go_wp2_with fail
  generalize hw1 : w.alloc (.cells #[.slice fa fn fc, .slice oa on oc] 80) = w1 at *
  clear hw1
  go_cut [6] (fun s6 W => ∃ (w0 : World) (pb : Nat) (ess : Slc), s6 = .pointer (some ⟨pb, 0, none⟩) ∧ VS W pb ⟨pa, pn, pc⟩ ⟨fa, fn, fc⟩ ⟨oa, on, oc⟩ ess ⟨none, 0, 0⟩ ⟨none, 0, 0⟩ ∧ w0.heap.size ≤ pb ∧ Rep EvE w0 ess.v es ∧ Below w1.heap.size w1 w0 ∧ Below w0.heap.size w0 W)
  case first =>
    go_region_held3 (fun V => V.cell? ⟨w.heap.size, 0, none⟩ = some (.slice fa fn fc) ∧ V.cell? ⟨w.heap.size, 1, none⟩ = some (.slice oa on oc)) ((simp [go_sem, *]))
      (first
        | (go_at_call 96; (with_reducible refine (HE.out _ (HP0.out.below (Below.refl _ _).drew)).mono ?_); rintro e' w4 ⟨ve, rfl, ow, hb4⟩; obtain ⟨⟨ea, en, ec⟩, rfl, -⟩ := ow.toSlc; have HOW := hide ow; have hb5 := (Below.refl w1.heap.size w1).drew.trans (hb4.mono (by simp)); have HB4 := hide hb5; have m0 := (hb5.cell (p := ⟨w.heap.size, 0, none⟩) lb).trans e0; have m1 := (hb5.cell (p := ⟨w.heap.size, 1, none⟩) lb).trans e1; have l1 := Nat.lt_of_lt_of_le lb hb5.size; clear ow hb4 hb5))
    all_goals
      go_wp2_with fail
      go_meet
      exact ⟨w4, w4.heap.size, ⟨ea, en, ec⟩, rfl, ⟨heap_alloc_new w4 _⟩, Nat.le_refl _, HOW.out.rep, HB4.out, (Below.refl _ _).alloc (Nat.le_refl _) _⟩
  case rest =>
    obtain ⟨w0, pb, ess, rfl, hV, hpb, hre, hb10, hb0c⟩ := hcut
    obtain ⟨ea, en, ec⟩ := ess
    obtain ⟨ea', ec', heq, -, -, -, hre⟩ := hre.open
    simp only [Value.slice.injEq] at heq
    obtain ⟨rfl, rfl, rfl⟩ := heq
    have HRE := hide hre
    have HP1 := hide (HP0.out.below hb10); have HX1 := hide (HX0.out.below hb10)
    have HB1 := hide (HB0.out.trans (hb10.mono HB0.out.size))
    have HV := hide hV; have H0C := hide hb0c
    have HVA := hide (fun N bz i w' h1 h2 h3 h4 h5 vs bs h6 h7 => value_any pb ⟨pa, pn, pc⟩ ⟨fa, fn, fc⟩ ⟨oa, on, oc⟩ ⟨ea, es.length, ec⟩ vs bs p es HES.out x.fr w0 HP1.out HX1.out.fr HRE.out HFO.out (HFN.out.trans HFL.out) (by omega) N bz i w' h1 h2 h3 h4 h5 h6 h7)
    rw [← HC.out] at HVA
    clear hre hV hb10 hb0c HP0 HX0 HB0 HBX HP HX HFO HE e0 e1 lb
    generalize hn : es.length = n at *
    have HN := hide hn; clear hn
    have v3 := cell_of_heapV HV.out.blk (k := 3) rfl
    have v5 := cell_of_heapV HV.out.blk (k := 5) rfl
    have vfz := frozen_of_heapV HV.out.blk
    have hpl := lt_of_cell v3
    go_wp2_with (at_make; refine wpList_make BoolE 4 false Try.infoBool rfl Try.underlying191 n (by decide) (by omega) rfl _ _ rfl rfl rfl ?_; intro w5 hown5 hgr5; have V5 := hide (HV.out.below (below_of_grown hgr5)); have H05 := hide (H0C.out.trans ((below_of_grown hgr5).mono H0C.out.size)); have u3 := cell_of_heapV V5.out.blk (k := 3) rfl; have u5 := cell_of_heapV V5.out.blk (k := 5) rfl; have ufz := frozen_of_heapV V5.out.blk; have upl := lt_of_cell u3; have OB := hide hown5; clear v3 v5 vfz hown5 hgr5)
    have L0 : LV w0 pb ⟨pa, pn, pc⟩ ⟨fa, fn, fc⟩ ⟨oa, on, oc⟩ ⟨ea, n, ec⟩ ⟨some ⟨wc.heap.size, 0, none⟩, n, n⟩ n [] (w5.setCell ⟨pb, 5, none⟩ (.slice (some ⟨wc.heap.size, 0, none⟩) n n)) := by
      have ne := VS.ne (by decide) V5.out OB.out
      exact ⟨⟨none, 0, 0⟩, V5.out.setBusy ⟨some ⟨wc.heap.size, 0, none⟩, n, n⟩, Own.nil _ _ _, (OB.out.mono H0C.out.size).sameV (fun q hq => heap_setCell_other w5 ⟨pb, 5, none⟩ q _ (ne q hq)), H05.out.setCell hpb _⟩
    have HL0 := hide L0
    clear L0 u3 u5 ufz upl V5 H05 OB
    go_loopw [32] (fun i wr => ∃ k : Nat, k ≤ n ∧ i = .int .i64 k ∧ LV w0 pb ⟨pa, pn, pc⟩ ⟨fa, fn, fc⟩ ⟨oa, on, oc⟩ ⟨ea, n, ec⟩ ⟨some ⟨wc.heap.size, 0, none⟩, n, n⟩ n (valTo es c k) wr ∧ Hid (okTo es c k = true)) (fun i _ => n - (intOf i).toNat)
    case atStart => exact ⟨0, Nat.zero_le _, rfl, HL0.out, hide (by simp [okTo])⟩
    case round =>
      obtain ⟨k, hk, rfl, ⟨vs, hvs, hvals, hbusy, hw0r⟩, hok⟩ := hrel
      by_cases hlt : k < n
      · obtain ⟨e, hek⟩ := get_of_lt (xs := es) (k := k) (by rw [HN.out]; exact hlt)
        obtain ⟨b, o, rfl, hbl, i0, i1, i2, i3, i4⟩ := (HRE.out.below hw0r).ev hek
        obtain ⟨va, vn, vc⟩ := vs
        have hlt' := nat_of_lt hlt
        have HS := hide (HVS.out k e hek)
        have OS := hide (HOS.out k e hek)
        have ON := hide (HON.out k e hek)
        have hlen : (valTo es c k).length ≤ 68719476736 := by rw [HVL.out k (by omega)]; omega
        clear hek
        obtain ⟨et, ei, el, er, ew⟩ := e
        simp only at i0 i1 i2 i3 i4
        have hba := (Below.refl wr.heap.size wr).alloc (Nat.le_refl _) (.cells #[.int .i64 et, .int .i64 ei, .int .i64 el, .bool er, .bool ew] 88)
        have VA := hide (hvs.below hba); have OA := hide (hvals.below hba); have BA := hide (hbusy.below hba); have DA := hide (hw0r.trans (hba.mono hw0r.size))
        have hev := heap_alloc_new wr (.cells #[.int .i64 et, .int .i64 ei, .int .i64 el, .bool er, .bool ew] 88)
        generalize valTo es c k = G at *
        clear hvs hvals hbusy hw0r hba
        cases ew
        · have HS2 : Hid (valTo es c (k + 1) = G ++ [-1]) := hide (by rw [HS.out]; rfl)
          have OK2 : Hid (okTo es c (k + 1) = true) := hide (by rw [OS.out, hok.out]; rfl)
          have a4 := cell_of_heapV VA.out.blk (k := 4) rfl
          have afz := frozen_of_heapV VA.out.blk
          have apl := lt_of_cell a4
          clear hev
          go_wp2_with (at_builtin; refine wpList_app IntE 3 Try.infoInt rfl Try.underlying36 w0.heap.size (.slice va vn vc) G (-1) (OA.out.alloc _) (by decide) hlen (by have h := DA.out.size; simp at h ⊢; omega) rfl _ _ rfl rfl _ 0 1 rfl (news_allocV (by simp)) ?_; intro v' w8 hown8 hgr8; obtain ⟨⟨a8, n8, c8⟩, rfl, -⟩ := hown8.toSlc; have V8 := hide ((VA.out.below ((Below.refl _ _).alloc (Nat.le_refl _) _)).grown hgr8 (VS.ne (by decide) VA.out OA.out)); have q4 := cell_of_heapV V8.out.blk (k := 4) rfl; have qfz := frozen_of_heapV V8.out.blk; have qpl := lt_of_cell q4; have O8 := hide hown8; have B8 := hide (((BA.out.alloc (.cells #[.int .i64 (-1)] 3)).grown hgr8 (own_or (by decide) OA.out BA.out))); have D8 := hide ((DA.out.alloc DA.out.size _).grown hgr8 (by have h := DA.out.size; simp at h ⊢; omega) (fun q hq => (World.ownsRow.lt OA.out q hq).1)); clear hown8 hgr8)
          have L8 : LV w0 pb ⟨pa, pn, pc⟩ ⟨fa, fn, fc⟩ ⟨oa, on, oc⟩ ⟨some ⟨b, o, none⟩, n, ec⟩ ⟨some ⟨wc.heap.size, 0, none⟩, n, n⟩ n (G ++ [(-1)]) (w8.setCell ⟨pb, 4, none⟩ (.slice a8 n8 c8)) := by
            have ne := VS.ne (by decide) V8.out O8.out
            have ne2 := VS.ne (by decide) V8.out B8.out
            exact ⟨⟨a8, n8, c8⟩, V8.out.setVals ⟨a8, n8, c8⟩, O8.out.sameV (fun q hq => heap_setCell_other w8 ⟨pb, 4, none⟩ q _ (ne q hq)), B8.out.sameV (fun q hq => heap_setCell_other w8 ⟨pb, 4, none⟩ q _ (ne2 q hq)), D8.out.setCell hpb _⟩
          go_roundw
          case rel => exact ⟨k + 1, by omega, by go_num, by rw [HS2.out]; exact L8, OK2⟩
          case measure => simp [intOf]; omega
        · have HCALL := HVA.out (n + 1) (List.replicate n false) k _ (by simp) hlt (by simp [List.countP_replicate]) (fun b hb => by
            rw [List.getElem?_replicate] at hb
            split at hb
            · simp at hb
            · cases hb) DA.out ⟨va, vn, vc⟩ ⟨some ⟨wc.heap.size, 0, none⟩, n, n⟩ VA.out BA.out
          have c4 := cell_of_heapV hev (k := 4) rfl
          have cl := lt_of_cell c4
          cases hck : c k with
          | none =>
            rw [hck] at HCALL
            have HCL := hide HCALL
            obtain rfl : R = ([], false) := by rw [HRV.out, if_neg (by rw [ON.out rfl hck]; simp)]
            clear HCALL hev hck
            go_wp2_with fail
            (with_reducible refine HCL.out.mono ?_); rintro e w7 ⟨rfl, own7, hg7⟩
            have D7 := hide (DA.out.grown hg7 DA.out.size (fun q hq => (World.ownsRow.lt BA.out q hq).1))
            go_wp2_with fail
            go_ret2
            exact RetNB.no (HB1.out.trans (D7.out.mono HB1.out.size))
          | some v =>
            rw [hck] at HCALL
            have HCL := hide (HCALL.mono fun _ _ h => (h : _ = Ending.returned (.tuple #[.int .i64 v, .bool true]) ∧ _ ∧ _))
            have HS2 : Hid (valTo es c (k + 1) = G ++ [v]) := hide (by rw [HS.out]; simp [val1, hck])
            have OK2 : Hid (okTo es c (k + 1) = true) := hide (by rw [OS.out, hok.out, hck]; rfl)
            clear HCALL hev hck
            go_wp2_with fail
            (with_reducible refine HCL.out.mono ?_); rintro e w7 ⟨rfl, own7, hg7⟩
            have D7 := hide (DA.out.grown hg7 DA.out.size (fun q hq => (World.ownsRow.lt BA.out q hq).1))
            have V7 := hide (VA.out.grown hg7 (VS.ne (by decide) VA.out BA.out))
            have O7 := hide (OA.out.grown hg7 (own_or (by decide) BA.out OA.out))
            have B7 := hide own7
            have a4 := cell_of_heapV V7.out.blk (k := 4) rfl
            have afz := frozen_of_heapV V7.out.blk
            have apl := lt_of_cell a4
            clear own7 hg7 c4 cl HCL
            go_wp2_with (at_builtin; refine wpList_app IntE 3 Try.infoInt rfl Try.underlying36 w0.heap.size (.slice va vn vc) G v (O7.out.alloc _) (by decide) hlen (by have h := D7.out.size; simp at h ⊢; omega) rfl _ _ rfl rfl _ 0 1 rfl (news_allocV (by simp)) ?_; intro v' w8 hown8 hgr8; obtain ⟨⟨a8, n8, c8⟩, rfl, -⟩ := hown8.toSlc; have V8 := hide ((V7.out.below ((Below.refl _ _).alloc (Nat.le_refl _) _)).grown hgr8 (VS.ne (by decide) V7.out O7.out)); have q4 := cell_of_heapV V8.out.blk (k := 4) rfl; have qfz := frozen_of_heapV V8.out.blk; have qpl := lt_of_cell q4; have O8 := hide hown8; have B8 := hide (((B7.out.alloc (.cells #[.int .i64 v] 3)).grown hgr8 (own_or (by decide) O7.out B7.out))); have D8 := hide ((D7.out.alloc D7.out.size _).grown hgr8 (by have h := D7.out.size; simp at h ⊢; omega) (fun q hq => (World.ownsRow.lt O7.out q hq).1)); clear hown8 hgr8)
            have L8 : LV w0 pb ⟨pa, pn, pc⟩ ⟨fa, fn, fc⟩ ⟨oa, on, oc⟩ ⟨some ⟨b, o, none⟩, n, ec⟩ ⟨some ⟨wc.heap.size, 0, none⟩, n, n⟩ n (G ++ [v]) (w8.setCell ⟨pb, 4, none⟩ (.slice a8 n8 c8)) := by
              have ne := VS.ne (by decide) V8.out O8.out
              have ne2 := VS.ne (by decide) V8.out B8.out
              exact ⟨⟨a8, n8, c8⟩, V8.out.setVals ⟨a8, n8, c8⟩, O8.out.sameV (fun q hq => heap_setCell_other w8 ⟨pb, 4, none⟩ q _ (ne q hq)), B8.out.sameV (fun q hq => heap_setCell_other w8 ⟨pb, 4, none⟩ q _ (ne2 q hq)), D8.out.setCell hpb _⟩
            go_roundw
            case rel => exact ⟨k + 1, by omega, by go_num, by rw [HS2.out]; exact L8, OK2⟩
            case measure => simp [intOf]; omega
      · have e : k = n := by omega
        subst e
        obtain rfl : R = (valTo es c k, true) := by rw [HRV.out, if_pos hok.out]
        have a4 := cell_of_heapV hvs.blk (k := 4) rfl
        have apl := lt_of_cell a4
        have HW := hide hw0r; have HVA2 := hide hvals
        clear hvals hbusy hw0r hvs
        go_wp2_with fail
        go_ret2
        exact ⟨vs, rfl, HVA2.out.mono HB1.out.size, HB1.out.trans (HW.out.mono HB1.out.size)⟩

end Go.Proofs.Ytpnmphfdfadlcaa
