/-
  A region that draws its order and ends in one operation that waits for all others, by an invariant: each operation is walked once. No program in sight.
-/
import Derived.Test.YtpbmlppdmdmfkaaGreatDoorZd13
import Derived.Deep.AppendLies
import Derived.Deep.RegionLaw
import Derived.Test.YtpbmlppdmdmfkaaGreatDoorZd00
import Derived.OrdersIn
import Derived.Orders
namespace Go.Proofs.YtpbmlppdmdmfkaaGreatDoor
open Go.RowKit

/-- The variables of l6Copy. -/
structure CpI (wr : World) (B X R O : Nat) (f s : Slc) (vf vo : Value) (xs : List Int) (L : List (List Int)) : Prop where
  bx : wr.heap[X]? = some (.cells #[vf, vo] 35 (0, 0))
  br : wr.heap[R]? = some (.cells #[.slice none 0 0, .slice none 0 0] 35 (0, 0))
  bo : wr.heap[O]? = some (.cells #[.slice f.a f.n f.cap, .slice s.a s.n s.cap] 35 (0, 0))
  of : Own IntE 3 wr B f.v xs
  os : RowsI wr (O + 1) s.v L
theorem CpI.below {wr w' : World} {B X R O : Nat} {f s : Slc} {vf vo : Value} {xs : List Int} {L : List (List Int)} (h : CpI wr B X R O f s vf vo xs L) (hb : Below wr.heap.size wr w') : CpI w' B X R O f s vf vo xs L :=
  ⟨(hb.block X (Array.getElem?_eq_some_iff.1 h.bx).1).trans h.bx, (hb.block R (Array.getElem?_eq_some_iff.1 h.br).1).trans h.br, (hb.block O (Array.getElem?_eq_some_iff.1 h.bo).1).trans h.bo, h.of.below hb, h.os.below hb⟩
theorem OwnFU.setLow {α β : Type} {E : El α} {T : TypeId} {R : Dd → Dd → Prop} {φ : Dd → World → α → β → Prop} {us : List α} {ds : List Dd} {w : World} {base g j : Nat} {v u : Value} {xs : List β} (h : OwnFU E T R φ us ds w base v xs) (hg : g < base) : OwnFU E T R φ us ds (w.setCell ⟨g, j, none⟩ u) base v xs :=
  ⟨h.lu, h.ld, h.pw, h.own.sameV fun q hq => heap_setCell_other w ⟨g, j, none⟩ q u (show q ≠ g by have := (World.ownsRow.lt h.own q hq).1; omega), fun i u' d x h1 h2 h3 => ⟨(h.rows i u' d x h1 h2 h3).1, (h.rows i u' d x h1 h2 h3).2.step (by simp) fun k ob h4 _ h6 _ => by
    rw [heap_setCell_other w ⟨g, j, none⟩ k u (show k ≠ g by have := (h.rows i u' d x h1 h2 h3).1; omega)]; exact h6⟩⟩
theorem notT_of {T U : TypeId} {a : Array Value} {fz : Nat × Nat} (h : U ≠ T) : notT T (.cells a U fz) := fun a' fz' e => by simp at e; exact h e.2.1
/-- Blocks of another type are kept when a row grows. -/
theorem grown_keep {α : Type} {E : El α} {T : TypeId} {w w' : World} {base : Nat} {v : Value} {xs : List α} (ho : Own E T w base v xs) (hg : w.grownBy w' v.ownBlock) {k : Nat} {ob : Obj} (h : w.heap[k]? = some ob) (hn : notT T ob) : w'.heap[k]? = some ob :=
  (hg.block k (Array.getElem?_eq_some_iff.1 h).1 (fun e => by
    obtain ⟨a, ha⟩ := ho.typed e.symm
    rw [h] at ha
    exact hn a _ (Option.some.inj ha))).trans h
/-- Rows, as a fact about blocks that are not of another type. -/
theorem RowsI.loc {w : World} {base : Nat} {v : Value} {L : List (List Int)} {T : TypeId} (h : RowsI w base v L) (h1 : 25 ≠ T) (h2 : 3 ≠ T) : LocR T base w.heap.size w (fun W => RepNN W v L) := by
  obtain ⟨us, ds, h⟩ := h
  have k1 := LocR.own h1 h.own
  have k2 : LocR T base w.heap.size w (fun W => ∀ (i : Nat) (u : Slc) (r : List Int), us[i]? = some u → L[i]? = some r → Rep IntE W u.v r) := by
    refine LocR.all (Nat.le_refl _) fun i => LocR.all (Nat.le_refl _) fun u => LocR.all (Nat.le_refl _) fun r => LocR.imp (Nat.le_refl _) fun hu => LocR.imp (Nat.le_refl _) fun hr => ?_
    obtain ⟨d, hd⟩ := get_of_lt (xs := ds) (k := i) (by rw [h.ld]; exact (List.getElem?_eq_some_iff.1 hr).1)
    obtain ⟨r1, r2⟩ := h.rows i u d r hu hd hr
    exact ((LocR.own h2 r2.now.1).wide r1 (Nat.le_refl _) (Nat.le_refl _)).map fun V k => k.rep
  exact (k1.and k2).map fun V ⟨a, b⟩ => ⟨us, h.lu, a.rep, b⟩

/-- A candidate that a call made. -/
def RetX (w : World) (x : Xc) (e : Ending) (w' : World) : Prop := ∃ f o : Slc, e = .returned (.agg #[.slice f.a f.n f.cap, .slice o.a o.n o.cap]) ∧ Own IntE 3 w' w.heap.size f.v x.fr ∧ RowsI w' w.heap.size o.v x.od ∧ Below w.heap.size w w'
theorem own_loc {w : World} {lo : Nat} {f o : Slc} {x : Xc} (h : Own IntE 3 w lo f.v x.fr) (k : RowsI w lo o.v x.od) : LocR 35 lo w.heap.size w (fun W => RepX W f.v o.v x) :=
  ((LocR.own (T := 35) (by decide) h).and (RowsI.loc (T := 35) k (by decide) (by decide))).map (fun V ⟨a, b⟩ => ⟨a.rep, b⟩)

/-- The same, and what it reads from lies apart from its orders. -/
def RetXA (w : World) (x : Xc) (e : Ending) (w' : World) : Prop := ∃ (f o : Slc) (m : Nat), e = .returned (.agg #[.slice f.a f.n f.cap, .slice o.a o.n o.cap]) ∧ Own IntE 3 w' w.heap.size f.v x.fr ∧ (∀ q, f.v.ownBlock = some q → q < m) ∧ w.heap.size ≤ m ∧ RowsI w' m o.v x.od ∧ Below w.heap.size w w'
theorem RetXA.ret {w : World} {x : Xc} {e : Ending} {w' : World} (h : RetXA w x e w') : RetX w x e w' := by
  obtain ⟨f, o, m, h1, h2, -, h3, ⟨us, ds, h4⟩, h5⟩ := h
  exact ⟨f, o, h1, h2, ⟨us, ds, h4.mono h3⟩, h5⟩

set_option maxRecDepth 100000 in
set_option maxHeartbeats 6400000 in
theorem l6Copy_anyA (vf vo : Value) (x : Xc) (w : World) (hx : RepX w vf vo x) (hl : x.fr.length ≤ 1048576) (hol : x.od.length ≤ 1048576) (hrl : ∀ o ∈ x.od, o.length ≤ 1048576) :
    Calls Tryz.prog 234 #[.agg #[vf, vo]] w (RetXA w x) := by
  have HX := hide hx
  obtain ⟨fa, fc, rfl, -, -, -, -⟩ := hx.fr.open
  obtain ⟨oa, oc, rfl, -, -, -, -⟩ := hx.od.open
  have HB0 := hide (((Below.refl w.heap.size w).alloc (Nat.le_refl _) (.cells #[.slice fa x.fr.length fc, .slice oa x.od.length oc] 35)).alloc (by simp) (.cells #[.slice none 0 0, .slice none 0 0] 35))
  clear hx
  generalize hfn : x.fr.length = fn at *
  generalize hon : x.od.length = on at *
  have HFN := hide hfn; have HON := hide hon
  have hz2 : (((w.alloc (.cells #[.slice fa fn fc, .slice oa on oc] 35)).alloc (.cells #[.slice none 0 0, .slice none 0 0] 35)).heap.size) = w.heap.size + 1 + 1 := by simp
  have hx0 : ((w.alloc (.cells #[.slice fa fn fc, .slice oa on oc] 35)).alloc (.cells #[.slice none 0 0, .slice none 0 0] 35)).heap[w.heap.size]? = some (.cells #[.slice fa fn fc, .slice oa on oc] 35 (0, 0)) := by
    rw [heap_alloc_old _ _ (by simp)]; exact heap_alloc_new w _
  have hr0 : ((w.alloc (.cells #[.slice fa fn fc, .slice oa on oc] 35)).alloc (.cells #[.slice none 0 0, .slice none 0 0] 35)).heap[w.heap.size + 1]? = some (.cells #[.slice none 0 0, .slice none 0 0] 35 (0, 0)) := by
    have h := heap_alloc_new (w.alloc (.cells #[.slice fa fn fc, .slice oa on oc] 35)) (.cells #[.slice none 0 0, .slice none 0 0] 35)
    simpa using h
  have HX2 := hide hx0; have HR2 := hide hr0
  have HZ2 := hide hz2
  have OE := hide (Own.empty (E := IntE) 3 ((w.alloc (.cells #[.slice fa fn fc, .slice oa on oc] 35)).alloc (.cells #[.slice none 0 0, .slice none 0 0] 35)) (base := w.heap.size) (by simp; omega))
  rw [hz2] at OE
  have FR := hide (HX.out.fr.below (HB0.out.alloc (by simp; omega) (.cells #[] 3)))
  have hln : ([] : List Int).length + x.fr.length ≤ 68719476736 := by rw [hfn]; simp; omega
  clear hfn hon hx0 hr0 hz2
  go_enter Tryz.func234, Tryz.ntmps234
  go_wp2_with (at_builtin; refine wpList_appS IntE 3 Tryz.infoInt rfl Tryz.underlying25 w.heap.size _ [] x.fr _ OE.out FR.out (by decide) hln (by simp; omega) rfl _ _ rfl rfl rfl ?_; intro v4 w4 hown4 hgr4; obtain ⟨⟨fa', fn', fc'⟩, rfl, -⟩ := hown4.toSlc; have B4 := hide ((HB0.out.alloc (by simp; omega) (.cells #[] 3)).grown hgr4 (by simp; omega) (fun q hq => by simp [Value.ownBlock] at hq; omega)); have O4 := hide hown4; have HG4 := hide hgr4; clear hown4 hgr4)
  have hg4 := HG4.out.size
  simp only [World.size_alloc] at hg4
  have HC4 : Hid (CpI (w4.alloc (.cells #[.slice fa' fn' fc', .slice none 0 0] 35)) w.heap.size w.heap.size (w.heap.size + 1) w4.heap.size ⟨fa', fn', fc'⟩ ⟨none, 0, 0⟩ (.slice fa fn fc) (.slice oa on oc) x.fr []) := hide (by
    have e1 : ∀ k ob, k < w.heap.size + 1 + 1 → ((w.alloc (.cells #[.slice fa fn fc, .slice oa on oc] 35)).alloc (.cells #[.slice none 0 0, .slice none 0 0] 35)).heap[k]? = some ob → (w4.alloc (.cells #[.slice fa' fn' fc', .slice none 0 0] 35)).heap[k]? = some ob := fun k ob hk h => by
      rw [heap_alloc_old _ _ (by omega)]
      rw [HG4.out.block k (by simp; omega) (fun e => by simp [Value.ownBlock] at e; omega), heap_alloc_old _ _ (by simp; omega)]
      exact h
    exact ⟨e1 _ _ (by omega) HX2.out, e1 _ _ (by omega) HR2.out, heap_alloc_new w4 _, (by have h := O4.out; rw [List.nil_append] at h; exact h.alloc _), OwnF.nil _ _ _⟩)
  have HB4 := hide (B4.out.alloc (by omega) (.cells #[.slice fa' fn' fc', .slice none 0 0] 35))
  have hq4 : w.heap.size + 1 + 1 < w4.heap.size := by omega
  have HFM := hide (fun q (hq : (Slc.v ⟨fa', fn', fc'⟩).ownBlock = some q) => (World.ownsRow.lt O4.out q hq).2)
  clear hg4 HG4 O4 B4 FR OE HX2 HR2 HZ2 hln HB0
  go_loopw [4] (fun i wr => ∃ k : Nat, k ≤ on ∧ i = .int .i64 k ∧ (∃ s : Slc, CpI wr w.heap.size w.heap.size (w.heap.size + 1) w4.heap.size ⟨fa', fn', fc'⟩ s (.slice fa fn fc) (.slice oa on oc) x.fr (x.od.take k)) ∧ Below w.heap.size w wr) (fun i _ => on - (intOf i).toNat)
  case atStart => exact ⟨0, Nat.zero_le _, rfl, ⟨_, HC4.out⟩, HB4.out⟩
  case round =>
    obtain ⟨k, hk, rfl, ⟨⟨sa, sn, sc⟩, hc⟩, hbr⟩ := hrel
    have x1 : wr.cell? ⟨w.heap.size, 1, none⟩ = some (.slice oa on oc) := cell_of_heapV hc.bx (k := 1) rfl
    have o1 : wr.cell? ⟨w4.heap.size, 1, none⟩ = some (.slice sa sn sc) := cell_of_heapV hc.bo (k := 1) rfl
    have ofz := frozen_of_heapV hc.bo
    have xl := lt_of_cell x1
    have ol := lt_of_cell o1
    by_cases hlt : k < on
    · obtain ⟨r, hrk⟩ := get_of_lt (xs := x.od) (k := k) (by rw [HON.out]; exact hlt)
      have hltk := nat_of_lt hlt
      obtain ⟨b2, o2, ra, rc, rfl, hbl2, q0, q1⟩ := HX.out.od.row hrk
      have q0 := (hbr.cell (p := ⟨b2, o2 + k, none⟩) hbl2).trans q0
      have hbl2' := Nat.lt_of_lt_of_le hbl2 hbr.size
      have RS : Hid (x.od.take (k + 1) = x.od.take k ++ [r]) := hide (by rw [List.take_add_one, hrk]; rfl)
      have hn1 : ([] : List Int).length + r.length ≤ 68719476736 := by have := hrl r (List.mem_of_getElem? hrk); simp; omega
      have HRP := hide ((q1.below hbr).below ((Below.refl wr.heap.size wr).alloc (Nat.le_refl _) (.cells #[] 3)).drew)
      have HLT : Hid (Own IntE 3 (wr.alloc (.cells #[] 3)).drew wr.heap.size (.slice (some ⟨wr.heap.size, 0, none⟩) 0 0) []) := hide (Own.empty (E := IntE) 3 wr (Nat.le_refl _))
      have hlen : (x.od.take k).length ≤ 68719476736 := by rw [List.length_take]; omega
      have HC := hide hc
      obtain ⟨us, ds, hU⟩ := hc.os
      have HU := hide hU
      have HUL : Hid (us.length ≤ 68719476736) := hide (by rw [hU.lu]; exact hlen)
      have HBR := hide hbr
      have hbs : w.heap.size ≤ wr.heap.size := hbr.size
      generalize x.od.take k = GG at *
      clear hrk q1 hlen hU hbr hc
      go_wp2_with fail
      go_region_law (first
        | (refine step_appS IntE 3 Tryz.infoInt rfl Tryz.underlying25 wr.heap.size _ [] r _ HLT.out HRP.out (by decide) hn1 (by simp) (by rfl) _ _ (by rfl) (by rfl) (by rfl) ?_; intro v6 w6 hown6 hgr6; obtain ⟨⟨a6, n6, c6⟩, rfl, -⟩ := hown6.toSlc; have O6 := hide hown6; have hk6 : (∀ o, w6.cell? ⟨w4.heap.size, o, none⟩ = wr.cell? ⟨w4.heap.size, o, none⟩) := (kept_d hgr6 ol (fun q hq => by simp [Value.ownBlock] at hq; omega)); have B6 := hide (below_lit hgr6); have hb6 := B6.out.size; have ol6 : w4.heap.size < w6.heap.size := (Nat.lt_of_lt_of_le ol hb6); clear hown6 hgr6)
        | (refine step_app SlcE 25 Tryz.infoIntS rfl Tryz.underlying33 (w4.heap.size + 1) _ us ⟨a6, n6, c6⟩ ((HU.out.own.below B6.out).alloc _) (by decide) HUL.out (by simp; omega) (by rfl) _ _ (by rfl) (by rfl) w6.heap.size 0 1 (by rfl) news_alloc ?_; intro v8 w8 hown8 hgr8; obtain ⟨⟨a8, n8, c8⟩, rfl, -⟩ := hown8.toSlc; have K8 := (fun k ob (h : wr.heap[k]? = some ob) hn => grown_keep ((HU.out.own.below B6.out).alloc _) hgr8 (show _ = some ob from (heap_alloc_old _ _ (Nat.lt_of_lt_of_le (Array.getElem?_eq_some_iff.1 h).1 hb6)).trans ((B6.out.block k (Array.getElem?_eq_some_iff.1 h).1).trans h)) hn); have bo8 := K8 _ _ HC.out.bo (notT_of (by decide)); have o8 : w8.cell? ⟨w4.heap.size, 1, none⟩ = some (.slice sa sn sc) := cell_of_heapV bo8 (k := 1) rfl; have ofz8 := frozen_of_heapV bo8; have ol8 := lt_of_cell o8))
      all_goals
        have R8 := RowsI.app HU.out B6.out (by omega) rfl O6.out hown8 hgr8
        have B8 := (HBR.out.trans (B6.out.mono hbs)).alloc (by omega) (.cells #[.slice a6 n6 c6] 25)
        have B9 := B8.grown hgr8 (by simp; omega) (fun q hq => by have := (World.ownsRow.lt HU.out.own q hq).1; omega)
        have C9 : CpI (w8.setCell ⟨w4.heap.size, 1, none⟩ (.slice a8 n8 c8)) w.heap.size w.heap.size (w.heap.size + 1) w4.heap.size ⟨fa', fn', fc'⟩ ⟨a8, n8, c8⟩ (.slice fa fn fc) (.slice (some ⟨b2, o2, none⟩) on oc) x.fr (GG ++ [r]) := by
          have hc := HC.out
          refine ⟨?_, ?_, ?_, ?_, ?_⟩
          · rw [heap_setCell_other w8 ⟨w4.heap.size, 1, none⟩ _ _ (show w.heap.size ≠ w4.heap.size by omega)]; exact K8 _ _ hc.bx (notT_of (by decide))
          · rw [heap_setCell_other w8 ⟨w4.heap.size, 1, none⟩ _ _ (show w.heap.size + 1 ≠ w4.heap.size by omega)]; exact K8 _ _ hc.br (notT_of (by decide))
          · exact heap_setCell_same w8 w4.heap.size 1 _ _ _ bo8
          · refine hc.of.sameV fun q hq => ?_
            obtain ⟨a, ha⟩ := hc.of.typed hq
            have h2 := K8 _ _ ha (notT_of (by decide))
            rw [heap_setCell_other w8 ⟨w4.heap.size, 1, none⟩ q _ (show q ≠ w4.heap.size by rintro rfl; rw [hc.bo] at ha; simp at ha), h2, ha]
          · obtain ⟨us', ds', h⟩ := R8
            exact ⟨us', ds', h.setLow (by omega)⟩
        have HC9 := hide C9
        have HB9 := hide (B9.setCell (p := ⟨w4.heap.size, 1, none⟩) (show w.heap.size ≤ w4.heap.size by omega) (.slice a8 n8 c8))
        clear C9 R8 B8 B9
        go_wp2_with fail
        go_roundw
        case rel => exact ⟨k + 1, by omega, by go_num, ⟨⟨a8, n8, c8⟩, by rw [RS.out]; exact HC9.out⟩, HB9.out⟩
        case measure => simp [intOf]; omega
    · obtain rfl : k = on := by omega
      rw [List.take_of_length_le (by rw [HON.out]; exact Nat.le_refl _)] at hc
      have o0 : wr.cell? ⟨w4.heap.size, 0, none⟩ = some (.slice fa' fn' fc') := cell_of_heapV hc.bo (k := 0) rfl
      have r0 : wr.cell? ⟨w.heap.size + 1, 0, none⟩ = some (.slice none 0 0) := cell_of_heapV hc.br (k := 0) rfl
      have r1 : wr.cell? ⟨w.heap.size + 1, 1, none⟩ = some (.slice none 0 0) := cell_of_heapV hc.br (k := 1) rfl
      have rfz := frozen_of_heapV hc.br
      have rl := lt_of_cell r0
      go_wp2_with fail
      have hne : ∀ q, (Slc.v ⟨fa', fn', fc'⟩).ownBlock = some q → q ≠ w.heap.size + 1 := fun q hq => by
        rintro rfl
        obtain ⟨a, ha⟩ := hc.of.typed hq
        rw [hc.br] at ha
        simp at ha
      refine bodyPost_ret (v := .agg #[.slice fa' fn' fc', .slice sa sn sc]) (by simp [results, Tryz.results234, go_sem, *]) rfl ⟨⟨fa', fn', fc'⟩, ⟨sa, sn, sc⟩, w4.heap.size + 1, rfl, ?_, fun q hq => by have := HFM.out q hq; omega, by omega, ?_, ?_⟩
      · exact (hc.of.sameV fun q hq => heap_setCell_other _ ⟨w.heap.size + 1, 0, none⟩ q _ (hne q hq)).sameV fun q hq => heap_setCell_other _ ⟨w.heap.size + 1, 1, none⟩ q _ (hne q hq)
      · obtain ⟨us, ds, hU⟩ := hc.os
        have h1 := (hU.setLow (j := 0) (u := .slice fa' fn' fc') (show w.heap.size + 1 < w4.heap.size + 1 by omega)).setLow (j := 1) (u := .slice sa sn sc) (show w.heap.size + 1 < w4.heap.size + 1 by omega)
        exact ⟨us, ds, h1⟩
      · exact (hbr.setCell (p := ⟨w.heap.size + 1, 0, none⟩) (show w.heap.size ≤ w.heap.size + 1 by omega) _).setCell (p := ⟨w.heap.size + 1, 1, none⟩) (show w.heap.size ≤ w.heap.size + 1 by omega) _

theorem l6Copy_any (vf vo : Value) (x : Xc) (w : World) (hx : RepX w vf vo x) (hl : x.fr.length ≤ 1048576) (hol : x.od.length ≤ 1048576) (hrl : ∀ o ∈ x.od, o.length ≤ 1048576) :
    Calls Tryz.prog 234 #[.agg #[vf, vo]] w (RetX w x) := (l6Copy_anyA vf vo x w hx hl hol hrl).mono fun _ _ h => h.ret

end Go.Proofs.YtpbmlppdmdmfkaaGreatDoor

namespace Go.Proofs.YtpbmlppdmdmfkaaGreatDoor
open Go.RowKit

theorem Tryz.infoExecY : (Tryz.prog.info? 35).map (fun i => (i.zero, i.size, i.bytes)) = some (some (.agg #[.slice none 0 0, .slice none 0 0]), 2, 48) := by kernel_rfl
/-- The slices of a candidate. -/
structure Sl2 where
  f : Slc
  o : Slc
def XE : El Sl2 := ⟨2, by decide, fun x => [.slice x.f.a x.f.n x.f.cap, .slice x.o.a x.o.n x.o.cap], fun _ => rfl, fun x u h => by simp at h; rcases h with rfl | rfl <;> rfl⟩
def PhiX (_ : Dd) (W : World) (u : Sl2) (x : Xc) : Prop := RepX W u.f.v u.o.v x
abbrev RowsX (w : World) (base : Nat) (v : Value) (L : List Xc) : Prop := OwnF XE 35 Rafter PhiX w base v L
theorem RowsX.app {us : List Sl2} {ds : List Dd} {w w1 w2 : World} {base : Nat} {v v' : Value} {L : List Xc} (h : OwnFU XE 35 Rafter PhiX us ds w base v L) (hb : Below w.heap.size w w1) (hbase : base ≤ w.heap.size) {x : Xc} {s : Sl2} {ob : Obj}
    (hu : LocR 35 w.heap.size w1.heap.size w1 (fun W => RepX W s.f.v s.o.v x)) (ho : Own XE 35 w2 base v' (us ++ [s])) (hg : (w1.alloc ob).grownBy w2 v.ownBlock) : RowsX w2 base v' (L ++ [x]) := by
  have hba := (Below.refl w1.heap.size w1).alloc (Nat.le_refl _) ob
  have hd := h.hi
  exact ⟨us ++ [s], ds ++ [⟨w.heap.size, w1.heap.size, []⟩], OwnFU.app (d := ⟨w.heap.size, w1.heap.size, []⟩) ((h.below hb).below hba) ho hg hbase (hu.below hba) (fun d' h' => (hd d' h' : d'.hi ≤ w.heap.size))⟩

theorem permsL_mem : ∀ (n : Nat) (xs : List Int), xs.length = n → ∀ r ∈ permsL xs, r.length = xs.length := fun n xs h r hr => by rw [permsL_row n xs h r hr, h]
theorem ordsL_inner {es : List Ev} : ∀ (n l : Nat), l + n = 3 → ∀ o ∈ ordsL es l, ∀ r ∈ o, r.length ≤ es.length + 1 := by
  intro n
  induction n with
  | zero =>
    intro l hl o ho
    obtain rfl : l = 3 := by omega
    rw [ordsL_end] at ho; simp at ho; subst ho; simp
  | succ n ih =>
    intro l hl o ho r hr
    rw [ordsL_step (by omega), List.mem_flatMap] at ho
    obtain ⟨q, hq1, hq⟩ := ho
    rw [List.mem_map] at hq
    obtain ⟨y, hy, rfl⟩ := hq
    rcases List.mem_cons.1 hr with rfl | hr
    · rw [List.length_cons, permsL_mem _ _ rfl q hq1, List.length_tail]
      have := wrL_length es l
      omega
    · exact ih (l + 1) (by omega) y hy r hr

set_option maxRecDepth 100000 in
set_option maxHeartbeats 6400000 in
theorem l6All_any (v : Value) (p : List (List Ins)) (w : World) (hp : RepP w v p) (hl : p.flatten.length ≤ 1048576) (hpv : progValid p = true) :
    Calls Tryz.prog 168 #[v] w fun e w' => ∃ u : Slc, e = .returned (.slice u.a u.n u.cap) ∧ RowsX w' w.heap.size u.v (allX (evAll p)) ∧ Below w.heap.size w w' := by
  have hfew := few hpv
  have hen := evAll_le hpv
  have HE := hide (fun w' h => l6Events_any v p w' h hl)
  have HFR := hide (fun ve w' h => l6Froms_any (evAll p) (by omega) hfew.froms (evAll p).length ve 0 w' (by omega) h)
  have HOR := hide (fun ve w' h => l6Orders_any (evAll p) (by omega) hfew.ords hfew.perms (fun l hl3 => wrL_pos (p := p) hl3) 3 ve 0 w' (by omega) h)
  simp only [Int.natCast_zero] at HFR HOR
  have HFL := hide (hfew.froms 0); have HOL := hide (hfew.ords 0); have HAL := hide hfew.all
  have HFW := hide (fun r (hr : r ∈ fromsL (evAll p) 0) => fromsL_row (evAll p).length 0 (by omega) r hr)
  have HOW := hide (fun o (ho : o ∈ ordsL (evAll p) 0) => ordsL_row 3 0 (by omega) o ho)
  have HOI := hide (fun o (ho : o ∈ ordsL (evAll p) 0) => ordsL_inner 3 0 (by omega) o ho)
  have HA : Hid (allX (evAll p) = (fromsL (evAll p) 0).flatMap fun f => (ordsL (evAll p) 0).map (⟨f, ·⟩)) := hide rfl
  have HP := hide hp
  obtain ⟨pa, pc, rfl, -, hpn, -, -⟩ := hp.open
  clear hp hfew hpv
  generalize allX (evAll p) = R at *
  generalize fromsL (evAll p) 0 = FS at *
  generalize ordsL (evAll p) 0 = OS at *
  generalize hes : evAll p = es at *
  clear hes
  generalize hpn' : p.length = pn at *
  clear hpn'
  go_enter Tryz.func168, Tryz.ntmps168
  go_wp2_with fail
  (with_reducible refine (HE.out _ HP.out).mono ?_); rintro e w2 ⟨ve, rfl, oe, hb2⟩
  have HRE := hide oe.rep
  obtain ⟨⟨ea, en, ec⟩, rfl, -⟩ := oe.toSlc
  have HB2 := hide hb2
  have HF2 := hide (HFR.out _ w2 HRE.out)
  clear oe hb2 HE HFR
  go_wp2_with fail
  (with_reducible refine HF2.out.mono ?_); rintro e w3 ⟨⟨fa, fn, fc⟩, rfl, ofr, hb3⟩
  have HFN : Hid (FS.length = fn) := hide (RowsI.len ofr).symm
  have HFS := hide ofr
  have HO3 := hide (HOR.out _ w3 (HRE.out.below hb3))
  have HB3 := hide (HB2.out.trans (hb3.mono HB2.out.size))
  clear ofr hb3 HF2 HOR HB2
  go_wp2_with fail
  (with_reducible refine HO3.out.mono ?_); rintro e w4 ⟨⟨oa, on, oc⟩, rfl, oor, hb4⟩
  have HON : Hid (OS.length = on) := hide (RowsO.len oor).symm
  have HOS := hide oor
  have HFS4 := hide (OwnF.below HFS.out hb4)
  have HB4 := hide (HB3.out.trans (hb4.mono HB3.out.size))
  have hfb : fn ≤ 3000 := by have := HFN.out; have := HFL.out; omega
  have hob : on ≤ 3000 := by have := HON.out; have := HOL.out; omega
  clear oor hb4 HFS HB3 HO3
  go_wp2_with fail
  go_loopw [6, 7] (fun s i wr => ∃ k : Nat, k ≤ fn ∧ i = .int .i64 k ∧ RowsX wr w4.heap.size s ((FS.take k).flatMap fun f => OS.map (⟨f, ·⟩)) ∧ Below w4.heap.size w4 wr) (fun _ i _ => fn - (intOf i).toNat)
  case atStart => exact ⟨0, Nat.zero_le _, rfl, OwnF.empty _ w4 (Nat.le_refl _), (Below.refl _ _).alloc (Nat.le_refl _) _⟩
  case round =>
    obtain ⟨k, hk, rfl, hrows, hbr⟩ := hrel
    by_cases hlt : k < fn
    · obtain ⟨x, hxk⟩ := get_of_lt (xs := FS) (k := k) (by rw [HFN.out]; exact hlt)
      have hltk := nat_of_lt hlt
      have GS := hide (flatMap_take_succ (fun f => OS.map (Xc.mk f ·)) hxk)
      have HGL : Hid (((FS.take k).flatMap fun f => OS.map (Xc.mk f ·)).length ≤ 3000) := hide (by
        have h1 := flatMap_length_le (fun f => OS.map (Xc.mk f ·)) OS.length (FS.take k) (fun f _ => by rw [List.length_map]; exact Nat.le_refl _)
        have h2 := HAL.out
        have h3 : (FS.take k).length * OS.length ≤ FS.length * OS.length := Nat.mul_le_mul_right _ (by rw [List.length_take]; omega)
        omega)
      have HXK := hide hxk
      have HXL := hide (HFW.out x (List.mem_of_getElem? hxk))
      generalize ((FS.take k).flatMap fun f => OS.map (Xc.mk f ·)) = G at *
      have HRO := hide hrows; have HBR := hide hbr
      clear hrows hbr hxk
      go_wp2_with fail
      go_loopw [6, 8] (fun s i wr => ∃ j : Nat, j ≤ on ∧ i = .int .i64 j ∧ RowsX wr w4.heap.size s (G ++ (OS.take j).map (Xc.mk x ·)) ∧ Below w4.heap.size w4 wr) (fun _ i _ => on - (intOf i).toNat)
      case atStart => exact ⟨0, Nat.zero_le _, rfl, by rw [List.take_zero, List.map_nil, List.append_nil]; exact HRO.out, HBR.out⟩
      case round =>
        obtain ⟨j, hj, rfl, hrows, hbr⟩ := hrel
        by_cases hltj : j < on
        · obtain ⟨o, hoj⟩ := get_of_lt (xs := OS) (k := j) (by rw [HON.out]; exact hltj)
          have hltj' := nat_of_lt hltj
          obtain ⟨⟨sa, sn, sc⟩, g, hga, hg, g0, hrep⟩ := RowsI.row (OwnF.below HFS4.out hbr) HXK.out
          obtain ⟨⟨ta, tn, tc⟩, uss, g2, p1, p2, hga2, hg2, h0, hphi⟩ := RowsO.row (OwnF.below HOS.out hbr) hoj
          subst hga; subst hga2
          have RS : Hid (G ++ (OS.take (j + 1)).map (Xc.mk x ·) = (G ++ (OS.take j).map (Xc.mk x ·)) ++ [⟨x, o⟩]) := hide (by rw [map_take_succ (Xc.mk x ·) hoj, List.append_assoc])
          have hX : RepX wr (.slice sa sn sc) (.slice ta tn tc) ⟨x, o⟩ := ⟨hrep, hphi.now.rep2⟩
          have HC := hide (fun W (hb : Below wr.heap.size wr W) => l6Copy_any _ _ ⟨x, o⟩ W (hX.below hb) (show x.length ≤ _ by rw [HXL.out]; omega) (show o.length ≤ _ by rw [HOW.out o (List.mem_of_getElem? hoj)]; omega) (fun r hr => by have := HOI.out o (List.mem_of_getElem? hoj) r hr; omega))
          have hlen : (G ++ (OS.take j).map (Xc.mk x ·)).length ≤ 68719476736 := by
            rw [List.length_append, List.length_map, List.length_take]
            have := HGL.out; omega
          obtain ⟨us, ds, hU⟩ := hrows
          have HUL : Hid (us.length ≤ 68719476736) := hide (by rw [hU.lu]; exact hlen)
          have HU := hide hU; have HBR := hide hbr
          have hbs : w4.heap.size ≤ wr.heap.size := hbr.size
          have hg4 : g < w4.heap.size := by
            obtain ⟨-, g', hga', hgc, -⟩ := RowsI.row HFS4.out HXK.out
            simp at hga'; omega
          have hg5 : g2 < w4.heap.size := by
            obtain ⟨-, -, g', -, -, hga', hgc, -⟩ := RowsO.row HOS.out hoj
            simp at hga'; omega
          have HG4 := hide hg4; have HG5 := hide hg5
          generalize G ++ (OS.take j).map (Xc.mk x ·) = GG at *
          clear hoj hlen hU hbr hX hrep hphi hg4 hg5
          go_wp2_with fail
          go_region_held3 (fun V => V.cell? ⟨g, k, none⟩ = some (.slice sa sn sc) ∧ V.cell? ⟨g2, j, none⟩ = some (.slice ta tn tc)) ((simp [go_sem, *]))
            (first
              | (go_at_call 234; (with_reducible refine (HC.out _ (Below.refl _ _).drew).mono ?_); rintro e w6 ⟨⟨f1, f2, f3⟩, ⟨o1, o2, o3⟩, rfl, hof, hos, hb6⟩; have HLO := hide (own_loc hof hos); have B6 := hide ((Below.refl wr.heap.size wr).drew.trans (hb6.mono (by simp))); obtain ⟨hc6, hf6⟩ := bcell B6.out; have hb7 := B6.out.size; have hz6 : g < w6.heap.size := (Nat.lt_of_lt_of_le hg hb7); have hz7 : g2 < w6.heap.size := (Nat.lt_of_lt_of_le hg2 hb7); clear hof hos hb6)
              | (refine step_app XE 35 Tryz.infoExecY rfl Tryz.underlying27 w4.heap.size _ us ⟨⟨f1, f2, f3⟩, ⟨o1, o2, o3⟩⟩ ((HU.out.own.below B6.out).alloc _) (by decide) HUL.out (by simp; omega) (by rfl) _ _ (by rfl) (by rfl) w6.heap.size 0 1 (by rfl) news_alloc ?_; intro v8 w8 hown8 hgr8; have hk8 : (∀ o, w8.cell? ⟨g, o, none⟩ = wr.cell? ⟨g, o, none⟩) := (fun o => (kept_cell hgr8 (by omega) (fun q hq => by have := (World.ownsRow.lt HU.out.own q hq).1; have := HG4.out; omega) o).trans (hc6 _ _ hg)); have hk9 : (∀ o, w8.cell? ⟨g2, o, none⟩ = wr.cell? ⟨g2, o, none⟩) := (fun o => (kept_cell hgr8 (by omega) (fun q hq => by have := (World.ownsRow.lt HU.out.own q hq).1; have := HG5.out; omega) o).trans (hc6 _ _ hg2))))
          all_goals
            have R8 := RowsX.app HU.out B6.out hbs (s := ⟨⟨f1, f2, f3⟩, ⟨o1, o2, o3⟩⟩) (x := ⟨x, o⟩) HLO.out hown8 hgr8
            have B8 := (HBR.out.trans (B6.out.mono hbs)).alloc (by omega) (.cells #[.slice f1 f2 f3, .slice o1 o2 o3] 35)
            have B9 := B8.grown hgr8 (by simp; omega) (fun q hq => (World.ownsRow.lt HU.out.own q hq).1)
            have HR8 := hide R8; have HB9 := hide B9
            clear R8 B8 B9
            go_wp2_with fail
            go_roundw
            case rel => exact ⟨j + 1, by omega, by go_num, by rw [RS.out]; exact HR8.out, HB9.out⟩
            case measure => simp [intOf]; omega
        · obtain rfl : j = on := by omega
          rw [List.take_of_length_le (by rw [HON.out]; exact Nat.le_refl _), ← GS.out] at hrows
          go_wp2_with fail
          go_roundw
          case rel => exact ⟨k + 1, by omega, by go_num, hrows, hbr⟩
          case measure => simp [intOf]; omega
    · obtain rfl : k = fn := by omega
      obtain ⟨us, ds, hU⟩ := hrows
      obtain ⟨⟨qa, qn, qc⟩, rfl, -⟩ := hU.own.toSlc
      have hrows : RowsX _ _ _ _ := ⟨us, ds, hU⟩
      clear hU
      go_wp2_with fail
      go_ret
      refine ⟨⟨qa, qn, qc⟩, rfl, ?_, ?_⟩
      · rw [HA.out]
        have h := hrows
        rw [List.take_of_length_le (by rw [HFN.out]; exact Nat.le_refl _)] at h
        exact h.mono HB4.out.size
      · exact HB4.out.trans (hbr.mono HB4.out.size)

end Go.Proofs.YtpbmlppdmdmfkaaGreatDoor

namespace Go.Proofs.YtpbmlppdmdmfkaaGreatDoor
open Go.RowKit

/-- What the order's rule asks of operation i: it has not come, and what it waits for has. -/
structure MayCome (md : Region.Mode) (ops : Array Oper) (listed : Array Bool) (i : Nat) (o : Oper) : Prop where
  op : ops[i]? = some o
  new : listed[i]? = some false
  after : ∀ e ∈ o.after, Region.binds md e = true → listed[e.on]? = some true

theorem ready_spec {md : Region.Mode} {ops : Array Oper} {listed : Array Bool} (hs : listed.size = ops.size) {i : Nat} (h : i ∈ Region.ready md ops listed) : ∃ o, MayCome md ops listed i o := by
  unfold Region.ready at h
  rw [List.mem_filter] at h
  obtain ⟨h1, h2⟩ := h
  rw [List.mem_range] at h1
  rw [Bool.and_eq_true] at h2
  obtain ⟨h2, h3⟩ := h2
  rw [Array.getElem?_eq_getElem h1] at h3
  refine ⟨ops[i], Array.getElem?_eq_getElem h1, ?_, fun e he hb => ?_⟩
  · rw [Array.getElem?_eq_getElem (by omega)]
    have : listed.getD i true = listed[i]'(by omega) := by simp [Array.getD, show i < listed.size by omega]
    rw [this] at h2
    simpa using h2
  · simp only [Option.map_some, Option.getD_some, Array.all_eq_true'] at h3
    have h4 := h3 e he
    rw [hb] at h4
    simp only [Bool.not_true, Bool.false_or] at h4
    by_cases hl : e.on < listed.size
    · rw [Array.getElem?_eq_getElem hl]
      have : listed.getD e.on false = listed[e.on] := by simp [Array.getD, hl]
      rw [this] at h4; rw [h4]
    · have : listed.getD e.on false = false := by simp [Array.getD, hl]
      rw [this] at h4; cases h4

/-- Each operation waits for earlier ones alone. -/
def earlier (ops : Array Oper) : Bool := (List.range ops.size).all fun i => (ops[i]?.map fun o => o.after.all fun e => decide (e.on < i)).getD true

theorem ready_nil {md : Region.Mode} {ops : Array Oper} {listed : Array Bool} (hs : listed.size = ops.size) (he : earlier ops = true) (h : Region.ready md ops listed = []) : ∀ i, i < ops.size → listed[i]? = some true := by
  intro i
  induction i using Nat.strongRecOn with
  | ind i ih =>
    intro hi
    rw [Array.getElem?_eq_getElem (by omega)]
    by_cases e : listed[i]'(by omega) = true
    · rw [e]
    · exfalso
      have hm : i ∈ Region.ready md ops listed := by
        unfold Region.ready
        rw [List.mem_filter, List.mem_range]
        refine ⟨hi, ?_⟩
        rw [Bool.and_eq_true]
        refine ⟨?_, ?_⟩
        · have : listed.getD i true = listed[i]'(by omega) := by simp [Array.getD, show i < listed.size by omega]
          rw [this]; simpa using e
        · rw [Array.getElem?_eq_getElem hi]
          simp only [Option.map_some, Option.getD_some, Array.all_eq_true']
          intro x hx
          unfold earlier at he
          rw [List.all_eq_true] at he
          have h1 := he i (by simpa using hi)
          rw [Array.getElem?_eq_getElem hi] at h1
          simp only [Option.map_some, Option.getD_some, Array.all_eq_true'] at h1
          have h2 := h1 x hx
          simp only [decide_eq_true_eq] at h2
          have h3 := ih x.on h2 (by omega)
          have : listed.getD x.on false = true := by
            have hl : x.on < listed.size := by omega
            rw [Array.getElem?_eq_getElem hl] at h3
            simp only [Option.some.injEq] at h3
            simp [Array.getD, hl, h3]
          rw [this, Bool.or_true]
      rw [h] at hm; cases hm

def falses (l : Array Bool) : Nat := l.toList.countP fun b => !b

theorem falses_set {l : Array Bool} {i : Nat} (h : l[i]? = some false) : falses (l.setIfInBounds i true) + 1 = falses l := by
  unfold falses
  rw [Array.toList_setIfInBounds]
  have h' : l.toList[i]? = some false := by rw [Array.getElem?_toList]; exact h
  obtain ⟨h1, h2⟩ := List.getElem?_eq_some_iff.1 h'
  generalize l.toList = L at *
  clear h h' l
  induction L generalizing i with
  | nil => simp at h1
  | cons x L ih =>
    cases i with
    | zero => simp at h2; subst h2; simp
    | succ i =>
      simp at h1 h2
      have := ih h1 h2
      simp only [List.set_cons_succ, List.countP_cons]
      omega

theorem falses_zero {l : Array Bool} (h : falses l = 0) (i : Nat) : l[i]? ≠ some false := by
  intro e
  have := falses_set e
  omega

variable {F : Fence} {n : Nat} {P : Program} {ops : Array Oper} {Q : Exit → Act → World → Prop}

theorem wpAnyIn_inv {md : Region.Mode} (I : Array Bool → Act → World → Prop) (he : earlier ops = true)
    (hstep : ∀ (listed : Array Bool) (a : Act) (w : World), listed.size = ops.size → I listed a w → ∀ (i : Nat) (o : Oper), MayCome md ops listed i o → ∀ K : Act → World → Prop, (∀ a' w', I (listed.setIfInBounds i true) a' w' → K a' w') →
      if Region.wanted o (yielded ops a.tmps) = true then Oper.wpIn F n P o a w K Q else (∀ f, o.about P w a.eval = some f → F.fn f) ∧ K (a.put o.dst undef) w)
    (hend : ∀ (listed : Array Bool) (a : Act) (w : World), (∀ i, i < ops.size → listed[i]? = some true) → I listed a w → Q .normal a w) :
    ∀ (fuel : Nat) (listed : Array Bool) (a : Act) (w : World), listed.size = ops.size → falses listed ≤ fuel → I listed a w → wpAnyIn F n P md ops Q fuel listed a w := by
  intro fuel
  induction fuel with
  | zero =>
    intro listed a w hs hf hi
    have hr : Region.ready md ops listed = [] := by
      rcases hq : Region.ready md ops listed with _ | ⟨i, rest⟩
      · rfl
      · exfalso
        obtain ⟨o, ho⟩ := ready_spec hs (i := i) (by rw [hq]; simp)
        exact falses_zero (by omega) i ho.new
    exact ⟨hr, hend listed a w (ready_nil hs he hr) hi⟩
  | succ fuel ih =>
    intro listed a w hs hf hi
    refine ⟨fun hr => hend listed a w (ready_nil hs he hr) hi, fun i hm => ?_⟩
    obtain ⟨o, ho⟩ := ready_spec hs hm
    have hK := hstep listed a w hs hi i o ho (wpAnyIn F n P md ops Q fuel (listed.setIfInBounds i true)) (fun a' w' h => ih _ a' w' (by simp [hs]) (by have := falses_set ho.new; omega) h)
    unfold wpOpIn
    rw [ho.op]
    simp only
    exact hK

/-- A region that draws its order, by an invariant. -/
theorem wpIn_region_inv {id : Nat} {a : Act} {w : World} (hm : P.follows .mixedOrders = true) (I : Array Bool → Act → World → Prop) (he : earlier ops = true)
    (h0 : I (Array.replicate ops.size false) a w.drew)
    (hstep : ∀ (listed : Array Bool) (a : Act) (w : World), listed.size = ops.size → I listed a w → ∀ (i : Nat) (o : Oper), MayCome .any ops listed i o → ∀ K : Act → World → Prop, (∀ a' w', I (listed.setIfInBounds i true) a' w' → K a' w') →
      if Region.wanted o (yielded ops a.tmps) = true then Oper.wpIn F n P o a w K Q else (∀ f, o.about P w a.eval = some f → F.fn f) ∧ K (a.put o.dst undef) w)
    (hend : ∀ (listed : Array Bool) (a : Act) (w : World), (∀ i, i < ops.size → listed[i]? = some true) → I listed a w → Q .normal a w) :
    (Code.region id ops true).wpIn F n P Q a w :=
  wpIn_region_any hm (wpAnyIn_inv I he hstep hend ops.size _ a _ (by simp) (by unfold falses; refine Nat.le_trans List.countP_le_length ?_; simp) h0)

end Go.Proofs.YtpbmlppdmdmfkaaGreatDoor

namespace Go.Proofs.YtpbmlppdmdmfkaaGreatDoor
open Go.RowKit

section
variable {P : Program} {ops : Array Oper} {Q : Exit → Act → World → Prop}

theorem wpAny_invR {md : Region.Mode} (I : Array Bool → Act → World → Prop) (he : earlier ops = true)
    (hstep : ∀ (listed : Array Bool) (a : Act) (w : World), listed.size = ops.size → I listed a w → ∀ (i : Nat) (o : Oper), MayCome md ops listed i o → ∀ K : Act → World → Prop, (∀ a' w', I (listed.setIfInBounds i true) a' w' → K a' w') →
      if Region.wanted o (yielded ops a.tmps) = true then Oper.wp P o a w K Q else K (a.put o.dst undef) w)
    (hend : ∀ (listed : Array Bool) (a : Act) (w : World), (∀ i, i < ops.size → listed[i]? = some true) → I listed a w → Q .normal a w) :
    ∀ (fuel : Nat) (listed : Array Bool) (a : Act) (w : World), listed.size = ops.size → falses listed ≤ fuel → I listed a w → wpAny P md ops Q fuel listed a w := by
  intro fuel
  induction fuel with
  | zero =>
    intro listed a w hs hf hi
    have hr : Region.ready md ops listed = [] := by
      rcases hq : Region.ready md ops listed with _ | ⟨i, rest⟩
      · rfl
      · exfalso
        obtain ⟨o, ho⟩ := ready_spec hs (i := i) (by rw [hq]; simp)
        exact falses_zero (by omega) i ho.new
    exact ⟨hr, hend listed a w (ready_nil hs he hr) hi⟩
  | succ fuel ih =>
    intro listed a w hs hf hi
    refine ⟨fun hr => hend listed a w (ready_nil hs he hr) hi, fun i hm => ?_⟩
    obtain ⟨o, ho⟩ := ready_spec hs hm
    have hK := hstep listed a w hs hi i o ho (wpAny P md ops Q fuel (listed.setIfInBounds i true)) (fun a' w' h => ih _ a' w' (by simp [hs]) (by have := falses_set ho.new; omega) h)
    unfold wpOp
    rw [ho.op]
    simp only
    split
    · rename_i hw
      rw [if_pos hw] at hK
      exact .inl hK
    · rename_i hw
      rw [if_neg hw] at hK
      exact hK

/-- The last operation waits for all others. -/
def lastWaits (ops : Array Oper) (n : Nat) : Bool := (List.range n).all fun i => (ops[n]?.map fun o => o.after.any fun e => e.on == i && Region.binds .any e).getD false

/-- A region that draws its order, by an invariant, its last operation by itself. -/
theorem wp_region_inv {id n : Nat} {a : Act} {w : World} (hm : P.follows .mixedOrders = true) (hn : ops.size = n + 1) (he : earlier ops = true) (hlw : lastWaits ops n = true) (I : Act → Array Bool → Act → World → Prop)
    (h0 : I a (Array.replicate (n + 1) false) a w.drew)
    (hstep : ∀ (ls : Array Bool) (a' : Act) (w' : World), ls.size = n + 1 → ls[n]? = some false → I a ls a' w' → ∀ (i : Nat) (o : Oper), i < n → MayCome .any ops ls i o → ∀ K : Act → World → Prop, (∀ a'' w'', I a (ls.setIfInBounds i true) a'' w'' → K a'' w'') →
      if Region.wanted o (yielded ops a'.tmps) = true then Oper.wp P o a' w' K Q else K (a'.put o.dst undef) w')
    (hlast : ∀ (ls : Array Bool) (a' : Act) (w' : World), (∀ i, i < n → ls[i]? = some true) → I a ls a' w' → ∀ o, ops[n]? = some o →
      if Region.wanted o (yielded ops a'.tmps) = true then Oper.wp P o a' w' (fun a'' w'' => Q .normal a'' w'') Q else Q .normal (a'.put o.dst undef) w') :
    (Code.region id ops true).wp P Q a w := by
  refine wp_region_any hm (wpAny_invR (fun ls a' w' => (ls[n]? = some false ∧ I a ls a' w') ∨ (ls[n]? = some true ∧ (∀ i, i < n → ls[i]? = some true) ∧ Q .normal a' w')) he ?_ ?_ ops.size _ a _ (by simp) (by unfold falses; refine Nat.le_trans List.countP_le_length ?_; simp) (.inl ⟨by simp [hn], by rw [hn]; exact h0⟩))
  · intro ls a' w' hs hI i o mc K hK
    rcases hI with ⟨hf, hI⟩ | ⟨ht, hal, hQ⟩
    · by_cases hi : i = n
      · subst hi
        have hall : ∀ j, j < i → ls[j]? = some true := fun j hj => by
          unfold lastWaits at hlw
          rw [List.all_eq_true] at hlw
          have h1 := hlw j (List.mem_range.2 hj)
          rw [mc.op] at h1
          simp only [Option.map_some, Option.getD_some, Array.any_eq_true'] at h1
          obtain ⟨e, he1, he2⟩ := h1
          rw [Bool.and_eq_true] at he2
          have h3 := mc.after e he1 he2.2
          have h4 : e.on = j := by simpa using he2.1
          rw [h4] at h3; exact h3
        have h := hlast ls a' w' hall hI o mc.op
        have hset : (ls.setIfInBounds i true)[i]? = some true := by
          rw [Array.getElem?_setIfInBounds]; simp [hs, hn]
        have hall2 : ∀ j, j < i → (ls.setIfInBounds i true)[j]? = some true := fun j hj => by
          rw [Array.getElem?_setIfInBounds, if_neg (by omega)]; exact hall j hj
        split
        · rename_i hw
          rw [if_pos hw] at h
          exact Oper.wp_mono (fun a2 w2 h2 => hK a2 w2 (.inr ⟨hset, hall2, h2⟩)) h
        · rename_i hw
          rw [if_neg hw] at h
          exact hK _ _ (.inr ⟨hset, hall2, h⟩)
      · have hlt : i < n := by
          have := (Array.getElem?_eq_some_iff.1 mc.op).1
          omega
        have h := hstep ls a' w' (by rw [hs, hn]) hf hI i o hlt mc K (fun a2 w2 h2 => hK a2 w2 (.inl ⟨by rw [Array.getElem?_setIfInBounds]; simp [hi]; exact hf, h2⟩))
        exact h
    · exfalso
      by_cases hi : i = n
      · subst hi; rw [mc.new] at ht; cases ht
      · have hlt : i < n := by
          have := (Array.getElem?_eq_some_iff.1 mc.op).1
          omega
        have := hal i hlt
        rw [mc.new] at this; cases this
  · intro ls a' w' hall hI
    rcases hI with ⟨hf, -⟩ | ⟨-, -, hQ⟩
    · have := hall n (by omega)
      rw [hf] at this; cases this
    · exact hQ
end

/-- Values laid into slots. -/
def putAll (a : Act) : List (Tmp × Value) → Act
  | [] => a
  | (d, v) :: l => putAll (a.put (some d) v) l

/-- Operation k, if it has come, has put v, and what it waits for has come. -/
def Vd (ls : Array Bool) (k : Nat) (D : List Nat) (x v : Value) : Prop := ls[k]? = some true → (∀ d ∈ D, ls[d]? = some true) ∧ x = v
theorem ls_set {ls : Array Bool} {i j : Nat} (h : i ≠ j) : (ls.setIfInBounds i true)[j]? = ls[j]? := by
  rw [Array.getElem?_setIfInBounds, if_neg h]
theorem ls_got {ls : Array Bool} {i : Nat} (h : i < ls.size) : (ls.setIfInBounds i true)[i]? = some true := by
  rw [Array.getElem?_setIfInBounds, if_pos rfl, if_pos h]
theorem ls_keep {ls : Array Bool} {i j : Nat} (h : ls[j]? = some true) : (ls.setIfInBounds i true)[j]? = some true := by
  by_cases e : i = j
  · subst e; exact ls_got (Array.getElem?_eq_some_iff.1 h).1
  · rw [ls_set e]; exact h
theorem Vd.start {n k : Nat} {D : List Nat} {x v : Value} : Vd (Array.replicate n false) k D x v := fun h => by
  rw [Array.getElem?_replicate] at h; split at h <;> simp at h
theorem Vd.set {ls : Array Bool} {i k : Nat} {D : List Nat} {x v : Value} (h : Vd ls k D x v) (hik : i ≠ k) : Vd (ls.setIfInBounds i true) k D x v := fun e => by
  rw [ls_set hik] at e
  exact ⟨fun d hd => ls_keep ((h e).1 d hd), (h e).2⟩
theorem Vd.same {ls : Array Bool} {k : Nat} {D : List Nat} {v : Value} (hD : ∀ d ∈ D, ls[d]? = some true) : Vd (ls.setIfInBounds k true) k D v v := fun _ => ⟨fun d hd => ls_keep (hD d hd), rfl⟩
theorem Vd.void {ls : Array Bool} {i k : Nat} {D : List Nat} {x v v' : Value} (h : Vd ls k D x v) (hd : i ∈ D) (hik : i ≠ k) (hn : ls[i]? = some false) : Vd (ls.setIfInBounds i true) k D x v' := fun e => by
  rw [ls_set hik] at e
  have := (h e).1 i hd
  rw [hn] at this; cases this
theorem Vd.get {ls : Array Bool} {k : Nat} {D : List Nat} {x v : Value} (h : Vd ls k D x v) (e : ls[k]? = some true) : x = v := (h e).2

/-- Whether operation k has come. -/
def fl (ls : Array Bool) (k : Nat) : Bool := ls[k]? == some true
theorem fl_start {n k : Nat} : fl (Array.replicate n false) k = false := by
  unfold fl; rw [Array.getElem?_replicate]; split <;> simp
theorem fl_set {ls : Array Bool} {i k : Nat} (h : i ≠ k) : fl (ls.setIfInBounds i true) k = fl ls k := by unfold fl; rw [ls_set h]
theorem fl_got {ls : Array Bool} {n k : Nat} (hs : ls.size = n + 1) (h : k < n) : fl (ls.setIfInBounds k true) k = true := by unfold fl; rw [ls_got (by omega)]; rfl
theorem fl_no {ls : Array Bool} {k : Nat} (h : ls[k]? = some false) : fl ls k = false := by unfold fl; rw [h]; rfl
theorem fl_yes {ls : Array Bool} {k : Nat} (h : ls[k]? = some true) : fl ls k = true := by unfold fl; rw [h]; rfl

end Go.Proofs.YtpbmlppdmdmfkaaGreatDoor
