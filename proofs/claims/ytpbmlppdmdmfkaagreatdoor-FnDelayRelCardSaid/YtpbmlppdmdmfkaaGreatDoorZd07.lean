/-
  The program's relation of conflicts. Condition: bounds on lengths.
-/
import Derived.Test.YtpbmlppdmdmfkaaGreatDoorZd05
import Derived.Test.YtpbmlppdmdmfkaaGreatDoorZd06
import Derived.Deep.RegionHeld3
import Derived.Deep.DeepCutAuto
import Derived.Test.YtpbmlppdmdmfkaaGreatDoorZd01
import Derived.Test.YtpbmlppdmdmfkaaGreatDoorZd02
import Derived.Test.YtpbmlppdmdmfkaaGreatDoorZd04
namespace Go.Proofs.YtpbmlppdmdmfkaaGreatDoor
open Go.RowKit

theorem ev_read {p : List (List Ins)} {k : Nat} {e : Ev} (h : (evAll p)[k]? = some e) (hr : e.r = true) : ∃ (t i : Nat) (r : List Ins), e.t = t ∧ e.i = i ∧ p[t]? = some r ∧ r[i]? = some (insE p e) := by
  rcases ev_cases h with h1 | ⟨t, i, r, h1, h2, h3, h4, -⟩
  · exfalso
    have h2 := List.mem_of_getElem? h
    unfold evAll at h2
    rcases List.mem_append.1 h2 with h3 | h3
    · simp [evHead] at h3
      obtain ⟨l, -, rfl⟩ := h3
      cases hr
    · unfold evTo at h3
      rw [List.mem_flatMap] at h3
      obtain ⟨t, ht, h3⟩ := h3
      cases hp : p[t]? with
      | none => rw [hp] at h3; simp at h3
      | some r =>
        rw [hp] at h3
        simp only [evRow, List.mem_flatMap, List.mem_range] at h3
        obtain ⟨i, hi, h3⟩ := h3
        obtain ⟨x, hx⟩ := get_of_lt (xs := r) (k := i) hi
        rw [hx] at h3
        obtain ⟨rfl, -⟩ := mem_evOf h3
        simp at h1
  · exact ⟨t, i, r, h1, h2, h3, h4⟩

/-- What the valuer has in memory. -/
structure VS (w : World) (pb : Nat) (ps fs os es vs bs : Slc) : Prop where
  blk : w.heap[pb]? = some (.cells #[.slice ps.a ps.n ps.cap, .slice fs.a fs.n fs.cap, .slice os.a os.n os.cap, .slice es.a es.n es.cap, .slice vs.a vs.n vs.cap, .slice bs.a bs.n bs.cap] 227 (0, 0))
theorem VS.below {w w' : World} {pb : Nat} {ps fs os es vs bs : Slc} (h : VS w pb ps fs os es vs bs) (hb : Below w.heap.size w w') : VS w' pb ps fs os es vs bs := ⟨(hb.block pb (Array.getElem?_eq_some_iff.1 h.blk).1).trans h.blk⟩
theorem cell_of_heapV {w : World} {b k : Nat} {cur : Array Value} {t : TypeId} {v : Value} (h : w.heap[b]? = some (.cells cur t (0, 0))) (hk : cur[k]? = some v) : w.cell? ⟨b, k, none⟩ = some v := by
  simp [World.cell?, h, hk]
theorem frozen_of_heapV {w : World} {b : Nat} {cur : Array Value} {t : TypeId} (h : w.heap[b]? = some (.cells cur t (0, 0))) (j : Nat) : w.frozen? ⟨b, j, none⟩ = false := by
  simp [World.frozen?, h]

set_option maxRecDepth 100000 in
set_option maxHeartbeats 3200000 in
theorem lastRead_any (pb : Nat) (ps fs os ess vs bs : Slc) (p : List (List Ins)) (es : List Ev) (hes : es = evAll p) (t idx reg : Int) (w : World) (hv : VS w pb ps fs os ess vs bs) (hp : RepP w ps.v p) (he : Rep EvE w ess.v es) (hl : es.length ≤ 1048676) :
    Calls Tryz.prog 285 #[.pointer (some ⟨pb, 0, none⟩), .int .i64 t, .int .i64 idx, .int .i64 reg] w fun e w' => e = .returned (.int .i64 (lastRd p es t idx reg)) ∧ Below w.heap.size w w' := by
  obtain ⟨pa, pn, pc⟩ := ps
  obtain ⟨ea, en, ec⟩ := ess
  obtain ⟨ea', ec', heq, -, -, -, he'⟩ := he.open
  simp only [Value.slice.injEq] at heq
  obtain ⟨rfl, rfl, rfl⟩ := heq
  obtain ⟨pa', pc', heq, -, -, -, hp'⟩ := hp.open
  simp only [Value.slice.injEq] at heq
  obtain ⟨rfl, rfl, rfl⟩ := heq
  have HVS := hide hv; have HP := hide hp'; have HE := hide he'
  have HER := hide (fun k e h hr => ev_read (p := p) (k := k) (e := e) (hes ▸ h) hr)
  have HR : Hid (lastRd p es t idx reg = lastTo p es t idx reg es.length) := hide rfl
  have HS := hide (fun k e h => lastTo_succ p (es := es) t idx reg (k := k) (e := e) h)
  have H0 : Hid (lastTo p es t idx reg 0 = -1) := hide rfl
  have b3 := cell_of_heapV hv.blk (k := 3) rfl
  have bl := lt_of_cell b3
  clear hes hp he hp' he' hv
  generalize lastRd p es t idx reg = R at *
  generalize hn : es.length = n at *
  have H := hide hn; clear hn
  go_enter Tryz.func285, Tryz.ntmps285
  go_wp2_with fail
  clear b3
  go_loopw [9, 17] (fun l i wr => ∃ k : Nat, k ≤ n ∧ i = .int .i64 k ∧ l = .int .i64 (lastTo p es t idx reg k) ∧ Below w.heap.size w wr) (fun _ i _ => n - (intOf i).toNat)
  case atStart => exact ⟨0, Nat.zero_le _, rfl, by rw [H0.out], Below.refl _ _⟩
  case round =>
    obtain ⟨k, hk, rfl, rfl, hb⟩ := hrel
    by_cases hlt : k < n
    · obtain ⟨e, hek⟩ := get_of_lt (xs := es) (k := k) (by rw [H.out]; exact hlt)
      obtain ⟨b, o, rfl, hbl, i0, i1, i2, i3, i4⟩ := (HE.out.below hb).ev hek
      have hlt' := nat_of_lt hlt
      have S := hide (HS.out k e hek)
      have ER := hide (fun hr => HER.out k e hek hr)
      have HH : Hid (hitR p t idx reg e = ((e.t == t) && (decide (e.i < idx) && (e.r && ((insE p e).reg == reg))))) := hide rfl
      have HBA := hide (hb.alloc hb.size (.cells #[.int .i64 e.t, .int .i64 e.i, .int .i64 e.l, .bool e.r, .bool e.w] 147))
      clear hek
      generalize lastTo p es t idx reg k = G at *
      by_cases g1 : e.t = t
      · have k1 : (e.t == t) = true := by simp [g1]
        by_cases g2 : e.i < idx
        · have k2 : decide (e.i < idx) = true := by simp [g2]
          cases her : e.r
          · have S2 : Hid (lastTo p es t idx reg (k + 1) = G) := hide (by rw [S.out, HH.out, her]; simp)
            rw [her] at i3 HBA
            subst g1
            clear g2 HH ER S her
            go_wp2_with fail
            refine wp_region_bw (by kernel_rfl) (by kernel_rfl) ?_
            repeat (go_big_quiet_step (fail))
            refine wpQuiet_nil ?_
            intro w1 hb1
            go_wp2_with fail
            go_roundw
            case rel => exact ⟨k + 1, by omega, by go_num, by rw [S2.out], HBA.out.trans (hb1.mono HBA.out.size)⟩
            case measure => simp [intOf]; omega
          · obtain ⟨t', i', r, ht, hi, hpt, hri⟩ := ER.out her
            obtain ⟨b2, o2, ra, rc, rfl, hbl2, q0, q1⟩ := (HP.out.below hb).row hpt
            obtain ⟨b3, o3, rfl, hbl3, r0, r1, r2, r3⟩ := q1.ins hri
            have htn : (t' : Int) < (p.length : Int) := by have := (List.getElem?_eq_some_iff.1 hpt).1; omega
            have hin : (i' : Int) < (r.length : Int) := by have := (List.getElem?_eq_some_iff.1 hri).1; omega
            have VB := HVS.out.below hb
            have c0 := cell_of_heapV VB.blk (k := 0) rfl
            have hbp := lt_of_cell c0
            have HG1 := hide g1; have HT := hide ht; have HI := hide hi
            have HRG : Hid ((insE p e).reg = (insE p e).reg) := hide rfl
            rw [her] at i3 HBA HH
            obtain ⟨et, ei, el, er, ew⟩ := e
            simp only at ht hi g1 k1 k2 g2 i0 i1 i2 i3 i4 her
            subst her
            subst ht
            subst hi
            subst g1
            generalize hins : insE p ⟨(t' : Int), (i' : Int), el, true, ew⟩ = ix at *
            clear hins hpt hri q1 ER VB HG1 HT HI HRG
            by_cases g3 : ix.reg = reg
            · have k3 : (ix.reg == reg) = true := by simp [g3]
              have S2 : Hid (lastTo p es (t' : Int) idx reg (k + 1) = (k : Int)) := hide (by rw [S.out, HH.out, k3, k2]; simp)
              clear g3 S HH k1
              go_wp2_with fail
              refine wp_region_bw (by kernel_rfl) (by kernel_rfl) ?_
              repeat (go_big_quiet_step (fail))
              refine wpQuiet_nil ?_
              intro w1 hb1
              go_wp2_with fail
              go_roundw
              case rel => exact ⟨k + 1, by omega, by go_num, by rw [S2.out], HBA.out.trans (hb1.mono HBA.out.size)⟩
              case measure => simp [intOf]; omega
            · have k3 : (ix.reg == reg) = false := by simp [g3]
              have S2 : Hid (lastTo p es (t' : Int) idx reg (k + 1) = G) := hide (by rw [S.out, HH.out, k3]; simp)
              clear g3 S HH k1
              go_wp2_with fail
              refine wp_region_bw (by kernel_rfl) (by kernel_rfl) ?_
              repeat (go_big_quiet_step (fail))
              refine wpQuiet_nil ?_
              intro w1 hb1
              go_wp2_with fail
              go_roundw
              case rel => exact ⟨k + 1, by omega, by go_num, by rw [S2.out], HBA.out.trans (hb1.mono HBA.out.size)⟩
              case measure => simp [intOf]; omega
        · have k2 : decide (e.i < idx) = false := by simp [g2]
          have S2 : Hid (lastTo p es t idx reg (k + 1) = G) := hide (by rw [S.out, HH.out, k2]; simp)
          subst g1
          clear g2 HH ER S
          go_wp2_with fail
          refine wp_region_bw (by kernel_rfl) (by kernel_rfl) ?_
          repeat (go_big_quiet_step (fail))
          refine wpQuiet_nil ?_
          intro w1 hb1
          go_wp2_with fail
          go_roundw
          case rel => exact ⟨k + 1, by omega, by go_num, by rw [S2.out], HBA.out.trans (hb1.mono HBA.out.size)⟩
          case measure => simp [intOf]; omega
      · have k1 : (e.t == t) = false := by simp [g1]
        have S2 : Hid (lastTo p es t idx reg (k + 1) = G) := hide (by rw [S.out, HH.out, k1]; simp)
        clear g1
        generalize hitR p t idx reg e = hh at *
        clear HH S ER
        go_wp2_with fail
        refine wp_region_bw (by kernel_rfl) (by kernel_rfl) ?_
        repeat (go_big_quiet_step (fail))
        refine wpQuiet_nil ?_
        intro w1 hb1
        go_wp2_with fail
        go_roundw
        case rel => exact ⟨k + 1, by omega, by go_num, by rw [S2.out], HBA.out.trans (hb1.mono HBA.out.size)⟩
        case measure => simp [intOf]; omega
    · have e : k = n := by omega
      subst e
      go_wp2_with fail
      go_ret
      exact ⟨by rw [HR.out]; rfl, hb⟩

end Go.Proofs.YtpbmlppdmdmfkaaGreatDoor

namespace Go.Proofs.YtpbmlppdmdmfkaaGreatDoor
open Go.RowKit

theorem dep_t0 {p : List (List Ins)} {es : List Ev} {fr : List Int} {i : Nat} {e : Ev} (h : es[i]? = some e) (ht : e.t < 0) : depV p es fr i = .inl 0 := by
  unfold depV; rw [h]; simp only; rw [if_pos ht]
theorem dep_op {p : List (List Ins)} {es : List Ev} {fr : List Int} {i : Nat} {e : Ev} (h : es[i]? = some e) (ht : ¬ e.t < 0) (ho : (insE p e).op ≠ 3) : depV p es fr i = .inl (insE p e).val := by
  unfold depV; rw [h]; simp only; rw [if_neg ht, if_neg ho]
theorem dep_r0 {p : List (List Ins)} {es : List Ev} {fr : List Int} {i : Nat} {e : Ev} (h : es[i]? = some e) (ht : ¬ e.t < 0) (ho : (insE p e).op = 3) (hr : lastRd p es e.t e.i (insE p e).reg < 0) : depV p es fr i = .inl 0 := by
  unfold depV; rw [h]; simp only; rw [if_neg ht, if_pos ho, if_pos hr]
theorem dep_rr {p : List (List Ins)} {es : List Ev} {fr : List Int} {i : Nat} {e : Ev} (h : es[i]? = some e) (ht : ¬ e.t < 0) (ho : (insE p e).op = 3) {r j : Nat} (hr : lastRd p es e.t e.i (insE p e).reg = (r : Int)) (hj : fr[r]? = some (j : Int)) : depV p es fr i = .inr j := by
  unfold depV; rw [h]; simp only; rw [if_neg ht, if_pos ho, if_neg (by omega), hr]
  simp [hj]
theorem lastRd_cases (p : List (List Ins)) (es : List Ev) (t idx reg : Int) : lastRd p es t idx reg = -1 ∨ ∃ (r : Nat) (e : Ev), lastRd p es t idx reg = r ∧ es[r]? = some e ∧ e.r = true := by
  rcases lastTo_cases p es t idx reg es.length (Nat.le_refl _) with h | ⟨i, e, h1, -, h2, h3⟩
  · exact .inl h
  · refine .inr ⟨i, e, h1, h2, ?_⟩
    unfold hitR at h3; simp at h3; exact h3.2.2.1

/-- Truth values. -/
def BoolE : El Bool := ⟨1, by decide, fun x => [.bool x], fun _ => rfl, fun x u h => by simp at h; subst h; rfl⟩
theorem Own.boolc {T : TypeId} {w : World} {base g n cap : Nat} {xs : List Bool} (h : Own BoolE T w base (.slice (some ⟨g, 0, none⟩) n cap) xs) {k : Nat} {x : Bool} (hx : xs[k]? = some x) :
    g < w.heap.size ∧ w.cell? ⟨g, k, none⟩ = some (.bool x) ∧ ∀ j, w.frozen? ⟨g, j, none⟩ = false := by
  have := h.cell hx (j := 0) rfl
  simp only [BoolE, Nat.mul_one, Nat.add_zero] at this
  exact ⟨(World.ownsRow.lt h g rfl).2, this, fun j => h.frozen j⟩
theorem Own.setBool {T : TypeId} {w : World} {base g n cap : Nat} {xs : List Bool} (h : Own BoolE T w base (.slice (some ⟨g, 0, none⟩) n cap) xs) {k : Nat} {z : Bool} (hz : xs[k]? = some z) (x : Bool) :
    Own BoolE T (w.setCell ⟨g, k, none⟩ (.bool x)) base (.slice (some ⟨g, 0, none⟩) n cap) (xs.set k x) := by
  have h0 := h.set (i := k) (j := 0) x (u := .bool x) (by decide) hz rfl
  simp only [BoolE, Nat.mul_one, Nat.add_zero] at h0
  exact h0
theorem count_set {bz : List Bool} {i : Nat} (h : bz[i]? = some false) : (bz.set i true).countP (fun b => !b) + 1 = bz.countP (fun b => !b) := by
  induction bz generalizing i with
  | nil => simp at h
  | cons b bz ih =>
    cases i with
    | zero => simp at h; subst h; simp
    | succ i =>
      simp at h
      have := ih h
      simp only [List.set_cons_succ, List.countP_cons]
      omega
theorem set_back {bz : List Bool} {i : Nat} (h : bz[i]? = some false) : (bz.set i true).set i false = bz := by
  rw [List.set_set]
  apply List.ext_getElem?
  intro k
  rw [List.getElem?_set]
  split
  · rename_i hk
    subst hk
    rw [h, if_pos (List.getElem?_eq_some_iff.1 h).1]
  · rfl

theorem Own.sameV {α : Type} {E : El α} {T : TypeId} {w w' : World} {base : Nat} {v : Value} {xs : List α} (h : Own E T w base v xs) (hB : ∀ k, v.ownBlock = some k → w'.heap[k]? = w.heap[k]?) : Own E T w' base v xs := by
  refine ⟨h.1, ?_⟩
  rcases h.2 with hn | ⟨g, cap, cur, rfl, hb1, hgg, rest⟩
  · exact .inl hn
  · exact .inr ⟨g, cap, cur, rfl, hb1, (hB g rfl).trans hgg, rest⟩
theorem own_or {α β : Type} {E : El α} {F : El β} {T U : TypeId} (hT : T ≠ U) {w : World} {base base' : Nat} {v u : Value} {xs : List α} {ys : List β} (h : Own E T w base v xs) (k : Own F U w base' u ys) : u.ownBlock = none ∨ u.ownBlock ≠ v.ownBlock := by
  rcases hq : u.ownBlock with _ | q
  · exact .inl rfl
  · exact .inr fun e => own_ne hT h k q hq e.symm

end Go.Proofs.YtpbmlppdmdmfkaaGreatDoor

namespace Go.Proofs.YtpbmlppdmdmfkaaGreatDoor

def fromC (es : List Ev) (i : Nat) : List Int := match es[i]? with
  | some e => if e.r = true then wrL es e.l else [-1]
  | none => []
def pre1 (i : Nat) (rest : List (List Int)) (k : Int) : List (List Int) := if k = (i : Int) then [] else rest.map (k :: ·)
def fromsD (es : List Ev) : Nat → Nat → List (List Int)
  | 0, _ => [[]]
  | n + 1, i => (fromC es i).flatMap (pre1 i (fromsD es n (i + 1)))
/-- All ways in which events can read, from an event on. -/
def fromsL (es : List Ev) (i : Nat) : List (List Int) := fromsD es (es.length - i) i
def permsD : Nat → List Int → List (List Int)
  | 0, _ => [[]]
  | n + 1, xs => (List.range xs.length).flatMap fun i => (permsD n (xs.eraseIdx i)).map (xs.getD i 0 :: ·)
def permsL (xs : List Int) : List (List Int) := permsD xs.length xs
def ordsD (es : List Ev) : Nat → Nat → List (List (List Int))
  | 0, _ => [[]]
  | n + 1, l => (permsL (wrL es l).tail).flatMap fun q => (ordsD es n (l + 1)).map (((wrL es l).headD 0 :: q) :: ·)
/-- All orders of the writes of all locations, from a location on. -/
def ordsL (es : List Ev) (l : Nat) : List (List (List Int)) := ordsD es (3 - l) l
def allTo (fs : List (List Int)) (os : List (List (List Int))) (k : Nat) : List Xc := (fs.take k).flatMap fun f => os.map (⟨f, ·⟩)
def allX (es : List Ev) : List Xc := (fromsL es 0).flatMap fun f => (ordsL es 0).map (⟨f, ·⟩)

theorem fromsL_end (es : List Ev) : fromsL es es.length = [[]] := by unfold fromsL; rw [Nat.sub_self]; rfl
theorem fromsL_step {es : List Ev} {i : Nat} (h : i < es.length) : fromsL es i = (fromC es i).flatMap (pre1 i (fromsL es (i + 1))) := by
  unfold fromsL
  rw [show es.length - i = (es.length - (i + 1)) + 1 by omega]
  rfl
theorem permsL_nil : permsL [] = [[]] := rfl
theorem permsL_step {xs : List Int} (h : 0 < xs.length) : permsL xs = (List.range xs.length).flatMap fun i => (permsL (xs.eraseIdx i)).map (xs.getD i 0 :: ·) := by
  unfold permsL
  obtain ⟨n, hn⟩ : ∃ n, xs.length = n + 1 := ⟨xs.length - 1, by omega⟩
  rw [hn]
  show (List.range xs.length).flatMap _ = _
  rw [hn]
  unfold List.flatMap
  congr 1
  apply List.map_congr_left
  intro i hi
  rw [List.mem_range] at hi
  rw [List.length_eraseIdx, if_pos (by omega), hn]; rfl
theorem ordsL_end (es : List Ev) : ordsL es 3 = [[]] := rfl
theorem ordsL_step {es : List Ev} {l : Nat} (h : l < 3) : ordsL es l = (permsL (wrL es l).tail).flatMap fun q => (ordsL es (l + 1)).map (((wrL es l).headD 0 :: q) :: ·) := by
  unfold ordsL
  rw [show 3 - l = (3 - (l + 1)) + 1 by omega]
  rfl

theorem flatMap_take_succ {α β : Type} (f : α → List β) {xs : List α} {k : Nat} {x : α} (h : xs[k]? = some x) : (xs.take (k + 1)).flatMap f = (xs.take k).flatMap f ++ f x := by
  rw [List.take_add_one, h, List.flatMap_append]; simp
theorem map_take_succ {α β : Type} (f : α → β) {xs : List α} {k : Nat} {x : α} (h : xs[k]? = some x) : (xs.take (k + 1)).map f = (xs.take k).map f ++ [f x] := by
  rw [List.take_add_one, h, List.map_append]; rfl
theorem flatMap_length_le {α β : Type} (f : α → List β) (b : Nat) (xs : List α) (h : ∀ x ∈ xs, (f x).length ≤ b) : (xs.flatMap f).length ≤ xs.length * b := by
  induction xs with
  | nil => simp
  | cons x xs ih =>
    rw [List.flatMap_cons, List.length_append, List.length_cons, Nat.succ_mul]
    have h1 := h x (by simp)
    have h2 := ih (fun y hy => h y (by simp [hy]))
    omega
theorem flatMap_take_le {α β : Type} (f : α → List β) (xs : List α) (k : Nat) : ((xs.take k).flatMap f).length ≤ (xs.flatMap f).length := by
  have h : xs.flatMap f = (xs.take k).flatMap f ++ (xs.drop k).flatMap f := by rw [← List.flatMap_append, List.take_append_drop]
  rw [h, List.length_append]; omega

theorem permsD_length : ∀ (n : Nat) (xs : List Int), xs.length = n → (permsD n xs).length ≤ fact n := by
  intro n
  induction n with
  | zero => intro xs _; simp [permsD, fact]
  | succ n ih =>
    intro xs hx
    unfold permsD
    have h := flatMap_length_le (fun i => (permsD n (xs.eraseIdx i)).map (xs.getD i 0 :: ·)) (fact n) (List.range xs.length) (fun i hi => by
      rw [List.mem_range] at hi
      rw [List.length_map]
      exact ih _ (by rw [List.length_eraseIdx, if_pos hi, hx]; rfl))
    rw [List.length_range, hx] at h
    rw [fact, Nat.mul_comm]; rw [hx]; exact h
theorem permsL_length (xs : List Int) : (permsL xs).length ≤ fact xs.length := permsD_length _ xs rfl

def facE (es : List Ev) (e : Ev) : Nat := if e.r = true then (wrL es e.l).length else 1
def prodL (f : Ev → Nat) : List Ev → Nat
  | [] => 1
  | e :: es => f e * prodL f es
theorem fromsL_length {es : List Ev} : ∀ (n i : Nat), i + n = es.length → (fromsL es i).length ≤ prodL (facE es) (es.drop i) := by
  intro n
  induction n with
  | zero =>
    intro i hi
    obtain rfl : i = es.length := by omega
    rw [fromsL_end, List.drop_length]; exact Nat.le_refl _
  | succ n ih =>
    intro i hi
    obtain ⟨e, he⟩ := get_of_lt (xs := es) (k := i) (by omega)
    obtain ⟨hlt, hee⟩ := List.getElem?_eq_some_iff.1 he
    rw [fromsL_step hlt, List.drop_eq_getElem_cons hlt, hee, prodL]
    have h1 : (fromC es i).length = facE es e := by
      unfold fromC facE; rw [he]; simp only
      split <;> rfl
    have h2 := flatMap_length_le (pre1 i (fromsL es (i + 1))) (prodL (facE es) (es.drop (i + 1))) (fromC es i) (fun k _ => by
      unfold pre1
      split
      · simp
      · rw [List.length_map]; exact ih (i + 1) (by omega))
    rw [h1] at h2; exact h2

theorem facE_pos {es : List Ev} (h : ∀ e ∈ es, e.r = true → 1 ≤ (wrL es e.l).length) : ∀ e ∈ es, 1 ≤ facE es e := by
  intro e he
  unfold facE
  split
  · exact h e he (by assumption)
  · exact Nat.le_refl _
theorem prodL_pos {f : Ev → Nat} : ∀ {es : List Ev}, (∀ e ∈ es, 1 ≤ f e) → 1 ≤ prodL f es := by
  intro es
  induction es with
  | nil => intro _; exact Nat.le_refl _
  | cons e es ih => intro h; exact Nat.mul_pos (h e (by simp)) (ih (fun x hx => h x (by simp [hx])))
theorem prodL_drop {f : Ev → Nat} : ∀ {es : List Ev}, (∀ e ∈ es, 1 ≤ f e) → ∀ i, prodL f (es.drop i) ≤ prodL f es := by
  intro es
  induction es with
  | nil => intro _ i; simp
  | cons e es ih =>
    intro h i
    cases i with
    | zero => exact Nat.le_refl _
    | succ i =>
      have h1 := ih (fun x hx => h x (by simp [hx])) i
      have h2 := h e (by simp)
      simp only [List.drop_succ_cons, prodL]
      exact Nat.le_trans h1 (Nat.le_mul_of_pos_left _ h2)

def rAt (l : Int) (e : Ev) : Bool := e.r && (e.l == l)
def wAt (l : Int) (e : Ev) : Bool := e.w && (e.l == l)
theorem prodL_eq (c : Int → Nat) : ∀ (es : List Ev), (∀ e ∈ es, e.r = true → e.l = 0 ∨ e.l = 1 ∨ e.l = 2) → prodL (fun e => if e.r = true then c e.l else 1) es = c 0 ^ es.countP (rAt 0) * c 1 ^ es.countP (rAt 1) * c 2 ^ es.countP (rAt 2) := by
  intro es
  induction es with
  | nil => intro _; simp [prodL]
  | cons e es ih =>
    intro h
    have h1 := ih (fun x hx => h x (by simp [hx]))
    rw [prodL, h1]
    cases hr : e.r with
    | false =>
      simp [rAt, hr]
    | true =>
      rcases h e (by simp) hr with hl | hl | hl <;> simp [rAt, hr, hl, Nat.pow_succ] <;> ac_rfl

theorem wrTo_count (es : List Ev) (l : Int) : ∀ k, k ≤ es.length → (wrTo es l k).length = (es.take k).countP (wAt l) := by
  intro k
  induction k with
  | zero => intro _; simp [wrTo]
  | succ k ih =>
    intro hk
    obtain ⟨e, he⟩ := get_of_lt (xs := es) (k := k) hk
    rw [wrTo_succ l he, List.length_append, ih (by omega), List.take_add_one, he, List.countP_append]
    unfold wr1 wAt
    cases hw : (e.w && e.l == l) <;> simp [hw]
theorem wrL_count (es : List Ev) (l : Int) : (wrL es l).length = es.countP (wAt l) := by
  unfold wrL
  rw [wrTo_count es l _ (Nat.le_refl _), List.take_length]

theorem evRow_count (G : Ev → Bool) (f : Ins → Bool) (hG : ∀ (t i : Nat) (x : Ins), (evOf t i x).countP G = if f x = true then 1 else 0) (t : Nat) (r : List Ins) : ∀ k, k ≤ r.length → (evRow t r k).countP G = (r.take k).countP f := by
  intro k
  induction k with
  | zero => intro _; simp [evRow]
  | succ k ih =>
    intro hk
    obtain ⟨x, hx⟩ := get_of_lt (xs := r) (k := k) hk
    rw [evRow_succ hx, List.countP_append, ih (by omega), List.take_add_one, hx, List.countP_append, hG]
    simp [List.countP_cons]
theorem evTo_count (G : Ev → Bool) (f : Ins → Bool) (hG : ∀ (t i : Nat) (x : Ins), (evOf t i x).countP G = if f x = true then 1 else 0) (p : List (List Ins)) : ∀ j, j ≤ p.length → (evTo p j).countP G = cnt f (p.take j) := by
  intro j
  induction j with
  | zero => intro _; simp [evTo, cnt]
  | succ j ih =>
    intro hj
    obtain ⟨r, hr⟩ := get_of_lt (xs := p) (k := j) hj
    have h := evRow_count G f hG j r r.length (Nat.le_refl _)
    rw [List.take_length] at h
    rw [evTo_succ hr, List.countP_append, ih (by omega), cnt_take_succ f hr, h]
theorem evOf_r (l : Int) (t i : Nat) (x : Ins) : (evOf t i x).countP (rAt l) = if fR l x = true then 1 else 0 := by
  unfold evOf fR
  by_cases h : x.op = 4
  · rw [if_pos h]; simp [isRop, h]
  · rw [if_neg h]; simp [List.countP_cons, rAt, Bool.and_comm]
theorem evOf_w (l : Int) (t i : Nat) (x : Ins) : (evOf t i x).countP (wAt l) = if fW l x = true then 1 else 0 := by
  unfold evOf fW
  by_cases h : x.op = 4
  · rw [if_pos h]; simp [isWop, h]
  · rw [if_neg h]; simp [List.countP_cons, wAt, Bool.and_comm]
theorem evAll_r (p : List (List Ins)) (l : Int) : (evAll p).countP (rAt l) = cnt (fR l) p := by
  unfold evAll
  rw [List.countP_append, evTo_count (rAt l) (fR l) (evOf_r l) p p.length (Nat.le_refl _), List.take_length]
  simp [evHead, List.range_succ, rAt]
theorem evAll_w (p : List (List Ins)) {l : Nat} (hl : l < 3) : (evAll p).countP (wAt l) = cnt (fW l) p + 1 := by
  unfold evAll
  rw [List.countP_append, evTo_count (wAt l) (fW l) (evOf_w l) p p.length (Nat.le_refl _), List.take_length]
  have : l = 0 ∨ l = 1 ∨ l = 2 := by omega
  rcases this with rfl | rfl | rfl <;> simp [evHead, List.range_succ, wAt, Nat.add_comm]

theorem ordsL_length (es : List Ev) (f : Nat → Nat) (hf : ∀ l : Nat, l < 3 → fact (wrL es l).tail.length ≤ f l) : (ordsL es 0).length ≤ f 0 * (f 1 * f 2) ∧ (ordsL es 1).length ≤ f 1 * f 2 ∧ (ordsL es 2).length ≤ f 2 ∧ ordsL es 3 = [[]] := by
  have st : ∀ l : Nat, l < 3 → ∀ b, (ordsL es (l + 1)).length ≤ b → (ordsL es l).length ≤ f l * b := fun l hl b hb => by
    rw [ordsL_step hl]
    have h := flatMap_length_le (fun q => (ordsL es (l + 1)).map (((wrL es l).headD 0 :: q) :: ·)) b (permsL (wrL es l).tail) (fun q _ => by rw [List.length_map]; exact hb)
    have h2 := Nat.le_trans (permsL_length (wrL es l).tail) (hf l hl)
    exact Nat.le_trans h (Nat.mul_le_mul_right _ h2)
  have h3 : (ordsL es 3).length ≤ 1 := Nat.le_refl _
  have h2 := st 2 (by omega) 1 h3
  rw [Nat.mul_one] at h2
  have h1 := st 1 (by omega) _ h2
  have h0 := st 0 (by omega) _ h1
  exact ⟨h0, h1, h2, rfl⟩
theorem allTo_succ {fs : List (List Int)} (os : List (List (List Int))) {k : Nat} {f : List Int} (h : fs[k]? = some f) : allTo fs os (k + 1) = allTo fs os k ++ os.map (⟨f, ·⟩) := by
  unfold allTo; exact flatMap_take_succ _ h

structure Few (p : List (List Ins)) : Prop where
  froms : ∀ i, (fromsL (evAll p) i).length ≤ 3000
  ords : ∀ l, (ordsL (evAll p) l).length ≤ 3000
  perms : ∀ l : Nat, l < 3 → fact (wrL (evAll p) l).tail.length ≤ 3000
  all : (fromsL (evAll p) 0).length * (ordsL (evAll p) 0).length ≤ 3000
theorem insValid_loc {x : Ins} (h : insValid x = true) : x.loc = 0 ∨ x.loc = 1 ∨ x.loc = 2 := by
  unfold insValid inB at h
  split at h
  · simp at h; omega
  · split at h
    · simp at h; omega
    · split at h
      · simp at h; omega
      · split at h
        · simp at h; omega
        · cases h
theorem few {p : List (List Ins)} (h : progValid p = true) : Few p := by
  have hv := valid_le h
  unfold progValid at h
  simp only [Bool.and_eq_true, decide_eq_true_eq] at h
  have hP := h.2
  have hloc : ∀ e ∈ evAll p, e.r = true → e.l = 0 ∨ e.l = 1 ∨ e.l = 2 := fun e he hr => by
    obtain ⟨k, hk⟩ := List.mem_iff_getElem?.1 he
    obtain ⟨t', i', r, h1, -⟩ := ev_read (p := p) hk hr
    rcases ev_cases hk with h2 | ⟨t2, i2, r2, -, -, h5, h6, -, -, h9⟩
    · omega
    · rw [h9]; exact insValid_loc ((hv.2.2.1 r2 (List.mem_of_getElem? h5)).2 _ (List.mem_of_getElem? h6))
  have hc : ∀ l : Nat, l < 3 → (wrL (evAll p) l).length = cnt (fW l) p + 1 := fun l hl => by rw [wrL_count, evAll_w p hl]
  have hpos : ∀ e ∈ evAll p, 1 ≤ facE (evAll p) e := facE_pos fun e he hr => by
    rcases hloc e he hr with hl | hl | hl
    · rw [hl]; have := hc 0 (by omega); simp at this; omega
    · rw [hl]; have := hc 1 (by omega); simp at this; omega
    · rw [hl]; have := hc 2 (by omega); simp at this; omega
  have hA := prodL_eq (fun l => (wrL (evAll p) l).length) (evAll p) hloc
  have hA2 : prodL (facE (evAll p)) (evAll p) = (cnt (fW (0 : Nat)) p + 1) ^ cnt (fR (0 : Nat)) p * (cnt (fW (1 : Nat)) p + 1) ^ cnt (fR (1 : Nat)) p * (cnt (fW (2 : Nat)) p + 1) ^ cnt (fR (2 : Nat)) p := by
    refine Eq.trans hA ?_
    rw [← hc 0 (by omega), ← hc 1 (by omega), ← hc 2 (by omega), ← evAll_r, ← evAll_r, ← evAll_r]
    rfl
  have ht : ∀ l : Nat, l < 3 → fact (wrL (evAll p) l).tail.length ≤ fact (cnt (fW l) p) := fun l hl => by
    rw [List.length_tail, hc l hl]; exact Nat.le_refl _
  have t0 := ht 0 (by omega); have t1 := ht 1 (by omega); have t2 := ht 2 (by omega)
  obtain ⟨o0, o1, o2, o3⟩ := ordsL_length (evAll p) (fun l => fact (cnt (fW l) p)) ht
  have hfr : ∀ i, (fromsL (evAll p) i).length ≤ prodL (facE (evAll p)) (evAll p) := fun i => by
    by_cases hi : i ≤ (evAll p).length
    · exact Nat.le_trans (fromsL_length ((evAll p).length - i) i (by omega)) (prodL_drop hpos i)
    · unfold fromsL
      rw [show (evAll p).length - i = 0 by omega]
      exact prodL_pos hpos
  generalize prodL (facE (evAll p)) (evAll p) = A at *
  have f0 := fact_pos (cnt (fW (0 : Nat)) p); have f1 := fact_pos (cnt (fW (1 : Nat)) p); have f2 := fact_pos (cnt (fW (2 : Nat)) p)
  have hA1 : 1 ≤ A := by rw [hA2]; exact Nat.mul_pos (Nat.mul_pos (Nat.pow_pos (by omega)) (Nat.pow_pos (by omega))) (Nat.pow_pos (by omega))
  have hPe : A * (fact (cnt (fW (0 : Nat)) p) * (fact (cnt (fW (1 : Nat)) p) * fact (cnt (fW (2 : Nat)) p))) ≤ 3000 := by
    refine Nat.le_trans (Nat.le_of_eq ?_) hP
    rw [hA2]
    simp only [prodP, prodTo, pl]
    simp only [Nat.one_mul]
    ac_rfl
  clear hA hA2 hP hpos hloc hv hc h ht
  generalize fact (cnt (fW (0 : Nat)) p) = F0 at *
  generalize fact (cnt (fW (1 : Nat)) p) = F1 at *
  generalize fact (cnt (fW (2 : Nat)) p) = F2 at *
  have h12 : F1 * F2 ≤ F0 * (F1 * F2) := Nat.le_mul_of_pos_left _ f0
  have h2 : F2 ≤ F1 * F2 := Nat.le_mul_of_pos_left _ f1
  have h1 : F1 ≤ F1 * F2 := Nat.le_mul_of_pos_right _ f2
  have h0 : F0 ≤ F0 * (F1 * F2) := Nat.le_mul_of_pos_right _ (Nat.mul_pos f1 f2)
  have hB1 : 1 ≤ F0 * (F1 * F2) := Nat.mul_pos f0 (Nat.mul_pos f1 f2)
  have hB : F0 * (F1 * F2) ≤ A * (F0 * (F1 * F2)) := Nat.le_mul_of_pos_left _ hA1
  have hAB : A ≤ A * (F0 * (F1 * F2)) := Nat.le_mul_of_pos_right _ hB1
  refine ⟨fun i => Nat.le_trans (hfr i) (by omega), fun l => ?_, fun l hl => ?_, ?_⟩
  · have hl : l = 0 ∨ l = 1 ∨ l = 2 ∨ 3 ≤ l := by omega
    rcases hl with rfl | rfl | rfl | hl
    · omega
    · omega
    · omega
    · unfold ordsL; rw [show 3 - l = 0 by omega]; show 1 ≤ 3000; omega
  · have hl' : l = 0 ∨ l = 1 ∨ l = 2 := by omega
    rcases hl' with rfl | rfl | rfl
    · exact Nat.le_trans t0 (by omega)
    · exact Nat.le_trans t1 (by omega)
    · exact Nat.le_trans t2 (by omega)
  · exact Nat.le_trans (Nat.mul_le_mul (hfr 0) o0) hPe

end Go.Proofs.YtpbmlppdmdmfkaaGreatDoor

namespace Go.Proofs.YtpbmlppdmdmfkaaGreatDoor

/-- The place of a number in a list, or -1. -/
def plc : List Int → Int → Int
  | [], _ => -1
  | y :: ys, x => if y = x then 0 else if plc ys x < 0 then -1 else plc ys x + 1
theorem plc_cases : ∀ (xs : List Int) (x : Int), (plc xs x = -1 ∧ x ∉ xs) ∨ ∃ k : Nat, plc xs x = k ∧ xs[k]? = some x ∧ x ∉ xs.take k := by
  intro xs x
  induction xs with
  | nil => exact .inl ⟨rfl, by simp⟩
  | cons y ys ih =>
    unfold plc
    by_cases e : y = x
    · rw [if_pos e]; exact .inr ⟨0, rfl, by simp [e], by simp⟩
    · rw [if_neg e]
      rcases ih with ⟨h1, h2⟩ | ⟨k, h1, h2, h3⟩
      · rw [if_pos (by omega)]; exact .inl ⟨rfl, by simp [h2]; exact fun h => e h.symm⟩
      · rw [if_neg (by omega)]
        refine .inr ⟨k + 1, by omega, by simpa using h2, ?_⟩
        rw [List.take_succ_cons]; simp [h3]; exact fun h => e h.symm
theorem PlaceOf.eq {xs : List Int} {x q : Int} (h : PlaceOf xs x q) : q = plc xs x := by
  rcases h with ⟨h1, h2⟩ | ⟨k, h1, h2, h3⟩
  · rcases plc_cases xs x with ⟨e1, -⟩ | ⟨j, -, e2, -⟩
    · rw [h1, e1]
    · exact absurd (List.mem_of_getElem? e2) h2
  · rcases plc_cases xs x with ⟨-, e2⟩ | ⟨j, e1, e2, e3⟩
    · exact absurd (List.mem_of_getElem? h2) e2
    · rw [h1, e1]
      rcases Nat.lt_trichotomy k j with hlt | heq | hgt
      · exact absurd (List.mem_of_getElem? (by rw [List.getElem?_take_of_lt hlt]; exact h2)) e3
      · rw [heq]
      · exact absurd (List.mem_of_getElem? (by rw [List.getElem?_take_of_lt hgt]; exact e2)) h3

def bef (o : List Int) (i k : Int) : Bool := decide (0 ≤ plc o i) && (decide (0 ≤ plc o k) && decide (plc o i < plc o k))
def odA (x : Xc) (l : Int) : List Int := (x.od[l.toNat]?).getD []
def frA (x : Xc) (i : Nat) : Int := (x.fr[i]?).getD (-1)
def poE (a b : Ev) : Bool := decide (0 ≤ a.t) && ((a.t == b.t) && decide (a.i < b.i))
def fenB (p : List (List Ins)) (a b : Ev) : Bool := (((p[a.t.toNat]?).getD []).drop a.i.toNat |>.take (b.i - a.i).toNat).any fun y => y.op == 4

/-- The relations, by the places of their names. -/
def relE (p : List (List Ins)) (x : Xc) (k : Nat) (a b : Ev) (i j : Nat) : Bool :=
  match k with
  | 0 => poE a b
  | 1 => a.l == b.l
  | 2 => (a.t != b.t) || decide (a.t < 0)
  | 3 => frA x j == (i : Int)
  | 4 => bef (odA x a.l) i j
  | 5 => a.r && (b.w && ((i != j) && bef (odA x a.l) (frA x i) j))
  | 6 => poE a b && fenB p a b
  | 7 => (a.w && !a.r) && (b.r && !b.w)
  | 8 => (a.w && !a.r) && (b.w && !b.r)
  | _ => i == j
def relN (p : List (List Ins)) (x : Xc) (k : Nat) (i j : Nat) : Bool := match (evAll p)[i]?, (evAll p)[j]? with
  | some a, some b => relE p x k a b i j
  | _, _ => false
theorem relN_eq {p : List (List Ins)} {x : Xc} {k i j : Nat} {a b : Ev} (hi : (evAll p)[i]? = some a) (hj : (evAll p)[j]? = some b) : relN p x k i j = relE p x k a b i j := by
  simp [relN, hi, hj]

def nameId (nm : ByteArray) : Nat := nameTab.findIdx fun s => nm.toList == s.toList
def fMinus (f g : Nat → Nat → Bool) : Nat → Nat → Bool := fun i k => f i k && !g i k
def kidR (c : Re) (k : Nat) : Re := (c.kids[k]?).getD (.mk 0 ByteArray.empty [])
/-- What an expression says. -/
def evalD (p : List (List Ins)) (x : Xc) : Nat → Re → Nat → Nat → Bool
  | 0, _ => fun _ _ => false
  | d + 1, c =>
    if c.op = 1 then relN p x (nameId c.nm)
    else if c.op = 6 then fInv (evalD p x d (kidR c 0))
    else if c.op = 7 then fClo (evAll p).length (evalD p x d (kidR c 0))
    else if c.op = 2 then fOr (evalD p x d (kidR c 0)) (evalD p x d (kidR c 1))
    else if c.op = 3 then fAnd (evalD p x d (kidR c 0)) (evalD p x d (kidR c 1))
    else if c.op = 4 then fMinus (evalD p x d (kidR c 0)) (evalD p x d (kidR c 1))
    else fComp (evAll p).length (evalD p x d (kidR c 0)) (evalD p x d (kidR c 1))

/-- A rule of a model. -/
structure Ru where
  kind : Int
  e : Re
def holdsB (n : Nat) (k : Int) (f : Nat → Nat → Bool) : Bool := if k = 1 then acyB n f else if k = 2 then irrB n f else empB n f
def ruleB (p : List (List Ins)) (x : Xc) (r : Ru) : Bool := holdsB (evAll p).length r.kind (evalD p x 12 r.e)
def allowB (p : List (List Ins)) (m : List Ru) (x : Xc) : Bool := valsOk p x.fr && m.all (ruleB p x)
def allowL (p : List (List Ins)) (m : List Ru) : List Xc := (allX (evAll p)).filter (allowB p m)
def ruleOk (r : Ru) : Bool := inB r.kind 1 3 && validR r.e
def modelOk (m : List Ru) : Bool := decide (1 ≤ m.length) && (decide (m.length ≤ 5) && m.all ruleOk)

end Go.Proofs.YtpbmlppdmdmfkaaGreatDoor

namespace Go.Proofs.YtpbmlppdmdmfkaaGreatDoor
open Go.RowKit

/-- The function value of two numbers, wherever it is called as long as what lay in w0 is as it was. -/
def TestsP_conf (a1 a2 : Addr) (n : Nat) (f : Nat → Nat → Bool) (w0 : World) : Prop := ∀ (i k : Nat) (w : World), i < n → k < n → Below w0.heap.size w0 w →
  Calls Tryz.prog 156 #[.int .i64 i, .int .i64 k, .pointer (some a1), .pointer (some a2)] w fun e w' => e = .returned (.bool (f i k)) ∧ Below w.heap.size w w'

theorem rel_get (n t k : Nat) (f : Nat → Nat → Bool) (h : t < n) : (((relOf n f).take t ++ List.replicate (n - t) 0).set t (bitsTo (f t) k))[t]? = some (bitsTo (f t) k) := by
  rw [List.getElem?_set, if_pos rfl, if_pos (by simp [relOf_length]; omega)]
theorem rel_start (n t : Nat) (f : Nat → Nat → Bool) (h : t < n) : ((relOf n f).take t ++ List.replicate (n - t) 0).set t (bitsTo (f t) 0) = (relOf n f).take t ++ List.replicate (n - t) 0 := by
  rw [List.set_append_right _ _ (by rw [List.length_take]; exact Nat.min_le_left _ _), List.length_take, relOf_length, Nat.min_eq_left (by omega), Nat.sub_self, show n - t = (n - (t + 1)) + 1 by omega, List.replicate_succ, List.set_cons_zero]
  rfl
theorem rel_done (n t : Nat) (f : Nat → Nat → Bool) (h : t < n) : ((relOf n f).take t ++ List.replicate (n - t) 0).set t (bitsTo (f t) n) = (relOf n f).take (t + 1) ++ List.replicate (n - (t + 1)) 0 := by
  have := set_pad (relOf n f) 0 (relOf_get (f := f) h)
  rw [relOf_length] at this
  exact this
theorem rel_put (n t k : Nat) (f : Nat → Nat → Bool) (x : Int) : (((relOf n f).take t ++ List.replicate (n - t) 0).set t (bitsTo (f t) k)).set t x = ((relOf n f).take t ++ List.replicate (n - t) 0).set t x := by rw [List.set_set]

set_option maxHeartbeats 800000 in
theorem pairsOf_conf (a1 a2 : Addr) (n : Nat) (f : Nat → Nat → Bool) (w : World) (hn : n ≤ 60) (hf : TestsP_conf a1 a2 n f w) :
    Calls Tryz.prog 127 #[.int .i64 n, .func (.func 156) #[] #[.pointer (some a1), .pointer (some a2)]] w (RetOwn IntE 3 w (relOf n f)) := by
  have HF := hide hf; clear hf
  go_enter Tryz.func127, Tryz.ntmps127
  go_wp2_with (at_make; refine wpList_make IntE 3 0 Tryz.infoInt rfl Tryz.underlying25 n (by decide) (by omega) rfl _ _ rfl rfl rfl ?_; intro w1 hown hgr)
  have hb1 := below_of_grown hgr
  go_loopw [11] (fun i wr => ∃ t : Nat, t ≤ n ∧ i = .int .i64 t ∧ OwnN wr w.heap.size (.slice (some ⟨w.heap.size, 0, none⟩) n n) ((relOf n f).take t ++ List.replicate (n - t) 0) ∧ Below w.heap.size w wr) (fun i _ => n - (intOf i).toNat)
  case atStart => exact ⟨0, by omega, rfl, by simpa using hown, hb1⟩
  case round =>
    obtain ⟨t, ht, rfl, ho, hb⟩ := hrel
    by_cases hlt : t < n
    · have hlt' := nat_of_lt hlt
      go_wp2_with fail
      go_loopw [15] (fun i wr => ∃ k : Nat, k ≤ n ∧ i = .int .i64 k ∧ OwnN wr w.heap.size (.slice (some ⟨w.heap.size, 0, none⟩) n n) (((relOf n f).take t ++ List.replicate (n - t) 0).set t (bitsTo (f t) k)) ∧ Below w.heap.size w wr) (fun i _ => n - (intOf i).toNat)
      case atStart => exact ⟨0, by omega, rfl, by rw [rel_start n t f hlt]; exact ho, hb⟩
      case round =>
        obtain ⟨k, hk, rfl, ho, hb⟩ := hrel
        by_cases hlt2 : k < n
        · have hlt2' := nat_of_lt hlt2
          have HC := hide (HF.out t k wr hlt hlt2 hb)
          have BS : Hid (bitsTo (f t) (k + 1) = if f t k = true then bits .or .i64 (bitsTo (f t) k) (wrap64 ((2 : Int) ^ k)) else bitsTo (f t) k) := hide rfl
          generalize f t k = fb at *
          cases fb
          · go_wp2_with fail
            (with_reducible refine HC.out.mono ?_); rintro e w2 ⟨rfl, hb2⟩
            go_wp2_with fail
            go_roundw
            case rel => exact ⟨k + 1, by omega, by go_num, by rw [BS.out]; exact ho.below hb2, hb.trans (hb2.mono hb.size)⟩
            case measure => simp [intOf]; omega
          · go_wp2_with fail
            (with_reducible refine HC.out.mono ?_); rintro e w2 ⟨rfl, hb2⟩
            have ho2 := ho.below hb2
            obtain ⟨hgl, c0, hfr⟩ := ho2.int (rel_get n t k f hlt)
            have ho3 := ho2.setInt (rel_get n t k f hlt) (bits .or .i64 (bitsTo (f t) k) (wrap64 ((2 : Int) ^ k)))
            rw [List.set_set] at ho3
            have HO3 := hide ho3; clear ho3
            go_wp2_with fail
            go_region
            go_wp2_with fail
            go_roundw
            case rel => exact ⟨k + 1, by omega, by go_num, by rw [BS.out]; exact HO3.out.below (Below.refl _ _).drew, ((hb.trans (hb2.mono hb.size)).setCell (Nat.le_refl _) _).drew⟩
            case measure => simp [intOf]; omega
        · have e : k = n := by omega
          rw [e, rel_done n t f hlt] at ho
          go_wp2_with fail
          go_roundw
          case rel => exact ⟨t + 1, by omega, by go_num, ho, hb⟩
          case measure => simp [intOf]; omega
    · have e : t = n := by omega
      rw [e, Nat.sub_self, List.replicate_zero, List.append_nil, List.take_of_length_le (by rw [relOf_length]; exact Nat.le_refl _)] at ho
      go_wp2_with fail
      go_ret
      exact ⟨_, rfl, ho, hb⟩

end Go.Proofs.YtpbmlppdmdmfkaaGreatDoor

namespace Go.Proofs.YtpbmlppdmdmfkaaGreatDoor
open Go.RowKit

theorem Rep.gap {w : World} {a : Option Addr} {n c : Nat} {xs : List Gp} (h : Rep GapE w (.slice a n c) xs) {k : Nat} {x : Gp} (hx : xs[k]? = some x) :
    ∃ b o, a = some ⟨b, o, none⟩ ∧ b < w.heap.size ∧ w.cell? ⟨b, o + k * 2, none⟩ = some (.int .i64 x.t) ∧ w.cell? ⟨b, o + k * 2 + 1, none⟩ = some (.int .i64 x.i) := by
  obtain ⟨a', c', hv, _, _, h⟩ := h
  simp only [Value.slice.injEq] at hv
  obtain ⟨rfl, rfl, rfl⟩ := hv
  obtain ⟨b, o, rfl, h'⟩ := h k x hx
  exact ⟨b, o, rfl, lt_of_cell (h' 0 _ rfl), h' 0 _ rfl, h' 1 _ rfl⟩

theorem Own.gap {T : TypeId} {w : World} {base g n cap : Nat} {xs : List Gp} (h : Own GapE T w base (.slice (some ⟨g, 0, none⟩) n cap) xs) {k : Nat} {x : Gp} (hx : xs[k]? = some x) :
    g < w.heap.size ∧ w.cell? ⟨g, k * 2, none⟩ = some (.int .i64 x.t) ∧ w.cell? ⟨g, k * 2 + 1, none⟩ = some (.int .i64 x.i) ∧ ∀ j, w.frozen? ⟨g, j, none⟩ = false :=
  ⟨(World.ownsRow.lt h g rfl).2, h.cell hx (j := 0) rfl, h.cell hx (j := 1) rfl, fun j => h.frozen j⟩

theorem Own.setGap {T : TypeId} {w : World} {base g n cap : Nat} {xs : List Gp} (h : Own GapE T w base (.slice (some ⟨g, 0, none⟩) n cap) xs) {k : Nat} {z : Gp} (hz : xs[k]? = some z) (x : Gp) :
    Own GapE T ((w.setCell ⟨g, k * 2, none⟩ (.int .i64 x.t)).setCell ⟨g, k * 2 + 1, none⟩ (.int .i64 x.i)) base (.slice (some ⟨g, 0, none⟩) n cap) (xs.set k x) := by
  have h0 := h.set (i := k) (j := 0) ⟨x.t, z.i⟩ (u := .int .i64 x.t) (by decide) hz rfl
  have h1 := h0.set (i := k) (j := 1) x (u := .int .i64 x.i) (by decide) (get_set_self hz _) rfl
  simp only [List.set_set] at h1
  exact h1

/-- The gap whose fields are numbered from m on. -/
def markG (m : Int) : Gp := ⟨m, m + 1⟩
/-- So many gaps, numbered from m on. -/
def marksG : Nat → Int → List Gp
  | 0, _ => []
  | n + 1, m => markG m :: marksG n (m + 2)

theorem marksG_length (n : Nat) (m : Int) : (marksG n m).length = n := by
  induction n generalizing m with
  | zero => rfl
  | succ n ih => simp [marksG, ih]

theorem marksG_get (n : Nat) (m : Int) {k : Nat} (h : k < n) : (marksG n m)[k]? = some (markG (m + 2 * k)) := by
  induction n generalizing m k with
  | zero => omega
  | succ n ih =>
    cases k with
    | zero => simp [marksG]
    | succ k => simp only [marksG, List.getElem?_cons_succ]; rw [ih _ (by omega)]; congr 2; omega

/-- The first k marked, the rest as they were. -/
theorem marksG_step (xs : List Gp) (m : Int) {k : Nat} (hk : k < xs.length) : ((marksG k m) ++ xs.drop k).set k (markG (m + 2 * k)) = marksG (k + 1) m ++ xs.drop (k + 1) := by
  have h1 : marksG (k + 1) m = marksG k m ++ [markG (m + 2 * k)] := by
    apply List.ext_getElem?
    intro i
    by_cases hi : i < k
    · rw [marksG_get _ _ (by omega), List.getElem?_append_left (by rw [marksG_length]; exact hi), marksG_get _ _ hi]
    · by_cases hi2 : i = k
      · subst hi2
        rw [marksG_get _ _ (by omega), List.getElem?_append_right (by rw [marksG_length]; omega), marksG_length]; simp
      · rw [List.getElem?_eq_none (by rw [marksG_length]; omega), List.getElem?_eq_none (by simp [marksG_length]; omega)]
  rw [List.set_append_right _ _ (by rw [marksG_length]; omega), marksG_length, Nat.sub_self, List.drop_eq_getElem_cons hk, List.set_cons_zero, h1]
  simp

set_option maxRecDepth 100000 in
set_option maxHeartbeats 800000 in
theorem l9Gaps_any (v : Value) (p : List (List Ins)) (w : World) (hp : RepP w v p) (hl : p.flatten.length ≤ 1048576) :
    Calls Tryz.prog 119 #[v] w (RetOwn GapE 133 w (gapsP p)) := by
  obtain ⟨a, c, rfl, hc1, hc2, hc3, hp⟩ := hp.open
  have HP := hide hp; clear hp
  have HL := hide hl; clear hl
  have PP : Hid (gapsP p = gapsTo p p.length) := hide rfl
  have HGL := hide (gapsTo_length p)
  generalize hn : p.length = n at *
  have H := hide hn; clear hn
  go_enter Tryz.func119, Tryz.ntmps119
  go_wp2_with fail
  go_loopw [3, 4] (fun s i wr => ∃ j : Nat, j ≤ n ∧ i = .int .i64 j ∧ OwnG wr w.heap.size s (gapsTo p j) ∧ Below w.heap.size w wr) (fun _ i _ => n - (intOf i).toNat)
  case atStart => exact ⟨0, by omega, rfl, Own.empty _ w (Nat.le_refl _), (Below.refl _ _).alloc (Nat.le_refl _) _⟩
  case round =>
    obtain ⟨j, hj, rfl, hown, hb2⟩ := hrel
    by_cases hlt2 : j < n
    · obtain ⟨wm, rfl⟩ : ∃ wm : World, wm = wr := ⟨_, rfl⟩
      obtain ⟨x, hxk⟩ := get_of_lt (xs := p) (k := j) (by rw [H.out]; exact hlt2)
      obtain ⟨b, o, ra, rc, rfl, hbl, i0, i1⟩ := HP.out.row hxk
      have IW := hide i0
      have i0 := (hb2.cell (p := ⟨b, o + j, none⟩) hbl).trans i0
      have hlt2' := nat_of_lt hlt2
      have GS := hide (gapsTo_succ hxk)
      have hgl := Nat.le_trans (HGL.out j hj) (Nat.le_trans (flatten_take_le p j) HL.out)
      have hxl := Nat.le_trans (row_le_flatten hxk) HL.out
      have I1 := hide i1; have X := hide hxk
      clear i1 hxk
      generalize hG : gapsTo p j = G at *
      clear hG
      have HO := hide hown; clear hown
      go_wp2_with fail
      go_loopw [3, 5] (fun s i wr => ∃ t : Nat, (t + 1 ≤ x.length ∨ t = 0) ∧ i = .int .i64 ((t : Int) + 1) ∧ OwnG wr w.heap.size s (G ++ rowGaps j x (t + 1)) ∧ Below w.heap.size w wr) (fun _ i _ => x.length - (intOf i).toNat)
      case atStart => exact ⟨0, .inr rfl, rfl, by rw [rowGaps_one, List.append_nil]; exact HO.out, hb2⟩
      case round =>
        obtain ⟨t, ht, rfl, hown, hb3⟩ := hrel
        have i0w := (hb3.cell (p := ⟨b, o + j, none⟩) hbl).trans IW.out
        by_cases hlt3 : t + 1 < x.length
        · obtain ⟨y, hyk⟩ := get_of_lt (xs := x) (k := t) (by omega)
          obtain ⟨z, hzk⟩ := get_of_lt (xs := x) (k := t + 1) hlt3
          obtain ⟨b', o', rfl, hbl', j0, j1, j2, j3⟩ := (I1.out.below hb3).ins hyk
          obtain ⟨b'', o'', e1, hbl'', k0, k1, k2, k3⟩ := (I1.out.below hb3).ins hzk
          simp only [Option.some.injEq, Addr.mk.injEq, and_true] at e1
          obtain ⟨rfl, rfl⟩ := e1
          have hlt3' : (t : Int) + 1 < x.length := by omega
          have ST := hide (rowGaps_step (t := j) hyk hzk)
          have hrl := rowGaps_length j x (t + 1)
          have YK := hide hyk; have ZK := hide hzk
          clear hyk hzk hbl''
          generalize hRG : rowGaps j x (t + 1) = RG at *
          clear hRG
          have hlen : (G ++ RG).length ≤ 68719476736 := by rw [List.length_append]; omega
          by_cases hy : y.op = 4
          · have g4 : (y.op != 4) = false := by simp [hy]
            have ST2 : Hid (rowGaps j x (t + 1 + 1) = RG) := hide (by have h := ST.out; rw [g4] at h; simpa using h)
            clear hy
            go_wp2_with fail
            go_roundw
            case rel => exact ⟨t + 1, by omega, by go_num, by rw [ST2.out]; exact hown, hb3⟩
            case measure => simp [intOf]; omega
          · have g4 : (y.op != 4) = true := by simp [hy]
            clear hy
            by_cases hz : z.op = 4
            · have g5 : (z.op != 4) = false := by simp [hz]
              have ST2 : Hid (rowGaps j x (t + 1 + 1) = RG) := hide (by have h := ST.out; rw [g4, g5] at h; simpa using h)
              clear hz
              go_wp2_with fail
              go_roundw
              case rel => exact ⟨t + 1, by omega, by go_num, by rw [ST2.out]; exact hown, hb3⟩
              case measure => simp [intOf]; omega
            · have g5 : (z.op != 4) = true := by simp [hz]
              have ST2 : Hid (rowGaps j x (t + 1 + 1) = RG ++ [⟨(j : Int), (t : Int) + 1⟩]) := hide (by have h := ST.out; rw [g4, g5] at h; simpa using h)
              clear hz
              go_wp2_with (at_builtin; refine wpList_app GapE 133 Tryz.infoGap rfl Tryz.underlying76 w.heap.size _ _ ⟨(j : Int), (t : Int) + 1⟩ (hown.alloc _) (by decide) hlen (by simp; have := hb3.size; omega) rfl _ _ rfl rfl wr.heap.size 0 1 rfl news_alloc ?_; intro v' w1 hown1 hgr1)
              have hb4 := below_app hb3 hown hgr1
              go_roundw
              case rel => exact ⟨t + 1, by omega, by go_num, by rw [ST2.out, ← List.append_assoc]; exact hown1, hb4⟩
              case measure => simp [intOf]; omega
        · have e : rowGaps j x (t + 1) = rowGaps j x x.length := by
            rcases ht with h | h
            · rw [show t + 1 = x.length by omega]
            · subst h
              rw [rowGaps_one]
              by_cases h0 : x.length = 0
              · rw [h0, rowGaps_zero]
              · rw [show x.length = 1 by omega, rowGaps_one]
          rw [e] at hown
          have hlt3' : (x.length : Int) ≤ (t : Int) + 1 := by omega
          go_wp2_with fail
          go_roundw
          case rel => exact ⟨j + 1, by omega, by go_num, by rw [GS.out]; exact hown, hb3⟩
          case measure => simp [intOf]; omega
    · have e : j = n := by omega
      go_wp2_with fail
      go_ret
      rw [PP.out, ← e]
      exact ⟨_, rfl, hown, hb2⟩

end Go.Proofs.YtpbmlppdmdmfkaaGreatDoor

namespace Go.Proofs.YtpbmlppdmdmfkaaGreatDoor
open Go.RowKit

set_option maxHeartbeats 800000 in
theorem conflict_raw (a0 a1 a2 a3 b0 b1 b2 b3 : Int) (w : World) :
    Calls Tryz.prog 157 #[.agg #[.int .i64 a0, .int .i64 a1, .int .i64 a2, .int .i64 a3], .agg #[.int .i64 b0, .int .i64 b1, .int .i64 b2, .int .i64 b3]] w fun e w' => e = .returned (.bool (conflictR a0 a1 b0 b1)) ∧ Below w.heap.size w w' := by
  have CR : Hid (conflictR a0 a1 b0 b1 = (a0 != 4 && b0 != 4 && a1 == b1 && (isWop a0 || isWop b0))) := hide rfl
  generalize conflictR a0 a1 b0 b1 = R at *
  have W1 := fun w' => writes_raw a0 a1 a2 a3 w'
  have W2 := fun w' => writes_raw b0 b1 b2 b3 w'
  generalize isWop a0 = x at *
  generalize isWop b0 = y at *
  have HW1 := hide W1; have HW2 := hide W2; clear W1 W2
  have hbase := ((Below.refl w.heap.size w).alloc (Nat.le_refl _) (.cells #[.int .i64 a0, .int .i64 a1, .int .i64 a2, .int .i64 a3] 84)).alloc (by simp) (.cells #[.int .i64 b0, .int .i64 b1, .int .i64 b2, .int .i64 b3] 84)
  have HB := hide hbase; clear hbase
  by_cases h1 : a0 = 4
  · have g1 : (a0 != 4) = false := by simp [h1]
    have E : Hid (R = false) := hide (by rw [CR.out, g1]; rfl)
    clear h1
    go_enter Tryz.func157, Tryz.ntmps157
    go_wp2_with fail
    go_ret
    rw [E.out]; exact ⟨rfl, HB.out⟩
  · have g1 : (a0 != 4) = true := by simp [h1]
    clear h1
    by_cases h2 : b0 = 4
    · have g2 : (b0 != 4) = false := by simp [h2]
      have E : Hid (R = false) := hide (by rw [CR.out, g1, g2]; rfl)
      clear h2
      go_enter Tryz.func157, Tryz.ntmps157
      go_wp2_with fail
      go_ret
      rw [E.out]; exact ⟨rfl, HB.out⟩
    · have g2 : (b0 != 4) = true := by simp [h2]
      clear h2
      by_cases h3 : a1 = b1
      · have g3 : (a1 == b1) = true := by simp [h3]
        have E : Hid (R = (x || y)) := hide (by rw [CR.out, g1, g2, g3]; rfl)
        clear h3
        cases x
        · go_enter Tryz.func157, Tryz.ntmps157
          go_wp2_with fail
          (with_reducible refine (HW1.out _).mono ?_); rintro e w1 ⟨rfl, hb1⟩
          obtain ⟨hc1, hf1⟩ := bcell hb1
          go_wp2_with fail
          (with_reducible refine (HW2.out _).mono ?_); rintro e w2 ⟨rfl, hb2⟩
          go_wp2_with fail
          go_ret
          rw [E.out]
          exact ⟨by simp, (HB.out.trans (hb1.mono HB.out.size)).trans (hb2.mono (by have := HB.out.size; have := hb1.size; omega))⟩
        · go_enter Tryz.func157, Tryz.ntmps157
          go_wp2_with fail
          (with_reducible refine (HW1.out _).mono ?_); rintro e w1 ⟨rfl, hb1⟩
          go_wp2_with fail
          go_ret
          rw [E.out]
          exact ⟨by simp, HB.out.trans (hb1.mono HB.out.size)⟩
      · have g3 : (a1 == b1) = false := by simp [h3]
        have E : Hid (R = false) := hide (by rw [CR.out, g1, g2, g3]; rfl)
        clear h3
        go_enter Tryz.func157, Tryz.ntmps157
        go_wp2_with fail
        go_ret
        rw [E.out]; exact ⟨rfl, HB.out⟩

end Go.Proofs.YtpbmlppdmdmfkaaGreatDoor

namespace Go.Proofs.YtpbmlppdmdmfkaaGreatDoor
open Go.RowKit

set_option maxRecDepth 100000 in
set_option maxHeartbeats 3200000 in
theorem conflictRel_1 (B1 B2 : Nat) (la pa : Option Addr) (lc pc : Nat) (p : List (List Ins)) (w0 : World) (h1 : w0.cell? ⟨B1, 0, none⟩ = some (.slice la (evAll p).length lc)) (h2 : w0.cell? ⟨B2, 0, none⟩ = some (.slice pa p.length pc))
    (hL : Rep EvE w0 (.slice la (evAll p).length lc) (evAll p)) (hP : RepP w0 (.slice pa p.length pc) p) : TestsP_conf ⟨B1, 0, none⟩ ⟨B2, 0, none⟩ (evAll p).length (confB (evAll p)) w0 := by
  intro i k w hi hk hb
  have q1 := (hb.cell (p := ⟨B1, 0, none⟩) (lt_of_cell h1)).trans h1
  have q2 := (hb.cell (p := ⟨B2, 0, none⟩) (lt_of_cell h2)).trans h2
  have HP := hide (hP.below hb)
  obtain ⟨a, ha⟩ := get_of_lt hi
  obtain ⟨b, hbb⟩ := get_of_lt hk
  obtain ⟨d, o, rfl, hd, i0, i1, i2, i3, i4⟩ := (hL.below hb).ev ha
  obtain ⟨d', o', hde, hd', j0, j1, j2, j3, j4⟩ := (hL.below hb).ev hbb
  simp only [Option.some.injEq, Addr.mk.injEq, and_true] at hde
  obtain ⟨rfl, rfl⟩ := hde
  have hB1 := lt_of_cell q1
  have hB2 := lt_of_cell q2
  have CE := hide (confB_eq ha hbb)
  have MA := hide (mem_evAll (List.mem_of_getElem? ha))
  have MB := hide (mem_evAll (List.mem_of_getElem? hbb))
  have hi' := nat_of_lt hi; have hk' := nat_of_lt hk
  clear ha hbb hL h1 h2 hb hP
  generalize confB (evAll p) i k = R at *
  generalize (evAll p).length = n at *
  go_enter Tryz.func156, Tryz.ntmps156
  go_wp2_with fail
  go_cut [7, 8] (fun s7 s8 W => ∃ b7 b8 : Nat, s7 = .pointer (some ⟨b7, 0, none⟩) ∧ s8 = .pointer (some ⟨b8, 0, none⟩) ∧ b7 < W.heap.size ∧ b8 < W.heap.size ∧
    W.cell? ⟨b7, 0, none⟩ = some (.int .i64 a.t) ∧ W.cell? ⟨b7, 1, none⟩ = some (.int .i64 a.i) ∧ W.cell? ⟨b8, 0, none⟩ = some (.int .i64 b.t) ∧ W.cell? ⟨b8, 1, none⟩ = some (.int .i64 b.i) ∧ Below w.heap.size w W)
  case first =>
    go_region_held3 (fun W => W.cell? ⟨B1, 0, none⟩ = some (.slice (some ⟨d, o, none⟩) n lc) ∧
      W.cell? ⟨d, o + i * 5, none⟩ = some (.int .i64 a.t) ∧ W.cell? ⟨d, o + i * 5 + 1, none⟩ = some (.int .i64 a.i) ∧ W.cell? ⟨d, o + i * 5 + 2, none⟩ = some (.int .i64 a.l) ∧ W.cell? ⟨d, o + i * 5 + 3, none⟩ = some (.bool a.r) ∧ W.cell? ⟨d, o + i * 5 + 4, none⟩ = some (.bool a.w) ∧
      W.cell? ⟨d, o + k * 5, none⟩ = some (.int .i64 b.t) ∧ W.cell? ⟨d, o + k * 5 + 1, none⟩ = some (.int .i64 b.i) ∧ W.cell? ⟨d, o + k * 5 + 2, none⟩ = some (.int .i64 b.l) ∧ W.cell? ⟨d, o + k * 5 + 3, none⟩ = some (.bool b.r) ∧ W.cell? ⟨d, o + k * 5 + 4, none⟩ = some (.bool b.w)) ((simp [go_sem, *])) (first | fail)
    all_goals
      go_wp2_with fail
      go_meet
      refine ⟨_, _, rfl, rfl, by first | (simp; done) | (simp; omega), by first | (simp; done) | (simp; omega), by simp [go_sem], by simp [go_sem], by simp [go_sem], by simp [go_sem], ?_⟩
      exact (((Below.refl _ _).alloc (Nat.le_refl _) _).alloc (by simp) _).drew
  case rest =>
    obtain ⟨b7, b8, rfl, rfl, hb7, hb8, m0, m1, n0, n1, hbW⟩ := hcut
    have c2 := (hbW.cell (p := ⟨B2, 0, none⟩) hB2).trans q2
    have hB2' : B2 < wc.heap.size := by have := hbW.size; omega
    have HPc := hide (HP.out.below hbW)
    have HBW := hide hbW
    clear hbW q1 q2 i0 i1 i2 i3 i4 j0 j1 j2 j3 j4
    rcases MA.out with ha | ⟨t, i1, r, x, hr, hx, rfl, hx4⟩
    · have g1 : decide (0 ≤ a.t) = false := by rw [ha]; rfl
      obtain rfl : R = false := by rw [CE.out, g1]; rfl
      clear ha
      go_wp2_with fail
      refine wp_region_bw (by kernel_rfl) (by kernel_rfl) ?_
      repeat (go_big_quiet_step (fail))
      refine wpQuiet_nil ?_
      intro w5 hb5
      go_wp2_with fail
      go_ret
      exact ⟨rfl, HBW.out.trans (hb5.mono HBW.out.size)⟩
    · rcases MB.out with hb | ⟨t', i1', r', x', hr', hx', rfl, hx4'⟩
      · have g2 : decide (0 ≤ b.t) = false := by rw [hb]; rfl
        obtain rfl : R = false := by rw [CE.out, g2]; simp
        clear hb
        go_wp2_with fail
        refine wp_region_bw (by kernel_rfl) (by kernel_rfl) ?_
        repeat (go_big_quiet_step (fail))
        refine wpQuiet_nil ?_
        intro w5 hb5
        go_wp2_with fail
        go_ret
        exact ⟨rfl, HBW.out.trans (hb5.mono HBW.out.size)⟩
      · by_cases htt : t = t'
        · have g3 : (((t : Nat) : Int) != ((t' : Nat) : Int)) = false := by simp [htt]
          obtain rfl : R = false := by rw [CE.out]; simp only; rw [g3]; simp
          clear htt
          go_wp2_with fail
          refine wp_region_bw (by kernel_rfl) (by kernel_rfl) ?_
          repeat (go_big_quiet_step (fail))
          refine wpQuiet_nil ?_
          intro w5 hb5
          go_wp2_with fail
          go_ret
          exact ⟨rfl, HBW.out.trans (hb5.mono HBW.out.size)⟩
        · have g3 : (((t : Nat) : Int) != ((t' : Nat) : Int)) = true := by simp; omega
          have E : Hid (R = conflictR x.op x.loc x'.op x'.loc) := hide (by rw [CE.out, conflictR_ev hx4 hx4']; simp only; rw [g3]; simp)
          obtain ⟨d0, e0, ra, rc, rfl, hd0, p0, p1⟩ := HPc.out.row hr
          obtain ⟨d1, e1, rfl, hd1, s0, s1, s2, s3⟩ := p1.ins hx
          obtain ⟨d2, e2, ra', rc', hd2e, hd2, p2, p3⟩ := HPc.out.row hr'
          simp only [Option.some.injEq, Addr.mk.injEq, and_true] at hd2e
          obtain ⟨rfl, rfl⟩ := hd2e
          obtain ⟨d3, e3, rfl, hd3, u0, u1, u2, u3⟩ := p3.ins hx'
          have v1 := nat_of_lt (List.getElem?_eq_some_iff.1 hr).1; have v2 := nat_of_lt (List.getElem?_eq_some_iff.1 hr').1
          have v3 := nat_of_lt (List.getElem?_eq_some_iff.1 hx).1; have v4 := nat_of_lt (List.getElem?_eq_some_iff.1 hx').1
          have v5 := (List.getElem?_eq_some_iff.1 hr).1; have v6 := (List.getElem?_eq_some_iff.1 hr').1
          have v7 := (List.getElem?_eq_some_iff.1 hx).1; have v8 := (List.getElem?_eq_some_iff.1 hx').1
          have HC := hide (fun w' => conflict_raw x.op x.loc x.reg x.val x'.op x'.loc x'.reg x'.val w')
          generalize conflictR x.op x.loc x'.op x'.loc = cf at *
          obtain rfl : R = cf := E.out
          clear hr hx hr' hx' p1 p3 htt hx4 hx4'
          generalize p.length = np at *
          go_wp2_with fail
          refine wp_region_bw (by kernel_rfl) (by kernel_rfl) ?_
          repeat (go_big_quiet_step ((go_at_call 157; (with_reducible exact Calls.bw (HC.out _)))))
          refine wpQuiet_nil ?_
          intro w5 hb5
          go_wp2_with fail
          go_ret
          exact ⟨rfl, HBW.out.trans (hb5.mono HBW.out.size)⟩

end Go.Proofs.YtpbmlppdmdmfkaaGreatDoor
