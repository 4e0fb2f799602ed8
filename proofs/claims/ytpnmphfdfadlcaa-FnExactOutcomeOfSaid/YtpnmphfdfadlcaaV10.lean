/-
  The program's valuer: the value that an event writes. Condition: bounds on lengths.
-/
import Derived.Test.YtpnmphfdfadlcaaV7
import Derived.Test.YtpnmphfdfadlcaaV4
import Derived.Deep.RegionHeld3
import Derived.Deep.DeepCutAuto
namespace Go.Proofs.Ytpnmphfdfadlcaa
open Go.RowKit

theorem ev_read {p : List (List Ins)} {k : Nat} {e : Ev} (h : (evAll p)[k]? = some e) (hr : e.r = true) : ∃ (t i : Nat) (r : List Ins), e.t = t ∧ e.i = i ∧ p[t]? = some r ∧ r[i]? = some (insE p e) := by
  rcases ev_cases h with h1 | ⟨t, i, r, h1, h2, h3, h4, -⟩
  · exfalso
    have h2 := List.mem_of_getElem? h
    unfold evAll at h2
    rcases List.mem_append.1 h2 with h3 | h3
    · simp [evHead] at h3
      obtain ⟨l, -, rfl⟩ := h3
      cases hr
    · unfold evTo at h3
      rw [List.mem_flatMap] at h3
      obtain ⟨t, ht, h3⟩ := h3
      cases hp : p[t]? with
      | none => rw [hp] at h3; simp at h3
      | some r =>
        rw [hp] at h3
        simp only [evRow, List.mem_flatMap, List.mem_range] at h3
        obtain ⟨i, hi, h3⟩ := h3
        obtain ⟨x, hx⟩ := get_of_lt (xs := r) (k := i) hi
        rw [hx] at h3
        obtain ⟨rfl, -⟩ := mem_evOf h3
        simp at h1
  · exact ⟨t, i, r, h1, h2, h3, h4⟩

/-- What the valuer has in memory. -/
structure VS (w : World) (pb : Nat) (ps fs os es vs bs : Slc) : Prop where
  blk : w.heap[pb]? = some (.cells #[.slice ps.a ps.n ps.cap, .slice fs.a fs.n fs.cap, .slice os.a os.n os.cap, .slice es.a es.n es.cap, .slice vs.a vs.n vs.cap, .slice bs.a bs.n bs.cap] 193 (0, 0))
theorem VS.below {w w' : World} {pb : Nat} {ps fs os es vs bs : Slc} (h : VS w pb ps fs os es vs bs) (hb : Below w.heap.size w w') : VS w' pb ps fs os es vs bs := ⟨(hb.block pb (Array.getElem?_eq_some_iff.1 h.blk).1).trans h.blk⟩
theorem cell_of_heapV {w : World} {b k : Nat} {cur : Array Value} {t : TypeId} {v : Value} (h : w.heap[b]? = some (.cells cur t (0, 0))) (hk : cur[k]? = some v) : w.cell? ⟨b, k, none⟩ = some v := by
  simp [World.cell?, h, hk]
theorem frozen_of_heapV {w : World} {b : Nat} {cur : Array Value} {t : TypeId} (h : w.heap[b]? = some (.cells cur t (0, 0))) (j : Nat) : w.frozen? ⟨b, j, none⟩ = false := by
  simp [World.frozen?, h]

set_option maxRecDepth 100000 in
set_option maxHeartbeats 3200000 in
theorem lastRead_any (pb : Nat) (ps fs os ess vs bs : Slc) (p : List (List Ins)) (es : List Ev) (hes : es = evAll p) (t idx reg : Int) (w : World) (hv : VS w pb ps fs os ess vs bs) (hp : RepP w ps.v p) (he : Rep EvE w ess.v es) (hl : es.length ≤ 1048676) :
    Calls Try.prog 225 #[.pointer (some ⟨pb, 0, none⟩), .int .i64 t, .int .i64 idx, .int .i64 reg] w fun e w' => e = .returned (.int .i64 (lastRd p es t idx reg)) ∧ Below w.heap.size w w' := by
  obtain ⟨pa, pn, pc⟩ := ps
  obtain ⟨ea, en, ec⟩ := ess
  obtain ⟨ea', ec', heq, -, -, -, he'⟩ := he.open
  simp only [Value.slice.injEq] at heq
  obtain ⟨rfl, rfl, rfl⟩ := heq
  obtain ⟨pa', pc', heq, -, -, -, hp'⟩ := hp.open
  simp only [Value.slice.injEq] at heq
  obtain ⟨rfl, rfl, rfl⟩ := heq
  have HVS := hide hv; have HP := hide hp'; have HE := hide he'
  have HER := hide (fun k e h hr => ev_read (p := p) (k := k) (e := e) (hes ▸ h) hr)
  have HR : Hid (lastRd p es t idx reg = lastTo p es t idx reg es.length) := hide rfl
  have HS := hide (fun k e h => lastTo_succ p (es := es) t idx reg (k := k) (e := e) h)
  have H0 : Hid (lastTo p es t idx reg 0 = -1) := hide rfl
  have b3 := cell_of_heapV hv.blk (k := 3) rfl
  have bl := lt_of_cell b3
  clear hes hp he hp' he' hv
  generalize lastRd p es t idx reg = R at *
  generalize hn : es.length = n at *
  have H := hide hn; clear hn
  go_enter Try.func225, Try.ntmps225
  go_wp2_with fail
  clear b3
  go_loopw [9, 17] (fun l i wr => ∃ k : Nat, k ≤ n ∧ i = .int .i64 k ∧ l = .int .i64 (lastTo p es t idx reg k) ∧ Below w.heap.size w wr) (fun _ i _ => n - (intOf i).toNat)
  case atStart => exact ⟨0, Nat.zero_le _, rfl, by rw [H0.out], Below.refl _ _⟩
  case round =>
    obtain ⟨k, hk, rfl, rfl, hb⟩ := hrel
    by_cases hlt : k < n
    · obtain ⟨e, hek⟩ := get_of_lt (xs := es) (k := k) (by rw [H.out]; exact hlt)
      obtain ⟨b, o, rfl, hbl, i0, i1, i2, i3, i4⟩ := (HE.out.below hb).ev hek
      have hlt' := nat_of_lt hlt
      have S := hide (HS.out k e hek)
      have ER := hide (fun hr => HER.out k e hek hr)
      have HH : Hid (hitR p t idx reg e = ((e.t == t) && (decide (e.i < idx) && (e.r && ((insE p e).reg == reg))))) := hide rfl
      have HBA := hide (hb.alloc hb.size (.cells #[.int .i64 e.t, .int .i64 e.i, .int .i64 e.l, .bool e.r, .bool e.w] 88))
      clear hek
      generalize lastTo p es t idx reg k = G at *
      by_cases g1 : e.t = t
      · have k1 : (e.t == t) = true := by simp [g1]
        by_cases g2 : e.i < idx
        · have k2 : decide (e.i < idx) = true := by simp [g2]
          cases her : e.r
          · have S2 : Hid (lastTo p es t idx reg (k + 1) = G) := hide (by rw [S.out, HH.out, her]; simp)
            rw [her] at i3 HBA
            subst g1
            clear g2 HH ER S her
            go_wp2_with fail
            refine wp_region_bw (by kernel_rfl) (by kernel_rfl) ?_
            repeat (go_big_quiet_step (fail))
            refine wpQuiet_nil ?_
            intro w1 hb1
            go_wp2_with fail
            go_roundw
            case rel => exact ⟨k + 1, by omega, by go_num, by rw [S2.out], HBA.out.trans (hb1.mono HBA.out.size)⟩
            case measure => simp [intOf]; omega
          · obtain ⟨t', i', r, ht, hi, hpt, hri⟩ := ER.out her
            obtain ⟨b2, o2, ra, rc, rfl, hbl2, q0, q1⟩ := (HP.out.below hb).row hpt
            obtain ⟨b3, o3, rfl, hbl3, r0, r1, r2, r3⟩ := q1.ins hri
            have htn : (t' : Int) < (p.length : Int) := by have := (List.getElem?_eq_some_iff.1 hpt).1; omega
            have hin : (i' : Int) < (r.length : Int) := by have := (List.getElem?_eq_some_iff.1 hri).1; omega
            have VB := HVS.out.below hb
            have c0 := cell_of_heapV VB.blk (k := 0) rfl
            have hbp := lt_of_cell c0
            have HG1 := hide g1; have HT := hide ht; have HI := hide hi
            have HRG : Hid ((insE p e).reg = (insE p e).reg) := hide rfl
            rw [her] at i3 HBA HH
            obtain ⟨et, ei, el, er, ew⟩ := e
            simp only at ht hi g1 k1 k2 g2 i0 i1 i2 i3 i4 her
            subst her
            subst ht
            subst hi
            subst g1
            generalize hins : insE p ⟨(t' : Int), (i' : Int), el, true, ew⟩ = ix at *
            clear hins hpt hri q1 ER VB HG1 HT HI HRG
            by_cases g3 : ix.reg = reg
            · have k3 : (ix.reg == reg) = true := by simp [g3]
              have S2 : Hid (lastTo p es (t' : Int) idx reg (k + 1) = (k : Int)) := hide (by rw [S.out, HH.out, k3, k2]; simp)
              clear g3 S HH k1
              go_wp2_with fail
              refine wp_region_bw (by kernel_rfl) (by kernel_rfl) ?_
              repeat (go_big_quiet_step (fail))
              refine wpQuiet_nil ?_
              intro w1 hb1
              go_wp2_with fail
              go_roundw
              case rel => exact ⟨k + 1, by omega, by go_num, by rw [S2.out], HBA.out.trans (hb1.mono HBA.out.size)⟩
              case measure => simp [intOf]; omega
            · have k3 : (ix.reg == reg) = false := by simp [g3]
              have S2 : Hid (lastTo p es (t' : Int) idx reg (k + 1) = G) := hide (by rw [S.out, HH.out, k3]; simp)
              clear g3 S HH k1
              go_wp2_with fail
              refine wp_region_bw (by kernel_rfl) (by kernel_rfl) ?_
              repeat (go_big_quiet_step (fail))
              refine wpQuiet_nil ?_
              intro w1 hb1
              go_wp2_with fail
              go_roundw
              case rel => exact ⟨k + 1, by omega, by go_num, by rw [S2.out], HBA.out.trans (hb1.mono HBA.out.size)⟩
              case measure => simp [intOf]; omega
        · have k2 : decide (e.i < idx) = false := by simp [g2]
          have S2 : Hid (lastTo p es t idx reg (k + 1) = G) := hide (by rw [S.out, HH.out, k2]; simp)
          subst g1
          clear g2 HH ER S
          go_wp2_with fail
          refine wp_region_bw (by kernel_rfl) (by kernel_rfl) ?_
          repeat (go_big_quiet_step (fail))
          refine wpQuiet_nil ?_
          intro w1 hb1
          go_wp2_with fail
          go_roundw
          case rel => exact ⟨k + 1, by omega, by go_num, by rw [S2.out], HBA.out.trans (hb1.mono HBA.out.size)⟩
          case measure => simp [intOf]; omega
      · have k1 : (e.t == t) = false := by simp [g1]
        have S2 : Hid (lastTo p es t idx reg (k + 1) = G) := hide (by rw [S.out, HH.out, k1]; simp)
        clear g1
        generalize hitR p t idx reg e = hh at *
        clear HH S ER
        go_wp2_with fail
        refine wp_region_bw (by kernel_rfl) (by kernel_rfl) ?_
        repeat (go_big_quiet_step (fail))
        refine wpQuiet_nil ?_
        intro w1 hb1
        go_wp2_with fail
        go_roundw
        case rel => exact ⟨k + 1, by omega, by go_num, by rw [S2.out], HBA.out.trans (hb1.mono HBA.out.size)⟩
        case measure => simp [intOf]; omega
    · have e : k = n := by omega
      subst e
      go_wp2_with fail
      go_ret
      exact ⟨by rw [HR.out]; rfl, hb⟩

end Go.Proofs.Ytpnmphfdfadlcaa

namespace Go.Proofs.Ytpnmphfdfadlcaa
open Go.RowKit

theorem dep_t0 {p : List (List Ins)} {es : List Ev} {fr : List Int} {i : Nat} {e : Ev} (h : es[i]? = some e) (ht : e.t < 0) : depV p es fr i = .inl 0 := by
  unfold depV; rw [h]; simp only; rw [if_pos ht]
theorem dep_op {p : List (List Ins)} {es : List Ev} {fr : List Int} {i : Nat} {e : Ev} (h : es[i]? = some e) (ht : ¬ e.t < 0) (ho : (insE p e).op ≠ 3) : depV p es fr i = .inl (insE p e).val := by
  unfold depV; rw [h]; simp only; rw [if_neg ht, if_neg ho]
theorem dep_r0 {p : List (List Ins)} {es : List Ev} {fr : List Int} {i : Nat} {e : Ev} (h : es[i]? = some e) (ht : ¬ e.t < 0) (ho : (insE p e).op = 3) (hr : lastRd p es e.t e.i (insE p e).reg < 0) : depV p es fr i = .inl 0 := by
  unfold depV; rw [h]; simp only; rw [if_neg ht, if_pos ho, if_pos hr]
theorem dep_rr {p : List (List Ins)} {es : List Ev} {fr : List Int} {i : Nat} {e : Ev} (h : es[i]? = some e) (ht : ¬ e.t < 0) (ho : (insE p e).op = 3) {r j : Nat} (hr : lastRd p es e.t e.i (insE p e).reg = (r : Int)) (hj : fr[r]? = some (j : Int)) : depV p es fr i = .inr j := by
  unfold depV; rw [h]; simp only; rw [if_neg ht, if_pos ho, if_neg (by omega), hr]
  simp [hj]
theorem lastRd_cases (p : List (List Ins)) (es : List Ev) (t idx reg : Int) : lastRd p es t idx reg = -1 ∨ ∃ (r : Nat) (e : Ev), lastRd p es t idx reg = r ∧ es[r]? = some e ∧ e.r = true := by
  rcases lastTo_cases p es t idx reg es.length (Nat.le_refl _) with h | ⟨i, e, h1, -, h2, h3⟩
  · exact .inl h
  · refine .inr ⟨i, e, h1, h2, ?_⟩
    unfold hitR at h3; simp at h3; exact h3.2.2.1

/-- Truth values. -/
def BoolE : El Bool := ⟨1, by decide, fun x => [.bool x], fun _ => rfl, fun x u h => by simp at h; subst h; rfl⟩
theorem Own.boolc {T : TypeId} {w : World} {base g n cap : Nat} {xs : List Bool} (h : Own BoolE T w base (.slice (some ⟨g, 0, none⟩) n cap) xs) {k : Nat} {x : Bool} (hx : xs[k]? = some x) :
    g < w.heap.size ∧ w.cell? ⟨g, k, none⟩ = some (.bool x) ∧ ∀ j, w.frozen? ⟨g, j, none⟩ = false := by
  have := h.cell hx (j := 0) rfl
  simp only [BoolE, Nat.mul_one, Nat.add_zero] at this
  exact ⟨(World.ownsRow.lt h g rfl).2, this, fun j => h.frozen j⟩
theorem Own.setBool {T : TypeId} {w : World} {base g n cap : Nat} {xs : List Bool} (h : Own BoolE T w base (.slice (some ⟨g, 0, none⟩) n cap) xs) {k : Nat} {z : Bool} (hz : xs[k]? = some z) (x : Bool) :
    Own BoolE T (w.setCell ⟨g, k, none⟩ (.bool x)) base (.slice (some ⟨g, 0, none⟩) n cap) (xs.set k x) := by
  have h0 := h.set (i := k) (j := 0) x (u := .bool x) (by decide) hz rfl
  simp only [BoolE, Nat.mul_one, Nat.add_zero] at h0
  exact h0
theorem count_set {bz : List Bool} {i : Nat} (h : bz[i]? = some false) : (bz.set i true).countP (fun b => !b) + 1 = bz.countP (fun b => !b) := by
  induction bz generalizing i with
  | nil => simp at h
  | cons b bz ih =>
    cases i with
    | zero => simp at h; subst h; simp
    | succ i =>
      simp at h
      have := ih h
      simp only [List.set_cons_succ, List.countP_cons]
      omega
theorem set_back {bz : List Bool} {i : Nat} (h : bz[i]? = some false) : (bz.set i true).set i false = bz := by
  rw [List.set_set]
  apply List.ext_getElem?
  intro k
  rw [List.getElem?_set]
  split
  · rename_i hk
    subst hk
    rw [h, if_pos (List.getElem?_eq_some_iff.1 h).1]
  · rfl

theorem Own.sameV {α : Type} {E : El α} {T : TypeId} {w w' : World} {base : Nat} {v : Value} {xs : List α} (h : Own E T w base v xs) (hB : ∀ k, v.ownBlock = some k → w'.heap[k]? = w.heap[k]?) : Own E T w' base v xs := by
  refine ⟨h.1, ?_⟩
  rcases h.2 with hn | ⟨g, cap, cur, rfl, hb1, hgg, rest⟩
  · exact .inl hn
  · exact .inr ⟨g, cap, cur, rfl, hb1, (hB g rfl).trans hgg, rest⟩
theorem own_or {α β : Type} {E : El α} {F : El β} {T U : TypeId} (hT : T ≠ U) {w : World} {base base' : Nat} {v u : Value} {xs : List α} {ys : List β} (h : Own E T w base v xs) (k : Own F U w base' u ys) : u.ownBlock = none ∨ u.ownBlock ≠ v.ownBlock := by
  rcases hq : u.ownBlock with _ | q
  · exact .inl rfl
  · exact .inr fun e => own_ne hT h k q hq e.symm

end Go.Proofs.Ytpnmphfdfadlcaa
