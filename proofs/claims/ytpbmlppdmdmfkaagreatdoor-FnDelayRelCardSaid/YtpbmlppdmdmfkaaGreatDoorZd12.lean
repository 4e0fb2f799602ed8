/-
  The reference's l6Perms. Condition: bounds on lengths.
-/
import Derived.Test.YtpbmlppdmdmfkaaGreatDoorZd07
import Derived.Test.YtpbmlppdmdmfkaaGreatDoorZd02
import Derived.Test.YtpbmlppdmdmfkaaGreatDoorZd05
import Derived.Deep.RegionHeld3
import Derived.Deep.DeepCutAuto
namespace Go.Proofs.YtpbmlppdmdmfkaaGreatDoor
open Go.RowKit

/-- A block that is not one of cells of T. -/
def notT (T : TypeId) (o : Obj) : Prop := ∀ a fz, o ≠ .cells a T fz
/-- A fact about the blocks from lo to hi that are not of type T. -/
structure LocR (T : TypeId) (lo hi : Nat) (w : World) (φ : World → Prop) : Prop where
  now : φ w
  le : hi ≤ w.heap.size
  keep : ∀ w' : World, (∀ k ob, lo ≤ k → k < hi → w.heap[k]? = some ob → notT T ob → w'.heap[k]? = some ob) → φ w'

theorem LocR.step {T : TypeId} {lo hi : Nat} {w w' : World} {φ : World → Prop} (h : LocR T lo hi w φ) (hs : w.heap.size ≤ w'.heap.size) (hk : ∀ k ob, lo ≤ k → k < hi → w.heap[k]? = some ob → notT T ob → w'.heap[k]? = some ob) : LocR T lo hi w' φ :=
  ⟨h.keep w' hk, Nat.le_trans h.le hs, fun w'' h2 => h.keep w'' fun k ob h3 h4 h5 h6 => h2 k ob h3 h4 (hk k ob h3 h4 h5 h6) h6⟩
theorem LocR.below {T : TypeId} {lo hi : Nat} {w w' : World} {φ : World → Prop} (h : LocR T lo hi w φ) (hb : Below w.heap.size w w') : LocR T lo hi w' φ :=
  h.step hb.size fun k _ _ _ h5 _ => (hb.block k (Array.getElem?_eq_some_iff.1 h5).1).trans h5
theorem Own.typed {α : Type} {E : El α} {T : TypeId} {w : World} {base g : Nat} {v : Value} {xs : List α} (h : Own E T w base v xs) (hg : v.ownBlock = some g) : ∃ a, w.heap[g]? = some (.cells a T (0, 0)) := by
  rcases h.2 with ⟨rfl, _⟩ | ⟨g', cap, cur, rfl, _, hg', _⟩
  · simp [Value.ownBlock] at hg
  · simp [Value.ownBlock] at hg
    subst hg
    exact ⟨cur, hg'⟩
theorem LocR.grown {α : Type} {E : El α} {T : TypeId} {lo hi base : Nat} {w w' : World} {v : Value} {xs : List α} {φ : World → Prop} (h : LocR T lo hi w φ) (ho : Own E T w base v xs) (hg : w.grownBy w' v.ownBlock) : LocR T lo hi w' φ :=
  h.step hg.size fun k ob _ _ h5 h6 => (hg.block k (Array.getElem?_eq_some_iff.1 h5).1 (fun e => by
    obtain ⟨a, ha⟩ := ho.typed e.symm
    rw [h5] at ha
    exact h6 a _ (Option.some.inj ha))).trans h5
theorem LocR.wide {T : TypeId} {lo hi lo' hi' : Nat} {w : World} {φ : World → Prop} (h : LocR T lo hi w φ) (h1 : lo' ≤ lo) (h2 : hi ≤ hi') (h3 : hi' ≤ w.heap.size) : LocR T lo' hi' w φ :=
  ⟨h.now, h3, fun w' k => h.keep w' fun q ob a b c d => k q ob (by omega) (by omega) c d⟩
theorem LocR.map {T : TypeId} {lo hi : Nat} {w : World} {φ ψ : World → Prop} (h : LocR T lo hi w φ) (f : ∀ V, φ V → ψ V) : LocR T lo hi w ψ := ⟨f _ h.now, h.le, fun w' k => f _ (h.keep w' k)⟩
theorem LocR.and {T : TypeId} {lo hi : Nat} {w : World} {φ ψ : World → Prop} (h : LocR T lo hi w φ) (k : LocR T lo hi w ψ) : LocR T lo hi w (fun W => φ W ∧ ψ W) := ⟨⟨h.now, k.now⟩, h.le, fun w' s => ⟨h.keep w' s, k.keep w' s⟩⟩
theorem LocR.all {ι : Type} {T : TypeId} {lo hi : Nat} {w : World} {φ : ι → World → Prop} (hh : hi ≤ w.heap.size) (h : ∀ i, LocR T lo hi w (φ i)) : LocR T lo hi w (fun W => ∀ i, φ i W) := ⟨fun i => (h i).now, hh, fun w' s i => (h i).keep w' s⟩
theorem LocR.imp {T : TypeId} {lo hi : Nat} {w : World} {p : Prop} {φ : World → Prop} (hh : hi ≤ w.heap.size) (h : p → LocR T lo hi w φ) : LocR T lo hi w (fun W => p → φ W) := ⟨fun i => (h i).now, hh, fun w' s i => (h i).keep w' s⟩
theorem LocR.ofOwn {α : Type} {E : El α} {U T : TypeId} (hT : U ≠ T) {w : World} {lo hi : Nat} {v : Value} {xs : List α} (h : Own E U w lo v xs) (hh : hi ≤ w.heap.size) (hv : ∀ q, v.ownBlock = some q → q < hi) : LocR T lo hi w (fun W => Own E U W lo v xs) :=
  ⟨h, hh, fun w' k => h.sameV fun q hq => by
    obtain ⟨a, ha⟩ := h.typed hq
    rw [k q _ (World.ownsRow.lt h q hq).1 (hv q hq) ha (fun a' fz e => by simp at e; exact hT e.2.1), ha]⟩
theorem LocR.own {α : Type} {E : El α} {U T : TypeId} (hT : U ≠ T) {w : World} {lo : Nat} {v : Value} {xs : List α} (h : Own E U w lo v xs) : LocR T lo w.heap.size w (fun W => Own E U W lo v xs) :=
  LocR.ofOwn hT h (Nat.le_refl _) fun q hq => (World.ownsRow.lt h q hq).2

/-- Where the parts of an element lie, and the slices in it. -/
structure Dd where
  lo : Nat
  hi : Nat
  us : List Slc

section
variable {α β : Type} {E : El α} {T : TypeId} {R : Dd → Dd → Prop} {φ : Dd → World → α → β → Prop}

/-- A slice whose elements have parts of their own. -/
structure OwnFU (E : El α) (T : TypeId) (R : Dd → Dd → Prop) (φ : Dd → World → α → β → Prop) (us : List α) (ds : List Dd) (w : World) (base : Nat) (v : Value) (xs : List β) : Prop where
  lu : us.length = xs.length
  ld : ds.length = xs.length
  pw : ds.Pairwise R
  own : Own E T w base v us
  rows : ∀ (i : Nat) (u : α) (d : Dd) (x : β), us[i]? = some u → ds[i]? = some d → xs[i]? = some x → base ≤ d.lo ∧ LocR T d.lo d.hi w (fun W => φ d W u x)
def OwnF (E : El α) (T : TypeId) (R : Dd → Dd → Prop) (φ : Dd → World → α → β → Prop) (w : World) (base : Nat) (v : Value) (xs : List β) : Prop := ∃ us ds, OwnFU E T R φ us ds w base v xs

theorem OwnFU.below {us : List α} {ds : List Dd} {w w' : World} {base : Nat} {v : Value} {xs : List β} (h : OwnFU E T R φ us ds w base v xs) (hb : Below w.heap.size w w') : OwnFU E T R φ us ds w' base v xs :=
  ⟨h.lu, h.ld, h.pw, h.own.below hb, fun i u d x h1 h2 h3 => ⟨(h.rows i u d x h1 h2 h3).1, (h.rows i u d x h1 h2 h3).2.below hb⟩⟩
theorem OwnFU.mono {us : List α} {ds : List Dd} {w : World} {base base' : Nat} {v : Value} {xs : List β} (h : OwnFU E T R φ us ds w base v xs) (hb : base' ≤ base) : OwnFU E T R φ us ds w base' v xs :=
  ⟨h.lu, h.ld, h.pw, h.own.mono hb, fun i u d x h1 h2 h3 => ⟨Nat.le_trans hb (h.rows i u d x h1 h2 h3).1, (h.rows i u d x h1 h2 h3).2⟩⟩
theorem OwnF.below {w w' : World} {base : Nat} {v : Value} {xs : List β} (h : OwnF E T R φ w base v xs) (hb : Below w.heap.size w w') : OwnF E T R φ w' base v xs := by
  obtain ⟨us, ds, h⟩ := h
  exact ⟨us, ds, h.below hb⟩
theorem OwnF.mono {w : World} {base base' : Nat} {v : Value} {xs : List β} (h : OwnF E T R φ w base v xs) (hb : base' ≤ base) : OwnF E T R φ w base' v xs := by
  obtain ⟨us, ds, h⟩ := h
  exact ⟨us, ds, h.mono hb⟩
theorem OwnF.empty (T : TypeId) (w : World) {base : Nat} (hb : base ≤ w.heap.size) : OwnF E T R φ (w.alloc (.cells #[] T)) base (.slice (some ⟨w.heap.size, 0, none⟩) 0 0) [] :=
  ⟨[], [], rfl, rfl, .nil, Own.empty _ _ hb, fun i u d x h => by simp at h⟩
theorem OwnF.nil (T : TypeId) (w : World) (base : Nat) : OwnF E T R φ w base (.slice none 0 0) [] :=
  ⟨[], [], rfl, rfl, .nil, Own.nil _ _ _, fun i u d x h => by simp at h⟩
theorem OwnFU.app {us : List α} {ds : List Dd} {w w' : World} {base : Nat} {v v' : Value} {xs : List β} (h : OwnFU E T R φ us ds w base v xs) {u : α} {d : Dd} {x : β} (ho : Own E T w' base v' (us ++ [u])) (hg : w.grownBy w' v.ownBlock)
    (hb : base ≤ d.lo) (hn : LocR T d.lo d.hi w (fun W => φ d W u x)) (hR : ∀ d' ∈ ds, R d' d) : OwnFU E T R φ (us ++ [u]) (ds ++ [d]) w' base v' (xs ++ [x]) := by
  have hd := h.ld
  refine ⟨by simp [h.lu], by simp [h.ld], List.pairwise_append.2 ⟨h.pw, by simp, fun a ha b hb => by simp at hb; subst hb; exact hR a ha⟩, ho, fun i u' d' x' h1 h2 h3 => ?_⟩
  by_cases hlt : i < xs.length
  · rw [List.getElem?_append_left (by rw [h.lu]; exact hlt)] at h1
    rw [List.getElem?_append_left (by rw [h.ld]; exact hlt)] at h2
    rw [List.getElem?_append_left hlt] at h3
    obtain ⟨r1, r2⟩ := h.rows i u' d' x' h1 h2 h3
    exact ⟨r1, r2.grown h.own hg⟩
  · rw [List.getElem?_append_right (by rw [h.lu]; omega), h.lu] at h1
    rw [List.getElem?_append_right (by rw [h.ld]; omega), h.ld] at h2
    rw [List.getElem?_append_right (by omega)] at h3
    have he : i - xs.length = 0 := by
      rcases Nat.eq_zero_or_pos (i - xs.length) with h | h
      · exact h
      · rw [List.getElem?_eq_none (by simp; omega)] at h3; cases h3
    rw [he] at h1 h2 h3
    simp at h1 h2 h3
    subst h1; subst h2; subst h3
    exact ⟨hb, hn.grown h.own hg⟩
/-- Element k. -/
theorem OwnFU.at {us : List α} {ds : List Dd} {w : World} {base : Nat} {a : Option Addr} {n c : Nat} {xs : List β} (h : OwnFU E T R φ us ds w base (.slice a n c) xs) {k : Nat} {x : β} (hx : xs[k]? = some x) :
    ∃ u d g, us[k]? = some u ∧ ds[k]? = some d ∧ a = some ⟨g, 0, none⟩ ∧ base ≤ g ∧ g < w.heap.size ∧ (∀ j y, (E.c u)[j]? = some y → w.cell? ⟨g, k * E.sz + j, none⟩ = some y) ∧ base ≤ d.lo ∧ LocR T d.lo d.hi w (fun W => φ d W u x) := by
  have hk := (List.getElem?_eq_some_iff.1 hx).1
  obtain ⟨u, hu⟩ := get_of_lt (xs := us) (k := k) (by rw [h.lu]; exact hk)
  obtain ⟨d, hd⟩ := get_of_lt (xs := ds) (k := k) (by rw [h.ld]; exact hk)
  obtain ⟨r1, r2⟩ := h.rows k u d x hu hd hx
  rcases h.own.shape with ⟨_, hn⟩ | ⟨g, cap, hv, hg1, hg2, _⟩
  · rw [hn] at hu; simp at hu
  · simp only [Value.slice.injEq] at hv
    obtain ⟨rfl, rfl, rfl⟩ := hv
    exact ⟨u, d, g, hu, hd, rfl, hg1, hg2, fun j y hy => h.own.cell hu hy, r1, r2⟩
theorem OwnF.shape {w : World} {base : Nat} {v : Value} {xs : List β} (h : OwnF E T R φ w base v xs) : (v = .slice none 0 0 ∧ xs = []) ∨ ∃ g cap, v = .slice (some ⟨g, 0, none⟩) xs.length cap ∧ base ≤ g ∧ g < w.heap.size := by
  obtain ⟨us, ds, h⟩ := h
  rcases h.own.shape with ⟨h1, h2⟩ | ⟨g, cap, h1, h2, h3, _⟩
  · refine .inl ⟨h1, ?_⟩
    have := h.lu
    rw [h2] at this
    exact List.length_eq_zero_iff.1 this.symm
  · exact .inr ⟨g, cap, by rw [h1, h.lu], h2, h3⟩
end

theorem Own.lit1 {α : Type} {E : El α} {T : TypeId} (w : World) {base : Nat} (hb : base ≤ w.heap.size) (x : α) : Own E T (w.alloc (.cells (E.c x).toArray T)) base (.slice (some ⟨w.heap.size, 0, none⟩) 1 1) [x] := by
  refine ⟨by simp [E.len], .inr ⟨w.heap.size, 1, (E.c x).toArray, rfl, hb, heap_alloc_new w _, Nat.le_refl _, by unfold maxLen; omega, by simp [E.len], ?_⟩⟩
  simp only [List.flatMap_cons, List.flatMap_nil, List.append_nil]
  rw [List.take_of_length_le (by simp [E.len])]

theorem run_append_zero {P : Program} {w : World} {base : Nat} {t ty e : TypeId} {i : TypeInfo} {size : Nat} (ht : P.underlying t = some (.slice e)) (hi : P.info? e = some i)
    {v : Value} {n c : Nat} {xs : List Value} (hown : w.ownsRow base e size v n xs) (ad : Addr) : (Builtin.append_ #[t, t] ty #[v, .slice (some ad) 0 c]).run P w = .ok v w := by
  rcases hown.2 with ⟨rfl, rfl⟩ | ⟨g, cap, cur, rfl, _, _, hnc, _⟩
  · simp [Builtin.append_, run_underlying ht, sizeOf, typeInfo, hi, Builtin.lenOf, Builtin.firstCells, loadCells, loadCellsFrom]
  · simp [Builtin.append_, run_underlying ht, sizeOf, typeInfo, hi, Builtin.lenOf, Builtin.firstCells, hnc, loadCells, loadCellsFrom, storeCells]

/-- A slice is appended, at a step of a region that draws. -/
theorem step_appS {α : Type} (E : El α) {P : Program} {w : World} {ops : Array Oper} {o : Oper} {a : Act} {K : Act → World → Prop} {Q : Exit → Act → World → Prop} {F : Prop}
    (T : TypeId) {zv : Value} {bytes : Nat} (hinfo : (P.info? T).map (fun i => (i.zero, i.size, i.bytes)) = some (some zv, E.sz, bytes)) (hz : zv.cells.size = E.sz) {t : TypeId} (h1 : P.underlying t = some (.slice T))
    (base : Nat) (v : Value) (xs ys : List α) (u : Value) (hown : Own E T w base v xs) (hrep : Rep E w u ys) (hby : bytes ≤ 256) (hn : xs.length + ys.length ≤ 68719476736) (hbase : base ≤ w.heap.size)
    (hg : o.guard = none) (s y : Operand) (hop : o.op = .call { callee := .builtin .append, args := #[s, y], argTypes := #[t, t] })
    (hs : a.eval s = v) (hy : a.eval y = u)
    (hK : ∀ v' w', Own E T w' base v' (xs ++ ys) → w.grownBy w' v.ownBlock → K (a.put o.dst v') w') :
    if Region.wanted o (yielded ops a.tmps) = true then Oper.wp P o a w K Q else F := by
  obtain ⟨it, hi, hz0, hz1, hz2⟩ := info_parts hinfo
  obtain ⟨ad, c, rfl, hc1, hc2, hcell⟩ := hrep
  have hw : Region.wanted o (yielded ops a.tmps) = true := by simp [Region.wanted, hg]
  have hnone : ∀ r : (Builtin.append_ #[t, t] o.type #[v, .slice ad ys.length c]).run P w = .ok v w, ys = [] → (if Region.wanted o (yielded ops a.tmps) = true then Oper.wp P o a w K Q else F) := fun r hys => by
    rw [if_pos hw]
    unfold Oper.wp
    simp [execOp, hop, resolve, invoke, builtin, hs, hy, r, Result.andThen]
    exact hK _ _ (by subst hys; simpa using hown) (World.grownBy.refl _ _)
  cases ad with
  | none =>
    have hys : ys = [] := by
      cases ys with
      | nil => rfl
      | cons y ys => obtain ⟨b, o, hb, _⟩ := hcell 0 y rfl; cases hb
    exact hnone (by subst hys; exact run_append_none h1 hi hown) hys
  | some ad =>
    by_cases hys : ys = []
    · exact hnone (by subst hys; exact run_append_zero h1 hi hown ad) hys
    have hpos : 0 < ys.length := List.length_pos_iff.2 hys
    refine step_append_lies w hg s y t hop base T it zv E.sz bytes h1 hi hz0 hz1 hz2 hz E.pos v xs.length _ hs hown ad ys.length c (ys.flatMap E.c) hy (E.length ys) ?_ ?_ hpos (by unfold maxLen; omega) ?_ hbase _ rfl ?_
    · intro j u hu
      have hpos := E.pos
      have hj : j = j / E.sz * E.sz + j % E.sz := by rw [Nat.mul_comm]; exact (Nat.div_add_mod j E.sz).symm
      have hm : j % E.sz < E.sz := Nat.mod_lt _ hpos
      have hu2 := hu
      rw [hj, E.get ys _ _ hm] at hu2
      cases hx : ys[j / E.sz]? with
      | none => rw [hx] at hu2; cases hu2
      | some x =>
        rw [hx] at hu2
        obtain ⟨b, o, hb, h⟩ := hcell _ x hx
        simp only [Option.some.injEq] at hb
        subst hb
        have hc := h (j % E.sz) u hu2
        rw [Addr.add_lit, hj, ← Nat.add_assoc]
        exact hc
    · intro u hu
      rw [List.mem_flatMap] at hu
      obtain ⟨x, _, hx⟩ := hu
      exact E.one x u hx
    · have := Nat.mul_le_mul (show xs.length + ys.length ≤ 68719476736 from hn) hby
      omega
    · intro g cap w' h2 h3 _ _
      refine hK _ w' ?_ h3
      unfold Own
      simpa [List.flatMap_append] using h2

end Go.Proofs.YtpbmlppdmdmfkaaGreatDoor

namespace Go.Proofs.YtpbmlppdmdmfkaaGreatDoor
open Go.RowKit

theorem kept_d {w w' : World} {ob : Obj} {row : Option Nat} (hg : (w.alloc ob).drew.grownBy w' row) {b : Nat} (hb : b < w.heap.size) (hne : ∀ q, row = some q → q ≠ b) (o : Nat) : w'.cell? ⟨b, o, none⟩ = w.cell? ⟨b, o, none⟩ :=
  kept_cell (w := w.drew) (ob := ob) hg hb hne o
theorem below_lit {w w' : World} {l : Array Value} {T : TypeId} {n c : Nat} (hg : (w.alloc (.cells l T)).drew.grownBy w' (Value.slice (some ⟨w.heap.size, 0, none⟩) n c).ownBlock) : Below w.heap.size w w' :=
  ((Below.refl w.heap.size w).alloc (Nat.le_refl _) (.cells l T)).drew.grown hg (by simp) (fun q hq => by simp [Value.ownBlock] at hq; omega)
/-- One after the other. -/
def Rafter (a b : Dd) : Prop := a.hi ≤ b.lo
def PhiI (d : Dd) (W : World) (u : Slc) (x : List Int) : Prop := Own IntE 3 W d.lo u.v x ∧ ∀ q, u.v.ownBlock = some q → q < d.hi
abbrev RowsI (w : World) (base : Nat) (v : Value) (L : List (List Int)) : Prop := OwnF SlcE 25 Rafter PhiI w base v L
theorem PhiI.loc {w : World} {lo : Nat} {u : Slc} {x : List Int} (h : Own IntE 3 w lo u.v x) : LocR 25 lo w.heap.size w (fun W => PhiI ⟨lo, w.heap.size, []⟩ W u x) :=
  (LocR.own (by decide) h).map fun _ k => ⟨k, fun q hq => (World.ownsRow.lt h q hq).2⟩
theorem OwnFU.hi {α β : Type} {E : El α} {T : TypeId} {R : Dd → Dd → Prop} {φ : Dd → World → α → β → Prop} {us : List α} {ds : List Dd} {w : World} {base : Nat} {v : Value} {xs : List β} (h : OwnFU E T R φ us ds w base v xs) : ∀ d ∈ ds, d.hi ≤ w.heap.size := by
  intro d hd
  obtain ⟨k, hk⟩ := List.mem_iff_getElem?.1 hd
  have hlt := (List.getElem?_eq_some_iff.1 hk).1
  obtain ⟨u, hu⟩ := get_of_lt (xs := us) (k := k) (by rw [h.lu, ← h.ld]; exact hlt)
  obtain ⟨x, hx⟩ := get_of_lt (xs := xs) (k := k) (by rw [← h.ld]; exact hlt)
  exact (h.rows k u d x hu hk hx).2.le
/-- Row k of a list of rows. -/
theorem RowsI.row {w : World} {base : Nat} {a : Option Addr} {n c : Nat} {L : List (List Int)} (h : RowsI w base (.slice a n c) L) {k : Nat} {r : List Int} (hr : L[k]? = some r) :
    ∃ (u : Slc) (g : Nat), a = some ⟨g, 0, none⟩ ∧ g < w.heap.size ∧ w.cell? ⟨g, k, none⟩ = some (.slice u.a u.n u.cap) ∧ Rep IntE w u.v r := by
  obtain ⟨us, ds, h⟩ := h
  obtain ⟨u, d, g, -, -, h1, -, h2, h3, -, h4⟩ := h.at hr
  have h5 := h3 0 _ rfl
  simp only [SlcE, Nat.mul_one, Nat.add_zero] at h5
  exact ⟨u, g, h1, h2, h5, h4.now.1.rep⟩
/-- A row is made of a literal and a slice, and appended to the rows. -/
theorem RowsI.app {us : List Slc} {ds : List Dd} {w w1 w2 : World} {base lo : Nat} {v v' : Value} {L : List (List Int)} (h : OwnFU SlcE 25 Rafter PhiI us ds w base v L) (hb : Below w.heap.size w w1) (hbase : base ≤ w.heap.size) {r : List Int} {s : Slc} {ob : Obj}
    (hlo : lo = w.heap.size) (hu : Own IntE 3 w1 lo s.v r) (ho : Own SlcE 25 w2 base v' (us ++ [s])) (hg : (w1.alloc ob).grownBy w2 v.ownBlock) : RowsI w2 base v' (L ++ [r]) := by
  subst hlo
  have hba := (Below.refl w1.heap.size w1).alloc (Nat.le_refl _) ob
  have hd := h.hi
  exact ⟨us ++ [s], ds ++ [⟨w.heap.size, w1.heap.size, []⟩], OwnFU.app (d := ⟨w.heap.size, w1.heap.size, []⟩) ((h.below hb).below hba) ho hg hbase ((PhiI.loc hu).below hba) (fun d' h' => (hd d' h' : d'.hi ≤ w.heap.size))⟩

theorem pre1_take {i : Nat} {RR : List (List Int)} {x : Int} {j : Nat} (h : x = (i : Int) → j = 0) (h2 : j = RR.length ∨ x = (i : Int)) : (RR.take j).map (x :: ·) = pre1 i RR x := by
  unfold pre1
  by_cases hx : x = (i : Int)
  · rw [if_pos hx, h hx]; rfl
  · rw [if_neg hx]
    rcases h2 with h2 | h2
    · rw [h2, List.take_length]
    · exact absurd h2 hx
theorem fromsL_row {es : List Ev} : ∀ (n i : Nat), i + n = es.length → ∀ r ∈ fromsL es i, r.length = n := by
  intro n
  induction n with
  | zero =>
    intro i hi r hr
    obtain rfl : i = es.length := by omega
    rw [fromsL_end] at hr; simp at hr; subst hr; rfl
  | succ n ih =>
    intro i hi r hr
    rw [fromsL_step (by omega), List.mem_flatMap] at hr
    obtain ⟨k, -, hk⟩ := hr
    unfold pre1 at hk
    split at hk
    · simp at hk
    · rw [List.mem_map] at hk
      obtain ⟨y, hy, rfl⟩ := hk
      rw [List.length_cons, ih (i + 1) (by omega) y hy]

set_option maxRecDepth 100000 in
set_option maxHeartbeats 6400000 in
theorem l6Froms_any (es : List Ev) (hl : es.length ≤ 1048576) (hfew : ∀ i, (fromsL es i).length ≤ 3000) (n : Nat) : ∀ (v : Value) (i : Nat) (w : World), i + n = es.length → Rep EvE w v es →
    Calls Tryz.prog 232 #[v, .int .i64 i] w fun e w' => ∃ u : Slc, e = .returned (.slice u.a u.n u.cap) ∧ RowsI w' w.heap.size u.v (fromsL es i) ∧ Below w.heap.size w w' := by
  induction n with
  | zero =>
    intro v i w hi he
    obtain ⟨a, c, rfl, -, -, -, -⟩ := he.open
    obtain rfl : i = es.length := by omega
    rw [fromsL_end]
    generalize es.length = m at *
    go_enter Tryz.func232, Tryz.ntmps232
    go_wp2_with fail
    go_ret
    have hb1 := (Below.refl w.heap.size w).alloc (Nat.le_refl _) (.cells #[] 3)
    have h0 := Own.empty (E := IntE) 3 w (Nat.le_refl _)
    have hz : (w.alloc (.cells #[] 3)).heap.size = w.heap.size + 1 := by simp
    have h1 := Own.lit1 (E := SlcE) (T := 25) (w.alloc (.cells #[] 3)) (base := w.heap.size) (by omega) ⟨some ⟨w.heap.size, 0, none⟩, 0, 0⟩
    refine ⟨⟨some ⟨w.heap.size + 1, 0, none⟩, 1, 1⟩, rfl, ⟨[⟨some ⟨w.heap.size, 0, none⟩, 0, 0⟩], [⟨w.heap.size, w.heap.size + 1, []⟩], rfl, rfl, by simp, by rw [hz] at h1; exact h1, fun i u d x h2 h3 h4 => ?_⟩, hb1.alloc (by omega) _⟩
    cases i with
    | succ i => simp at h2
    | zero =>
      simp at h2 h3 h4
      subst h2; subst h3; subst h4
      refine ⟨Nat.le_refl _, ?_⟩
      have h5 := (PhiI.loc (u := ⟨some ⟨w.heap.size, 0, none⟩, 0, 0⟩) h0).below ((Below.refl _ (w.alloc (.cells #[] 3))).alloc (Nat.le_refl _) (.cells (SlcE.c ⟨some ⟨w.heap.size, 0, none⟩, 0, 0⟩).toArray 25))
      rw [hz] at h5
      exact h5
  | succ n ih =>
    intro v i0 w hi he
    have hcast : ((i0 + 1 : Nat) : Int) = (i0 : Int) + 1 := by omega
    have HI := hide (fun w' h => ih v (i0 + 1) w' (by omega) h)
    rw [hcast] at HI
    have HW := hide (fun l w' h => l6Writers_any v es l w' h (by omega))
    have HROW := hide (fun r (hr : r ∈ fromsL es (i0 + 1)) => fromsL_row n (i0 + 1) (by omega) r hr)
    have HF1 := hide (hfew (i0 + 1)); have HF0 := hide (hfew i0)
    have HST := hide (fromsL_step (es := es) (i := i0) (by omega))
    have HE := hide he
    obtain ⟨a, c, rfl, -, -, -, he2⟩ := he.open
    obtain ⟨e, hei⟩ := get_of_lt (xs := es) (k := i0) (by omega)
    have HFC : Hid (fromC es i0 = if e.r = true then wrL es e.l else [-1]) := hide (by unfold fromC; rw [hei])
    have HWL := hide (wrL_length es e.l)
    obtain ⟨b, o, rfl, hbl, j0, j1, i2, i3, j4⟩ := he2.ev hei
    have hiN : i0 < es.length := by omega
    have hlt' := nat_of_lt hiN
    have hne : ((i0 : Int) == (es.length : Int)) = false := by simp; omega
    have hni : (i0 + 1) + n = es.length := by omega
    clear he he2 ih hei hcast j0 j1 j4 hfew hiN hi
    generalize hm : es.length = m at *
    generalize fromsL es i0 = R at *
    generalize hRR : fromsL es (i0 + 1) = RR at *
    generalize hFC : fromC es i0 = FC at *
    obtain ⟨et, ei, el, er, ew⟩ := e
    simp only at HFC HWL i2 i3
    go_enter Tryz.func232, Tryz.ntmps232
    go_wp2_with fail
    (with_reducible refine (HI.out _ HE.out).mono ?_); rintro e w2 ⟨u, rfl, ou, hb2⟩
    have HRR := hide ou; have HB2 := hide hb2
    have i2 := (hb2.cell (p := ⟨b, o + i0 * 5 + 2, none⟩) hbl).trans i2
    have i3 := (hb2.cell (p := ⟨b, o + i0 * 5 + 3, none⟩) hbl).trans i3
    have hbl2 := Nat.lt_of_lt_of_le hbl hb2.size
    obtain ⟨ua, un, uc⟩ := u
    have hun : un = RR.length := by
      rcases ou.shape with ⟨h1, h2⟩ | ⟨g, cap, h1, -⟩
      · simp only [Value.slice.injEq] at h1; rw [h1.2.1, h2]; rfl
      · simp only [Value.slice.injEq] at h1; exact h1.2.1
    clear ou hb2
    have HLEN : Hid (RR.length ≤ 3000) := hide HF1.out
    have HRN : Hid (RR.length = un) := hide hun.symm
    clear hun
    go_upto_if 25 with fail
    go_cut [6] (fun s6 W => ∃ f : Slc, s6 = .slice f.a f.n f.cap ∧ Rep IntE W f.v FC ∧ Below w2.heap.size w2 W)
    case first =>
      cases er
      · go_wp2_with fail
        go_meet
        exact ⟨⟨some ⟨w2.heap.size, 0, none⟩, 1, 1⟩, rfl, by rw [HFC.out, if_neg (by simp)]; exact (Own.lit1 (E := IntE) (T := 3) w2 (Nat.le_refl _) (-1)).rep, (Below.refl _ _).alloc (Nat.le_refl _) _⟩
      · have hbl0 := (Below.refl w2.heap.size w2).alloc (Nat.le_refl _) (.cells #[.int .i64 (-1)] 3)
        have HBL := hide hbl0
        have HW2 := hide (HW.out el _ (HE.out.below (HB2.out.trans (hbl0.mono HB2.out.size))))
        clear hbl0
        go_wp2_with fail
        (with_reducible refine HW2.out.mono ?_); rintro e w3 ⟨uf, rfl, of, hb3⟩
        obtain ⟨⟨fa, fn, fc⟩, rfl, -⟩ := of.toSlc
        go_wp2_with fail
        go_meet
        exact ⟨⟨fa, fn, fc⟩, rfl, by have h := HFC.out; simp at h; rw [h]; exact of.rep, HBL.out.trans (hb3.mono HBL.out.size)⟩
    case rest =>
      obtain ⟨⟨fa, fn, fc⟩, rfl, hrf, hbc⟩ := hcut
      have HFCL : Hid (FC.length ≤ m + 1) := hide (by
        rw [HFC.out]
        split
        · have := HWL.out; omega
        · simp)
      obtain ⟨fa', fc', heq, -, -, -, -⟩ := hrf.open
      simp only [Slc.v, Value.slice.injEq] at heq
      obtain ⟨rfl, rfl, rfl⟩ := heq
      have HRF := hide hrf
      have HRC := hide (HRR.out.below hbc)
      have HBC := hide (HB2.out.trans (hbc.mono HB2.out.size))
      generalize hfn : FC.length = fn at *
      have HFN := hide hfn
      have hfb : fn ≤ 1048577 := by have := HFCL.out; omega
      have hub : un ≤ 3000 := by have := HLEN.out; have := HRN.out; omega
      clear hfn i2 i3 hbl2 HRR HB2 hbc hrf HW HI HFC HWL
      go_wp2_with fail
      go_loopw [7, 8] (fun s i wr => ∃ k : Nat, k ≤ fn ∧ i = .int .i64 k ∧ RowsI wr wc.heap.size s ((FC.take k).flatMap (pre1 i0 RR)) ∧ Below wc.heap.size wc wr) (fun _ i _ => fn - (intOf i).toNat)
      case atStart => exact ⟨0, Nat.zero_le _, rfl, OwnF.empty _ wc (Nat.le_refl _), (Below.refl _ _).alloc (Nat.le_refl _) _⟩
      case round =>
        obtain ⟨k, hk, rfl, hrows, hbr⟩ := hrel
        by_cases hlt : k < fn
        · obtain ⟨x, hxk⟩ := get_of_lt (xs := FC) (k := k) (by rw [HFN.out]; exact hlt)
          have hltk := nat_of_lt hlt
          have GS := hide (flatMap_take_succ (pre1 i0 RR) hxk)
          have HGL : Hid (((FC.take k).flatMap (pre1 i0 RR)).length ≤ 3000) := hide (by
            have := flatMap_take_le (pre1 i0 RR) FC k
            rw [← HST.out] at this
            exact Nat.le_trans this HF0.out)
          obtain ⟨bf, of, rfl, hbf, f0⟩ := HRF.out.int hxk
          have F0 := hide f0; have HBF := hide hbf
          generalize (FC.take k).flatMap (pre1 i0 RR) = G at *
          have HRO := hide hrows; have HBR := hide hbr
          clear hrows hbr hxk f0 hbf
          go_wp2_with fail
          go_loopw [7, 9] (fun s i wr => ∃ j : Nat, j ≤ un ∧ i = .int .i64 j ∧ RowsI wr wc.heap.size s (G ++ (RR.take j).map (x :: ·)) ∧ Below wc.heap.size wc wr ∧ Hid (x = (i0 : Int) → j = 0)) (fun _ i _ => un - (intOf i).toNat)
          case atStart => exact ⟨0, Nat.zero_le _, rfl, by rw [List.take_zero, List.map_nil, List.append_nil]; exact HRO.out, HBR.out, hide (fun _ => rfl)⟩
          case round =>
            obtain ⟨j, hj, rfl, hrows, hbr, hx0⟩ := hrel
            by_cases hltj : j < un
            · obtain ⟨r, hrj⟩ := get_of_lt (xs := RR) (k := j) (by rw [HRN.out]; exact hltj)
              have hltj' := nat_of_lt hltj
              have f0 := (hbr.cell (p := ⟨bf, of + k, none⟩) HBF.out).trans F0.out
              have hbf := Nat.lt_of_lt_of_le HBF.out hbr.size
              by_cases hx : x = (i0 : Int)
              · have k1 : (x != (i0 : Int)) = false := by simp [hx]
                have P1 := hide (pre1_take (RR := RR) hx0.out (.inr hx))
                clear hx
                go_wp2_with fail
                go_roundw
                case rel => exact ⟨k + 1, by omega, by go_num, by rw [GS.out, ← P1.out]; exact hrows, hbr⟩
                case measure => simp [intOf]; omega
              · have k1 : (x != (i0 : Int)) = true := by simp [hx]
                have HX := hide hx
                clear hx
                obtain ⟨⟨ra, rn, rc⟩, g, hga, hg, g0, hrep⟩ := RowsI.row (HRC.out.below hbr) hrj
                have hgc : g < wc.heap.size := by
                  obtain ⟨-, g', hga', hgc, -⟩ := RowsI.row HRC.out hrj
                  rw [hga] at hga'; simp at hga'; omega
                subst hga
                have RS : Hid (G ++ (RR.take (j + 1)).map (x :: ·) = (G ++ (RR.take j).map (x :: ·)) ++ [x :: r]) := hide (by rw [map_take_succ (x :: ·) hrj, List.append_assoc])
                have hrl := HROW.out r (List.mem_of_getElem? hrj)
                have hlen : (G ++ (RR.take j).map (x :: ·)).length ≤ 68719476736 := by
                  rw [List.length_append, List.length_map, List.length_take]
                  have := HGL.out; have := HRN.out; have := HLEN.out; omega
                have hn1 : ([x] : List Int).length + r.length ≤ 68719476736 := by simp; omega
                have HRP := hide (hrep.below ((Below.refl wr.heap.size wr).alloc (Nat.le_refl _) (.cells #[.int .i64 x] 3)).drew)
                obtain ⟨us, ds, hU⟩ := hrows
                have HUL : Hid (us.length ≤ 68719476736) := hide (by rw [hU.lu]; exact hlen)
                have HU := hide hU
                have HBR2 := hide hbr
                have HLT : Hid (Own IntE 3 (wr.alloc (.cells #[.int .i64 x] 3)).drew wr.heap.size (.slice (some ⟨wr.heap.size, 0, none⟩) 1 1) [x]) := hide (Own.lit1 (E := IntE) (T := 3) wr (Nat.le_refl _) x)
                have hbs : wc.heap.size ≤ wr.heap.size := hbr.size
                have hq7 : ∀ q, u7.ownBlock = some q → wc.heap.size ≤ q := fun q hq => (World.ownsRow.lt hU.own q hq).1
                have HQ7 := hide hq7
                have HBFc := hide (show bf < wc.heap.size from HBF.out)
                have HGc := hide hgc
                generalize G ++ (RR.take j).map (x :: ·) = GG at *
                clear hrj hrep hbr hrl hU hlen hq7
                go_wp2_with fail
                go_region_held3 (fun V => V.cell? ⟨bf, of + k, none⟩ = some (.int .i64 x) ∧ V.cell? ⟨g, j, none⟩ = some (.slice ra rn rc)) ((simp [go_sem, *]))
                  (first
                    | (refine step_appS IntE 3 Tryz.infoInt rfl Tryz.underlying25 wr.heap.size _ [x] r _ HLT.out HRP.out (by decide) hn1 (by simp) (by rfl) _ _ (by rfl) (by rfl) (by rfl) ?_; intro v6 w6 hown6 hgr6; obtain ⟨⟨a6, n6, c6⟩, rfl, -⟩ := hown6.toSlc; have O6 := hide hown6; have hk6 : (∀ o, w6.cell? ⟨bf, o, none⟩ = wr.cell? ⟨bf, o, none⟩) := (kept_d hgr6 hbf (fun q hq => by simp [Value.ownBlock] at hq; omega)); have hk7 : (∀ o, w6.cell? ⟨g, o, none⟩ = wr.cell? ⟨g, o, none⟩) := (kept_d hgr6 hg (fun q hq => by simp [Value.ownBlock] at hq; omega)); have B6 := hide (below_lit hgr6); have hb6 := B6.out.size; have hz6 : bf < w6.heap.size := (Nat.lt_of_lt_of_le hbf hb6); have hz7 : g < w6.heap.size := (Nat.lt_of_lt_of_le hg hb6); clear hown6 hgr6)
                    | (refine step_app SlcE 25 Tryz.infoIntS rfl Tryz.underlying33 wc.heap.size _ us ⟨a6, n6, c6⟩ ((HU.out.own.below B6.out).alloc _) (by decide) HUL.out (by simp; omega) (by rfl) _ _ (by rfl) (by rfl) w6.heap.size 0 1 (by rfl) news_alloc ?_; intro v8 w8 hown8 hgr8; have hk8 : (∀ o, w8.cell? ⟨bf, o, none⟩ = wr.cell? ⟨bf, o, none⟩) := (fun o => (kept_cell hgr8 (by omega) (fun q hq => by have := HQ7.out q hq; have := HBFc.out; omega) o).trans (hk6 o)); have hk9 : (∀ o, w8.cell? ⟨g, o, none⟩ = wr.cell? ⟨g, o, none⟩) := (fun o => (kept_cell hgr8 (by omega) (fun q hq => by have := HQ7.out q hq; have := HGc.out; omega) o).trans (hk7 o))))
                have R8 := RowsI.app HU.out B6.out hbs rfl O6.out hown8 hgr8
                have B8 := (HBR2.out.trans (B6.out.mono hbs)).alloc (by omega) (.cells #[.slice a6 n6 c6] 25)
                have B9 := B8.grown hgr8 (by simp; omega) (fun q hq => HQ7.out q hq)
                go_wp2_with fail
                go_roundw
                case rel => exact ⟨j + 1, by omega, by go_num, by rw [RS.out]; exact R8, B9, hide (fun h => absurd h HX.out)⟩
                case measure => simp [intOf]; omega
            · obtain rfl : j = un := by omega
              have P1 := hide (pre1_take (RR := RR) hx0.out (.inl HRN.out.symm))
              go_wp2_with fail
              go_roundw
              case rel => exact ⟨k + 1, by omega, by go_num, by rw [GS.out, ← P1.out]; exact hrows, hbr⟩
              case measure => simp [intOf]; omega
        · obtain rfl : k = fn := by omega
          obtain ⟨us, ds, hU⟩ := hrows
          obtain ⟨⟨qa, qn, qc⟩, rfl, -⟩ := hU.own.toSlc
          have hrows : RowsI _ _ _ _ := ⟨us, ds, hU⟩
          clear hU
          go_wp2_with fail
          go_ret
          refine ⟨⟨qa, qn, qc⟩, rfl, ?_, ?_⟩
          · rw [HST.out]
            have h := hrows
            rw [List.take_of_length_le (by rw [HFN.out]; exact Nat.le_refl _)] at h
            exact h.mono HBC.out.size
          · exact HBC.out.trans (hbr.mono HBC.out.size)

end Go.Proofs.YtpbmlppdmdmfkaaGreatDoor

namespace Go.Proofs.YtpbmlppdmdmfkaaGreatDoor
open Go.RowKit

theorem OwnFU.grown_ne {α β γ : Type} {E : El α} {F : El γ} {T : TypeId} {R : Dd → Dd → Prop} {φ : Dd → World → α → β → Prop} {us : List α} {ds : List Dd} {w w' : World} {base base' : Nat} {v v' : Value} {xs : List β} {ys : List γ} (h : OwnFU E T R φ us ds w base v xs)
    (ho : Own F T w base' v' ys) (hg : w.grownBy w' v'.ownBlock) (hne : v.ownBlock = none ∨ v.ownBlock ≠ v'.ownBlock) : OwnFU E T R φ us ds w' base v xs :=
  ⟨h.lu, h.ld, h.pw, h.own.grown hg hne, fun i u d x h1 h2 h3 => ⟨(h.rows i u d x h1 h2 h3).1, (h.rows i u d x h1 h2 h3).2.grown ho hg⟩⟩
theorem OwnF.grown_ne {α β γ : Type} {E : El α} {F : El γ} {T : TypeId} {R : Dd → Dd → Prop} {φ : Dd → World → α → β → Prop} {w w' : World} {base base' : Nat} {v v' : Value} {xs : List β} {ys : List γ} (h : OwnF E T R φ w base v xs)
    (ho : Own F T w base' v' ys) (hg : w.grownBy w' v'.ownBlock) (hne : v.ownBlock = none ∨ v.ownBlock ≠ v'.ownBlock) : OwnF E T R φ w' base v xs := by
  obtain ⟨us, ds, h⟩ := h
  exact ⟨us, ds, h.grown_ne ho hg hne⟩

/-- One element is appended, at a step of a region that draws: and where the row lies then. -/
theorem step_appL {α : Type} (E : El α) {P : Program} {w : World} {ops : Array Oper} {o : Oper} {a : Act} {K : Act → World → Prop} {Q : Exit → Act → World → Prop} {F : Prop}
    (T : TypeId) {zv : Value} {bytes : Nat} (hinfo : (P.info? T).map (fun i => (i.zero, i.size, i.bytes)) = some (some zv, E.sz, bytes)) (hz : zv.cells.size = E.sz) {t : TypeId} (h1 : P.underlying t = some (.slice T))
    (base : Nat) (v : Value) (xs : List α) (x : α) (hown : Own E T w base v xs) (hby : bytes ≤ 256) (hn : xs.length ≤ 68719476736) (hbase : base ≤ w.heap.size)
    (hg : o.guard = none) (s y : Operand) (hop : o.op = .call { callee := .builtin .append, args := #[s, y], argTypes := #[t, t] })
    (hs : a.eval s = v) (b off c : Nat) (hy : a.eval y = .slice (some ⟨b, off, none⟩) 1 c) (hnews : ∀ j u, (E.c x)[j]? = some u → w.cell? ⟨b, off + j, none⟩ = some u)
    (hK : ∀ v' w', Own E T w' base v' (xs ++ [x]) → w.grownBy w' v.ownBlock → (v'.ownBlock = v.ownBlock ∨ v'.ownBlock = some w.heap.size) → K (a.put o.dst v') w') :
    if Region.wanted o (yielded ops a.tmps) = true then Oper.wp P o a w K Q else F := by
  obtain ⟨it, hi, hz0, hz1, hz2⟩ := info_parts hinfo
  refine step_append_lies w hg s y t hop base T it zv E.sz bytes h1 hi hz0 hz1 hz2 hz E.pos v xs.length _ hs hown ⟨b, off, none⟩ 1 c (E.c x) hy (by rw [E.len, Nat.one_mul]) ?_ (E.one x) (by omega) (by unfold maxLen; omega) ?_ hbase _ rfl ?_
  · intro j u hu
    have hadd : (⟨b, off, none⟩ : Addr).add j = ⟨b, off + j, none⟩ := by unfold Addr.add; split <;> simp_all
    rw [hadd]
    exact hnews j u hu
  · have := Nat.mul_le_mul (show xs.length + 1 ≤ 68719476737 by omega) hby
    omega
  · intro g cap w' h2 h3 h4 _
    refine hK _ w' ?_ h3 ?_
    · unfold Own
      simpa [List.flatMap_append] using h2
    · rcases h4 with h4 | h4
      · exact .inl (by rw [h4]; rfl)
      · exact .inr (by rw [h4]; rfl)

theorem Rep.takeI {w : World} {a : Option Addr} {n c : Nat} {xs : List Int} (h : Rep IntE w (.slice a n c) xs) {k : Nat} (hk : k ≤ xs.length) : Rep IntE w (.slice a k c) (xs.take k) := by
  obtain ⟨a', c', hv, h1, h2, h3⟩ := h
  simp only [Value.slice.injEq] at hv
  obtain ⟨rfl, rfl, rfl⟩ := hv
  refine ⟨a, c, by rw [List.length_take, Nat.min_eq_left hk], by rw [List.length_take]; omega, h2, fun i x hx => ?_⟩
  rw [List.getElem?_take] at hx
  split at hx
  · exact h3 i x hx
  · cases hx
theorem Rep.dropI {w : World} {b o n c : Nat} {xs : List Int} (h : Rep IntE w (.slice (some ⟨b, o, none⟩) n c) xs) {k : Nat} (hk : k ≤ xs.length) : Rep IntE w (.slice (some ⟨b, o + k, none⟩) (n - k) (c - k)) (xs.drop k) := by
  obtain ⟨a', c', hv, h1, h2, h3⟩ := h
  simp only [Value.slice.injEq] at hv
  obtain ⟨rfl, rfl, rfl⟩ := hv
  refine ⟨some ⟨b, o + k, none⟩, c - k, by rw [List.length_drop], by rw [List.length_drop]; omega, by omega, fun i x hx => ?_⟩
  rw [List.getElem?_drop] at hx
  obtain ⟨b', o', hb, h4⟩ := h3 (k + i) x hx
  simp only [Option.some.injEq, Addr.mk.injEq, and_true] at hb
  obtain ⟨rfl, rfl⟩ := hb
  refine ⟨b, o + k, rfl, fun j u hu => ?_⟩
  have h5 := h4 j u hu
  rw [show o + k + i * IntE.sz + j = o + (k + i) * IntE.sz + j by simp only [IntE]; omega]
  exact h5

theorem Rep.dropV {w : World} {b o n c : Nat} {xs : List Int} (h : Rep IntE w (.slice (some ⟨b, o, none⟩) n c) xs) {k : Nat} (hk : k ≤ xs.length) : Rep IntE w (.slice (if c = k then some ⟨b, o, none⟩ else some ⟨b, o + k, none⟩) (n - k) (c - k)) (xs.drop k) := by
  split
  · rename_i hc
    obtain ⟨a', c', hv, h1, h2, h3⟩ := h
    simp only [Value.slice.injEq] at hv
    obtain ⟨rfl, rfl, rfl⟩ := hv
    refine ⟨_, _, by rw [List.length_drop], by rw [List.length_drop]; omega, by omega, fun i x hx => ?_⟩
    rw [List.getElem?_eq_none (by rw [List.length_drop]; omega)] at hx
    cases hx
  · exact h.dropI hk

def permTo (xs : List Int) (k : Nat) : List (List Int) := (List.range k).flatMap fun i => (permsL (xs.eraseIdx i)).map (xs.getD i 0 :: ·)
theorem permTo_succ (xs : List Int) (k : Nat) : permTo xs (k + 1) = permTo xs k ++ (permsL (xs.eraseIdx k)).map (xs.getD k 0 :: ·) := by
  unfold permTo
  rw [List.range_succ, List.flatMap_append]
  simp
theorem permTo_length (xs : List Int) (k : Nat) (hk : k ≤ xs.length) : (permTo xs k).length ≤ fact xs.length := by
  have h := permsL_length xs
  by_cases h0 : xs.length = 0
  · have : k = 0 := by omega
    subst this
    simp [permTo]
  · have h1 := flatMap_length_le (fun i => (permsL (xs.eraseIdx i)).map (xs.getD i 0 :: ·)) (fact (xs.length - 1)) (List.range k) (fun i hi => by
      rw [List.mem_range] at hi
      rw [List.length_map]
      refine Nat.le_trans (permsL_length _) ?_
      rw [List.length_eraseIdx, if_pos (by omega)]
      exact Nat.le_refl _)
    rw [List.length_range] at h1
    obtain ⟨m, hm⟩ : ∃ m, xs.length = m + 1 := ⟨xs.length - 1, by omega⟩
    rw [hm] at h1 ⊢
    rw [fact, Nat.mul_comm]
    exact Nat.le_trans h1 (Nat.mul_le_mul_right _ (by omega))
theorem permsL_row : ∀ (n : Nat) (xs : List Int), xs.length = n → ∀ r ∈ permsL xs, r.length = n := by
  intro n
  induction n with
  | zero =>
    intro xs hx r hr
    have : xs = [] := List.length_eq_zero_iff.1 hx
    subst this
    rw [permsL_nil] at hr; simp at hr; subst hr; rfl
  | succ n ih =>
    intro xs hx r hr
    rw [permsL_step (by omega), List.mem_flatMap] at hr
    obtain ⟨k, hk1, hk⟩ := hr
    rw [List.mem_range] at hk1
    rw [List.mem_map] at hk
    obtain ⟨y, hy, rfl⟩ := hk
    rw [List.length_cons, ih _ (by rw [List.length_eraseIdx, if_pos hk1, hx]; rfl) y hy]
theorem fact_mono {m n : Nat} (h : m ≤ n) : fact m ≤ fact n := by
  obtain ⟨k, h1, h2⟩ := fact_mul h
  rw [h2]; exact Nat.le_mul_of_pos_right _ h1
theorem fact_lt {n : Nat} (h : fact n ≤ 3000) : n ≤ 6 := by
  rcases Nat.lt_or_ge 6 n with h1 | h1
  · have := fact_mono h1
    have e : fact (Nat.succ 6) = 5040 := by decide
    omega
  · exact h1

set_option maxRecDepth 100000 in
set_option maxHeartbeats 6400000 in
theorem l6Perms_any (n : Nat) : ∀ (v : Value) (xs : List Int) (w : World), xs.length = n → fact n ≤ 3000 → Rep IntE w v xs →
    Calls Tryz.prog 279 #[v] w fun e w' => ∃ u : Slc, e = .returned (.slice u.a u.n u.cap) ∧ RowsI w' w.heap.size u.v (permsL xs) ∧ Below w.heap.size w w' := by
  induction n with
  | zero =>
    intro v xs w hx _ he
    obtain rfl : xs = [] := List.length_eq_zero_iff.1 hx
    obtain ⟨a, c, rfl, -, -, -, -⟩ := he.open
    rw [permsL_nil]
    go_enter Tryz.func279, Tryz.ntmps279
    go_wp2_with fail
    go_ret
    have hb1 := (Below.refl w.heap.size w).alloc (Nat.le_refl _) (.cells #[] 3)
    have h0 := Own.empty (E := IntE) 3 w (Nat.le_refl _)
    have hz : (w.alloc (.cells #[] 3)).heap.size = w.heap.size + 1 := by simp
    have h1 := Own.lit1 (E := SlcE) (T := 25) (w.alloc (.cells #[] 3)) (base := w.heap.size) (by omega) ⟨some ⟨w.heap.size, 0, none⟩, 0, 0⟩
    refine ⟨⟨some ⟨w.heap.size + 1, 0, none⟩, 1, 1⟩, rfl, ⟨[⟨some ⟨w.heap.size, 0, none⟩, 0, 0⟩], [⟨w.heap.size, w.heap.size + 1, []⟩], rfl, rfl, by simp, by rw [hz] at h1; exact h1, fun i u d x h2 h3 h4 => ?_⟩, hb1.alloc (by omega) _⟩
    cases i with
    | succ i => simp at h2
    | zero =>
      simp at h2 h3 h4
      subst h2; subst h3; subst h4
      refine ⟨Nat.le_refl _, ?_⟩
      have h5 := (PhiI.loc (u := ⟨some ⟨w.heap.size, 0, none⟩, 0, 0⟩) h0).below ((Below.refl _ (w.alloc (.cells #[] 3))).alloc (Nat.le_refl _) (.cells (SlcE.c ⟨some ⟨w.heap.size, 0, none⟩, 0, 0⟩).toArray 25))
      rw [hz] at h5
      exact h5
  | succ n ih =>
    intro v xs w hx hfact he
    have hn6 := fact_lt hfact
    have HI := hide (fun v ys w' h h' => ih v ys w' h (Nat.le_trans (fact_mono (Nat.le_succ n)) hfact) h')
    have HPS := hide (permTo_succ xs)
    have HPL := hide (fun k (hk : k ≤ n + 1) => Nat.le_trans (permTo_length xs k (by omega)) (by rw [hx]; exact hfact))
    have HP0 : Hid (permTo xs 0 = []) := hide rfl
    have HPE : Hid (permsL xs = permTo xs (n + 1)) := hide (by rw [permsL_step (by omega), hx]; rfl)
    have HE := hide he
    have HXL := hide hx
    obtain ⟨a, c, rfl, hnc, -, -, -⟩ := he.open
    obtain ⟨x0, hx0⟩ := get_of_lt (xs := xs) (k := 0) (by omega)
    obtain ⟨b, o, rfl, hbl, -⟩ := he.int hx0
    rw [hx] at hnc ⊢
    have hne : (((n + 1 : Nat) : Int) == 0) = false := by simp; omega
    rw [hx] at HE
    have HFA : Hid (fact (n + 1) ≤ 3000) := hide hfact
    clear he ih hx hx0 hfact
    generalize permsL xs = R at *
    generalize hm : n + 1 = m at *
    have HM := hide hm
    clear hm
    go_enter Tryz.func279, Tryz.ntmps279
    go_wp2_with fail
    go_loopw [3, 4] (fun s i wr => ∃ k : Nat, k ≤ m ∧ i = .int .i64 k ∧ RowsI wr w.heap.size s (permTo xs k) ∧ Below w.heap.size w wr) (fun _ i _ => m - (intOf i).toNat)
    case atStart => exact ⟨0, Nat.zero_le _, rfl, by rw [HP0.out]; exact OwnF.empty _ w (Nat.le_refl _), (Below.refl _ _).alloc (Nat.le_refl _) _⟩
    case round =>
      obtain ⟨k, hk, rfl, hrows, hbr⟩ := hrel
      by_cases hlt : k < m
      · obtain ⟨x, hxk⟩ := get_of_lt (xs := xs) (k := k) (by rw [HXL.out]; exact hlt)
        have hltk := nat_of_lt hlt
        have PS := hide (HPS.out k)
        have hgd : xs.getD k 0 = x := by simp [List.getD, hxk]
        rw [hgd] at PS
        have PL := hide (HPL.out k hk)
        generalize permTo xs k = G at *
        have HEr := HE.out.below hbr
        obtain ⟨b', o', hbo, hbf, f0⟩ := HEr.int hxk
        simp only [Option.some.injEq, Addr.mk.injEq, and_true] at hbo
        obtain ⟨rfl, rfl⟩ := hbo
        have hba := (Below.refl wr.heap.size wr).alloc (Nat.le_refl _) (.cells #[] 3)
        have T1 := hide ((HEr.takeI (k := k) (by rw [HXL.out]; exact hk)).below hba.drew)
        have T2 := hide (HEr.dropV (k := k + 1) (by rw [HXL.out]; exact hlt))
        have HES : Hid (xs.take k ++ xs.drop (k + 1) = xs.eraseIdx k) := hide (List.eraseIdx_eq_take_drop_succ xs k).symm
        have hkc : (k : Int) ≤ (c : Int) := by omega
        have hwk : wrap64 ((k : Int) + 1) = (k : Int) + 1 := by unfold wrap64; omega
        have hwk2 : IntKind.i64.wrap ((k : Int) + 1) = (k : Int) + 1 := by rw [IntKind.wrap_i64]; omega
        have hkm : (k : Int) + 1 ≤ (m : Int) := by omega
        have hk0 : (0 : Int) ≤ (k : Int) + 1 := by omega
        have hmc : (m : Int) ≤ (c : Int) := by omega
        have hkt : ((k : Int) + 1).toNat = k + 1 := by omega
        have OE : Hid (Own IntE 3 (wr.alloc (.cells #[] 3)).drew wr.heap.size (.slice (some ⟨wr.heap.size, 0, none⟩) 0 0) []) := hide (Own.empty (E := IntE) 3 wr (Nat.le_refl _))
        have hl1 : ([] : List Int).length + (xs.take k).length ≤ 68719476736 := by rw [List.length_take]; simp; omega
        have hl2 : ([] ++ xs.take k).length + (xs.drop (k + 1)).length ≤ 68719476736 := by rw [List.nil_append, List.length_take, List.length_drop]; have := HXL.out; omega
        go_upto_region 7 with fail
        go_cut [5] (fun s5 W => ∃ f : Slc, s5 = .slice f.a f.n f.cap ∧ Own IntE 3 W wr.heap.size f.v (xs.eraseIdx k) ∧ Below wr.heap.size wr W)
        case first =>
          by_cases hck : c = k + 1
          · rw [if_pos hck] at T2
            obtain rfl : m = k + 1 := by omega
            subst hck
            rw [Nat.sub_self] at T2
            have hkc : (k : Int) ≤ (k : Int) + 1 := by omega
            clear hmc
            go_region_held3 (fun V => V.cell? ⟨b, o + k, none⟩ = some (.int .i64 x)) ((simp [go_sem, *]))
              (first
                | (refine step_appS IntE 3 Tryz.infoInt rfl Tryz.underlying25 wr.heap.size _ [] (xs.take k) _ OE.out T1.out (by decide) hl1 (by simp) (by rfl) _ _ (by rfl) (by rfl) (by rfl) ?_; intro v6 w6 hown6 hgr6; obtain ⟨⟨a6, n6, c6⟩, rfl, -⟩ := hown6.toSlc; have O6 := hide hown6; have hk6 : (∀ o, w6.cell? ⟨b, o, none⟩ = wr.cell? ⟨b, o, none⟩) := (kept_d hgr6 hbf (fun q hq => by simp [Value.ownBlock] at hq; omega)); have B6 := hide (below_lit hgr6); have hb6 := B6.out.size; have T3 := hide (T2.out.below B6.out); clear hown6 hgr6)
                | (refine step_appS IntE 3 Tryz.infoInt rfl Tryz.underlying25 wr.heap.size _ ([] ++ xs.take k) (xs.drop (k + 1)) _ O6.out T3.out (by decide) hl2 (by omega) (by rfl) _ _ (by rfl) (by rfl) (by rfl) ?_; intro v7 w7 hown7 hgr7; obtain ⟨⟨a7, n7, c7⟩, rfl, -⟩ := hown7.toSlc; have hk7 : (∀ o, w7.cell? ⟨b, o, none⟩ = wr.cell? ⟨b, o, none⟩) := (fun o => (cell_of_block2 (hgr7.block b (Nat.lt_of_lt_of_le hbf hb6) (fun e => by have := (World.ownsRow.lt O6.out b e.symm).1; omega)) o).trans (hk6 o))))
            all_goals
              have O7 : Hid (Own IntE 3 w7 wr.heap.size (Slc.v ⟨a7, n7, c7⟩) (xs.eraseIdx k)) := hide (by rw [← HES.out]; exact hown7)
              have B7 := hide (B6.out.grown hgr7 (Nat.le_of_lt_succ (by have := B6.out.size; omega)) (fun q hq => (World.ownsRow.lt O6.out q hq).1))
              go_wp2_with fail
              go_meet
              exact ⟨⟨a7, n7, c7⟩, rfl, O7.out, B7.out⟩
          · rw [if_neg hck] at T2
            go_region_held3 (fun V => V.cell? ⟨b, o + k, none⟩ = some (.int .i64 x)) ((simp [go_sem, *]))
              (first
                | (refine step_appS IntE 3 Tryz.infoInt rfl Tryz.underlying25 wr.heap.size _ [] (xs.take k) _ OE.out T1.out (by decide) hl1 (by simp) (by rfl) _ _ (by rfl) (by rfl) (by rfl) ?_; intro v6 w6 hown6 hgr6; obtain ⟨⟨a6, n6, c6⟩, rfl, -⟩ := hown6.toSlc; have O6 := hide hown6; have hk6 : (∀ o, w6.cell? ⟨b, o, none⟩ = wr.cell? ⟨b, o, none⟩) := (kept_d hgr6 hbf (fun q hq => by simp [Value.ownBlock] at hq; omega)); have B6 := hide (below_lit hgr6); have hb6 := B6.out.size; have T3 := hide (T2.out.below B6.out); clear hown6 hgr6)
                | (refine step_appS IntE 3 Tryz.infoInt rfl Tryz.underlying25 wr.heap.size _ ([] ++ xs.take k) (xs.drop (k + 1)) _ O6.out T3.out (by decide) hl2 (by omega) (by rfl) _ _ (by rfl) (by rfl) (by rfl) ?_; intro v7 w7 hown7 hgr7; obtain ⟨⟨a7, n7, c7⟩, rfl, -⟩ := hown7.toSlc; have hk7 : (∀ o, w7.cell? ⟨b, o, none⟩ = wr.cell? ⟨b, o, none⟩) := (fun o => (cell_of_block2 (hgr7.block b (Nat.lt_of_lt_of_le hbf hb6) (fun e => by have := (World.ownsRow.lt O6.out b e.symm).1; omega)) o).trans (hk6 o))))
            all_goals
              have O7 : Hid (Own IntE 3 w7 wr.heap.size (Slc.v ⟨a7, n7, c7⟩) (xs.eraseIdx k)) := hide (by rw [← HES.out]; exact hown7)
              have B7 := hide (B6.out.grown hgr7 (Nat.le_of_lt_succ (by have := B6.out.size; omega)) (fun q hq => (World.ownsRow.lt O6.out q hq).1))
              go_wp2_with fail
              go_meet
              exact ⟨⟨a7, n7, c7⟩, rfl, O7.out, B7.out⟩
        case rest =>
          obtain ⟨⟨a7, n7, c7⟩, rfl, h7, hb7⟩ := hcut
          have O7 := hide h7; have B7 := hide hb7
          clear h7 hb7
          generalize wc = w7 at *
          have HC := hide (HI.out _ (xs.eraseIdx k) w7 (by rw [List.length_eraseIdx, HXL.out, if_pos hlt]; have := HM.out; omega) O7.out.rep)
          have HRL := hide (fun r (hr : r ∈ permsL (xs.eraseIdx k)) => permsL_row n (xs.eraseIdx k) (by rw [List.length_eraseIdx, HXL.out, if_pos hlt]; have := HM.out; omega) r hr)
          have HRN0 := hide (permsL_length (xs.eraseIdx k))
          have HEL : Hid (fact (xs.eraseIdx k).length ≤ 3000) := hide (by
            rw [List.length_eraseIdx, HXL.out, if_pos hlt]
            refine Nat.le_trans (fact_mono (Nat.sub_le m 1)) ?_
            have := HFA.out
            exact this)
          have HB7 := hide (hbr.trans (B7.out.mono hbr.size))
          have HR7 := hide (OwnF.below hrows B7.out)
          have hq3 : ∀ q, u3.ownBlock = some q → q < w7.heap.size := fun q hq => by
            obtain ⟨us, ds, hU⟩ := hrows
            exact Nat.lt_of_lt_of_le (World.ownsRow.lt hU.own q hq).2 B7.out.size
          have HQ3 := hide hq3
          have F0 := hide ((hbr.cell (p := ⟨b, o + k, none⟩) hbl).symm.trans f0)
          clear hq3 O7 B7 T1 T2 OE HES hl1 hl2 hba f0 hrows hbr HEr hwk hwk2 hkm hk0 hmc hkt hkc hbf
          generalize permsL (xs.eraseIdx k) = RR at *
          go_wp2_with fail
          (with_reducible refine HC.out.mono ?_); rintro e w8 ⟨⟨ra, rn, rc⟩, rfl, ou, hb8⟩
          have hrn : rn = RR.length := by
            rcases ou.shape with ⟨h1, h2⟩ | ⟨g, cap, h1, -⟩
            · simp only [Slc.v, Value.slice.injEq] at h1; rw [h1.2.1, h2]; rfl
            · simp only [Slc.v, Value.slice.injEq] at h1; exact h1.2.1
          have HRN : Hid (RR.length = rn) := hide hrn.symm
          have hrb : rn ≤ 3000 := by have := HRN0.out; have := HEL.out; omega
          have HRS := hide ou
          have HQ8 : Hid (∀ q, (Slc.v ⟨ra, rn, rc⟩).ownBlock = some q → w7.heap.size ≤ q ∧ q < w8.heap.size) := hide (fun q hq => by
            obtain ⟨us, ds, hU⟩ := ou
            exact World.ownsRow.lt hU.own q hq)
          have HR8 := hide (OwnF.below HR7.out hb8)
          have HB8 := hide (HB7.out.trans (hb8.mono HB7.out.size))
          have h78 := hb8.size
          clear ou hb8 hrn HR7 HB7 HC
          go_wp2_with fail
          go_loopw [3, 7] (fun s i wr => ∃ j : Nat, j ≤ rn ∧ i = .int .i64 j ∧ RowsI wr w.heap.size s (G ++ (RR.take j).map (x :: ·)) ∧ RowsI wr w7.heap.size (.slice ra rn rc) RR ∧ Hid (∀ q, s.ownBlock = some q → q < w7.heap.size ∨ w8.heap.size ≤ q) ∧ Below w.heap.size w wr ∧ w8.heap.size ≤ wr.heap.size) (fun _ i _ => rn - (intOf i).toNat)
          case atStart => exact ⟨0, Nat.zero_le _, rfl, by rw [List.take_zero, List.map_nil, List.append_nil]; exact HR8.out, HRS.out, hide (fun q hq => .inl (HQ3.out q hq)), HB8.out, Nat.le_refl _⟩
          case round =>
            obtain ⟨j, hj, rfl, hrows, hrest, hsq, hbr, hsz⟩ := hrel
            by_cases hltj : j < rn
            · obtain ⟨r, hrj⟩ := get_of_lt (xs := RR) (k := j) (by rw [HRN.out]; exact hltj)
              have hltj' := nat_of_lt hltj
              have f0 := (hbr.cell (p := ⟨b, o + k, none⟩) hbl).trans F0.out
              have hbf := Nat.lt_of_lt_of_le hbl hbr.size
              obtain ⟨⟨sa, sn, sc⟩, g, hga, hg, g0, hrep⟩ := RowsI.row hrest hrj
              subst hga
              have hgq := HQ8.out g rfl
              have RS : Hid (G ++ (RR.take (j + 1)).map (x :: ·) = (G ++ (RR.take j).map (x :: ·)) ++ [x :: r]) := hide (by rw [map_take_succ (x :: ·) hrj, List.append_assoc])
              have hrl := HRL.out r (List.mem_of_getElem? hrj)
              have hlen : (G ++ (RR.take j).map (x :: ·)).length ≤ 68719476736 := by
                rw [List.length_append, List.length_map, List.length_take]
                have := PL.out; have := HRN.out; omega
              have hn1 : ([x] : List Int).length + r.length ≤ 68719476736 := by have := HM.out; simp; omega
              have HRP := hide (hrep.below ((Below.refl wr.heap.size wr).alloc (Nat.le_refl _) (.cells #[.int .i64 x] 3)).drew)
              obtain ⟨us, ds, hU⟩ := hrows
              have HUL : Hid (us.length ≤ 68719476736) := hide (by rw [hU.lu]; exact hlen)
              have HU := hide hU
              have HBR2 := hide hbr
              have HRS2 := hide hrest
              have HLT : Hid (Own IntE 3 (wr.alloc (.cells #[.int .i64 x] 3)).drew wr.heap.size (.slice (some ⟨wr.heap.size, 0, none⟩) 1 1) [x]) := hide (Own.lit1 (E := IntE) (T := 3) wr (Nat.le_refl _) x)
              have hbs : w.heap.size ≤ wr.heap.size := hbr.size
              have HQ7 : Hid (∀ q, u3.ownBlock = some q → w.heap.size ≤ q ∧ q ≠ g) := hide (fun q hq => ⟨(World.ownsRow.lt hU.own q hq).1, by have := hsq.out q hq; omega⟩)
              generalize G ++ (RR.take j).map (x :: ·) = GG at *
              clear hrj hrep hbr hrl hU hlen hrest
              go_wp2_with fail
              go_region_held3 (fun V => V.cell? ⟨b, o + k, none⟩ = some (.int .i64 x) ∧ V.cell? ⟨g, j, none⟩ = some (.slice sa sn sc)) ((simp [go_sem, *]))
                (first
                  | (refine step_appS IntE 3 Tryz.infoInt rfl Tryz.underlying25 wr.heap.size _ [x] r _ HLT.out HRP.out (by decide) hn1 (by simp) (by rfl) _ _ (by rfl) (by rfl) (by rfl) ?_; intro v6 w6 hown6 hgr6; obtain ⟨⟨a6, n6, c6⟩, rfl, -⟩ := hown6.toSlc; have O6 := hide hown6; have hk6 : (∀ o, w6.cell? ⟨b, o, none⟩ = wr.cell? ⟨b, o, none⟩) := (kept_d hgr6 hbf (fun q hq => by simp [Value.ownBlock] at hq; omega)); have hk7 : (∀ o, w6.cell? ⟨g, o, none⟩ = wr.cell? ⟨g, o, none⟩) := (kept_d hgr6 hg (fun q hq => by simp [Value.ownBlock] at hq; omega)); have B6 := hide (below_lit hgr6); have hb6 := B6.out.size; have hz6 : b < w6.heap.size := (Nat.lt_of_lt_of_le hbf hb6); have hz7 : g < w6.heap.size := (Nat.lt_of_lt_of_le hg hb6); clear hown6 hgr6)
                  | (refine step_appL SlcE 25 Tryz.infoIntS rfl Tryz.underlying33 w.heap.size _ us ⟨a6, n6, c6⟩ ((HU.out.own.below B6.out).alloc _) (by decide) HUL.out (by simp; omega) (by rfl) _ _ (by rfl) (by rfl) w6.heap.size 0 1 (by rfl) news_alloc ?_; intro v8 w9 hown8 hgr8 hv8; have hk8 : (∀ o, w9.cell? ⟨b, o, none⟩ = wr.cell? ⟨b, o, none⟩) := (fun o => (kept_cell hgr8 (by omega) (fun q hq => by have := HQ7.out q hq; omega) o).trans (hk6 o)); have hk9 : (∀ o, w9.cell? ⟨g, o, none⟩ = wr.cell? ⟨g, o, none⟩) := (fun o => (kept_cell hgr8 (by omega) (fun q hq => (HQ7.out q hq).2) o).trans (hk7 o))))
              have R8 := RowsI.app HU.out B6.out hbs rfl O6.out hown8 hgr8
              have B8 := (HBR2.out.trans (B6.out.mono hbs)).alloc (by omega) (.cells #[.slice a6 n6 c6] 25)
              have B9 := B8.grown hgr8 (by simp; omega) (fun q hq => (HQ7.out q hq).1)
              have ba := (Below.refl w6.heap.size w6).alloc (Nat.le_refl _) (.cells #[.slice a6 n6 c6] 25)
              have S9 := OwnF.grown_ne (OwnF.below (OwnF.below HRS2.out B6.out) ba) ((HU.out.own.below B6.out).below ba) hgr8 (.inr fun e => (HQ7.out g e.symm).2 rfl)
              have hs9 := hgr8.size
              simp only [World.size_alloc] at hs9 hv8
              have hq9 : ∀ q, v8.ownBlock = some q → q < w7.heap.size ∨ w8.heap.size ≤ q := fun q hq => by
                rcases hv8 with h | h
                · rw [h] at hq; exact hsq.out q hq
                · rw [h] at hq; simp at hq; omega
              have HQ9 := hide hq9
              go_wp2_with fail
              go_roundw
              case rel => exact ⟨j + 1, by omega, by go_num, by rw [RS.out]; exact R8, S9, HQ9, B9, by omega⟩
              case measure => simp [intOf]; omega
            · obtain rfl : j = rn := by omega
              rw [List.take_of_length_le (by rw [HRN.out]; exact Nat.le_refl _), ← PS.out] at hrows
              go_wp2_with fail
              go_roundw
              case rel => exact ⟨k + 1, by omega, by go_num, hrows, hbr⟩
              case measure => simp [intOf]; omega
      · obtain rfl : k = m := by omega
        obtain ⟨us, ds, hU⟩ := hrows
        obtain ⟨⟨qa, qn, qc⟩, rfl, -⟩ := hU.own.toSlc
        have hrows : RowsI _ _ _ _ := ⟨us, ds, hU⟩
        clear hU
        go_wp2_with fail
        go_ret
        exact ⟨⟨qa, qn, qc⟩, rfl, by rw [HPE.out]; exact hrows, hbr⟩

end Go.Proofs.YtpbmlppdmdmfkaaGreatDoor
