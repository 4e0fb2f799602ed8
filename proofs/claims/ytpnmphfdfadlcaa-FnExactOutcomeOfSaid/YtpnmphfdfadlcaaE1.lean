/-
  Events: what they are, and the program's list of them. Condition: bounds on lengths.
-/
import Derived.Test.YtpnmphfdfadlcaaF5
import Derived.Test.YtpnmphfdfadlcaaF7
import Derived.Deep.RegionHeld3
import Derived.Deep.DeepCutAuto
import Derived.Deep.AppendLies
namespace Go.Proofs.Ytpnmphfdfadlcaa
open Go.RowKit

/-- An event. -/
structure Ev where
  t : Int
  i : Int
  l : Int
  r : Bool
  w : Bool
deriving DecidableEq

def EvE : El Ev := ⟨5, by decide, fun x => [.int .i64 x.t, .int .i64 x.i, .int .i64 x.l, .bool x.r, .bool x.w], fun _ => rfl, fun x u h => by simp at h; rcases h with rfl | rfl | rfl | rfl | rfl <;> rfl⟩
theorem Try.infoEvent : (Try.prog.info? 88).map (fun i => (i.zero, i.size, i.bytes)) = some (some (.agg #[.int .i64 0, .int .i64 0, .int .i64 0, .bool false, .bool false]), 5, 32) := by kernel_rfl
abbrev OwnE (w : World) (base : Nat) (v : Value) (xs : List Ev) : Prop := Own EvE 88 w base v xs

theorem Rep.ev {w : World} {a : Option Addr} {n c : Nat} {xs : List Ev} (h : Rep EvE w (.slice a n c) xs) {k : Nat} {x : Ev} (hx : xs[k]? = some x) :
    ∃ b o, a = some ⟨b, o, none⟩ ∧ b < w.heap.size ∧ w.cell? ⟨b, o + k * 5, none⟩ = some (.int .i64 x.t) ∧ w.cell? ⟨b, o + k * 5 + 1, none⟩ = some (.int .i64 x.i) ∧
      w.cell? ⟨b, o + k * 5 + 2, none⟩ = some (.int .i64 x.l) ∧ w.cell? ⟨b, o + k * 5 + 3, none⟩ = some (.bool x.r) ∧ w.cell? ⟨b, o + k * 5 + 4, none⟩ = some (.bool x.w) := by
  obtain ⟨a', c', hv, _, _, h⟩ := h
  simp only [Value.slice.injEq] at hv
  obtain ⟨rfl, rfl, rfl⟩ := hv
  obtain ⟨b, o, rfl, h'⟩ := h k x hx
  exact ⟨b, o, rfl, lt_of_cell (h' 0 _ rfl), h' 0 _ rfl, h' 1 _ rfl, h' 2 _ rfl, h' 3 _ rfl, h' 4 _ rfl⟩

/-- One element is appended, at a step of a region that draws. -/
theorem step_app {α : Type} (E : El α) {P : Program} {w : World} {ops : Array Oper} {o : Oper} {a : Act} {K : Act → World → Prop} {Q : Exit → Act → World → Prop} {F : Prop}
    (T : TypeId) {zv : Value} {bytes : Nat} (hinfo : (P.info? T).map (fun i => (i.zero, i.size, i.bytes)) = some (some zv, E.sz, bytes)) (hz : zv.cells.size = E.sz) {t : TypeId} (h1 : P.underlying t = some (.slice T))
    (base : Nat) (v : Value) (xs : List α) (x : α) (hown : Own E T w base v xs) (hby : bytes ≤ 256) (hn : xs.length ≤ 68719476736) (hbase : base ≤ w.heap.size)
    (hg : o.guard = none) (s y : Operand) (hop : o.op = .call { callee := .builtin .append, args := #[s, y], argTypes := #[t, t] })
    (hs : a.eval s = v) (b off c : Nat) (hy : a.eval y = .slice (some ⟨b, off, none⟩) 1 c) (hnews : ∀ j u, (E.c x)[j]? = some u → w.cell? ⟨b, off + j, none⟩ = some u)
    (hK : ∀ v' w', Own E T w' base v' (xs ++ [x]) → w.grownBy w' v.ownBlock → K (a.put o.dst v') w') :
    if Region.wanted o (yielded ops a.tmps) = true then Oper.wp P o a w K Q else F := by
  obtain ⟨it, hi, hz0, hz1, hz2⟩ := info_parts hinfo
  refine step_append_lies w hg s y t hop base T it zv E.sz bytes h1 hi hz0 hz1 hz2 hz E.pos v xs.length _ hs hown ⟨b, off, none⟩ 1 c (E.c x) hy (by rw [E.len, Nat.one_mul]) ?_ (E.one x) (by omega) (by unfold maxLen; omega) ?_ hbase _ rfl ?_
  · intro j u hu
    have hadd : (⟨b, off, none⟩ : Addr).add j = ⟨b, off + j, none⟩ := by unfold Addr.add; split <;> simp_all
    rw [hadd]
    exact hnews j u hu
  · have := Nat.mul_le_mul (show xs.length + 1 ≤ 68719476737 by omega) hby
    omega
  · intro g cap w' h2 h3 _ _
    refine hK _ w' ?_ h3
    unfold Own
    simpa [List.flatMap_append] using h2

def evOf (t i : Nat) (x : Ins) : List Ev := if x.op = 4 then [] else [⟨t, i, x.loc, isRop x.op, isWop x.op⟩]
def evRow (t : Nat) (r : List Ins) (k : Nat) : List Ev := (List.range k).flatMap fun i => match r[i]? with
  | some x => evOf t i x
  | none => []
def evTo (p : List (List Ins)) (j : Nat) : List Ev := (List.range j).flatMap fun t => match p[t]? with
  | some r => evRow t r r.length
  | none => []
def evHead (k : Nat) : List Ev := (List.range k).map fun (l : Nat) => ⟨-1, l, l, false, true⟩
def evAll (p : List (List Ins)) : List Ev := evHead 3 ++ evTo p p.length

theorem evHead_succ (k : Nat) : evHead (k + 1) = evHead k ++ [⟨-1, k, k, false, true⟩] := by simp [evHead, List.range_succ]
theorem evHead_length (k : Nat) : (evHead k).length = k := by simp [evHead]
theorem evRow_succ {t : Nat} {r : List Ins} {k : Nat} {x : Ins} (h : r[k]? = some x) : evRow t r (k + 1) = evRow t r k ++ evOf t k x := by
  unfold evRow
  rw [List.range_succ, List.flatMap_append]
  simp [h]
theorem evTo_succ {p : List (List Ins)} {j : Nat} {r : List Ins} (h : p[j]? = some r) : evTo p (j + 1) = evTo p j ++ evRow j r r.length := by
  unfold evTo
  rw [List.range_succ, List.flatMap_append]
  simp [h]
theorem evOf_length (t i : Nat) (x : Ins) : (evOf t i x).length ≤ 1 := by unfold evOf; split <;> simp
theorem evRow_length (t : Nat) (r : List Ins) : ∀ k, (evRow t r k).length ≤ k := by
  intro k
  induction k with
  | zero => simp [evRow]
  | succ k ih =>
    unfold evRow at ih ⊢
    rw [List.range_succ, List.flatMap_append, List.length_append]
    have : ((List.flatMap (fun i => match r[i]? with
      | some x => evOf t i x
      | none => []) [k])).length ≤ 1 := by
      cases h : r[k]? with
      | none => simp [h]
      | some x => simp [h]; exact evOf_length t k x
    omega
theorem evTo_length (p : List (List Ins)) : ∀ j, j ≤ p.length → (evTo p j).length ≤ (p.take j).flatten.length := by
  intro j
  induction j with
  | zero => intro _; simp [evTo]
  | succ j ih =>
    intro hj
    obtain ⟨r, hr⟩ := get_of_lt (xs := p) (k := j) hj
    rw [evTo_succ hr, List.take_add_one, hr, List.flatten_append, List.length_append, List.length_append]
    have h1 := ih (by omega)
    have h2 := evRow_length j r r.length
    simp only [Option.toList_some, List.flatten_cons, List.flatten_nil, List.append_nil]
    omega
theorem evAll_length (p : List (List Ins)) : (evAll p).length ≤ 3 + p.flatten.length := by
  unfold evAll
  have := evTo_length p p.length (Nat.le_refl _)
  rw [List.take_length] at this
  rw [List.length_append, evHead_length]; omega

end Go.Proofs.Ytpnmphfdfadlcaa
