/-
  Lists of outcomes sorted by slices.SortFunc: the worlds of the sort, and what it leaves. No condition.
-/
import Derived.Test.YtlddmagfbcomgaaGreatZq04
import Derived.Test.YtlddmagfbcomgaaGreatZq06
import Derived.Shelf.SlSortCmp.Whole1
set_option maxHeartbeats 6400000
set_option maxRecDepth 100000
namespace Go.Proofs.YtlddmagfbcomgaaGreat
open Go.RowKit
section
variable {α : Type} [Inhabited α] {enc : α → Value} {w : World} {g m : Nat} {d : Array α} {os : Array Obj}
theorem sortW_block (k:Nat) (hk:k < w.heap.size) (hg:k≠g):(sortWorld enc w g 0 m d os).heap[k]? = w.heap[k]?:=by
 show ((w.heap.modify g _)++os)[k]? = _
 rw [Array.getElem?_append_left (by simpa using hk),Array.getElem?_modify,if_neg (Ne.symm hg)]
theorem sortW_at {cur:Array Value} {T:TypeId} {fz:Nat × Nat} (h:w.heap[g]? = some (.cells cur T fz)):(sortWorld enc w g 0 m d os).heap[g]? = some (.cells (Sort.putCells enc 0 d cur) T fz):=by
 have hk:=(Array.getElem?_eq_some_iff.1 h).1
 show ((w.heap.modify g _)++os)[g]? = _
 rw [Array.getElem?_append_left (by simpa using hk),Array.getElem?_modify,if_pos rfl,h]
 rfl
theorem sortW_kp {T:TypeId} {base:Nat} {cur:Array Value} (h:w.heap[g]? = some (.cells cur T (0,0))) (hb:base≤g):KpT [T] base w (sortWorld enc w g 0 m d os):=by
 refine ⟨rfl,rfl,rfl, ?_,fun k ob hk hl => ?_⟩
 ·show w.heap.size≤((w.heap.modify g _)++os).size
  simp
 ·have hlt:=(Array.getElem?_eq_some_iff.1 hk).1
  refine (sortW_block k hlt fun e => ?_).trans hk
  subst e
  rw [h] at hk
  simp only [Option.some.injEq] at hk
  rcases hl with hl | hl
  ·omega
  ·exact hl _ _ _ hk.symm (by simp)
end
structure OE (w:World) (g:Nat) where
 u:Slc
 o:List Int
 h:∀ W:World,(∀ k,k < w.heap.size→k≠g→W.heap[k]? = w.heap[k]?)→Rep IntE W u.v o
instance (w:World) (g:Nat):Inhabited (OE w g):=⟨⟨⟨none,0,0⟩,[],fun W _=>Rep.nil W⟩⟩
theorem mkOE {α:Type} {us:List Slc} {outs:List (List Int)} {F:α→Slc} {G:α→List Int} (hl:us.length=outs.length) (h:∀ (i:Nat) (u:Slc) (o:List Int),us[i]? = some u→outs[i]? = some o→∃ x:α,F x=u∧G x=o):∃ d:List α,d.map F=us∧d.map G=outs:=by
 induction us generalizing outs with
 | nil=>cases outs with
  | nil=>exact ⟨[],rfl,rfl⟩
  | cons o outs=>simp at hl
 | cons u us ih =>
  cases outs with
  | nil=>simp at hl
  | cons o outs =>
   obtain ⟨x,h1,h2⟩:=h 0 u o rfl rfl
   obtain ⟨d,h3,h4⟩:=ih (outs:=outs) (by simpa using hl) fun i u o hu ho=>h (i+1) u o (by simpa using hu) (by simpa using ho)
   exact ⟨x :: d,by simp [h1,h3],by simp [h2,h4]⟩
theorem swoO (w:World) (g:Nat):Sort.SWO (ltOf fun x y:OE w g=>cmpL x.o y.o) where
 irrefl x:=by simp [ltOf,cmpL_same]
 trans x y z h1 h2:=by simp only [ltOf,decide_eq_true_eq] at *;exact cmpL_trans _ _ _ h1 h2
 ntrans x y z h1 h2:=by simp only [ltOf,decide_eq_false_iff_not] at *;exact cmpL_ntrans _ _ _ h1 h2
end Go.Proofs.YtlddmagfbcomgaaGreat