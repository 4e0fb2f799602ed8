/-
  Arguments that are bytes, as the laws take them.
-/
import Derived.Test.YtpjebgiejkglpaaZh04
import Derived.Deep.AppendLies
import Derived.Test.YtpjebgiejkglpaaZh02
import Derived.Test.YtpjebgiejkglpaaRows
import Derived.Test.YtpjebgiejkglpaaZh00
import Derived.ProofKit
import Derived.Deep.Slices
namespace Go.Proofs.Ytpjebgiejkglpaa
open Go.RowKit

/-- Nothing has turned but in blocks from B on whose cells are of a type among L. -/
structure KpT (L : List TypeId) (B : Nat) (w w' : World) : Prop where
  os : w'.os = w.os
  tape : w'.tape = w.tape
  output : w'.output = w.output
  size : w.heap.size ≤ w'.heap.size
  block : ∀ k ob, w.heap[k]? = some ob → (k < B ∨ ∀ a T fz, ob = .cells a T fz → T ∉ L) → w'.heap[k]? = some ob

theorem KpT.refl (L : List TypeId) (B : Nat) (w : World) : KpT L B w w := ⟨rfl, rfl, rfl, Nat.le_refl _, fun _ _ h _ => h⟩
theorem KpT.trans {L : List TypeId} {B : Nat} {a b c : World} (h : KpT L B a b) (k : KpT L B b c) : KpT L B a c :=
  ⟨k.os.trans h.os, k.tape.trans h.tape, k.output.trans h.output, Nat.le_trans h.size k.size, fun q ob hq hl => k.block q ob (h.block q ob hq hl) hl⟩
theorem KpT.of_below {L : List TypeId} {B : Nat} {w w' : World} (h : Below w.heap.size w w') : KpT L B w w' :=
  ⟨h.os, h.tape, h.output, h.size, fun k _ hk _ => (h.block k (Array.getElem?_eq_some_iff.1 hk).1).trans hk⟩
theorem KpT.below {L : List TypeId} {B : Nat} {w w' : World} (h : KpT L B w w') (hB : B ≤ w.heap.size) : Below B w w' :=
  ⟨h.os, h.tape, h.output, h.size, fun k hk => by
    have hk' : k < w.heap.size := by omega
    have e : w.heap[k]? = some (w.heap[k]'hk') := Array.getElem?_eq_getElem hk'
    rw [e]; exact h.block k _ e (.inl hk)⟩
theorem KpT.more {L L' : List TypeId} {B B' : Nat} {w w' : World} (h : KpT L B w w') (hL : ∀ T ∈ L, T ∈ L') (hB : B' ≤ B) : KpT L' B' w w' :=
  ⟨h.os, h.tape, h.output, h.size, fun k ob hk hl => h.block k ob hk (hl.imp (fun q => Nat.lt_of_lt_of_le q hB) fun q a T fz e hT => q a T fz e (hL T hT))⟩
theorem KpT.alloc {L : List TypeId} {B : Nat} (w : World) (o : Obj) : KpT L B w (w.alloc o) := .of_below ((Below.refl _ _).alloc (Nat.le_refl _) o)
theorem Own.typeT {α : Type} {E : El α} {T : TypeId} {w : World} {base g : Nat} {v : Value} {xs : List α} (h : Own E T w base v xs) (hg : v.ownBlock = some g) : ∃ a, w.heap[g]? = some (.cells a T (0, 0)) := by
  rcases h.2 with ⟨rfl, _⟩ | ⟨g', cap, cur, rfl, _, hg', _⟩
  · simp [Value.ownBlock] at hg
  · simp [Value.ownBlock] at hg
    subst hg
    exact ⟨cur, hg'⟩
theorem Own.sameT {α : Type} {E : El α} {T : TypeId} {w w' : World} {base : Nat} {v : Value} {xs : List α} (h : Own E T w base v xs) (hs : ∀ q, v.ownBlock = some q → w'.heap[q]? = w.heap[q]?) : Own E T w' base v xs := by
  refine ⟨h.1, ?_⟩
  rcases h.2 with hn | ⟨g, cap, cur, rfl, hb1, hgg, rest⟩
  · exact .inl hn
  · exact .inr ⟨g, cap, cur, rfl, hb1, (hs g rfl).trans hgg, rest⟩
/-- A row of such a type has grown. -/
theorem KpT.grown {α : Type} {E : El α} {T : TypeId} {L : List TypeId} {B base : Nat} {w w' : World} {v : Value} {xs : List α} (ho : Own E T w base v xs) (hT : T ∈ L) (hB : B ≤ base) (hg : w.grownBy w' v.ownBlock) : KpT L B w w' :=
  ⟨hg.os, hg.tape, hg.output, hg.size, fun k ob hk hl => (hg.block k (Array.getElem?_eq_some_iff.1 hk).1 (fun e => by
    obtain ⟨a, ha⟩ := ho.typeT e.symm
    have hbk := (World.ownsRow.lt ho k e.symm).1
    rw [hk] at ha
    rcases hl with hl | hl
    · omega
    · exact hl a T _ (Option.some.inj ha) hT)).trans hk⟩
/-- A cell of such a block was stored. -/
theorem KpT.set {T : TypeId} {L : List TypeId} {B g j : Nat} {w : World} {a : Array Value} {fz : Nat × Nat} (hg : w.heap[g]? = some (.cells a T fz)) (hT : T ∈ L) (hB : B ≤ g) (u : Value) : KpT L B w (w.setCell ⟨g, j, none⟩ u) :=
  ⟨rfl, rfl, rfl, by simp, fun k ob hk hl => (heap_setCell_other w ⟨g, j, none⟩ k u (show k ≠ g by
    rintro rfl
    rw [hg] at hk
    rcases hl with hl | hl
    · omega
    · exact hl a T fz (Option.some.inj hk).symm hT)).trans hk⟩
/-- A cell of a new block was stored. -/
theorem KpT.setNew {L : List TypeId} {B g j : Nat} {w w' : World} (h : KpT L B w w') (hg : w.heap.size ≤ g) (u : Value) : KpT L B w (w'.setCell ⟨g, j, none⟩ u) :=
  ⟨h.os, h.tape, h.output, by simpa using h.size, fun k ob hk hl => (heap_setCell_other w' ⟨g, j, none⟩ k u (show k ≠ g by have := (Array.getElem?_eq_some_iff.1 hk).1; omega)).trans (h.block k ob hk hl)⟩

/-- A fact that such a turn leaves. -/
structure LocT (L : List TypeId) (B : Nat) (w : World) (φ : World → Prop) : Prop where
  now : φ w
  keep : ∀ w', KpT L B w w' → φ w'
theorem LocT.step {L : List TypeId} {B : Nat} {w w' : World} {φ : World → Prop} (h : LocT L B w φ) (k : KpT L B w w') : LocT L B w' φ := ⟨h.keep w' k, fun w'' k' => h.keep w'' (k.trans k')⟩
theorem LocT.map {L : List TypeId} {B : Nat} {w : World} {φ ψ : World → Prop} (h : LocT L B w φ) (f : ∀ V, φ V → ψ V) : LocT L B w ψ := ⟨f _ h.now, fun w' k => f _ (h.keep w' k)⟩
theorem LocT.and {L : List TypeId} {B : Nat} {w : World} {φ ψ : World → Prop} (h : LocT L B w φ) (k : LocT L B w ψ) : LocT L B w (fun W => φ W ∧ ψ W) := ⟨⟨h.now, k.now⟩, fun w' s => ⟨h.keep w' s, k.keep w' s⟩⟩
theorem LocT.all {ι : Type} {L : List TypeId} {B : Nat} {w : World} {φ : ι → World → Prop} (h : ∀ i, LocT L B w (φ i)) : LocT L B w (fun W => ∀ i, φ i W) := ⟨fun i => (h i).now, fun w' s i => (h i).keep w' s⟩
theorem LocT.imp {L : List TypeId} {B : Nat} {w : World} {p : Prop} {φ : World → Prop} (h : p → LocT L B w φ) : LocT L B w (fun W => p → φ W) := ⟨fun i => (h i).now, fun w' s i => (h i).keep w' s⟩
theorem LocT.const {L : List TypeId} {B : Nat} {w : World} {p : Prop} (h : p) : LocT L B w (fun _ => p) := ⟨h, fun _ _ => h⟩
theorem LocT.low {L : List TypeId} {B : Nat} {w : World} {φ : World → Prop} (hB : B ≤ w.heap.size) (hn : φ w) (h : ∀ w', Below B w w' → φ w') : LocT L B w φ := ⟨hn, fun w' k => h w' (k.below hB)⟩
theorem LocT.own {α : Type} {E : El α} {T : TypeId} {L : List TypeId} {B base : Nat} {w : World} {v : Value} {xs : List α} (h : Own E T w base v xs) (hT : T ∉ L) : LocT L B w (fun W => Own E T W base v xs) :=
  ⟨h, fun w' k => h.sameT fun q hq => by
    obtain ⟨a, ha⟩ := h.typeT hq
    rw [k.block q _ ha (.inr fun a' T' fz e => by simp at e; rw [← e.2.1]; exact hT), ha]⟩
theorem LocT.own2 {α : Type} {E : El α} {T1 T2 : TypeId} {L : List TypeId} {B base : Nat} {w : World} {v : Value} {p : List (List α)} (h : Own2 E T1 T2 w base v p) (h1 : T1 ∉ L) (h2 : T2 ∉ L) : LocT L B w (fun W => Own2 E T1 T2 W base v p) := by
  obtain ⟨us, g1, g2, g3, g4, g5⟩ := h
  have k1 := LocT.own (B := B) g2 h1
  have k2 : LocT L B w (fun W => ∀ (i : Nat) (u : Slc) (r : List α), us[i]? = some u → p[i]? = some r → Own E T2 W base u.v r) := .all fun i => .all fun u => .all fun r => .imp fun hu => .imp fun hr => LocT.own (g3 i u r hu hr) h2
  exact (k1.and k2).map fun V ⟨a, b⟩ => ⟨us, g1, a, b, g4, g5⟩

/-- How far threads are, registers, memory, what is buffered. -/
structure St where
  pc : List Int
  rg : List Int
  mm : List Int
  bf : List (List Int)
/-- A state's slices. -/
structure SV where
  p : Slc
  r : Slc
  m : Slc
  b : Slc
abbrev SV.v (x : SV) : Value := .agg #[.slice x.p.a x.p.n x.p.cap, .slice x.r.a x.r.n x.r.cap, .slice x.m.a x.m.n x.m.cap, .slice x.b.a x.b.n x.b.cap]
def StE : El SV := ⟨4, by decide, fun x => [x.p.v, x.r.v, x.m.v, x.b.v], fun _ => rfl, fun x u h => by simp at h; rcases h with rfl | rfl | rfl | rfl <;> rfl⟩
structure RepSt (w : World) (x : SV) (s : St) : Prop where
  pc : Rep IntE w x.p.v s.pc
  rg : Rep IntE w x.r.v s.rg
  mm : Rep IntE w x.m.v s.mm
  bf : Rep2 IntE w x.b.v s.bf
theorem RepSt.below {w w' : World} {x : SV} {s : St} (h : RepSt w x s) (hb : Below w.heap.size w w') : RepSt w' x s := ⟨h.pc.below hb, h.rg.below hb, h.mm.below hb, h.bf.below hb⟩
/-- Three rows of numbers, each in a block of its own. -/
structure Lanes (w : World) (base : Nat) (c1 c2 c3 : Slc) (l1 l2 l3 : List Int) : Prop where
  o1 : Own IntE 3 w base c1.v l1
  o2 : Own IntE 3 w base c2.v l2
  o3 : Own IntE 3 w base c3.v l3
  d12 : ∀ q, c1.v.ownBlock = some q → c2.v.ownBlock ≠ some q
  d13 : ∀ q, c1.v.ownBlock = some q → c3.v.ownBlock ≠ some q
  d23 : ∀ q, c2.v.ownBlock = some q → c3.v.ownBlock ≠ some q
theorem Lanes.below {w w' : World} {base : Nat} {c1 c2 c3 : Slc} {l1 l2 l3 : List Int} (h : Lanes w base c1 c2 c3 l1 l2 l3) (hb : Below w.heap.size w w') : Lanes w' base c1 c2 c3 l1 l2 l3 :=
  ⟨h.o1.below hb, h.o2.below hb, h.o3.below hb, h.d12, h.d13, h.d23⟩
theorem Lanes.rot {w : World} {base : Nat} {c1 c2 c3 : Slc} {l1 l2 l3 : List Int} (h : Lanes w base c1 c2 c3 l1 l2 l3) : Lanes w base c2 c3 c1 l2 l3 l1 :=
  ⟨h.o2, h.o3, h.o1, h.d23, fun q a b => h.d12 q b a, fun q a b => h.d13 q b a⟩
theorem Lanes.mono {w : World} {base base' : Nat} {c1 c2 c3 : Slc} {l1 l2 l3 : List Int} (h : Lanes w base c1 c2 c3 l1 l2 l3) (hb : base' ≤ base) : Lanes w base' c1 c2 c3 l1 l2 l3 :=
  ⟨h.o1.mono hb, h.o2.mono hb, h.o3.mono hb, h.d12, h.d13, h.d23⟩
theorem Lanes.nil (w : World) (base : Nat) : Lanes w base ⟨none, 0, 0⟩ ⟨none, 0, 0⟩ ⟨none, 0, 0⟩ [] [] [] :=
  ⟨Own.nil _ _ _, Own.nil _ _ _, Own.nil _ _ _, fun q h => by simp [Value.ownBlock] at h, fun q h => by simp [Value.ownBlock] at h, fun q h => by simp [Value.ownBlock] at h⟩
/-- The first row turns: in its own block, or it is laid anew. -/
theorem Lanes.put1 {w w' : World} {base : Nat} {c1 c1' c2 c3 : Slc} {l1 l1' l2 l3 : List Int} (h : Lanes w base c1 c2 c3 l1 l2 l3) (ho : Own IntE 3 w' base c1'.v l1') (hg : w.grownBy w' c1.v.ownBlock)
    (hb : c1'.v.ownBlock = c1.v.ownBlock ∨ ∀ q, c1'.v.ownBlock = some q → w.heap.size ≤ q) : Lanes w' base c1' c2 c3 l1' l2 l3 := by
  have n2 : ∀ q, c1'.v.ownBlock = some q → c2.v.ownBlock ≠ some q := fun q hq e => by
    rcases hb with hb | hb
    · exact h.d12 q (hb ▸ hq) e
    · have := hb q hq; have := (World.ownsRow.lt h.o2 q e).2; omega
  have n3 : ∀ q, c1'.v.ownBlock = some q → c3.v.ownBlock ≠ some q := fun q hq e => by
    rcases hb with hb | hb
    · exact h.d13 q (hb ▸ hq) e
    · have := hb q hq; have := (World.ownsRow.lt h.o3 q e).2; omega
  refine ⟨ho, h.o2.grown hg ?_, h.o3.grown hg ?_, n2, n3, h.d23⟩
  · rcases hq : c2.v.ownBlock with _ | q
    · exact .inl rfl
    · exact .inr fun e => h.d12 q e.symm hq
  · rcases hq : c3.v.ownBlock with _ | q
    · exact .inl rfl
    · exact .inr fun e => h.d13 q e.symm hq
theorem Lanes.put2 {w w' : World} {base : Nat} {c1 c2 c2' c3 : Slc} {l1 l2 l2' l3 : List Int} (h : Lanes w base c1 c2 c3 l1 l2 l3) (ho : Own IntE 3 w' base c2'.v l2') (hg : w.grownBy w' c2.v.ownBlock)
    (hb : c2'.v.ownBlock = c2.v.ownBlock ∨ ∀ q, c2'.v.ownBlock = some q → w.heap.size ≤ q) : Lanes w' base c1 c2' c3 l1 l2' l3 := (h.rot.put1 ho hg hb).rot.rot
theorem Lanes.put3 {w w' : World} {base : Nat} {c1 c2 c3 c3' : Slc} {l1 l2 l3 l3' : List Int} (h : Lanes w base c1 c2 c3 l1 l2 l3) (ho : Own IntE 3 w' base c3'.v l3') (hg : w.grownBy w' c3.v.ownBlock)
    (hb : c3'.v.ownBlock = c3.v.ownBlock ∨ ∀ q, c3'.v.ownBlock = some q → w.heap.size ≤ q) : Lanes w' base c1 c2 c3' l1 l2 l3' := (h.rot.rot.put1 ho hg hb).rot
/-- What is stored into a block of another type leaves the rows. -/
theorem Own.setOther {α : Type} {E : El α} {U T : TypeId} (hT : U ≠ T) {w : World} {base g j : Nat} {a : Array Value} {fz : Nat × Nat} {v u : Value} {xs : List α} (h : Own E U w base v xs) (hg : w.heap[g]? = some (.cells a T fz)) : Own E U (w.setCell ⟨g, j, none⟩ u) base v xs :=
  h.sameT fun q hq => heap_setCell_other w ⟨g, j, none⟩ q u (show q ≠ g by
    rintro rfl
    obtain ⟨a', ha⟩ := h.typeT hq
    rw [hg] at ha
    simp at ha
    exact hT ha.2.1.symm)
theorem Own2.setOther {α : Type} {E : El α} {U1 U2 T : TypeId} (h1 : U1 ≠ T) (h2 : U2 ≠ T) {w : World} {base g j : Nat} {a : Array Value} {fz : Nat × Nat} {v u : Value} {p : List (List α)} (h : Own2 E U1 U2 w base v p) (hg : w.heap[g]? = some (.cells a T fz)) : Own2 E U1 U2 (w.setCell ⟨g, j, none⟩ u) base v p := by
  obtain ⟨us, g1, g2, g3, g4, g5⟩ := h
  exact ⟨us, g1, g2.setOther h1 hg, fun i u r hu hr => (g3 i u r hu hr).setOther h2 hg, g4, g5⟩
theorem Lanes.setOther {T : TypeId} (hT : 3 ≠ T) {w : World} {base g j : Nat} {a : Array Value} {fz : Nat × Nat} {u : Value} {c1 c2 c3 : Slc} {l1 l2 l3 : List Int} (h : Lanes w base c1 c2 c3 l1 l2 l3) (hg : w.heap[g]? = some (.cells a T fz)) : Lanes (w.setCell ⟨g, j, none⟩ u) base c1 c2 c3 l1 l2 l3 :=
  ⟨h.o1.setOther hT hg, h.o2.setOther hT hg, h.o3.setOther hT hg, h.d12, h.d13, h.d23⟩

/-- Block g's cells are of type T. -/
def TyB (T : TypeId) (w : World) (g : Nat) : Prop := ∃ a, w.heap[g]? = some (.cells a T (0, 0))
theorem TyB.set {T : TypeId} {w : World} {g : Nat} (h : TyB T w g) (b j : Nat) (u : Value) : TyB T (w.setCell ⟨b, j, none⟩ u) g := by
  obtain ⟨a, ha⟩ := h
  by_cases e : g = b
  · subst e
    exact ⟨_, heap_setCell_same w g j _ _ u ha⟩
  · exact ⟨a, (heap_setCell_other w ⟨b, j, none⟩ g u e).trans ha⟩
theorem KpT.same {L : List TypeId} {B k : Nat} {w w' : World} {a : Array Value} {T : TypeId} {fz : Nat × Nat} (h : KpT L B w w') (hk : w.heap[k]? = some (.cells a T fz)) (hT : T ∉ L) : w'.heap[k]? = some (.cells a T fz) :=
  h.block k _ hk (.inr fun a' T' fz' e => by simp at e; rw [← e.2.1]; exact hT)
theorem KpT.setT {T : TypeId} {L : List TypeId} {B g j : Nat} {w : World} (hg : TyB T w g) (hT : T ∈ L) (hB : B ≤ g) (u : Value) : KpT L B w (w.setCell ⟨g, j, none⟩ u) := by
  obtain ⟨a, ha⟩ := hg
  exact .set ha hT hB u
theorem Lanes.kp {L : List TypeId} {B : Nat} {w w' : World} {base : Nat} {c1 c2 c3 : Slc} {l1 l2 l3 : List Int} (h : Lanes w base c1 c2 c3 l1 l2 l3) (k : KpT L B w w') (hT : 3 ∉ L) : Lanes w' base c1 c2 c3 l1 l2 l3 :=
  ⟨(LocT.own h.o1 hT).keep w' k, (LocT.own h.o2 hT).keep w' k, (LocT.own h.o3 hT).keep w' k, h.d12, h.d13, h.d23⟩
/-- A state that a call made: its numbers in blocks from base to m, its buffers behind. -/
structure OwnSt (w : World) (base m : Nat) (x : SV) (s : St) : Prop where
  ln : Lanes w base x.p x.r x.m s.pc s.rg s.mm
  bf : Own2 IntE 24 3 w m x.b.v s.bf
  p1 : ∀ q, x.p.v.ownBlock = some q → q < m
  p2 : ∀ q, x.r.v.ownBlock = some q → q < m
  p3 : ∀ q, x.m.v.ownBlock = some q → q < m
  le : base ≤ m
  lh : m ≤ w.heap.size
theorem OwnSt.below {w w' : World} {base m : Nat} {x : SV} {s : St} (h : OwnSt w base m x s) (hb : Below w.heap.size w w') : OwnSt w' base m x s :=
  ⟨h.ln.below hb, h.bf.below hb, h.p1, h.p2, h.p3, h.le, Nat.le_trans h.lh hb.size⟩
theorem OwnSt.rep {w : World} {base m : Nat} {x : SV} {s : St} (h : OwnSt w base m x s) : RepSt w x s := ⟨h.ln.o1.rep, h.ln.o2.rep, h.ln.o3.rep, h.bf.rep⟩
theorem OwnSt.mono {w : World} {base base' m : Nat} {x : SV} {s : St} (h : OwnSt w base m x s) (hb : base' ≤ base) : OwnSt w base' m x s := ⟨h.ln.mono hb, h.bf, h.p1, h.p2, h.p3, Nat.le_trans hb h.le, h.lh⟩
theorem OwnSt.setOther {T : TypeId} (h1 : 3 ≠ T) (h2 : 24 ≠ T) {w : World} {base m g j : Nat} {a : Array Value} {fz : Nat × Nat} {u : Value} {x : SV} {s : St} (h : OwnSt w base m x s) (hg : w.heap[g]? = some (.cells a T fz)) : OwnSt (w.setCell ⟨g, j, none⟩ u) base m x s :=
  ⟨h.ln.setOther h1 hg, h.bf.setOther h2 h1 hg, h.p1, h.p2, h.p3, h.le, by simpa using h.lh⟩
theorem OwnSt.loc {L : List TypeId} {B : Nat} {w : World} {base m : Nat} {x : SV} {s : St} (h : OwnSt w base m x s) (h1 : 3 ∉ L) (h2 : 24 ∉ L) : LocT L B w (fun W => RepSt W x s) :=
  ((((LocT.own h.ln.o1 h1).and (LocT.own h.ln.o2 h1)).and (LocT.own h.ln.o3 h1)).and (LocT.own2 h.bf h2 h1)).map fun _ ⟨⟨⟨a, b⟩, c⟩, d⟩ => ⟨a.rep, b.rep, c.rep, d.rep⟩
theorem OwnSt.setT {T : TypeId} (h1 : 3 ≠ T) (h2 : 24 ≠ T) {w : World} {base m g j : Nat} {u : Value} {x : SV} {s : St} (h : OwnSt w base m x s) (hg : TyB T w g) : OwnSt (w.setCell ⟨g, j, none⟩ u) base m x s := by
  obtain ⟨a, ha⟩ := hg
  exact h.setOther h1 h2 ha
theorem OwnSt.kp {L : List TypeId} {B : Nat} {w w' : World} {base m : Nat} {x : SV} {s : St} (h : OwnSt w base m x s) (k : KpT L B w w') (h1 : 3 ∉ L) (h2 : 24 ∉ L) : OwnSt w' base m x s :=
  ⟨h.ln.kp k h1, (LocT.own2 h.bf h2 h1).keep w' k, h.p1, h.p2, h.p3, h.le, Nat.le_trans h.lh k.size⟩
/-- A number of one of the rows is stored. -/
theorem Own.int1 {w : World} {base g n cap : Nat} {xs : List Int} (h : Own IntE 3 w base (.slice (some ⟨g, 0, none⟩) n cap) xs) {k : Nat} {x : Int} (hx : xs[k]? = some x) (y : Int) :
    g < w.heap.size ∧ w.cell? ⟨g, k, none⟩ = some (.int .i64 x) ∧ (∀ j, w.frozen? ⟨g, j, none⟩ = false) ∧ Own IntE 3 (w.setCell ⟨g, k, none⟩ (.int .i64 y)) base (.slice (some ⟨g, 0, none⟩) n cap) (xs.set k y) ∧ w.grownBy (w.setCell ⟨g, k, none⟩ (.int .i64 y)) (some g) := by
  have hc := h.cell hx (j := 0) rfl
  have hs := h.set (i := k) (j := 0) y (u := .int .i64 y) (by decide) hx rfl
  simp only [IntE, Nat.mul_one, Nat.add_zero] at hc hs
  exact ⟨(World.ownsRow.lt h g rfl).2, hc, fun j => h.frozen j, hs, grown_set (World.grownBy.refl _ _) _ _⟩
theorem Own.open1 {α : Type} {E : El α} {T : TypeId} {w : World} {base : Nat} {c : Slc} {xs : List α} (h : Own E T w base c.v xs) {k : Nat} {x : α} (hx : xs[k]? = some x) : ∃ g, c.a = some ⟨g, 0, none⟩ ∧ c.n = xs.length := by
  rcases h.shape with ⟨_, h2⟩ | ⟨g, cap, h2, _⟩
  · rw [h2] at hx; simp at hx
  · simp only [Slc.v, Value.slice.injEq] at h2
    exact ⟨g, h2.1, h2.2.1⟩
/-- What a function that makes a state hands back. -/
def RetSt (w : World) (s : St) (e : Ending) (w' : World) : Prop := ∃ (x : SV) (m : Nat), e = .returned (.agg #[.slice x.p.a x.p.n x.p.cap, .slice x.r.a x.r.n x.r.cap, .slice x.m.a x.m.n x.m.cap, .slice x.b.a x.b.n x.b.cap]) ∧ OwnSt w' w.heap.size m x s ∧ Below w.heap.size w w'

theorem step_mk {α : Type} (E : El α) {P : Program} {w : World} {ops : Array Oper} {o : Oper} {a : Act} {K : Act → World → Prop} {Q : Exit → Act → World → Prop} {F : Prop}
    (T : TypeId) (z : α) {zv : Value} {bytes : Nat} (hinfo : (P.info? T).map (fun i => (i.zero, i.size, i.bytes)) = some (some zv, E.sz, bytes)) (hz : zv.cells.toList = E.c z) {t : TypeId} (h1 : P.underlying t = some (.slice T))
    (n : Nat) (hby : bytes ≤ 256) (hn : n ≤ 1099511627776) (hg : o.guard = none) (l c : Operand) (hop : o.op = Op.makeSlice t l c) (hl : a.eval l = .int .i64 n) (hc : a.eval c = .int .i64 n)
    (hK : ∀ w', Own E T w' w.heap.size (.slice (some ⟨w.heap.size, 0, none⟩) n n) (List.replicate n z) → w.grownBy w' none → K (a.put o.dst (.slice (some ⟨w.heap.size, 0, none⟩) n n)) w') :
    if Region.wanted o (yielded ops a.tmps) = true then Oper.wp P o a w K Q else F := by
  obtain ⟨it, hi, hz0, hz1, hz2⟩ := info_parts hinfo
  have hw : Region.wanted o (yielded ops a.tmps) = true := by simp [Region.wanted, hg]
  rw [if_pos hw]
  obtain ⟨w', hrun, r1, r2⟩ := run_make_full (P := P) w w.heap.size t T it zv E.sz h1 hi hz0 hz1 .i64 .i64 n (by rw [hz2]; have := Nat.mul_le_mul hby hn; omega) (by unfold maxLen; omega) (Nat.le_refl _)
  unfold Oper.wp
  simp [execOp, hop, hl, hc, hrun, Result.andThen]
  refine hK w' ?_ r2
  unfold Own
  rw [List.length_replicate, ← made_eq z zv hz n]
  exact r1
theorem run_append_zeroM {P : Program} {w : World} {base : Nat} {t ty e : TypeId} {i : TypeInfo} {size : Nat} (ht : P.underlying t = some (.slice e)) (hi : P.info? e = some i)
    {v : Value} {n c : Nat} {xs : List Value} (hown : w.ownsRow base e size v n xs) (ad : Addr) : (Builtin.append_ #[t, t] ty #[v, .slice (some ad) 0 c]).run P w = .ok v w := by
  rcases hown.2 with ⟨rfl, rfl⟩ | ⟨g, cap, cur, rfl, _, _, hnc, _⟩
  · simp [Builtin.append_, run_underlying ht, sizeOf, typeInfo, hi, Builtin.lenOf, Builtin.firstCells, loadCells, loadCellsFrom]
  · simp [Builtin.append_, run_underlying ht, sizeOf, typeInfo, hi, Builtin.lenOf, Builtin.firstCells, hnc, loadCells, loadCellsFrom, storeCells]
/-- A slice is appended, at a step of a region that draws: and where the result lies. -/
theorem step_appSAt {α : Type} (E : El α) {P : Program} {w : World} {ops : Array Oper} {o : Oper} {a : Act} {K : Act → World → Prop} {Q : Exit → Act → World → Prop} {F : Prop}
    (T : TypeId) {zv : Value} {bytes : Nat} (hinfo : (P.info? T).map (fun i => (i.zero, i.size, i.bytes)) = some (some zv, E.sz, bytes)) (hz : zv.cells.size = E.sz) {t : TypeId} (h1 : P.underlying t = some (.slice T))
    (base : Nat) (s0 : Slc) (xs ys : List α) (u : Value) (hown : Own E T w base s0.v xs) (hrep : Rep E w u ys) (hby : bytes ≤ 256) (hn : xs.length + ys.length ≤ 68719476736) (hbase : base ≤ w.heap.size)
    (hg : o.guard = none) (s y : Operand) (hop : o.op = .call { callee := .builtin .append, args := #[s, y], argTypes := #[t, t] })
    (hs : a.eval s = s0.v) (hy : a.eval y = u)
    (hK : ∀ (s' : Slc) w', Own E T w' base s'.v (xs ++ ys) → w.grownBy w' s0.v.ownBlock → (s'.v.ownBlock = s0.v.ownBlock ∨ ∀ q, s'.v.ownBlock = some q → w.heap.size ≤ q) → K (a.put o.dst (.slice s'.a s'.n s'.cap)) w') :
    if Region.wanted o (yielded ops a.tmps) = true then Oper.wp P o a w K Q else F := by
  obtain ⟨it, hi, hz0, hz1, hz2⟩ := info_parts hinfo
  obtain ⟨ad, c, rfl, hc1, hc2, hcell⟩ := hrep
  have hw : Region.wanted o (yielded ops a.tmps) = true := by simp [Region.wanted, hg]
  have hnone : ∀ r : (Builtin.append_ #[t, t] o.type #[s0.v, .slice ad ys.length c]).run P w = .ok s0.v w, ys = [] → (if Region.wanted o (yielded ops a.tmps) = true then Oper.wp P o a w K Q else F) := fun r hys => by
    rw [if_pos hw]
    unfold Oper.wp
    simp [execOp, hop, resolve, invoke, builtin, hs, hy, r, Result.andThen]
    exact hK s0 _ (by subst hys; simpa using hown) (World.grownBy.refl _ _) (.inl rfl)
  cases ad with
  | none =>
    have hys : ys = [] := by
      cases ys with
      | nil => rfl
      | cons y ys => obtain ⟨b, o, hb, _⟩ := hcell 0 y rfl; cases hb
    exact hnone (by subst hys; exact run_append_none h1 hi hown) hys
  | some ad =>
    by_cases hys : ys = []
    · exact hnone (by subst hys; exact run_append_zeroM h1 hi hown ad) hys
    have hpos : 0 < ys.length := List.length_pos_iff.2 hys
    refine step_append_lies w hg s y t hop base T it zv E.sz bytes h1 hi hz0 hz1 hz2 hz E.pos s0.v xs.length _ hs hown ad ys.length c (ys.flatMap E.c) hy (E.length ys) ?_ ?_ hpos (by unfold maxLen; omega) ?_ hbase _ rfl ?_
    · intro j u hu
      have hpos := E.pos
      have hj : j = j / E.sz * E.sz + j % E.sz := by rw [Nat.mul_comm]; exact (Nat.div_add_mod j E.sz).symm
      have hm : j % E.sz < E.sz := Nat.mod_lt _ hpos
      have hu2 := hu
      rw [hj, E.get ys _ _ hm] at hu2
      cases hx : ys[j / E.sz]? with
      | none => rw [hx] at hu2; cases hu2
      | some x =>
        rw [hx] at hu2
        obtain ⟨b, o, hb, h⟩ := hcell _ x hx
        simp only [Option.some.injEq] at hb
        subst hb
        have hc := h (j % E.sz) u hu2
        rw [Addr.add_lit, hj, ← Nat.add_assoc]
        exact hc
    · intro u hu
      rw [List.mem_flatMap] at hu
      obtain ⟨x, _, hx⟩ := hu
      exact E.one x u hx
    · have := Nat.mul_le_mul (show xs.length + ys.length ≤ 68719476736 from hn) hby
      omega
    · intro g cap w' h2 h3 h4 _
      refine hK ⟨some ⟨g, 0, none⟩, xs.length + ys.length, cap⟩ w' ?_ h3 ?_
      · unfold Own
        simpa [List.flatMap_append] using h2
      · rcases h4 with h4 | h4
        · exact .inl h4.symm
        · exact .inr fun q hq => by simp [Value.ownBlock] at hq; omega

theorem Try.infoIntSM : (Try.prog.info? 24).map (fun i => (i.zero, i.size, i.bytes)) = some (some (.slice none 0 0), 1, 24) := by kernel_rfl
theorem wrapM {a : Int} (h1 : -9223372036854775808 ≤ a) (h2 : a ≤ 9223372036854775807) : IntKind.i64.wrap a = a := by rw [IntKind.wrap_i64]; omega
theorem cellH {w : World} {b k : Nat} {cur : Array Value} {t : TypeId} {v : Value} {fz : Nat × Nat} (h : w.heap[b]? = some (.cells cur t fz)) (hk : cur[k]? = some v) : w.cell? ⟨b, k, none⟩ = some v := by
  simp [World.cell?, h, hk]
theorem frozH {w : World} {b : Nat} {cur : Array Value} {t : TypeId} (h : w.heap[b]? = some (.cells cur t (0, 0))) (j : Nat) : w.frozen? ⟨b, j, none⟩ = false := by
  simp [World.frozen?, h]

end Go.Proofs.Ytpjebgiejkglpaa

namespace Go.Proofs.Ytpjebgiejkglpaa
open Go.RowKit

theorem zeroCells_eq {α : Type} (E : El α) (z : α) (zv : Value) (hz : zv.cells.toList = E.c z) (n : Nat) : (Builtin.zeroCells zv.cells n).toList = (List.replicate n z).flatMap E.c := by
  have h := made_eq (E := E) z zv hz n
  have hsz : zv.cells.size = E.sz := by rw [← Array.length_toList, hz, E.len]
  rw [← h]
  simp [Builtin.zeroCells, madeCells, hsz]

theorem El.take {α : Type} (E : El α) (xs : List α) (i : Nat) : (xs.flatMap E.c).take (i * E.sz) = (xs.take i).flatMap E.c := by
  induction xs generalizing i with
  | nil => simp
  | cons x xs ih =>
    cases i with
    | zero => simp
    | succ i =>
      rw [List.flatMap_cons, List.take_succ_cons, List.flatMap_cons, List.take_append, E.len, List.take_of_length_le (by rw [E.len, Nat.add_mul]; omega),
        show (i + 1) * E.sz - E.sz = i * E.sz by rw [Nat.add_mul]; omega, ih]

section
variable {α : Type} {E : El α} {T : TypeId}

/-- 's[:i]'. -/
theorem Own.cut {w : World} {base g n cap : Nat} {xs : List α} (h : Own E T w base (.slice (some ⟨g, 0, none⟩) n cap) xs) {i : Nat} (hi : i ≤ n) : Own E T w base (.slice (some ⟨g, 0, none⟩) i cap) (xs.take i) := by
  have hn := h.len
  subst hn
  unfold Own at *
  have hl : (xs.take i).length = i := by rw [List.length_take]; omega
  rcases h.2 with ⟨h1, _⟩ | ⟨g', cap', cur, h1, h2, h3, h4, h5, h6, h7⟩
  · simp at h1
  · simp only [Value.slice.injEq, Option.some.injEq, Addr.mk.injEq, and_true, true_and] at h1
    obtain ⟨rfl, rfl⟩ := h1
    rw [hl]
    refine ⟨by rw [E.length, hl], .inr ⟨g, cap, cur, rfl, h2, h3, by omega, h5, h6, ?_⟩⟩
    rw [← E.take, ← h7, List.take_take, Nat.min_eq_left (Nat.mul_le_mul_right _ hi)]

/-- 'clear(s[i:])'. -/
theorem run_clear {P : Program} {w : World} {base g n cap i c' : Nat} {xs : List α} (z : α) {zv : Value} {bytes : Nat} (hinfo : (P.info? T).map (fun i => (i.zero, i.size, i.bytes)) = some (some zv, E.sz, bytes)) (hz : zv.cells.toList = E.c z)
    {t ty : TypeId} (h1 : P.underlying t = some (.slice T)) (hown : Own E T w base (.slice (some ⟨g, 0, none⟩) n cap) xs) (hi : i < n) :
    ∃ w', (Builtin.clear_ #[t] ty #[.slice (some ⟨g, i * E.sz, none⟩) (n - i) c']).run P w = .ok (.tuple #[]) w' ∧ Own E T w' base (.slice (some ⟨g, 0, none⟩) n cap) (xs.take i ++ List.replicate (n - i) z) ∧ w.grownBy w' (some g) := by
  have hn := hown.len
  subst hn
  obtain ⟨it, hi1, hz0, hz1, hz2⟩ := info_parts hinfo
  rcases hown.2 with ⟨h2, _⟩ | ⟨g', cap', cur, h2, hb, hg, hnc, hcm, hcs, htake⟩
  · simp at h2
  · simp only [Value.slice.injEq, Option.some.injEq, Addr.mk.injEq, and_true, true_and] at h2
    obtain ⟨rfl, rfl⟩ := h2
    have hzl : (Builtin.zeroCells zv.cells (xs.length - i)).toList = (List.replicate (xs.length - i) z).flatMap E.c := zeroCells_eq E z zv hz _
    have hlen : ((List.replicate (xs.length - i) z).flatMap E.c).length = (xs.length - i) * E.sz := by rw [E.length]; simp
    have hmul : i * E.sz + (xs.length - i) * E.sz = xs.length * E.sz := by rw [← Nat.add_mul]; congr 1; omega
    have hmul2 : xs.length * E.sz ≤ cap * E.sz := Nat.mul_le_mul_right _ hnc
    have hst := run_storeCells_at P g (i * E.sz) T ((List.replicate (xs.length - i) z).flatMap E.c) 0 cur w hg (by rw [hlen, hcs]; omega) (fun v hv => by
      rw [List.mem_flatMap] at hv
      obtain ⟨x, _, hx⟩ := hv
      exact E.one x v hx)
    simp only [Nat.add_zero] at hst
    refine ⟨w.setRow g (cur.toList.take (i * E.sz) ++ (List.replicate (xs.length - i) z).flatMap E.c ++ cur.toList.drop (i * E.sz + ((List.replicate (xs.length - i) z).flatMap E.c).length)).toArray, ?_, ?_, ⟨rfl, rfl, rfl, by simp, fun k _ hk => setRow_other w g k _ (fun e => hk (by simp [e]))⟩⟩
    · have hne : xs.length - i ≠ 0 := by omega
      obtain ⟨m, hm⟩ := Nat.exists_eq_succ_of_ne_zero hne
      rw [hm] at hst hzl ⊢
      simp only [Nat.succ_eq_add_one] at hst hzl ⊢
      simp [Builtin.clear_, run_underlying h1, zeroValue, typeInfo, hi1, hz0, hzl, hst]
    · have hl2 : (xs.take i ++ List.replicate (xs.length - i) z).length = xs.length := by simp; omega
      unfold Own
      rw [hl2]
      refine ⟨by rw [E.length, hl2], .inr ⟨g, cap, _, rfl, hb, setRow_heap w g cur _ T _ hg, hnc, hcm, ?_, ?_⟩⟩
      · simp only [List.size_toArray, List.length_append, List.length_take, List.length_drop, Array.length_toList, hlen, hcs]
        omega
      · rw [List.flatMap_append, ← E.take, ← htake, List.take_take, Nat.min_eq_left (by omega)]
        rw [show xs.length * E.sz = (cur.toList.take (i * E.sz) ++ (List.replicate (xs.length - i) z).flatMap E.c).length by
          have hcl : cur.toList.length = cap * E.sz := by rw [Array.length_toList, hcs]
          rw [List.length_append, hlen, List.length_take, hcl]; omega]
        exact List.take_left

end

/-- How far a deletion in place has come: the first i are what is kept of the first j, from j on nothing has turned. -/
structure DelInv {α : Type} (f : α → Bool) (xs L : List α) (i j : Nat) : Prop where
  take : L.take i = (xs.take j).filter fun x => !f x
  drop : L.drop j = xs.drop j

theorem filter_all {α : Type} {f : α → Bool} {xs : List α} (h : ∀ x ∈ xs, f x = true) : xs.filter f = xs := List.filter_eq_self.2 h

theorem del_start {α : Type} {f : α → Bool} {xs : List α} {t : Nat} {x : α} (hx : xs[t]? = some x) (hf : f x = true) (hno : ∀ y ∈ xs.take t, f y = false) : DelInv f xs xs t (t + 1) := by
  refine ⟨?_, rfl⟩
  rw [List.take_add_one, hx, List.filter_append, filter_all (fun y hy => by rw [hno y hy]; rfl)]
  simp [hf]

section
variable {α : Type} {f : α → Bool} {xs L : List α} {i j : Nat}
theorem DelInv.get (h : DelInv f xs L i j) {x : α} (hx : xs[j]? = some x) : L[j]? = some x := by
  have h1 : (L.drop j)[0]? = (xs.drop j)[0]? := by rw [h.drop]
  rw [List.getElem?_drop, List.getElem?_drop, Nat.add_zero] at h1
  rw [h1, hx]
theorem DelInv.keep (h : DelInv f xs L i j) (hij : i < j) {x : α} (hx : xs[j]? = some x) (hf : f x = false) : DelInv f xs (L.set i x) (i + 1) (j + 1) := by
  have hL := h.get hx
  have hjl := (List.getElem?_eq_some_iff.1 hL).1
  refine ⟨?_, ?_⟩
  · rw [List.take_add_one, List.take_add_one, hx, List.filter_append, ← h.take, List.getElem?_set, if_pos rfl, if_pos (by omega)]
    rw [List.take_set_of_le (Nat.le_refl _)]
    simp [hf]
  · rw [List.drop_set_of_lt (by omega)]
    have h1 : (L.drop j).drop 1 = (xs.drop j).drop 1 := by rw [h.drop]
    simpa [List.drop_drop] using h1
theorem DelInv.skip (h : DelInv f xs L i j) {x : α} (hx : xs[j]? = some x) (hf : f x = true) : DelInv f xs L i (j + 1) := by
  refine ⟨?_, ?_⟩
  · rw [List.take_add_one, hx, List.filter_append, h.take]; simp [hf]
  · have h1 : (L.drop j).drop 1 = (xs.drop j).drop 1 := by rw [h.drop]
    simpa [List.drop_drop] using h1
theorem DelInv.done (h : DelInv f xs L i j) (hj : xs.length ≤ j) : L.take i = xs.filter fun x => !f x := by
  rw [h.take, List.take_of_length_le hj]
end

theorem grown_of_below {w w' : World} (h : Below w.heap.size w w') (row : Option Nat) : w.grownBy w' row := ⟨h.os, h.tape, h.output, h.size, fun k hk _ => h.block k hk⟩
theorem grown_trans {w w' w'' : World} {row : Option Nat} (h : w.grownBy w' row) (k : w'.grownBy w'' row) : w.grownBy w'' row :=
  ⟨k.os.trans h.os, k.tape.trans h.tape, k.output.trans h.output, Nat.le_trans h.size k.size, fun q hq hne => (k.block q (Nat.lt_of_lt_of_le hq h.size) hne).trans (h.block q hq hne)⟩

/-- What a deletion in place hands back. -/
def DelPost {α : Type} (E : El α) (T : TypeId) (w : World) (base : Nat) (v : Value) (ys : List α) (e : Ending) (w' : World) : Prop := ∃ v', e = .returned v' ∧ Own E T w' base v' ys ∧ w.grownBy w' v.ownBlock ∧ v'.ownBlock = v.ownBlock

theorem wpList_clear {α : Type} (E : El α) {P : Program} {w : World} {ops : Array Oper} {rest : List Oper} {o : Oper} {a : Act} {Q : Exit → Act → World → Prop}
    (T : TypeId) (z : α) {zv : Value} {bytes : Nat} (hinfo : (P.info? T).map (fun i => (i.zero, i.size, i.bytes)) = some (some zv, E.sz, bytes)) (hz : zv.cells.toList = E.c z) {t : TypeId} (h1 : P.underlying t = some (.slice T))
    (base g n cap i c' : Nat) (xs : List α) (hown : Own E T w base (.slice (some ⟨g, 0, none⟩) n cap) xs) (hi : i < n) (hg : o.guard = none) (y : Operand)
    (hop : o.op = .call { callee := .builtin .clear, args := #[y], argTypes := #[t] }) (hy : a.eval y = .slice (some ⟨g, i * E.sz, none⟩) (n - i) c')
    (hK : ∀ w', Own E T w' base (.slice (some ⟨g, 0, none⟩) n cap) (xs.take i ++ List.replicate (n - i) z) → w.grownBy w' (some g) → wpList P ops Q rest (a.put o.dst (.tuple #[])) w') :
    wpList P ops Q (o :: rest) a w := by
  refine wpList_plain hg fun K hK' => ?_
  obtain ⟨w', hrun, r1, r2⟩ := run_clear (ty := o.type) (c' := c') z hinfo hz h1 hown hi
  unfold Oper.wp
  simp [execOp, hop, resolve, invoke, builtin, hy, hrun, Result.andThen]
  exact hK' _ _ (hK w' r1 r2)

/-- Row k is worked on in place, cut short, and laid back. -/
theorem Own2U.rowput {α : Type} {E : El α} {T1 T2 : TypeId} {us : List Slc} {w w' : World} {base g n cap : Nat} {p : List (List α)} (h : Own2U E T1 T2 us w base (.slice (some ⟨g, 0, none⟩) n cap) p) {k : Nat} {s s' : Slc} (hs : us[k]? = some s) {r' : List α}
    (ho : Own E T2 w' base s'.v r') (hg : w.grownBy w' s.v.ownBlock) (hb : s'.v.ownBlock = s.v.ownBlock) : Own2U E T1 T2 (us.set k s') (w'.setCell ⟨g, k, none⟩ s'.v) base (.slice (some ⟨g, 0, none⟩) n cap) (p.set k r') := by
  obtain ⟨h1, h2, h3, h4, h5⟩ := h
  have hk := (List.getElem?_eq_some_iff.1 hs).1
  have h2' := h2.grown hg (.inr (fun e => h5 k s hs g (by rw [← e]; rfl) rfl))
  have h2s := h2'.set (i := k) (j := 0) s' (u := s'.v) (by decide) hs rfl
  simp only [SlcE, Nat.mul_one, Nat.add_zero] at h2s
  have hgs : w'.grownBy (w'.setCell ⟨g, k, none⟩ s'.v) (some g) := grown_set (World.grownBy.refl _ _) _ _
  have split : ∀ (i : Nat) (u : Slc), (us.set k s')[i]? = some u → (i = k ∧ u = s') ∨ (i ≠ k ∧ us[i]? = some u) := fun i u hi => by
    rw [List.getElem?_set] at hi
    by_cases e : k = i
    · subst e; rw [if_pos rfl, if_pos hk] at hi; simp at hi; exact .inl ⟨rfl, hi.symm⟩
    · rw [if_neg e] at hi; exact .inr ⟨fun h => e h.symm, hi⟩
  have blk : ∀ (i : Nat) (u : Slc), (us.set k s')[i]? = some u → ∃ u0 : Slc, us[i]? = some u0 ∧ u.v.ownBlock = u0.v.ownBlock := fun i u hi => by
    rcases split i u hi with ⟨e1, e2⟩ | ⟨_, hi'⟩
    · exact ⟨s, by rw [e1]; exact hs, by rw [e2]; exact hb⟩
    · exact ⟨u, hi', rfl⟩
  refine ⟨by simp [h1], h2s, ?_, ?_, ?_⟩
  · intro i u r hi hr
    rcases split i u hi with ⟨e1, e2⟩ | ⟨hne, hi'⟩
    · rw [e1, List.getElem?_set, if_pos rfl, if_pos (by omega)] at hr
      simp at hr; subst hr
      rw [e2]
      refine ho.grown hgs ?_
      rcases hq : s'.v.ownBlock with _ | q
      · exact .inl rfl
      · refine .inr (fun e => ?_)
        rw [hb] at hq
        exact h5 k s hs q hq (by rw [e]; rfl)
    · rw [List.getElem?_set, if_neg (fun e => hne e.symm)] at hr
      refine ((h3 i u r hi' hr).grown hg ?_).grown hgs ?_
      · rcases hq : u.v.ownBlock with _ | q
        · exact .inl rfl
        · exact .inr (fun e => h4 i k u s hi' hs hne q hq e.symm)
      · rcases hq : u.v.ownBlock with _ | q
        · exact .inl rfl
        · exact .inr (fun e => h5 i u hi' q hq (by rw [e]; rfl))
  · intro i j u u' hi hj hij q hq hq'
    obtain ⟨u0, hu0, e0⟩ := blk i u hi
    obtain ⟨u1, hu1, e1⟩ := blk j u' hj
    exact h4 i j u0 u1 hu0 hu1 hij q (by rw [← e0]; exact hq) (by rw [← e1]; exact hq')
  · intro i u hi q hq
    obtain ⟨u0, hu0, e0⟩ := blk i u hi
    exact h5 i u0 hu0 q (by rw [← e0]; exact hq)

end Go.Proofs.Ytpjebgiejkglpaa

namespace Go.Proofs.Ytpjebgiejkglpaa

/-- How many states lie behind a state of rank r, each with b moves at most. -/
def dW (b : Nat) : Nat → Nat
  | 0 => 1
  | r + 1 => 1 + b * dW b r
def cW (b : Nat) : Nat → Nat
  | 0 => 0
  | r + 1 => dW b r
theorem dW_eq (b r : Nat) : dW b r = 1 + b * cW b r := by cases r <;> simp [dW, cW]
theorem dW_pos (b r : Nat) : 1 ≤ dW b r := by rw [dW_eq]; omega
theorem dW_step (b : Nat) (hb : 0 < b) (r : Nat) : dW b r ≤ dW b (r + 1) := by
  have h : dW b r * 1 ≤ dW b r * b := Nat.mul_le_mul_left _ hb
  rw [show dW b (r + 1) = 1 + b * dW b r from rfl, Nat.mul_comm b]
  omega
theorem dW_mono {b : Nat} (hb : 0 < b) {r r' : Nat} (h : r ≤ r') : dW b r ≤ dW b r' := by
  induction h with
  | refl => exact Nat.le_refl _
  | step _ ih => exact Nat.le_trans ih (dW_step b hb _)
theorem dW_less {b : Nat} (hb : 0 < b) {r r' : Nat} (h : r < r') : dW b r ≤ cW b r' := by
  cases r' with
  | zero => omega
  | succ r' => exact dW_mono hb (Nat.le_of_lt_succ h)

section
variable {S : Type} (b : Nat) (rank : S → Nat)
def phi (l : List S) : Nat := (l.map fun s => dW b (rank s)).sum
theorem phi_append (l l' : List S) : phi b rank (l ++ l') = phi b rank l + phi b rank l' := by simp [phi, List.sum_append]
theorem phi_one (s : S) : phi b rank [s] = dW b (rank s) := by simp [phi]
theorem phi_len (l : List S) : l.length ≤ phi b rank l := by
  induction l with
  | nil => simp
  | cons s l ih =>
    have := dW_pos b (rank s)
    simp only [phi, List.map_cons, List.sum_cons, List.length_cons] at ih ⊢
    omega
end

section
variable {S K : Type} {start : S} {next : S → Nat → Option S} {key : S → K} (done : S → Bool) (out : S → List Int) (n b : Nat) (rank : S → Nat) (tot : Nat)

/-- A search between two states. -/
structure Srch (start : S) (next : S → Nat → Option S) (work seen taken : List S) (outs : List (List Int)) : Prop where
  all : SAll done out n start next work seen taken outs
  num : seen.length = taken.length + work.length
  le : taken.length + phi b rank work ≤ tot
/-- A search that looks at the moves of state s, those below k done. -/
structure SrchM (start : S) (next : S → Nat → Option S) (m : Nat) (s : S) (k : Nat) (work seen taken : List S) (outs : List (List Int)) : Prop where
  mid : SMid start next s k work seen
  o : OInv done out n taken outs
  t1 : ∀ u ∈ seen, u ∈ work ∨ u ∈ taken
  t2 : ∀ u ∈ taken, u ∈ seen
  num : seen.length = taken.length + work.length
  le : taken.length + phi b rank work + (b - k) * cW b (rank s) ≤ tot
  fall : phi b rank work + (b - k) * cW b (rank s) + 1 ≤ m

variable {done out n b rank tot}
theorem Srch.init (hb : dW b (rank start) ≤ tot) : Srch done out n b rank tot start next [start] [start] [] [] :=
  ⟨⟨.init, .nil, fun s h => .inl h, fun s h => by simp at h⟩, by simp, by rw [phi_one]; simpa using hb⟩
theorem Srch.len {work seen taken : List S} {outs : List (List Int)} (h : Srch done out n b rank tot start next work seen taken outs) : seen.length ≤ tot := by
  have h1 := phi_len b rank work
  have h2 := h.le
  rw [h.num]; omega
theorem SrchM.len {m : Nat} {s : S} {k : Nat} {work seen taken : List S} {outs : List (List Int)} (h : SrchM done out n b rank tot start next m s k work seen taken outs) : seen.length ≤ tot := by
  have h1 := phi_len b rank work
  have h2 := h.le
  rw [h.num]; omega
theorem Srch.rc {work seen taken : List S} {outs : List (List Int)} (h : Srch done out n b rank tot start next work seen taken outs) {s : S} (hs : s ∈ work) : Reach start next s := h.all.inv.rc s (h.all.inv.sub s hs)
theorem Srch.enter {work seen taken : List S} {s : S} {outs outs' : List (List Int)} (h : Srch done out n b rank tot start next (work ++ [s]) seen taken outs) (ho : OInv done out n (s :: taken) outs') : SrchM done out n b rank tot start next (phi b rank (work ++ [s])) s 0 work seen (s :: taken) outs' := by
  have h1 := h.le
  rw [phi_append, phi_one, dW_eq] at h1
  have h2 := h.num
  simp only [List.length_append, List.length_singleton] at h2
  have hw : ∀ u, u ∈ work ++ [s] ↔ u = s ∨ u ∈ work := fun u => by simp [or_comm]
  refine ⟨h.all.inv.enter hw, ho, fun u hu => ?_, fun u hu => ?_, by simp only [List.length_cons]; omega, by simp only [List.length_cons, Nat.sub_zero]; omega, by rw [phi_append, phi_one, dW_eq, Nat.sub_zero]; omega⟩
  · rcases h.all.t1 u hu with e | e
    · rcases (hw u).1 e with e | e
      · exact .inr (by simp [e])
      · exact .inl e
    · exact .inr (by simp [e])
  · rcases List.mem_cons.1 hu with e | e
    · rw [e]; exact h.all.inv.sub s (by simp)
    · exact h.all.t2 u e
theorem Srch.yes {work seen taken : List S} {s : S} {outs : List (List Int)} (h : Srch done out n b rank tot start next (work ++ [s]) seen taken outs) (hd : done s = true) (hl : (out s).length = n) : SrchM done out n b rank tot start next (phi b rank (work ++ [s])) s 0 work seen (s :: taken) (putO (out s) outs) := h.enter (h.all.o.yes hd hl)
theorem Srch.no {work seen taken : List S} {s : S} {outs : List (List Int)} (h : Srch done out n b rank tot start next (work ++ [s]) seen taken outs) (hd : done s = false) : SrchM done out n b rank tot start next (phi b rank (work ++ [s])) s 0 work seen (s :: taken) outs := h.enter (h.all.o.no hd)
theorem SrchM.skip {m : Nat} {s : S} {k : Nat} {work seen taken : List S} {outs : List (List Int)} (h : SrchM done out n b rank tot start next m s k work seen taken outs) (hn : next s k = none) : SrchM done out n b rank tot start next m s (k + 1) work seen taken outs :=
  ⟨h.mid.skip hn, h.o, h.t1, h.t2, h.num, by
    have h1 := h.le
    have h2 : (b - (k + 1)) * cW b (rank s) ≤ (b - k) * cW b (rank s) := Nat.mul_le_mul_right _ (by omega)
    omega, by
    have h1 := h.fall
    have h2 : (b - (k + 1)) * cW b (rank s) ≤ (b - k) * cW b (rank s) := Nat.mul_le_mul_right _ (by omega)
    omega⟩
theorem SrchM.old {m : Nat} {s t : S} {k : Nat} {work seen taken : List S} {outs : List (List Int)} (h : SrchM done out n b rank tot start next m s k work seen taken outs) (hn : next s k = some t) (hk : key t ∈ seen.map key)
    (hi : ∀ a b, Reach start next a → Reach start next b → key a = key b → a = b) : SrchM done out n b rank tot start next m s (k + 1) work seen taken outs := by
  obtain ⟨u, hu, he⟩ := List.mem_map.1 hk
  exact ⟨h.mid.old (key := key) hn hu he hi, h.o, h.t1, h.t2, h.num, by
    have h1 := h.le
    have h2 : (b - (k + 1)) * cW b (rank s) ≤ (b - k) * cW b (rank s) := Nat.mul_le_mul_right _ (by omega)
    omega, by
    have h1 := h.fall
    have h2 : (b - (k + 1)) * cW b (rank s) ≤ (b - k) * cW b (rank s) := Nat.mul_le_mul_right _ (by omega)
    omega⟩
theorem SrchM.new {m : Nat} {s t : S} {k : Nat} {work seen taken : List S} {outs : List (List Int)} (h : SrchM done out n b rank tot start next m s k work seen taken outs) (hn : next s k = some t) (hkb : k < b) (hr : rank t < rank s) : SrchM done out n b rank tot start next m s (k + 1) (work ++ [t]) (seen ++ [t]) taken outs := by
  have h1 := h.le
  have h5 := h.fall
  have h2 : dW b (rank t) ≤ cW b (rank s) := dW_less (by omega) hr
  have h3 : (b - k) * cW b (rank s) = (b - (k + 1)) * cW b (rank s) + cW b (rank s) := by
    rw [show b - k = (b - (k + 1)) + 1 by omega, Nat.add_mul, Nat.one_mul]
  have h4 := h.num
  refine ⟨h.mid.new hn (fun u => by simp [or_comm]) (fun u => by simp [or_comm]), h.o, fun u hu => ?_, fun u hu => by simp [h.t2 u hu], by simp only [List.length_append, List.length_singleton]; omega, by rw [phi_append, phi_one]; omega, by rw [phi_append, phi_one]; omega⟩
  rcases List.mem_append.1 hu with e | e
  · rcases h.t1 u e with e | e
    · exact .inl (by simp [e])
    · exact .inr e
  · exact .inl (by simp at e; simp [e])
theorem SrchM.leave {m : Nat} {s : S} {k : Nat} {work seen taken : List S} {outs : List (List Int)} (h : SrchM done out n b rank tot start next m s k work seen taken outs) (hk : ∀ i t, next s i = some t → i < k) : Srch done out n b rank tot start next work seen taken outs :=
  ⟨⟨h.mid.leave hk, h.o, h.t1, h.t2⟩, h.num, by have := h.le; omega⟩
theorem SrchM.phi_lt {m : Nat} {s : S} {k : Nat} {work seen taken : List S} {outs : List (List Int)} (h : SrchM done out n b rank tot start next m s k work seen taken outs) : phi b rank work < m := by
  have := h.fall
  omega
end

end Go.Proofs.Ytpjebgiejkglpaa

namespace Go.Proofs.Ytpjebgiejkglpaa
open Go.RowKit Go.Deep Go.ChangeShapes Go.WideShapes Go.ChangeAt

theorem addr_of_cell {w : World} {a : Addr} {v : Value} (h : w.cell? a = some v) : a.spot = none := by
  unfold World.cell? at h
  split at h
  · cases hs : a.spot with
    | none => rfl
    | some x => simp [hs] at h
  · cases h

theorem cells_get {w : World} {base : Nat} {a : Addr} {n : Nat} {cs : List Value} (h : w.cells? base a n = some cs) {j : Nat} {u : Value} (hu : cs[j]? = some u) : w.cell? (a.add j) = some u := by
  unfold World.cells? at h
  split at h
  · have hl := mapM_some_length h
    have hj : j < n := by
      have := (List.getElem?_eq_some_iff.1 hu).1
      rw [hl] at this; simpa using this
    have := mapM_some_get h j j (by simp [hj])
    rw [this]; exact hu
  · cases h

theorem add_none (b o j : Nat) : (⟨b, o, none⟩ : Addr).add j = ⟨b, o + j, none⟩ := by unfold Addr.add; split <;> simp_all

section
variable {H : Type} {enc : TypeId × Value → H} {P : Program} {w : World} {base : Nat} {spare : Nat → Bool} {held : Bool} {fuel : Nat} {cs : List Value} {x : DataW H × List MemPlace}

theorem rep_of_trod {α : Type} [Inhabited α] (E : El α) {t e : TypeId} (ht : P.underlying t = some (.slice e)) (hc : P.cellsOf e = E.sz) (Q : α → Prop)
    (hel : ∀ n cs x, DataW.trod enc P w base spare held n e cs = some x → ∃ y, cs = E.c y ∧ Q y) (h : DataW.trod enc P w base spare held fuel t cs = some x) : ∃ v xs, cs = [v] ∧ Rep E w v xs ∧ ∀ y ∈ xs, Q y := by
  rcases open_slice ht h with ⟨rfl, _⟩ | ⟨a, len, cap, m, n, D, Pl, rfl, hb, hl, hm, hmm, _, hx⟩
  · exact ⟨_, [], rfl, Rep.nil w, fun y h => by simp at h⟩
  · have hlm : len ≤ m := by rw [hmm]; split <;> omega
    have each : ∀ i, i < len → ∃ y, w.cells? base (a.add (i * E.sz)) E.sz = some (E.c y) ∧ Q y := fun i hi => by
      obtain ⟨cs', h1, h2⟩ := hx i (by omega)
      obtain ⟨y, rfl, hq⟩ := hel n cs' _ h2
      rw [hc] at h1
      exact ⟨y, h1, hq⟩
    obtain ⟨f, hf⟩ := choose_lt each
    refine ⟨_, (List.range len).map f, rfl, ⟨some a, cap, by simp, by simpa using hl, hm, fun i y hy => ?_⟩, ?_⟩
    · simp only [List.getElem?_map] at hy
      have hi : i < len := by
        rcases Nat.lt_or_ge i len with h | h
        · exact h
        · rw [List.getElem?_eq_none (by simpa using h)] at hy; simp at hy
      rw [List.getElem?_range hi] at hy
      simp at hy
      subst hy
      have h0 := cells_get (hf 0 (by omega)).1 (El.first (E := E) (f 0)).choose_spec
      rw [Nat.zero_mul] at h0
      have hsp : a.spot = none := addr_of_cell (a := a) (by simpa [Addr.add] using h0)
      obtain ⟨ab, ao, asp⟩ := a
      simp at hsp
      subst hsp
      refine ⟨ab, ao, rfl, fun j u hu => ?_⟩
      have := cells_get (hf i hi).1 hu
      rwa [add_none, add_none] at this
    · intro y hy
      simp only [List.mem_map, List.mem_range] at hy
      obtain ⟨i, hi, rfl⟩ := hy
      exact (hf i hi).2

theorem trod_one {t : TypeId} {k : IntKind} (ht : P.underlying t = some (.int k)) {v : Value} {y : Option (DataW H × List MemPlace)} {n : Nat} (h : DataW.trod enc P w base spare held n t [v] = y) (hy : y ≠ none) : ∃ i, v = .int k i := by
  cases y with
  | none => exact absurd rfl hy
  | some x =>
    obtain ⟨i, h1, _⟩ := DataW.trod_int ht h
    exact ⟨i, by simpa using h1⟩

theorem choose_rows {α β : Type} {Q : α → β → Prop} : ∀ (us : List α), (∀ u ∈ us, ∃ r, Q u r) → ∃ p : List β, p.length = us.length ∧ ∀ (i : Nat) (u : α) (r : β), us[i]? = some u → p[i]? = some r → Q u r
  | [], _ => ⟨[], rfl, fun i u r h => by simp at h⟩
  | u :: us, h => by
    obtain ⟨r, hr⟩ := h u (List.mem_cons_self ..)
    obtain ⟨p, h1, h2⟩ := choose_rows us (fun u hu => h u (List.mem_cons_of_mem _ hu))
    refine ⟨r :: p, by simp [h1], fun i u' r' hu hr' => ?_⟩
    cases i with
    | zero => simp at hu hr'; subst hu; subst hr'; exact hr
    | succ i => exact h2 i u' r' (by simpa using hu) (by simpa using hr')

instance : Inhabited Slc := ⟨⟨none, 0, 0⟩⟩
instance : Inhabited Ins := ⟨⟨0, 0, 0, 0⟩⟩

theorem rep2_of_trod {α : Type} [Inhabited α] (E : El α) {t e q : TypeId} (ht : P.underlying t = some (.slice e)) (he : P.underlying e = some (.slice q)) (hc : P.cellsOf e = 1) (hc2 : P.cellsOf q = E.sz)
    (hel : ∀ n cs x, DataW.trod enc P w base spare held n q cs = some x → ∃ y, cs = E.c y) (h : DataW.trod enc P w base spare held fuel t cs = some x) : ∃ v p, cs = [v] ∧ Rep2 E w v p := by
  obtain ⟨v, us, rfl, h1, h2⟩ := rep_of_trod SlcE ht hc (fun s => ∃ r, Rep E w s.v r) (fun n cs x hx => by
    obtain ⟨v, r, rfl, hr, _⟩ := rep_of_trod E he hc2 (fun _ => True) (fun n cs x hx => by obtain ⟨y, hy⟩ := hel n cs x hx; exact ⟨y, hy, trivial⟩) hx
    obtain ⟨a, c, rfl, h1, h2, h3⟩ := hr
    exact ⟨⟨a, r.length, c⟩, rfl, r, a, c, rfl, h1, h2, h3⟩) h
  obtain ⟨p, h3, h4⟩ := choose_rows us h2
  exact ⟨v, p, rfl, us, h3.symm, h1, h4⟩

end

section
variable {H : Type} {enc : TypeId × Value → H} {P : Program}

theorem trodAll_below (hl : laidOutB P = true) {W W' : World} (hb : Below W.heap.size W W') : ∀ {ts : List TypeId} {vs : List Value} {ds : List (DataW H)} {ps : List MemPlace}, (∀ t ∈ ts, P.readableRec t = true ∧ t < P.types.size) →
    DataW.TrodAll enc P W 0 (fun _ => true) true ts vs ds ps → DataW.TrodAll enc P W' 0 (fun b => decide (b < W.heap.size)) true ts vs ds ps
  | [], [], [], ps, _, h => h
  | t :: ts, v :: vs, d :: ds, ps, ht, h => by
    have hlt := DataW.TrodAll.lt h
    obtain ⟨p, q, h1, h2, rfl⟩ := h
    exact ⟨p, q, Below.trod hl (ht t (List.mem_cons_self ..)).1 (ht t (List.mem_cons_self ..)).2 h1 hb (fun x hx => hlt x (List.mem_append_left _ hx)), trodAll_below hl hb (fun t ht' => ht t (List.mem_cons_of_mem _ ht')) h2, rfl⟩
  | [], [], _ :: _, _, _, h => h.elim
  | [], _ :: _, _, _, _, h => h.elim
  | _ :: _, [], _, _, _, h => h.elim
  | _ :: _, _ :: _, [], _, _, h => h.elim

/-- A law that answers true and turns nothing that was there. -/
theorem post_law {f : Func} {s : ChangeSpec} {apart : Bool} {W W' : World} {args : Array Value} {ds : List (DataW H)} {before : List MemPlace} {tb : TypeId} (hl : laidOutB P = true) (hts : ∀ t ∈ f.params.toList, P.readableRec t = true ∧ t < P.types.size)
    (hv : s.vars = []) (hs : s.fn H (ds ++ []) = { results := [.lit (.bool true)], args := ds, vars := [] }) (hr : f.resultTypes = #[tb]) (htb : P.underlying tb = some .bool)
    (hW : DataW.Whole enc P f.params.toList s.vars apart W args.toList ds [] before) (hb : Below W.heap.size W W') : s.post enc P f apart true false false W args (.bool true) W' := by
  have hW2 := hW
  obtain ⟨p, q, hA, hV, rfl, hfz, hnd⟩ := hW2
  rw [hv] at hV
  obtain ⟨_, rfl⟩ := trodVars_none hV
  refine ⟨ds, [], _, [], p, [], hW, ?_, ?_, ?_, hb.frame _, fun h => by cases h⟩
  · rw [hs, hr]
    exact trodAll_mk1 (shut_bool htb _)
  · rw [hs]
    exact trodAll_below hl hb hts hA
  · rw [hs, hv]
    rfl

end
end Go.Proofs.Ytpjebgiejkglpaa

namespace Go.Proofs.Ytpjebgiejkglpaa
open Go.RowKit Go.Deep Go.ChangeShapes Go.WideShapes Go.ChangeAt

theorem Try.own : ownKnob Try.prog.godebug = none := by kernel_rfl
theorem Try.laidOut : laidOutB Try.prog = true := by kernel_rfl
theorem Try.cellsByte : Try.prog.cellsOf 5 = 1 := by kernel_rfl

section
variable {H : Type} {enc : TypeId × Value → H} {w : World} {base : Nat} {spare : Nat → Bool} {held : Bool}

theorem bytes_of_trod {v : Value} {d : DataW H} {ps : List MemPlace} (hok : ∃ a len cap, v = .slice a len cap) (h : DataW.Trod enc Try.prog w base spare held 22 v d ps) : ∃ p, Rep ByteE w v p ∧ ∀ x ∈ p, 0 ≤ x ∧ x ≤ 255 := by
  obtain ⟨fuel, hf⟩ := h
  obtain ⟨v', p, hv, hp, hq⟩ := rep_of_trod ByteE Try.underlying22 Try.cellsByte (fun x => 0 ≤ x ∧ x ≤ 255) (fun n cs x hx => by
    obtain ⟨i, rfl, hi⟩ := DataW.trod_int Try.underlying5 hx
    exact ⟨i, rfl, by
      have := hi.2
      simp only [Lit.wf, Bool.and_eq_true, decide_eq_true_eq, show IntKind.u8.min = 0 from by decide, show IntKind.u8.max = 255 from by decide] at this
      omega⟩) hf
  obtain ⟨a, len, cap, rfl⟩ := hok
  simp [Value.cells] at hv
  subst hv
  exact ⟨p, hp, hq⟩

end
end Go.Proofs.Ytpjebgiejkglpaa
