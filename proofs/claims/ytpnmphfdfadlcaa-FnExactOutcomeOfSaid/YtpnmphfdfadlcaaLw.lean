/-
  Words for the walks of exact laws: facts about the blocks of a range. No condition.
-/
import Derived.Test.YtpnmphfdfadlcaaG4
import Derived.Test.YtpnmphfdfadlcaaT11
namespace Go.Proofs.Ytpnmphfdfadlcaa
open Go.RowKit

/-- The blocks from lo to hi are as they were. -/
structure Same (lo hi : Nat) (w w' : World) : Prop where
  os : w'.os = w.os
  tape : w'.tape = w.tape
  output : w'.output = w.output
  size : w.heap.size ≤ w'.heap.size
  block : ∀ k, lo ≤ k → k < hi → w'.heap[k]? = w.heap[k]?

theorem Same.ofBelow {lo hi : Nat} {w w' : World} (h : Below w.heap.size w w') (hh : hi ≤ w.heap.size) : Same lo hi w w' := ⟨h.os, h.tape, h.output, h.size, fun k _ h2 => h.block k (by omega)⟩
theorem Same.ofOuts {lo hi lo' hi' : Nat} {w w' : World} (h : Outside lo' hi' w w') (hh : hi ≤ w.heap.size) (hd : hi ≤ lo' ∨ hi' ≤ lo) : Same lo hi w w' := ⟨h.os, h.tape, h.output, h.size, fun k h1 h2 => h.block k (by omega) (by omega)⟩
theorem Same.trans {lo hi : Nat} {a b c : World} (h : Same lo hi a b) (k : Same lo hi b c) : Same lo hi a c := ⟨k.os.trans h.os, k.tape.trans h.tape, k.output.trans h.output, Nat.le_trans h.size k.size, fun q h1 h2 => (k.block q h1 h2).trans (h.block q h1 h2)⟩
theorem Same.wide {lo hi lo' hi' : Nat} {w w' : World} (h : Same lo hi w w') (h1 : lo ≤ lo') (h2 : hi' ≤ hi) : Same lo' hi' w w' := ⟨h.os, h.tape, h.output, h.size, fun k a b => h.block k (by omega) (by omega)⟩
theorem Same.below {w w' : World} (h : Same 0 w.heap.size w w') : Below w.heap.size w w' := ⟨h.os, h.tape, h.output, h.size, fun k hk => h.block k (Nat.zero_le _) hk⟩

/-- A fact about the blocks from lo to hi alone. -/
structure Loc (lo hi : Nat) (w : World) (φ : World → Prop) : Prop where
  now : φ w
  le : hi ≤ w.heap.size
  keep : ∀ w' : World, Same lo hi w w' → φ w'

theorem Loc.same {lo hi : Nat} {w w' : World} {φ : World → Prop} (h : Loc lo hi w φ) (k : Same lo hi w w') : Loc lo hi w' φ := ⟨h.keep w' k, Nat.le_trans h.le k.size, fun w'' h2 => h.keep w'' (k.trans h2)⟩
theorem Loc.below {lo hi : Nat} {w w' : World} {φ : World → Prop} (h : Loc lo hi w φ) (hb : Below w.heap.size w w') : Loc lo hi w' φ := h.same (Same.ofBelow hb h.le)
theorem Loc.outs {lo hi lo' hi' : Nat} {w w' : World} {φ : World → Prop} (h : Loc lo hi w φ) (ho : Outside lo' hi' w w') (hd : hi ≤ lo' ∨ hi' ≤ lo) : Loc lo hi w' φ := h.same (Same.ofOuts ho h.le hd)
theorem Loc.wide {lo hi lo' hi' : Nat} {w : World} {φ : World → Prop} (h : Loc lo hi w φ) (h1 : lo' ≤ lo) (h2 : hi ≤ hi') (h3 : hi' ≤ w.heap.size) : Loc lo' hi' w φ := ⟨h.now, h3, fun w' k => h.keep w' (k.wide h1 h2)⟩
theorem Loc.map {lo hi : Nat} {w : World} {φ ψ : World → Prop} (h : Loc lo hi w φ) (f : ∀ V, φ V → ψ V) : Loc lo hi w ψ := ⟨f _ h.now, h.le, fun w' k => f _ (h.keep w' k)⟩
theorem Loc.and {lo hi lo' hi' : Nat} {w : World} {φ ψ : World → Prop} (h : Loc lo hi w φ) (k : Loc lo' hi' w ψ) (L H : Nat) (h1 : L ≤ lo ∧ hi ≤ H) (h2 : L ≤ lo' ∧ hi' ≤ H) (hH : H ≤ w.heap.size) : Loc L H w (fun W => φ W ∧ ψ W) :=
  ⟨⟨h.now, k.now⟩, hH, fun w' s => ⟨h.keep w' (s.wide h1.1 h1.2), k.keep w' (s.wide h2.1 h2.2)⟩⟩

theorem Loc.arg {w : World} {φ : World → Prop} (h : φ w) (k : ∀ w', Below w.heap.size w w' → φ w') : Loc 0 w.heap.size w φ := ⟨h, Nat.le_refl _, fun w' s => k w' s.below⟩
/-- A variable that the law laid. -/
theorem Loc.box (w : World) (o : Obj) : Loc w.heap.size (w.heap.size + 1) (w.alloc o) (fun W => W.heap[w.heap.size]? = (w.alloc o).heap[w.heap.size]?) :=
  ⟨rfl, by simp, fun w' s => s.block _ (Nat.le_refl _) (by omega)⟩
theorem Loc.cells (w : World) (l : Array Value) (T : TypeId) : Loc w.heap.size (w.heap.size + 1) (w.alloc (.cells l T)) (fun W => W.heap[w.heap.size]? = some (.cells l T (0, 0))) :=
  (Loc.box w (.cells l T)).map fun _ h => h.trans (heap_alloc_new w _)

/-- The world as far as a block. -/
def cut (hi : Nat) (w : World) : World := { w with heap := w.heap.extract 0 hi }
theorem cut_size {hi : Nat} {w : World} (h : hi ≤ w.heap.size) : (cut hi w).heap.size = hi := by simp [cut]; omega
theorem cut_block {hi : Nat} {w : World} {k : Nat} (hk : k < hi) : (cut hi w).heap[k]? = w.heap[k]? := by
  simp [cut, Array.getElem?_extract]
  omega
theorem cut_below {hi : Nat} {w : World} (h : hi ≤ w.heap.size) : Below (cut hi w).heap.size (cut hi w) w := by
  refine ⟨rfl, rfl, rfl, by rw [cut_size h]; exact h, fun k hk => ?_⟩
  rw [cut_size h] at hk
  exact (cut_block hk).symm
theorem cut_self (w : World) : cut w.heap.size w = w := by simp [cut]

theorem Own.same {α : Type} {E : El α} {T : TypeId} {w w' : World} {base : Nat} {v : Value} {xs : List α} (h : Own E T w base v xs) (hB : ∀ k, v.ownBlock = some k → w'.heap[k]? = w.heap[k]?) : Own E T w' base v xs := by
  refine ⟨h.1, ?_⟩
  rcases h.2 with hn | ⟨g, cap, cur, rfl, hb1, hgg, rest⟩
  · exact .inl hn
  · exact .inr ⟨g, cap, cur, rfl, hb1, (hB g rfl).trans hgg, rest⟩
theorem Own2.same {α : Type} {E : El α} {T1 T2 : TypeId} {w w' : World} {base : Nat} {v : Value} {p : List (List α)} (h : Own2 E T1 T2 w base v p) (hB : ∀ k, base ≤ k → k < w.heap.size → w'.heap[k]? = w.heap[k]?) : Own2 E T1 T2 w' base v p := by
  obtain ⟨us, ⟨h1, h2, h3, h4, h5⟩, hlt⟩ := h.told
  exact ⟨us, h1, h2.same fun k hk => by have := World.ownsRow.lt h2 k hk; exact hB k this.1 this.2, fun i u r hu hr => (h3 i u r hu hr).same fun k hk => by have := hlt i u hu k hk; exact hB k this.1 this.2, h4, h5⟩
theorem cut_same {lo hi : Nat} {w w' : World} (s : Same lo hi w w') (hh : hi ≤ w.heap.size) {k : Nat} (h1 : lo ≤ k) (h2 : k < (cut hi w).heap.size) : (cut hi w').heap[k]? = (cut hi w).heap[k]? := by
  rw [cut_size hh] at h2
  rw [cut_block h2, cut_block h2]; exact s.block k h1 h2

theorem Loc.own {α : Type} {E : El α} {T : TypeId} {lo hi : Nat} {w : World} {v : Value} {xs : List α} (h : Own E T (cut hi w) lo v xs) (hh : hi ≤ w.heap.size) : Loc lo hi w (fun W => Own E T (cut hi W) lo v xs) :=
  ⟨h, hh, fun _ s => h.same fun k hk => by have := World.ownsRow.lt h k hk; exact cut_same s hh this.1 this.2⟩
theorem Loc.own2 {α : Type} {E : El α} {T1 T2 : TypeId} {lo hi : Nat} {w : World} {v : Value} {p : List (List α)} (h : Own2 E T1 T2 (cut hi w) lo v p) (hh : hi ≤ w.heap.size) : Loc lo hi w (fun W => Own2 E T1 T2 (cut hi W) lo v p) :=
  ⟨h, hh, fun _ s => h.same fun _ h1 h2 => cut_same s hh h1 h2⟩
theorem Loc.ownC {T : TypeId} {w : World} {lo hi : Nat} {s : Slc} {ks : List Cd} (h : OwnC T w lo hi s ks) (hh : hi ≤ w.heap.size) : Loc lo hi w (fun W => OwnC T W lo hi s ks) :=
  ⟨h, hh, fun _ k => h.keep fun q h1 h2 _ => k.block q h1 h2⟩
theorem Loc.rep {α : Type} {E : El α} {T : TypeId} {lo hi : Nat} {w : World} {v : Value} {xs : List α} (h : Loc lo hi w (fun W => Own E T (cut hi W) lo v xs)) : Rep E w v xs := (h.now.below (cut_below h.le)).rep
theorem Loc.rep2 {α : Type} {E : El α} {T1 T2 : TypeId} {lo hi : Nat} {w : World} {v : Value} {p : List (List α)} (h : Loc lo hi w (fun W => Own2 E T1 T2 (cut hi W) lo v p)) : Rep2 E w v p := (h.now.below (cut_below h.le)).rep

/-- A value that a call made. -/
def Made (w : World) (φ : Value → Nat → Nat → World → Prop) (e : Ending) (w' : World) : Prop := ∃ u, e = .returned u ∧ Loc w.heap.size w'.heap.size w' (φ u w.heap.size w'.heap.size) ∧ Below w.heap.size w w'
/-- A value that a call made, and whether there is one. -/
def MadeB (w : World) (φ : Value → Nat → Nat → World → Prop) (b : Bool) (e : Ending) (w' : World) : Prop := ∃ u, e = .returned (.tuple #[u, .bool b]) ∧ Loc w.heap.size w'.heap.size w' (φ u w.heap.size w'.heap.size) ∧ Below w.heap.size w w'
/-- Numbers that a call made, and whether there are any. -/
def MadeI (w : World) (L : List Int) (b : Bool) (e : Ending) (w' : World) : Prop := ∃ u : Slc, e = .returned (.tuple #[.slice u.a u.n u.cap, .bool b]) ∧ Loc w.heap.size w'.heap.size w' (fun W => Own IntE 3 (cut w'.heap.size W) w.heap.size u.v L) ∧ Below w.heap.size w w'
/-- A condition that a call made, its parts written out, and whether there is one. -/
def MadeC (w : World) (o t q x : Int) (ks : List Cd) (b : Bool) (e : Ending) (w' : World) : Prop :=
  ∃ s : Slc, e = .returned (.tuple #[.agg #[.int .i64 o, .int .i64 t, .int .i64 q, .int .i64 x, .slice s.a s.n s.cap], .bool b]) ∧ Loc w.heap.size w'.heap.size w' (fun W => OwnC 25 W w.heap.size w'.heap.size s ks) ∧ Below w.heap.size w w'

abbrev LocP (lo hi : Nat) (w : World) (v : Value) (p : List (List Ins)) : Prop := Loc lo hi w (fun W => Own2 InsE 73 72 (cut hi W) lo v p)
abbrev LocI (lo hi : Nat) (w : World) (v : Value) (xs : List Int) : Prop := Loc lo hi w (fun W => Own IntE 3 (cut hi W) lo v xs)
abbrev LocC (lo hi : Nat) (w : World) (s : Slc) (ks : List Cd) : Prop := Loc lo hi w (fun W => OwnC 25 W lo hi s ks)
theorem Loc.ofOwn {α : Type} {E : El α} {T : TypeId} {lo : Nat} {w : World} {v : Value} {xs : List α} (h : Own E T w lo v xs) : Loc lo w.heap.size w (fun W => Own E T (cut w.heap.size W) lo v xs) := Loc.own (by rw [cut_self]; exact h) (Nat.le_refl _)
theorem Loc.ofOwn2 {α : Type} {E : El α} {T1 T2 : TypeId} {lo : Nat} {w : World} {v : Value} {p : List (List α)} (h : Own2 E T1 T2 w lo v p) : Loc lo w.heap.size w (fun W => Own2 E T1 T2 (cut w.heap.size W) lo v p) := Loc.own2 (by rw [cut_self]; exact h) (Nat.le_refl _)

theorem toP_made (v : Value) (p : List (List Ins)) (w : World) (hp : RepP w v p) (hl : p.length ≤ 1048576) (hl2 : ∀ r ∈ p, r.length ≤ 1048576) : Calls Try.prog 34 #[v] w (Made w fun u lo hi W => Own2 InsE 73 72 (cut hi W) lo u p) :=
  (toInstrSS_any v p w hp hl hl2).mono fun _ _ ⟨u, h1, h2, h3⟩ => ⟨u, h1, Loc.ofOwn2 h2, h3⟩
theorem toI_made (v : Value) (xs : List Int) (w : World) (hp : Rep IntE w v xs) (hl : xs.length ≤ 1048576) : Calls Try.prog 43 #[v] w (Made w fun u lo hi W => Own IntE 3 (cut hi W) lo u xs) :=
  (toIntS_any v xs w hp hl).mono fun _ _ ⟨u, h1, h2, h3⟩ => ⟨u, h1, Loc.ofOwn h2, h3⟩

/-- Marking a program that the law made. -/
theorem markP_loc (v : Value) (p : List (List Ins)) (m : Int) (lo hi : Nat) (w : World) (h : LocP lo hi w v p) (hl : sumN (p.map List.length) ≤ 268435456) (hpl : p.length ≤ 1048576) (hm0 : 0 ≤ m) (hm1 : m ≤ 1048576) :
    Calls Try.prog 39 #[v, .int .i64 m] w fun e w' => e = .returned (.int .i64 (m + 4 * sumN (p.map List.length))) ∧ Outside lo hi w w' := by
  have hs := cut_size h.le
  have h2 := markInstrSS_any v p m (cut hi w) w lo h.now (cut_below h.le) hl hpl hm0 hm1
  rw [hs] at h2
  exact h2.mono fun _ _ ⟨a, _, b⟩ => ⟨a, b⟩
/-- Marking numbers that the law made. -/
theorem markI_loc (v : Value) (xs : List Int) (m : Int) (lo hi : Nat) (w : World) (h : LocI lo hi w v xs) (hl : xs.length ≤ 1099511627776) (hm0 : 0 ≤ m) (hm1 : m ≤ 1099511627776) :
    Calls Try.prog 47 #[v, .int .i64 m] w fun e w' => e = .returned (.int .i64 (m + xs.length)) ∧ LocI lo hi w' v (marksN xs.length m) ∧ Outside lo hi w w' := by
  have hq : ∀ q, v.ownBlock = some q → lo ≤ q ∧ q < hi := fun q hq => by
    have h1 := World.ownsRow.lt h.now q hq
    rw [cut_size h.le] at h1; exact h1
  refine (markIntS_any v xs m w lo (h.now.below (cut_below h.le)) hl hm0 hm1).mono fun _ w' ⟨a, b, c⟩ => ⟨a, ?_, (Outside.refl lo hi w).grown c hq⟩
  have hsz := Nat.le_trans h.le c.size
  exact Loc.own (b.same fun k hk => cut_block (hq k hk).2) hsz
theorem heldI_loc (v : Value) (n : Nat) (m : Int) (lo hi : Nat) (w : World) (h : LocI lo hi w v (marksN n m)) (hl : n ≤ 1099511627776) (hm0 : 0 ≤ m) (hm1 : m ≤ 1099511627776) :
    Calls Try.prog 64 #[v, .int .i64 m] w fun e w' => e = .returned (.int .i64 (m + n)) ∧ w = w' := heldIntS_any v n m w h.rep hl hm0 hm1
theorem markC_loc (o t p x : Int) (ks : List Cd) (lo hi : Nat) (s : Slc) (m : Int) (w : World) (h : LocC lo hi w s ks) (hlh : lo ≤ hi) (hm0 : 0 ≤ m) (hm1 : m + 4 * (descs ks : Nat) ≤ 1099511627776) :
    Calls Try.prog 48 #[.agg #[.int .i64 o, .int .i64 t, .int .i64 p, .int .i64 x, .slice s.a s.n s.cap], .int .i64 m] w fun e w' => ∃ (q : Int) (xs : List Cd), e = .returned (.int .i64 q) ∧ MkL m xs q ∧ descs xs = descs ks ∧ LocC lo hi w' s xs ∧ Outside lo hi w w' :=
  (markCond_any o t p x ks lo hi s.a s.n s.cap m w h.now hlh hm0 hm1).mono fun _ _ ⟨q, xs, a, b, c, d, e⟩ => ⟨q, xs, a, b, c, Loc.ownC d (Nat.le_trans h.le e.size), e⟩

theorem eqP_same (v v' : Value) (p : List (List Ins)) (w : World) (h : RepP w v p) (h' : RepP w v' p) : Calls Try.prog 37 #[v, v'] w fun e w' => e = .returned (.bool true) ∧ Below w.heap.size w w' :=
  (eqInstrSS_any v v' p p w h h').mono fun _ _ ⟨a, b⟩ => ⟨by rw [a, decide_eq_true rfl], b⟩
theorem eqI_same (v v' : Value) (p : List Int) (w : World) (h : Rep IntE w v p) (h' : Rep IntE w v' p) : Calls Try.prog 46 #[v, v'] w fun e w' => e = .returned (.bool true) ∧ Below w.heap.size w w' :=
  (eqIntS_any v v' p p w h h').mono fun _ _ ⟨a, b⟩ => ⟨by rw [a, decide_eq_true rfl], b⟩
theorem eqC_same (o t q x : Int) (ks : List Cd) (a a' : Option Addr) (n c n' c' : Nat) {lo hi lo' hi' : Nat} (w : World) (h : OwnC 25 w lo hi ⟨a, n, c⟩ ks) (h' : OwnC 25 w lo' hi' ⟨a', n', c'⟩ ks) :
    Calls Try.prog 45 #[.agg #[.int .i64 o, .int .i64 t, .int .i64 q, .int .i64 x, .slice a n c], .agg #[.int .i64 o, .int .i64 t, .int .i64 q, .int .i64 x, .slice a' n' c']] w fun e w' => e = .returned (.bool true) ∧ Below w.heap.size w w' :=
  eqCond_any o t q x o t q x ks ks a a' n c n' c' true w (h.rep.low (Nat.zero_le _)) (h'.rep.low (Nat.zero_le _)) (by simp)
theorem cell_of_heapB {w : World} {b k : Nat} {cur : Array Value} {t : TypeId} {v : Value} (h : w.heap[b]? = some (.cells cur t (0, 0))) (hk : cur[k]? = some v) : w.cell? ⟨b, k, none⟩ = some v := by
  simp [World.cell?, h, hk]
theorem belowAllocB (w : World) (o : Obj) : Below w.heap.size w (w.alloc o) := (Below.refl _ _).alloc (Nat.le_refl _) o

end Go.Proofs.Ytpnmphfdfadlcaa
