/-
  Candidates are turned, sometimes into invalid ones. Condition: not too many numbers were taken.
-/
import Derived.Test.YtblheabgjjeigaaZv10
namespace Go.Proofs.Ytblheabgjjeigaa
open Go.RowKit

theorem RowsI.own2 {w : World} {base : Nat} {v : Value} {L : List (List Int)} (h : RowsI w base v L) : Own2 IntE 24 3 w base v L := by
  obtain ⟨us, ds, h⟩ := h
  have hrow : ∀ (i : Nat) (u : Slc), us[i]? = some u → ∃ d r, ds[i]? = some d ∧ L[i]? = some r ∧ base ≤ d.lo ∧ Own IntE 3 w d.lo u.v r ∧ ∀ q, u.v.ownBlock = some q → d.lo ≤ q ∧ q < d.hi := fun i u hu => by
    have hlt := (List.getElem?_eq_some_iff.1 hu).1
    obtain ⟨d, hd⟩ := get_of_lt (xs := ds) (k := i) (by rw [h.ld, ← h.lu]; exact hlt)
    obtain ⟨r, hr⟩ := get_of_lt (xs := L) (k := i) (by rw [← h.lu]; exact hlt)
    obtain ⟨k1, k2⟩ := h.rows i u d r hu hd hr
    exact ⟨d, r, hd, hr, k1, k2.now.1, fun q hq => ⟨(World.ownsRow.lt k2.now.1 q hq).1, k2.now.2 q hq⟩⟩
  refine ⟨us, h.lu, h.own, fun i u r hu hr => ?_, fun i j u u' hu hu' hij q hq hq' => ?_, fun i u hu q hq => ?_⟩
  · obtain ⟨d, r', hd, hr', k1, k2, -⟩ := hrow i u hu
    rw [hr] at hr'; simp at hr'; subst hr'
    exact k2.mono k1
  · obtain ⟨d, r, hd, -, -, -, k3⟩ := hrow i u hu
    obtain ⟨d', r', hd', -, -, -, k3'⟩ := hrow j u' hu'
    have a1 := k3 q hq; have a2 := k3' q hq'
    have hpw := h.pw
    rw [List.pairwise_iff_getElem] at hpw
    obtain ⟨l1, e1⟩ := List.getElem?_eq_some_iff.1 hd
    obtain ⟨l2, e2⟩ := List.getElem?_eq_some_iff.1 hd'
    rcases Nat.lt_or_gt_of_ne hij with hl | hl
    · have := hpw i j l1 l2 hl
      rw [e1, e2] at this
      have : d.hi ≤ d'.lo := this
      omega
    · have := hpw j i l2 l1 hl
      rw [e1, e2] at this
      have : d'.hi ≤ d.lo := this
      omega
  · obtain ⟨d, r, -, -, -, k2, -⟩ := hrow i u hu
    exact own_ne (by decide) h.own k2 q hq

/-- Rows that a call made, as a fact about blocks that are not of another type. -/
theorem own2_loc {w : World} {base : Nat} {v : Value} {L : List (List Int)} {T : TypeId} (h : Own2 IntE 24 3 w base v L) (h1 : 24 ≠ T) (h2 : 3 ≠ T) : LocR T base w.heap.size w (fun W => RepNN W v L) := by
  obtain ⟨us, ⟨lu, ho, hr, -, -⟩, -⟩ := h.told
  have k1 := LocR.own h1 ho
  have k2 : LocR T base w.heap.size w (fun W => ∀ (i : Nat) (u : Slc) (r : List Int), us[i]? = some u → L[i]? = some r → Rep IntE W u.v r) :=
    LocR.all (Nat.le_refl _) fun i => LocR.all (Nat.le_refl _) fun u => LocR.all (Nat.le_refl _) fun r => LocR.imp (Nat.le_refl _) fun hu => LocR.imp (Nat.le_refl _) fun hr' => (LocR.own h2 (hr i u r hu hr')).map fun V k => k.rep
  exact (k1.and k2).map fun V ⟨a, b⟩ => ⟨us, lu, a.rep, b⟩
/-- Two stores into a variable of a type. -/
theorem LocR.store2 {T : TypeId} {lo hi R : Nat} {w : World} {φ : World → Prop} {cs : Array Value} {u v : Value} (h : LocR T lo hi w φ) (hb : w.heap[R]? = some (.cells cs T (0, 0))) : LocR T lo hi ((w.setCell ⟨R, 0, none⟩ u).setCell ⟨R, 1, none⟩ v) φ :=
  h.step (by simp) fun k ob _ _ h1 h2 => by
    have hne : k ≠ R := by
      rintro rfl
      rw [hb] at h1
      simp only [Option.some.injEq] at h1
      exact h2 _ _ h1.symm
    rw [heap_setCell_other _ ⟨R, 1, none⟩ k _ hne, heap_setCell_other _ ⟨R, 0, none⟩ k _ hne]; exact h1
/-- The variables of l6Mutate. -/
structure MuI (W : World) (b R O base m : Nat) (f o : Slc) (x : Xc) : Prop where
  br : W.heap[R]? = some (.cells #[.slice none 0 0, .slice none 0 0] 27 (0, 0))
  bo : W.heap[O]? = some (.cells #[.slice f.a f.n f.cap, .slice o.a o.n o.cap] 27 (0, 0))
  of : Own IntE 3 W base f.v x.fr
  mb : base ≤ m
  fm : ∀ q, f.v.ownBlock = some q → q < m
  oo : Own2 IntE 24 3 W m o.v x.od
theorem MuI.outs {W W' : World} {b R O base m : Nat} {f o : Slc} {x : Xc} (h : MuI W b R O base m f o x) (ho : Outside b (b + 1) W W') (h1 : b < R) (h2 : b < O) (h3 : b < base) : MuI W' b R O base m f o x :=
  ⟨(ho.block R (Array.getElem?_eq_some_iff.1 h.br).1 (.inr (by omega))).trans h.br, (ho.block O (Array.getElem?_eq_some_iff.1 h.bo).1 (.inr (by omega))).trans h.bo, ho.ownHi h.of h3, h.mb, h.fm, h.oo.outside ho (Nat.lt_of_lt_of_le h3 h.mb)⟩
theorem MuI.below {W W' : World} {b R O base m : Nat} {f o : Slc} {x : Xc} (h : MuI W b R O base m f o x) (hb : Below W.heap.size W W') : MuI W' b R O base m f o x :=
  ⟨(hb.block R (Array.getElem?_eq_some_iff.1 h.br).1).trans h.br, (hb.block O (Array.getElem?_eq_some_iff.1 h.bo).1).trans h.bo, h.of.below hb, h.mb, h.fm, h.oo.below hb⟩

theorem Own.setFar {α : Type} {E : El α} {T : TypeId} {w : World} {base g : Nat} {v : Value} {xs : List α} (h : Own E T w base v xs) (hg : v.ownBlock ≠ some g) (j : Nat) (u : Value) : Own E T (w.setCell ⟨g, j, none⟩ u) base v xs :=
  h.sameV fun k hk => heap_setCell_other w ⟨g, j, none⟩ k u (fun e => hg (by rw [hk]; exact congrArg some e))
theorem numOwnY (b : Nat) (a : Option Addr) (c : Nat) (xs : List Int) (p : Int) (G n : Nat) (ys : List Int) (w' : World) (base : Nat) (hb : b < base) (h : Rd w' b a c xs p) (hp : p ≤ 1000000000) (ho : Own IntE 3 w' base (.slice (some ⟨G, 0, none⟩) n n) ys) (h1 : 1 ≤ ys.length) (h2 : ys.length ≤ 100) :
    Calls Try.prog 80 #[.pointer (some ⟨b, 0, none⟩), .slice (some ⟨G, 0, none⟩) n n] w' (RetRd w' b a c xs p 1 (OneOf ys)) := by
  have hG := (World.ownsRow.lt ho G rfl).1
  exact num_any b a c xs p (.slice (some ⟨G, 0, none⟩) n n) ys w' h hp ho.rep h2 h1 (by intro g o e; simp at e; omega)
theorem row_farY {w w' : World} {ob : Obj} {row : Option Nat} (hg : (w.alloc ob).grownBy w' row) {g : Nat} (hb : g < w.heap.size) (hne : row ≠ some g) : w'.heap[g]? = w.heap[g]? := by
  rw [hg.block g (by simp; omega) (fun e => hne e.symm), heap_alloc_old w ob hb]
theorem mem_setY {α : Type} {P : List (List α)} {n k : Nat} {y : List α} (h : ∀ r ∈ P, r.length ≤ n) (hy : y.length ≤ n) : ∀ r ∈ P.set k y, r.length ≤ n := fun r hr => by
  rcases List.mem_or_eq_of_mem_set hr with h1 | h1
  · exact h r h1
  · rw [h1]; exact hy
/-- What is known of out's and the result's blocks. -/
theorem MuI.ne {W : World} {b R O base m : Nat} {f o : Slc} {x : Xc} (h : MuI W b R O base m f o x) : f.v.ownBlock ≠ some R ∧ f.v.ownBlock ≠ some O ∧ o.v.ownBlock ≠ some R ∧ o.v.ownBlock ≠ some O := by
  refine ⟨fun e => ?_, fun e => ?_, fun e => ?_, fun e => ?_⟩
  · obtain ⟨a, ha⟩ := h.of.typed e
    rw [h.br] at ha; simp at ha
  · obtain ⟨a, ha⟩ := h.of.typed e
    rw [h.bo] at ha; simp at ha
  · obtain ⟨us, hU, -⟩ := h.oo.told
    obtain ⟨a, ha⟩ := hU.2.1.typed e
    rw [h.br] at ha; simp at ha
  · obtain ⟨us, hU, -⟩ := h.oo.told
    obtain ⟨a, ha⟩ := hU.2.1.typed e
    rw [h.bo] at ha; simp at ha
theorem MuI.apart {W : World} {b R O base m : Nat} {f o : Slc} {x : Xc} (h : MuI W b R O base m f o x) : ∀ q, o.v.ownBlock = some q → f.v.ownBlock ≠ some q := by
  obtain ⟨us, hU, -⟩ := h.oo.told
  exact own_ne (by decide) h.of hU.2.1

theorem Rep2.tailY {α : Type} {E : El α} {w : World} {g o n c : Nat} {L : List (List α)} (h : Rep2 E w (.slice (some ⟨g, o, none⟩) n c) L) (hn : 1 ≤ n) : Rep2 E w (.slice (some ⟨g, o + 1, none⟩) (n - 1) (c - 1)) L.tail := by
  obtain ⟨us, lu, hr, h⟩ := h
  exact ⟨us.tail, by simp [lu], hr.tail hn, fun i u r hu hr' => by rw [List.getElem?_tail] at hu hr'; exact h _ _ _ hu hr'⟩
theorem Own.intc {T : TypeId} {w : World} {base g n cap : Nat} {xs : List Int} (h : Own IntE T w base (.slice (some ⟨g, 0, none⟩) n cap) xs) {k : Nat} {z : Int} (hz : xs[k]? = some z) : w.cell? ⟨g, k, none⟩ = some (.int .i64 z) := by
  have := h.cell hz (j := 0) rfl
  simp only [IntE, Nat.mul_one, Nat.add_zero] at this
  exact this

/-- What is kept while a number of what it reads from is turned. -/
structure JM0 (w3 : World) (base b : Nat) (a : Option Addr) (c : Nat) (xs : List Int) (p3 : Int) (n : Nat) (f6 f8 f9 : Bool) (Q G : Nat) (pp : Int) (W : World) : Prop where
  rd : Rd W b a c xs pp
  le : pp ≤ p3 + (if f6 = true then 1 else 0) + (if f9 = true then 1 else 0)
  out : Outside b (b + 1) w3 W
  q : f6 = true → Q < n
  lit : f8 = true → Own IntE 3 W base (.slice (some ⟨G, 0, none⟩) 5 5) [0, -1, 1, 99, 3]
theorem JM0.le2 {w3 : World} {base b : Nat} {a : Option Addr} {c : Nat} {xs : List Int} {p3 : Int} {n : Nat} {f6 f8 f9 : Bool} {Q G : Nat} {pp : Int} {W : World} (h : JM0 w3 base b a c xs p3 n f6 f8 f9 Q G pp W) : pp ≤ p3 + 2 := by
  have := h.le
  split at this <;> split at this <;> omega

theorem fcon {f : Bool} {p : Prop} (h : f = true) (hn : f = false) : p := by rw [hn] at h; cases h
theorem fno {f g : Bool} (h : f = true → g = true) (hg : g = false) : f = false := by
  cases f
  · rfl
  · have := h rfl
    rw [hg] at this; cases this

/-- What is kept while a number is appended to the first order. -/
structure JM3 (w w3 : World) (base m b : Nat) (a : Option Addr) (c : Nat) (xs : List Int) (p3 : Int) (sr : Slc) (r : List Int) (f7 f8 f9 f10 : Bool) (G H : Nat) (pp yb : Int) (s : Slc) (W : World) : Prop where
  rd : Rd W b a c xs pp
  le : pp ≤ p3 + (if f8 = true then 1 else 0)
  size : w3.heap.size ≤ W.heap.size
  out : Outside b (b + 1) w W
  kp : ∀ k, k < w3.heap.size → k ≠ b → (sr.v.ownBlock ≠ some k ∨ f10 = false) → W.heap[k]? = w3.heap[k]?
  lit : f7 = true → f10 = false → Own IntE 3 W base (.slice (some ⟨G, 0, none⟩) 3 3) [0, 99, -1]
  row : f10 = false → Own IntE 3 W m sr.v r
  news : f9 = true → f10 = false → W.cell? ⟨H, 0, none⟩ = some (.int .i64 yb)
  d8 : f8 = true → f7 = true
  d9 : f9 = true → f8 = true
  d10 : f10 = true → f9 = true
  app : f10 = true → ∃ V : World, w3.heap.size ≤ V.heap.size ∧ (∀ k, k < w3.heap.size → k ≠ b → V.heap[k]? = w3.heap[k]?) ∧ Own IntE 3 W m s.v (r ++ [yb]) ∧ V.grownBy W sr.v.ownBlock ∧ (s.v.ownBlock = sr.v.ownBlock ∨ ∃ q, s.v.ownBlock = some q ∧ V.heap.size ≤ q)
section
variable {w w3 : World} {base m b : Nat} {a : Option Addr} {c : Nat} {xs : List Int} {p3 : Int} {sr : Slc} {r : List Int} {f7 f8 f9 f10 : Bool} {G H : Nat} {pp yb : Int} {s : Slc} {W : World}
theorem JM3.start (hr : Rd w3.drew b a c xs p3) (ho : Outside b (b + 1) w w3) (hrow : Own IntE 3 w3 m sr.v r) : JM3 w w3 base m b a c xs p3 sr r false false false false G H p3 yb s w3.drew :=
  ⟨hr, by simp, Nat.le_refl _, ho.trans (Outside.of_below (Below.refl _ _).drew), fun k hk _ _ => (Below.refl w3.heap.size w3).drew.block k hk, fun h => (by cases h), fun _ => hrow.below (Below.refl _ _).drew, fun h => (by cases h), fun h => (by cases h), fun h => (by cases h), fun h => (by cases h), fun h => (by cases h)⟩
theorem JM3.lit1 (h : JM3 w w3 base m b a c xs p3 sr r false f8 f9 f10 G H pp yb s W) (hb : base ≤ w3.heap.size) : JM3 w w3 base m b a c xs p3 sr r true f8 f9 f10 W.heap.size H pp yb s (W.alloc (.cells #[.int .i64 0, .int .i64 99, .int .i64 (-1)] 3)) := by
  have h8 : f8 = false := fno h.d8 rfl
  have h9 : f9 = false := fno h.d9 h8
  have h10 : f10 = false := fno h.d10 h9
  refine ⟨h.rd.allocNew _, h.le, Nat.le_trans h.size (belowAlloc _ _).size, h.out.allocNew _, fun k hk hb hs => ?_, fun _ _ => Own.lit (E := IntE) (T := 3) (w := W) (base := base) (Nat.le_trans hb h.size) [0, 99, -1] #[.int .i64 0, .int .i64 99, .int .i64 (-1)] 3 rfl rfl (by omega), fun hf => (h.row hf).alloc _, fun hf => fcon hf h9, fun _ => rfl, h.d9, h.d10, fun hf => fcon hf h10⟩
  rw [heap_alloc_old _ _ (Nat.lt_of_lt_of_le hk h.size)]; exact h.kp k hk hb hs
theorem JM3.call (h : JM3 w w3 base m b a c xs p3 sr r true false f9 f10 G H pp yb s W) {pp' y : Int} {u : World} (hru : Rd u b a c xs pp') (hpp : pp' ≤ pp + 1) (hou : Outside b (b + 1) W u) (hb : b < base) (hbm : b < m) : JM3 w w3 base m b a c xs p3 sr r true true f9 f10 G H pp' y s u := by
  have h9 : f9 = false := fno h.d9 rfl
  have h10 : f10 = false := fno h.d10 h9
  refine ⟨hru, by have := h.le; simp only [if_true, if_false, Bool.false_eq_true] at this ⊢; omega, Nat.le_trans h.size hou.size, h.out.trans hou, fun k hk hb hs => (hou.block k (Nat.lt_of_lt_of_le hk h.size) (by omega)).trans (h.kp k hk hb hs), fun hf hf2 => hou.ownHi (h.lit hf hf2) hb, fun hf => hou.ownHi (h.row hf) hbm, fun hf => fcon hf h9, fun _ => rfl, fun _ => rfl, h.d10, fun hf => fcon hf h10⟩
theorem JM3.lit2 (h : JM3 w w3 base m b a c xs p3 sr r f7 true false f10 G H pp yb s W) : JM3 w w3 base m b a c xs p3 sr r f7 true true f10 G W.heap.size pp yb s (W.alloc (.cells #[.int .i64 yb] 3)) := by
  have h10 : f10 = false := fno h.d10 rfl
  refine ⟨h.rd.allocNew _, h.le, Nat.le_trans h.size (belowAlloc _ _).size, h.out.allocNew _, fun k hk hb hs => ?_, fun hf hf2 => (h.lit hf hf2).alloc _, fun hf => (h.row hf).alloc _, fun _ _ => ?_, h.d8, fun _ => rfl, fun _ => rfl, fun hf => fcon hf h10⟩
  · rw [heap_alloc_old _ _ (Nat.lt_of_lt_of_le hk h.size)]; exact h.kp k hk hb hs
  · have := news_alloc (w := W) (l := [.int .i64 yb]) (T := 3) 0 _ rfl
    simp at this ⊢
theorem JM3.app1 (h : JM3 w w3 base m b a c xs p3 sr r f7 f8 true false G H pp yb s W) {s' : Slc} {u : World} (ho : Own IntE 3 u m s'.v (r ++ [yb])) (hg : W.grownBy u sr.v.ownBlock) (ha : s'.v.ownBlock = sr.v.ownBlock ∨ ∃ q, s'.v.ownBlock = some q ∧ W.heap.size ≤ q) (hb : b < m) (hwm : w.heap.size ≤ m) : JM3 w w3 base m b a c xs p3 sr r f7 f8 true true G H pp yb s' u := by
  have hge : ∀ q, sr.v.ownBlock = some q → m ≤ q := fun q hq => (World.ownsRow.lt (h.row rfl) q hq).1
  refine ⟨h.rd.grownNew hg (fun q hq => by have := hge q hq; omega), h.le, Nat.le_trans h.size hg.size, h.out.grownNew hg (fun q hq => by have := hge q hq; omega), fun k hk hkb hs => ?_, fun _ hf => (nomatch hf), fun hf => (nomatch hf), fun _ hf => (nomatch hf), h.d8, h.d9, fun _ => rfl, fun _ => ⟨W, h.size, fun k hk hkb => h.kp k hk hkb (.inr rfl), ho, hg, ha⟩⟩
  rcases hs with hs | hs
  · exact (hg.block k (Nat.lt_of_lt_of_le hk h.size) (fun e => hs e.symm)).trans (h.kp k hk hkb (.inr rfl))
  · cases hs
end

theorem Own2.setLow {α : Type} {E : El α} {T1 T2 : TypeId} {w : World} {base g j : Nat} {v u : Value} {p : List (List α)} (h : Own2 E T1 T2 w base v p) (hg : g < base) : Own2 E T1 T2 (w.setCell ⟨g, j, none⟩ u) base v p := by
  obtain ⟨us, hU, -⟩ := h.told
  exact ⟨us, hU.1, hU.2.1.setFar (fun e => by have := (World.ownsRow.lt hU.2.1 g e).1; omega) j u, fun i u' r hu hr => (hU.2.2.1 i u' r hu hr).setFar (fun e => by have := (World.ownsRow.lt (hU.2.2.1 i u' r hu hr) g e).1; omega) j u, hU.2.2.2.1, hU.2.2.2.2⟩

/-- A candidate that was drawn. -/
def QX (b : Nat) (v : Value) (w : World) : Prop := ∃ (f o : Slc) (x : Xc) (lo : Nat), v = .agg #[.slice f.a f.n f.cap, .slice o.a o.n o.cap] ∧ b < lo ∧ LocR 27 lo w.heap.size w (fun W => RepX W f.v o.v x) ∧ x.fr.length ≤ 100 ∧ x.od.length ≤ 3 ∧ ∀ r ∈ x.od, r.length ≤ 100

theorem mu_end {w wx : World} {b : Nat} {a : Option Addr} {c : Nat} {xs : List Int} {p p' : Int} {f o : Slc} {x' : Xc} {lo R : Nat} {cs : Array Value} (hr : Rd wx b a c xs p') (hp : p' ≤ p + 3) (ho : Outside b (b + 1) w wx) (hR : wx.heap[R]? = some (.cells cs 27 (0, 0))) (hbR : b < R) (hwR : w.heap.size ≤ R)
    (hL : LocR 27 lo wx.heap.size wx (fun W => RepX W f.v o.v x')) (h1 : x'.fr.length ≤ 100) (h2 : x'.od.length ≤ 3) (h3 : ∀ r ∈ x'.od, r.length ≤ 100) (hlo : w.heap.size + 2 ≤ lo := by omega) (hbw : b < w.heap.size := by omega) :
    RetRd w b a c xs p 3 (QX b) (.returned (.agg #[.slice f.a f.n f.cap, .slice o.a o.n o.cap])) ((wx.setCell ⟨R, 0, none⟩ (.slice f.a f.n f.cap)).setCell ⟨R, 1, none⟩ (.slice o.a o.n o.cap)) :=
  ⟨_, p', rfl, ⟨f, o, x', lo, rfl, by omega, by simpa using hL.store2 hR, h1, h2, h3⟩, hp, ((hr.setNew hbR _ _).setNew hbR _ _), ((ho.setNew hwR _ _).setNew hwR _ _)⟩

set_option maxRecDepth 100000 in
set_option maxHeartbeats 3200000 in
theorem l6Mutate_any (b : Nat) (a : Option Addr) (c : Nat) (xs : List Int) (p : Int) (vf vo : Value) (x : Xc) (w : World) (hr : Rd w b a c xs p) (hp : p ≤ 700000000) (hx : RepX w vf vo x) (hfl : 3 ≤ x.fr.length ∧ x.fr.length ≤ 15) (hol : x.od.length = 3) (hrl : ∀ o ∈ x.od, 1 ≤ o.length ∧ o.length ≤ 16) :
    Calls Try.prog 47 #[.pointer (some ⟨b, 0, none⟩), .agg #[vf, vo]] w (RetRd w b a c xs p 3 (QX b)) := by
  have HP := hide (fun (p : Int) n w' h hp (hn : n ≤ 3000) (hn0 : 0 ≤ n) => pick_any b a c xs p n w' h hp (by omega) (by omega))
  have hlt := hr.lt
  have HX := hide hx
  obtain ⟨fa, fc, rfl, -, -, -, -⟩ := hx.fr.open
  obtain ⟨oa, oc, rfl, -, -, -, -⟩ := hx.od.open
  have R0 := hide ((hr.allocNew (.cells #[.slice fa x.fr.length fc, .slice oa x.od.length oc] 27)).allocNew (.cells #[.slice none 0 0, .slice none 0 0] 27))
  clear hx hr
  go_enter Try.func47, Try.ntmps47
  go_wp2_with fail
  have hcp := l6Copy_anyA _ _ x _ ((HX.out.below (Below.alloc (Below.refl w.heap.size w) (Nat.le_refl _) (.cells #[.slice fa x.fr.length fc, .slice oa x.od.length oc] 27))).below (Below.alloc (Below.refl _ _) (Nat.le_refl _) (.cells #[.slice none 0 0, .slice none 0 0] 27))) (by omega) (by omega) (fun o ho => by have := hrl o ho; omega)
  rw [hol] at hcp
  (with_reducible refine hcp.mono ?_); rintro e w2 ⟨⟨f1, f2, f3⟩, ⟨o1, o2, o3⟩, m, rfl, hof, hfm, hmb, hoo, hb2⟩
  rcases hof.shape with ⟨-, h0⟩ | ⟨gf, cf, hv, -, -, hcf, -⟩
  · exfalso; rw [h0] at hfl; simp at hfl
  simp only [Slc.v, Value.slice.injEq] at hv
  obtain ⟨rfl, rfl, rfl⟩ := hv
  rcases hoo.own2.rep.open with ⟨ao, co, hv, hco, -, -, -⟩
  rcases OwnF.shape hoo with ⟨-, h0⟩ | ⟨g, cg, hv2, -, -⟩
  · exfalso; rw [h0] at hol; simp at hol
  simp only [Slc.v, Value.slice.injEq] at hv hv2
  obtain ⟨rfl, rfl, rfl⟩ := hv2
  obtain ⟨-, -, rfl⟩ := hv
  rw [hol] at hco
  have hoo2 := hoo.own2
  rw [hol] at hoo2
  have hz2 : ((w.alloc (.cells #[.slice fa x.fr.length fc, .slice oa 3 oc] 27)).alloc (.cells #[.slice none 0 0, .slice none 0 0] 27)).heap.size = w.heap.size + 2 := by simp
  have hbr : ((w.alloc (.cells #[.slice fa x.fr.length fc, .slice oa 3 oc] 27)).alloc (.cells #[.slice none 0 0, .slice none 0 0] 27)).heap[w.heap.size + 1]? = some (.cells #[.slice none 0 0, .slice none 0 0] 27 (0, 0)) := by
    have h := heap_alloc_new (w.alloc (.cells #[.slice fa x.fr.length fc, .slice oa 3 oc] 27)) (.cells #[.slice none 0 0, .slice none 0 0] 27)
    simpa using h
  have hbr2 := (hb2.block (w.heap.size + 1) (by omega)).trans hbr
  rw [hz2] at hof hmb
  have hs2 := hb2.size
  rw [hz2] at hs2
  have hba := (Below.refl w2.heap.size w2).alloc (Nat.le_refl _) (.cells #[.slice (some ⟨gf, 0, none⟩) x.fr.length f3, .slice (some ⟨g, 0, none⟩) 3 o3] 27)
  have HM := hide (⟨(hba.block _ (by omega)).trans hbr2, heap_alloc_new w2 _, hof.below hba, hmb, hfm, hoo2.below hba⟩ : MuI (w2.alloc (.cells #[.slice (some ⟨gf, 0, none⟩) x.fr.length f3, .slice (some ⟨g, 0, none⟩) 3 o3] 27)) b (w.heap.size + 1) w2.heap.size (w.heap.size + 2) m ⟨some ⟨gf, 0, none⟩, x.fr.length, f3⟩ ⟨some ⟨g, 0, none⟩, 3, o3⟩ x)
  rw [hol] at R0
  have R2 := hide ((R0.out.keep hb2 (by omega)).allocNew (.cells #[.slice (some ⟨gf, 0, none⟩) x.fr.length f3, .slice (some ⟨g, 0, none⟩) 3 o3] 27))
  have OA := hide ((((Outside.refl b (b + 1) w).allocNew (.cells #[.slice fa x.fr.length fc, .slice oa 3 oc] 27)).allocNew (.cells #[.slice none 0 0, .slice none 0 0] 27)).trans (Outside.of_below (hb2)))
  clear hcp hof hfm hoo hoo2 hb2 hbr hbr2 hba R0
  go_wp2_with fail
  (with_reducible refine (HP.out p 24 _ R2.out (by omega) (by omega) (by omega)).mono ?_); rintro e w3 ⟨v3, p3, rfl, ⟨q, rfl, hq0, hqn⟩, hp3, hr3, ho3⟩
  have hM3 := HM.out.outs ho3 (by omega) (by omega) (by omega)
  have R3 := hide hr3
  have O3 := hide ((OA.out.allocNew (.cells #[.slice (some ⟨gf, 0, none⟩) x.fr.length f3, .slice (some ⟨g, 0, none⟩) 3 o3] 27)).trans ho3)
  have HM3 := hide hM3
  clear hr3 ho3 hM3 HM R2 OA
  have hN := HM3.out.ne
  have hA := HM3.out.apart
  have c0 : w3.cell? ⟨w2.heap.size, 0, none⟩ = some (.slice (some ⟨gf, 0, none⟩) x.fr.length f3) := cell_of_heapV HM3.out.bo (k := 0) rfl
  have c1 : w3.cell? ⟨w2.heap.size, 1, none⟩ = some (.slice (some ⟨g, 0, none⟩) 3 o3) := cell_of_heapV HM3.out.bo (k := 1) rfl
  have r0 : w3.cell? ⟨w.heap.size + 1, 0, none⟩ = some (.slice none 0 0) := cell_of_heapV HM3.out.br (k := 0) rfl
  have r1 : w3.cell? ⟨w.heap.size + 1, 1, none⟩ = some (.slice none 0 0) := cell_of_heapV HM3.out.br (k := 1) rfl
  have rfz := frozen_of_heapV HM3.out.br
  have ofz := frozen_of_heapV HM3.out.bo
  have rl := lt_of_cell r0
  have cl := lt_of_cell c0
  have hgO : g ≠ w2.heap.size := fun e => hN.2.2.2 (by rw [← e]; rfl)
  have hgR : g ≠ w.heap.size + 1 := fun e => hN.2.2.1 (by rw [← e]; rfl)
  have hfO : gf ≠ w2.heap.size := fun e => hN.2.1 (by rw [← e]; rfl)
  have hfR : gf ≠ w.heap.size + 1 := fun e => hN.1 (by rw [← e]; rfl)
  have hOR : w2.heap.size ≠ w.heap.size + 1 := by omega
  have hgm : m ≤ g := by
    obtain ⟨us, hU, -⟩ := HM3.out.oo.told
    exact (World.ownsRow.lt hU.2.1 g rfl).1
  have hfm : gf < m := HM3.out.fm gf rfl
  have hfb : w.heap.size + 2 ≤ gf := (World.ownsRow.lt HM3.out.of gf rfl).1
  have HN := hide hN; have HA := hide hA
  clear hN hA
  by_cases h0 : q = 0
  · subst h0
    go_wp2_with fail
    -- reg mut0
    refine wp_region_inv (n := 11) (by kernel_rfl) rfl (by kernel_rfl) (by kernel_rfl) (fun A ls a' W => ∃ (Q : Nat) (pp : Int) (G : Nat) (yb : Int) (x12 x13 x14 x15 x16 x17 x18 x19 x20 x21 x22 : Value), a' = putAll A [(12, x12), (13, x13), (14, x14), (15, x15), (16, x16), (17, x17), (18, x18), (19, x19), (20, x20), (21, x21), (22, x22)] ∧ Vd ls 0 [] x12 (.pointer (some ⟨w2.heap.size, 0, none⟩)) ∧ Vd ls 1 [] x13 (.slice (some ⟨gf, 0, none⟩) x.fr.length f3) ∧ Vd ls 2 [] x14 (.pointer (some ⟨b, 0, none⟩)) ∧ Vd ls 3 [] x15 (.pointer (some ⟨w2.heap.size, 0, none⟩)) ∧ Vd ls 4 [] x16 (.slice (some ⟨gf, 0, none⟩) x.fr.length f3) ∧ Vd ls 5 [] x17 (.int .i64 (x.fr.length : Int)) ∧ Vd ls 6 [] x18 (.int .i64 (Q : Int)) ∧ Vd ls 7 [] x19 (.pointer (some ⟨b, 0, none⟩)) ∧ Vd ls 8 [] x20 (.slice (some ⟨G, 0, none⟩) 5 5) ∧ Vd ls 9 [8] x21 (.int .i64 yb) ∧ Vd ls 10 [6] x22 (.pointer (some ⟨gf, Q, none⟩)) ∧ JM0 w3 w.heap.size b a c xs p3 x.fr.length (fl ls 6) (fl ls 8) (fl ls 9) Q G pp W) ?r0 ?rs ?re
    case r0 =>
      exact ⟨0, p3, 0, 0, undef, undef, undef, undef, undef, undef, undef, undef, undef, undef, undef, by simp only [putAll, Act.put, List.setIfInBounds_toArray, List.set_cons_succ, List.set_cons_zero], Vd.start, Vd.start, Vd.start, Vd.start, Vd.start, Vd.start, Vd.start, Vd.start, Vd.start, Vd.start, Vd.start, by simp only [fl_start]; exact ⟨R3.out.keep (Below.refl _ _).drew R3.out.lt, by simp, Outside.of_below (Below.refl _ _).drew, fun h => (by cases h), fun h => (by cases h)⟩⟩
    case rs =>
      rintro ls a' W hs hnl ⟨Q, pp, G, yb, x12, x13, x14, x15, x16, x17, x18, x19, x20, x21, x22, ha, cv0, cv1, cv2, cv3, cv4, cv5, cv6, cv7, cv8, cv9, cv10, hJ⟩ k o hkn mc K hK
      simp only [putAll, Act.put, List.setIfInBounds_toArray, List.set_cons_succ, List.set_cons_zero] at ha
      subst ha
      have hkc : k = 0 ∨ k = 1 ∨ k = 2 ∨ k = 3 ∨ k = 4 ∨ k = 5 ∨ k = 6 ∨ k = 7 ∨ k = 8 ∨ k = 9 ∨ k = 10 := by omega
      have hop := mc.op
      have haf := mc.after
      rcases hkc with rfl | rfl | rfl | rfl | rfl | rfl | rfl | rfl | rfl | rfl | rfl
      · simp at hop; subst hop; simp [Region.binds] at haf
        go_simp
        exact hK _ _ ⟨Q, pp, G, yb, _, _, _, _, _, _, _, _, _, _, _, by simp only [putAll, Act.put, List.setIfInBounds_toArray, List.set_cons_succ, List.set_cons_zero], Vd.same (by simp), cv1.set (by decide), cv2.set (by decide), cv3.set (by decide), cv4.set (by decide), cv5.set (by decide), cv6.set (by decide), cv7.set (by decide), cv8.set (by decide), cv9.set (by decide), cv10.set (by decide), by rw [fl_set (show 0 ≠ 6 by decide), fl_set (show 0 ≠ 8 by decide), fl_set (show 0 ≠ 9 by decide)]; exact hJ⟩
      · simp at hop; subst hop; simp [Region.binds] at haf
        obtain rfl := cv0.get (by simp [haf])
        have d0 : W.cell? ⟨w2.heap.size, 0, none⟩ = some (.slice (some ⟨gf, 0, none⟩) x.fr.length f3) := (cell_of_block (hJ.out.block w2.heap.size cl (by omega)) 0).trans c0
        have dl := lt_of_cell d0
        go_simp
        exact hK _ _ ⟨Q, pp, G, yb, _, _, _, _, _, _, _, _, _, _, _, by simp only [putAll, Act.put, List.setIfInBounds_toArray, List.set_cons_succ, List.set_cons_zero], cv0.set (by decide), Vd.same (by simp), cv2.set (by decide), cv3.set (by decide), cv4.set (by decide), cv5.set (by decide), cv6.set (by decide), cv7.set (by decide), cv8.set (by decide), cv9.set (by decide), cv10.set (by decide), by rw [fl_set (show 1 ≠ 6 by decide), fl_set (show 1 ≠ 8 by decide), fl_set (show 1 ≠ 9 by decide)]; exact hJ⟩
      · simp at hop; subst hop; simp [Region.binds] at haf
        go_simp
        exact hK _ _ ⟨Q, pp, G, yb, _, _, _, _, _, _, _, _, _, _, _, by simp only [putAll, Act.put, List.setIfInBounds_toArray, List.set_cons_succ, List.set_cons_zero], cv0.set (by decide), cv1.set (by decide), Vd.same (by simp), cv3.set (by decide), cv4.set (by decide), cv5.set (by decide), cv6.set (by decide), cv7.set (by decide), cv8.set (by decide), cv9.set (by decide), cv10.set (by decide), by rw [fl_set (show 2 ≠ 6 by decide), fl_set (show 2 ≠ 8 by decide), fl_set (show 2 ≠ 9 by decide)]; exact hJ⟩
      · simp at hop; subst hop; simp [Region.binds] at haf
        go_simp
        exact hK _ _ ⟨Q, pp, G, yb, _, _, _, _, _, _, _, _, _, _, _, by simp only [putAll, Act.put, List.setIfInBounds_toArray, List.set_cons_succ, List.set_cons_zero], cv0.set (by decide), cv1.set (by decide), cv2.set (by decide), Vd.same (by simp), cv4.set (by decide), cv5.set (by decide), cv6.set (by decide), cv7.set (by decide), cv8.set (by decide), cv9.set (by decide), cv10.set (by decide), by rw [fl_set (show 3 ≠ 6 by decide), fl_set (show 3 ≠ 8 by decide), fl_set (show 3 ≠ 9 by decide)]; exact hJ⟩
      · simp at hop; subst hop; simp [Region.binds] at haf
        obtain rfl := cv3.get (by simp [haf])
        have d0 : W.cell? ⟨w2.heap.size, 0, none⟩ = some (.slice (some ⟨gf, 0, none⟩) x.fr.length f3) := (cell_of_block (hJ.out.block w2.heap.size cl (by omega)) 0).trans c0
        have dl := lt_of_cell d0
        go_simp
        exact hK _ _ ⟨Q, pp, G, yb, _, _, _, _, _, _, _, _, _, _, _, by simp only [putAll, Act.put, List.setIfInBounds_toArray, List.set_cons_succ, List.set_cons_zero], cv0.set (by decide), cv1.set (by decide), cv2.set (by decide), cv3.set (by decide), Vd.same (by simp), cv5.set (by decide), cv6.set (by decide), cv7.set (by decide), cv8.set (by decide), cv9.set (by decide), cv10.set (by decide), by rw [fl_set (show 4 ≠ 6 by decide), fl_set (show 4 ≠ 8 by decide), fl_set (show 4 ≠ 9 by decide)]; exact hJ⟩
      · simp at hop; subst hop; simp [Region.binds] at haf
        obtain rfl := cv4.get (by simp [haf])
        go_simp
        exact hK _ _ ⟨Q, pp, G, yb, _, _, _, _, _, _, _, _, _, _, _, by simp only [putAll, Act.put, List.setIfInBounds_toArray, List.set_cons_succ, List.set_cons_zero], cv0.set (by decide), cv1.set (by decide), cv2.set (by decide), cv3.set (by decide), cv4.set (by decide), Vd.same (by simp), cv6.set (by decide), cv7.set (by decide), cv8.set (by decide), cv9.set (by decide), cv10.set (by decide), by rw [fl_set (show 5 ≠ 6 by decide), fl_set (show 5 ≠ 8 by decide), fl_set (show 5 ≠ 9 by decide)]; exact hJ⟩
      · simp at hop; subst hop; simp [Region.binds] at haf
        obtain rfl := cv2.get (by simp [haf])
        obtain rfl := cv5.get (by simp [haf])
        have f6 := fl_no mc.new; rw [f6] at hJ
        go_simp
        go_at_call 63
        (with_reducible refine (HP.out pp (x.fr.length : Int) W hJ.rd (by have := hJ.le2; omega) (by omega) (by omega)).mono ?_); rintro e u ⟨v, pp', rfl, ⟨q, rfl, hq0, hqn⟩, hpp, hru, hou⟩
        obtain ⟨Q', rfl⟩ : ∃ Q' : Nat, q = (Q' : Int) := ⟨q.toNat, by omega⟩
        exact hK _ _ ⟨Q', pp', G, yb, _, _, _, _, _, _, _, _, _, _, _, by simp only [putAll, Act.put, List.setIfInBounds_toArray, List.set_cons_succ, List.set_cons_zero], cv0.set (by decide), cv1.set (by decide), cv2.set (by decide), cv3.set (by decide), cv4.set (by decide), cv5.set (by decide), Vd.same (by simp), cv7.set (by decide), cv8.set (by decide), cv9.set (by decide), cv10.void (by decide) (by decide) mc.new, by rw [fl_got hs (by decide), fl_set (show 6 ≠ 8 by decide), fl_set (show 6 ≠ 9 by decide)]; exact ⟨hru, by have := hJ.le; simp only [if_true, if_false, Bool.false_eq_true] at this ⊢; omega, hJ.out.trans hou, fun _ => by have := hqn (by omega); omega, fun h => hou.ownHi (hJ.lit h) hlt⟩⟩
      · simp at hop; subst hop; simp [Region.binds] at haf
        go_simp
        exact hK _ _ ⟨Q, pp, G, yb, _, _, _, _, _, _, _, _, _, _, _, by simp only [putAll, Act.put, List.setIfInBounds_toArray, List.set_cons_succ, List.set_cons_zero], cv0.set (by decide), cv1.set (by decide), cv2.set (by decide), cv3.set (by decide), cv4.set (by decide), cv5.set (by decide), cv6.set (by decide), Vd.same (by simp), cv8.set (by decide), cv9.set (by decide), cv10.set (by decide), by rw [fl_set (show 7 ≠ 6 by decide), fl_set (show 7 ≠ 8 by decide), fl_set (show 7 ≠ 9 by decide)]; exact hJ⟩
      · simp at hop; subst hop; simp [Region.binds] at haf
        have f8 := fl_no mc.new; rw [f8] at hJ
        go_simp
        exact hK _ _ ⟨Q, pp, W.heap.size, yb, _, _, _, _, _, _, _, _, _, _, _, by simp only [putAll, Act.put, List.setIfInBounds_toArray, List.set_cons_succ, List.set_cons_zero], cv0.set (by decide), cv1.set (by decide), cv2.set (by decide), cv3.set (by decide), cv4.set (by decide), cv5.set (by decide), cv6.set (by decide), cv7.set (by decide), Vd.same (by simp), cv9.void (by decide) (by decide) mc.new, cv10.set (by decide), by rw [fl_set (show 8 ≠ 6 by decide), fl_got hs (by decide), fl_set (show 8 ≠ 9 by decide)]; exact ⟨hJ.rd.allocNew _, hJ.le, hJ.out.allocNew _, hJ.q, fun _ => Own.lit (E := IntE) (T := 3) (w := W) (base := w.heap.size) (by have := hJ.out.size; omega) [0, -1, 1, 99, 3] #[.int .i64 0, .int .i64 (-1), .int .i64 1, .int .i64 99, .int .i64 3] 5 rfl rfl (by omega)⟩⟩
      · simp at hop; subst hop; simp [Region.binds] at haf
        obtain rfl := cv7.get (by simp [haf])
        obtain rfl := cv8.get (by simp [haf])
        have f9 := fl_no mc.new; rw [f9] at hJ
        have f8 := fl_yes (show ls[8]? = some true by simp [haf]); rw [f8] at hJ
        go_simp
        go_at_call 80
        (with_reducible refine (numOwnY b a c xs pp G 5 [0, -1, 1, 99, 3] W w.heap.size hlt hJ.rd (by have := hJ.le2; omega) (hJ.lit rfl) (by simp) (by simp)).mono ?_); rintro e u ⟨v, pp', rfl, ⟨y, -, rfl⟩, hpp, hru, hou⟩
        exact hK _ _ ⟨Q, pp', G, y, _, _, _, _, _, _, _, _, _, _, _, by simp only [putAll, Act.put, List.setIfInBounds_toArray, List.set_cons_succ, List.set_cons_zero], cv0.set (by decide), cv1.set (by decide), cv2.set (by decide), cv3.set (by decide), cv4.set (by decide), cv5.set (by decide), cv6.set (by decide), cv7.set (by decide), cv8.set (by decide), Vd.same (by simp [haf]), cv10.set (by decide), by rw [fl_set (show 9 ≠ 6 by decide), fl_set (show 9 ≠ 8 by decide), fl_got hs (by decide), f8]; exact ⟨hru, by have := hJ.le; simp only [if_true, if_false, Bool.false_eq_true] at this ⊢; omega, hJ.out.trans hou, hJ.q, fun h => hou.ownHi (hJ.lit rfl) hlt⟩⟩
      · simp at hop; subst hop; simp [Region.binds] at haf
        obtain rfl := cv1.get (by simp [haf])
        obtain rfl := cv6.get (by simp [haf])
        have hQ := hJ.q (fl_yes (show ls[6]? = some true by simp [haf]))
        have hQ1 : (Q : Int) < (x.fr.length : Int) := by omega
        go_simp
        exact hK _ _ ⟨Q, pp, G, yb, _, _, _, _, _, _, _, _, _, _, _, by simp only [putAll, Act.put, List.setIfInBounds_toArray, List.set_cons_succ, List.set_cons_zero], cv0.set (by decide), cv1.set (by decide), cv2.set (by decide), cv3.set (by decide), cv4.set (by decide), cv5.set (by decide), cv6.set (by decide), cv7.set (by decide), cv8.set (by decide), cv9.set (by decide), Vd.same (by simp [haf]), by rw [fl_set (show 10 ≠ 6 by decide), fl_set (show 10 ≠ 8 by decide), fl_set (show 10 ≠ 9 by decide)]; exact hJ⟩
    case re =>
      rintro ls a' W hall ⟨Q, pp, G, yb, x12, x13, x14, x15, x16, x17, x18, x19, x20, x21, x22, ha, cv0, cv1, cv2, cv3, cv4, cv5, cv6, cv7, cv8, cv9, cv10, hJ⟩ o hop
      simp only [putAll, Act.put, List.setIfInBounds_toArray, List.set_cons_succ, List.set_cons_zero] at ha
      subst ha
      simp at hop; subst hop
      obtain rfl := cv0.get (hall 0 (by decide))
      obtain rfl := cv1.get (hall 1 (by decide))
      obtain rfl := cv2.get (hall 2 (by decide))
      obtain rfl := cv3.get (hall 3 (by decide))
      obtain rfl := cv4.get (hall 4 (by decide))
      obtain rfl := cv5.get (hall 5 (by decide))
      obtain rfl := cv6.get (hall 6 (by decide))
      obtain rfl := cv7.get (hall 7 (by decide))
      obtain rfl := cv8.get (hall 8 (by decide))
      obtain rfl := cv9.get (hall 9 (by decide))
      obtain rfl := cv10.get (hall 10 (by decide))
      rw [fl_yes (hall 6 (by decide))] at hJ
      rw [fl_yes (hall 8 (by decide))] at hJ
      rw [fl_yes (hall 9 (by decide))] at hJ
      obtain ⟨hr5, hp5, ho5, hQ, -⟩ := hJ
      have hQ := hQ rfl
      have hof := ho5.ownHi HM3.out.of (show b < w.heap.size + 2 by omega)
      obtain ⟨z, hz⟩ := get_of_lt (xs := x.fr) (k := Q) hQ
      have hcz := hof.intc hz
      have hfz := hof.frozen Q
      have hzl := lt_of_cell hcz
      have hbO5 := (ho5.block w2.heap.size cl (by omega)).trans HM3.out.bo
      have hbR5 := (ho5.block (w.heap.size + 1) rl (by omega)).trans HM3.out.br
      have t0 : W.cell? ⟨w2.heap.size, 0, none⟩ = some (.slice (some ⟨gf, 0, none⟩) x.fr.length f3) := cell_of_heapV hbO5 (k := 0) rfl
      have t1 : W.cell? ⟨w2.heap.size, 1, none⟩ = some (.slice (some ⟨g, 0, none⟩) 3 o3) := cell_of_heapV hbO5 (k := 1) rfl
      have s0 : W.cell? ⟨w.heap.size + 1, 0, none⟩ = some (.slice none 0 0) := cell_of_heapV hbR5 (k := 0) rfl
      have s1 : W.cell? ⟨w.heap.size + 1, 1, none⟩ = some (.slice none 0 0) := cell_of_heapV hbR5 (k := 1) rfl
      have sfz := frozen_of_heapV hbR5
      have sl := lt_of_cell s0
      have tl := lt_of_cell t0
      go_simp
      go_wp2_with fail
      have e1 := hof.setInt hz yb
      have e2 := (HM3.out.oo.outside ho5 (show b < m by omega)).setLow (j := Q) (u := .int .i64 yb) (show gf < m by omega)
      have e3 : (W.setCell ⟨gf, Q, none⟩ (.int .i64 yb)).heap[w.heap.size + 1]? = some (.cells #[.slice none 0 0, .slice none 0 0] 27 (0, 0)) := by
        rw [heap_setCell_other _ ⟨gf, Q, none⟩ _ _ (fun e => hfR e.symm)]; exact hbR5
      have L := ((LocR.own (T := 27) (by decide) e1).and (((own2_loc (T := 27) e2 (by decide) (by decide))).wide (lo' := w.heap.size + 2) HM3.out.mb (Nat.le_refl _) (Nat.le_refl _))).map (ψ := fun V => RepX V (.slice (some ⟨gf, 0, none⟩) x.fr.length f3) (.slice (some ⟨g, 0, none⟩) 3 o3) ⟨x.fr.set Q yb, x.od⟩) (fun V ⟨k1, k2⟩ => ⟨k1.rep, k2⟩)
      exact bodyPost_ret (v := .agg #[.slice (some ⟨gf, 0, none⟩) x.fr.length f3, .slice (some ⟨g, 0, none⟩) 3 o3]) (by simp [results, Try.results47, go_sem, *]) rfl (mu_end (w := w) (p := p) (f := ⟨some ⟨gf, 0, none⟩, x.fr.length, f3⟩) (o := ⟨some ⟨g, 0, none⟩, 3, o3⟩) (x' := ⟨x.fr.set Q yb, x.od⟩) (hr5.setNew (g := gf) (show b < gf by omega) _ _) (by simp at hp5; omega) ((O3.out.trans ho5).setNew (g := gf) (show w.heap.size ≤ gf by omega) _ _) e3 (by omega) (by omega) L (by simp; omega) (by simp; omega) (fun r hr => by have := hrl r hr; omega))
    -- end mut0
  have h0' : (q == 0) = false := by simp [h0]
  clear h0
  by_cases h1 : q = 1
  · subst h1
    have HWF := hide HM3.out.of
    go_wp2_with (at_builtin; refine wpList_app IntE 3 Try.infoInt rfl Try.underlying24 (w.heap.size + 2) _ x.fr (-1) (HWF.out.alloc _) (by decide) (by omega) (by simp; omega) rfl _ _ rfl rfl _ 0 1 rfl news_alloc ?_; intro v' w4 hown4 hgr4; obtain ⟨⟨va, vn, vc⟩, rfl, hvn⟩ := hown4.toSlc; have hvn : vn = x.fr.length + 1 := (by simpa using hvn); subst hvn; have hbO := (row_farY hgr4 cl (fun e => HN.out.2.1 e)).trans HM3.out.bo; have hbR := (row_farY hgr4 rl (fun e => HN.out.1 e)).trans HM3.out.br; have HW4 := hide hown4; have HG4 := hide hgr4; have d0 : w4.cell? ⟨w2.heap.size, 0, none⟩ = some (.slice (some ⟨gf, 0, none⟩) x.fr.length f3) := cell_of_heapV hbO (k := 0) rfl; have d1 : w4.cell? ⟨w2.heap.size, 1, none⟩ = some (.slice (some ⟨g, 0, none⟩) 3 o3) := cell_of_heapV hbO (k := 1) rfl; have s0 : w4.cell? ⟨w.heap.size + 1, 0, none⟩ = some (.slice none 0 0) := cell_of_heapV hbR (k := 0) rfl; have s1 : w4.cell? ⟨w.heap.size + 1, 1, none⟩ = some (.slice none 0 0) := cell_of_heapV hbR (k := 1) rfl; have sfz := frozen_of_heapV hbR; have dfz := frozen_of_heapV hbO; have sl := lt_of_cell s0; have dl := lt_of_cell d0; have HBR := hide hbR; have HBO := hide hbO; clear hown4 hgr4 hbO hbR)
    have hvO : (Value.slice va (x.fr.length + 1) vc).ownBlock ≠ some w2.heap.size := fun e => by
      obtain ⟨a', ha'⟩ := HW4.out.typed e
      rw [HBO.out] at ha'; simp at ha'
    have e1 := HW4.out.setFar (g := w2.heap.size) hvO 0 (.slice va (x.fr.length + 1) vc)
    have hoo4 : Own2 IntE 24 3 (w4.setCell ⟨w2.heap.size, 0, none⟩ (.slice va (x.fr.length + 1) vc)) m (.slice (some ⟨g, 0, none⟩) 3 o3) x.od := by
      obtain ⟨us, hU, -⟩ := HM3.out.oo.told
      have hbl : ∀ q, m ≤ q → q < w3.heap.size → q ≠ w2.heap.size → (w4.setCell ⟨w2.heap.size, 0, none⟩ (.slice va (x.fr.length + 1) vc)).heap[q]? = w3.heap[q]? := fun q h1 h2 h3 => by
        rw [heap_setCell_other _ ⟨w2.heap.size, 0, none⟩ q _ h3]
        exact row_farY HG4.out h2 (fun e => by simp [Value.ownBlock] at e; omega)
      refine ⟨us, hU.1, hU.2.1.sameV fun q hq => ?_, fun i u r hu hr => (hU.2.2.1 i u r hu hr).sameV fun q hq => ?_, hU.2.2.2.1, hU.2.2.2.2⟩
      · obtain ⟨z1, z2⟩ := World.ownsRow.lt hU.2.1 q hq
        simp [Value.ownBlock] at hq; subst hq
        exact hbl _ z1 z2 hgO
      · obtain ⟨z1, z2⟩ := World.ownsRow.lt (hU.2.2.1 i u r hu hr) q hq
        refine hbl _ z1 z2 (fun e => ?_)
        obtain ⟨a', ha'⟩ := (hU.2.2.1 i u r hu hr).typed hq
        rw [e, HM3.out.bo] at ha'; simp at ha'
    have e3 : (w4.setCell ⟨w2.heap.size, 0, none⟩ (.slice va (x.fr.length + 1) vc)).heap[w.heap.size + 1]? = some (.cells #[.slice none 0 0, .slice none 0 0] 27 (0, 0)) := by
      rw [heap_setCell_other _ ⟨w2.heap.size, 0, none⟩ _ _ (show w.heap.size + 1 ≠ w2.heap.size by omega)]; exact HBR.out
    have L := ((LocR.own (T := 27) (by decide) e1).and (((own2_loc (T := 27) hoo4 (by decide) (by decide))).wide (lo' := w.heap.size + 2) HM3.out.mb (Nat.le_refl _) (Nat.le_refl _))).map (ψ := fun V => RepX V (.slice va (x.fr.length + 1) vc) (.slice (some ⟨g, 0, none⟩) 3 o3) ⟨x.fr ++ [-1], x.od⟩) (fun V ⟨k1, k2⟩ => ⟨k1.rep, k2⟩)
    refine bodyPost_ret (v := .agg #[.slice va (x.fr.length + 1) vc, .slice (some ⟨g, 0, none⟩) 3 o3]) (by simp [results, Try.results47, go_sem, *]) rfl (mu_end (p := p) (f := ⟨va, x.fr.length + 1, vc⟩) (o := ⟨some ⟨g, 0, none⟩, 3, o3⟩) (x' := ⟨x.fr ++ [-1], x.od⟩) (((R3.out.allocNew _).grownNew HG4.out (fun q hq => by simp [Value.ownBlock] at hq; omega)).setNew (g := w2.heap.size) (show b < w2.heap.size by omega) _ _) (by omega) (((O3.out.allocNew _).grownNew HG4.out (fun q hq => by simp [Value.ownBlock] at hq; omega)).setNew (g := w2.heap.size) (show w.heap.size ≤ w2.heap.size by omega) _ _) e3 (by omega) (by omega) L (by simp; omega) (by simp; omega) (fun r hr => by have := hrl r hr; omega))
  have h1' : (q == 1) = false := by simp [h1]
  clear h1
  by_cases h2 : q = 2
  · subst h2
    have ho3 : ¬ (o3 = 1) := by omega
    have ho31 : (1 : Nat) ≤ 3 := by omega
    go_wp2_with fail
    have e3 : (w3.setCell ⟨w2.heap.size, 1, none⟩ (.slice (some ⟨g, 1, none⟩) 2 (o3 - 1))).heap[w.heap.size + 1]? = some (.cells #[.slice none 0 0, .slice none 0 0] 27 (0, 0)) := by
      rw [heap_setCell_other _ ⟨w2.heap.size, 1, none⟩ _ _ (show w.heap.size + 1 ≠ w2.heap.size by omega)]; exact HM3.out.br
    have L := ((LocR.own (T := 27) (by decide) HM3.out.of).and (((own2_loc (T := 27) HM3.out.oo (by decide) (by decide)).wide (lo' := w.heap.size + 2) HM3.out.mb (Nat.le_refl _) (Nat.le_refl _)))).map (ψ := fun V => RepX V (.slice (some ⟨gf, 0, none⟩) x.fr.length f3) (.slice (some ⟨g, 1, none⟩) 2 (o3 - 1)) ⟨x.fr, x.od.tail⟩) (fun V ⟨k1, k2⟩ => ⟨k1.rep, k2.tailY (by omega)⟩)
    have L2 : LocR 27 (w.heap.size + 2) (w3.setCell ⟨w2.heap.size, 1, none⟩ (.slice (some ⟨g, 1, none⟩) 2 (o3 - 1))).heap.size (w3.setCell ⟨w2.heap.size, 1, none⟩ (.slice (some ⟨g, 1, none⟩) 2 (o3 - 1))) (fun V => RepX V (.slice (some ⟨gf, 0, none⟩) x.fr.length f3) (.slice (some ⟨g, 1, none⟩) 2 (o3 - 1)) ⟨x.fr, x.od.tail⟩) := by
      rw [World.size_setCell]
      exact L.step (by simp) fun k ob _ _ h1 h2 => by
        have hne : k ≠ w2.heap.size := by
          rintro rfl
          rw [HM3.out.bo] at h1
          simp only [Option.some.injEq] at h1
          exact h2 _ _ h1.symm
        rw [heap_setCell_other _ ⟨w2.heap.size, 1, none⟩ k _ hne]; exact h1
    exact bodyPost_ret (v := .agg #[.slice (some ⟨gf, 0, none⟩) x.fr.length f3, .slice (some ⟨g, 1, none⟩) 2 (o3 - 1)]) (by simp [results, Try.results47, go_sem, *]) rfl (mu_end (w := w) (p := p) (f := ⟨some ⟨gf, 0, none⟩, x.fr.length, f3⟩) (o := ⟨some ⟨g, 1, none⟩, 2, o3 - 1⟩) (x' := ⟨x.fr, x.od.tail⟩) (R3.out.setNew (g := w2.heap.size) (show b < w2.heap.size by omega) _ _) (by omega) (O3.out.setNew (g := w2.heap.size) (show w.heap.size ≤ w2.heap.size by omega) _ _) e3 (by omega) (by omega) L2 (by simp; omega) (by simp; omega) (fun r hr => by have := hrl r (List.mem_of_mem_tail hr); omega))
  have h2' : (q == 2) = false := by simp [h2]
  clear h2
  by_cases h3 : q = 3
  · subst h3
    obtain ⟨us, hU, -⟩ := HM3.out.oo.told
    obtain ⟨r, hr0⟩ := get_of_lt (xs := x.od) (k := 0) (by omega)
    obtain ⟨⟨sa, sn, sc⟩, hs0, hgl, hcell, hrow, -⟩ := hU.row hr0
    have hsn : sn = r.length := Own.len hrow
    have hrl1 := hrl r (List.mem_of_getElem? hr0)
    have hrg : (Value.slice sa sn sc).ownBlock ≠ some g := fun e => hU.2.2.2.2 0 _ hs0 g e rfl
    have hrO : (Value.slice sa sn sc).ownBlock ≠ some w2.heap.size := fun e => by
      obtain ⟨a', ha'⟩ := Own.typed hrow e
      rw [HM3.out.bo] at ha'; simp at ha'
    have hrR : (Value.slice sa sn sc).ownBlock ≠ some (w.heap.size + 1) := fun e => by
      obtain ⟨a', ha'⟩ := Own.typed hrow e
      rw [HM3.out.br] at ha'; simp at ha'
    have hfz := hU.2.1.frozen 0
    have HU := hide hU; have HSI := hide hs0; have HRI := hide hr0; have HRW := hide hrow; have HRG := hide hrg; have HRO := hide hrO; have HRR := hide hrR
    have hbm : b < m := by omega
    clear hU hs0 hr0 hrow hrg hrO hrR
    have LA := hide ((Own.lit (E := IntE) (T := 3) (w := w3) (base := w.heap.size) (by omega) [0, 99, -1] #[.int .i64 0, .int .i64 99, .int .i64 (-1)] 3 rfl rfl (by omega)).below (Below.refl _ _).drew)
    have RA := hide ((R3.out.allocNew (.cells #[.int .i64 0, .int .i64 99, .int .i64 (-1)] 3)).keep (Below.refl _ _).drew (R3.out.allocNew (.cells #[.int .i64 0, .int .i64 99, .int .i64 (-1)] 3)).lt)
    have OA := hide (Outside.of_below (lo := b) (hi := b + 1) ((belowAlloc w3 (.cells #[.int .i64 0, .int .i64 99, .int .i64 (-1)] 3)).drew))
    have HNO := hide (fun (p : Int) G n ys w' base hb h hp ho h1 h2 => numOwnY b a c xs p G n ys w' base hb h hp ho h1 h2)
    subst hsn
    have hwm := HM3.out.mb
    go_wp2_with fail
    -- reg mut3
    refine wp_region_inv (n := 12) (by kernel_rfl) rfl (by kernel_rfl) (by kernel_rfl) (fun A ls a' W => ∃ (pp : Int) (G : Nat) (yb : Int) (H : Nat) (s : Slc) (x38 x39 x40 x41 x42 x43 x44 x45 x46 x47 x48 x49 : Value), a' = putAll A [(38, x38), (39, x39), (40, x40), (41, x41), (42, x42), (43, x43), (44, x44), (45, x45), (46, x46), (47, x47), (48, x48), (49, x49)] ∧ Vd ls 0 [] x38 (.pointer (some ⟨w2.heap.size, 1, none⟩)) ∧ Vd ls 1 [] x39 (.slice (some ⟨g, 0, none⟩) 3 o3) ∧ Vd ls 2 [] x40 (.pointer (some ⟨w2.heap.size, 1, none⟩)) ∧ Vd ls 3 [] x41 (.slice (some ⟨g, 0, none⟩) 3 o3) ∧ Vd ls 4 [] x42 (.pointer (some ⟨g, 0, none⟩)) ∧ Vd ls 5 [] x43 (.slice sa r.length sc) ∧ Vd ls 6 [] x44 (.pointer (some ⟨b, 0, none⟩)) ∧ Vd ls 7 [] x45 (.slice (some ⟨G, 0, none⟩) 3 3) ∧ Vd ls 8 [7] x46 (.int .i64 yb) ∧ Vd ls 9 [7, 8] x47 (.slice (some ⟨H, 0, none⟩) 1 1) ∧ Vd ls 10 [7, 8, 9] x48 (.slice s.a s.n s.cap) ∧ Vd ls 11 [] x49 (.pointer (some ⟨g, 0, none⟩)) ∧ JM3 w w3 w.heap.size m b a c xs p3 ⟨sa, r.length, sc⟩ r (fl ls 7) (fl ls 8) (fl ls 9) (fl ls 10) G H pp yb s W) ?r0 ?rs ?re
    case r0 =>
      exact ⟨p3, 0, 0, 0, ⟨none, 0, 0⟩, undef, undef, undef, undef, undef, undef, undef, undef, undef, undef, undef, undef, by simp only [putAll, Act.put, List.setIfInBounds_toArray, List.set_cons_succ, List.set_cons_zero], Vd.start, Vd.start, Vd.start, Vd.start, Vd.start, Vd.start, Vd.start, Vd.start, Vd.start, Vd.start, Vd.start, Vd.start, by simp only [fl_start]; exact JM3.start (R3.out.keep (Below.refl _ _).drew R3.out.lt) O3.out HRW.out⟩
    case rs =>
      rintro ls a' W hs hnl ⟨pp, G, yb, H, s, x38, x39, x40, x41, x42, x43, x44, x45, x46, x47, x48, x49, ha, cv0, cv1, cv2, cv3, cv4, cv5, cv6, cv7, cv8, cv9, cv10, cv11, hJ⟩ k o hkn mc K hK
      simp only [putAll, Act.put, List.setIfInBounds_toArray, List.set_cons_succ, List.set_cons_zero] at ha
      subst ha
      have hkc : k = 0 ∨ k = 1 ∨ k = 2 ∨ k = 3 ∨ k = 4 ∨ k = 5 ∨ k = 6 ∨ k = 7 ∨ k = 8 ∨ k = 9 ∨ k = 10 ∨ k = 11 := by omega
      have hop := mc.op
      have haf := mc.after
      rcases hkc with rfl | rfl | rfl | rfl | rfl | rfl | rfl | rfl | rfl | rfl | rfl | rfl
      · simp at hop; subst hop; simp [Region.binds] at haf
        go_simp
        exact hK _ _ ⟨pp, G, yb, H, s, _, _, _, _, _, _, _, _, _, _, _, _, by simp only [putAll, Act.put, List.setIfInBounds_toArray, List.set_cons_succ, List.set_cons_zero], Vd.same (by simp), cv1.set (by decide), cv2.set (by decide), cv3.set (by decide), cv4.set (by decide), cv5.set (by decide), cv6.set (by decide), cv7.set (by decide), cv8.set (by decide), cv9.set (by decide), cv10.set (by decide), cv11.set (by decide), by rw [fl_set (show 0 ≠ 7 by decide), fl_set (show 0 ≠ 8 by decide), fl_set (show 0 ≠ 9 by decide), fl_set (show 0 ≠ 10 by decide)]; exact hJ⟩
      · simp at hop; subst hop; simp [Region.binds] at haf
        obtain rfl := cv0.get (by simp [haf])
        have d1 : W.cell? ⟨w2.heap.size, 1, none⟩ = some (.slice (some ⟨g, 0, none⟩) 3 o3) := (cell_of_block (hJ.kp w2.heap.size cl (by omega) (.inl HRO.out)) 1).trans c1
        have dl := lt_of_cell d1
        go_simp
        exact hK _ _ ⟨pp, G, yb, H, s, _, _, _, _, _, _, _, _, _, _, _, _, by simp only [putAll, Act.put, List.setIfInBounds_toArray, List.set_cons_succ, List.set_cons_zero], cv0.set (by decide), Vd.same (by simp), cv2.set (by decide), cv3.set (by decide), cv4.set (by decide), cv5.set (by decide), cv6.set (by decide), cv7.set (by decide), cv8.set (by decide), cv9.set (by decide), cv10.set (by decide), cv11.set (by decide), by rw [fl_set (show 1 ≠ 7 by decide), fl_set (show 1 ≠ 8 by decide), fl_set (show 1 ≠ 9 by decide), fl_set (show 1 ≠ 10 by decide)]; exact hJ⟩
      · simp at hop; subst hop; simp [Region.binds] at haf
        go_simp
        exact hK _ _ ⟨pp, G, yb, H, s, _, _, _, _, _, _, _, _, _, _, _, _, by simp only [putAll, Act.put, List.setIfInBounds_toArray, List.set_cons_succ, List.set_cons_zero], cv0.set (by decide), cv1.set (by decide), Vd.same (by simp), cv3.set (by decide), cv4.set (by decide), cv5.set (by decide), cv6.set (by decide), cv7.set (by decide), cv8.set (by decide), cv9.set (by decide), cv10.set (by decide), cv11.set (by decide), by rw [fl_set (show 2 ≠ 7 by decide), fl_set (show 2 ≠ 8 by decide), fl_set (show 2 ≠ 9 by decide), fl_set (show 2 ≠ 10 by decide)]; exact hJ⟩
      · simp at hop; subst hop; simp [Region.binds] at haf
        obtain rfl := cv2.get (by simp [haf])
        have d1 : W.cell? ⟨w2.heap.size, 1, none⟩ = some (.slice (some ⟨g, 0, none⟩) 3 o3) := (cell_of_block (hJ.kp w2.heap.size cl (by omega) (.inl HRO.out)) 1).trans c1
        have dl := lt_of_cell d1
        go_simp
        exact hK _ _ ⟨pp, G, yb, H, s, _, _, _, _, _, _, _, _, _, _, _, _, by simp only [putAll, Act.put, List.setIfInBounds_toArray, List.set_cons_succ, List.set_cons_zero], cv0.set (by decide), cv1.set (by decide), cv2.set (by decide), Vd.same (by simp), cv4.set (by decide), cv5.set (by decide), cv6.set (by decide), cv7.set (by decide), cv8.set (by decide), cv9.set (by decide), cv10.set (by decide), cv11.set (by decide), by rw [fl_set (show 3 ≠ 7 by decide), fl_set (show 3 ≠ 8 by decide), fl_set (show 3 ≠ 9 by decide), fl_set (show 3 ≠ 10 by decide)]; exact hJ⟩
      · simp at hop; subst hop; simp [Region.binds] at haf
        obtain rfl := cv3.get (by simp [haf])
        have hcx : (0 : Int) < 3 := by omega
        go_simp
        exact hK _ _ ⟨pp, G, yb, H, s, _, _, _, _, _, _, _, _, _, _, _, _, by simp only [putAll, Act.put, List.setIfInBounds_toArray, List.set_cons_succ, List.set_cons_zero], cv0.set (by decide), cv1.set (by decide), cv2.set (by decide), cv3.set (by decide), Vd.same (by simp), cv5.set (by decide), cv6.set (by decide), cv7.set (by decide), cv8.set (by decide), cv9.set (by decide), cv10.set (by decide), cv11.set (by decide), by rw [fl_set (show 4 ≠ 7 by decide), fl_set (show 4 ≠ 8 by decide), fl_set (show 4 ≠ 9 by decide), fl_set (show 4 ≠ 10 by decide)]; exact hJ⟩
      · simp at hop; subst hop; simp [Region.binds] at haf
        obtain rfl := cv4.get (by simp [haf])
        have dg : W.cell? ⟨g, 0, none⟩ = some (.slice sa r.length sc) := (cell_of_block (hJ.kp g hgl (by omega) (.inl HRG.out)) 0).trans hcell
        have dgl := lt_of_cell dg
        go_simp
        exact hK _ _ ⟨pp, G, yb, H, s, _, _, _, _, _, _, _, _, _, _, _, _, by simp only [putAll, Act.put, List.setIfInBounds_toArray, List.set_cons_succ, List.set_cons_zero], cv0.set (by decide), cv1.set (by decide), cv2.set (by decide), cv3.set (by decide), cv4.set (by decide), Vd.same (by simp), cv6.set (by decide), cv7.set (by decide), cv8.set (by decide), cv9.set (by decide), cv10.set (by decide), cv11.set (by decide), by rw [fl_set (show 5 ≠ 7 by decide), fl_set (show 5 ≠ 8 by decide), fl_set (show 5 ≠ 9 by decide), fl_set (show 5 ≠ 10 by decide)]; exact hJ⟩
      · simp at hop; subst hop; simp [Region.binds] at haf
        go_simp
        exact hK _ _ ⟨pp, G, yb, H, s, _, _, _, _, _, _, _, _, _, _, _, _, by simp only [putAll, Act.put, List.setIfInBounds_toArray, List.set_cons_succ, List.set_cons_zero], cv0.set (by decide), cv1.set (by decide), cv2.set (by decide), cv3.set (by decide), cv4.set (by decide), cv5.set (by decide), Vd.same (by simp), cv7.set (by decide), cv8.set (by decide), cv9.set (by decide), cv10.set (by decide), cv11.set (by decide), by rw [fl_set (show 6 ≠ 7 by decide), fl_set (show 6 ≠ 8 by decide), fl_set (show 6 ≠ 9 by decide), fl_set (show 6 ≠ 10 by decide)]; exact hJ⟩
      · simp at hop; subst hop; simp [Region.binds] at haf
        have f7 := fl_no mc.new; rw [f7] at hJ
        go_simp
        exact hK _ _ ⟨pp, W.heap.size, yb, H, s, _, _, _, _, _, _, _, _, _, _, _, _, by simp only [putAll, Act.put, List.setIfInBounds_toArray, List.set_cons_succ, List.set_cons_zero], cv0.set (by decide), cv1.set (by decide), cv2.set (by decide), cv3.set (by decide), cv4.set (by decide), cv5.set (by decide), cv6.set (by decide), Vd.same (by simp), cv8.void (by decide) (by decide) mc.new, cv9.void (by decide) (by decide) mc.new, cv10.void (by decide) (by decide) mc.new, cv11.set (by decide), by rw [fl_got hs (by decide), fl_set (show 7 ≠ 8 by decide), fl_set (show 7 ≠ 9 by decide), fl_set (show 7 ≠ 10 by decide)]; exact hJ.lit1 (by omega)⟩
      · simp at hop; subst hop; simp [Region.binds] at haf
        obtain rfl := cv6.get (by simp [haf])
        obtain rfl := cv7.get (by simp [haf])
        have f8 := fl_no mc.new; rw [f8] at hJ
        have f7 := fl_yes (show ls[7]? = some true by simp [haf]); rw [f7] at hJ
        go_simp
        have h10 : fl ls 10 = false := fno hJ.d10 (fno hJ.d9 rfl)
        go_at_call 80
        (with_reducible refine (numOwnY b a c xs pp G 3 [0, 99, -1] W w.heap.size hlt hJ.rd (by have := hJ.le; simp only [if_false, Bool.false_eq_true] at this; omega) (hJ.lit rfl h10) (by simp) (by simp)).mono ?_); rintro e u ⟨v, pp', rfl, ⟨y, -, rfl⟩, hpp, hru, hou⟩
        exact hK _ _ ⟨pp', G, y, H, s, _, _, _, _, _, _, _, _, _, _, _, _, by simp only [putAll, Act.put, List.setIfInBounds_toArray, List.set_cons_succ, List.set_cons_zero], cv0.set (by decide), cv1.set (by decide), cv2.set (by decide), cv3.set (by decide), cv4.set (by decide), cv5.set (by decide), cv6.set (by decide), cv7.set (by decide), Vd.same (by simp [haf]), cv9.void (by decide) (by decide) mc.new, cv10.void (by decide) (by decide) mc.new, cv11.set (by decide), by rw [fl_set (show 8 ≠ 7 by decide), fl_got hs (by decide), fl_set (show 8 ≠ 9 by decide), fl_set (show 8 ≠ 10 by decide), f7]; exact hJ.call hru hpp hou (by omega) (by omega)⟩
      · simp at hop; subst hop; simp [Region.binds] at haf
        have q8 := (cv8 (by simp [haf])).1; simp at q8
        obtain rfl := cv8.get (by simp [haf])
        have f9 := fl_no mc.new; rw [f9] at hJ
        have f8 := fl_yes (show ls[8]? = some true by simp [haf]); rw [f8] at hJ
        go_simp
        exact hK _ _ ⟨pp, G, yb, W.heap.size, s, _, _, _, _, _, _, _, _, _, _, _, _, by simp only [putAll, Act.put, List.setIfInBounds_toArray, List.set_cons_succ, List.set_cons_zero], cv0.set (by decide), cv1.set (by decide), cv2.set (by decide), cv3.set (by decide), cv4.set (by decide), cv5.set (by decide), cv6.set (by decide), cv7.set (by decide), cv8.set (by decide), Vd.same (by simp [haf, q8]), cv10.void (by decide) (by decide) mc.new, cv11.set (by decide), by rw [fl_set (show 9 ≠ 7 by decide), fl_set (show 9 ≠ 8 by decide), fl_got hs (by decide), fl_set (show 9 ≠ 10 by decide), f8]; exact hJ.lit2⟩
      · simp at hop; subst hop; simp [Region.binds] at haf
        have q9 := (cv9 (by simp [haf])).1; simp at q9
        obtain rfl := cv5.get (by simp [haf])
        obtain rfl := cv9.get (by simp [haf])
        have f10 := fl_no mc.new; rw [f10] at hJ
        have f9 := fl_yes (show ls[9]? = some true by simp [haf]); rw [f9] at hJ
        refine step_appAt IntE 3 Try.infoInt rfl Try.underlying24 m (.slice sa r.length sc) r yb (hJ.row rfl) (by decide) (by omega) (by have := hJ.size; omega) (by rfl) _ _ (by rfl) (by rfl) H 0 1 (by rfl) (fun j u hu => by cases j with | zero => (simp only [IntE, List.getElem?_cons_zero, Option.some.injEq] at hu; subst hu; exact hJ.news rfl rfl) | succ j => simp [IntE] at hu) ?_; intro s' w6 hown6 hgr6 hat6
        exact hK _ _ ⟨pp, G, yb, H, s', _, _, _, _, _, _, _, _, _, _, _, _, by simp only [putAll, Act.put, List.setIfInBounds_toArray, List.set_cons_succ, List.set_cons_zero], cv0.set (by decide), cv1.set (by decide), cv2.set (by decide), cv3.set (by decide), cv4.set (by decide), cv5.set (by decide), cv6.set (by decide), cv7.set (by decide), cv8.set (by decide), cv9.set (by decide), Vd.same (by simp [haf, q9]), cv11.set (by decide), by rw [fl_set (show 10 ≠ 7 by decide), fl_set (show 10 ≠ 8 by decide), fl_set (show 10 ≠ 9 by decide), fl_got hs (by decide), f9]; exact hJ.app1 hown6 hgr6 hat6 hbm (by omega)⟩
      · simp at hop; subst hop; simp [Region.binds] at haf
        obtain rfl := cv1.get (by simp [haf])
        have hcx : (0 : Int) < 3 := by omega
        go_simp
        exact hK _ _ ⟨pp, G, yb, H, s, _, _, _, _, _, _, _, _, _, _, _, _, by simp only [putAll, Act.put, List.setIfInBounds_toArray, List.set_cons_succ, List.set_cons_zero], cv0.set (by decide), cv1.set (by decide), cv2.set (by decide), cv3.set (by decide), cv4.set (by decide), cv5.set (by decide), cv6.set (by decide), cv7.set (by decide), cv8.set (by decide), cv9.set (by decide), cv10.set (by decide), Vd.same (by simp), by rw [fl_set (show 11 ≠ 7 by decide), fl_set (show 11 ≠ 8 by decide), fl_set (show 11 ≠ 9 by decide), fl_set (show 11 ≠ 10 by decide)]; exact hJ⟩
    case re =>
      rintro ls a' W hall ⟨pp, G, yb, H, s, x38, x39, x40, x41, x42, x43, x44, x45, x46, x47, x48, x49, ha, cv0, cv1, cv2, cv3, cv4, cv5, cv6, cv7, cv8, cv9, cv10, cv11, hJ⟩ o hop
      simp only [putAll, Act.put, List.setIfInBounds_toArray, List.set_cons_succ, List.set_cons_zero] at ha
      subst ha
      simp at hop; subst hop
      obtain rfl := cv0.get (hall 0 (by decide))
      obtain rfl := cv1.get (hall 1 (by decide))
      obtain rfl := cv2.get (hall 2 (by decide))
      obtain rfl := cv3.get (hall 3 (by decide))
      obtain rfl := cv4.get (hall 4 (by decide))
      obtain rfl := cv5.get (hall 5 (by decide))
      obtain rfl := cv6.get (hall 6 (by decide))
      obtain rfl := cv7.get (hall 7 (by decide))
      obtain rfl := cv8.get (hall 8 (by decide))
      obtain rfl := cv9.get (hall 9 (by decide))
      obtain rfl := cv10.get (hall 10 (by decide))
      obtain rfl := cv11.get (hall 11 (by decide))
      rw [fl_yes (hall 7 (by decide))] at hJ
      rw [fl_yes (hall 8 (by decide))] at hJ
      rw [fl_yes (hall 9 (by decide))] at hJ
      rw [fl_yes (hall 10 (by decide))] at hJ
      obtain ⟨V, hsV, hkV, hown, hgr, hat⟩ := hJ.app rfl
      have hcg : W.cell? ⟨g, 0, none⟩ = some (.slice sa r.length sc) := (cell_of_block (hJ.kp g hgl (by omega) (.inl HRG.out)) 0).trans hcell
      have hfg : W.frozen? ⟨g, 0, none⟩ = false := ((by unfold World.frozen?; rw [hJ.kp g hgl (by omega) (.inl HRG.out)] : W.frozen? ⟨g, 0, none⟩ = w3.frozen? ⟨g, 0, none⟩)).trans hfz
      have hgl5 := lt_of_cell hcg
      have hbO5 := (hJ.kp w2.heap.size cl (by omega) (.inl HRO.out)).trans HM3.out.bo
      have hbR5 := (hJ.kp (w.heap.size + 1) rl (by omega) (.inl HRR.out)).trans HM3.out.br
      have t0 : W.cell? ⟨w2.heap.size, 0, none⟩ = some (.slice (some ⟨gf, 0, none⟩) x.fr.length f3) := cell_of_heapV hbO5 (k := 0) rfl
      have t1 : W.cell? ⟨w2.heap.size, 1, none⟩ = some (.slice (some ⟨g, 0, none⟩) 3 o3) := cell_of_heapV hbO5 (k := 1) rfl
      have s0 : W.cell? ⟨w.heap.size + 1, 0, none⟩ = some (.slice none 0 0) := cell_of_heapV hbR5 (k := 0) rfl
      have s1 : W.cell? ⟨w.heap.size + 1, 1, none⟩ = some (.slice none 0 0) := cell_of_heapV hbR5 (k := 1) rfl
      have sfz := frozen_of_heapV hbR5
      have sl := lt_of_cell s0
      have tl := lt_of_cell t0
      go_simp
      go_wp2_with fail
      have hUV : Own2U IntE 24 3 us V m (.slice (some ⟨g, 0, none⟩) 3 o3) x.od := by
        have hU := HU.out
        refine ⟨hU.1, hU.2.1.sameV fun q hq => ?_, fun i u' r' hu hr => (hU.2.2.1 i u' r' hu hr).sameV fun q hq => ?_, hU.2.2.2.1, hU.2.2.2.2⟩
        · obtain ⟨z1, z2⟩ := World.ownsRow.lt hU.2.1 q hq
          exact hkV q z2 (by omega)
        · obtain ⟨z1, z2⟩ := World.ownsRow.lt (hU.2.2.1 i u' r' hu hr) q hq
          exact hkV q z2 (by omega)
      have e1 := (hUV.rowput2 HSI.out hown hgr hat).own
      have e2 : Own IntE 3 (W.setCell ⟨g, 0, none⟩ (.slice s.a s.n s.cap)) (w.heap.size + 2) (.slice (some ⟨gf, 0, none⟩) x.fr.length f3) x.fr := by
        have hrf : (Slc.v ⟨sa, r.length, sc⟩).ownBlock ≠ some gf := fun e => by have := (World.ownsRow.lt HRW.out gf e).1; omega
        exact (HM3.out.of.sameV fun q hq => by
          simp [Value.ownBlock] at hq; subst hq
          exact hJ.kp gf (World.ownsRow.lt HM3.out.of gf rfl).2 (by omega) (.inl hrf)).setFar (fun e => by simp [Value.ownBlock] at e; omega) _ _
      have e3 : (W.setCell ⟨g, 0, none⟩ (.slice s.a s.n s.cap)).heap[w.heap.size + 1]? = some (.cells #[.slice none 0 0, .slice none 0 0] 27 (0, 0)) := by
        rw [heap_setCell_other _ ⟨g, 0, none⟩ _ _ (fun e => hgR e.symm)]; exact hbR5
      have L := ((LocR.own (T := 27) (by decide) e2).and (((own2_loc (T := 27) e1 (by decide) (by decide))).wide (lo' := w.heap.size + 2) HM3.out.mb (Nat.le_refl _) (Nat.le_refl _))).map (ψ := fun V => RepX V (.slice (some ⟨gf, 0, none⟩) x.fr.length f3) (.slice (some ⟨g, 0, none⟩) 3 o3) ⟨x.fr, x.od.set 0 (r ++ [yb])⟩) (fun V ⟨k1, k2⟩ => ⟨k1.rep, k2⟩)
      exact bodyPost_ret (v := .agg #[.slice (some ⟨gf, 0, none⟩) x.fr.length f3, .slice (some ⟨g, 0, none⟩) 3 o3]) (by simp [results, Try.results47, go_sem, *]) rfl (mu_end (w := w) (p := p) (f := ⟨some ⟨gf, 0, none⟩, x.fr.length, f3⟩) (o := ⟨some ⟨g, 0, none⟩, 3, o3⟩) (x' := ⟨x.fr, x.od.set 0 (r ++ [yb])⟩) (hJ.rd.setNew (g := g) (show b < g by omega) _ _) (by have := hJ.le; simp only [if_true] at this; omega) (hJ.out.setNew (g := g) (show w.heap.size ≤ g by omega) _ _) e3 (by omega) (by omega) L (by simp; omega) (by simp; omega) (mem_setY (fun r hr => by have := hrl r hr; omega) (by simp; omega)))
    -- end mut3
  have h3' : (q == 3) = false := by simp [h3]
  clear h3
  by_cases h4 : q = 4
  · subst h4
    obtain ⟨hg, ⟨⟨s1, s2, s3⟩, hs⟩, hgf⟩ := HM3.out.oo.cellAt (k := 0) (by omega)
    have hcx : (4 : Int) == 4 := rfl
    go_wp2_with fail
    have e1 := HM3.out.oo.put (w1 := w3.alloc (.cells #[] 3)) (belowAlloc _ _) (show m ≤ w3.heap.size by omega) (k := 0) (r := []) (u := .slice (some ⟨w3.heap.size, 0, none⟩) 0 0) (by omega) (Own.empty 3 w3 (Nat.le_refl _))
    have e2 := (HM3.out.of.alloc (.cells #[] 3)).setFar (g := g) (fun e => HA.out g rfl e) 0 (.slice (some ⟨w3.heap.size, 0, none⟩) 0 0)
    have e3 : ((w3.alloc (.cells #[] 3)).setCell ⟨g, 0, none⟩ (.slice (some ⟨w3.heap.size, 0, none⟩) 0 0)).heap[w.heap.size + 1]? = some (.cells #[.slice none 0 0, .slice none 0 0] 27 (0, 0)) := by
      rw [heap_setCell_other _ ⟨g, 0, none⟩ _ _ (fun e => hgR e.symm), heap_alloc_old _ _ rl]; exact HM3.out.br
    have L := ((LocR.own (T := 27) (by decide) e2).and (((own2_loc (T := 27) e1 (by decide) (by decide))).wide (lo' := w.heap.size + 2) HM3.out.mb (Nat.le_refl _) (Nat.le_refl _))).map (ψ := fun V => RepX V (.slice (some ⟨gf, 0, none⟩) x.fr.length f3) (.slice (some ⟨g, 0, none⟩) 3 o3) ⟨x.fr, x.od.set 0 []⟩) (fun V ⟨k1, k2⟩ => ⟨k1.rep, k2⟩)
    have E := mu_end (w := w) (p := p) (f := ⟨some ⟨gf, 0, none⟩, x.fr.length, f3⟩) (o := ⟨some ⟨g, 0, none⟩, 3, o3⟩) (x' := ⟨x.fr, x.od.set 0 []⟩) ((R3.out.allocNew (.cells #[] 3)).setNew (g := g) (show b < g by omega) 0 (.slice (some ⟨w3.heap.size, 0, none⟩) 0 0)) (by omega) ((O3.out.allocNew _).setNew (g := g) (show w.heap.size ≤ g by omega) _ _) e3 (by omega) (by omega) L (by simp; omega) (by simp; omega) (mem_setY (fun r hr => by have := hrl r hr; omega) (by simp))
    rw [World.setCell_alloc_past _ _ _ _ hg, World.setCell_alloc_past _ _ _ _ (by simpa using rl), World.setCell_alloc_past _ _ _ _ (by simpa using rl)] at E
    exact bodyPost_ret (v := .agg #[.slice (some ⟨gf, 0, none⟩) x.fr.length f3, .slice (some ⟨g, 0, none⟩) 3 o3]) (by simp [results, Try.results47, go_sem, *]) rfl E
  have h4' : (q == 4) = false := by simp [h4]
  clear h4
  have L3 := ((LocR.own (T := 27) (by decide) HM3.out.of).and ((own2_loc (T := 27) HM3.out.oo (by decide) (by decide)).wide (lo' := w.heap.size + 2) HM3.out.mb (Nat.le_refl _) (Nat.le_refl _))).map (ψ := fun V => RepX V (.slice (some ⟨gf, 0, none⟩) x.fr.length f3) (.slice (some ⟨g, 0, none⟩) 3 o3) x) (fun V ⟨k1, k2⟩ => ⟨k1.rep, k2⟩)
  go_wp2_with fail
  refine bodyPost_ret (v := .agg #[.slice (some ⟨gf, 0, none⟩) x.fr.length f3, .slice (some ⟨g, 0, none⟩) 3 o3]) (by simp [results, Try.results47, go_sem, *]) rfl (mu_end (p := p) (f := ⟨some ⟨gf, 0, none⟩, x.fr.length, f3⟩) (o := ⟨some ⟨g, 0, none⟩, 3, o3⟩) (x' := x) R3.out (by omega) O3.out HM3.out.br (by omega) (by omega) L3 (by omega) (by omega) (fun r hr => by have := hrl r hr; omega))

end Go.Proofs.Ytblheabgjjeigaa
