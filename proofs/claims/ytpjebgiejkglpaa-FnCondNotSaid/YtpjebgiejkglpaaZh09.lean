/-
  Texts that are cut and read by the reference. No condition but a bound on sizes.
-/
import Derived.Test.YtpjebgiejkglpaaZh05
import Derived.Deep.RegionHeld3
import Derived.Deep.DeepCutAuto
import Derived.Test.YtpjebgiejkglpaaZh07
import Derived.Test.YtpjebgiejkglpaaZh06
namespace Go.Proofs.Ytpjebgiejkglpaa
open Go.RowKit

/-- A variable that holds a condition: its cells, and that they may be written. -/
structure Box (w : World) (g : Nat) (o t q x : Int) (s : Slc) : Prop where
  lt : g < w.heap.size
  c0 : w.cell? ⟨g, 0, none⟩ = some (.int .i64 o)
  c1 : w.cell? ⟨g, 1, none⟩ = some (.int .i64 t)
  c2 : w.cell? ⟨g, 2, none⟩ = some (.int .i64 q)
  c3 : w.cell? ⟨g, 3, none⟩ = some (.int .i64 x)
  c4 : w.cell? ⟨g, 4, none⟩ = some (.slice s.a s.n s.cap)
  f : ∀ j, w.frozen? ⟨g, j, none⟩ = false

theorem Box.keep {w w' : World} {g : Nat} {o t q x : Int} {s : Slc} (h : Box w g o t q x s) (hb : w'.heap[g]? = w.heap[g]?) (hs : w.heap.size ≤ w'.heap.size) : Box w' g o t q x s :=
  ⟨Nat.lt_of_lt_of_le h.lt hs, (cell_of_block hb _).trans h.c0, (cell_of_block hb _).trans h.c1, (cell_of_block hb _).trans h.c2, (cell_of_block hb _).trans h.c3, (cell_of_block hb _).trans h.c4, fun j => by
    have := h.f j
    unfold World.frozen? at this ⊢
    rw [hb]; exact this⟩
theorem Box.outside {b : Nat} {w w' : World} {g : Nat} {o t q x : Int} {s : Slc} (h : Box w g o t q x s) (ho : Outside b (b + 1) w w') (hg : g ≠ b) : Box w' g o t q x s := h.keep (ho.block g h.lt (by omega)) ho.size
theorem Box.below {w w' : World} {g : Nat} {o t q x : Int} {s : Slc} (h : Box w g o t q x s) {B : Nat} (ho : Below B w w') (hg : g < B) : Box w' g o t q x s := h.keep (ho.block g hg) ho.size
theorem Box.other {w : World} {g g' : Nat} {o t q x : Int} {s : Slc} (h : Box w g o t q x s) (hg : g' ≠ g) (j : Nat) (v : Value) : Box (w.setCell ⟨g', j, none⟩ v) g o t q x s := h.keep (heap_setCell_other w ⟨g', j, none⟩ g v (fun e => hg (by simpa using e.symm))) (by simp)
theorem Box.alloc {w : World} {g : Nat} {o t q x : Int} {s : Slc} (h : Box w g o t q x s) (ob : Obj) : Box (w.alloc ob) g o t q x s := h.below (belowAlloc w ob) h.lt
theorem Box.new (w : World) (o t q x : Int) (a : Option Addr) (n c : Nat) (T : TypeId) : Box (w.alloc (.cells #[.int .i64 o, .int .i64 t, .int .i64 q, .int .i64 x, .slice a n c] T)) w.heap.size o t q x ⟨a, n, c⟩ :=
  ⟨by simp, by simp [go_sem], by simp [go_sem], by simp [go_sem], by simp [go_sem], by simp [go_sem], fun j => by simp [go_sem]⟩
theorem Box.set0 {w : World} {g : Nat} {o t q x : Int} {s : Slc} (h : Box w g o t q x s) (o' : Int) : Box (w.setCell ⟨g, 0, none⟩ (.int .i64 o')) g o' t q x s := by
  have c0 := h.c0; have c1 := h.c1; have c2 := h.c2; have c3 := h.c3; have c4 := h.c4; have f := h.f
  exact ⟨by simpa using h.lt, by simp [go_sem, c0], by simp [go_sem, c1], by simp [go_sem, c2], by simp [go_sem, c3], by simp [go_sem, c4], fun j => by simp [go_sem, f]⟩
theorem Box.set1 {w : World} {g : Nat} {o t q x : Int} {s : Slc} (h : Box w g o t q x s) (t' : Int) : Box (w.setCell ⟨g, 1, none⟩ (.int .i64 t')) g o t' q x s := by
  have c0 := h.c0; have c1 := h.c1; have c2 := h.c2; have c3 := h.c3; have c4 := h.c4; have f := h.f
  exact ⟨by simpa using h.lt, by simp [go_sem, c0], by simp [go_sem, c1], by simp [go_sem, c2], by simp [go_sem, c3], by simp [go_sem, c4], fun j => by simp [go_sem, f]⟩
theorem Box.set2 {w : World} {g : Nat} {o t q x : Int} {s : Slc} (h : Box w g o t q x s) (q' : Int) : Box (w.setCell ⟨g, 2, none⟩ (.int .i64 q')) g o t q' x s := by
  have c0 := h.c0; have c1 := h.c1; have c2 := h.c2; have c3 := h.c3; have c4 := h.c4; have f := h.f
  exact ⟨by simpa using h.lt, by simp [go_sem, c0], by simp [go_sem, c1], by simp [go_sem, c2], by simp [go_sem, c3], by simp [go_sem, c4], fun j => by simp [go_sem, f]⟩
theorem Box.set3 {w : World} {g : Nat} {o t q x : Int} {s : Slc} (h : Box w g o t q x s) (x' : Int) : Box (w.setCell ⟨g, 3, none⟩ (.int .i64 x')) g o t q x' s := by
  have c0 := h.c0; have c1 := h.c1; have c2 := h.c2; have c3 := h.c3; have c4 := h.c4; have f := h.f
  exact ⟨by simpa using h.lt, by simp [go_sem, c0], by simp [go_sem, c1], by simp [go_sem, c2], by simp [go_sem, c3], by simp [go_sem, c4], fun j => by simp [go_sem, f]⟩
theorem Box.set4 {w : World} {g : Nat} {o t q x : Int} {s : Slc} (h : Box w g o t q x s) (s' : Slc) : Box (w.setCell ⟨g, 4, none⟩ (.slice s'.a s'.n s'.cap)) g o t q x s' := by
  have c0 := h.c0; have c1 := h.c1; have c2 := h.c2; have c3 := h.c3; have c4 := h.c4; have f := h.f
  exact ⟨by simpa using h.lt, by simp [go_sem, c0], by simp [go_sem, c1], by simp [go_sem, c2], by simp [go_sem, c3], by simp [go_sem, c4], fun j => by simp [go_sem, f]⟩

/-- What is read lies in blocks that are there. -/
theorem RepXc.old {ok : Nat → Prop} {w : World} {u : Cs} {c : Cd} (h : RepXc ok w u c) : RepXc (fun q => ok q ∧ q < w.heap.size) w u c := by
  induction h with
  | mk h1 h2 h3 h4 ih =>
    refine .mk h1 h2 ?_ ih
    rename_i us ks
    cases us with
    | nil => exact .inl rfl
    | cons u us =>
      refine .inr fun b o e => ⟨?_, ?_⟩
      · rcases h3 with h3 | h3
        · cases h3
        · exact h3 b o e
      · obtain ⟨a', c', hv, -, -, h⟩ := h2
        obtain ⟨b', o', rfl, hi⟩ := h 0 u rfl
        simp only [Slc.v, Value.slice.injEq] at hv
        rw [hv.1] at e
        simp only [Option.some.injEq, Addr.mk.injEq, and_true] at e
        rw [← e.1]
        exact lt_of_cell (hi 0 _ rfl)

/-- A copy of a slice of conditions. -/
theorem Foot.copy {ok : Nat → Prop} {w w1 : World} {us : List Cs} {ks : List Cd} {T : TypeId} {base : Nat} {v : Value} (hl : us.length = ks.length) (hx : ∀ (i : Nat) (u : Cs) (k : Cd), us[i]? = some u → ks[i]? = some k → RepXc ok w u k)
    (hk : ∀ q, ok q → q < w.heap.size → w1.heap[q]? = w.heap[q]?) (ho : Own CsE T w1 base v us) (hb : ∀ q, base ≤ q → ok q) : ∃ s1 : Slc, v = .slice s1.a s1.n s1.cap ∧ Foot ok w1 s1 ks := by
  rcases ho.shape with ⟨rfl, rfl⟩ | ⟨g, cap, rfl, h1, h2, h3, h4⟩
  · obtain rfl : ks = [] := List.eq_nil_of_length_eq_zero hl.symm
    exact ⟨⟨none, 0, 0⟩, rfl, Foot.nil _ _⟩
  · exact ⟨⟨some ⟨g, 0, none⟩, us.length, cap⟩, rfl, us, hl, ho.rep, .inr fun b o e => by simp at e; rw [← e.1]; exact hb g h1, fun i u k hu hkk => (hx i u k hu hkk).step hk⟩

set_option maxRecDepth 100000 in
set_option maxHeartbeats 6400000 in
theorem l11Mutate_any (b : Nat) (a : Option Addr) (c : Nat) (xs : List Int) (p : Int) (o t q x : Int) (a1 : Option Addr) (n1 c1 : Nat) (ks : List Cd) (K : Int) (w : World) (hr : Rd w b a c xs p) (hp : p ≤ 700000000) (lo : Nat) (hblo : b < lo) (hlow : lo ≤ w.heap.size) (hf : Foot (fun q => lo ≤ q) w ⟨a1, n1, c1⟩ ks) (hd : (descs ks : Int) + 2 ≤ K) (hK : K ≤ 100000) :
    Calls Try.prog 17 #[.pointer (some ⟨b, 0, none⟩), .agg #[.int .i64 o, .int .i64 t, .int .i64 q, .int .i64 x, .slice a1 n1 c1]] w (RetRd w b a c xs p 5 (QF lo (K + 20))) := by
  have hlt := hr.lt
  obtain ⟨us, hl, hrep, -, hx⟩ := hf
  have hn1 : n1 = us.length := by
    obtain ⟨a', c', hv, -⟩ := hrep
    simp only [Slc.v, Value.slice.injEq] at hv
    exact hv.2.1
  have hbW : Below w.heap.size w ((((w.alloc (.cells #[.int .i64 o, .int .i64 t, .int .i64 q, .int .i64 x, .slice a1 n1 c1] 27)).alloc (.cells #[.int .i64 0, .int .i64 0, .int .i64 0, .int .i64 0, .slice none 0 0] 27)).alloc (.cells #[.int .i64 o, .int .i64 t, .int .i64 q, .int .i64 x, .slice a1 n1 c1] 27)).alloc (.cells #[] 27)) := (((((Below.refl _ _).alloc (Nat.le_refl _) _).alloc (by simp) _).alloc (by simp; omega) _).alloc (by simp; omega) _)
  have HREP := hide (hrep.below hbW)
  have hown : Own CsE 27 ((((w.alloc (.cells #[.int .i64 o, .int .i64 t, .int .i64 q, .int .i64 x, .slice a1 n1 c1] 27)).alloc (.cells #[.int .i64 0, .int .i64 0, .int .i64 0, .int .i64 0, .slice none 0 0] 27)).alloc (.cells #[.int .i64 o, .int .i64 t, .int .i64 q, .int .i64 x, .slice a1 n1 c1] 27)).alloc (.cells #[] 27)) (w.heap.size + 1 + 1 + 1) (.slice (some ⟨w.heap.size + 1 + 1 + 1, 0, none⟩) 0 0) [] := by
    have h := Own.empty (E := CsE) 27 (((w.alloc (.cells #[.int .i64 o, .int .i64 t, .int .i64 q, .int .i64 x, .slice a1 n1 c1] 27)).alloc (.cells #[.int .i64 0, .int .i64 0, .int .i64 0, .int .i64 0, .slice none 0 0] 27)).alloc (.cells #[.int .i64 o, .int .i64 t, .int .i64 q, .int .i64 x, .slice a1 n1 c1] 27)) (Nat.le_refl _)
    simpa using h
  have hul : ([] : List Cs).length + us.length ≤ 68719476736 := by
    have h1 := length_le_descs ks
    simp; omega
  have HU := hide hul; have HOWN := hide hown
  have HR4 := hide ((((hr.allocNew (.cells #[.int .i64 o, .int .i64 t, .int .i64 q, .int .i64 x, .slice a1 n1 c1] 27)).allocNew (.cells #[.int .i64 0, .int .i64 0, .int .i64 0, .int .i64 0, .slice none 0 0] 27)).allocNew (.cells #[.int .i64 o, .int .i64 t, .int .i64 q, .int .i64 x, .slice a1 n1 c1] 27)).allocNew (.cells #[] 27))
  have B5 := hide ((Box.new ((w.alloc (.cells #[.int .i64 o, .int .i64 t, .int .i64 q, .int .i64 x, .slice a1 n1 c1] 27)).alloc (.cells #[.int .i64 0, .int .i64 0, .int .i64 0, .int .i64 0, .slice none 0 0] 27)) o t q x a1 n1 c1 27).alloc (.cells #[] 27))
  have B4 := hide (((Box.new (w.alloc (.cells #[.int .i64 o, .int .i64 t, .int .i64 q, .int .i64 x, .slice a1 n1 c1] 27)) 0 0 0 0 none 0 0 27).alloc (.cells #[.int .i64 o, .int .i64 t, .int .i64 q, .int .i64 x, .slice a1 n1 c1] 27)).alloc (.cells #[] 27))
  have HX := hide hx; have HL := hide hl; have HBW := hide hbW
  have hsz4 : (((((w.alloc (.cells #[.int .i64 o, .int .i64 t, .int .i64 q, .int .i64 x, .slice a1 n1 c1] 27)).alloc (.cells #[.int .i64 0, .int .i64 0, .int .i64 0, .int .i64 0, .slice none 0 0] 27)).alloc (.cells #[.int .i64 o, .int .i64 t, .int .i64 q, .int .i64 x, .slice a1 n1 c1] 27)).alloc (.cells #[] 27))).heap.size = w.heap.size + 1 + 1 + 1 + 1 := by simp
  have HSZ4 := hide hsz4
  clear hul hown hbW hr hx hl hrep hn1 hsz4
  go_enter Try.func17, Try.ntmps17
  have HOK := hide (fun (q : Nat) (h : w.heap.size + 1 + 1 + 1 ≤ q) => (show (lo ≤ q ∧ q ≠ w.heap.size + 1 ∧ q ≠ w.heap.size + 1 + 1) from by omega))
  have HXX := hide (fun (i : Nat) (u : Cs) (k : Cd) (h1 : us[i]? = some u) (h2 : ks[i]? = some k) => (HX.out i u k h1 h2).old.weak (ok' := fun q => lo ≤ q ∧ q ≠ w.heap.size + 1 ∧ q ≠ w.heap.size + 1 + 1) (fun q hq => by have h3 := hq.1; have h4 := hq.2; omega))
  clear HX
  go_wp2_with (at_builtin; refine wpList_appS CsE 27 Try.infoCond rfl Try.underlying25 (w.heap.size + 1 + 1 + 1) _ [] us (.slice a1 n1 c1) HOWN.out HREP.out (by decide) HU.out (by simp) rfl _ _ rfl rfl rfl ?_; intro v1 w1 hown1 hgr1; have hb1 := (Below.refl (w.heap.size + 1 + 1 + 1) ((((w.alloc (.cells #[.int .i64 o, .int .i64 t, .int .i64 q, .int .i64 x, .slice a1 n1 c1] 27)).alloc (.cells #[.int .i64 0, .int .i64 0, .int .i64 0, .int .i64 0, .slice none 0 0] 27)).alloc (.cells #[.int .i64 o, .int .i64 t, .int .i64 q, .int .i64 x, .slice a1 n1 c1] 27)).alloc (.cells #[] 27))).grown hgr1 (by simp) (fun k hk => by simp [Value.ownBlock] at hk; omega); obtain ⟨s1, rfl, hF1⟩ := Foot.copy HL.out HXX.out (fun q hq hqs => (hb1.block q (by omega)).trans (HBW.out.block q hqs)) hown1 HOK.out; have hB5 := hide (B5.out.below hb1 (by simp)); have hB4 := hide (B4.out.below hb1 (by simp)); have HF1 := hide hF1; have HB1 := hide hb1; clear hF1 hown1 hgr1 hb1; have e0 := hB5.out.c4; have e1 := hB5.out.f; have e2 := hB5.out.lt; simp at e0 e1 e2)
  have hb5 : Box w1 (w.heap.size + 1 + 1) o t q x ⟨a1, n1, c1⟩ := by have h := hB5.out; simpa using h
  have hb4 : Box w1 (w.heap.size + 1) 0 0 0 0 ⟨none, 0, 0⟩ := by have h := hB4.out; simpa using h
  have F0 := hide (HF1.out.set (g := w.heap.size + 1 + 1) (by simp) 4 (.slice s1.a s1.n s1.cap))
  have BA0 := hide (hb5.set4 s1)
  have BB0 := hide (hb4.other (g' := w.heap.size + 1 + 1) (by omega) 4 (.slice s1.a s1.n s1.cap))
  have R0 := hide ((HR4.out.keep HB1.out (by omega)).setNew (g := w.heap.size + 1 + 1) (by omega) 4 (.slice s1.a s1.n s1.cap))
  have O0 := hide ((Outside.of_below (lo := b) (hi := b + 1) (HBW.out.trans (HB1.out.mono (by omega)))).setNew (g := w.heap.size + 1 + 1) (by omega) 4 (.slice s1.a s1.n s1.cap))
  have HPK := hide (fun p' w' h hp => pick_any b a c xs p' 24 w' h hp (by omega) (by omega))
  have N5 := hide (fun p' w' G hG hb h hp => numLit5 b a c xs p' 0 6 1 2 3 w' G hG hb h hp)
  have N3a := hide (fun p' w' G hG hb h hp => numLit3 b a c xs p' 4 (-1) 1 w' G hG hb h hp)
  have N3b := hide (fun p' w' G hG hb h hp => numLit3 b a c xs p' 3 (-1) 1 w' G hG hb h hp)
  generalize w1.setCell ⟨w.heap.size + 1 + 1, 4, none⟩ (.slice s1.a s1.n s1.cap) = V0 at *
  clear hb5 hb4 hB5 hB4 HF1 HB1 HBW HR4 B5 B4 HREP HOWN HXX HOK HL HU HSZ4 e0 e1 e2
  (with_reducible refine (HPK.out p _ R0.out (by omega)).mono ?_); rintro e w2 ⟨v2, p2, rfl, ⟨k0, rfl, hk0, hk1⟩, hp2, hr2, ho2⟩
  have R1 := hide hr2
  have F1 := hide (F0.out.outside ho2 (by simp; omega))
  have BA1 := hide (BA0.out.outside ho2 (by omega))
  have BB1 := hide (BB0.out.outside ho2 (by omega))
  have O1 := hide (O0.out.trans ho2)
  clear hr2 ho2 R0 F0 BA0 BB0 O0 hk1
  by_cases z0 : k0 = 0
  · obtain rfl : k0 = 0 := z0
    have hsz1 : w.heap.size < w2.heap.size := by have := BA1.out.lt; omega
    obtain ⟨lm, m0, m1, m2, m3, m4, mf⟩ := BA1.out
    go_wp2_with fail
    clear lm m0 m1 m2 m3 m4 mf
    (with_reducible refine (N5.out p2 w2 _ rfl (by omega) (R1.out.allocNew _) (by omega)).mono ?_); rintro e w3 ⟨v3, p3, rfl, ⟨y, hy, rfl⟩, hp3, hr3, ho3⟩
    have hoo := (Outside.of_below (lo := b) (hi := b + 1) (belowAlloc w2 (.cells #[.int .i64 0, .int .i64 6, .int .i64 1, .int .i64 2, .int .i64 3] 3))).trans ho3
    have R2 := hide (hr3.setNew (g := w.heap.size + 1 + 1) (by omega) 0 (.int .i64 y))
    have F2 := hide ((F1.out.outside hoo (by simp; omega)).set (g := w.heap.size + 1 + 1) (by simp) 0 (.int .i64 y))
    have BA2o := hide (BA1.out.outside hoo (by omega))
    have BB2o := hide (BB1.out.outside hoo (by omega))
    have O2 := hide ((O1.out.trans hoo).setNew (g := w.heap.size + 1 + 1) (by omega) 0 (.int .i64 y))
    clear hr3 ho3 hoo R1 F1 BA1 BB1 O1 hy
    obtain ⟨lm, m0, m1, m2, m3, m4, mf⟩ := BA2o.out
    obtain ⟨ln, n0, n1, n2, n3, n4, nf⟩ := BB2o.out
    go_wp2_with fail
    refine bodyPost_ret (v := .agg #[.int .i64 y, .int .i64 t, .int .i64 q, .int .i64 x, .slice s1.a s1.n s1.cap]) (by simp [results, Try.results17, go_sem, *]) rfl ⟨_, p3, rfl, ⟨y, t, q, x, s1, ks, rfl, (((((F2.out.set (by simp) _ _).set (by simp) _ _).set (by simp) _ _).set (by simp) _ _).set (by simp) _ _).weak (fun q h => h.1), by omega⟩, by omega, (((((R2.out.setNew (by omega) _ _).setNew (by omega) _ _).setNew (by omega) _ _).setNew (by omega) _ _).setNew (by omega) _ _), (((((O2.out.setNew (by omega) _ _).setNew (by omega) _ _).setNew (by omega) _ _).setNew (by omega) _ _).setNew (by omega) _ _)⟩
  have y0 : (k0 == 0) = false := by simp [z0]
  by_cases z1 : k0 = 1
  · obtain rfl : k0 = 1 := z1
    have hsz1 : w.heap.size < w2.heap.size := by have := BA1.out.lt; omega
    obtain ⟨lm, m0, m1, m2, m3, m4, mf⟩ := BA1.out
    go_wp2_with fail
    clear lm m0 m1 m2 m3 m4 mf
    (with_reducible refine (N3a.out p2 w2 _ rfl (by omega) (R1.out.allocNew _) (by omega)).mono ?_); rintro e w3 ⟨v3, p3, rfl, ⟨y, hy, rfl⟩, hp3, hr3, ho3⟩
    have hoo := (Outside.of_below (lo := b) (hi := b + 1) (belowAlloc w2 (.cells #[.int .i64 4, .int .i64 (-1), .int .i64 1] 3))).trans ho3
    have R2 := hide (hr3.setNew (g := w.heap.size + 1 + 1) (by omega) 3 (.int .i64 y))
    have F2 := hide ((F1.out.outside hoo (by simp; omega)).set (g := w.heap.size + 1 + 1) (by simp) 3 (.int .i64 y))
    have BA2o := hide (BA1.out.outside hoo (by omega))
    have BB2o := hide (BB1.out.outside hoo (by omega))
    have O2 := hide ((O1.out.trans hoo).setNew (g := w.heap.size + 1 + 1) (by omega) 3 (.int .i64 y))
    clear hr3 ho3 hoo R1 F1 BA1 BB1 O1 hy
    obtain ⟨lm, m0, m1, m2, m3, m4, mf⟩ := BA2o.out
    obtain ⟨ln, n0, n1, n2, n3, n4, nf⟩ := BB2o.out
    go_wp2_with fail
    refine bodyPost_ret (v := .agg #[.int .i64 o, .int .i64 t, .int .i64 q, .int .i64 y, .slice s1.a s1.n s1.cap]) (by simp [results, Try.results17, go_sem, *]) rfl ⟨_, p3, rfl, ⟨o, t, q, y, s1, ks, rfl, (((((F2.out.set (by simp) _ _).set (by simp) _ _).set (by simp) _ _).set (by simp) _ _).set (by simp) _ _).weak (fun q h => h.1), by omega⟩, by omega, (((((R2.out.setNew (by omega) _ _).setNew (by omega) _ _).setNew (by omega) _ _).setNew (by omega) _ _).setNew (by omega) _ _), (((((O2.out.setNew (by omega) _ _).setNew (by omega) _ _).setNew (by omega) _ _).setNew (by omega) _ _).setNew (by omega) _ _)⟩
  have y1 : (k0 == 1) = false := by simp [z1]
  by_cases z2 : k0 = 2
  · obtain rfl : k0 = 2 := z2
    have hsz1 : w.heap.size < w2.heap.size := by have := BA1.out.lt; omega
    obtain ⟨lm, m0, m1, m2, m3, m4, mf⟩ := BA1.out
    go_wp2_with fail
    clear lm m0 m1 m2 m3 m4 mf
    (with_reducible refine (N3b.out p2 w2 _ rfl (by omega) (R1.out.allocNew _) (by omega)).mono ?_); rintro e w3 ⟨v3, p3, rfl, ⟨y, hy, rfl⟩, hp3, hr3, ho3⟩
    have hoo := (Outside.of_below (lo := b) (hi := b + 1) (belowAlloc w2 (.cells #[.int .i64 3, .int .i64 (-1), .int .i64 1] 3))).trans ho3
    have R2 := hide (hr3.setNew (g := w.heap.size + 1 + 1) (by omega) 1 (.int .i64 y))
    have F2 := hide ((F1.out.outside hoo (by simp; omega)).set (g := w.heap.size + 1 + 1) (by simp) 1 (.int .i64 y))
    have BA2o := hide (BA1.out.outside hoo (by omega))
    have BB2o := hide (BB1.out.outside hoo (by omega))
    have O2 := hide ((O1.out.trans hoo).setNew (g := w.heap.size + 1 + 1) (by omega) 1 (.int .i64 y))
    clear hr3 ho3 hoo R1 F1 BA1 BB1 O1 hy
    obtain ⟨lm, m0, m1, m2, m3, m4, mf⟩ := BA2o.out
    obtain ⟨ln, n0, n1, n2, n3, n4, nf⟩ := BB2o.out
    go_wp2_with fail
    refine bodyPost_ret (v := .agg #[.int .i64 o, .int .i64 y, .int .i64 q, .int .i64 x, .slice s1.a s1.n s1.cap]) (by simp [results, Try.results17, go_sem, *]) rfl ⟨_, p3, rfl, ⟨o, y, q, x, s1, ks, rfl, (((((F2.out.set (by simp) _ _).set (by simp) _ _).set (by simp) _ _).set (by simp) _ _).set (by simp) _ _).weak (fun q h => h.1), by omega⟩, by omega, (((((R2.out.setNew (by omega) _ _).setNew (by omega) _ _).setNew (by omega) _ _).setNew (by omega) _ _).setNew (by omega) _ _), (((((O2.out.setNew (by omega) _ _).setNew (by omega) _ _).setNew (by omega) _ _).setNew (by omega) _ _).setNew (by omega) _ _)⟩
  have y2 : (k0 == 2) = false := by simp [z2]
  by_cases z3 : k0 = 3
  · obtain rfl : k0 = 3 := z3
    clear N5 N3a N3b HPK
    go_wp2_with fail
    go_loopw [6] (fun i wr => ∃ (k : Nat) (o1 t1 q1 x1 : Int) (s2 : Slc) (kk : List Cd), k ≤ 10 ∧ i = .int .i64 k ∧ Hid (Box wr (w.heap.size + 1 + 1) o1 t1 q1 x1 s2) ∧ Hid (Box wr (w.heap.size + 1) 0 0 0 0 ⟨none, 0, 0⟩) ∧ Hid (Foot (fun q => lo ≤ q ∧ q ≠ w.heap.size + 1 ∧ q ≠ w.heap.size + 1 + 1) wr s2 kk) ∧ Hid ((descs kk : Int) + 2 ≤ K + k) ∧ Hid (Rd wr b a c xs p2) ∧ Hid (Outside b (b + 1) w wr)) (fun i _ => 10 - (intOf i).toNat)
    case atStart => exact ⟨0, o, t, q, x, s1, ks, by omega, rfl, BA1, BB1, F1, hide (by omega), R1, O1⟩
    case round =>
      obtain ⟨k, o1, t1, q1, x1, s2, kk, hk, rfl, BA, BB, FF, DD, RR, OO⟩ := hrel
      have hsz1 : w.heap.size + 1 + 1 < wr.heap.size := BA.out.lt
      by_cases hlt : k < 10
      · have hlt' : (k : Int) < 10 := by omega
        obtain ⟨lm, m0, m1, m2, m3, m4, mf⟩ := BA.out
        go_wp2_with fail
        clear lm m0 m1 m2 m3 m4 mf
        go_roundw
        case rel =>
          refine ⟨k + 1, 5, 0, 0, 0, ⟨some ⟨wr.heap.size, 0, none⟩, 1, 1⟩, [.mk o1 t1 q1 x1 kk], by omega, by go_num, hide ((((((BA.out.set0 5).set1 0).set2 0).set3 0).set4 ⟨some ⟨wr.heap.size, 0, none⟩, 1, 1⟩).alloc _), hide ((((((BB.out.other (by omega) _ _).other (by omega) _ _).other (by omega) _ _).other (by omega) _ _).other (by omega) _ _).alloc _), hide ?_, hide (by rw [descs_one]; simp only [Cd.kids]; have := DD.out; omega), hide ((((((RR.out.setNew (by omega) _ _).setNew (by omega) _ _).setNew (by omega) _ _).setNew (by omega) _ _).setNew (by omega) _ _).allocNew _), hide ((((((OO.out.setNew (by omega) _ _).setNew (by omega) _ _).setNew (by omega) _ _).setNew (by omega) _ _).setNew (by omega) _ _).allocNew _)⟩
          have h := Foot.one (o := o1) (t := t1) (q := q1) (x := x1) (((((FF.out.set (g := w.heap.size + 1 + 1) (by simp) 0 (.int .i64 5)).set (g := w.heap.size + 1 + 1) (by simp) 1 (.int .i64 0)).set (g := w.heap.size + 1 + 1) (by simp) 2 (.int .i64 0)).set (g := w.heap.size + 1 + 1) (by simp) 3 (.int .i64 0)).set (g := w.heap.size + 1 + 1) (by simp) 4 (.slice (some ⟨wr.heap.size, 0, none⟩) 1 1)) (by simp; omega) 27
          simpa using h
        case measure => simp [intOf]; omega
      · have e : k = 10 := by omega
        have DD2 := DD.out
        obtain ⟨lm, m0, m1, m2, m3, m4, mf⟩ := BA.out
        obtain ⟨ln, n0, n1, n2, n3, n4, nf⟩ := BB.out
        go_wp2_with fail
        refine bodyPost_ret (v := .agg #[.int .i64 o1, .int .i64 t1, .int .i64 q1, .int .i64 x1, .slice s2.a s2.n s2.cap]) (by simp [results, Try.results17, go_sem, *]) rfl ⟨_, p2, rfl, ⟨o1, t1, q1, x1, s2, kk, rfl, (((((FF.out.set (by simp) _ _).set (by simp) _ _).set (by simp) _ _).set (by simp) _ _).set (by simp) _ _).weak (fun q h => h.1), by omega⟩, by omega, (((((RR.out.setNew (by omega) _ _).setNew (by omega) _ _).setNew (by omega) _ _).setNew (by omega) _ _).setNew (by omega) _ _), (((((OO.out.setNew (by omega) _ _).setNew (by omega) _ _).setNew (by omega) _ _).setNew (by omega) _ _).setNew (by omega) _ _)⟩
  have y3 : (k0 == 3) = false := by simp [z3]
  clear z0 z1 z2 z3
  obtain ⟨lm, m0, m1, m2, m3, m4, mf⟩ := BA1.out
  obtain ⟨ln, n0, n1, n2, n3, n4, nf⟩ := BB1.out
  go_wp2_with fail
  refine bodyPost_ret (v := .agg #[.int .i64 o, .int .i64 t, .int .i64 q, .int .i64 x, .slice s1.a s1.n s1.cap]) (by simp [results, Try.results17, go_sem, *]) rfl ⟨_, p2, rfl, ⟨o, t, q, x, s1, ks, rfl, (((((F1.out.set (by simp) _ _).set (by simp) _ _).set (by simp) _ _).set (by simp) _ _).set (by simp) _ _).weak (fun q h => h.1), by omega⟩, by omega, (((((R1.out.setNew (by omega) _ _).setNew (by omega) _ _).setNew (by omega) _ _).setNew (by omega) _ _).setNew (by omega) _ _), (((((O1.out.setNew (by omega) _ _).setNew (by omega) _ _).setNew (by omega) _ _).setNew (by omega) _ _).setNew (by omega) _ _)⟩

end Go.Proofs.Ytpjebgiejkglpaa
namespace Go.Proofs.Ytpjebgiejkglpaa
open Go.RowKit

/-- A source that was just opened. -/
def RetOpen (w : World) (e : Ending) (w' : World) : Prop := ∃ (B : Nat) (a : Option Addr) (c : Nat) (xs : List Int), e = .returned (.pointer (some ⟨B, 0, none⟩)) ∧ Rd w' B a c xs 0 ∧ w.heap.size ≤ B ∧ Below w.heap.size w w'

theorem Rep.take {w : World} {a : Option Addr} {n c : Nat} {xs : List Int} (h : Rep ByteE w (.slice a n c) xs) {k : Nat} (hk : k ≤ xs.length) : Rep ByteE w (.slice a k c) (xs.take k) := by
  obtain ⟨a', c', hv, h1, h2, h3⟩ := h
  simp only [Value.slice.injEq] at hv
  obtain ⟨rfl, rfl, rfl⟩ := hv
  refine ⟨a, c, by rw [List.length_take, Nat.min_eq_left hk], by rw [List.length_take]; omega, h2, fun i x hx => ?_⟩
  rw [List.getElem?_take] at hx
  split at hx
  · exact h3 i x hx
  · cases hx

theorem rep_lt {w : World} {a : Option Addr} {n c : Nat} {xs : List Int} (h : Rep ByteE w (.slice a n c) xs) (g o : Nat) (hne : xs ≠ []) (e : a = some ⟨g, o, none⟩) : g < w.heap.size := by
  cases xs with
  | nil => exact absurd rfl hne
  | cons x xs =>
    obtain ⟨b, o', hb, hlt, -⟩ := h.byte (k := 0) (x := x) rfl
    rw [e] at hb
    simp only [Option.some.injEq, Addr.mk.injEq, and_true] at hb
    omega

set_option maxHeartbeats 800000 in
theorem l17Open_any (v : Value) (xs : List Int) (w : World) (hx : Rep ByteE w v xs) (hb : ∀ x ∈ xs, 0 ≤ x ∧ x ≤ 255) :
    Calls Try.prog 15 #[v] w (RetOpen w) := by
  obtain ⟨a, c, rfl, hc1, hc2, hc3, hx⟩ := hx.open
  have HX := hide hx; clear hx
  by_cases hl : xs.length > 2000
  · have hT := hide (HX.out.take (k := 2000) (by omega))
    have hlt : (2000 : Int) < (xs.length : Int) := by omega
    have hc4 : 2000 ≤ c := by omega
    have htl : (xs.take 2000).length = 2000 := by rw [List.length_take]; omega
    have HTL := hide htl; clear htl
    generalize hn : xs.length = n at *
    clear hn
    go_enter Try.func15, Try.ntmps15
    go_wp2_with fail
    go_ret
    have h2 : Rd (w.alloc (.cells #[.slice a 2000 c, .int .i64 0] 57)) w.heap.size a c (xs.take 2000) 0 :=
      ⟨by simp, by rw [HTL.out]; simp [go_sem], by simp [go_sem], by simp [go_sem], by rw [HTL.out]; exact hT.out.below ((Below.refl _ _).alloc (Nat.le_refl _) _), fun g o hne e => rep_lt hT.out g o hne e, fun x hx => hb x (List.mem_of_mem_take hx), by omega⟩
    exact ⟨w.heap.size, a, c, _, rfl, h2, Nat.le_refl _, (Below.refl _ _).alloc (Nat.le_refl _) _⟩
  · have hge : decide ((xs.length : Int) > 2000) = false := decide_eq_false (by omega)
    clear hl
    have HXR := hide (fun g o hne e => rep_lt HX.out g o hne e)
    generalize hn : xs.length = n at *
    have H := hide hn; clear hn
    go_enter Try.func15, Try.ntmps15
    go_wp2_with fail
    go_ret
    have h2 : Rd (w.alloc (.cells #[.slice a n c, .int .i64 0] 57)) w.heap.size a c xs 0 :=
      ⟨by simp, by rw [H.out]; simp [go_sem], by simp [go_sem], by simp [go_sem], by rw [H.out]; exact HX.out.below ((Below.refl _ _).alloc (Nat.le_refl _) _), HXR.out, hb, by omega⟩
    exact ⟨w.heap.size, a, c, _, rfl, h2, Nat.le_refl _, (Below.refl _ _).alloc (Nat.le_refl _) _⟩

end Go.Proofs.Ytpjebgiejkglpaa

namespace Go.Proofs.Ytpjebgiejkglpaa
open Go.RowKit

/-- Two conditions that were drawn. -/
def RetTwo (w : World) (e : Ending) (w' : World) : Prop := ∃ (o t q x : Int) (s : Slc) (ks : List Cd) (o' t' q' x' : Int) (s' : Slc) (ks' : List Cd),
  e = .returned (.tuple #[.agg #[.int .i64 o, .int .i64 t, .int .i64 q, .int .i64 x, .slice s.a s.n s.cap], .agg #[.int .i64 o', .int .i64 t', .int .i64 q', .int .i64 x', .slice s'.a s'.n s'.cap]]) ∧ RepK 0 w' s ks ∧ RepK 0 w' s' ks' ∧ Below w.heap.size w w'

theorem below_of_outside {b : Nat} {w w' : World} {B : Nat} (h : Outside b (b + 1) w w') (hB : B ≤ b) (hB2 : B ≤ w.heap.size) : Below B w w' := h.below hB hB2

end Go.Proofs.Ytpjebgiejkglpaa

namespace Go.Proofs.Ytpjebgiejkglpaa
open Go.RowKit

theorem Try.infoStr : (Try.prog.info? 9).map (fun i => (i.zero, i.size, i.bytes)) = some (some (.string ⟨#[]⟩), 1, 16) := by kernel_rfl

/-- Texts. -/
def StrE : El ByteArray := ⟨1, by decide, fun x => [.string x], fun _ => rfl, fun x u h => by simp at h; subst h; rfl⟩

theorem Rep.str {w : World} {a : Option Addr} {n c : Nat} {xs : List ByteArray} (h : Rep StrE w (.slice a n c) xs) {k : Nat} {x : ByteArray} (hx : xs[k]? = some x) :
    ∃ b o, a = some ⟨b, o, none⟩ ∧ b < w.heap.size ∧ w.cell? ⟨b, o + k, none⟩ = some (.string x) := by
  obtain ⟨a', c', hv, _, _, h⟩ := h
  simp only [Value.slice.injEq] at hv
  obtain ⟨rfl, rfl, rfl⟩ := hv
  obtain ⟨b, o, rfl, h'⟩ := h k x hx
  have := h' 0 _ rfl
  simp only [StrE, Nat.mul_one, Nat.add_zero] at this
  exact ⟨b, o, rfl, lt_of_cell this, this⟩

/-- Byte i. -/
def byteAt (s : ByteArray) (i : Int) : Int := if h : 0 ≤ i ∧ i < s.size then ((s[i.toNat]'(by omega)).toNat : Int) else 0

/-- The value of a letter or a digit, or -1. -/
def placeV (s : ByteArray) (i f m : Int) : Int :=
  if i ≥ s.size then -1 else if byteAt s i < f then -1 else if byteAt s i - f > m then -1 else byteAt s i - f

theorem l1Place_any (s : ByteArray) (i f m : Int) (w : World) (h0 : 0 ≤ i) (hf : 0 ≤ f) (hf2 : f ≤ 255) :
    Calls Try.prog 97 #[.string s, .int .i64 i, .int .u8 f, .int .i64 m] w fun e w' => e = .returned (.int .i64 (placeV s i f m)) ∧ Below w.heap.size w w' := by
  by_cases hi : i < s.size
  · have hi1 : decide (i ≥ (s.size : Int)) = false := decide_eq_false (by omega)
    have hii : 0 ≤ i ∧ i < s.size := ⟨h0, hi⟩
    have hg : i.toNat < s.size := by omega
    have hP : placeV s i f m = if ((s[i.toNat]'hg).toNat : Int) < f then -1 else if ((s[i.toNat]'hg).toNat : Int) - f > m then -1 else ((s[i.toNat]'hg).toNat : Int) - f := by
      unfold placeV byteAt
      rw [if_neg (by omega), dif_pos hii]
    rw [hP]
    have hu : ((s[i.toNat]'hg).toNat : Int) ≤ 255 := by have := (s[i.toNat]'hg).toNat_lt; omega
    by_cases h1 : ((s[i.toNat]'hg).toNat : Int) < f
    · rw [if_pos h1]
      clear hP
      go_enter Try.func97, Try.ntmps97
      go_wp2_with fail
      go_ret
      exact ⟨rfl, Below.refl _ _⟩
    · have h1' : decide (((s[i.toNat]'hg).toNat : Int) < f) = false := decide_eq_false h1
      rw [if_neg h1]
      clear hP
      by_cases h2 : ((s[i.toNat]'hg).toNat : Int) - f > m
      · rw [if_pos h2]
        go_enter Try.func97, Try.ntmps97
        go_wp2_with fail
        go_ret
        exact ⟨rfl, Below.refl _ _⟩
      · have h2' : decide (((s[i.toNat]'hg).toNat : Int) - f > m) = false := decide_eq_false h2
        rw [if_neg h2]
        go_enter Try.func97, Try.ntmps97
        go_wp2_with fail
        go_ret
        exact ⟨rfl, Below.refl _ _⟩
  · have hi1 : decide (i ≥ (s.size : Int)) = true := decide_eq_true (by omega)
    have hP : placeV s i f m = -1 := by unfold placeV; rw [if_pos (by omega)]
    rw [hP]
    go_enter Try.func97, Try.ntmps97
    go_wp2_with fail
    go_ret
    exact ⟨rfl, Below.refl _ _⟩

/-- Some texts, in memory that the call made. -/
def RetStrs (w : World) (n m : Nat) (e : Ending) (w' : World) : Prop := ∃ v xs, e = .returned v ∧ Own StrE 9 w' w.heap.size v xs ∧ Below w.heap.size w w' ∧ xs.length ≤ n ∧ ∀ x ∈ xs, x.size ≤ m

set_option maxRecDepth 100000 in
set_option maxHeartbeats 800000 in
theorem l17Cut_any (s : ByteArray) (c : Int) (w : World) (hs : s.size ≤ 1000) :
    Calls Try.prog 75 #[.string s, .int .u8 c] w (RetStrs w (s.size + 1) s.size) := by
  go_enter Try.func75, Try.ntmps75
  go_wp2_with fail
  go_loopw [5, 6, 7] (fun v f i wr => ∃ (k fr : Nat) (xs : List ByteArray), i = .int .i64 k ∧ f = .int .i64 fr ∧ fr ≤ k ∧ k ≤ s.size + 1 ∧ Own StrE 9 wr w.heap.size v xs ∧ Below w.heap.size w wr ∧ xs.length ≤ k ∧ ∀ x ∈ xs, x.size ≤ s.size) (fun _ _ i _ => s.size + 1 - (intOf i).toNat)
  case atStart => exact ⟨0, 0, [], rfl, rfl, by omega, by omega, Own.empty _ w (Nat.le_refl _), (Below.refl _ _).alloc (Nat.le_refl _) _, by simp, by simp⟩
  case round =>
    obtain ⟨k, fr, xs, rfl, rfl, hfk, hk, ho, hb, hxl, hxs⟩ := hrel
    by_cases hlt : k ≤ s.size
    · have hlt' : (k : Int) ≤ s.size := by omega
      have HX := hide hxs
      have hlen : xs.length ≤ 68719476736 := by omega
      clear hxs
      by_cases hz : k = s.size
      · subst hz
        go_wp2_with (at_builtin; refine wpList_app StrE 9 Try.infoStr rfl Try.underlying79 w.heap.size _ xs (s.extract fr s.size) (ho.alloc _) (by decide) hlen (by simp; have := hb.size; omega) rfl _ _ rfl rfl _ 0 1 rfl news_alloc ?_; intro v' w1 ho1 hgr1)
        have hb1 := below_app hb ho hgr1
        go_roundw
        case rel => exact ⟨s.size + 1, s.size + 1, xs ++ [s.extract fr s.size], by go_num, by go_num, by omega, by omega, ho1, hb1, by simp; omega, fun x hx => by
          rcases List.mem_append.1 hx with h | h
          · exact HX.out x h
          · rw [List.mem_singleton.1 h, ByteArray.size_extract]; omega⟩
        case measure => simp [intOf]
      · have hz' : ((k : Int) == (s.size : Int)) = false := by simp; omega
        have hks : k < s.size := by omega
        have hki : 0 ≤ (k : Int) ∧ (k : Int) < s.size := by omega
        clear hz
        by_cases hc : ((s[k]'hks).toNat : Int) = c
        · have hc' : (((s[k]'hks).toNat : Int) == c) = true := by simp [hc]
          clear hc
          go_wp2_with (at_builtin; refine wpList_app StrE 9 Try.infoStr rfl Try.underlying79 w.heap.size _ xs (s.extract fr k) (ho.alloc _) (by decide) hlen (by simp; have := hb.size; omega) rfl _ _ rfl rfl _ 0 1 rfl news_alloc ?_; intro v' w1 ho1 hgr1)
          have hb1 := below_app hb ho hgr1
          go_roundw
          case rel => exact ⟨k + 1, k + 1, xs ++ [s.extract fr k], by go_num, by go_num, by omega, by omega, ho1, hb1, by simp; omega, fun x hx => by
            rcases List.mem_append.1 hx with h | h
            · exact HX.out x h
            · rw [List.mem_singleton.1 h, ByteArray.size_extract]; omega⟩
          case measure => simp [intOf]; omega

        · have hc' : (((s[k]'hks).toNat : Int) == c) = false := by simp [hc]
          clear hc
          go_wp2_with fail
          go_roundw
          case rel => exact ⟨k + 1, fr, xs, by go_num, rfl, by omega, by omega, ho, hb, by omega, HX.out⟩
          case measure => simp [intOf]; omega
    · have hlt' : ¬ (k : Int) ≤ s.size := by omega
      go_wp2_with fail
      go_ret
      exact ⟨_, xs, rfl, ho, hb, by omega, hxs⟩

/-- A variable that holds an instruction: its cells, and that they may be written. -/
structure BoxI (w : World) (g : Nat) (a b c d : Int) : Prop where
  lt : g < w.heap.size
  c0 : w.cell? ⟨g, 0, none⟩ = some (.int .i64 a)
  c1 : w.cell? ⟨g, 1, none⟩ = some (.int .i64 b)
  c2 : w.cell? ⟨g, 2, none⟩ = some (.int .i64 c)
  c3 : w.cell? ⟨g, 3, none⟩ = some (.int .i64 d)
  f : ∀ j, w.frozen? ⟨g, j, none⟩ = false

theorem BoxI.keep {w w' : World} {g : Nat} {a b c d : Int} (h : BoxI w g a b c d) (hb : w'.heap[g]? = w.heap[g]?) (hs : w.heap.size ≤ w'.heap.size) : BoxI w' g a b c d :=
  ⟨Nat.lt_of_lt_of_le h.lt hs, (cell_of_block hb _).trans h.c0, (cell_of_block hb _).trans h.c1, (cell_of_block hb _).trans h.c2, (cell_of_block hb _).trans h.c3, fun j => by
    have := h.f j
    unfold World.frozen? at this ⊢
    rw [hb]; exact this⟩
theorem BoxI.below {w w' : World} {g : Nat} {a b c d : Int} (h : BoxI w g a b c d) {B : Nat} (ho : Below B w w') (hg : g < B) : BoxI w' g a b c d := h.keep (ho.block g hg) ho.size
theorem BoxI.outside {b' : Nat} {w w' : World} {g : Nat} {a b c d : Int} (h : BoxI w g a b c d) (ho : Outside b' (b' + 1) w w') (hg : g ≠ b') : BoxI w' g a b c d := h.keep (ho.block g h.lt (by omega)) ho.size
theorem BoxI.new (w : World) (a b c d : Int) (T : TypeId) : BoxI (w.alloc (.cells #[.int .i64 a, .int .i64 b, .int .i64 c, .int .i64 d] T)) w.heap.size a b c d :=
  ⟨by simp, by simp [go_sem], by simp [go_sem], by simp [go_sem], by simp [go_sem], fun j => by simp [go_sem]⟩

theorem l1Place_c (s : ByteArray) (i f m : Int) (h0 : 0 ≤ i) (hf : 0 ≤ f) (hf2 : f ≤ 255) : ∃ x, placeV s i f m = x ∧ ∀ w, Calls Try.prog 97 #[.string s, .int .i64 i, .int .u8 f, .int .i64 m] w fun e w' => e = .returned (.int .i64 x) ∧ Below w.heap.size w w' :=
  ⟨_, rfl, fun w => l1Place_any s i f m w h0 hf hf2⟩

/-- The instruction that a text is read as. -/
def parseI (s : ByteArray) : Ins :=
  if (s.toList == [102, 101, 110, 99, 101]) = true then ⟨4, 0, 0, 0⟩
  else if placeV s 0 97 2 ≥ 0 ∧ (s.size : Int) = 3 then ⟨1, placeV s 2 120 2, placeV s 0 97 2, 0⟩
  else if placeV s 0 97 2 ≥ 0 ∧ (s.size : Int) = 5 then ⟨5, placeV s 2 120 2, placeV s 0 97 2, placeV s 4 48 3⟩
  else if placeV s 0 120 2 ≥ 0 ∧ placeV s 2 97 2 ≥ 0 then ⟨3, placeV s 0 120 2, placeV s 2 97 2, 0⟩
  else ⟨2, placeV s 0 120 2, 0, placeV s 2 48 3⟩

set_option maxRecDepth 100000 in
set_option maxHeartbeats 1600000 in
theorem l1Parse_any (s : ByteArray) (w : World) : Calls Try.prog 76 #[.string s] w fun e w' => e = .returned (.agg #[.int .i64 (parseI s).op, .int .i64 (parseI s).loc, .int .i64 (parseI s).reg, .int .i64 (parseI s).val]) ∧ Below w.heap.size w w' := by
  by_cases hf : (s.toList == [102, 101, 110, 99, 101]) = true
  · have e : parseI s = ⟨4, 0, 0, 0⟩ := by unfold parseI; rw [if_pos hf]
    rw [e]
    clear e
    go_enter Try.func76, Try.ntmps76
    go_wp2_with fail
    refine bodyPost_ret (v := .agg #[.int .i64 4, .int .i64 0, .int .i64 0, .int .i64 0]) (by simp [results, Try.results76, go_sem, *]) rfl ⟨rfl, ?_⟩
    exact belowAlloc w _
  · obtain ⟨R, eR, CR⟩ := l1Place_c s 0 97 2 (by omega) (by omega) (by omega)
    obtain ⟨L, eL, CL⟩ := l1Place_c s 0 120 2 (by omega) (by omega) (by omega)
    obtain ⟨L2, eL2, CL2⟩ := l1Place_c s 2 120 2 (by omega) (by omega) (by omega)
    obtain ⟨R2, eR2, CR2⟩ := l1Place_c s 2 97 2 (by omega) (by omega) (by omega)
    obtain ⟨V2, eV2, CV2⟩ := l1Place_c s 2 48 3 (by omega) (by omega) (by omega)
    obtain ⟨V4, eV4, CV4⟩ := l1Place_c s 4 48 3 (by omega) (by omega) (by omega)
    have HI : Hid (parseI s = if R ≥ 0 ∧ (s.size : Int) = 3 then ⟨1, L2, R, 0⟩ else if R ≥ 0 ∧ (s.size : Int) = 5 then ⟨5, L2, R, V4⟩ else if L ≥ 0 ∧ R2 ≥ 0 then ⟨3, L, R2, 0⟩ else ⟨2, L, 0, V2⟩) := hide (by
      unfold parseI; rw [if_neg hf, eR, eL, eL2, eR2, eV2, eV4])
    clear eR eL eL2 eR2 eV2 eV4
    have hf' : (s.toList == [102, 101, 110, 99, 101]) = false := by simpa using hf
    clear hf
    have CR := hide CR; have CL := hide CL; have CL2 := hide CL2; have CR2 := hide CR2; have CV2 := hide CV2; have CV4 := hide CV4
    generalize parseI s = I at *
    have BI0 := hide (BoxI.new w 0 0 0 0 69)
    have HB0 := hide (belowAlloc w (.cells #[.int .i64 0, .int .i64 0, .int .i64 0, .int .i64 0] 69))
    go_enter Try.func76, Try.ntmps76
    go_wp2_with fail
    (with_reducible refine (CR.out _).mono ?_); rintro e w1 ⟨rfl, hb1⟩
    have BI1 := hide (BI0.out.below hb1 BI0.out.lt); have HB1 := hide (HB0.out.trans (hb1.mono HB0.out.size))
    clear BI0 HB0 hb1
    go_wp2_with fail
    (with_reducible refine (CL.out _).mono ?_); rintro e w2 ⟨rfl, hb2⟩
    have BI2 := hide (BI1.out.below hb2 BI1.out.lt); have HB2 := hide (HB1.out.trans (hb2.mono HB1.out.size))
    clear BI1 HB1 hb2
    by_cases h1 : R ≥ 0
    · by_cases h2 : (s.size : Int) = 3
      · have h2' : ((s.size : Int) == 3) = true := by simp [h2]
        have HI : Hid (I = ⟨1, L2, R, 0⟩) := hide (by rw [HI.out, if_pos ⟨h1, h2⟩])
        clear h2
        go_wp2_with fail
        (with_reducible refine (CL2.out _).mono ?_); rintro e w3 ⟨rfl, hb3⟩
        have BI3 := hide (BI2.out.below hb3 BI2.out.lt); have HB3 := hide (HB2.out.trans (hb3.mono HB2.out.size))
        clear BI2 HB2 hb3
        obtain ⟨lt3, i0, i1, i2, i3, if'⟩ := BI3.out
        go_wp2_with fail
        refine bodyPost_ret (v := .agg #[.int .i64 1, .int .i64 L2, .int .i64 R, .int .i64 0]) (by simp [results, Try.results76, go_sem, *]) rfl ⟨by rw [HI.out], ?_⟩
        exact ((((HB3.out.setCell (Nat.le_refl _) _).setCell (Nat.le_refl _) _).setCell (Nat.le_refl _) _).setCell (Nat.le_refl _) _)
      · have h2' : ((s.size : Int) == 3) = false := by simp [h2]
        by_cases h3 : (s.size : Int) = 5
        · have h3' : ((s.size : Int) == 5) = true := by simp [h3]
          have HI : Hid (I = ⟨5, L2, R, V4⟩) := hide (by rw [HI.out, if_neg (fun h => h2 h.2), if_pos ⟨h1, h3⟩])
          clear h2 h3
          go_wp2_with fail
          (with_reducible refine (CL2.out _).mono ?_); rintro e w3 ⟨rfl, hb3⟩
          have BI3 := hide (BI2.out.below hb3 BI2.out.lt); have HB3 := hide (HB2.out.trans (hb3.mono HB2.out.size))
          clear BI2 HB2 hb3
          go_wp2_with fail
          (with_reducible refine (CV4.out _).mono ?_); rintro e w4 ⟨rfl, hb4⟩
          have BI4 := hide (BI3.out.below hb4 BI3.out.lt); have HB4 := hide (HB3.out.trans (hb4.mono HB3.out.size))
          clear BI3 HB3 hb4
          obtain ⟨lt4, i0, i1, i2, i3, if'⟩ := BI4.out
          go_wp2_with fail
          refine bodyPost_ret (v := .agg #[.int .i64 5, .int .i64 L2, .int .i64 R, .int .i64 V4]) (by simp [results, Try.results76, go_sem, *]) rfl ⟨by rw [HI.out], ?_⟩
          exact ((((HB4.out.setCell (Nat.le_refl _) _).setCell (Nat.le_refl _) _).setCell (Nat.le_refl _) _).setCell (Nat.le_refl _) _)
        · have h3' : ((s.size : Int) == 5) = false := by simp [h3]
          have HI : Hid (I = if L ≥ 0 ∧ R2 ≥ 0 then ⟨3, L, R2, 0⟩ else ⟨2, L, 0, V2⟩) := hide (by rw [HI.out, if_neg (fun h => h2 h.2), if_neg (fun h => h3 h.2)])
          clear h2 h3
          by_cases h4 : L ≥ 0
          · go_wp2_with fail
            (with_reducible refine (CR2.out _).mono ?_); rintro e w3 ⟨rfl, hb3⟩
            have BI3 := hide (BI2.out.below hb3 BI2.out.lt); have HB3 := hide (HB2.out.trans (hb3.mono HB2.out.size))
            clear BI2 HB2 hb3
            by_cases h5 : R2 ≥ 0
            · have HI : Hid (I = ⟨3, L, R2, 0⟩) := hide (by rw [HI.out, if_pos ⟨h4, h5⟩])
              go_wp2_with fail
              (with_reducible refine (CR2.out _).mono ?_); rintro e w4 ⟨rfl, hb4⟩
              have BI4 := hide (BI3.out.below hb4 BI3.out.lt); have HB4 := hide (HB3.out.trans (hb4.mono HB3.out.size))
              clear BI3 HB3 hb4
              obtain ⟨lt4, i0, i1, i2, i3, if'⟩ := BI4.out
              go_wp2_with fail
              refine bodyPost_ret (v := .agg #[.int .i64 3, .int .i64 L, .int .i64 R2, .int .i64 0]) (by simp [results, Try.results76, go_sem, *]) rfl ⟨by rw [HI.out], ?_⟩
              exact ((((HB4.out.setCell (Nat.le_refl _) _).setCell (Nat.le_refl _) _).setCell (Nat.le_refl _) _).setCell (Nat.le_refl _) _)
            · have h5' : decide (R2 ≥ 0) = false := decide_eq_false h5
              have HI : Hid (I = ⟨2, L, 0, V2⟩) := hide (by rw [HI.out, if_neg (fun h => h5 h.2)])
              clear h5
              go_wp2_with fail
              (with_reducible refine (CV2.out _).mono ?_); rintro e w4 ⟨rfl, hb4⟩
              have BI4 := hide (BI3.out.below hb4 BI3.out.lt); have HB4 := hide (HB3.out.trans (hb4.mono HB3.out.size))
              clear BI3 HB3 hb4
              obtain ⟨lt4, i0, i1, i2, i3, if'⟩ := BI4.out
              go_wp2_with fail
              refine bodyPost_ret (v := .agg #[.int .i64 2, .int .i64 L, .int .i64 0, .int .i64 V2]) (by simp [results, Try.results76, go_sem, *]) rfl ⟨by rw [HI.out], ?_⟩
              exact ((((HB4.out.setCell (Nat.le_refl _) _).setCell (Nat.le_refl _) _).setCell (Nat.le_refl _) _).setCell (Nat.le_refl _) _)
          · have h4' : decide (L ≥ 0) = false := decide_eq_false h4
            have HI : Hid (I = ⟨2, L, 0, V2⟩) := hide (by rw [HI.out, if_neg (fun h => h4 h.1)])
            clear h4
            go_wp2_with fail
            (with_reducible refine (CV2.out _).mono ?_); rintro e w3 ⟨rfl, hb3⟩
            have BI3 := hide (BI2.out.below hb3 BI2.out.lt); have HB3 := hide (HB2.out.trans (hb3.mono HB2.out.size))
            clear BI2 HB2 hb3
            obtain ⟨lt3, i0, i1, i2, i3, if'⟩ := BI3.out
            go_wp2_with fail
            refine bodyPost_ret (v := .agg #[.int .i64 2, .int .i64 L, .int .i64 0, .int .i64 V2]) (by simp [results, Try.results76, go_sem, *]) rfl ⟨by rw [HI.out], ?_⟩
            exact ((((HB3.out.setCell (Nat.le_refl _) _).setCell (Nat.le_refl _) _).setCell (Nat.le_refl _) _).setCell (Nat.le_refl _) _)
    · have h1' : decide (R ≥ 0) = false := decide_eq_false h1
      have HI : Hid (I = if L ≥ 0 ∧ R2 ≥ 0 then ⟨3, L, R2, 0⟩ else ⟨2, L, 0, V2⟩) := hide (by rw [HI.out, if_neg (fun h => h1 h.1), if_neg (fun h => h1 h.1)])
      clear h1
      by_cases h4 : L ≥ 0
      · go_wp2_with fail
        (with_reducible refine (CR2.out _).mono ?_); rintro e w3 ⟨rfl, hb3⟩
        have BI3 := hide (BI2.out.below hb3 BI2.out.lt); have HB3 := hide (HB2.out.trans (hb3.mono HB2.out.size))
        clear BI2 HB2 hb3
        by_cases h5 : R2 ≥ 0
        · have HI : Hid (I = ⟨3, L, R2, 0⟩) := hide (by rw [HI.out, if_pos ⟨h4, h5⟩])
          go_wp2_with fail
          (with_reducible refine (CR2.out _).mono ?_); rintro e w4 ⟨rfl, hb4⟩
          have BI4 := hide (BI3.out.below hb4 BI3.out.lt); have HB4 := hide (HB3.out.trans (hb4.mono HB3.out.size))
          clear BI3 HB3 hb4
          obtain ⟨lt4, i0, i1, i2, i3, if'⟩ := BI4.out
          go_wp2_with fail
          refine bodyPost_ret (v := .agg #[.int .i64 3, .int .i64 L, .int .i64 R2, .int .i64 0]) (by simp [results, Try.results76, go_sem, *]) rfl ⟨by rw [HI.out], ?_⟩
          exact ((((HB4.out.setCell (Nat.le_refl _) _).setCell (Nat.le_refl _) _).setCell (Nat.le_refl _) _).setCell (Nat.le_refl _) _)
        · have h5' : decide (R2 ≥ 0) = false := decide_eq_false h5
          have HI : Hid (I = ⟨2, L, 0, V2⟩) := hide (by rw [HI.out, if_neg (fun h => h5 h.2)])
          clear h5
          go_wp2_with fail
          (with_reducible refine (CV2.out _).mono ?_); rintro e w4 ⟨rfl, hb4⟩
          have BI4 := hide (BI3.out.below hb4 BI3.out.lt); have HB4 := hide (HB3.out.trans (hb4.mono HB3.out.size))
          clear BI3 HB3 hb4
          obtain ⟨lt4, i0, i1, i2, i3, if'⟩ := BI4.out
          go_wp2_with fail
          refine bodyPost_ret (v := .agg #[.int .i64 2, .int .i64 L, .int .i64 0, .int .i64 V2]) (by simp [results, Try.results76, go_sem, *]) rfl ⟨by rw [HI.out], ?_⟩
          exact ((((HB4.out.setCell (Nat.le_refl _) _).setCell (Nat.le_refl _) _).setCell (Nat.le_refl _) _).setCell (Nat.le_refl _) _)
      · have h4' : decide (L ≥ 0) = false := decide_eq_false h4
        have HI : Hid (I = ⟨2, L, 0, V2⟩) := hide (by rw [HI.out, if_neg (fun h => h4 h.1)])
        clear h4
        go_wp2_with fail
        (with_reducible refine (CV2.out _).mono ?_); rintro e w3 ⟨rfl, hb3⟩
        have BI3 := hide (BI2.out.below hb3 BI2.out.lt); have HB3 := hide (HB2.out.trans (hb3.mono HB2.out.size))
        clear BI2 HB2 hb3
        obtain ⟨lt3, i0, i1, i2, i3, if'⟩ := BI3.out
        go_wp2_with fail
        refine bodyPost_ret (v := .agg #[.int .i64 2, .int .i64 L, .int .i64 0, .int .i64 V2]) (by simp [results, Try.results76, go_sem, *]) rfl ⟨by rw [HI.out], ?_⟩
        exact ((((HB3.out.setCell (Nat.le_refl _) _).setCell (Nat.le_refl _) _).setCell (Nat.le_refl _) _).setCell (Nat.le_refl _) _)
end Go.Proofs.Ytpjebgiejkglpaa
