/-
  Conditions that are changed at random. Condition: not too many numbers were taken.
-/
import Derived.Test.YtpnmphfdfadlcaaD3
namespace Go.Proofs.Ytpnmphfdfadlcaa
open Go.RowKit

/-- A variable that holds a condition: its cells, and that they may be written. -/
structure Box (w : World) (g : Nat) (o t q x : Int) (s : Slc) : Prop where
  lt : g < w.heap.size
  c0 : w.cell? ⟨g, 0, none⟩ = some (.int .i64 o)
  c1 : w.cell? ⟨g, 1, none⟩ = some (.int .i64 t)
  c2 : w.cell? ⟨g, 2, none⟩ = some (.int .i64 q)
  c3 : w.cell? ⟨g, 3, none⟩ = some (.int .i64 x)
  c4 : w.cell? ⟨g, 4, none⟩ = some (.slice s.a s.n s.cap)
  f : ∀ j, w.frozen? ⟨g, j, none⟩ = false

theorem Box.keep {w w' : World} {g : Nat} {o t q x : Int} {s : Slc} (h : Box w g o t q x s) (hb : w'.heap[g]? = w.heap[g]?) (hs : w.heap.size ≤ w'.heap.size) : Box w' g o t q x s :=
  ⟨Nat.lt_of_lt_of_le h.lt hs, (cell_of_block hb _).trans h.c0, (cell_of_block hb _).trans h.c1, (cell_of_block hb _).trans h.c2, (cell_of_block hb _).trans h.c3, (cell_of_block hb _).trans h.c4, fun j => by
    have := h.f j
    unfold World.frozen? at this ⊢
    rw [hb]; exact this⟩
theorem Box.outside {b : Nat} {w w' : World} {g : Nat} {o t q x : Int} {s : Slc} (h : Box w g o t q x s) (ho : Outside b (b + 1) w w') (hg : g ≠ b) : Box w' g o t q x s := h.keep (ho.block g h.lt (by omega)) ho.size
theorem Box.below {w w' : World} {g : Nat} {o t q x : Int} {s : Slc} (h : Box w g o t q x s) {B : Nat} (ho : Below B w w') (hg : g < B) : Box w' g o t q x s := h.keep (ho.block g hg) ho.size
theorem Box.other {w : World} {g g' : Nat} {o t q x : Int} {s : Slc} (h : Box w g o t q x s) (hg : g' ≠ g) (j : Nat) (v : Value) : Box (w.setCell ⟨g', j, none⟩ v) g o t q x s := h.keep (heap_setCell_other w ⟨g', j, none⟩ g v (fun e => hg (by simpa using e.symm))) (by simp)
theorem Box.alloc {w : World} {g : Nat} {o t q x : Int} {s : Slc} (h : Box w g o t q x s) (ob : Obj) : Box (w.alloc ob) g o t q x s := h.below (belowAlloc w ob) h.lt
theorem Box.new (w : World) (o t q x : Int) (a : Option Addr) (n c : Nat) (T : TypeId) : Box (w.alloc (.cells #[.int .i64 o, .int .i64 t, .int .i64 q, .int .i64 x, .slice a n c] T)) w.heap.size o t q x ⟨a, n, c⟩ :=
  ⟨by simp, by simp [go_sem], by simp [go_sem], by simp [go_sem], by simp [go_sem], by simp [go_sem], fun j => by simp [go_sem]⟩
theorem Box.set0 {w : World} {g : Nat} {o t q x : Int} {s : Slc} (h : Box w g o t q x s) (o' : Int) : Box (w.setCell ⟨g, 0, none⟩ (.int .i64 o')) g o' t q x s := by
  have c0 := h.c0; have c1 := h.c1; have c2 := h.c2; have c3 := h.c3; have c4 := h.c4; have f := h.f
  exact ⟨by simpa using h.lt, by simp [go_sem, c0], by simp [go_sem, c1], by simp [go_sem, c2], by simp [go_sem, c3], by simp [go_sem, c4], fun j => by simp [go_sem, f]⟩
theorem Box.set1 {w : World} {g : Nat} {o t q x : Int} {s : Slc} (h : Box w g o t q x s) (t' : Int) : Box (w.setCell ⟨g, 1, none⟩ (.int .i64 t')) g o t' q x s := by
  have c0 := h.c0; have c1 := h.c1; have c2 := h.c2; have c3 := h.c3; have c4 := h.c4; have f := h.f
  exact ⟨by simpa using h.lt, by simp [go_sem, c0], by simp [go_sem, c1], by simp [go_sem, c2], by simp [go_sem, c3], by simp [go_sem, c4], fun j => by simp [go_sem, f]⟩
theorem Box.set2 {w : World} {g : Nat} {o t q x : Int} {s : Slc} (h : Box w g o t q x s) (q' : Int) : Box (w.setCell ⟨g, 2, none⟩ (.int .i64 q')) g o t q' x s := by
  have c0 := h.c0; have c1 := h.c1; have c2 := h.c2; have c3 := h.c3; have c4 := h.c4; have f := h.f
  exact ⟨by simpa using h.lt, by simp [go_sem, c0], by simp [go_sem, c1], by simp [go_sem, c2], by simp [go_sem, c3], by simp [go_sem, c4], fun j => by simp [go_sem, f]⟩
theorem Box.set3 {w : World} {g : Nat} {o t q x : Int} {s : Slc} (h : Box w g o t q x s) (x' : Int) : Box (w.setCell ⟨g, 3, none⟩ (.int .i64 x')) g o t q x' s := by
  have c0 := h.c0; have c1 := h.c1; have c2 := h.c2; have c3 := h.c3; have c4 := h.c4; have f := h.f
  exact ⟨by simpa using h.lt, by simp [go_sem, c0], by simp [go_sem, c1], by simp [go_sem, c2], by simp [go_sem, c3], by simp [go_sem, c4], fun j => by simp [go_sem, f]⟩
theorem Box.set4 {w : World} {g : Nat} {o t q x : Int} {s : Slc} (h : Box w g o t q x s) (s' : Slc) : Box (w.setCell ⟨g, 4, none⟩ (.slice s'.a s'.n s'.cap)) g o t q x s' := by
  have c0 := h.c0; have c1 := h.c1; have c2 := h.c2; have c3 := h.c3; have c4 := h.c4; have f := h.f
  exact ⟨by simpa using h.lt, by simp [go_sem, c0], by simp [go_sem, c1], by simp [go_sem, c2], by simp [go_sem, c3], by simp [go_sem, c4], fun j => by simp [go_sem, f]⟩

/-- What is read lies in blocks that are there. -/
theorem RepX.old {ok : Nat → Prop} {w : World} {u : Cs} {c : Cd} (h : RepX ok w u c) : RepX (fun q => ok q ∧ q < w.heap.size) w u c := by
  induction h with
  | mk h1 h2 h3 h4 ih =>
    refine .mk h1 h2 ?_ ih
    rename_i us ks
    cases us with
    | nil => exact .inl rfl
    | cons u us =>
      refine .inr fun b o e => ⟨?_, ?_⟩
      · rcases h3 with h3 | h3
        · cases h3
        · exact h3 b o e
      · obtain ⟨a', c', hv, -, -, h⟩ := h2
        obtain ⟨b', o', rfl, hi⟩ := h 0 u rfl
        simp only [Slc.v, Value.slice.injEq] at hv
        rw [hv.1] at e
        simp only [Option.some.injEq, Addr.mk.injEq, and_true] at e
        rw [← e.1]
        exact lt_of_cell (hi 0 _ rfl)

/-- A copy of a slice of conditions. -/
theorem Foot.copy {ok : Nat → Prop} {w w1 : World} {us : List Cs} {ks : List Cd} {T : TypeId} {base : Nat} {v : Value} (hl : us.length = ks.length) (hx : ∀ (i : Nat) (u : Cs) (k : Cd), us[i]? = some u → ks[i]? = some k → RepX ok w u k)
    (hk : ∀ q, ok q → q < w.heap.size → w1.heap[q]? = w.heap[q]?) (ho : Own CsE T w1 base v us) (hb : ∀ q, base ≤ q → ok q) : ∃ s1 : Slc, v = .slice s1.a s1.n s1.cap ∧ Foot ok w1 s1 ks := by
  rcases ho.shape with ⟨rfl, rfl⟩ | ⟨g, cap, rfl, h1, h2, h3, h4⟩
  · obtain rfl : ks = [] := List.eq_nil_of_length_eq_zero hl.symm
    exact ⟨⟨none, 0, 0⟩, rfl, Foot.nil _ _⟩
  · exact ⟨⟨some ⟨g, 0, none⟩, us.length, cap⟩, rfl, us, hl, ho.rep, .inr fun b o e => by simp at e; rw [← e.1]; exact hb g h1, fun i u k hu hkk => (hx i u k hu hkk).step hk⟩

set_option maxRecDepth 100000 in
set_option maxHeartbeats 6400000 in
theorem l11Mutate_any (b : Nat) (a : Option Addr) (c : Nat) (xs : List Int) (p : Int) (o t q x : Int) (a1 : Option Addr) (n1 c1 : Nat) (ks : List Cd) (K : Int) (w : World) (hr : Rd w b a c xs p) (hp : p ≤ 700000000) (lo : Nat) (hblo : b < lo) (hlow : lo ≤ w.heap.size) (hf : Foot (fun q => lo ≤ q) w ⟨a1, n1, c1⟩ ks) (hd : (descs ks : Int) + 2 ≤ K) (hK : K ≤ 100000) :
    Calls Try.prog 148 #[.pointer (some ⟨b, 0, none⟩), .agg #[.int .i64 o, .int .i64 t, .int .i64 q, .int .i64 x, .slice a1 n1 c1]] w (RetRd w b a c xs p 5 (QF lo (K + 20))) := by
  have hlt := hr.lt
  obtain ⟨us, hl, hrep, -, hx⟩ := hf
  have hn1 : n1 = us.length := by
    obtain ⟨a', c', hv, -⟩ := hrep
    simp only [Slc.v, Value.slice.injEq] at hv
    exact hv.2.1
  have hbW : Below w.heap.size w ((((w.alloc (.cells #[.int .i64 o, .int .i64 t, .int .i64 q, .int .i64 x, .slice a1 n1 c1] 25)).alloc (.cells #[.int .i64 0, .int .i64 0, .int .i64 0, .int .i64 0, .slice none 0 0] 25)).alloc (.cells #[.int .i64 o, .int .i64 t, .int .i64 q, .int .i64 x, .slice a1 n1 c1] 25)).alloc (.cells #[] 25)) := (((((Below.refl _ _).alloc (Nat.le_refl _) _).alloc (by simp) _).alloc (by simp; omega) _).alloc (by simp; omega) _)
  have HREP := hide (hrep.below hbW)
  have hown : Own CsE 25 ((((w.alloc (.cells #[.int .i64 o, .int .i64 t, .int .i64 q, .int .i64 x, .slice a1 n1 c1] 25)).alloc (.cells #[.int .i64 0, .int .i64 0, .int .i64 0, .int .i64 0, .slice none 0 0] 25)).alloc (.cells #[.int .i64 o, .int .i64 t, .int .i64 q, .int .i64 x, .slice a1 n1 c1] 25)).alloc (.cells #[] 25)) (w.heap.size + 1 + 1 + 1) (.slice (some ⟨w.heap.size + 1 + 1 + 1, 0, none⟩) 0 0) [] := by
    have h := Own.empty (E := CsE) 25 (((w.alloc (.cells #[.int .i64 o, .int .i64 t, .int .i64 q, .int .i64 x, .slice a1 n1 c1] 25)).alloc (.cells #[.int .i64 0, .int .i64 0, .int .i64 0, .int .i64 0, .slice none 0 0] 25)).alloc (.cells #[.int .i64 o, .int .i64 t, .int .i64 q, .int .i64 x, .slice a1 n1 c1] 25)) (Nat.le_refl _)
    simpa using h
  have hul : ([] : List Cs).length + us.length ≤ 68719476736 := by
    have h1 := length_le_descs ks
    simp; omega
  have HU := hide hul; have HOWN := hide hown
  have HR4 := hide ((((hr.allocNew (.cells #[.int .i64 o, .int .i64 t, .int .i64 q, .int .i64 x, .slice a1 n1 c1] 25)).allocNew (.cells #[.int .i64 0, .int .i64 0, .int .i64 0, .int .i64 0, .slice none 0 0] 25)).allocNew (.cells #[.int .i64 o, .int .i64 t, .int .i64 q, .int .i64 x, .slice a1 n1 c1] 25)).allocNew (.cells #[] 25))
  have B5 := hide ((Box.new ((w.alloc (.cells #[.int .i64 o, .int .i64 t, .int .i64 q, .int .i64 x, .slice a1 n1 c1] 25)).alloc (.cells #[.int .i64 0, .int .i64 0, .int .i64 0, .int .i64 0, .slice none 0 0] 25)) o t q x a1 n1 c1 25).alloc (.cells #[] 25))
  have B4 := hide (((Box.new (w.alloc (.cells #[.int .i64 o, .int .i64 t, .int .i64 q, .int .i64 x, .slice a1 n1 c1] 25)) 0 0 0 0 none 0 0 25).alloc (.cells #[.int .i64 o, .int .i64 t, .int .i64 q, .int .i64 x, .slice a1 n1 c1] 25)).alloc (.cells #[] 25))
  have HX := hide hx; have HL := hide hl; have HBW := hide hbW
  have hsz4 : (((((w.alloc (.cells #[.int .i64 o, .int .i64 t, .int .i64 q, .int .i64 x, .slice a1 n1 c1] 25)).alloc (.cells #[.int .i64 0, .int .i64 0, .int .i64 0, .int .i64 0, .slice none 0 0] 25)).alloc (.cells #[.int .i64 o, .int .i64 t, .int .i64 q, .int .i64 x, .slice a1 n1 c1] 25)).alloc (.cells #[] 25))).heap.size = w.heap.size + 1 + 1 + 1 + 1 := by simp
  have HSZ4 := hide hsz4
  clear hul hown hbW hr hx hl hrep hn1 hsz4
  go_enter Try.func148, Try.ntmps148
  have HOK := hide (fun (q : Nat) (h : w.heap.size + 1 + 1 + 1 ≤ q) => (show (lo ≤ q ∧ q ≠ w.heap.size + 1 ∧ q ≠ w.heap.size + 1 + 1) from by omega))
  have HXX := hide (fun (i : Nat) (u : Cs) (k : Cd) (h1 : us[i]? = some u) (h2 : ks[i]? = some k) => (HX.out i u k h1 h2).old.weak (ok' := fun q => lo ≤ q ∧ q ≠ w.heap.size + 1 ∧ q ≠ w.heap.size + 1 + 1) (fun q hq => by have h3 := hq.1; have h4 := hq.2; omega))
  clear HX
  go_wp2_with (at_builtin; refine wpList_appS CsE 25 Try.infoCond rfl Try.underlying23 (w.heap.size + 1 + 1 + 1) _ [] us (.slice a1 n1 c1) HOWN.out HREP.out (by decide) HU.out (by simp) rfl _ _ rfl rfl rfl ?_; intro v1 w1 hown1 hgr1; have hb1 := (Below.refl (w.heap.size + 1 + 1 + 1) ((((w.alloc (.cells #[.int .i64 o, .int .i64 t, .int .i64 q, .int .i64 x, .slice a1 n1 c1] 25)).alloc (.cells #[.int .i64 0, .int .i64 0, .int .i64 0, .int .i64 0, .slice none 0 0] 25)).alloc (.cells #[.int .i64 o, .int .i64 t, .int .i64 q, .int .i64 x, .slice a1 n1 c1] 25)).alloc (.cells #[] 25))).grown hgr1 (by simp) (fun k hk => by simp [Value.ownBlock] at hk; omega); obtain ⟨s1, rfl, hF1⟩ := Foot.copy HL.out HXX.out (fun q hq hqs => (hb1.block q (by omega)).trans (HBW.out.block q hqs)) hown1 HOK.out; have hB5 := hide (B5.out.below hb1 (by simp)); have hB4 := hide (B4.out.below hb1 (by simp)); have HF1 := hide hF1; have HB1 := hide hb1; clear hF1 hown1 hgr1 hb1; have e0 := hB5.out.c4; have e1 := hB5.out.f; have e2 := hB5.out.lt; simp at e0 e1 e2)
  have hb5 : Box w1 (w.heap.size + 1 + 1) o t q x ⟨a1, n1, c1⟩ := by have h := hB5.out; simpa using h
  have hb4 : Box w1 (w.heap.size + 1) 0 0 0 0 ⟨none, 0, 0⟩ := by have h := hB4.out; simpa using h
  have F0 := hide (HF1.out.set (g := w.heap.size + 1 + 1) (by simp) 4 (.slice s1.a s1.n s1.cap))
  have BA0 := hide (hb5.set4 s1)
  have BB0 := hide (hb4.other (g' := w.heap.size + 1 + 1) (by omega) 4 (.slice s1.a s1.n s1.cap))
  have R0 := hide ((HR4.out.keep HB1.out (by omega)).setNew (g := w.heap.size + 1 + 1) (by omega) 4 (.slice s1.a s1.n s1.cap))
  have O0 := hide ((Outside.of_below (lo := b) (hi := b + 1) (HBW.out.trans (HB1.out.mono (by omega)))).setNew (g := w.heap.size + 1 + 1) (by omega) 4 (.slice s1.a s1.n s1.cap))
  have HPK := hide (fun p' w' h hp => pick_any b a c xs p' 24 w' h hp (by omega) (by omega))
  have N5 := hide (fun p' w' G hG hb h hp => numLit5 b a c xs p' 0 6 1 2 3 w' G hG hb h hp)
  have N3a := hide (fun p' w' G hG hb h hp => numLit3 b a c xs p' 4 (-1) 1 w' G hG hb h hp)
  have N3b := hide (fun p' w' G hG hb h hp => numLit3 b a c xs p' 3 (-1) 1 w' G hG hb h hp)
  generalize w1.setCell ⟨w.heap.size + 1 + 1, 4, none⟩ (.slice s1.a s1.n s1.cap) = V0 at *
  clear hb5 hb4 hB5 hB4 HF1 HB1 HBW HR4 B5 B4 HREP HOWN HXX HOK HL HU HSZ4 e0 e1 e2
  (with_reducible refine (HPK.out p _ R0.out (by omega)).mono ?_); rintro e w2 ⟨v2, p2, rfl, ⟨k0, rfl, hk0, hk1⟩, hp2, hr2, ho2⟩
  have R1 := hide hr2
  have F1 := hide (F0.out.outside ho2 (by simp; omega))
  have BA1 := hide (BA0.out.outside ho2 (by omega))
  have BB1 := hide (BB0.out.outside ho2 (by omega))
  have O1 := hide (O0.out.trans ho2)
  clear hr2 ho2 R0 F0 BA0 BB0 O0 hk1
  by_cases z0 : k0 = 0
  · obtain rfl : k0 = 0 := z0
    have hsz1 : w.heap.size < w2.heap.size := by have := BA1.out.lt; omega
    obtain ⟨lm, m0, m1, m2, m3, m4, mf⟩ := BA1.out
    go_wp2_with fail
    clear lm m0 m1 m2 m3 m4 mf
    (with_reducible refine (N5.out p2 w2 _ rfl (by omega) (R1.out.allocNew _) (by omega)).mono ?_); rintro e w3 ⟨v3, p3, rfl, ⟨y, hy, rfl⟩, hp3, hr3, ho3⟩
    have hoo := (Outside.of_below (lo := b) (hi := b + 1) (belowAlloc w2 (.cells #[.int .i64 0, .int .i64 6, .int .i64 1, .int .i64 2, .int .i64 3] 3))).trans ho3
    have R2 := hide (hr3.setNew (g := w.heap.size + 1 + 1) (by omega) 0 (.int .i64 y))
    have F2 := hide ((F1.out.outside hoo (by simp; omega)).set (g := w.heap.size + 1 + 1) (by simp) 0 (.int .i64 y))
    have BA2o := hide (BA1.out.outside hoo (by omega))
    have BB2o := hide (BB1.out.outside hoo (by omega))
    have O2 := hide ((O1.out.trans hoo).setNew (g := w.heap.size + 1 + 1) (by omega) 0 (.int .i64 y))
    clear hr3 ho3 hoo R1 F1 BA1 BB1 O1 hy
    obtain ⟨lm, m0, m1, m2, m3, m4, mf⟩ := BA2o.out
    obtain ⟨ln, n0, n1, n2, n3, n4, nf⟩ := BB2o.out
    go_wp2_with fail
    refine bodyPost_ret (v := .agg #[.int .i64 y, .int .i64 t, .int .i64 q, .int .i64 x, .slice s1.a s1.n s1.cap]) (by simp [results, Try.results148, go_sem, *]) rfl ⟨_, p3, rfl, ⟨y, t, q, x, s1, ks, rfl, (((((F2.out.set (by simp) _ _).set (by simp) _ _).set (by simp) _ _).set (by simp) _ _).set (by simp) _ _).weak (fun q h => h.1), by omega⟩, by omega, (((((R2.out.setNew (by omega) _ _).setNew (by omega) _ _).setNew (by omega) _ _).setNew (by omega) _ _).setNew (by omega) _ _), (((((O2.out.setNew (by omega) _ _).setNew (by omega) _ _).setNew (by omega) _ _).setNew (by omega) _ _).setNew (by omega) _ _)⟩
  have y0 : (k0 == 0) = false := by simp [z0]
  by_cases z1 : k0 = 1
  · obtain rfl : k0 = 1 := z1
    have hsz1 : w.heap.size < w2.heap.size := by have := BA1.out.lt; omega
    obtain ⟨lm, m0, m1, m2, m3, m4, mf⟩ := BA1.out
    go_wp2_with fail
    clear lm m0 m1 m2 m3 m4 mf
    (with_reducible refine (N3a.out p2 w2 _ rfl (by omega) (R1.out.allocNew _) (by omega)).mono ?_); rintro e w3 ⟨v3, p3, rfl, ⟨y, hy, rfl⟩, hp3, hr3, ho3⟩
    have hoo := (Outside.of_below (lo := b) (hi := b + 1) (belowAlloc w2 (.cells #[.int .i64 4, .int .i64 (-1), .int .i64 1] 3))).trans ho3
    have R2 := hide (hr3.setNew (g := w.heap.size + 1 + 1) (by omega) 3 (.int .i64 y))
    have F2 := hide ((F1.out.outside hoo (by simp; omega)).set (g := w.heap.size + 1 + 1) (by simp) 3 (.int .i64 y))
    have BA2o := hide (BA1.out.outside hoo (by omega))
    have BB2o := hide (BB1.out.outside hoo (by omega))
    have O2 := hide ((O1.out.trans hoo).setNew (g := w.heap.size + 1 + 1) (by omega) 3 (.int .i64 y))
    clear hr3 ho3 hoo R1 F1 BA1 BB1 O1 hy
    obtain ⟨lm, m0, m1, m2, m3, m4, mf⟩ := BA2o.out
    obtain ⟨ln, n0, n1, n2, n3, n4, nf⟩ := BB2o.out
    go_wp2_with fail
    refine bodyPost_ret (v := .agg #[.int .i64 o, .int .i64 t, .int .i64 q, .int .i64 y, .slice s1.a s1.n s1.cap]) (by simp [results, Try.results148, go_sem, *]) rfl ⟨_, p3, rfl, ⟨o, t, q, y, s1, ks, rfl, (((((F2.out.set (by simp) _ _).set (by simp) _ _).set (by simp) _ _).set (by simp) _ _).set (by simp) _ _).weak (fun q h => h.1), by omega⟩, by omega, (((((R2.out.setNew (by omega) _ _).setNew (by omega) _ _).setNew (by omega) _ _).setNew (by omega) _ _).setNew (by omega) _ _), (((((O2.out.setNew (by omega) _ _).setNew (by omega) _ _).setNew (by omega) _ _).setNew (by omega) _ _).setNew (by omega) _ _)⟩
  have y1 : (k0 == 1) = false := by simp [z1]
  by_cases z2 : k0 = 2
  · obtain rfl : k0 = 2 := z2
    have hsz1 : w.heap.size < w2.heap.size := by have := BA1.out.lt; omega
    obtain ⟨lm, m0, m1, m2, m3, m4, mf⟩ := BA1.out
    go_wp2_with fail
    clear lm m0 m1 m2 m3 m4 mf
    (with_reducible refine (N3b.out p2 w2 _ rfl (by omega) (R1.out.allocNew _) (by omega)).mono ?_); rintro e w3 ⟨v3, p3, rfl, ⟨y, hy, rfl⟩, hp3, hr3, ho3⟩
    have hoo := (Outside.of_below (lo := b) (hi := b + 1) (belowAlloc w2 (.cells #[.int .i64 3, .int .i64 (-1), .int .i64 1] 3))).trans ho3
    have R2 := hide (hr3.setNew (g := w.heap.size + 1 + 1) (by omega) 1 (.int .i64 y))
    have F2 := hide ((F1.out.outside hoo (by simp; omega)).set (g := w.heap.size + 1 + 1) (by simp) 1 (.int .i64 y))
    have BA2o := hide (BA1.out.outside hoo (by omega))
    have BB2o := hide (BB1.out.outside hoo (by omega))
    have O2 := hide ((O1.out.trans hoo).setNew (g := w.heap.size + 1 + 1) (by omega) 1 (.int .i64 y))
    clear hr3 ho3 hoo R1 F1 BA1 BB1 O1 hy
    obtain ⟨lm, m0, m1, m2, m3, m4, mf⟩ := BA2o.out
    obtain ⟨ln, n0, n1, n2, n3, n4, nf⟩ := BB2o.out
    go_wp2_with fail
    refine bodyPost_ret (v := .agg #[.int .i64 o, .int .i64 y, .int .i64 q, .int .i64 x, .slice s1.a s1.n s1.cap]) (by simp [results, Try.results148, go_sem, *]) rfl ⟨_, p3, rfl, ⟨o, y, q, x, s1, ks, rfl, (((((F2.out.set (by simp) _ _).set (by simp) _ _).set (by simp) _ _).set (by simp) _ _).set (by simp) _ _).weak (fun q h => h.1), by omega⟩, by omega, (((((R2.out.setNew (by omega) _ _).setNew (by omega) _ _).setNew (by omega) _ _).setNew (by omega) _ _).setNew (by omega) _ _), (((((O2.out.setNew (by omega) _ _).setNew (by omega) _ _).setNew (by omega) _ _).setNew (by omega) _ _).setNew (by omega) _ _)⟩
  have y2 : (k0 == 2) = false := by simp [z2]
  by_cases z3 : k0 = 3
  · obtain rfl : k0 = 3 := z3
    clear N5 N3a N3b HPK
    go_wp2_with fail
    go_loopw [6] (fun i wr => ∃ (k : Nat) (o1 t1 q1 x1 : Int) (s2 : Slc) (kk : List Cd), k ≤ 10 ∧ i = .int .i64 k ∧ Hid (Box wr (w.heap.size + 1 + 1) o1 t1 q1 x1 s2) ∧ Hid (Box wr (w.heap.size + 1) 0 0 0 0 ⟨none, 0, 0⟩) ∧ Hid (Foot (fun q => lo ≤ q ∧ q ≠ w.heap.size + 1 ∧ q ≠ w.heap.size + 1 + 1) wr s2 kk) ∧ Hid ((descs kk : Int) + 2 ≤ K + k) ∧ Hid (Rd wr b a c xs p2) ∧ Hid (Outside b (b + 1) w wr)) (fun i _ => 10 - (intOf i).toNat)
    case atStart => exact ⟨0, o, t, q, x, s1, ks, by omega, rfl, BA1, BB1, F1, hide (by omega), R1, O1⟩
    case round =>
      obtain ⟨k, o1, t1, q1, x1, s2, kk, hk, rfl, BA, BB, FF, DD, RR, OO⟩ := hrel
      have hsz1 : w.heap.size + 1 + 1 < wr.heap.size := BA.out.lt
      by_cases hlt : k < 10
      · have hlt' : (k : Int) < 10 := by omega
        obtain ⟨lm, m0, m1, m2, m3, m4, mf⟩ := BA.out
        go_wp2_with fail
        clear lm m0 m1 m2 m3 m4 mf
        go_roundw
        case rel =>
          refine ⟨k + 1, 5, 0, 0, 0, ⟨some ⟨wr.heap.size, 0, none⟩, 1, 1⟩, [.mk o1 t1 q1 x1 kk], by omega, by go_num, hide ((((((BA.out.set0 5).set1 0).set2 0).set3 0).set4 ⟨some ⟨wr.heap.size, 0, none⟩, 1, 1⟩).alloc _), hide ((((((BB.out.other (by omega) _ _).other (by omega) _ _).other (by omega) _ _).other (by omega) _ _).other (by omega) _ _).alloc _), hide ?_, hide (by rw [descs_one]; simp only [Cd.kids]; have := DD.out; omega), hide ((((((RR.out.setNew (by omega) _ _).setNew (by omega) _ _).setNew (by omega) _ _).setNew (by omega) _ _).setNew (by omega) _ _).allocNew _), hide ((((((OO.out.setNew (by omega) _ _).setNew (by omega) _ _).setNew (by omega) _ _).setNew (by omega) _ _).setNew (by omega) _ _).allocNew _)⟩
          have h := Foot.one (o := o1) (t := t1) (q := q1) (x := x1) (((((FF.out.set (g := w.heap.size + 1 + 1) (by simp) 0 (.int .i64 5)).set (g := w.heap.size + 1 + 1) (by simp) 1 (.int .i64 0)).set (g := w.heap.size + 1 + 1) (by simp) 2 (.int .i64 0)).set (g := w.heap.size + 1 + 1) (by simp) 3 (.int .i64 0)).set (g := w.heap.size + 1 + 1) (by simp) 4 (.slice (some ⟨wr.heap.size, 0, none⟩) 1 1)) (by simp; omega) 25
          simpa using h
        case measure => simp [intOf]; omega
      · have e : k = 10 := by omega
        have DD2 := DD.out
        obtain ⟨lm, m0, m1, m2, m3, m4, mf⟩ := BA.out
        obtain ⟨ln, n0, n1, n2, n3, n4, nf⟩ := BB.out
        go_wp2_with fail
        refine bodyPost_ret (v := .agg #[.int .i64 o1, .int .i64 t1, .int .i64 q1, .int .i64 x1, .slice s2.a s2.n s2.cap]) (by simp [results, Try.results148, go_sem, *]) rfl ⟨_, p2, rfl, ⟨o1, t1, q1, x1, s2, kk, rfl, (((((FF.out.set (by simp) _ _).set (by simp) _ _).set (by simp) _ _).set (by simp) _ _).set (by simp) _ _).weak (fun q h => h.1), by omega⟩, by omega, (((((RR.out.setNew (by omega) _ _).setNew (by omega) _ _).setNew (by omega) _ _).setNew (by omega) _ _).setNew (by omega) _ _), (((((OO.out.setNew (by omega) _ _).setNew (by omega) _ _).setNew (by omega) _ _).setNew (by omega) _ _).setNew (by omega) _ _)⟩
  have y3 : (k0 == 3) = false := by simp [z3]
  clear z0 z1 z2 z3
  obtain ⟨lm, m0, m1, m2, m3, m4, mf⟩ := BA1.out
  obtain ⟨ln, n0, n1, n2, n3, n4, nf⟩ := BB1.out
  go_wp2_with fail
  refine bodyPost_ret (v := .agg #[.int .i64 o, .int .i64 t, .int .i64 q, .int .i64 x, .slice s1.a s1.n s1.cap]) (by simp [results, Try.results148, go_sem, *]) rfl ⟨_, p2, rfl, ⟨o, t, q, x, s1, ks, rfl, (((((F1.out.set (by simp) _ _).set (by simp) _ _).set (by simp) _ _).set (by simp) _ _).set (by simp) _ _).weak (fun q h => h.1), by omega⟩, by omega, (((((R1.out.setNew (by omega) _ _).setNew (by omega) _ _).setNew (by omega) _ _).setNew (by omega) _ _).setNew (by omega) _ _), (((((O1.out.setNew (by omega) _ _).setNew (by omega) _ _).setNew (by omega) _ _).setNew (by omega) _ _).setNew (by omega) _ _)⟩

end Go.Proofs.Ytpnmphfdfadlcaa