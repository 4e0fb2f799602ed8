/-
  The reference's first state. Condition: bounds on lengths.
-/
import Derived.Test.YtpjebgiejkglpaaZh12
import Derived.Test.YtpjebgiejkglpaaZh02
import Derived.Deep.RegionHeld3
import Derived.Deep.DeepCutAuto
import Derived.Deep.RegionLaw
import Derived.Test.YtpjebgiejkglpaaZh08
namespace Go.Proofs.Ytpjebgiejkglpaa
open Go.RowKit

def laneA (fa ff : Bool) (A : Nat) (f : Slc) : Slc := if ff = true then f else if fa = true then ⟨some ⟨A, 0, none⟩, 0, 0⟩ else ⟨none, 0, 0⟩
def laneL (ff : Bool) (l : List Int) : List Int := if ff = true then l else []
theorem laneA_no (A : Nat) (f : Slc) : laneA false false A f = ⟨none, 0, 0⟩ := rfl
/-- While a state's literal is laid, in whatever order. -/
structure JCp (A0 : World) (pc rg mm : List Int) (a1 f1 a2 f2 a3 f3 fo : Bool) (A B C : Nat) (f g h : Slc) (O : Nat) (W : World) : Prop where
  out : Below A0.heap.size A0 W
  ln : Lanes W A0.heap.size (laneA a1 f1 A f) (laneA a2 f2 B g) (laneA a3 f3 C h) (laneL f1 pc) (laneL f2 rg) (laneL f3 mm)
  i1 : f1 = true → a1 = true
  i2 : f2 = true → a2 = true
  i3 : f3 = true → a3 = true
  ob : fo = true → W.heap[O]? = some (.cells #[.slice none 0 0, .slice none 0 0, .slice none 0 0, .slice none 0 0] 84 (0, 0)) ∧ A0.heap.size ≤ O
section
variable {A0 W w' : World} {pc rg mm : List Int} {a1 f1 a2 f2 a3 f3 fo : Bool} {A B C O : Nat} {f g h s' : Slc}
theorem JCp.start (hb : Below A0.heap.size A0 W) : JCp A0 pc rg mm false false false false false false false A B C f g h O W := ⟨hb, Lanes.nil _ _, fun e => (nomatch e), fun e => (nomatch e), fun e => (nomatch e), fun e => (nomatch e)⟩
theorem JCp.obB (hJ : JCp A0 pc rg mm a1 f1 a2 f2 a3 f3 fo A B C f g h O W) (hb : Below W.heap.size W w') : fo = true → w'.heap[O]? = some (.cells #[.slice none 0 0, .slice none 0 0, .slice none 0 0, .slice none 0 0] 84 (0, 0)) ∧ A0.heap.size ≤ O := fun e =>
  ⟨(hb.block O (Array.getElem?_eq_some_iff.1 (hJ.ob e).1).1).trans (hJ.ob e).1, (hJ.ob e).2⟩
theorem JCp.obG (hJ : JCp A0 pc rg mm a1 f1 a2 f2 a3 f3 fo A B C f g h O W) {c : Slc} {l : List Int} {base : Nat} (ho : Own IntE 3 W base c.v l) (hg : W.grownBy w' c.v.ownBlock) : fo = true → w'.heap[O]? = some (.cells #[.slice none 0 0, .slice none 0 0, .slice none 0 0, .slice none 0 0] 84 (0, 0)) ∧ A0.heap.size ≤ O := fun e => by
  have h1 := (hJ.ob e).1
  refine ⟨(hg.block O (Array.getElem?_eq_some_iff.1 h1).1 fun q => ?_).trans h1, (hJ.ob e).2⟩
  obtain ⟨a, ha⟩ := ho.typeT q.symm
  rw [h1] at ha
  simp at ha
theorem JCp.outG (hJ : JCp A0 pc rg mm a1 f1 a2 f2 a3 f3 fo A B C f g h O W) {c : Slc} {l : List Int} (ho : Own IntE 3 W A0.heap.size c.v l) (hg : W.grownBy w' c.v.ownBlock) : Below A0.heap.size A0 w' :=
  hJ.out.grown hg hJ.out.size fun q hq => (World.ownsRow.lt ho q hq).1
theorem JCp.lit1 (hJ : JCp A0 pc rg mm false f1 a2 f2 a3 f3 fo A B C f g h O W) (hB : A0.heap.size ≤ W.heap.size) : JCp A0 pc rg mm true f1 a2 f2 a3 f3 fo W.heap.size B C f g h O (W.alloc (.cells #[] 3)) := by
  have hb := (Below.refl W.heap.size W).alloc (Nat.le_refl _) (.cells #[] 3)
  cases hf : f1 with
  | true => exact (nomatch hJ.i1 hf)
  | false =>
    subst hf
    exact ⟨hJ.out.alloc hB _, hJ.ln.put1 (c1' := ⟨some ⟨W.heap.size, 0, none⟩, 0, 0⟩) (Own.empty _ _ hB) (grown_of_below hb _) (.inr fun q hq => by simp [Value.ownBlock] at hq; omega), fun e => (nomatch e), hJ.i2, hJ.i3, hJ.obB hb⟩
theorem JCp.lit2 (hJ : JCp A0 pc rg mm a1 f1 false f2 a3 f3 fo A B C f g h O W) (hB : A0.heap.size ≤ W.heap.size) : JCp A0 pc rg mm a1 f1 true f2 a3 f3 fo A W.heap.size C f g h O (W.alloc (.cells #[] 3)) := by
  have hb := (Below.refl W.heap.size W).alloc (Nat.le_refl _) (.cells #[] 3)
  cases hf : f2 with
  | true => exact (nomatch hJ.i2 hf)
  | false =>
    subst hf
    exact ⟨hJ.out.alloc hB _, hJ.ln.put2 (c2' := ⟨some ⟨W.heap.size, 0, none⟩, 0, 0⟩) (Own.empty _ _ hB) (grown_of_below hb _) (.inr fun q hq => by simp [Value.ownBlock] at hq; omega), hJ.i1, fun e => (nomatch e), hJ.i3, hJ.obB hb⟩
theorem JCp.lit3 (hJ : JCp A0 pc rg mm a1 f1 a2 f2 false f3 fo A B C f g h O W) (hB : A0.heap.size ≤ W.heap.size) : JCp A0 pc rg mm a1 f1 a2 f2 true f3 fo A B W.heap.size f g h O (W.alloc (.cells #[] 3)) := by
  have hb := (Below.refl W.heap.size W).alloc (Nat.le_refl _) (.cells #[] 3)
  cases hf : f3 with
  | true => exact (nomatch hJ.i3 hf)
  | false =>
    subst hf
    exact ⟨hJ.out.alloc hB _, hJ.ln.put3 (c3' := ⟨some ⟨W.heap.size, 0, none⟩, 0, 0⟩) (Own.empty _ _ hB) (grown_of_below hb _) (.inr fun q hq => by simp [Value.ownBlock] at hq; omega), hJ.i1, hJ.i2, fun e => (nomatch e), hJ.obB hb⟩
theorem JCp.app1 (hJ : JCp A0 pc rg mm true false a2 f2 a3 f3 fo A B C f g h O W) (ho : Own IntE 3 w' A0.heap.size s'.v ([] ++ pc)) (hg : W.grownBy w' (Slc.v ⟨some ⟨A, 0, none⟩, 0, 0⟩).ownBlock) (hat : s'.v.ownBlock = (Slc.v ⟨some ⟨A, 0, none⟩, 0, 0⟩).ownBlock ∨ ∀ q, s'.v.ownBlock = some q → W.heap.size ≤ q) : JCp A0 pc rg mm true true a2 f2 a3 f3 fo A B C s' g h O w' :=
  ⟨hJ.outG hJ.ln.o1 hg, hJ.ln.put1 ho hg hat, fun _ => rfl, hJ.i2, hJ.i3, hJ.obG hJ.ln.o1 hg⟩
theorem JCp.app2 (hJ : JCp A0 pc rg mm a1 f1 true false a3 f3 fo A B C f g h O W) (ho : Own IntE 3 w' A0.heap.size s'.v ([] ++ rg)) (hg : W.grownBy w' (Slc.v ⟨some ⟨B, 0, none⟩, 0, 0⟩).ownBlock) (hat : s'.v.ownBlock = (Slc.v ⟨some ⟨B, 0, none⟩, 0, 0⟩).ownBlock ∨ ∀ q, s'.v.ownBlock = some q → W.heap.size ≤ q) : JCp A0 pc rg mm a1 f1 true true a3 f3 fo A B C f s' h O w' :=
  ⟨hJ.outG hJ.ln.o2 hg, hJ.ln.put2 ho hg hat, hJ.i1, fun _ => rfl, hJ.i3, hJ.obG hJ.ln.o2 hg⟩
theorem JCp.app3 (hJ : JCp A0 pc rg mm a1 f1 a2 f2 true false fo A B C f g h O W) (ho : Own IntE 3 w' A0.heap.size s'.v ([] ++ mm)) (hg : W.grownBy w' (Slc.v ⟨some ⟨C, 0, none⟩, 0, 0⟩).ownBlock) (hat : s'.v.ownBlock = (Slc.v ⟨some ⟨C, 0, none⟩, 0, 0⟩).ownBlock ∨ ∀ q, s'.v.ownBlock = some q → W.heap.size ≤ q) : JCp A0 pc rg mm a1 f1 a2 f2 true true fo A B C f g s' O w' :=
  ⟨hJ.outG hJ.ln.o3 hg, hJ.ln.put3 ho hg hat, hJ.i1, hJ.i2, fun _ => rfl, hJ.obG hJ.ln.o3 hg⟩
theorem JCp.obj (hJ : JCp A0 pc rg mm a1 f1 a2 f2 a3 f3 false A B C f g h O W) : JCp A0 pc rg mm a1 f1 a2 f2 a3 f3 true A B C f g h W.heap.size (W.alloc (.cells #[.slice none 0 0, .slice none 0 0, .slice none 0 0, .slice none 0 0] 84)) :=
  ⟨hJ.out.alloc hJ.out.size _, hJ.ln.below ((Below.refl _ _).alloc (Nat.le_refl _) _), hJ.i1, hJ.i2, hJ.i3, fun _ => ⟨heap_alloc_new W _, hJ.out.size⟩⟩
end

theorem below_litM {w w' : World} {l : Array Value} {T : TypeId} {n c : Nat} (hg : (w.alloc (.cells l T)).drew.grownBy w' (Slc.v ⟨some ⟨w.heap.size, 0, none⟩, n, c⟩).ownBlock) : Below w.heap.size w w' :=
  ((Below.refl w.heap.size w).alloc (Nat.le_refl _) (.cells l T)).drew.grown hg (by simp) (fun q hq => by simp [Value.ownBlock] at hq; omega)
/-- A copy under way: the argument's box, the result's cell, the copy with its first k buffers. -/
structure CpS (w : World) (B O m : Nat) (vs : List Value) (x : SV) (s : St) (k : Nat) : Prop where
  bx : w.heap[B]? = some (.cells vs.toArray 84 (0, 0))
  br : w.heap[B + 1]? = some (.cells #[.slice none 0 0, .slice none 0 0, .slice none 0 0, .slice none 0 0] 84 (0, 0))
  bo : w.heap[O]? = some (.cells #[.slice x.p.a x.p.n x.p.cap, .slice x.r.a x.r.n x.r.cap, .slice x.m.a x.m.n x.m.cap, .slice x.b.a x.b.n x.b.cap] 84 (0, 0))
  ln : Lanes w B x.p x.r x.m s.pc s.rg s.mm
  bf : Own2 IntE 24 3 w m x.b.v (s.bf.take k)
  p1 : ∀ q, x.p.v.ownBlock = some q → q < m
  p2 : ∀ q, x.r.v.ownBlock = some q → q < m
  p3 : ∀ q, x.m.v.ownBlock = some q → q < m
  lO : O < m
  lB : B + 1 < O
  lm : m ≤ w.heap.size
  zz : True

set_option maxRecDepth 100000 in
set_option maxHeartbeats 6400000 in
theorem l3Copy_any (x : SV) (s : St) (w : World) (hx : RepSt w x s) (h1 : s.pc.length ≤ 1048576) (h2 : s.rg.length ≤ 1048576) (h3 : s.mm.length ≤ 1048576) (h4 : s.bf.length ≤ 1048576) (h5 : ∀ o ∈ s.bf, o.length ≤ 1048576) :
    Calls Try.prog 91 #[.agg #[.slice x.p.a x.p.n x.p.cap, .slice x.r.a x.r.n x.r.cap, .slice x.m.a x.m.n x.m.cap, .slice x.b.a x.b.n x.b.cap]] w (RetSt w s) := by
  obtain ⟨⟨pa, pn, pk⟩, ⟨ra, rn, rk⟩, ⟨ma, mn, mk⟩, ⟨ba, bn, bk⟩⟩ := x
  have HX := hide hx
  obtain ⟨ba', bc', hv, -, -, -, -⟩ := hx.bf.open
  simp only [Slc.v, Value.slice.injEq] at hv
  obtain ⟨rfl, hbn, rfl⟩ := hv
  have HBN := hide hbn
  have hbn4 : bn ≤ 1048576 := by rw [hbn]; exact h4
  clear hx
  have HB0 := hide (((Below.refl w.heap.size w).alloc (Nat.le_refl _) (.cells #[.slice pa pn pk, .slice ra rn rk, .slice ma mn mk, .slice ba bn bk] 84)).alloc (by simp) (.cells #[.slice none 0 0, .slice none 0 0, .slice none 0 0, .slice none 0 0] 84))
  obtain ⟨A0, hA0⟩ : ∃ A0, A0 = (w.alloc (.cells #[.slice pa pn pk, .slice ra rn rk, .slice ma mn mk, .slice ba bn bk] 84)).alloc (.cells #[.slice none 0 0, .slice none 0 0, .slice none 0 0, .slice none 0 0] 84) := ⟨_, rfl⟩
  have hz : A0.heap.size = w.heap.size + 2 := by rw [hA0]; simp
  have HX2 : Hid (A0.heap[w.heap.size]? = some (.cells #[.slice pa pn pk, .slice ra rn rk, .slice ma mn mk, .slice ba bn bk] 84 (0, 0))) := hide (by
    rw [hA0, heap_alloc_old _ _ (by simp)]; exact heap_alloc_new w _)
  have HR2 : Hid (A0.heap[w.heap.size + 1]? = some (.cells #[.slice none 0 0, .slice none 0 0, .slice none 0 0, .slice none 0 0] 84 (0, 0))) := hide (by
    have h := heap_alloc_new (w.alloc (.cells #[.slice pa pn pk, .slice ra rn rk, .slice ma mn mk, .slice ba bn bk] 84)) (.cells #[.slice none 0 0, .slice none 0 0, .slice none 0 0, .slice none 0 0] 84)
    rw [hA0]; simpa using h)
  have HB : Hid (Below w.heap.size w A0) := hide (by rw [hA0]; exact HB0.out)
  clear HB0
  have HA0 := hide hA0
  clear hA0 hbn
  go_enter Try.func91, Try.ntmps91
  go_wp2_with fail
  rw [← HA0.out]
  -- reg copy
  refine wp_region_inv3 (n := 14) (by kernel_rfl) rfl (by kernel_rfl) (by kernel_rfl) (fun A ls a' W => ∃ (ga : Nat) (gb : Nat) (gc : Nat) (f : Slc) (g : Slc) (h : Slc) (O : Nat) (x5 x6 x7 x8 x9 x10 x11 x12 x13 x14 x15 x16 x17 x3 : Value), a' = putAll A [(5, x5), (6, x6), (7, x7), (8, x8), (9, x9), (10, x10), (11, x11), (12, x12), (13, x13), (14, x14), (15, x15), (16, x16), (17, x17), (3, x3)] ∧ Vd ls 0 [] x5 (.slice (some ⟨ga, 0, none⟩) 0 0) ∧ Vd ls 1 [] x6 (.pointer (some ⟨w.heap.size, 0, none⟩)) ∧ Vd ls 2 [] x7 (.slice pa pn pk) ∧ Vd ls 3 [0] x8 (.slice f.a f.n f.cap) ∧ Vd ls 4 [] x9 (.slice (some ⟨gb, 0, none⟩) 0 0) ∧ Vd ls 5 [] x10 (.pointer (some ⟨w.heap.size, 1, none⟩)) ∧ Vd ls 6 [] x11 (.slice ra rn rk) ∧ Vd ls 7 [4] x12 (.slice g.a g.n g.cap) ∧ Vd ls 8 [] x13 (.slice (some ⟨gc, 0, none⟩) 0 0) ∧ Vd ls 9 [] x14 (.pointer (some ⟨w.heap.size, 2, none⟩)) ∧ Vd ls 10 [] x15 (.slice ma mn mk) ∧ Vd ls 11 [8] x16 (.slice h.a h.n h.cap) ∧ Vd ls 12 [0, 3, 4, 7, 8, 11] x17 (.agg #[.slice f.a f.n f.cap, .slice g.a g.n g.cap, .slice h.a h.n h.cap, .slice none 0 0]) ∧ Vd ls 13 [] x3 (.pointer (some ⟨O, 0, none⟩)) ∧ JCp A0 s.pc s.rg s.mm (fl ls 0) (fl ls 3) (fl ls 4) (fl ls 7) (fl ls 8) (fl ls 11) (fl ls 13) ga gb gc f g h O W) ?r0 ?rs ?re
  case r0 =>
    exact ⟨0, 0, 0, ⟨none, 0, 0⟩, ⟨none, 0, 0⟩, ⟨none, 0, 0⟩, 0, undef, undef, undef, undef, undef, undef, undef, undef, undef, undef, undef, undef, undef, undef, by simp only [putAll, Act.put, List.setIfInBounds_toArray, List.set_cons_succ, List.set_cons_zero], Vd.start, Vd.start, Vd.start, Vd.start, Vd.start, Vd.start, Vd.start, Vd.start, Vd.start, Vd.start, Vd.start, Vd.start, Vd.start, Vd.start, by simp only [fl_start]; exact JCp.start (hz ▸ (Below.refl _ _).drew)⟩
  case rs =>
    rintro ls a' W hs hnl ⟨ga, gb, gc, f, g, h, O, x5, x6, x7, x8, x9, x10, x11, x12, x13, x14, x15, x16, x17, x3, ha, cv0, cv1, cv2, cv3, cv4, cv5, cv6, cv7, cv8, cv9, cv10, cv11, cv12, cv13, hJ⟩ k o hkn mc K hK
    simp only [putAll, Act.put, List.setIfInBounds_toArray, List.set_cons_succ, List.set_cons_zero] at ha
    subst ha
    have hkc : k = 0 ∨ k = 1 ∨ k = 2 ∨ k = 3 ∨ k = 4 ∨ k = 5 ∨ k = 6 ∨ k = 7 ∨ k = 8 ∨ k = 9 ∨ k = 10 ∨ k = 11 ∨ k = 12 ∨ k = 13 := by omega
    have hop := mc.op
    have haf := mc.after
    rcases hkc with rfl | rfl | rfl | rfl | rfl | rfl | rfl | rfl | rfl | rfl | rfl | rfl | rfl | rfl
    · simp at hop; subst hop; simp [Region.binds] at haf
      have f0 := fl_no mc.new; rw [f0] at hJ
      go_simp
      exact hK _ _ ⟨W.heap.size, gb, gc, f, g, h, O, _, _, _, _, _, _, _, _, _, _, _, _, _, _, by simp only [putAll, Act.put, List.setIfInBounds_toArray, List.set_cons_succ, List.set_cons_zero], Vd.same (by simp), cv1.set (by decide), cv2.set (by decide), cv3.void (by decide) (by decide) mc.new, cv4.set (by decide), cv5.set (by decide), cv6.set (by decide), cv7.set (by decide), cv8.set (by decide), cv9.set (by decide), cv10.set (by decide), cv11.set (by decide), cv12.void (by decide) (by decide) mc.new, cv13.set (by decide), by rw [fl_got hs (by decide), fl_set (show 0 ≠ 3 by decide), fl_set (show 0 ≠ 4 by decide), fl_set (show 0 ≠ 7 by decide), fl_set (show 0 ≠ 8 by decide), fl_set (show 0 ≠ 11 by decide), fl_set (show 0 ≠ 13 by decide)]; exact hJ.lit1 hJ.out.size⟩
    · simp at hop; subst hop; simp [Region.binds] at haf
      go_simp
      exact hK _ _ ⟨ga, gb, gc, f, g, h, O, _, _, _, _, _, _, _, _, _, _, _, _, _, _, by simp only [putAll, Act.put, List.setIfInBounds_toArray, List.set_cons_succ, List.set_cons_zero], cv0.set (by decide), Vd.same (by simp), cv2.set (by decide), cv3.set (by decide), cv4.set (by decide), cv5.set (by decide), cv6.set (by decide), cv7.set (by decide), cv8.set (by decide), cv9.set (by decide), cv10.set (by decide), cv11.set (by decide), cv12.set (by decide), cv13.set (by decide), by rw [fl_set (show 1 ≠ 0 by decide), fl_set (show 1 ≠ 3 by decide), fl_set (show 1 ≠ 4 by decide), fl_set (show 1 ≠ 7 by decide), fl_set (show 1 ≠ 8 by decide), fl_set (show 1 ≠ 11 by decide), fl_set (show 1 ≠ 13 by decide)]; exact hJ⟩
    · simp at hop; subst hop; simp [Region.binds] at haf
      obtain rfl := (cv1.get (by simp [haf])).symm
      have hbk := (hJ.out.block w.heap.size (by omega)).trans HX2.out
      have d0 : W.cell? ⟨w.heap.size, 0, none⟩ = some (.slice pa pn pk) := cellH hbk (k := 0) rfl
      have d1 : W.cell? ⟨w.heap.size, 1, none⟩ = some (.slice ra rn rk) := cellH hbk (k := 1) rfl
      have d2 : W.cell? ⟨w.heap.size, 2, none⟩ = some (.slice ma mn mk) := cellH hbk (k := 2) rfl
      have dl := lt_of_cell d0
      go_simp
      exact hK _ _ ⟨ga, gb, gc, f, g, h, O, _, _, _, _, _, _, _, _, _, _, _, _, _, _, by simp only [putAll, Act.put, List.setIfInBounds_toArray, List.set_cons_succ, List.set_cons_zero], cv0.set (by decide), cv1.set (by decide), Vd.same (by simp), cv3.set (by decide), cv4.set (by decide), cv5.set (by decide), cv6.set (by decide), cv7.set (by decide), cv8.set (by decide), cv9.set (by decide), cv10.set (by decide), cv11.set (by decide), cv12.set (by decide), cv13.set (by decide), by rw [fl_set (show 2 ≠ 0 by decide), fl_set (show 2 ≠ 3 by decide), fl_set (show 2 ≠ 4 by decide), fl_set (show 2 ≠ 7 by decide), fl_set (show 2 ≠ 8 by decide), fl_set (show 2 ≠ 11 by decide), fl_set (show 2 ≠ 13 by decide)]; exact hJ⟩
    · simp at hop; subst hop; simp [Region.binds] at haf
      obtain rfl := (cv0.get (by simp [haf])).symm
      obtain rfl := (cv2.get (by simp [haf])).symm
      have f3 := fl_no mc.new; rw [f3] at hJ
      have f0 := fl_yes (show ls[0]? = some true by simp [haf]); rw [f0] at hJ
      refine step_appSAt IntE 3 Try.infoInt rfl Try.underlying24 A0.heap.size ⟨some ⟨ga, 0, none⟩, 0, 0⟩ [] s.pc _ (by have h := hJ.ln.o1; simpa [laneA, laneL] using h) ((HX.out.pc.below HB.out).below (hz ▸ hJ.out)) (by decide) (by simp; omega) (by have := hJ.out.size; omega) (by rfl) _ _ (by rfl) (by rfl) (by rfl) ?_; intro s6 w6 hown6 hgr6 hat6
      exact hK _ _ ⟨ga, gb, gc, s6, g, h, O, _, _, _, _, _, _, _, _, _, _, _, _, _, _, by simp only [putAll, Act.put, List.setIfInBounds_toArray, List.set_cons_succ, List.set_cons_zero], cv0.set (by decide), cv1.set (by decide), cv2.set (by decide), Vd.same (by simp [haf]), cv4.set (by decide), cv5.set (by decide), cv6.set (by decide), cv7.set (by decide), cv8.set (by decide), cv9.set (by decide), cv10.set (by decide), cv11.set (by decide), cv12.void (by decide) (by decide) mc.new, cv13.set (by decide), by rw [fl_set (show 3 ≠ 0 by decide), fl_got hs (by decide), fl_set (show 3 ≠ 4 by decide), fl_set (show 3 ≠ 7 by decide), fl_set (show 3 ≠ 8 by decide), fl_set (show 3 ≠ 11 by decide), fl_set (show 3 ≠ 13 by decide), f0]; exact hJ.app1 hown6 hgr6 hat6⟩
    · simp at hop; subst hop; simp [Region.binds] at haf
      have f4 := fl_no mc.new; rw [f4] at hJ
      go_simp
      exact hK _ _ ⟨ga, W.heap.size, gc, f, g, h, O, _, _, _, _, _, _, _, _, _, _, _, _, _, _, by simp only [putAll, Act.put, List.setIfInBounds_toArray, List.set_cons_succ, List.set_cons_zero], cv0.set (by decide), cv1.set (by decide), cv2.set (by decide), cv3.set (by decide), Vd.same (by simp), cv5.set (by decide), cv6.set (by decide), cv7.void (by decide) (by decide) mc.new, cv8.set (by decide), cv9.set (by decide), cv10.set (by decide), cv11.set (by decide), cv12.void (by decide) (by decide) mc.new, cv13.set (by decide), by rw [fl_set (show 4 ≠ 0 by decide), fl_set (show 4 ≠ 3 by decide), fl_got hs (by decide), fl_set (show 4 ≠ 7 by decide), fl_set (show 4 ≠ 8 by decide), fl_set (show 4 ≠ 11 by decide), fl_set (show 4 ≠ 13 by decide)]; exact hJ.lit2 hJ.out.size⟩
    · simp at hop; subst hop; simp [Region.binds] at haf
      go_simp
      exact hK _ _ ⟨ga, gb, gc, f, g, h, O, _, _, _, _, _, _, _, _, _, _, _, _, _, _, by simp only [putAll, Act.put, List.setIfInBounds_toArray, List.set_cons_succ, List.set_cons_zero], cv0.set (by decide), cv1.set (by decide), cv2.set (by decide), cv3.set (by decide), cv4.set (by decide), Vd.same (by simp), cv6.set (by decide), cv7.set (by decide), cv8.set (by decide), cv9.set (by decide), cv10.set (by decide), cv11.set (by decide), cv12.set (by decide), cv13.set (by decide), by rw [fl_set (show 5 ≠ 0 by decide), fl_set (show 5 ≠ 3 by decide), fl_set (show 5 ≠ 4 by decide), fl_set (show 5 ≠ 7 by decide), fl_set (show 5 ≠ 8 by decide), fl_set (show 5 ≠ 11 by decide), fl_set (show 5 ≠ 13 by decide)]; exact hJ⟩
    · simp at hop; subst hop; simp [Region.binds] at haf
      obtain rfl := (cv5.get (by simp [haf])).symm
      have hbk := (hJ.out.block w.heap.size (by omega)).trans HX2.out
      have d0 : W.cell? ⟨w.heap.size, 0, none⟩ = some (.slice pa pn pk) := cellH hbk (k := 0) rfl
      have d1 : W.cell? ⟨w.heap.size, 1, none⟩ = some (.slice ra rn rk) := cellH hbk (k := 1) rfl
      have d2 : W.cell? ⟨w.heap.size, 2, none⟩ = some (.slice ma mn mk) := cellH hbk (k := 2) rfl
      have dl := lt_of_cell d0
      go_simp
      exact hK _ _ ⟨ga, gb, gc, f, g, h, O, _, _, _, _, _, _, _, _, _, _, _, _, _, _, by simp only [putAll, Act.put, List.setIfInBounds_toArray, List.set_cons_succ, List.set_cons_zero], cv0.set (by decide), cv1.set (by decide), cv2.set (by decide), cv3.set (by decide), cv4.set (by decide), cv5.set (by decide), Vd.same (by simp), cv7.set (by decide), cv8.set (by decide), cv9.set (by decide), cv10.set (by decide), cv11.set (by decide), cv12.set (by decide), cv13.set (by decide), by rw [fl_set (show 6 ≠ 0 by decide), fl_set (show 6 ≠ 3 by decide), fl_set (show 6 ≠ 4 by decide), fl_set (show 6 ≠ 7 by decide), fl_set (show 6 ≠ 8 by decide), fl_set (show 6 ≠ 11 by decide), fl_set (show 6 ≠ 13 by decide)]; exact hJ⟩
    · simp at hop; subst hop; simp [Region.binds] at haf
      obtain rfl := (cv4.get (by simp [haf])).symm
      obtain rfl := (cv6.get (by simp [haf])).symm
      have f7 := fl_no mc.new; rw [f7] at hJ
      have f4 := fl_yes (show ls[4]? = some true by simp [haf]); rw [f4] at hJ
      refine step_appSAt IntE 3 Try.infoInt rfl Try.underlying24 A0.heap.size ⟨some ⟨gb, 0, none⟩, 0, 0⟩ [] s.rg _ (by have h := hJ.ln.o2; simpa [laneA, laneL] using h) ((HX.out.rg.below HB.out).below (hz ▸ hJ.out)) (by decide) (by simp; omega) (by have := hJ.out.size; omega) (by rfl) _ _ (by rfl) (by rfl) (by rfl) ?_; intro s6 w6 hown6 hgr6 hat6
      exact hK _ _ ⟨ga, gb, gc, f, s6, h, O, _, _, _, _, _, _, _, _, _, _, _, _, _, _, by simp only [putAll, Act.put, List.setIfInBounds_toArray, List.set_cons_succ, List.set_cons_zero], cv0.set (by decide), cv1.set (by decide), cv2.set (by decide), cv3.set (by decide), cv4.set (by decide), cv5.set (by decide), cv6.set (by decide), Vd.same (by simp [haf]), cv8.set (by decide), cv9.set (by decide), cv10.set (by decide), cv11.set (by decide), cv12.void (by decide) (by decide) mc.new, cv13.set (by decide), by rw [fl_set (show 7 ≠ 0 by decide), fl_set (show 7 ≠ 3 by decide), fl_set (show 7 ≠ 4 by decide), fl_got hs (by decide), fl_set (show 7 ≠ 8 by decide), fl_set (show 7 ≠ 11 by decide), fl_set (show 7 ≠ 13 by decide), f4]; exact hJ.app2 hown6 hgr6 hat6⟩
    · simp at hop; subst hop; simp [Region.binds] at haf
      have f8 := fl_no mc.new; rw [f8] at hJ
      go_simp
      exact hK _ _ ⟨ga, gb, W.heap.size, f, g, h, O, _, _, _, _, _, _, _, _, _, _, _, _, _, _, by simp only [putAll, Act.put, List.setIfInBounds_toArray, List.set_cons_succ, List.set_cons_zero], cv0.set (by decide), cv1.set (by decide), cv2.set (by decide), cv3.set (by decide), cv4.set (by decide), cv5.set (by decide), cv6.set (by decide), cv7.set (by decide), Vd.same (by simp), cv9.set (by decide), cv10.set (by decide), cv11.void (by decide) (by decide) mc.new, cv12.void (by decide) (by decide) mc.new, cv13.set (by decide), by rw [fl_set (show 8 ≠ 0 by decide), fl_set (show 8 ≠ 3 by decide), fl_set (show 8 ≠ 4 by decide), fl_set (show 8 ≠ 7 by decide), fl_got hs (by decide), fl_set (show 8 ≠ 11 by decide), fl_set (show 8 ≠ 13 by decide)]; exact hJ.lit3 hJ.out.size⟩
    · simp at hop; subst hop; simp [Region.binds] at haf
      go_simp
      exact hK _ _ ⟨ga, gb, gc, f, g, h, O, _, _, _, _, _, _, _, _, _, _, _, _, _, _, by simp only [putAll, Act.put, List.setIfInBounds_toArray, List.set_cons_succ, List.set_cons_zero], cv0.set (by decide), cv1.set (by decide), cv2.set (by decide), cv3.set (by decide), cv4.set (by decide), cv5.set (by decide), cv6.set (by decide), cv7.set (by decide), cv8.set (by decide), Vd.same (by simp), cv10.set (by decide), cv11.set (by decide), cv12.set (by decide), cv13.set (by decide), by rw [fl_set (show 9 ≠ 0 by decide), fl_set (show 9 ≠ 3 by decide), fl_set (show 9 ≠ 4 by decide), fl_set (show 9 ≠ 7 by decide), fl_set (show 9 ≠ 8 by decide), fl_set (show 9 ≠ 11 by decide), fl_set (show 9 ≠ 13 by decide)]; exact hJ⟩
    · simp at hop; subst hop; simp [Region.binds] at haf
      obtain rfl := (cv9.get (by simp [haf])).symm
      have hbk := (hJ.out.block w.heap.size (by omega)).trans HX2.out
      have d0 : W.cell? ⟨w.heap.size, 0, none⟩ = some (.slice pa pn pk) := cellH hbk (k := 0) rfl
      have d1 : W.cell? ⟨w.heap.size, 1, none⟩ = some (.slice ra rn rk) := cellH hbk (k := 1) rfl
      have d2 : W.cell? ⟨w.heap.size, 2, none⟩ = some (.slice ma mn mk) := cellH hbk (k := 2) rfl
      have dl := lt_of_cell d0
      go_simp
      exact hK _ _ ⟨ga, gb, gc, f, g, h, O, _, _, _, _, _, _, _, _, _, _, _, _, _, _, by simp only [putAll, Act.put, List.setIfInBounds_toArray, List.set_cons_succ, List.set_cons_zero], cv0.set (by decide), cv1.set (by decide), cv2.set (by decide), cv3.set (by decide), cv4.set (by decide), cv5.set (by decide), cv6.set (by decide), cv7.set (by decide), cv8.set (by decide), cv9.set (by decide), Vd.same (by simp), cv11.set (by decide), cv12.set (by decide), cv13.set (by decide), by rw [fl_set (show 10 ≠ 0 by decide), fl_set (show 10 ≠ 3 by decide), fl_set (show 10 ≠ 4 by decide), fl_set (show 10 ≠ 7 by decide), fl_set (show 10 ≠ 8 by decide), fl_set (show 10 ≠ 11 by decide), fl_set (show 10 ≠ 13 by decide)]; exact hJ⟩
    · simp at hop; subst hop; simp [Region.binds] at haf
      obtain rfl := (cv8.get (by simp [haf])).symm
      obtain rfl := (cv10.get (by simp [haf])).symm
      have f11 := fl_no mc.new; rw [f11] at hJ
      have f8 := fl_yes (show ls[8]? = some true by simp [haf]); rw [f8] at hJ
      refine step_appSAt IntE 3 Try.infoInt rfl Try.underlying24 A0.heap.size ⟨some ⟨gc, 0, none⟩, 0, 0⟩ [] s.mm _ (by have h := hJ.ln.o3; simpa [laneA, laneL] using h) ((HX.out.mm.below HB.out).below (hz ▸ hJ.out)) (by decide) (by simp; omega) (by have := hJ.out.size; omega) (by rfl) _ _ (by rfl) (by rfl) (by rfl) ?_; intro s6 w6 hown6 hgr6 hat6
      exact hK _ _ ⟨ga, gb, gc, f, g, s6, O, _, _, _, _, _, _, _, _, _, _, _, _, _, _, by simp only [putAll, Act.put, List.setIfInBounds_toArray, List.set_cons_succ, List.set_cons_zero], cv0.set (by decide), cv1.set (by decide), cv2.set (by decide), cv3.set (by decide), cv4.set (by decide), cv5.set (by decide), cv6.set (by decide), cv7.set (by decide), cv8.set (by decide), cv9.set (by decide), cv10.set (by decide), Vd.same (by simp [haf]), cv12.void (by decide) (by decide) mc.new, cv13.set (by decide), by rw [fl_set (show 11 ≠ 0 by decide), fl_set (show 11 ≠ 3 by decide), fl_set (show 11 ≠ 4 by decide), fl_set (show 11 ≠ 7 by decide), fl_set (show 11 ≠ 8 by decide), fl_got hs (by decide), fl_set (show 11 ≠ 13 by decide), f8]; exact hJ.app3 hown6 hgr6 hat6⟩
    · simp at hop; subst hop; simp [Region.binds] at haf
      have q3 := (cv3 (by simp [haf])).1; simp at q3
      have q7 := (cv7 (by simp [haf])).1; simp at q7
      have q11 := (cv11 (by simp [haf])).1; simp at q11
      obtain rfl := (cv3.get (by simp [haf])).symm
      obtain rfl := (cv7.get (by simp [haf])).symm
      obtain rfl := (cv11.get (by simp [haf])).symm
      go_simp
      exact hK _ _ ⟨ga, gb, gc, f, g, h, O, _, _, _, _, _, _, _, _, _, _, _, _, _, _, by simp only [putAll, Act.put, List.setIfInBounds_toArray, List.set_cons_succ, List.set_cons_zero], cv0.set (by decide), cv1.set (by decide), cv2.set (by decide), cv3.set (by decide), cv4.set (by decide), cv5.set (by decide), cv6.set (by decide), cv7.set (by decide), cv8.set (by decide), cv9.set (by decide), cv10.set (by decide), cv11.set (by decide), Vd.same (by simp [haf, q3, q7, q11]), cv13.set (by decide), by rw [fl_set (show 12 ≠ 0 by decide), fl_set (show 12 ≠ 3 by decide), fl_set (show 12 ≠ 4 by decide), fl_set (show 12 ≠ 7 by decide), fl_set (show 12 ≠ 8 by decide), fl_set (show 12 ≠ 11 by decide), fl_set (show 12 ≠ 13 by decide)]; exact hJ⟩
    · simp at hop; subst hop; simp [Region.binds] at haf
      have f13 := fl_no mc.new; rw [f13] at hJ
      go_simp
      exact hK _ _ ⟨ga, gb, gc, f, g, h, W.heap.size, _, _, _, _, _, _, _, _, _, _, _, _, _, _, by simp only [putAll, Act.put, List.setIfInBounds_toArray, List.set_cons_succ, List.set_cons_zero], cv0.set (by decide), cv1.set (by decide), cv2.set (by decide), cv3.set (by decide), cv4.set (by decide), cv5.set (by decide), cv6.set (by decide), cv7.set (by decide), cv8.set (by decide), cv9.set (by decide), cv10.set (by decide), cv11.set (by decide), cv12.set (by decide), Vd.same (by simp), by rw [fl_set (show 13 ≠ 0 by decide), fl_set (show 13 ≠ 3 by decide), fl_set (show 13 ≠ 4 by decide), fl_set (show 13 ≠ 7 by decide), fl_set (show 13 ≠ 8 by decide), fl_set (show 13 ≠ 11 by decide), fl_got hs (by decide)]; exact hJ.obj⟩
  case re =>
    rintro ls a' W hall ⟨ga, gb, gc, f, g, h, O, x5, x6, x7, x8, x9, x10, x11, x12, x13, x14, x15, x16, x17, x3, ha, cv0, cv1, cv2, cv3, cv4, cv5, cv6, cv7, cv8, cv9, cv10, cv11, cv12, cv13, hJ⟩ o hop
    simp only [putAll, Act.put, List.setIfInBounds_toArray, List.set_cons_succ, List.set_cons_zero] at ha
    subst ha
    simp at hop; subst hop
    obtain rfl := (cv0.get (hall 0 (by decide))).symm
    obtain rfl := (cv1.get (hall 1 (by decide))).symm
    obtain rfl := (cv2.get (hall 2 (by decide))).symm
    obtain rfl := (cv3.get (hall 3 (by decide))).symm
    obtain rfl := (cv4.get (hall 4 (by decide))).symm
    obtain rfl := (cv5.get (hall 5 (by decide))).symm
    obtain rfl := (cv6.get (hall 6 (by decide))).symm
    obtain rfl := (cv7.get (hall 7 (by decide))).symm
    obtain rfl := (cv8.get (hall 8 (by decide))).symm
    obtain rfl := (cv9.get (hall 9 (by decide))).symm
    obtain rfl := (cv10.get (hall 10 (by decide))).symm
    obtain rfl := (cv11.get (hall 11 (by decide))).symm
    obtain rfl := (cv12.get (hall 12 (by decide))).symm
    obtain rfl := (cv13.get (hall 13 (by decide))).symm
    rw [fl_yes (hall 0 (by decide))] at hJ
    rw [fl_yes (hall 3 (by decide))] at hJ
    rw [fl_yes (hall 4 (by decide))] at hJ
    rw [fl_yes (hall 7 (by decide))] at hJ
    rw [fl_yes (hall 8 (by decide))] at hJ
    rw [fl_yes (hall 11 (by decide))] at hJ
    rw [fl_yes (hall 13 (by decide))] at hJ
    obtain ⟨hbo, hbB⟩ := hJ.ob rfl
    have hln := hJ.ln
    simp only [laneA, laneL, if_true] at hln
    have hbk := (hJ.out.block w.heap.size (by omega)).trans HX2.out
    have hbr := (hJ.out.block (w.heap.size + 1) (by omega)).trans HR2.out
    have d3 : W.cell? ⟨w.heap.size, 3, none⟩ = some (.slice ba bn bk) := cellH hbk (k := 3) rfl
    have dl := lt_of_cell d3
    have hne1 : w.heap.size ≠ O := by omega
    have c0 : W.cell? ⟨O, 0, none⟩ = some (.slice none 0 0) := cellH hbo (k := 0) rfl
    have c1 : W.cell? ⟨O, 1, none⟩ = some (.slice none 0 0) := cellH hbo (k := 1) rfl
    have c2 : W.cell? ⟨O, 2, none⟩ = some (.slice none 0 0) := cellH hbo (k := 2) rfl
    have c3 : W.cell? ⟨O, 3, none⟩ = some (.slice none 0 0) := cellH hbo (k := 3) rfl
    have cfz := frozH hbo
    have cl := lt_of_cell c0
    go_simp
    have hb0 := heap_setCell_same W O 0 _ _ (.slice f.a f.n f.cap) hbo
    have hb1 := heap_setCell_same (W.setCell ⟨O, 0, none⟩ (.slice f.a f.n f.cap)) O 1 _ _ (.slice g.a g.n g.cap) hb0
    have hb2 := heap_setCell_same ((W.setCell ⟨O, 0, none⟩ (.slice f.a f.n f.cap)).setCell ⟨O, 1, none⟩ (.slice g.a g.n g.cap)) O 2 _ _ (.slice h.a h.n h.cap) hb1
    have hb3 := heap_setCell_same (((W.setCell ⟨O, 0, none⟩ (.slice f.a f.n f.cap)).setCell ⟨O, 1, none⟩ (.slice g.a g.n g.cap)).setCell ⟨O, 2, none⟩ (.slice h.a h.n h.cap)) O 3 _ _ (.slice none 0 0) hb2
    have hl3 := (((hln.setOther (j := 0) (u := .slice f.a f.n f.cap) (by decide) hbo).setOther (j := 1) (u := .slice g.a g.n g.cap) (by decide) hb0).setOther (j := 2) (u := .slice h.a h.n h.cap) (by decide) hb1).setOther (j := 3) (u := .slice none 0 0) (by decide) hb2
    have hO := (((hJ.out.setCell (p := ⟨O, 0, none⟩) hbB (.slice f.a f.n f.cap)).setCell (p := ⟨O, 1, none⟩) hbB (.slice g.a g.n g.cap)).setCell (p := ⟨O, 2, none⟩) hbB (.slice h.a h.n h.cap)).setCell (p := ⟨O, 3, none⟩) hbB (.slice none 0 0)
    have HO := hide hO; have HL3 := hide hl3; have HB3 := hide hb3; have HBO := hide hbB
    have HWS : Hid (W.heap.size = W.heap.size) := hide rfl
    have HC0 := hide (CpS.mk (x := ⟨f, g, h, ⟨none, 0, 0⟩⟩) (m := W.heap.size) (B := w.heap.size) (k := 0) (s := s) ((hO.block w.heap.size (by omega)).trans HX2.out) ((hO.block (w.heap.size + 1) (by omega)).trans HR2.out) hb3 (hl3.mono (by omega)) (Own2.nil _ _ _ _) (fun q hq => (World.ownsRow.lt hln.o1 q hq).2) (fun q hq => (World.ownsRow.lt hln.o2 q hq).2) (fun q hq => (World.ownsRow.lt hln.o3 q hq).2) (by omega) (by omega) (by simp) trivial)
    have HB9 := hide (HB.out.trans (hO.mono HB.out.size))
    clear hb0 hb1 hb2 hb3 hl3 hO hbB hJ hln hbk hbr c0 c1 c2 c3 cfz cl hbo
    go_wp2_with fail
    clear d3 dl hne1
    go_loopw [4] (fun i wr => ∃ k : Nat, k ≤ bn ∧ i = .int .i64 k ∧ (∃ sv : Slc, CpS wr w.heap.size O W.heap.size [.slice pa pn pk, .slice ra rn rk, .slice ma mn mk, .slice ba bn bk] ⟨f, g, h, sv⟩ s k) ∧ Below w.heap.size w wr) (fun i _ => bn - (intOf i).toNat)
    case atStart => exact ⟨0, Nat.zero_le _, rfl, ⟨_, HC0.out⟩, HB9.out⟩
    case round =>
      obtain ⟨k, hk, rfl, ⟨⟨sa, sn, sc⟩, hc⟩, hbr⟩ := hrel
      have x3 : wr.cell? ⟨w.heap.size, 3, none⟩ = some (.slice ba bn bk) := cellH hc.bx (k := 3) rfl
      have o3 : wr.cell? ⟨O, 3, none⟩ = some (.slice sa sn sc) := cellH hc.bo (k := 3) rfl
      have ofz := frozH hc.bo
      have xl := lt_of_cell x3
      have ol := lt_of_cell o3
      by_cases hlt : k < bn
      · obtain ⟨r, hrk⟩ := get_of_lt (xs := s.bf) (k := k) (by rw [← HBN.out]; exact hlt)
        have hltk := nat_of_lt hlt
        obtain ⟨b2, o2, qa, qc, rfl, hbl2, q0, q1⟩ := (show Rep2 IntE w (.slice ba bn bk) s.bf from HX.out.bf).row hrk
        have q0 := (hbr.cell (p := ⟨b2, o2 + k, none⟩) hbl2).trans q0
        have hbl2' := Nat.lt_of_lt_of_le hbl2 hbr.size
        have RS : Hid (s.bf.take (k + 1) = s.bf.take k ++ [r]) := hide (by rw [List.take_add_one, hrk]; rfl)
        have hn1 : ([] : List Int).length + r.length ≤ 68719476736 := by have := h5 r (List.mem_of_getElem? hrk); simp; omega
        have HRP := hide ((q1.below hbr).below ((Below.refl wr.heap.size wr).alloc (Nat.le_refl _) (.cells #[] 3)).drew)
        have HLT : Hid (Own IntE 3 (wr.alloc (.cells #[] 3)).drew wr.heap.size (.slice (some ⟨wr.heap.size, 0, none⟩) 0 0) []) := hide (Own.empty (E := IntE) 3 wr (Nat.le_refl _))
        have hlen : (s.bf.take k).length ≤ 68719476736 := by rw [List.length_take]; omega
        have HC := hide hc
        obtain ⟨us, hU, -⟩ := hc.bf.told
        have HU := hide hU
        have HUL : Hid (us.length ≤ 68719476736) := hide (by rw [hU.1]; exact hlen)
        have HBR := hide hbr
        have hbs : w.heap.size ≤ wr.heap.size := hbr.size
        have hm := hc.lm
        have hlO := hc.lO
        have hlB := hc.lB
        have HBN2 := HBN
        clear HBN
        clear hrk q1 hlen hU hbr hc
        go_wp2_with fail
        go_region_law (first
          | (refine step_appSAt IntE 3 Try.infoInt rfl Try.underlying24 wr.heap.size ⟨some ⟨wr.heap.size, 0, none⟩, 0, 0⟩ [] r _ HLT.out HRP.out (by decide) hn1 (by simp) (by rfl) _ _ (by rfl) (by rfl) (by rfl) ?_; rintro ⟨a6, n6, c6⟩ w6 hown6 hgr6 -; have O6 := hide hown6; have B6 := hide (below_litM hgr6); have hk6 : (∀ o, w6.cell? ⟨O, o, none⟩ = wr.cell? ⟨O, o, none⟩) := (fun o => B6.out.cell (p := ⟨O, o, none⟩) ol); have hb6 := B6.out.size; have ol6 : O < w6.heap.size := (Nat.lt_of_lt_of_le ol hb6); clear hown6 hgr6)
          | (refine step_app SlcE 24 Try.infoIntSM rfl Try.underlying34 W.heap.size _ us ⟨a6, n6, c6⟩ ((HU.out.2.1.below B6.out).alloc _) (by decide) HUL.out (by simp; omega) (by rfl) _ _ (by rfl) (by rfl) w6.heap.size 0 1 (by rfl) news_alloc ?_; intro v8 w8 hown8 hgr8; obtain ⟨⟨a8, n8, c8⟩, rfl, -⟩ := hown8.toSlc; have K8 := (KpT.of_below (L := [24]) (B := 0) (B6.out.alloc hb6 (.cells #[.slice a6 n6 c6] 24))).trans (KpT.grown ((HU.out.2.1.below B6.out).alloc _) (by decide) (Nat.zero_le _) hgr8); have bo8 := K8.same HC.out.bo (by decide); have o8 : w8.cell? ⟨O, 3, none⟩ = some (.slice sa sn sc) := cellH bo8 (k := 3) rfl; have ofz8 := frozH bo8; have ol8 := lt_of_cell o8))
        all_goals
          have R8 := Own2U.app (by decide) HU.out (B6.out.alloc hb6 (.cells #[.slice a6 n6 c6] 24)) hm (O6.out.alloc _) hown8 hgr8
          rw [List.nil_append, ← RS.out] at R8
          have B8 := (HBR.out.trans (B6.out.mono hbs)).alloc (by omega) (.cells #[.slice a6 n6 c6] 24)
          have B9 := B8.grown hgr8 (by simp; omega) (fun q hq => by have := (World.ownsRow.lt HU.out.2.1 q hq).1; omega)
          have bx8 := K8.same HC.out.bx (by decide)
          have br8 := K8.same HC.out.br (by decide)
          have C9 : CpS (w8.setCell ⟨O, 3, none⟩ (.slice a8 n8 c8)) w.heap.size O W.heap.size [.slice pa pn pk, .slice ra rn rk, .slice ma mn mk, .slice (some ⟨b2, o2, none⟩) bn bk] ⟨f, g, h, ⟨a8, n8, c8⟩⟩ s (k + 1) :=
            ⟨(heap_setCell_other w8 ⟨O, 3, none⟩ _ _ (show w.heap.size ≠ O by omega)).trans bx8, (heap_setCell_other w8 ⟨O, 3, none⟩ _ _ (show w.heap.size + 1 ≠ O by omega)).trans br8, heap_setCell_same w8 O 3 _ _ _ bo8,
              (HC.out.ln.kp K8 (by decide)).setOther (by decide) bo8, R8.setOther (by decide) (by decide) bo8, HC.out.p1, HC.out.p2, HC.out.p3, hlO, hlB, by have := K8.size; simp; omega, trivial⟩
          have HC9 := hide C9
          have HB10 := hide (B9.setCell (p := ⟨O, 3, none⟩) (show w.heap.size ≤ O by omega) (.slice a8 n8 c8))
          clear C9 R8 B8 B9 bx8 br8 K8 bo8
          go_wp2_with fail
          go_roundw
          case rel => exact ⟨k + 1, by omega, by go_num, ⟨⟨a8, n8, c8⟩, HC9.out⟩, HB10.out⟩
          case measure => simp [intOf]; omega
      · obtain rfl : k = bn := by omega
        have o0 : wr.cell? ⟨O, 0, none⟩ = some (.slice f.a f.n f.cap) := cellH hc.bo (k := 0) rfl
        have o1 : wr.cell? ⟨O, 1, none⟩ = some (.slice g.a g.n g.cap) := cellH hc.bo (k := 1) rfl
        have o2 : wr.cell? ⟨O, 2, none⟩ = some (.slice h.a h.n h.cap) := cellH hc.bo (k := 2) rfl
        have r0 : wr.cell? ⟨w.heap.size + 1, 0, none⟩ = some (.slice none 0 0) := cellH hc.br (k := 0) rfl
        have r1 : wr.cell? ⟨w.heap.size + 1, 1, none⟩ = some (.slice none 0 0) := cellH hc.br (k := 1) rfl
        have r2 : wr.cell? ⟨w.heap.size + 1, 2, none⟩ = some (.slice none 0 0) := cellH hc.br (k := 2) rfl
        have r3 : wr.cell? ⟨w.heap.size + 1, 3, none⟩ = some (.slice none 0 0) := cellH hc.br (k := 3) rfl
        have rfz := frozH hc.br
        have rl := lt_of_cell r0
        have HC := hide hc
        have hE : s.bf.take k = s.bf := List.take_of_length_le (by rw [← HBN.out]; exact Nat.le_refl _)
        have HE := hide hE
        have HBR := hide hbr
        clear hc hE hbr
        go_wp2_with fail
        have hS : OwnSt wr w.heap.size W.heap.size ⟨f, g, h, ⟨sa, sn, sc⟩⟩ s := ⟨HC.out.ln, by have q := HC.out.bf; rw [HE.out] at q; exact q, HC.out.p1, HC.out.p2, HC.out.p3, by have := HC.out.lB; have := HC.out.lO; omega, HC.out.lm⟩
        have t0 : TyB 84 wr (w.heap.size + 1) := ⟨_, HC.out.br⟩
        refine bodyPost_ret (v := .agg #[.slice f.a f.n f.cap, .slice g.a g.n g.cap, .slice h.a h.n h.cap, .slice sa sn sc]) (by simp [results, Try.results91, go_sem, *]) rfl ⟨⟨f, g, h, ⟨sa, sn, sc⟩⟩, W.heap.size, rfl, ?_, ?_⟩
        · exact (((hS.setT (by decide) (by decide) t0).setT (by decide) (by decide) (t0.set _ _ _)).setT (by decide) (by decide) ((t0.set _ _ _).set _ _ _)).setT (by decide) (by decide) (((t0.set _ _ _).set _ _ _).set _ _ _)
        · exact (((HBR.out.setCell (p := ⟨w.heap.size + 1, 0, none⟩) (show w.heap.size ≤ w.heap.size + 1 by omega) _).setCell (p := ⟨w.heap.size + 1, 1, none⟩) (show w.heap.size ≤ w.heap.size + 1 by omega) _).setCell (p := ⟨w.heap.size + 1, 2, none⟩) (show w.heap.size ≤ w.heap.size + 1 by omega) _).setCell (p := ⟨w.heap.size + 1, 3, none⟩) (show w.heap.size ≤ w.heap.size + 1 by omega) _
  -- end copy

end Go.Proofs.Ytpjebgiejkglpaa

namespace Go.Proofs.Ytpjebgiejkglpaa
open Go.RowKit

section
variable {A0 W w' : World} {pc rg mm : List Int} {a1 f1 a2 f2 a3 f3 fo : Bool} {A B C O n : Nat} {f g h : Slc}
theorem JCp.mk1 (hJ : JCp A0 pc rg mm false false a2 f2 a3 f3 fo A B C f g h O W) (ho : Own IntE 3 w' W.heap.size (.slice (some ⟨W.heap.size, 0, none⟩) n n) pc) (hg : W.grownBy w' none) : JCp A0 pc rg mm true true a2 f2 a3 f3 fo A B C ⟨some ⟨W.heap.size, 0, none⟩, n, n⟩ g h O w' :=
  ⟨hJ.out.grown hg hJ.out.size (fun q hq => nomatch hq), hJ.ln.put1 (c1' := ⟨some ⟨W.heap.size, 0, none⟩, n, n⟩) (ho.mono hJ.out.size) hg (.inr fun q hq => by simp [Value.ownBlock] at hq; omega), fun _ => rfl, hJ.i2, hJ.i3, hJ.obB ((Below.refl _ _).grown hg (Nat.le_refl _) (fun q hq => nomatch hq))⟩
theorem JCp.mk2 (hJ : JCp A0 pc rg mm a1 f1 false false a3 f3 fo A B C f g h O W) (ho : Own IntE 3 w' W.heap.size (.slice (some ⟨W.heap.size, 0, none⟩) n n) rg) (hg : W.grownBy w' none) : JCp A0 pc rg mm a1 f1 true true a3 f3 fo A B C f ⟨some ⟨W.heap.size, 0, none⟩, n, n⟩ h O w' :=
  ⟨hJ.out.grown hg hJ.out.size (fun q hq => nomatch hq), hJ.ln.put2 (c2' := ⟨some ⟨W.heap.size, 0, none⟩, n, n⟩) (ho.mono hJ.out.size) hg (.inr fun q hq => by simp [Value.ownBlock] at hq; omega), hJ.i1, fun _ => rfl, hJ.i3, hJ.obB ((Below.refl _ _).grown hg (Nat.le_refl _) (fun q hq => nomatch hq))⟩
theorem JCp.mk3 (hJ : JCp A0 pc rg mm a1 f1 a2 f2 false false fo A B C f g h O W) (ho : Own IntE 3 w' W.heap.size (.slice (some ⟨W.heap.size, 0, none⟩) n n) mm) (hg : W.grownBy w' none) : JCp A0 pc rg mm a1 f1 a2 f2 true true fo A B C f g ⟨some ⟨W.heap.size, 0, none⟩, n, n⟩ O w' :=
  ⟨hJ.out.grown hg hJ.out.size (fun q hq => nomatch hq), hJ.ln.put3 (c3' := ⟨some ⟨W.heap.size, 0, none⟩, n, n⟩) (ho.mono hJ.out.size) hg (.inr fun q hq => by simp [Value.ownBlock] at hq; omega), hJ.i1, hJ.i2, fun _ => rfl, hJ.obB ((Below.refl _ _).grown hg (Nat.le_refl _) (fun q hq => nomatch hq))⟩
end

set_option maxRecDepth 100000 in
set_option maxHeartbeats 6400000 in
theorem l3Start_any (pa : Option Addr) (pk n nb : Nat) (w : World) (hn : n ≤ 1048576) (hnb : nb ≤ 1048576) :
    Calls Try.prog 61 #[.slice pa n pk, .int .i64 (nb : Int)] w (RetSt w ⟨List.replicate n 0, List.replicate (n * 3) 0, List.replicate 3 0, List.replicate nb []⟩) := by
  obtain ⟨A0, hA0⟩ : ∃ A0, A0 = w.alloc (.cells #[.slice none 0 0, .slice none 0 0, .slice none 0 0, .slice none 0 0] 84) := ⟨_, rfl⟩
  have HB : Hid (Below w.heap.size w A0) := hide (by rw [hA0]; exact belowAlloc _ _)
  have hz : A0.heap.size = w.heap.size + 1 := by rw [hA0]; simp
  have HR2 : Hid (A0.heap[w.heap.size]? = some (.cells #[.slice none 0 0, .slice none 0 0, .slice none 0 0, .slice none 0 0] 84 (0, 0))) := hide (by rw [hA0]; exact heap_alloc_new w _)
  have HA0 := hide hA0
  clear hA0
  go_enter Try.func61, Try.ntmps61
  go_wp2_with fail
  rw [← HA0.out]
  -- reg start
  refine wp_region_inv3 (n := 10) (by kernel_rfl) rfl (by kernel_rfl) (by kernel_rfl) (fun A ls a' W => ∃ (f : Slc) (g : Slc) (h : Slc) (O : Nat) (x6 x7 x8 x9 x10 x11 x12 x13 x14 x5 : Value), a' = putAll A [(6, x6), (7, x7), (8, x8), (9, x9), (10, x10), (11, x11), (12, x12), (13, x13), (14, x14), (5, x5)] ∧ Vd ls 0 [] x6 (.slice pa n pk) ∧ Vd ls 1 [] x7 (.int .i64 (n : Int)) ∧ Vd ls 2 [] x8 (.slice f.a f.n f.cap) ∧ Vd ls 3 [] x9 (.slice pa n pk) ∧ Vd ls 4 [] x10 (.int .i64 (n : Int)) ∧ Vd ls 5 [] x11 (.int .i64 ((n : Int) * 3)) ∧ Vd ls 6 [] x12 (.slice g.a g.n g.cap) ∧ Vd ls 7 [] x13 (.slice h.a h.n h.cap) ∧ Vd ls 8 [2, 6, 7] x14 (.agg #[.slice f.a f.n f.cap, .slice g.a g.n g.cap, .slice h.a h.n h.cap, .slice none 0 0]) ∧ Vd ls 9 [] x5 (.pointer (some ⟨O, 0, none⟩)) ∧ JCp A0 (List.replicate n 0) (List.replicate (n * 3) 0) (List.replicate 3 0) (fl ls 2) (fl ls 2) (fl ls 6) (fl ls 6) (fl ls 7) (fl ls 7) (fl ls 9) 0 0 0 f g h O W) ?r0 ?rs ?re
  case r0 =>
    exact ⟨⟨none, 0, 0⟩, ⟨none, 0, 0⟩, ⟨none, 0, 0⟩, 0, undef, undef, undef, undef, undef, undef, undef, undef, undef, undef, by simp only [putAll, Act.put, List.setIfInBounds_toArray, List.set_cons_succ, List.set_cons_zero], Vd.start, Vd.start, Vd.start, Vd.start, Vd.start, Vd.start, Vd.start, Vd.start, Vd.start, Vd.start, by simp only [fl_start]; exact JCp.start (hz ▸ (Below.refl _ _).drew)⟩
  case rs =>
    rintro ls a' W hs hnl ⟨f, g, h, O, x6, x7, x8, x9, x10, x11, x12, x13, x14, x5, ha, cv0, cv1, cv2, cv3, cv4, cv5, cv6, cv7, cv8, cv9, hJ⟩ k o hkn mc K hK
    simp only [putAll, Act.put, List.setIfInBounds_toArray, List.set_cons_succ, List.set_cons_zero] at ha
    subst ha
    have hkc : k = 0 ∨ k = 1 ∨ k = 2 ∨ k = 3 ∨ k = 4 ∨ k = 5 ∨ k = 6 ∨ k = 7 ∨ k = 8 ∨ k = 9 := by omega
    have hop := mc.op
    have haf := mc.after
    rcases hkc with rfl | rfl | rfl | rfl | rfl | rfl | rfl | rfl | rfl | rfl
    · simp at hop; subst hop; simp [Region.binds] at haf
      go_simp
      exact hK _ _ ⟨f, g, h, O, _, _, _, _, _, _, _, _, _, _, by simp only [putAll, Act.put, List.setIfInBounds_toArray, List.set_cons_succ, List.set_cons_zero], Vd.same (by simp), cv1.set (by decide), cv2.set (by decide), cv3.set (by decide), cv4.set (by decide), cv5.set (by decide), cv6.set (by decide), cv7.set (by decide), cv8.set (by decide), cv9.set (by decide), by rw [fl_set (show 0 ≠ 2 by decide), fl_set (show 0 ≠ 6 by decide), fl_set (show 0 ≠ 7 by decide), fl_set (show 0 ≠ 9 by decide)]; exact hJ⟩
    · simp at hop; subst hop; simp [Region.binds] at haf
      obtain rfl := (cv0.get (by simp [haf])).symm
      go_simp
      exact hK _ _ ⟨f, g, h, O, _, _, _, _, _, _, _, _, _, _, by simp only [putAll, Act.put, List.setIfInBounds_toArray, List.set_cons_succ, List.set_cons_zero], cv0.set (by decide), Vd.same (by simp), cv2.set (by decide), cv3.set (by decide), cv4.set (by decide), cv5.set (by decide), cv6.set (by decide), cv7.set (by decide), cv8.set (by decide), cv9.set (by decide), by rw [fl_set (show 1 ≠ 2 by decide), fl_set (show 1 ≠ 6 by decide), fl_set (show 1 ≠ 7 by decide), fl_set (show 1 ≠ 9 by decide)]; exact hJ⟩
    · simp at hop; subst hop; simp [Region.binds] at haf
      obtain rfl := (cv1.get (by simp [haf])).symm
      have f2 := fl_no mc.new; rw [f2] at hJ
      have hsz := hJ.out.size
      refine step_mk IntE 3 0 Try.infoInt rfl Try.underlying24 (n) (by decide) (by omega) (by rfl) _ _ (by rfl) (by rfl) (by rfl) ?_; intro w6 ho6 hg6
      exact hK _ _ ⟨⟨some ⟨W.heap.size, 0, none⟩, n, n⟩, g, h, O, _, _, _, _, _, _, _, _, _, _, by simp only [putAll, Act.put, List.setIfInBounds_toArray, List.set_cons_succ, List.set_cons_zero], cv0.set (by decide), cv1.set (by decide), Vd.same (by simp), cv3.set (by decide), cv4.set (by decide), cv5.set (by decide), cv6.set (by decide), cv7.set (by decide), cv8.void (by decide) (by decide) mc.new, cv9.set (by decide), by rw [fl_got hs (by decide), fl_set (show 2 ≠ 6 by decide), fl_set (show 2 ≠ 7 by decide), fl_set (show 2 ≠ 9 by decide)]; exact hJ.mk1 ho6 hg6⟩
    · simp at hop; subst hop; simp [Region.binds] at haf
      go_simp
      exact hK _ _ ⟨f, g, h, O, _, _, _, _, _, _, _, _, _, _, by simp only [putAll, Act.put, List.setIfInBounds_toArray, List.set_cons_succ, List.set_cons_zero], cv0.set (by decide), cv1.set (by decide), cv2.set (by decide), Vd.same (by simp), cv4.set (by decide), cv5.set (by decide), cv6.set (by decide), cv7.set (by decide), cv8.set (by decide), cv9.set (by decide), by rw [fl_set (show 3 ≠ 2 by decide), fl_set (show 3 ≠ 6 by decide), fl_set (show 3 ≠ 7 by decide), fl_set (show 3 ≠ 9 by decide)]; exact hJ⟩
    · simp at hop; subst hop; simp [Region.binds] at haf
      obtain rfl := (cv3.get (by simp [haf])).symm
      go_simp
      exact hK _ _ ⟨f, g, h, O, _, _, _, _, _, _, _, _, _, _, by simp only [putAll, Act.put, List.setIfInBounds_toArray, List.set_cons_succ, List.set_cons_zero], cv0.set (by decide), cv1.set (by decide), cv2.set (by decide), cv3.set (by decide), Vd.same (by simp), cv5.set (by decide), cv6.set (by decide), cv7.set (by decide), cv8.set (by decide), cv9.set (by decide), by rw [fl_set (show 4 ≠ 2 by decide), fl_set (show 4 ≠ 6 by decide), fl_set (show 4 ≠ 7 by decide), fl_set (show 4 ≠ 9 by decide)]; exact hJ⟩
    · simp at hop; subst hop; simp [Region.binds] at haf
      obtain rfl := (cv4.get (by simp [haf])).symm
      have hw5 : IntKind.i64.wrap ((n : Int) * 3) = (n : Int) * 3 := wrapM (by omega) (by omega)
      go_simp
      exact hK _ _ ⟨f, g, h, O, _, _, _, _, _, _, _, _, _, _, by simp only [putAll, Act.put, List.setIfInBounds_toArray, List.set_cons_succ, List.set_cons_zero], cv0.set (by decide), cv1.set (by decide), cv2.set (by decide), cv3.set (by decide), cv4.set (by decide), Vd.same (by simp), cv6.set (by decide), cv7.set (by decide), cv8.set (by decide), cv9.set (by decide), by rw [fl_set (show 5 ≠ 2 by decide), fl_set (show 5 ≠ 6 by decide), fl_set (show 5 ≠ 7 by decide), fl_set (show 5 ≠ 9 by decide)]; exact hJ⟩
    · simp at hop; subst hop; simp [Region.binds] at haf
      obtain rfl := (cv5.get (by simp [haf])).symm
      have f6 := fl_no mc.new; rw [f6] at hJ
      have hsz := hJ.out.size
      refine step_mk IntE 3 0 Try.infoInt rfl Try.underlying24 (n * 3) (by decide) (by omega) (by rfl) _ _ (by rfl) (by show Value.int .i64 ((n : Int) * 3) = _; congr 1) (by show Value.int .i64 ((n : Int) * 3) = _; congr 1) ?_; intro w6 ho6 hg6
      exact hK _ _ ⟨f, ⟨some ⟨W.heap.size, 0, none⟩, n * 3, n * 3⟩, h, O, _, _, _, _, _, _, _, _, _, _, by simp only [putAll, Act.put, List.setIfInBounds_toArray, List.set_cons_succ, List.set_cons_zero], cv0.set (by decide), cv1.set (by decide), cv2.set (by decide), cv3.set (by decide), cv4.set (by decide), cv5.set (by decide), Vd.same (by simp), cv7.set (by decide), cv8.void (by decide) (by decide) mc.new, cv9.set (by decide), by rw [fl_set (show 6 ≠ 2 by decide), fl_got hs (by decide), fl_set (show 6 ≠ 7 by decide), fl_set (show 6 ≠ 9 by decide)]; exact hJ.mk2 ho6 hg6⟩
    · simp at hop; subst hop; simp [Region.binds] at haf
      have f7 := fl_no mc.new; rw [f7] at hJ
      have hsz := hJ.out.size
      refine step_mk IntE 3 0 Try.infoInt rfl Try.underlying24 (3) (by decide) (by omega) (by rfl) _ _ (by rfl) (by rfl) (by rfl) ?_; intro w6 ho6 hg6
      exact hK _ _ ⟨f, g, ⟨some ⟨W.heap.size, 0, none⟩, 3, 3⟩, O, _, _, _, _, _, _, _, _, _, _, by simp only [putAll, Act.put, List.setIfInBounds_toArray, List.set_cons_succ, List.set_cons_zero], cv0.set (by decide), cv1.set (by decide), cv2.set (by decide), cv3.set (by decide), cv4.set (by decide), cv5.set (by decide), cv6.set (by decide), Vd.same (by simp), cv8.void (by decide) (by decide) mc.new, cv9.set (by decide), by rw [fl_set (show 7 ≠ 2 by decide), fl_set (show 7 ≠ 6 by decide), fl_got hs (by decide), fl_set (show 7 ≠ 9 by decide)]; exact hJ.mk3 ho6 hg6⟩
    · simp at hop; subst hop; simp [Region.binds] at haf
      obtain rfl := (cv2.get (by simp [haf])).symm
      obtain rfl := (cv6.get (by simp [haf])).symm
      obtain rfl := (cv7.get (by simp [haf])).symm
      go_simp
      exact hK _ _ ⟨f, g, h, O, _, _, _, _, _, _, _, _, _, _, by simp only [putAll, Act.put, List.setIfInBounds_toArray, List.set_cons_succ, List.set_cons_zero], cv0.set (by decide), cv1.set (by decide), cv2.set (by decide), cv3.set (by decide), cv4.set (by decide), cv5.set (by decide), cv6.set (by decide), cv7.set (by decide), Vd.same (by simp [haf]), cv9.set (by decide), by rw [fl_set (show 8 ≠ 2 by decide), fl_set (show 8 ≠ 6 by decide), fl_set (show 8 ≠ 7 by decide), fl_set (show 8 ≠ 9 by decide)]; exact hJ⟩
    · simp at hop; subst hop; simp [Region.binds] at haf
      have f9 := fl_no mc.new; rw [f9] at hJ
      go_simp
      exact hK _ _ ⟨f, g, h, W.heap.size, _, _, _, _, _, _, _, _, _, _, by simp only [putAll, Act.put, List.setIfInBounds_toArray, List.set_cons_succ, List.set_cons_zero], cv0.set (by decide), cv1.set (by decide), cv2.set (by decide), cv3.set (by decide), cv4.set (by decide), cv5.set (by decide), cv6.set (by decide), cv7.set (by decide), cv8.set (by decide), Vd.same (by simp), by rw [fl_set (show 9 ≠ 2 by decide), fl_set (show 9 ≠ 6 by decide), fl_set (show 9 ≠ 7 by decide), fl_got hs (by decide)]; exact hJ.obj⟩
  case re =>
    rintro ls a' W hall ⟨f, g, h, O, x6, x7, x8, x9, x10, x11, x12, x13, x14, x5, ha, cv0, cv1, cv2, cv3, cv4, cv5, cv6, cv7, cv8, cv9, hJ⟩ o hop
    simp only [putAll, Act.put, List.setIfInBounds_toArray, List.set_cons_succ, List.set_cons_zero] at ha
    subst ha
    simp at hop; subst hop
    obtain rfl := (cv0.get (hall 0 (by decide))).symm
    obtain rfl := (cv1.get (hall 1 (by decide))).symm
    obtain rfl := (cv2.get (hall 2 (by decide))).symm
    obtain rfl := (cv3.get (hall 3 (by decide))).symm
    obtain rfl := (cv4.get (hall 4 (by decide))).symm
    obtain rfl := (cv5.get (hall 5 (by decide))).symm
    obtain rfl := (cv6.get (hall 6 (by decide))).symm
    obtain rfl := (cv7.get (hall 7 (by decide))).symm
    obtain rfl := (cv8.get (hall 8 (by decide))).symm
    obtain rfl := (cv9.get (hall 9 (by decide))).symm
    rw [fl_yes (hall 2 (by decide))] at hJ
    rw [fl_yes (hall 6 (by decide))] at hJ
    rw [fl_yes (hall 7 (by decide))] at hJ
    rw [fl_yes (hall 9 (by decide))] at hJ
    obtain ⟨hbo, hbB⟩ := hJ.ob rfl
    have hln := hJ.ln
    simp only [laneA, laneL, if_true] at hln
    have hbr := (hJ.out.block w.heap.size (by omega)).trans HR2.out
    have c0 : W.cell? ⟨O, 0, none⟩ = some (.slice none 0 0) := cellH hbo (k := 0) rfl
    have c1 : W.cell? ⟨O, 1, none⟩ = some (.slice none 0 0) := cellH hbo (k := 1) rfl
    have c2 : W.cell? ⟨O, 2, none⟩ = some (.slice none 0 0) := cellH hbo (k := 2) rfl
    have c3 : W.cell? ⟨O, 3, none⟩ = some (.slice none 0 0) := cellH hbo (k := 3) rfl
    have cfz := frozH hbo
    have cl := lt_of_cell c0
    go_simp
    have hb0 := heap_setCell_same W O 0 _ _ (.slice f.a f.n f.cap) hbo
    have hb1 := heap_setCell_same (W.setCell ⟨O, 0, none⟩ (.slice f.a f.n f.cap)) O 1 _ _ (.slice g.a g.n g.cap) hb0
    have hb2 := heap_setCell_same ((W.setCell ⟨O, 0, none⟩ (.slice f.a f.n f.cap)).setCell ⟨O, 1, none⟩ (.slice g.a g.n g.cap)) O 2 _ _ (.slice h.a h.n h.cap) hb1
    have hb3 := heap_setCell_same (((W.setCell ⟨O, 0, none⟩ (.slice f.a f.n f.cap)).setCell ⟨O, 1, none⟩ (.slice g.a g.n g.cap)).setCell ⟨O, 2, none⟩ (.slice h.a h.n h.cap)) O 3 _ _ (.slice none 0 0) hb2
    have hl3 := (((hln.setOther (j := 0) (u := .slice f.a f.n f.cap) (by decide) hbo).setOther (j := 1) (u := .slice g.a g.n g.cap) (by decide) hb0).setOther (j := 2) (u := .slice h.a h.n h.cap) (by decide) hb1).setOther (j := 3) (u := .slice none 0 0) (by decide) hb2
    have hO := (((hJ.out.setCell (p := ⟨O, 0, none⟩) hbB (.slice f.a f.n f.cap)).setCell (p := ⟨O, 1, none⟩) hbB (.slice g.a g.n g.cap)).setCell (p := ⟨O, 2, none⟩) hbB (.slice h.a h.n h.cap)).setCell (p := ⟨O, 3, none⟩) hbB (.slice none 0 0)
    have HO := hide hO; have HL3 := hide hl3; have HB3 := hide hb3; have HBO := hide hbB
    have P1 := hide (fun q hq => (World.ownsRow.lt hln.o1 q hq).2); have P2 := hide (fun q hq => (World.ownsRow.lt hln.o2 q hq).2); have P3 := hide (fun q hq => (World.ownsRow.lt hln.o3 q hq).2)
    obtain ⟨WB, hWB⟩ : ∃ WB, WB = (((W.setCell ⟨O, 0, none⟩ (.slice f.a f.n f.cap)).setCell ⟨O, 1, none⟩ (.slice g.a g.n g.cap)).setCell ⟨O, 2, none⟩ (.slice h.a h.n h.cap)).setCell ⟨O, 3, none⟩ (.slice none 0 0) := ⟨_, rfl⟩
    have hWs : WB.heap.size = W.heap.size := by rw [hWB]; simp
    rw [← hWB] at HO HL3 HB3
    simp at HB3
    rw [← hWB]
    have hOW : O < W.heap.size := (Array.getElem?_eq_some_iff.1 hbo).1
    clear hb0 hb1 hb2 hb3 hl3 hO hJ hln hbr c0 c1 c2 c3 cfz cl hbo hWB
    have e3 : WB.cell? ⟨O, 3, none⟩ = some (.slice none 0 0) := cellH HB3.out (k := 3) rfl
    have efz := frozH HB3.out
    have el := lt_of_cell e3
    go_wp2_with (at_make; refine wpList_make SlcE 24 ⟨none, 0, 0⟩ Try.infoIntSM rfl Try.underlying34 nb (by decide) (by omega) rfl _ _ rfl rfl rfl ?_; intro w5 hown5 hgr5; have hbo5 := (hgr5.block O el (by simp)).trans HB3.out; have g0 : w5.cell? ⟨O, 0, none⟩ = some (.slice f.a f.n f.cap) := cellH hbo5 (k := 0) rfl; have g1 : w5.cell? ⟨O, 1, none⟩ = some (.slice g.a g.n g.cap) := cellH hbo5 (k := 1) rfl; have g2 : w5.cell? ⟨O, 2, none⟩ = some (.slice h.a h.n h.cap) := cellH hbo5 (k := 2) rfl; have g3 : w5.cell? ⟨O, 3, none⟩ = some (.slice none 0 0) := cellH hbo5 (k := 3) rfl; have gfz := frozH hbo5; have gl := lt_of_cell g0; have hbr5 := (hgr5.block w.heap.size (by omega) (by simp)).trans ((HO.out.block w.heap.size (by omega)).trans HR2.out); have r0 : w5.cell? ⟨w.heap.size, 0, none⟩ = some (.slice none 0 0) := cellH hbr5 (k := 0) rfl; have r1 : w5.cell? ⟨w.heap.size, 1, none⟩ = some (.slice none 0 0) := cellH hbr5 (k := 1) rfl; have r2 : w5.cell? ⟨w.heap.size, 2, none⟩ = some (.slice none 0 0) := cellH hbr5 (k := 2) rfl; have r3 : w5.cell? ⟨w.heap.size, 3, none⟩ = some (.slice none 0 0) := cellH hbr5 (k := 3) rfl; have rfz := frozH hbr5; have rl := lt_of_cell r0; have O5 := hide hown5; have G5 := hide hgr5; have HBO5 := hide hbo5; have HBR5 := hide hbr5; have hne5 : O ≠ w.heap.size := (by omega); clear hown5 hgr5 hbo5 hbr5)
    have B5 := (Below.refl WB.heap.size WB).grown G5.out (Nat.le_refl _) (fun q hq => nomatch hq)
    have hS : OwnSt w5 A0.heap.size WB.heap.size ⟨f, g, h, ⟨some ⟨WB.heap.size, 0, none⟩, nb, nb⟩⟩ ⟨List.replicate n 0, List.replicate (n * 3) 0, List.replicate 3 0, List.replicate nb []⟩ :=
      ⟨HL3.out.below B5, Own2.made O5.out, fun q hq => by have := P1.out q hq; omega, fun q hq => by have := P2.out q hq; omega, fun q hq => by have := P3.out q hq; omega, by have := HO.out.size; omega, B5.size⟩
    have t0 : TyB 84 w5 O := ⟨_, HBO5.out⟩
    have t1 : TyB 84 w5 w.heap.size := ⟨_, HBR5.out⟩
    refine bodyPost_ret (v := .agg #[.slice f.a f.n f.cap, .slice g.a g.n g.cap, .slice h.a h.n h.cap, .slice (some ⟨WB.heap.size, 0, none⟩) nb nb]) (by simp [results, Try.results61, go_sem, *]) rfl ⟨⟨f, g, h, ⟨some ⟨WB.heap.size, 0, none⟩, nb, nb⟩⟩, WB.heap.size, rfl, ?_, ?_⟩
    · exact ((((((hS.setT (j := 3) (by decide) (by decide) t0).setT (by decide) (by decide) (t1.set _ _ _)).setT (by decide) (by decide) ((t1.set _ _ _).set _ _ _)).setT (by decide) (by decide) (((t1.set _ _ _).set _ _ _).set _ _ _)).setT (by decide) (by decide) ((((t1.set _ _ _).set _ _ _).set _ _ _).set _ _ _))).mono (by omega)
    · have hb9 := (HB.out.trans (HO.out.mono HB.out.size)).trans (B5.mono (by omega))
      exact ((((hb9.setCell (p := ⟨O, 3, none⟩) (show w.heap.size ≤ O by omega) _).setCell (p := ⟨w.heap.size, 0, none⟩) (Nat.le_refl _) _).setCell (p := ⟨w.heap.size, 1, none⟩) (Nat.le_refl _) _).setCell (p := ⟨w.heap.size, 2, none⟩) (Nat.le_refl _) _).setCell (p := ⟨w.heap.size, 3, none⟩) (Nat.le_refl _) _
  -- end start

end Go.Proofs.Ytpjebgiejkglpaa
