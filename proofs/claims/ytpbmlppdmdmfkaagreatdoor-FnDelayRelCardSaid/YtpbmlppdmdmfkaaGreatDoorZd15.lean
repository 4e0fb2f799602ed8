/-
  Plain: a valid program has a candidate.
-/
import Derived.Test.YtpbmlppdmdmfkaaGreatDoorZd13
import Derived.Test.YtpbmlppdmdmfkaaGreatDoorZd14
import Derived.Test.YtpbmlppdmdmfkaaGreatDoorZd09
import Derived.Test.YtpbmlppdmdmfkaaGreatDoorZd02
import Derived.Test.YtpbmlppdmdmfkaaGreatDoorZd07
namespace Go.Proofs.YtpbmlppdmdmfkaaGreatDoor
open Go.RowKit

/-- 'make' at a step of a region that draws. -/
theorem step_make {α : Type} (E : El α) {P : Program} {w : World} {ops : Array Oper} {o : Oper} {a : Act} {K : Act → World → Prop} {Q : Exit → Act → World → Prop} {F : Prop}
    (T : TypeId) (z : α) {zv : Value} {bytes : Nat} (hinfo : (P.info? T).map (fun i => (i.zero, i.size, i.bytes)) = some (some zv, E.sz, bytes)) (hz : zv.cells.toList = E.c z) {t : TypeId} (h1 : P.underlying t = some (.slice T))
    (n : Nat) (hby : bytes ≤ 256) (hn : n ≤ 1099511627776) (hg : o.guard = none) (l c : Operand) (hop : o.op = Op.makeSlice t l c) (hl : a.eval l = .int .i64 n) (hc : a.eval c = .int .i64 n)
    (hK : ∀ w', Own E T w' w.heap.size (.slice (some ⟨w.heap.size, 0, none⟩) n n) (List.replicate n z) → w.grownBy w' none → K (a.put o.dst (.slice (some ⟨w.heap.size, 0, none⟩) n n)) w') :
    if Region.wanted o (yielded ops a.tmps) = true then Oper.wp P o a w K Q else F := by
  obtain ⟨it, hi, hz0, hz1, hz2⟩ := info_parts hinfo
  have hw : Region.wanted o (yielded ops a.tmps) = true := by simp [Region.wanted, hg]
  rw [if_pos hw]
  obtain ⟨w', hrun, r1, r2⟩ := run_make_full (P := P) w w.heap.size t T it zv E.sz h1 hi hz0 hz1 .i64 .i64 n (by rw [hz2]; have := Nat.mul_le_mul hby hn; omega) (by unfold maxLen; omega) (Nat.le_refl _)
  unfold Oper.wp
  simp [execOp, hop, hl, hc, hrun, Result.andThen]
  refine hK w' ?_ r2
  unfold Own
  rw [List.length_replicate, ← made_eq z zv hz n]
  exact r1

structure JC (A0 : World) (B on : Nat) (fr : List Int) (c1 c2 c3 : Bool) (f : Slc) (m bo : Nat) (W : World) : Prop where
  out : Below B A0 W
  f : c1 = true → Own IntE 3 W B f.v fr
  o : c2 = true → Own SlcE 25 W B (.slice (some ⟨m, 0, none⟩) on on) (List.replicate on ⟨none, 0, 0⟩)
  b : c3 = true → W.heap[bo]? = some (.cells #[.slice none 0 0, .slice none 0 0] 35 (0, 0)) ∧ B ≤ bo
theorem JC.below {A0 : World} {B on : Nat} {fr : List Int} {c1 c2 c3 : Bool} {f : Slc} {m bo : Nat} {W W' : World} (h : JC A0 B on fr c1 c2 c3 f m bo W) (hB : B ≤ W.heap.size) (hb : Below W.heap.size W W') : JC A0 B on fr c1 c2 c3 f m bo W' :=
  ⟨h.out.trans (hb.mono hB), fun e => (h.f e).below hb, fun e => (h.o e).below hb, fun e => ⟨(hb.block bo (Array.getElem?_eq_some_iff.1 (h.b e).1).1).trans (h.b e).1, (h.b e).2⟩⟩
theorem JC.drew {A0 : World} {B on : Nat} {fr : List Int} {c1 c2 c3 : Bool} {f : Slc} {m bo : Nat} {W : World} (h : JC A0 B on fr c1 c2 c3 f m bo W) (hB : B ≤ W.heap.size) : JC A0 B on fr c1 c2 c3 f m bo W.drew := h.below hB (Below.refl _ _).drew

structure JR (A0 : World) (B : Nat) (r : List Int) (c : Bool) (g : Slc) (W : World) : Prop where
  out : Below A0.heap.size A0 W
  f : c = true → Own IntE 3 W B g.v r

/-- A candidate's two slices, its rows laid as far as k. -/
structure ClI (W : World) (B bo m on : Nat) (f : Slc) (fr : List Int) (od : List (List Int)) (k : Nat) (us : List Slc) : Prop where
  bo : W.heap[bo]? = some (.cells #[.slice f.a f.n f.cap, .slice (some ⟨m, 0, none⟩) on on] 35 (0, 0))
  f : Own IntE 3 W B f.v fr
  o : Own SlcE 25 W B (.slice (some ⟨m, 0, none⟩) on on) us
  r : ∀ (i : Nat) (s : Slc) (r : List Int), i < k → us[i]? = some s → od[i]? = some r → Own IntE 3 W B s.v r
theorem ClI.below {W W' : World} {B bo m on : Nat} {f : Slc} {fr : List Int} {od : List (List Int)} {k : Nat} {us : List Slc} (h : ClI W B bo m on f fr od k us) (hb : Below W.heap.size W W') : ClI W' B bo m on f fr od k us :=
  ⟨(hb.block bo (Array.getElem?_eq_some_iff.1 h.bo).1).trans h.bo, h.f.below hb, h.o.below hb, fun i s r h1 h2 h3 => (h.r i s r h1 h2 h3).below hb⟩
theorem Own.slcc {T : TypeId} {w : World} {base g n cap : Nat} {xs : List Slc} (h : Own SlcE T w base (.slice (some ⟨g, 0, none⟩) n cap) xs) {k : Nat} {x : Slc} (hx : xs[k]? = some x) :
    g < w.heap.size ∧ w.cell? ⟨g, k, none⟩ = some (.slice x.a x.n x.cap) ∧ ∀ j, w.frozen? ⟨g, j, none⟩ = false := by
  have := h.cell hx (j := 0) rfl
  simp only [SlcE, Nat.mul_one, Nat.add_zero] at this
  exact ⟨(World.ownsRow.lt h g rfl).2, this, fun j => h.frozen j⟩
theorem Own.setSlc {T : TypeId} {w : World} {base g n cap : Nat} {xs : List Slc} (h : Own SlcE T w base (.slice (some ⟨g, 0, none⟩) n cap) xs) {k : Nat} {z : Slc} (hz : xs[k]? = some z) (x : Slc) :
    Own SlcE T (w.setCell ⟨g, k, none⟩ (.slice x.a x.n x.cap)) base (.slice (some ⟨g, 0, none⟩) n cap) (xs.set k x) := by
  have h0 := h.set (i := k) (j := 0) x (u := .slice x.a x.n x.cap) (by decide) hz rfl
  simp only [SlcE, Nat.mul_one, Nat.add_zero] at h0
  exact h0
theorem Own.otherT {α : Type} {E : El α} {U T : TypeId} (hT : U ≠ T) {w : World} {base g j : Nat} {a : Array Value} {v u : Value} {xs : List α} (h : Own E U w base v xs) (hg : w.heap[g]? = some (.cells a T (0, 0))) : Own E U (w.setCell ⟨g, j, none⟩ u) base v xs :=
  h.sameV fun q hq => by
    obtain ⟨b, hb⟩ := h.typed hq
    refine heap_setCell_other w ⟨g, j, none⟩ q _ (show q ≠ g from ?_)
    rintro rfl
    rw [hg] at hb
    simp at hb
    exact hT hb.2.symm
theorem ClI.put {W : World} {B bo m on : Nat} {f : Slc} {fr : List Int} {od : List (List Int)} {k : Nat} {us : List Slc} (h : ClI W B bo m on f fr od k us) {s z : Slc} {r : List Int} (hz : us[k]? = some z) (hr : od[k]? = some r) (ho : Own IntE 3 W B s.v r) :
    ClI (W.setCell ⟨m, k, none⟩ (.slice s.a s.n s.cap)) B bo m on f fr od (k + 1) (us.set k s) := by
  obtain ⟨cur, hm⟩ := h.o.typed (g := m) rfl
  have hne : bo ≠ m := by
    rintro rfl
    have h1 := h.bo
    rw [hm] at h1; simp at h1
  refine ⟨(heap_setCell_other W ⟨m, k, none⟩ bo _ hne).trans h.bo, h.f.otherT (by decide) hm, h.o.setSlc hz s, fun i s' r' h1 h2 h3 => ?_⟩
  by_cases hi : i = k
  · subst hi
    have hlt := (List.getElem?_eq_some_iff.1 hz).1
    rw [List.getElem?_set, if_pos rfl, if_pos hlt] at h2
    rw [hr] at h3
    simp only [Option.some.injEq] at h2 h3
    subst h2; subst h3
    exact ho.otherT (by decide) hm
  · rw [List.getElem?_set, if_neg (fun e => hi e.symm)] at h2
    exact (h.r i s' r' (by omega) h2 h3).otherT (by decide) hm
theorem LocR.cong {T : TypeId} {lo hi : Nat} {w : World} {φ : World → Prop} (h : LocR T lo hi w φ) {ψ : World → Prop} (f : ∀ V, φ V → ψ V) : LocR T lo hi w ψ := h.map f
/-- What a copy hands back: its parts lie in what the call has made. -/
def RetXL (w : World) (x : Xc) (e : Ending) (w' : World) : Prop := ∃ f o : Slc, e = .returned (.agg #[.slice f.a f.n f.cap, .slice o.a o.n o.cap]) ∧ LocR 35 w.heap.size w'.heap.size w' (fun W => RepX W f.v o.v x) ∧ Below w.heap.size w w'
theorem ClI.loc {W : World} {B bo m on lo : Nat} {f : Slc} {x : Xc} {us : List Slc} (h : ClI W B bo m on f x.fr x.od on us) (hn : x.od.length = on) (hlo : lo ≤ B) : LocR 35 lo W.heap.size W (fun V => RepX V f.v (.slice (some ⟨m, 0, none⟩) on on) x) := by
  have hul : us.length = on := h.o.len.symm
  have h1 := (LocR.own (T := 35) (by decide) (h.f.mono hlo)).and (LocR.own (T := 35) (by decide) (h.o.mono hlo))
  have h2 : LocR 35 lo W.heap.size W (fun V => ∀ (i : Nat) (s : Slc) (r : List Int), us[i]? = some s → x.od[i]? = some r → Rep IntE V s.v r) :=
    LocR.all (Nat.le_refl _) fun i => LocR.all (Nat.le_refl _) fun s => LocR.all (Nat.le_refl _) fun r => LocR.imp (Nat.le_refl _) fun hs => LocR.imp (Nat.le_refl _) fun hr =>
      (LocR.own (T := 35) (by decide) ((h.r i s r (by rw [← hn]; exact (List.getElem?_eq_some_iff.1 hr).1) hs hr).mono hlo)).map fun _ k => k.rep
  exact (h1.and h2).map fun V k => ⟨k.1.1.rep, us, by rw [hul, hn], k.1.2.rep, k.2⟩

set_option maxRecDepth 100000 in
set_option maxHeartbeats 6400000 in
theorem cloneExec_any (vf vo : Value) (x : Xc) (w : World) (hx : RepX w vf vo x) (hl : x.fr.length ≤ 1048576) (hol : x.od.length ≤ 1048576) (hrl : ∀ o ∈ x.od, o.length ≤ 1048576) :
    Calls Tryz.prog 139 #[.agg #[vf, vo]] w (RetXL w x) := by
  have HX := hide hx
  obtain ⟨fa, fc, rfl, -, -, -, -⟩ := hx.fr.open
  obtain ⟨oa, oc, rfl, -, -, -, -⟩ := hx.od.open
  clear hx
  generalize hfn : x.fr.length = fn at *
  generalize hon : x.od.length = on at *
  have HFN := hide hfn; have HON := hide hon
  have HW : Hid (∃ A0, A0 = ((w.alloc (.cells #[.slice fa fn fc, .slice oa on oc] 35)).alloc (.cells #[.slice none 0 0, .slice none 0 0] 35))) := hide ⟨_, rfl⟩
  obtain ⟨A0, hA0⟩ := HW.out
  have HX2 : Hid (A0.heap[w.heap.size]? = some (.cells #[.slice fa fn fc, .slice oa on oc] 35 (0, 0))) := hide (by rw [hA0, heap_alloc_old _ _ (by simp)]; exact heap_alloc_new w _)
  have HR2 : Hid (A0.heap[w.heap.size + 1]? = some (.cells #[.slice none 0 0, .slice none 0 0] 35 (0, 0))) := hide (by
    have h := heap_alloc_new (w.alloc (.cells #[.slice fa fn fc, .slice oa on oc] 35)) (.cells #[.slice none 0 0, .slice none 0 0] 35)
    rw [hA0]; simpa using h)
  have HZ : Hid (A0.heap.size = w.heap.size + 2) := hide (by rw [hA0]; simp)
  have HB : Hid (Below w.heap.size w A0) := hide (by rw [hA0]; exact ((Below.refl w.heap.size w).alloc (Nat.le_refl _) _).alloc (by simp) _)
  have HA0 := hide hA0
  clear hfn hon hA0 HW
  go_enter Tryz.func139, Tryz.ntmps139
  go_wp2_with fail
  rw [← HA0.out]
  have hz := HZ.out
  -- reg clone
  refine wp_region_inv (n := 9) (by kernel_rfl) rfl (by kernel_rfl) (by kernel_rfl) (fun A ls a' W => ∃ (f : Slc) (m : Nat) (bo : Nat) (x6 x7 x8 x9 x10 x11 x12 x13 x3 : Value), a' = putAll A [(6, x6), (7, x7), (8, x8), (9, x9), (10, x10), (11, x11), (12, x12), (13, x13), (3, x3)] ∧ Vd ls 0 [] x6 (.pointer (some ⟨w.heap.size, 0, none⟩)) ∧ Vd ls 1 [] x7 (.slice fa fn fc) ∧ Vd ls 2 [] x8 (.slice f.a f.n f.cap) ∧ Vd ls 3 [] x9 (.pointer (some ⟨w.heap.size, 1, none⟩)) ∧ Vd ls 4 [] x10 (.slice oa on oc) ∧ Vd ls 5 [] x11 (.int .i64 on) ∧ Vd ls 6 [] x12 (.slice (some ⟨m, 0, none⟩) on on) ∧ Vd ls 7 [2, 6] x13 (.agg #[.slice f.a f.n f.cap, .slice (some ⟨m, 0, none⟩) on on]) ∧ Vd ls 8 [] x3 (.pointer (some ⟨bo, 0, none⟩)) ∧ JC A0 (w.heap.size + 2) on x.fr (fl ls 2) (fl ls 6) (fl ls 8) f m bo W) ?r0 ?rs ?re
  case r0 =>
    exact ⟨⟨none, 0, 0⟩, 0, 0, undef, undef, undef, undef, undef, undef, undef, undef, undef, by simp only [putAll, Act.put, List.setIfInBounds_toArray, List.set_cons_succ, List.set_cons_zero], Vd.start, Vd.start, Vd.start, Vd.start, Vd.start, Vd.start, Vd.start, Vd.start, Vd.start, by simp only [fl_start]; exact ⟨by rw [← hz]; exact (Below.refl _ _).drew, fun h => (nomatch h), fun h => (nomatch h), fun h => (nomatch h)⟩⟩
  case rs =>
    rintro ls a' W hs hnl ⟨f, m, bo, x6, x7, x8, x9, x10, x11, x12, x13, x3, ha, cv0, cv1, cv2, cv3, cv4, cv5, cv6, cv7, cv8, hJ⟩ k o hkn mc K hK
    simp only [putAll, Act.put, List.setIfInBounds_toArray, List.set_cons_succ, List.set_cons_zero] at ha
    subst ha
    have hkc : k = 0 ∨ k = 1 ∨ k = 2 ∨ k = 3 ∨ k = 4 ∨ k = 5 ∨ k = 6 ∨ k = 7 ∨ k = 8 := by omega
    have hop := mc.op
    have haf := mc.after
    rcases hkc with rfl | rfl | rfl | rfl | rfl | rfl | rfl | rfl | rfl
    · simp at hop; subst hop; simp [Region.binds] at haf
      have hbk := (hJ.out.block w.heap.size (by omega)).trans HX2.out
      have d0 : W.cell? ⟨w.heap.size, 0, none⟩ = some (.slice fa fn fc) := cell_of_heapV hbk (k := 0) rfl
      have d1 : W.cell? ⟨w.heap.size, 1, none⟩ = some (.slice oa on oc) := cell_of_heapV hbk (k := 1) rfl
      have dl := lt_of_cell d0
      go_simp
      exact hK _ _ ⟨f, m, bo, _, _, _, _, _, _, _, _, _, by simp only [putAll, Act.put, List.setIfInBounds_toArray, List.set_cons_succ, List.set_cons_zero], Vd.same (by simp), cv1.set (by decide), cv2.set (by decide), cv3.set (by decide), cv4.set (by decide), cv5.set (by decide), cv6.set (by decide), cv7.set (by decide), cv8.set (by decide), by rw [fl_set (show 0 ≠ 2 by decide), fl_set (show 0 ≠ 6 by decide), fl_set (show 0 ≠ 8 by decide)]; exact hJ⟩
    · simp at hop; subst hop; simp [Region.binds] at haf
      obtain rfl := (cv0.get (by simp [haf])).symm
      have hbk := (hJ.out.block w.heap.size (by omega)).trans HX2.out
      have d0 : W.cell? ⟨w.heap.size, 0, none⟩ = some (.slice fa fn fc) := cell_of_heapV hbk (k := 0) rfl
      have d1 : W.cell? ⟨w.heap.size, 1, none⟩ = some (.slice oa on oc) := cell_of_heapV hbk (k := 1) rfl
      have dl := lt_of_cell d0
      go_simp
      exact hK _ _ ⟨f, m, bo, _, _, _, _, _, _, _, _, _, by simp only [putAll, Act.put, List.setIfInBounds_toArray, List.set_cons_succ, List.set_cons_zero], cv0.set (by decide), Vd.same (by simp), cv2.set (by decide), cv3.set (by decide), cv4.set (by decide), cv5.set (by decide), cv6.set (by decide), cv7.set (by decide), cv8.set (by decide), by rw [fl_set (show 1 ≠ 2 by decide), fl_set (show 1 ≠ 6 by decide), fl_set (show 1 ≠ 8 by decide)]; exact hJ⟩
    · simp at hop; subst hop; simp [Region.binds] at haf
      obtain rfl := (cv1.get (by simp [haf])).symm
      have f2 := fl_no mc.new; rw [f2] at hJ
      go_simp
      have hsz := hJ.out.size
      go_at_call 161
      (with_reducible refine (CloneV_any (.slice fa fn fc) x.fr W ((HX.out.fr.below HB.out).below (hz ▸ hJ.out)) (by rw [HFN.out]; exact hl)).mono ?_); rintro e u' ⟨v', rfl, ho, hb⟩
      obtain ⟨⟨f1, f2, f3⟩, rfl, -⟩ := ho.toSlc
      exact hK _ _ ⟨⟨f1, f2, f3⟩, m, bo, _, _, _, _, _, _, _, _, _, by simp only [putAll, Act.put, List.setIfInBounds_toArray, List.set_cons_succ, List.set_cons_zero], cv0.set (by decide), cv1.set (by decide), Vd.same (by simp), cv3.set (by decide), cv4.set (by decide), cv5.set (by decide), cv6.set (by decide), cv7.void (by decide) (by decide) mc.new, cv8.set (by decide), by rw [fl_got hs (by decide), fl_set (show 2 ≠ 6 by decide), fl_set (show 2 ≠ 8 by decide)]; exact ⟨(hJ.below (by omega) hb).out, fun _ => ho.mono (by omega), (hJ.below (by omega) hb).o, (hJ.below (by omega) hb).b⟩⟩
    · simp at hop; subst hop; simp [Region.binds] at haf
      have hbk := (hJ.out.block w.heap.size (by omega)).trans HX2.out
      have d0 : W.cell? ⟨w.heap.size, 0, none⟩ = some (.slice fa fn fc) := cell_of_heapV hbk (k := 0) rfl
      have d1 : W.cell? ⟨w.heap.size, 1, none⟩ = some (.slice oa on oc) := cell_of_heapV hbk (k := 1) rfl
      have dl := lt_of_cell d0
      go_simp
      exact hK _ _ ⟨f, m, bo, _, _, _, _, _, _, _, _, _, by simp only [putAll, Act.put, List.setIfInBounds_toArray, List.set_cons_succ, List.set_cons_zero], cv0.set (by decide), cv1.set (by decide), cv2.set (by decide), Vd.same (by simp), cv4.set (by decide), cv5.set (by decide), cv6.set (by decide), cv7.set (by decide), cv8.set (by decide), by rw [fl_set (show 3 ≠ 2 by decide), fl_set (show 3 ≠ 6 by decide), fl_set (show 3 ≠ 8 by decide)]; exact hJ⟩
    · simp at hop; subst hop; simp [Region.binds] at haf
      obtain rfl := (cv3.get (by simp [haf])).symm
      have hbk := (hJ.out.block w.heap.size (by omega)).trans HX2.out
      have d0 : W.cell? ⟨w.heap.size, 0, none⟩ = some (.slice fa fn fc) := cell_of_heapV hbk (k := 0) rfl
      have d1 : W.cell? ⟨w.heap.size, 1, none⟩ = some (.slice oa on oc) := cell_of_heapV hbk (k := 1) rfl
      have dl := lt_of_cell d0
      go_simp
      exact hK _ _ ⟨f, m, bo, _, _, _, _, _, _, _, _, _, by simp only [putAll, Act.put, List.setIfInBounds_toArray, List.set_cons_succ, List.set_cons_zero], cv0.set (by decide), cv1.set (by decide), cv2.set (by decide), cv3.set (by decide), Vd.same (by simp), cv5.set (by decide), cv6.set (by decide), cv7.set (by decide), cv8.set (by decide), by rw [fl_set (show 4 ≠ 2 by decide), fl_set (show 4 ≠ 6 by decide), fl_set (show 4 ≠ 8 by decide)]; exact hJ⟩
    · simp at hop; subst hop; simp [Region.binds] at haf
      obtain rfl := (cv4.get (by simp [haf])).symm
      go_simp
      exact hK _ _ ⟨f, m, bo, _, _, _, _, _, _, _, _, _, by simp only [putAll, Act.put, List.setIfInBounds_toArray, List.set_cons_succ, List.set_cons_zero], cv0.set (by decide), cv1.set (by decide), cv2.set (by decide), cv3.set (by decide), cv4.set (by decide), Vd.same (by simp), cv6.set (by decide), cv7.set (by decide), cv8.set (by decide), by rw [fl_set (show 5 ≠ 2 by decide), fl_set (show 5 ≠ 6 by decide), fl_set (show 5 ≠ 8 by decide)]; exact hJ⟩
    · simp at hop; subst hop; simp [Region.binds] at haf
      obtain rfl := (cv5.get (by simp [haf])).symm
      have f6 := fl_no mc.new; rw [f6] at hJ
      have hsz := hJ.out.size
      refine step_make SlcE 25 ⟨none, 0, 0⟩ Tryz.infoIntS rfl Tryz.underlying33 on (by decide) (by omega) (by rfl) _ _ (by rfl) (by rfl) (by rfl) ?_; intro w6 ho hg
      have hb := Below.grown (Below.refl W.heap.size W) hg (Nat.le_refl _) (fun q hq => (nomatch hq))
      exact hK _ _ ⟨f, W.heap.size, bo, _, _, _, _, _, _, _, _, _, by simp only [putAll, Act.put, List.setIfInBounds_toArray, List.set_cons_succ, List.set_cons_zero], cv0.set (by decide), cv1.set (by decide), cv2.set (by decide), cv3.set (by decide), cv4.set (by decide), cv5.set (by decide), Vd.same (by simp), cv7.void (by decide) (by decide) mc.new, cv8.set (by decide), by rw [fl_set (show 6 ≠ 2 by decide), fl_got hs (by decide), fl_set (show 6 ≠ 8 by decide)]; exact ⟨(hJ.below (by omega) hb).out, (hJ.below (by omega) hb).f, fun _ => ho.mono (by omega), (hJ.below (by omega) hb).b⟩⟩
    · simp at hop; subst hop; simp [Region.binds] at haf
      obtain rfl := (cv2.get (by simp [haf])).symm
      obtain rfl := (cv6.get (by simp [haf])).symm
      go_simp
      exact hK _ _ ⟨f, m, bo, _, _, _, _, _, _, _, _, _, by simp only [putAll, Act.put, List.setIfInBounds_toArray, List.set_cons_succ, List.set_cons_zero], cv0.set (by decide), cv1.set (by decide), cv2.set (by decide), cv3.set (by decide), cv4.set (by decide), cv5.set (by decide), cv6.set (by decide), Vd.same (by simp [haf]), cv8.set (by decide), by rw [fl_set (show 7 ≠ 2 by decide), fl_set (show 7 ≠ 6 by decide), fl_set (show 7 ≠ 8 by decide)]; exact hJ⟩
    · simp at hop; subst hop; simp [Region.binds] at haf
      have f8 := fl_no mc.new; rw [f8] at hJ
      go_simp
      have hsz := hJ.out.size
      have hb := (Below.refl W.heap.size W).alloc (Nat.le_refl _) (.cells #[.slice none 0 0, .slice none 0 0] 35)
      exact hK _ _ ⟨f, m, W.heap.size, _, _, _, _, _, _, _, _, _, by simp only [putAll, Act.put, List.setIfInBounds_toArray, List.set_cons_succ, List.set_cons_zero], cv0.set (by decide), cv1.set (by decide), cv2.set (by decide), cv3.set (by decide), cv4.set (by decide), cv5.set (by decide), cv6.set (by decide), cv7.set (by decide), Vd.same (by simp), by rw [fl_set (show 8 ≠ 2 by decide), fl_set (show 8 ≠ 6 by decide), fl_got hs (by decide)]; exact ⟨(hJ.below (by omega) hb).out, (hJ.below (by omega) hb).f, (hJ.below (by omega) hb).o, fun _ => ⟨heap_alloc_new W _, by omega⟩⟩⟩
  case re =>
    rintro ls a' W hall ⟨f, m, bo, x6, x7, x8, x9, x10, x11, x12, x13, x3, ha, cv0, cv1, cv2, cv3, cv4, cv5, cv6, cv7, cv8, hJ⟩ o hop
    simp only [putAll, Act.put, List.setIfInBounds_toArray, List.set_cons_succ, List.set_cons_zero] at ha
    subst ha
    simp at hop; subst hop
    obtain rfl := (cv0.get (hall 0 (by decide))).symm
    obtain rfl := (cv1.get (hall 1 (by decide))).symm
    obtain rfl := (cv2.get (hall 2 (by decide))).symm
    obtain rfl := (cv3.get (hall 3 (by decide))).symm
    obtain rfl := (cv4.get (hall 4 (by decide))).symm
    obtain rfl := (cv5.get (hall 5 (by decide))).symm
    obtain rfl := (cv6.get (hall 6 (by decide))).symm
    obtain rfl := (cv7.get (hall 7 (by decide))).symm
    obtain rfl := (cv8.get (hall 8 (by decide))).symm
    rw [fl_yes (hall 2 (by decide))] at hJ
    rw [fl_yes (hall 6 (by decide))] at hJ
    rw [fl_yes (hall 8 (by decide))] at hJ
    obtain ⟨hbo, hbB⟩ := hJ.b rfl
    have hbk := (hJ.out.block w.heap.size (by omega)).trans HX2.out
    have d1 : W.cell? ⟨w.heap.size, 1, none⟩ = some (.slice oa on oc) := cell_of_heapV hbk (k := 1) rfl
    have dl := lt_of_cell d1
    have hne1 : w.heap.size ≠ bo := by omega
    have c0 : W.cell? ⟨bo, 0, none⟩ = some (.slice none 0 0) := cell_of_heapV hbo (k := 0) rfl
    have c1 : W.cell? ⟨bo, 1, none⟩ = some (.slice none 0 0) := cell_of_heapV hbo (k := 1) rfl
    have cfz := frozen_of_heapV hbo
    have cl := lt_of_cell c0
    go_simp
    have hb1 := heap_setCell_same W bo 0 _ _ (.slice f.a f.n f.cap) hbo
    have hb2 := heap_setCell_same (W.setCell ⟨bo, 0, none⟩ (.slice f.a f.n f.cap)) bo 1 _ _ (.slice (some ⟨m, 0, none⟩) on on) hb1
    have HC := hide (ClI.mk (k := 0) (us := List.replicate on ⟨none, 0, 0⟩) (od := x.od) hb2 (((hJ.f rfl).otherT (j := 0) (u := .slice f.a f.n f.cap) (by decide) hbo).otherT (j := 1) (u := .slice (some ⟨m, 0, none⟩) on on) (by decide) hb1) (((hJ.o rfl).otherT (j := 0) (u := .slice f.a f.n f.cap) (by decide) hbo).otherT (j := 1) (u := .slice (some ⟨m, 0, none⟩) on on) (by decide) hb1) (fun i s r h => absurd h (Nat.not_lt_zero i)))
    have HO := hide ((hJ.out.setCell (p := ⟨bo, 0, none⟩) hbB (.slice f.a f.n f.cap)).setCell (p := ⟨bo, 1, none⟩) hbB (.slice (some ⟨m, 0, none⟩) on on))
    have HBO := hide hbB
    clear hb1 hb2 hJ hbk c0 c1 cfz cl hbo
    go_wp2_with fail
    clear d1 dl hne1 hbB
    go_loopw [17] (fun i wr => ∃ j : Nat, j ≤ on ∧ i = .int .i64 j ∧ (∃ us : List Slc, us.length = on ∧ ClI wr (w.heap.size + 2) bo m on f x.fr x.od j us) ∧ Below (w.heap.size + 2) A0 wr) (fun i _ => on - (intOf i).toNat)
    case atStart => exact ⟨0, Nat.zero_le _, rfl, ⟨_, List.length_replicate, HC.out⟩, HO.out⟩
    case round =>
      obtain ⟨j, hj, rfl, ⟨us, hul, hc⟩, hbr⟩ := hrel
      by_cases hlt : j < on
      · obtain ⟨r, hrk⟩ := get_of_lt (xs := x.od) (k := j) (by rw [HON.out]; exact hlt)
        obtain ⟨z, hz⟩ := get_of_lt (xs := us) (k := j) (by rw [hul]; exact hlt)
        have hltk := nat_of_lt hlt
        obtain ⟨b2, o2, ra, rc, rfl, hbl2, q0, q1⟩ := ((HX.out.od.below HB.out).below (HZ.out ▸ hbr)).row hrk
        have hrl1 := hrl r (List.mem_of_getElem? hrk)
        have HC2 := hide hc; have HQ := hide q1; have HBR := hide hbr; have HRK := hide hrk; have HZK := hide hz; have HUL := hide hul; have HRL := hide hrl1
        clear hc q1 hbr hrk hz hul hrl1
        go_wp2_with fail
        -- reg row
        refine wp_region_inv (n := 6) (by kernel_rfl) rfl (by kernel_rfl) (by kernel_rfl) (fun A ls a' W => ∃ (g : Slc) (x22 x23 x24 x25 x26 x27 : Value), a' = putAll A [(22, x22), (23, x23), (24, x24), (25, x25), (26, x26), (27, x27)] ∧ Vd ls 0 [] x22 (.pointer (some ⟨bo, 1, none⟩)) ∧ Vd ls 1 [] x23 (.slice (some ⟨m, 0, none⟩) on on) ∧ Vd ls 2 [] x24 (.int .i64 j) ∧ Vd ls 3 [] x25 (.slice ra r.length rc) ∧ Vd ls 4 [] x26 (.slice g.a g.n g.cap) ∧ Vd ls 5 [] x27 (.pointer (some ⟨m, j, none⟩)) ∧ JR wr (w.heap.size + 2) r (fl ls 4) g W) ?r0 ?rs ?re
        case r0 =>
          exact ⟨⟨none, 0, 0⟩, u22, u23, u24, u25, u26, u27, by simp only [putAll, Act.put, List.setIfInBounds_toArray, List.set_cons_succ, List.set_cons_zero], Vd.start, Vd.start, Vd.start, Vd.start, Vd.start, Vd.start, by simp only [fl_start]; exact ⟨(Below.refl _ _).drew, fun h => (nomatch h)⟩⟩
        case rs =>
          rintro ls a' W hs hnl ⟨g, x22, x23, x24, x25, x26, x27, ha, cv0, cv1, cv2, cv3, cv4, cv5, hJ⟩ k o hkn mc K hK
          simp only [putAll, Act.put, List.setIfInBounds_toArray, List.set_cons_succ, List.set_cons_zero] at ha
          subst ha
          have hkc : k = 0 ∨ k = 1 ∨ k = 2 ∨ k = 3 ∨ k = 4 ∨ k = 5 := by omega
          have hop := mc.op
          have haf := mc.after
          rcases hkc with rfl | rfl | rfl | rfl | rfl | rfl
          · simp at hop; subst hop; simp [Region.binds] at haf
            go_simp
            exact hK _ _ ⟨g, _, _, _, _, _, _, by simp only [putAll, Act.put, List.setIfInBounds_toArray, List.set_cons_succ, List.set_cons_zero], Vd.same (by simp), cv1.set (by decide), cv2.set (by decide), cv3.set (by decide), cv4.set (by decide), cv5.set (by decide), by rw [fl_set (show 0 ≠ 4 by decide)]; exact hJ⟩
          · simp at hop; subst hop; simp [Region.binds] at haf
            obtain rfl := (cv0.get (by simp [haf])).symm
            have e1 : W.cell? ⟨bo, 1, none⟩ = some (.slice (some ⟨m, 0, none⟩) on on) := cell_of_heapV (HC2.out.below hJ.out).bo (k := 1) rfl
            have el := lt_of_cell e1
            go_simp
            exact hK _ _ ⟨g, _, _, _, _, _, _, by simp only [putAll, Act.put, List.setIfInBounds_toArray, List.set_cons_succ, List.set_cons_zero], cv0.set (by decide), Vd.same (by simp), cv2.set (by decide), cv3.set (by decide), cv4.set (by decide), cv5.set (by decide), by rw [fl_set (show 1 ≠ 4 by decide)]; exact hJ⟩
          · simp at hop; subst hop; simp [Region.binds] at haf
            go_simp
            exact hK _ _ ⟨g, _, _, _, _, _, _, by simp only [putAll, Act.put, List.setIfInBounds_toArray, List.set_cons_succ, List.set_cons_zero], cv0.set (by decide), cv1.set (by decide), Vd.same (by simp), cv3.set (by decide), cv4.set (by decide), cv5.set (by decide), by rw [fl_set (show 2 ≠ 4 by decide)]; exact hJ⟩
          · simp at hop; subst hop; simp [Region.binds] at haf
            go_simp
            exact hK _ _ ⟨g, _, _, _, _, _, _, by simp only [putAll, Act.put, List.setIfInBounds_toArray, List.set_cons_succ, List.set_cons_zero], cv0.set (by decide), cv1.set (by decide), cv2.set (by decide), Vd.same (by simp), cv4.set (by decide), cv5.set (by decide), by rw [fl_set (show 3 ≠ 4 by decide)]; exact hJ⟩
          · simp at hop; subst hop; simp [Region.binds] at haf
            obtain rfl := (cv3.get (by simp [haf])).symm
            have f4 := fl_no mc.new; rw [f4] at hJ
            go_simp
            have hsz := hJ.out.size
            have hsz2 := HBR.out.size
            go_at_call 161
            (with_reducible refine (CloneV_any (.slice ra r.length rc) r W (HQ.out.below hJ.out) HRL.out).mono ?_); rintro e u' ⟨v', rfl, ho, hb⟩
            obtain ⟨⟨f1, f2, f3⟩, rfl, -⟩ := ho.toSlc
            exact hK _ _ ⟨⟨f1, f2, f3⟩, _, _, _, _, _, _, by simp only [putAll, Act.put, List.setIfInBounds_toArray, List.set_cons_succ, List.set_cons_zero], cv0.set (by decide), cv1.set (by decide), cv2.set (by decide), cv3.set (by decide), Vd.same (by simp), cv5.set (by decide), by rw [fl_got hs (by decide)]; exact ⟨hJ.out.trans (hb.mono hsz), fun _ => ho.mono (by have := HZ.out; omega)⟩⟩
          · simp at hop; subst hop; simp [Region.binds] at haf
            obtain rfl := (cv1.get (by simp [haf])).symm
            obtain rfl := (cv2.get (by simp [haf])).symm
            go_simp
            exact hK _ _ ⟨g, _, _, _, _, _, _, by simp only [putAll, Act.put, List.setIfInBounds_toArray, List.set_cons_succ, List.set_cons_zero], cv0.set (by decide), cv1.set (by decide), cv2.set (by decide), cv3.set (by decide), cv4.set (by decide), Vd.same (by simp), by rw [fl_set (show 5 ≠ 4 by decide)]; exact hJ⟩
        case re =>
          rintro ls a' W hall ⟨g, x22, x23, x24, x25, x26, x27, ha, cv0, cv1, cv2, cv3, cv4, cv5, hJ⟩ o hop
          simp only [putAll, Act.put, List.setIfInBounds_toArray, List.set_cons_succ, List.set_cons_zero] at ha
          subst ha
          simp at hop; subst hop
          obtain rfl := (cv0.get (hall 0 (by decide))).symm
          obtain rfl := (cv1.get (hall 1 (by decide))).symm
          obtain rfl := (cv2.get (hall 2 (by decide))).symm
          obtain rfl := (cv3.get (hall 3 (by decide))).symm
          obtain rfl := (cv4.get (hall 4 (by decide))).symm
          obtain rfl := (cv5.get (hall 5 (by decide))).symm
          rw [fl_yes (hall 4 (by decide))] at hJ
          have hC3 := HC2.out.below hJ.out
          obtain ⟨zl, zc, zf⟩ := hC3.o.slcc HZK.out
          have hmB := (World.ownsRow.lt hC3.o m rfl).1
          go_simp
          have hP := hC3.put HZK.out HRK.out (hJ.f rfl)
          have hBo := HBR.out.trans (hJ.out.mono (by have := HBR.out.size; have := HZ.out; omega))
          have HP := hide hP; have HBo := hide hBo
          have HMB := hide hmB
          clear hP hBo hC3 zc zl zf hJ hmB
          go_wp2_with fail
          go_roundw
          case rel => exact ⟨j + 1, by omega, by go_num, ⟨_, by rw [List.length_set]; exact HUL.out, HP.out⟩, HBo.out.setCell (p := ⟨m, j, none⟩) HMB.out _⟩
          case measure => simp [intOf]; omega
        -- end row
      · obtain rfl : j = on := by omega
        have b0 : wr.cell? ⟨bo, 0, none⟩ = some (.slice f.a f.n f.cap) := cell_of_heapV hc.bo (k := 0) rfl
        have b1 : wr.cell? ⟨bo, 1, none⟩ = some (.slice (some ⟨m, 0, none⟩) j j) := cell_of_heapV hc.bo (k := 1) rfl
        have hr2 := (hbr.block (w.heap.size + 1) (by omega)).trans HR2.out
        have r0 : wr.cell? ⟨w.heap.size + 1, 0, none⟩ = some (.slice none 0 0) := cell_of_heapV hr2 (k := 0) rfl
        have r1 : wr.cell? ⟨w.heap.size + 1, 1, none⟩ = some (.slice none 0 0) := cell_of_heapV hr2 (k := 1) rfl
        have rfz := frozen_of_heapV hr2
        have rl := lt_of_cell r0
        go_wp2_with fail
        refine bodyPost_ret (v := .agg #[.slice f.a f.n f.cap, .slice (some ⟨m, 0, none⟩) j j]) (by simp [results, Tryz.results139, go_sem, *]) rfl ⟨f, ⟨some ⟨m, 0, none⟩, j, j⟩, rfl, ?_, ?_⟩
        · have h1 := hc.loc (lo := w.heap.size) HON.out (by omega)
          have h2 : LocR 35 w.heap.size wr.heap.size ((wr.setCell ⟨w.heap.size + 1, 0, none⟩ (.slice f.a f.n f.cap)).setCell ⟨w.heap.size + 1, 1, none⟩ (.slice (some ⟨m, 0, none⟩) j j)) (fun V => RepX V f.v (.slice (some ⟨m, 0, none⟩) j j) x) := h1.step (by simp) (fun k ob hk1 hk2 hk3 hk4 => by
            have hne : k ≠ w.heap.size + 1 := by rintro rfl; rw [hr2] at hk3; simp at hk3; subst hk3; exact hk4 _ _ rfl
            rw [heap_setCell_other _ ⟨w.heap.size + 1, 1, none⟩ k _ hne, heap_setCell_other _ ⟨w.heap.size + 1, 0, none⟩ k _ hne]; exact hk3)
          simpa using h2
        · exact (((hbr.mono (show w.heap.size ≤ w.heap.size + 2 by omega)) |> fun h => HB.out.trans h).setCell (p := ⟨w.heap.size + 1, 0, none⟩) (show w.heap.size ≤ w.heap.size + 1 by omega) _).setCell (p := ⟨w.heap.size + 1, 1, none⟩) (show w.heap.size ≤ w.heap.size + 1 by omega) _
  -- end clone

end Go.Proofs.YtpbmlppdmdmfkaaGreatDoor

namespace Go.Proofs.YtpbmlppdmdmfkaaGreatDoor
open Go.RowKit

theorem RowsG.loc {α : Type} {E : El α} {T TS T' : TypeId} (h1 : TS ≠ T') (h2 : T ≠ T') {w : World} {base : Nat} {a : Option Addr} {n c : Nat} {L : List (List α)} (h : RowsG E T TS w base (.slice a n c) L) :
    LocR T' base w.heap.size w (fun V => ∀ (k : Nat) (r : List α), L[k]? = some r → ∃ (u : Slc) (g : Nat), a = some ⟨g, 0, none⟩ ∧ g < V.heap.size ∧ V.cell? ⟨g, k, none⟩ = some (.slice u.a u.n u.cap) ∧ Rep E V u.v r) := by
  obtain ⟨us, ds, h⟩ := h
  have k1 := LocR.own h1 h.own
  have k2 : LocR T' base w.heap.size w (fun W => ∀ (i : Nat) (u : Slc) (r : List α), us[i]? = some u → L[i]? = some r → Rep E W u.v r) := by
    refine LocR.all (Nat.le_refl _) fun i => LocR.all (Nat.le_refl _) fun u => LocR.all (Nat.le_refl _) fun r => LocR.imp (Nat.le_refl _) fun hu => LocR.imp (Nat.le_refl _) fun hr => ?_
    obtain ⟨d, hd⟩ := get_of_lt (xs := ds) (k := i) (by rw [h.ld]; exact (List.getElem?_eq_some_iff.1 hr).1)
    obtain ⟨r1, r2⟩ := h.rows i u d r hu hd hr
    exact ((LocR.own h2 r2.now.1).wide r1 (Nat.le_refl _) (Nat.le_refl _)).map fun V k => k.rep
  refine (k1.and k2).map fun V ⟨ha, hb⟩ k r hr => ?_
  obtain ⟨u, hu⟩ := get_of_lt (xs := us) (k := k) (by rw [h.lu]; exact (List.getElem?_eq_some_iff.1 hr).1)
  rcases ha.shape with ⟨-, hn⟩ | ⟨g, cap, hv, -⟩
  · rw [hn] at hu; simp at hu
  · simp only [Value.slice.injEq] at hv
    obtain ⟨rfl, rfl, rfl⟩ := hv
    obtain ⟨z1, z2, -⟩ := ha.slcc hu
    exact ⟨u, g, rfl, z1, z2, hb k u r hu hr⟩

theorem RowsI.locO {w : World} {base : Nat} {s : Slc} {L : List (List Int)} (h : RowsI w base s.v L) : ∃ us : List Slc, LocR 33 base w.heap.size w (fun W => PhiO ⟨base, w.heap.size, us⟩ W s L) := by
  obtain ⟨us, ds, h⟩ := h
  have k1 := LocR.own (T := 33) (by decide) h.own
  have k2 : LocR 33 base w.heap.size w (fun W => ∀ (i : Nat) (u : Slc) (r : List Int), us[i]? = some u → L[i]? = some r → Rep IntE W u.v r) := by
    refine LocR.all (Nat.le_refl _) fun i => LocR.all (Nat.le_refl _) fun u => LocR.all (Nat.le_refl _) fun r => LocR.imp (Nat.le_refl _) fun hu => LocR.imp (Nat.le_refl _) fun hr => ?_
    obtain ⟨d, hd⟩ := get_of_lt (xs := ds) (k := i) (by rw [h.ld]; exact (List.getElem?_eq_some_iff.1 hr).1)
    obtain ⟨r1, r2⟩ := h.rows i u d r hu hd hr
    exact ((LocR.own (by decide) r2.now.1).wide r1 (Nat.le_refl _) (Nat.le_refl _)).map fun V k => k.rep
  exact ⟨us, (k1.and k2).map fun V ⟨a, b⟩ => ⟨h.lu, a.rep, b⟩⟩

theorem RowsO.app {us : List Slc} {ds : List Dd} {w w1 w2 : World} {base : Nat} {v v' : Value} {L : List (List (List Int))} (h : OwnFU SlcE 33 Rany PhiO us ds w base v L) (hb : Below w.heap.size w w1) {lo : Nat} (hlo : base ≤ lo) {o : List (List Int)} {s : Slc} {ob : Obj}
    (hu : RowsI w1 lo s.v o) (ho : Own SlcE 33 w2 base v' (us ++ [s])) (hg : (w1.alloc ob).grownBy w2 v.ownBlock) : RowsO w2 base v' (L ++ [o]) := by
  have hba := (Below.refl w1.heap.size w1).alloc (Nat.le_refl _) ob
  obtain ⟨xs, hx⟩ := hu.locO
  exact ⟨us ++ [s], ds ++ [⟨lo, w1.heap.size, xs⟩], OwnFU.app (d := ⟨lo, w1.heap.size, xs⟩) ((h.below hb).below hba) ho hg hlo (hx.below hba) (fun _ _ => trivial)⟩

/-- Lists of choices whose slices read as other choices. -/
def Reads2 (w : World) (Ps : List (List (Slc × List Int))) : Prop := ∀ c ∈ Ps, ∀ q ∈ c, Rep IntE w q.1.v q.2
theorem Reads2.below {w w' : World} {Ps : List (List (Slc × List Int))} (h : Reads2 w Ps) (hb : Below w.heap.size w w') : Reads2 w' Ps := fun c hc q hq => (h c hc q hq).below hb
theorem RowsO.pairs {w : World} {base : Nat} {v : Value} {L : List (List (List Int))} (h : RowsO w base v L) : ∃ Ps : List (List (Slc × List Int)), L = Ps.map (List.map Prod.snd) ∧ Rep2 SlcE w v (Ps.map (List.map Prod.fst)) ∧ Reads2 w Ps := by
  obtain ⟨us, ds, h⟩ := h
  have hz : ∀ (i : Nat) (d : Dd) (l : List (List Int)), ds[i]? = some d → L[i]? = some l → d.us.length = l.length := fun i d l h1 h2 => by
    obtain ⟨u, hu⟩ := get_of_lt (xs := us) (k := i) (by rw [h.lu]; exact (List.getElem?_eq_some_iff.1 h2).1)
    exact (h.rows i u d l hu h1 h2).2.now.1
  refine ⟨(ds.zip L).map fun q => q.1.us.zip q.2, ?_, ?_, ?_⟩
  · apply List.ext_getElem?
    intro i
    simp only [List.getElem?_map, List.map_map]
    cases hL : L[i]? with
    | none => rw [List.getElem?_eq_none (by simp; have := List.getElem?_eq_none_iff.1 hL; omega)]; rfl
    | some l =>
      obtain ⟨d, hd⟩ := get_of_lt (xs := ds) (k := i) (by rw [h.ld]; exact (List.getElem?_eq_some_iff.1 hL).1)
      have hzl : (ds.zip L)[i]? = some (d, l) := List.getElem?_zip_eq_some.2 ⟨hd, hL⟩
      rw [hzl]
      simp only [Option.map_some, Function.comp, Option.some.injEq]
      rw [List.map_snd_zip (by rw [hz i d l hd hL]; exact Nat.le_refl _)]
  · refine ⟨us, by simp [h.lu, h.ld], h.own.rep, fun i u r h1 h2 => ?_⟩
    simp only [List.getElem?_map, List.map_map] at h2
    cases hL : L[i]? with
    | none => rw [List.getElem?_eq_none (by simp; have := List.getElem?_eq_none_iff.1 hL; omega)] at h2; cases h2
    | some l =>
      obtain ⟨d, hd⟩ := get_of_lt (xs := ds) (k := i) (by rw [h.ld]; exact (List.getElem?_eq_some_iff.1 hL).1)
      have hzl : (ds.zip L)[i]? = some (d, l) := List.getElem?_zip_eq_some.2 ⟨hd, hL⟩
      rw [hzl] at h2
      simp only [Option.map_some, Function.comp, Option.some.injEq] at h2
      rw [List.map_fst_zip (by rw [hz i d l hd hL]; exact Nat.le_refl _)] at h2
      subst h2
      exact (h.rows i u d l h1 hd hL).2.now.2.1
  · intro c hc q hq
    obtain ⟨⟨d, l⟩, hm, rfl⟩ := List.mem_map.1 hc
    obtain ⟨i, hi⟩ := List.mem_iff_getElem?.1 hm
    obtain ⟨hd, hL⟩ := List.getElem?_zip_eq_some.1 hi
    obtain ⟨j, hj⟩ := List.mem_iff_getElem?.1 hq
    obtain ⟨e1, e2⟩ := List.getElem?_zip_eq_some.1 hj
    obtain ⟨u, hu⟩ := get_of_lt (xs := us) (k := i) (by rw [h.lu]; exact (List.getElem?_eq_some_iff.1 hL).1)
    exact (h.rows i u d l hu hd hL).2.now.2.2 j q.1 q.2 e1 e2

theorem prodR_read {w : World} {Ps : List (List (Slc × List Int))} (h : Reads2 w Ps) {j : Nat} {o : List (List Int)} (ho : (prodR (Ps.map (List.map Prod.snd)))[j]? = some o) :
    ∃ r : List Slc, (prodR (Ps.map (List.map Prod.fst)))[j]? = some r ∧ r.length = o.length ∧ ∀ (i : Nat) (s : Slc) (x : List Int), r[i]? = some s → o[i]? = some x → Rep IntE w s.v x := by
  rw [prodR_map, List.getElem?_map] at ho
  cases hq : (prodR Ps)[j]? with
  | none => rw [hq] at ho; cases ho
  | some q =>
    rw [hq] at ho
    simp only [Option.map_some, Option.some.injEq] at ho
    subst ho
    refine ⟨q.map Prod.fst, by rw [prodR_map, List.getElem?_map, hq]; rfl, by simp, fun i s x h1 h2 => ?_⟩
    rw [List.getElem?_map] at h1 h2
    cases hp : q[i]? with
    | none => rw [hp] at h1; cases h1
    | some y =>
      rw [hp] at h1 h2
      simp only [Option.map_some, Option.some.injEq] at h1 h2
      subst h1; subst h2
      obtain ⟨c, hc, hy⟩ := prodR_mem Ps q (List.mem_of_getElem? hq) y (List.mem_of_getElem? hp)
      exact h c hc y hy

theorem chsF_get {es : List Ev} {k : Nat} {e : Ev} (h : es[k]? = some e) : (chsF es)[k]? = some (if e.r = true then (wrL es e.l).filter (fun x => !(x == (k : Int))) else [-1]) := by
  obtain ⟨hk, rfl⟩ := List.getElem?_eq_some_iff.1 h
  simp [chsF, hk, chF]
theorem chsF_length (es : List Ev) : (chsF es).length = es.length := by simp [chsF]
theorem chsF_row {es : List Ev} {c : List Int} (h : c ∈ chsF es) : c.length ≤ es.length + 1 := by
  obtain ⟨i, hi, rfl⟩ := List.mem_map.1 h
  unfold chF
  split
  · split
    · have h1 := List.length_filter_le (fun x => !(x == (i : Int))) (wrL es ‹Ev›.l)
      have := wrL_length es ‹Ev›.l
      omega
    · simp
  · simp
theorem chsO_get (es : List Ev) {k : Nat} (h : k < 3) : (chsO es)[k]? = some (chO es k) := by simp [chsO, h]
theorem chsO_length (es : List Ev) : (chsO es).length = 3 := by simp [chsO]

end Go.Proofs.YtpbmlppdmdmfkaaGreatDoor

namespace Go.Proofs.YtpbmlppdmdmfkaaGreatDoor
open Go.RowKit

theorem below_of_rowK {B g : Nat} {w w' : World} (h : w.grownBy w' (some g)) (hg : B ≤ g) (hs : B ≤ w.heap.size) : Below B w w' := ⟨h.os, h.tape, h.output, h.size, fun k hk => h.block k (by omega) (by simp; omega)⟩
theorem DelPost.toSlc {w w' : World} {base : Nat} {T : TypeId} {v : Value} {ys : List Int} {e : Ending} (h : DelPost IntE T w base v ys e w') : ∃ u : Slc, e = .returned (.slice u.a u.n u.cap) ∧ Own IntE T w' base u.v ys ∧ w.grownBy w' v.ownBlock := by
  obtain ⟨v', rfl, h1, h2, -⟩ := h
  obtain ⟨u, rfl, -⟩ := h1.toSlc
  exact ⟨u, rfl, h1, h2⟩

/-- What a function value that tests a number does, wherever it is called as long as what lay in w0 is as it was. -/
def TestsN (a1 : Addr) (f : Int → Bool) (w0 : World) : Prop := ∀ (x : Int) (w : World), Below w0.heap.size w0 w → Calls Tryz.prog 135 #[.int .i64 x, .pointer (some a1)] w fun e w' => e = .returned (.bool (f x)) ∧ Below w.heap.size w w'
theorem testsN (b i : Nat) (w0 : World) (h : w0.cell? ⟨b, 0, none⟩ = some (.int .i64 i)) : TestsN ⟨b, 0, none⟩ (fun k => k == (i : Int)) w0 := by
  intro x w hb
  have f0 := (hb.cell (p := ⟨b, 0, none⟩) (lt_of_cell h)).trans h
  clear h
  go_enter Tryz.func135, Tryz.ntmps135
  go_wp2
  go_ret
  exact ⟨rfl, Below.refl _ _⟩

set_option maxHeartbeats 400000 in
theorem IndexFunc_ae (a1 : Addr) (v : Value) (xs : List Int) (f : Int → Bool) (w0 w : World) (hx : Rep IntE w v xs) (hf : TestsN a1 f w0) (hw : Below w0.heap.size w0 w) :
    Calls Tryz.prog 216 #[v, .func (.func 135) #[] #[.pointer (some a1)]] w fun e w' => (∃ q : Int, e = .returned (.int .i64 q) ∧ IdxOfS f xs q) ∧ Below w.heap.size w w' := by
  obtain ⟨a, c, rfl, hc1, hc2, hc3, hx⟩ := hx.open
  have HX := hide hx; clear hx
  have HF := hide hf; clear hf
  generalize hn : xs.length = n at *
  have H := hide hn; clear hn
  go_enter Tryz.func216, Tryz.ntmps216
  go_wp2_with fail
  go_loopw [8] (fun i wr => ∃ t : Nat, t ≤ n ∧ i = .int .i64 t ∧ Hid (∀ x ∈ xs.take t, f x = false) ∧ Below w.heap.size w wr) (fun i _ => n - (intOf i).toNat)
  case atStart => exact ⟨0, Nat.zero_le _, rfl, hide (by simp), Below.refl _ _⟩
  case round =>
    obtain ⟨t, ht, rfl, hno, hb⟩ := hrel
    by_cases hlt : t < n
    · obtain ⟨x, hxk⟩ := get_of_lt (xs := xs) (k := t) (by rw [H.out]; exact hlt)
      obtain ⟨b, o, rfl, hbl, i0⟩ := (HX.out.below hb).int hxk
      have hlt' := nat_of_lt hlt
      have X := hide hxk; clear hxk
      generalize hfx : f x = fx
      have FX := hide hfx; clear hfx
      have hcall := HF.out x _ (hw.trans (hb.mono hw.size))
      rw [FX.out] at hcall
      have HC := hide hcall; clear hcall
      cases fx
      · have NO : Hid (∀ x ∈ xs.take (t + 1), f x = false) := hide (none_succS hno.out X.out FX.out)
        go_wp2_with fail
        (with_reducible refine HC.out.mono ?_); rintro e w2 ⟨rfl, hb2⟩
        go_wp2_with fail
        go_roundw
        case rel => exact ⟨t + 1, by omega, by go_num, NO, hb.trans (hb2.mono hb.size)⟩
        case measure => simp [intOf]; omega
      · go_wp2_with fail
        (with_reducible refine HC.out.mono ?_); rintro e w2 ⟨rfl, hb2⟩
        go_wp2_with fail
        go_ret
        exact ⟨⟨_, rfl, .inr ⟨t, x, rfl, X.out, FX.out, hno.out⟩⟩, hb.trans (hb2.mono hb.size)⟩
    · go_wp2_with fail
      go_ret
      refine ⟨⟨_, rfl, .inl ⟨rfl, ?_⟩⟩, hb⟩
      have h := hno.out
      rwa [List.take_of_length_le (by rw [H.out]; omega)] at h

set_option maxRecDepth 100000 in
set_option maxHeartbeats 800000 in
theorem DeleteFunc_ae (a1 : Addr) (v : Value) (xs : List Int) (f : Int → Bool) (w0 w : World) (base : Nat) (hx : Own IntE 3 w base v xs) (hl : xs.length ≤ 1048576) (hf : TestsN a1 f w0) (hw : Below w0.heap.size w0 w) (hbase : w0.heap.size ≤ base) :
    Calls Tryz.prog 133 #[v, .func (.func 135) #[] #[.pointer (some a1)]] w fun e w' => DelPost IntE 3 w base v (xs.filter fun x => !f x) e w' := by
  have DP : Hid (∀ v' w', Own IntE 3 w' base v' (xs.filter fun x => !f x) → w.grownBy w' v.ownBlock → v'.ownBlock = v.ownBlock → DelPost IntE 3 w base v (xs.filter fun x => !f x) (.returned v') w') := hide (fun v' w' h1 h2 h3 => ⟨v', rfl, h1, h2, h3⟩)
  have HF := hide hf; clear hf
  have HX := hide hx; clear hx
  have HI := hide (fun h => IndexFunc_ae a1 v xs f w0 w h HF.out hw)
  generalize hG : (xs.filter fun x => !f x) = G at *
  have HG := hide hG; clear hG
  go_enter Tryz.func133, Tryz.ntmps133
  go_wp2_with fail
  (with_reducible refine (HI.out HX.out.rep).mono ?_); rintro e w1 ⟨⟨q, rfl, hq⟩, hb1⟩
  have HX1 := hide (HX.out.below hb1)
  have hg1 := grown_of_below hb1 v.ownBlock
  rcases hq with ⟨rfl, hno⟩ | ⟨t, x0, rfl, ht, hft, hno⟩
  · have e1 : G = xs := by rw [← HG.out]; exact filter_all (fun x h => by rw [hno x h]; rfl)
    have HE := hide e1; clear e1 hno
    go_wp2_with fail
    go_ret
    exact DP.out _ _ (by rw [HE.out]; exact HX1.out) hg1 rfl
  · rcases HX.out.shape with ⟨-, rfl⟩ | ⟨g, c, rfl, hg, hgl, hc1, hc2⟩
    · simp at ht
    · have htl := (List.getElem?_eq_some_iff.1 ht).1
      have hstart := del_start ht hft hno
      have ST := hide hstart; clear hstart ht hft hno
      generalize hn : xs.length = n at *
      have H := hide hn; clear hn
      have htl' := nat_of_lt htl
      have hm1 : ((t : Int) == -1) = false := by rw [beq_eq_false_iff_ne]; omega
      go_wp2_with fail
      go_loopw [5, 6] (fun si sj wr => ∃ (i j : Nat) (L : List Int), i < j ∧ j ≤ n ∧ si = .int .i64 i ∧ sj = .int .i64 j ∧ Own IntE 3 wr base (.slice (some ⟨g, 0, none⟩) n c) L ∧ Hid (DelInv f xs L i j) ∧ w.grownBy wr (some g)) (fun _ sj _ => n - (intOf sj).toNat)
      case atStart => exact ⟨t, t + 1, xs, by omega, by omega, rfl, rfl, HX1.out, hide ST.out, hg1⟩
      case round =>
        obtain ⟨i, j, L, hij, hj, rfl, rfl, ho, hI, hgr⟩ := hrel
        have hLl : L.length = n := ho.len.symm
        have HLL := hide hLl; clear hLl
        have hbr := hw.trans (below_of_rowK hgr (by omega) hw.size)
        by_cases hlt : j < n
        · obtain ⟨x, hxk⟩ := get_of_lt (xs := xs) (k := j) (by rw [H.out]; exact hlt)
          have hLj := hI.out.get hxk
          obtain ⟨y, hyi⟩ := get_of_lt (xs := L) (k := i) (by rw [HLL.out]; omega)
          obtain ⟨-, m0, -⟩ := ho.int hyi
          obtain ⟨hgl2, j0, hfr⟩ := ho.int hLj
          have hset := ho.setInt hyi x
          have hlt' := nat_of_lt hlt
          have hij' := nat_of_lt hij
          have X := hide hxk; have SET := hide hset; have YI := hide hyi; have LJ := hide hLj
          clear hxk hset hyi hLj
          have hcall := HF.out x _ hbr
          generalize hfx : f x = fx at *
          have FX := hide hfx; have HC := hide hcall
          clear hfx hcall
          cases fx
          · have KEEP := hide (hI.out.keep hij X.out FX.out)
            go_wp2_with fail
            (with_reducible refine HC.out.mono ?_); rintro e w2 ⟨rfl, hb2⟩
            obtain ⟨hc2, hf2⟩ := bcell hb2
            have hsz2 : wr.heap.size ≤ w2.heap.size := hb2.size
            have hset2 := ho.below hb2
            have hset3 := hset2.setInt YI.out x
            have S3 := hide hset3; clear hset2 hset3
            have hgr2 := grown_trans hgr (grown_of_below hb2 (some g))
            go_wp2_with fail
            go_roundw
            case rel => exact ⟨i + 1, j + 1, L.set i x, by omega, by omega, by go_num, by go_num, S3.out, hide KEEP.out, grown_set hgr2 _ _⟩
            case measure => simp [intOf]; omega
          · have SKIP := hide (hI.out.skip X.out FX.out)
            go_wp2_with fail
            (with_reducible refine HC.out.mono ?_); rintro e w2 ⟨rfl, hb2⟩
            have hset2 := ho.below hb2
            have hgr2 := grown_trans hgr (grown_of_below hb2 (some g))
            go_wp2_with fail
            go_roundw
            case rel => exact ⟨i, j + 1, L, by omega, by omega, rfl, by go_num, hset2, hide SKIP.out, hgr2⟩
            case measure => simp [intOf]; omega
        · have e : j = n := by omega
          subst e
          have hin := hij
          have hin' := nat_of_lt hij
          have hic : i ≤ c := by omega
          have DONE := hide (hI.out.done (by rw [H.out]; exact Nat.le_refl _))
          go_wp2_with (refine wpList_clear IntE 3 0 Tryz.infoInt rfl Tryz.underlying25 base g _ c i _ L ho hin rfl _ rfl (by rw [show i * IntE.sz = i from Nat.mul_one i]; rfl) ?_; intro w3 ho3 hgr3)
          go_ret
          have hcut := ho3.cut (i := i) (by omega)
          have hLi : (L.take i).length = i := by rw [List.length_take, HLL.out]; omega
          rw [List.take_append_of_le_length (by omega), List.take_take, Nat.min_self, DONE.out, HG.out] at hcut
          exact DP.out _ _ hcut (grown_trans hgr hgr3) rfl

end Go.Proofs.YtpbmlppdmdmfkaaGreatDoor

namespace Go.Proofs.YtpbmlppdmdmfkaaGreatDoor

theorem permsD_ne : ∀ (n : Nat) (xs : List Int), xs.length = n → 0 < (permsD n xs).length := by
  intro n
  induction n with
  | zero => intro xs _; simp [permsD]
  | succ n ih =>
    intro xs hx
    have h := ih (xs.eraseIdx 0) (by rw [List.length_eraseIdx, if_pos (by omega), hx]; rfl)
    unfold permsD
    rw [hx, List.range_succ_eq_map, List.flatMap_cons, List.length_append, List.length_map]
    omega
theorem permsL_ne (xs : List Int) : 0 < (permsL xs).length := permsD_ne _ xs rfl
theorem ordsL_ne (es : List Ev) : ∀ (n l : Nat), l + n = 3 → 0 < (ordsL es l).length := by
  intro n
  induction n with
  | zero => intro l hl; obtain rfl : l = 3 := by omega
            simp [ordsL_end]
  | succ n ih =>
    intro l hl
    rw [ordsL_step (by omega)]
    have h1 := permsL_ne (wrL es l).tail
    have h2 := ih (l + 1) (by omega)
    cases h : permsL (wrL es l).tail with
    | nil => rw [h] at h1; simp at h1
    | cons q qs => rw [List.flatMap_cons, List.length_append, List.length_map]; omega
theorem fromsL_ne {p : List (List Ins)} (hpv : progValid p = true) : ∀ (n i : Nat), i + n = (evAll p).length → 0 < (fromsL (evAll p) i).length := by
  have hv := valid_le hpv
  intro n
  induction n with
  | zero =>
    intro i hi
    obtain rfl : i = (evAll p).length := by omega
    simp [fromsL_end]
  | succ n ih =>
    intro i hi
    have h2 := ih (i + 1) (by omega)
    rw [fromsL_step (by omega)]
    obtain ⟨e, he⟩ := get_of_lt (xs := evAll p) (k := i) (by omega)
    have hex : ∃ k ∈ fromC (evAll p) i, k ≠ (i : Int) := by
      unfold fromC
      rw [he]
      simp only
      cases hr : e.r with
      | false => exact ⟨-1, by simp, by omega⟩
      | true =>
        obtain ⟨t', i', r, h3, -⟩ := ev_read (p := p) he hr
        have hl : e.l = 0 ∨ e.l = 1 ∨ e.l = 2 := by
          rcases ev_cases he with h4 | ⟨t2, i2, r2, -, -, h5, h6, -, -, h9⟩
          · omega
          · rw [h9]; exact insValid_loc ((hv.2.2.1 r2 (List.mem_of_getElem? h5)).2 _ (List.mem_of_getElem? h6))
        have hi3 : 3 ≤ i := by
          rcases Nat.lt_or_ge i 3 with h | h
          · exfalso
            unfold evAll at he
            rw [List.getElem?_append_left (by rw [evHead_length]; exact h)] at he
            have : e.t = -1 := by
              have h5 : i = 0 ∨ i = 1 ∨ i = 2 := by omega
              rcases h5 with rfl | rfl | rfl <;> simp [evHead, List.range_succ] at he <;> rw [← he]
            omega
          · exact h
        have hm : ∀ l : Nat, l < 3 → (l : Int) ∈ wrL (evAll p) l := fun l hl => List.mem_of_mem_head? (by rw [head_wrL hl]; simp)
        simp only [if_pos]
        rcases hl with hl | hl | hl
        · exact ⟨0, by rw [hl]; exact hm 0 (by omega), by omega⟩
        · exact ⟨1, by rw [hl]; exact hm 1 (by omega), by omega⟩
        · exact ⟨2, by rw [hl]; exact hm 2 (by omega), by omega⟩
    obtain ⟨k, hk, hki⟩ := hex
    obtain ⟨y, hy⟩ : ∃ y, y ∈ fromsL (evAll p) (i + 1) := by
      cases h : fromsL (evAll p) (i + 1) with
      | nil => rw [h] at h2; simp at h2
      | cons y ys => exact ⟨y, by simp⟩
    have : (k :: y) ∈ (fromC (evAll p) i).flatMap (pre1 i (fromsL (evAll p) (i + 1))) := by
      rw [List.mem_flatMap]
      refine ⟨k, hk, ?_⟩
      unfold pre1
      rw [if_neg hki]
      exact List.mem_map.2 ⟨y, hy, rfl⟩
    exact List.length_pos_of_mem this
theorem allX_ne {p : List (List Ins)} (hpv : progValid p = true) : 0 < (allX (evAll p)).length := by
  have h1 := fromsL_ne hpv (evAll p).length 0 (by omega)
  have h2 := ordsL_ne (evAll p) 3 0 (by omega)
  unfold allX
  cases h : fromsL (evAll p) 0 with
  | nil => rw [h] at h1; simp at h1
  | cons f fs => rw [List.flatMap_cons, List.length_append, List.length_map]; omega
theorem allX_le {p : List (List Ins)} (hpv : progValid p = true) : (allX (evAll p)).length ≤ 3000 := by
  have h1 := flatMap_length_le (fun f => (ordsL (evAll p) 0).map (Xc.mk f ·)) (ordsL (evAll p) 0).length (fromsL (evAll p) 0) (fun f _ => by rw [List.length_map]; exact Nat.le_refl _)
  exact Nat.le_trans h1 (few hpv).all

end Go.Proofs.YtpbmlppdmdmfkaaGreatDoor
