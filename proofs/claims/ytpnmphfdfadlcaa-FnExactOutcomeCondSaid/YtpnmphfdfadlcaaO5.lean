/-
  OutcomeCond of the program: the walk. Condition: bounds on lengths.
-/
import Derived.Test.YtpnmphfdfadlcaaO4
namespace Go.Proofs.Ytpnmphfdfadlcaa
open Go.RowKit Go.Shelf
attribute [local go_sem] Oper.semAt_some

theorem cell_of_heapO {w : World} {b k : Nat} {cur : Array Value} {t : TypeId} {v : Value} (h : w.heap[b]? = some (.cells cur t (0, 0))) (hk : cur[k]? = some v) : w.cell? ⟨b, k, none⟩ = some v := by
  simp [World.cell?, h, hk]

theorem frozen_of_heapO {w : World} {b : Nat} {cur : Array Value} {t : TypeId} (h : w.heap[b]? = some (.cells cur t (0, 0))) (j : Nat) : w.frozen? ⟨b, j, none⟩ = false := by
  simp [World.frozen?, h]

theorem Own.toSlO {α : Type} {E : El α} {T : TypeId} {w : World} {base : Nat} {v : Value} {xs : List α} (h : Own E T w base v xs) : ∃ a n c, v = .slice a n c ∧ n = xs.length := by
  obtain ⟨⟨a, n, c⟩, e, h⟩ := h.toSlc
  exact ⟨a, n, c, e, h⟩

theorem keeps_of_belowO {B : Nat} {W W' : World} (h : Below W.heap.size W W') : KeepsFrom B W W' := ⟨h.size, fun k _ _ hk _ => (h.block k (Array.getElem?_eq_some_iff.1 hk).1).trans hk⟩

theorem Rep.front {α : Type} {E : El α} {w : World} {a : Option Addr} {n c : Nat} {xs : List α} {z : α} (h : Rep E w (.slice a n c) (xs ++ [z])) : Rep E w (.slice a xs.length c) xs := by
  obtain ⟨a', c', hv, h1, h2, h3⟩ := h
  simp only [Value.slice.injEq] at hv
  obtain ⟨rfl, rfl, rfl⟩ := hv
  refine ⟨_, _, rfl, by simp at h1; omega, h2, fun i x hx => h3 i x ?_⟩
  rw [List.getElem?_append_left (List.getElem?_eq_some_iff.1 hx).1]; exact hx
theorem Own.lastC {T : TypeId} {w : World} {base g n cap : Nat} {xs : List Cs} {z : Cs} (h : Own CsE T w base (.slice (some ⟨g, 0, none⟩) n cap) (xs ++ [z])) :
    w.cell? ⟨g, xs.length * 5, none⟩ = some (.int .i64 z.op) ∧ w.cell? ⟨g, xs.length * 5 + 1, none⟩ = some (.int .i64 z.th) ∧ w.cell? ⟨g, xs.length * 5 + 2, none⟩ = some (.int .i64 z.pl) ∧ w.cell? ⟨g, xs.length * 5 + 3, none⟩ = some (.int .i64 z.val) ∧ w.cell? ⟨g, xs.length * 5 + 4, none⟩ = some (.slice z.s.a z.s.n z.s.cap) := by
  obtain ⟨a', c', hv, h1, h2, h3⟩ := h.rep
  simp only [Value.slice.injEq] at hv
  obtain ⟨rfl, rfl, rfl⟩ := hv
  obtain ⟨b, o, hb, hi⟩ := h3 xs.length z (by simp)
  simp only [Option.some.injEq, Addr.mk.injEq, and_true] at hb
  obtain ⟨rfl, rfl⟩ := hb
  have h0 := hi 0 _ rfl; have h1 := hi 1 _ rfl; have h2 := hi 2 _ rfl; have h3 := hi 3 _ rfl; have h4 := hi 4 _ rfl
  simp only [CsE, Nat.zero_add, Nat.add_zero] at h0 h1 h2 h3 h4
  exact ⟨h0, h1, h2, h3, h4⟩
theorem st5_other (V : World) (A k : Nat) (a b c d e : Value) (h : k ≠ A) : (((((V.setCell ⟨A, 0, none⟩ a).setCell ⟨A, 1, none⟩ b).setCell ⟨A, 2, none⟩ c).setCell ⟨A, 3, none⟩ d).setCell ⟨A, 4, none⟩ e).heap[k]? = V.heap[k]? := by
  rw [heap_setCell_other _ ⟨A, 4, none⟩ k _ h, heap_setCell_other _ ⟨A, 3, none⟩ k _ h, heap_setCell_other _ ⟨A, 2, none⟩ k _ h, heap_setCell_other _ ⟨A, 1, none⟩ k _ h, heap_setCell_other _ ⟨A, 0, none⟩ k _ h]
theorem st5_same (V : World) (A : Nat) (T : TypeId) (x0 x1 x2 x3 x4 a b c d e : Value) (h : V.heap[A]? = some (.cells #[x0, x1, x2, x3, x4] T (0, 0))) : (((((V.setCell ⟨A, 0, none⟩ a).setCell ⟨A, 1, none⟩ b).setCell ⟨A, 2, none⟩ c).setCell ⟨A, 3, none⟩ d).setCell ⟨A, 4, none⟩ e).heap[A]? = some (.cells #[a, b, c, d, e] T (0, 0)) := by
  have s0 := heap_setCell_same V A 0 _ _ a h
  have s1 := heap_setCell_same _ A 1 _ _ b s0
  have s2 := heap_setCell_same _ A 2 _ _ c s1
  have s3 := heap_setCell_same _ A 3 _ _ d s2
  have s4 := heap_setCell_same _ A 4 _ _ e s3
  rw [s4]; rfl
theorem st5_size (V : World) (A : Nat) (a b c d e : Value) : (((((V.setCell ⟨A, 0, none⟩ a).setCell ⟨A, 1, none⟩ b).setCell ⟨A, 2, none⟩ c).setCell ⟨A, 3, none⟩ d).setCell ⟨A, 4, none⟩ e).heap.size = V.heap.size := by simp
theorem st5_below {B : Nat} {U V : World} (A : Nat) (a b c d e : Value) (h : Below B U V) (hA : B ≤ A) : Below B U (((((V.setCell ⟨A, 0, none⟩ a).setCell ⟨A, 1, none⟩ b).setCell ⟨A, 2, none⟩ c).setCell ⟨A, 3, none⟩ d).setCell ⟨A, 4, none⟩ e) := ((((h.setCell hA _).setCell hA _).setCell hA _).setCell hA _).setCell hA _
/-- The answer of a function whose result variable is a cell: read after the loop's record is put away. -/
theorem done_retO {V : World} {A D T : Nat} {a b c d e : Value} (hV : V.heap[A]? = some (.cells #[a, b, c, d, e] T (0, 0))) (hD : A ≠ D) (o : Obj) : (V.putObj D o).heap[A]? = some (.cells #[a, b, c, d, e] T (0, 0)) :=
  (World.putObj_heap_other hD).trans hV
abbrev CsIn (xs : List Cs) := {u : Cs // u ∈ xs}
def csOf {xs : List Cs} (pre : List (CsIn xs × Nat)) : List Cs := pre.map fun x => x.1.1
theorem csOf_all (xs : List Cs) : csOf (xs := xs) xs.attach.zipIdx.reverse = xs.reverse := by
  unfold csOf
  rw [List.map_reverse]
  congr 1
  have h1 : (fun x : CsIn xs × Nat => x.1.1) = (fun g : CsIn xs => g.1) ∘ Prod.fst := rfl
  rw [h1, ← List.map_map, List.zipIdx_map_fst, List.attach_map_subtype_val]
theorem own_typeO {α : Type} {E : El α} {T : TypeId} {W : World} {base : Nat} {v : Value} {xs : List α} (h : Own E T W base v xs) {q : Nat} (hq : v.ownBlock = some q) : ∃ cur, W.heap[q]? = some (.cells cur T (0, 0)) := by
  rcases h.2 with ⟨hn, -⟩ | ⟨g, cap, cur, rfl, hb1, hgg, -⟩
  · rw [hn] at hq; cases hq
  · simp [Value.ownBlock] at hq; subst hq; exact ⟨cur, hgg⟩

theorem commO (X : World) (o : Obj) (A j : Nat) (v : Value) (h : A < X.heap.size) : (X.alloc o).setCell ⟨A, j, none⟩ v = (X.setCell ⟨A, j, none⟩ v).alloc o := by simp [go_sem, h]

theorem bodyO {α : Type} {B Bs g A4 A7 base : Nat} {vg : Value} {og : Obj} {w W WX : World} {f : List α → Cd} {pre' : List α} {a' : Act} {cu : Array Value} {T : TypeId} {fr : Nat × Nat} {c : Cd} (hst : RndO w A4 A7 Bs g base vg og (f pre') WX)
    (hoth : ∀ (k : Nat) (o : Obj), W.heap[k]? = some o → k ≠ A7 → WX.heap[k]? = some o) (hsz : W.heap.size ≤ WX.heap.size) (k1 : W.heap[A7]? = some (.cells cu T fr)) (hi : RndO w A4 A7 Bs g base vg og c W) (h1 : Bs ≠ A7) (h2 : g ≠ A7) :
    ownPostG B (Keep2 Bs g) (fun pre W => RndO w A4 A7 Bs g base vg og (f pre) W) (fun _ _ _ => False) pre' W Exit.normal a' WX := by
  refine ⟨⟨hsz, fun k o _ hk ho => hoth k o hk (fun e => ?_)⟩, ⟨?_, ?_, hsz⟩, hst⟩
  · rw [e, k1] at hk; simp at hk; subst hk; cases ho
  · rw [hoth _ _ hi.bs h1, hi.bs]
  · rw [hoth _ _ hi.bg h2, hi.bg]

set_option maxRecDepth 100000 in
set_option maxHeartbeats 4000000 in
theorem OutcomeCond_any (v v' : Value) (p : List (List Ins)) (os : List Int) (w : World) (hp : RepP w v p) (ho : Rep IntE w v' os) (hl : p.flatten.length ≤ 1048576) (hpl : p.length ≤ 1048576) :
    Calls Try.prog 44 #[v, v'] w (RetCB w (outC p os)) := by
  have HB0 := hide ((Below.refl w.heap.size w).alloc (Nat.le_refl _) (.cells #[.int .i64 0, .int .i64 0, .int .i64 0, .int .i64 0, .slice none 0 0] 25))
  have hA4 : (w.alloc (.cells #[.int .i64 0, .int .i64 0, .int .i64 0, .int .i64 0, .slice none 0 0] 25)).heap[w.heap.size]? = some (.cells #[.int .i64 0, .int .i64 0, .int .i64 0, .int .i64 0, .slice none 0 0] 25 (0, 0)) := heap_alloc_new w _
  have HA4 := hide hA4
  have HP := hide (hp.below HB0.out); have HO := hide (ho.below HB0.out)
  have HV := hide (OutcomeValid_any v v' p os _ HP.out HO.out hl hpl)
  have HS := hide (fun w' h1 h2 h3 => said_any v v' p os w' h1 h2 hl hpl h3)
  have HLEN := hide (saidL_length p os)
  have HEQ : Hid (outC p os = if outValid p os = true ∧ saidL p os ≠ [] ∧ validC (andL (saidL p os)) = true then (andL (saidL p os), true) else (zC, false)) := hide rfl
  have HOV : Hid (outValid p os = true → os.length = 3 * p.length + 3 ∧ p.length ≤ 3) := hide (fun h => by
    unfold outValid at h
    simp only [Bool.and_eq_true, decide_eq_true_eq] at h
    exact ⟨h.2.1, (valid_le h.1).1⟩)
  have HNS := hide (fun u (h : u ∈ saidL p os) => mem_said h)
  clear hp ho hA4
  generalize outC p os = R at *
  generalize hb : outValid p os = b at *
  clear hb
  generalize saidL p os = L at *
  refine (callsIn_wide (n := 9)).1 ?_
  refine callsIn_of_wp_marks Try.func44 rfl trivial ?_ rfl
  simp only [Try.ntmps44, List.size_toArray, List.length_cons, List.length_nil, Nat.reduceAdd, Nat.reduceSub, Array.replicate_succ, Array.replicate_zero, List.push_toArray, List.append_toArray, List.nil_append, List.cons_append]
  cases b
  · obtain rfl : R = (zC, false) := by rw [HEQ.out, if_neg (by simp)]
    gi_wp2_with (refine ⟨trivial, ?_⟩; gi_at_call 69; (with_reducible refine (callsIn_wide.2 HV.out).mono ?_); rintro e w1 ⟨rfl, hb1⟩; have hbl := (hb1.block w.heap.size (by simp)).trans HA4.out; have e0 := cell_of_heapO hbl (k := 0) rfl; have e1 := cell_of_heapO hbl (k := 1) rfl; have e2 := cell_of_heapO hbl (k := 2) rfl; have e3 := cell_of_heapO hbl (k := 3) rfl; have e4 := cell_of_heapO hbl (k := 4) rfl; have hll := lt_of_cell e0; have ef := frozen_of_heapO hbl)
    refine ⟨.tuple #[.agg #[.int .i64 0, .int .i64 0, .int .i64 0, .int .i64 0, .slice none 0 0], .bool false], by simp [results, Try.results44, go_sem, e0, e1, e2, e3, e4], ?_⟩
    exact RetCB.no ((((((HB0.out.trans (hb1.mono HB0.out.size)).setCell (Nat.le_refl _) _).setCell (Nat.le_refl _) _).setCell (Nat.le_refl _) _).setCell (Nat.le_refl _) _).setCell (Nat.le_refl _) _)
  · obtain ⟨hol, hp3⟩ := HOV.out rfl
    have HOL := hide hol
    clear hol HOV
    have hLc : L = [] ∨ ∃ xs z, L = xs ++ [z] := by
      rcases List.eq_nil_or_concat L with h | ⟨xs, z, h⟩
      · exact .inl h
      · exact .inr ⟨xs, z, by rw [h, List.concat_eq_append]⟩
    rcases hLc with rfl | ⟨xs, z, rfl⟩
    · obtain rfl : R = (zC, false) := by rw [HEQ.out, if_neg (by simp)]
      gi_wp2_with (first
        | (refine ⟨trivial, ?_⟩; gi_at_call 69; (with_reducible refine (callsIn_wide.2 HV.out).mono ?_); rintro e w1 ⟨rfl, hb1⟩; have HP1 := hide (HP.out.below hb1); have HO1 := hide (HO.out.below hb1))
        | (refine ⟨trivial, ?_⟩; gi_at_call 120; (with_reducible refine (callsIn_wide.2 (HS.out _ HP1.out HO1.out HOL.out)).mono ?_); rintro e w2 ⟨vl, rfl, o2, hb2⟩; obtain ⟨la, ln, lc, rfl, hln⟩ := o2.toSlO; obtain rfl : ln = 0 := hln; have hbl := (hb2.block w.heap.size (by have := hb1.size; simp at this; omega)).trans ((hb1.block w.heap.size (by simp)).trans HA4.out); have e0 := cell_of_heapO hbl (k := 0) rfl; have e1 := cell_of_heapO hbl (k := 1) rfl; have e2 := cell_of_heapO hbl (k := 2) rfl; have e3 := cell_of_heapO hbl (k := 3) rfl; have e4 := cell_of_heapO hbl (k := 4) rfl; have hll := lt_of_cell e0; have ef := frozen_of_heapO hbl))
      refine ⟨.tuple #[.agg #[.int .i64 0, .int .i64 0, .int .i64 0, .int .i64 0, .slice none 0 0], .bool false], by simp [results, Try.results44, go_sem, e0, e1, e2, e3, e4], ?_⟩
      have hb12 := HB0.out.trans ((hb1.trans (hb2.mono hb1.size)).mono HB0.out.size)
      exact RetCB.no (((((hb12.setCell (Nat.le_refl _) _).setCell (Nat.le_refl _) _).setCell (Nat.le_refl _) _).setCell (Nat.le_refl _) _).setCell (Nat.le_refl _) _)
    · obtain ⟨n, hn⟩ : ∃ n, xs.length = n := ⟨_, rfl⟩
      have HN := hide hn
      have HXS := hide (csOf_all xs)
      have hn12 : n ≤ 11 := by have := HLEN.out; rw [List.length_append] at this; simp at this; omega
      have hz0 : z.s = ⟨none, 0, 0⟩ := HNS.out z (by simp)
      have HEQ2 : Hid (R = if validC (andB z xs.reverse) = true then (andB z xs.reverse, true) else (zC, false)) := hide (by
        rw [HEQ.out, ← andB_eq]
        by_cases hv : validC (andB z xs.reverse) = true
        · rw [if_pos hv, if_pos ⟨rfl, by simp, hv⟩]
        · rw [if_neg hv, if_neg (fun h => hv h.2.2)])
      have hne : (((n + 1 : Nat) : Int) == 0) = false := by simp; omega
      have hw1 : IntKind.i64.wrap (((n + 1 : Nat) : Int) - 1) = (n : Int) := by rw [show ((n + 1 : Nat) : Int) - 1 = (n : Int) by omega, IntKind.wrap_i64]; omega
      have hln' : (n : Int) < ((n + 1 : Nat) : Int) := by omega
      have hln2 : (n : Int) ≤ ((n + 1 : Nat) : Int) := by omega
      obtain ⟨zo, zt, zp, zv, zs⟩ := z
      simp only at hz0
      subst hz0
      clear HEQ hn HLEN
      have hlen1 : (xs ++ [(⟨zo, zt, zp, zv, ⟨none, 0, 0⟩⟩ : Cs)]).length = n + 1 := by rw [List.length_append, HN.out]; rfl
      have HLN := hide hlen1; clear hlen1
      gi_wp2
      refine ⟨trivial, ?_⟩; (with_reducible refine (callsIn_wide.2 HV.out).mono ?_); rintro e w1 ⟨rfl, hb1⟩
      have HP1 := hide (HP.out.below hb1); have HO1 := hide (HO.out.below hb1)
      have HBA := hide hb1
      clear hb1
      gi_wp2
      refine ⟨trivial, ?_⟩; (with_reducible refine (callsIn_wide.2 (HS.out _ HP1.out HO1.out HOL.out)).mono ?_); rintro e w2 ⟨vl, rfl, o2, hb2⟩
      rcases o2.shape with ⟨-, h0⟩ | ⟨g, cap, rfl, hg1, hg2, hc1, hc2⟩
      · exfalso; simp at h0
      · rw [HLN.out] at o2 hc1 ⊢
        have HB2 := hide (HBA.out.trans (hb2.mono HBA.out.size))
        have hbl := (HB2.out.block w.heap.size (by simp)).trans HA4.out
        have HBL := hide hbl
        obtain ⟨l0, l1, l2, l3, l4⟩ := o2.lastC
        rw [HN.out] at l0 l1 l2 l3 l4
        have hgl := lt_of_cell l0
        have hA4l := (Array.getElem?_eq_some_iff.1 hbl).1
        obtain ⟨cur, hcur⟩ := own_typeO o2 (q := g) rfl
        have HCUR := hide hcur
        have HO2 := hide o2
        clear o2 hb2 hbl hcur
        gi_wp2_with (refine ⟨trivial, ?_⟩; gi_at_call 121; (with_reducible refine (callsIn_wide.2 (BackwardC_any _ _ _ _)).mono ?_); rintro e w' ⟨rfl, rfl⟩)
        have hB3 : Below w2.heap.size w2 ((w2.alloc (.cells #[.int .i64 zo, .int .i64 zt, .int .i64 zp, .int .i64 zv, .slice none 0 0] 25)).alloc (.cells #[.slice (some ⟨g, 0, none⟩) n cap] 23)) := ((Below.refl _ _).alloc (Nat.le_refl _) _).alloc (by simp) _
        have ha7 : ((w2.alloc (.cells #[.int .i64 zo, .int .i64 zt, .int .i64 zp, .int .i64 zv, .slice none 0 0] 25)).alloc (.cells #[.slice (some ⟨g, 0, none⟩) n cap] 23)).heap[w2.heap.size]? = some (.cells #[.int .i64 zo, .int .i64 zt, .int .i64 zp, .int .i64 zv, .slice none 0 0] 25 (0, 0)) := by
          rw [heap_alloc_old _ _ (by simp)]; exact heap_alloc_new w2 _
        have hbs : ((w2.alloc (.cells #[.int .i64 zo, .int .i64 zt, .int .i64 zp, .int .i64 zv, .slice none 0 0] 25)).alloc (.cells #[.slice (some ⟨g, 0, none⟩) n cap] 23)).heap[w2.heap.size + 1]? = some (.cells #[.slice (some ⟨g, 0, none⟩) n cap] 23 (0, 0)) := by
          have := heap_alloc_new (w2.alloc (.cells #[.int .i64 zo, .int .i64 zt, .int .i64 zp, .int .i64 zv, .slice none 0 0] 25)) (.cells #[.slice (some ⟨g, 0, none⟩) n cap] 23)
          simpa using this
        have hsz3 : ((w2.alloc (.cells #[.int .i64 zo, .int .i64 zt, .int .i64 zp, .int .i64 zv, .slice none 0 0] 25)).alloc (.cells #[.slice (some ⟨g, 0, none⟩) n cap] 23)).heap.size = w2.heap.size + 2 := by simp
        generalize hW3 : (w2.alloc (.cells #[.int .i64 zo, .int .i64 zt, .int .i64 zp, .int .i64 zv, .slice none 0 0] 25)).alloc (.cells #[.slice (some ⟨g, 0, none⟩) n cap] 23) = W3 at *
        clear hW3
        have hbg3 := (hB3.block g hgl).trans HCUR.out
        have hA43 := (hB3.block w.heap.size hA4l).trans HBL.out
        have hrep : Rep CsE W3 (.slice (some ⟨g, 0, none⟩) n cap) xs := by
          have h := (HO2.out.rep.front).below hB3
          rw [HN.out] at h; exact h
        have hW0 : (w.alloc (.cells #[.int .i64 0, .int .i64 0, .int .i64 0, .int .i64 0, .slice none 0 0] 25)).heap.size = w.heap.size + 1 := by simp
        have hB2s := HB2.out.size
        have hR0 : RndO (w.alloc (.cells #[.int .i64 0, .int .i64 0, .int .i64 0, .int .i64 0, .slice none 0 0] 25)) w.heap.size w2.heap.size (w2.heap.size + 1) g (w2.heap.size + 1) (.slice (some ⟨g, 0, none⟩) n cap) (.cells cur 25 (0, 0)) (andB ⟨zo, zt, zp, zv, ⟨none, 0, 0⟩⟩ (csOf (xs := xs) [])) W3 :=
          ⟨⟨⟨none, 0, 0⟩, w2.heap.size + 1, ha7, .nil, Nat.le_refl _, by omega⟩, hA43, hbs, hbg3, HB2.out.trans (hB3.mono hB2s)⟩
        have HST := backC_stops (Pr := fun u => u ∈ xs) 8 (by omega) (w2.heap.size + 1) g (.slice (some ⟨g, 0, none⟩) n cap) xs.attach (by rw [List.length_attach, HN.out]; omega) W3 (by omega) (cell_of_heapO hbs rfl) (by rw [List.attach_map_subtype_val]; exact hrep) (fun q o e _ => by
          simp only [Value.slice.injEq, Option.some.injEq, Addr.mk.injEq] at e
          exact e.1.1.symm)
        have HR0 := hide hR0
        have hbgl := (Array.getElem?_eq_some_iff.1 hbg3).1
        clear hR0 hrep hA43
        refine wpIn_rangeFunc_ownH rfl (by omega) (gf := 190) (lb := #[.pointer (some ⟨w2.heap.size + 1, 0, none⟩)]) rfl trivial (enters_of Try.func190 (by kernel_rfl) rfl)
          HST Keep2.trans (keep2_b (by omega) hbgl) (Below.refl _ _) (fun _ => rfl)
          (fun pre W => RndO (w.alloc (.cells #[.int .i64 0, .int .i64 0, .int .i64 0, .int .i64 0, .slice none 0 0] 25)) w.heap.size w2.heap.size (w2.heap.size + 1) g (w2.heap.size + 1) (.slice (some ⟨g, 0, none⟩) n cap) (.cells cur 25 (0, 0)) (andB ⟨zo, zt, zp, zv, ⟨none, 0, 0⟩⟩ (csOf pre)) W)
          (fun _ _ _ => False)
          (rndO_own (fun pre => andB ⟨zo, zt, zp, zv, ⟨none, 0, 0⟩⟩ (csOf pre)) rfl (by omega))
          (fun _ _ _ _ _ hs _ _ => hs)
          HR0.out
          (fun x a' W => ∃ A9, W.heap[A9]? = some (.cells #[.int .i64 x.1.1.op, .int .i64 x.1.1.th, .int .i64 x.1.1.pl, .int .i64 x.1.1.val, .slice x.1.1.s.a x.1.1.s.n x.1.1.s.cap] 25 (0, 0)) ∧ a' = { tmps := #[v, v', undef, undef, .pointer (some ⟨w.heap.size, 0, none⟩), .bool false, .slice (some ⟨g, 0, none⟩) (n + 1) cap, .pointer (some ⟨w2.heap.size, 0, none⟩), undef, .pointer (some ⟨A9, 0, none⟩), v, v', .bool true, .bool false, undef, v, v', .slice (some ⟨g, 0, none⟩) (n + 1) cap, .slice (some ⟨g, 0, none⟩) (n + 1) cap, .int .i64 ((n : Int) + 1), .bool false, undef, .slice (some ⟨g, 0, none⟩) (n + 1) cap, .slice (some ⟨g, 0, none⟩) (n + 1) cap, .int .i64 ((n : Int) + 1), .int .i64 (n : Int), .pointer (some ⟨g, n * 5, none⟩), .agg #[.int .i64 zo, .int .i64 zt, .int .i64 zp, .int .i64 zv, .slice none 0 0], .slice (some ⟨g, 0, none⟩) (n + 1) cap, .slice (some ⟨g, 0, none⟩) (n + 1) cap, .int .i64 ((n : Int) + 1), .int .i64 (n : Int), .slice (some ⟨g, 0, none⟩) n cap, .func (.func 190) #[] #[.pointer (some ⟨w2.heap.size + 1, 0, none⟩)], .int .i64 (x.2 : Int), Cs.v x.1.1, undef, undef, undef, undef, undef, undef, undef, undef, undef], defers := [] })
          (fun x a' _ W W' row h hg hr => by
            obtain ⟨A9, h1, h2⟩ := h
            exact ⟨A9, heap_keptO h1 hg (fun r e => (hr r e).2), h2⟩)
          ?assign ?body ?done ?stop
        case assign =>
          rintro l pre ⟨⟨⟨uo, ut, up, uv, us⟩, hum⟩, ix⟩ W K hi hK
          gi_wp2
          refine hK _ _ ((KeepsOthers.alloc _ _).from _) ⟨heap_alloc_old _ _ ?_, heap_alloc_old _ _ ?_, by simp⟩ (hi.below ((Below.refl _ _).alloc (Nat.le_refl _) _)) ⟨W.heap.size, heap_alloc_new W _, rfl⟩
          · exact (Array.getElem?_eq_some_iff.1 hi.bs).1
          · exact (Array.getElem?_eq_some_iff.1 hi.bg).1
        case body =>
          rintro l pre ⟨⟨⟨uo, ut, up, uv, us⟩, hum⟩, ix⟩ a' W hl ⟨r0, hr0⟩ hi ⟨A9, h9, rfl⟩ hlt
          have hus : us = ⟨none, 0, 0⟩ := HNS.out _ (List.mem_append_left _ hum)
          subst hus
          have hstep : andB ⟨zo, zt, zp, zv, ⟨none, 0, 0⟩⟩ (csOf (pre ++ [(⟨⟨uo, ut, up, uv, ⟨none, 0, 0⟩⟩, hum⟩, ix)])) = andF (andB ⟨zo, zt, zp, zv, ⟨none, 0, 0⟩⟩ (csOf pre)) ⟨uo, ut, up, uv, ⟨none, 0, 0⟩⟩ := by
            unfold csOf andB; rw [List.map_append, List.foldl_append]; rfl
          obtain ⟨s, hh, k1, k2, k3, k4⟩ := hi.a7
          have HI := hide hi; have HST' := hide hstep; have K1 := hide k1; have K2 := hide k2; have K3 := hide k3; have K4 := hide k4; have H9 := hide h9
          clear hi hstep k2 k3 k4
          generalize andB ⟨zo, zt, zp, zv, ⟨none, 0, 0⟩⟩ (csOf pre) = c at *
          have n0 := cell_of_heapO h9 (k := 0) rfl; have n1 := cell_of_heapO h9 (k := 1) rfl; have n2 := cell_of_heapO h9 (k := 2) rfl; have n3 := cell_of_heapO h9 (k := 3) rfl; have n4 := cell_of_heapO h9 (k := 4) rfl
          have m0 := cell_of_heapO k1 (k := 0) rfl; have m1 := cell_of_heapO k1 (k := 1) rfl; have m2 := cell_of_heapO k1 (k := 2) rfl; have m3 := cell_of_heapO k1 (k := 3) rfl; have m4 := cell_of_heapO k1 (k := 4) rfl
          have mf := frozen_of_heapO k1
          have n5 := lt_of_cell n0; have m5 := lt_of_cell m0
          clear h9 k1
          dsimp only
          gi_wp2
          have hst := HI.out.step ⟨uo, ut, up, uv, ⟨none, 0, 0⟩⟩ (by omega) (by omega) (by omega) (by omega) (by omega) K1.out K2.out K3.out K4.out
          rw [commO _ _ _ 0 _ m5, commO _ _ _ 1 _ (by simpa using m5), commO _ _ _ 2 _ (by simpa using m5), commO _ _ _ 3 _ (by simpa using m5), commO _ _ _ 4 _ (by simpa using m5)] at hst
          rw [← HST'.out] at hst
          refine bodyO (f := fun pre => andB ⟨zo, zt, zp, zv, ⟨none, 0, 0⟩⟩ (csOf pre)) hst ?_ ?_ K1.out HI.out (by omega) (by omega)
          · intro k o hk hne
            rw [heap_alloc_old _ _ (by simpa using (Array.getElem?_eq_some_iff.1 hk).1), st5_other _ _ k _ _ _ _ _ hne, hk]
          · simp
        case done =>
          rintro D ys W hD rfl h hK
          rw [HXS.out] at h
          obtain ⟨s, hh, k1, k2, k3, k4⟩ := h.a7
          generalize andB ⟨zo, zt, zp, zv, ⟨none, 0, 0⟩⟩ xs.reverse = c at *
          have HCV := CondValid_raw c.op c.th c.pl c.val c.kids s.a s.n s.cap W (k2.rep.low (Nat.zero_le _))
          rw [Cd.eta] at HCV
          have HCV := hide HCV
          have m0 := cell_of_heapO k1 (k := 0) rfl; have m1 := cell_of_heapO k1 (k := 1) rfl; have m2 := cell_of_heapO k1 (k := 2) rfl; have m3 := cell_of_heapO k1 (k := 3) rfl; have m4 := cell_of_heapO k1 (k := 4) rfl
          have m5 := lt_of_cell m0
          have HH := hide h; have K1 := hide k1; have K2 := hide k2; have K3 := hide k3; have K4 := hide k4; have HK := hide hK
          clear h k1 k2 k3 k4 hK
          generalize hvb : validC c = vb at *
          clear hvb
          have a40 := HH.out.a4
          have HA := hide a40
          have hA4W := (Array.getElem?_eq_some_iff.1 a40).1
          clear a40
          cases vb
          · obtain rfl : R = (zC, false) := by rw [HEQ2.out, if_neg (by simp)]
            gi_wp2_with (refine ⟨trivial, ?_⟩; gi_at_call 17; (with_reducible refine (callsIn_wide.2 HCV.out).mono ?_); rintro e w8 ⟨rfl, hb8⟩; have hbl := (hb8.block w.heap.size hA4W).trans HA.out; have e0 := cell_of_heapO hbl (k := 0) rfl; have e1 := cell_of_heapO hbl (k := 1) rfl; have e2 := cell_of_heapO hbl (k := 2) rfl; have e3 := cell_of_heapO hbl (k := 3) rfl; have e4 := cell_of_heapO hbl (k := 4) rfl; have hll := lt_of_cell e0; have ef := frozen_of_heapO hbl)
            have hK8 := (st5_other w8 w.heap.size D (.int .i64 0) (.int .i64 0) (.int .i64 0) (.int .i64 0) (.slice none 0 0) (by omega)).trans ((hb8.block D (Array.getElem?_eq_some_iff.1 HK.out).1).trans HK.out)
            refine ⟨by simp, .inl ⟨_, _, rfl, run_takeDeferred hK8, ?_⟩⟩
            have hq := done_retO (D := D) (st5_same w8 w.heap.size _ _ _ _ _ _ (.int .i64 0) (.int .i64 0) (.int .i64 0) (.int .i64 0) (.slice none 0 0) hbl) (by omega) (.deferred none)
            have q0 := cell_of_heapO hq (k := 0) rfl; have q1 := cell_of_heapO hq (k := 1) rfl; have q2 := cell_of_heapO hq (k := 2) rfl; have q3 := cell_of_heapO hq (k := 3) rfl; have q4 := cell_of_heapO hq (k := 4) rfl
            have hb9 := st5_below w.heap.size (.int .i64 0) (.int .i64 0) (.int .i64 0) (.int .i64 0) (.slice none 0 0) (HB0.out.trans ((HH.out.bel.trans (hb8.mono HH.out.bel.size)).mono HB0.out.size)) (Nat.le_refl _)
            refine ⟨.tuple #[.agg #[.int .i64 0, .int .i64 0, .int .i64 0, .int .i64 0, .slice none 0 0], .bool false], by simp [results, Try.results44, go_sem, q0, q1, q2, q3, q4], ?_⟩
            exact RetCB.no (hb9.trans (belowK_b (w := W3) (by omega) _ D _ _ hD hK8 rfl rfl))
          · obtain rfl : R = (c, true) := by rw [HEQ2.out, if_pos rfl]
            gi_wp2_with (refine ⟨trivial, ?_⟩; gi_at_call 17; (with_reducible refine (callsIn_wide.2 HCV.out).mono ?_); rintro e w8 ⟨rfl, hb8⟩; have hbl := (hb8.block w.heap.size hA4W).trans HA.out; have e0 := cell_of_heapO hbl (k := 0) rfl; have e1 := cell_of_heapO hbl (k := 1) rfl; have e2 := cell_of_heapO hbl (k := 2) rfl; have e3 := cell_of_heapO hbl (k := 3) rfl; have e4 := cell_of_heapO hbl (k := 4) rfl; have hll := lt_of_cell e0; have ef := frozen_of_heapO hbl; have hb7 := (hb8.block w2.heap.size m5).trans K1.out; have d0 := cell_of_heapO hb7 (k := 0) rfl; have d1 := cell_of_heapO hb7 (k := 1) rfl; have d2 := cell_of_heapO hb7 (k := 2) rfl; have d3 := cell_of_heapO hb7 (k := 3) rfl; have d4 := cell_of_heapO hb7 (k := 4) rfl; have dl := lt_of_cell d0)
            have hK8 := (st5_other w8 w.heap.size D (.int .i64 c.op) (.int .i64 c.th) (.int .i64 c.pl) (.int .i64 c.val) (.slice s.a s.n s.cap) (by omega)).trans ((hb8.block D (Array.getElem?_eq_some_iff.1 HK.out).1).trans HK.out)
            refine ⟨by simp, .inl ⟨_, _, rfl, run_takeDeferred hK8, ?_⟩⟩
            have hq := done_retO (D := D) (st5_same w8 w.heap.size _ _ _ _ _ _ (.int .i64 c.op) (.int .i64 c.th) (.int .i64 c.pl) (.int .i64 c.val) (.slice s.a s.n s.cap) hbl) (by omega) (.deferred none)
            have q0 := cell_of_heapO hq (k := 0) rfl; have q1 := cell_of_heapO hq (k := 1) rfl; have q2 := cell_of_heapO hq (k := 2) rfl; have q3 := cell_of_heapO hq (k := 3) rfl; have q4 := cell_of_heapO hq (k := 4) rfl
            have hb9 := st5_below w.heap.size (.int .i64 c.op) (.int .i64 c.th) (.int .i64 c.pl) (.int .i64 c.val) (.slice s.a s.n s.cap) (HB0.out.trans ((HH.out.bel.trans (hb8.mono HH.out.bel.size)).mono HB0.out.size)) (Nat.le_refl _)
            have ho9 := ((K2.out.keepB hb8).keep (fun q h1 _ _ => st5_other w8 w.heap.size q (.int .i64 c.op) (.int .i64 c.th) (.int .i64 c.pl) (.int .i64 c.val) (.slice s.a s.n s.cap) (by omega))).keepCells (fun q cu _ hqc => (heap_keptO hqc (grownBy_putObj' _ D (.deferred none)) (fun r e => by cases e; exact ⟨_, hK8, rfl⟩)).trans hqc.symm)
            refine ⟨.tuple #[.agg #[.int .i64 c.op, .int .i64 c.th, .int .i64 c.pl, .int .i64 c.val, .slice s.a s.n s.cap], .bool true], by simp [results, Try.results44, go_sem, q0, q1, q2, q3, q4], ?_⟩
            exact ⟨c.op, c.th, c.pl, c.val, c.kids, s, (Cd.eta c).symm, rfl, ho9.wide (by omega) (by have := hb8.size; have := K4.out; simp; omega), hb9.trans (belowK_b (w := W3) (by omega) _ D _ _ hD hK8 rfl rfl)⟩
        case stop =>
          rintro D c pre W _ _ h _
          exact h.elim

end Go.Proofs.Ytpnmphfdfadlcaa
