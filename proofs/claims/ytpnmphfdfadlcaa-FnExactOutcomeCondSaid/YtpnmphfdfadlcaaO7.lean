/-
  The reference's OutcomeCond, first part: locations written, and the conjunction of a list.
-/
import Derived.Test.YtpnmphfdfadlcaaO5
import Derived.Test.YtpnmphfdfadlcaaO6
import Derived.Deep.RegionLaw
import Derived.Deep.DeepCutAuto
namespace Go.Proofs.Ytpnmphfdfadlcaa
open Go.RowKit

theorem writes_cnt (p : List (List Ins)) (l : Int) : writesP p l = decide (0 < cnt (fRW true l) p) := by
  unfold writesP cnt
  rw [Bool.eq_iff_iff, decide_eq_true_eq, List.countP_pos_iff, List.any_eq_true]
  constructor
  · rintro ⟨r, hr, h⟩
    obtain ⟨x, hx, h2⟩ := List.any_eq_true.1 h
    simp only [Bool.and_eq_true, beq_iff_eq] at h2
    exact ⟨x, List.mem_flatten.2 ⟨r, hr, hx⟩, by simp [fRW, h2.1, h2.2]⟩
  · rintro ⟨x, hx, h⟩
    obtain ⟨r, hr, hxr⟩ := List.mem_flatten.1 hx
    simp [fRW] at h
    exact ⟨r, hr, List.any_eq_true.2 ⟨x, hxr, by simp [h.1, h.2]⟩⟩

theorem cell_of_heapP {w : World} {b k : Nat} {cur : Array Value} {t : TypeId} {v : Value} (h : w.heap[b]? = some (.cells cur t (0, 0))) (hk : cur[k]? = some v) : w.cell? ⟨b, k, none⟩ = some v := by
  simp [World.cell?, h, hk]
theorem frozen_of_heapP {w : World} {b : Nat} {cur : Array Value} {t : TypeId} (h : w.heap[b]? = some (.cells cur t (0, 0))) (j : Nat) : w.frozen? ⟨b, j, none⟩ = false := by
  simp [World.frozen?, h]

/-- A condition that the call made. -/
def RetC1 (w : World) (c : Cd) (e : Ending) (w' : World) : Prop :=
  ∃ (o t q x : Int) (ks : List Cd) (s : Slc), c = .mk o t q x ks ∧ e = .returned (.agg #[.int .i64 o, .int .i64 t, .int .i64 q, .int .i64 x, .slice s.a s.n s.cap]) ∧ OwnC 25 w' w.heap.size w'.heap.size s ks ∧ Below w.heap.size w w'

theorem Rep.cs {w : World} {a : Option Addr} {n c : Nat} {xs : List Cs} (h : Rep CsE w (.slice a n c) xs) {k : Nat} {x : Cs} (hx : xs[k]? = some x) :
    ∃ b o, a = some ⟨b, o, none⟩ ∧ b < w.heap.size ∧ w.cell? ⟨b, o + k * 5, none⟩ = some (.int .i64 x.op) ∧ w.cell? ⟨b, o + k * 5 + 1, none⟩ = some (.int .i64 x.th) ∧
      w.cell? ⟨b, o + k * 5 + 2, none⟩ = some (.int .i64 x.pl) ∧ w.cell? ⟨b, o + k * 5 + 3, none⟩ = some (.int .i64 x.val) ∧ w.cell? ⟨b, o + k * 5 + 4, none⟩ = some (.slice x.s.a x.s.n x.s.cap) := by
  obtain ⟨a', c', hv, _, _, h⟩ := h
  simp only [Value.slice.injEq] at hv
  obtain ⟨rfl, _, _⟩ := hv
  obtain ⟨b, o, rfl, h'⟩ := h k x hx
  exact ⟨b, o, rfl, lt_of_cell (h' 0 _ rfl), h' 0 _ rfl, h' 1 _ rfl, h' 2 _ rfl, h' 3 _ rfl, h' 4 _ rfl⟩

theorem andL_last {xs : List Cs} {i : Nat} {x : Cs} (h : xs[i]? = some x) (hi : i + 1 = xs.length) : andL (xs.drop i) = leafC x := by
  obtain ⟨h1, h2⟩ := List.getElem?_eq_some_iff.1 h
  rw [List.drop_eq_getElem_cons h1, h2, List.drop_of_length_le (by omega)]; rfl
theorem andL_more {xs : List Cs} {i : Nat} {x : Cs} (h : xs[i]? = some x) (hi : i + 1 < xs.length) : andL (xs.drop i) = .mk 3 0 0 0 [leafC x, andL (xs.drop (i + 1))] := by
  obtain ⟨h1, h2⟩ := List.getElem?_eq_some_iff.1 h
  rw [List.drop_eq_getElem_cons h1, h2, List.drop_eq_getElem_cons hi]
  rfl

set_option maxRecDepth 100000 in
set_option maxHeartbeats 3200000 in
theorem l11And_any (xs : List Cs) (hxs : ∀ u ∈ xs, u.s = ⟨none, 0, 0⟩) (hl : xs.length ≤ 1048576) : ∀ (k i : Nat) (a : Option Addr) (c : Nat) (w : World), i + k + 1 = xs.length → Rep CsE w (.slice a xs.length c) xs →
    Calls Try.prog 119 #[.slice a xs.length c, .int .i64 i] w (RetC1 w (andL (xs.drop i))) := by
  intro k
  induction k with
  | zero =>
    intro i a c w hi hx
    obtain ⟨x, hxi⟩ := get_of_lt (xs := xs) (k := i) (by omega)
    obtain ⟨b, o, rfl, hbl, i0, i1, i2, i3, i4⟩ := hx.cs hxi
    have hs := hxs x (List.mem_of_getElem? hxi)
    have HA := hide (andL_last hxi (by omega))
    obtain ⟨xo, xt, xp, xv, xss⟩ := x
    simp only at hs i0 i1 i2 i3 i4
    subst hs
    obtain ⟨n, hn⟩ : ∃ n, xs.length = n := ⟨_, rfl⟩
    rw [hn] at hi ⊢
    have hb := (Below.refl w.heap.size w).alloc (Nat.le_refl _) (.cells #[.int .i64 0, .int .i64 0, .int .i64 0, .int .i64 0, .slice none 0 0] 25)
    have he : ((i : Int) == (n : Int) - 1) = true := by simp; omega
    have hw1 : wrap64 ((n : Int) - 1) = (n : Int) - 1 := by rw [hn] at hl; unfold wrap64; omega
    have hlt : (i : Int) < (n : Int) := by omega
    clear hxi hx hxs hl hn
    go_enter Try.func119, Try.ntmps119
    go_wp2_with fail
    refine bodyPost_ret (v := .agg #[.int .i64 xo, .int .i64 xt, .int .i64 xp, .int .i64 xv, .slice none 0 0]) (by simp [results, Try.results119, go_sem]) rfl ⟨xo, xt, xp, xv, [], ⟨none, 0, 0⟩, HA.out, rfl, .nil, ?_⟩
    exact (Below.refl w.heap.size w).alloc (Nat.le_refl _) _
  | succ k ih =>
    intro i a c w hi hx
    obtain ⟨x, hxi⟩ := get_of_lt (xs := xs) (k := i) (by omega)
    obtain ⟨b, o, rfl, hbl, i0, i1, i2, i3, i4⟩ := hx.cs hxi
    have hs := hxs x (List.mem_of_getElem? hxi)
    have HA := hide (andL_more hxi (by omega))
    have HI := hide (fun w' h => ih (i + 1) (some ⟨b, o, none⟩) c w' (by omega) h)
    obtain ⟨xo, xt, xp, xv, xss⟩ := x
    simp only at hs i0 i1 i2 i3 i4
    subst hs
    have HX := hide hx
    obtain ⟨n, hn⟩ : ∃ n, xs.length = n := ⟨_, rfl⟩
    rw [hn] at hi HI HX ⊢
    have hb := (Below.refl w.heap.size w).alloc (Nat.le_refl _) (.cells #[.int .i64 0, .int .i64 0, .int .i64 0, .int .i64 0, .slice none 0 0] 25)
    have HB := hide hb
    have he : ((i : Int) == (n : Int) - 1) = false := by simp; omega
    have hw1 : wrap64 ((n : Int) - 1) = (n : Int) - 1 := by rw [hn] at hl; unfold wrap64; omega
    have hw2 : IntKind.i64.wrap ((i : Int) + 1) = ((i + 1 : Nat) : Int) := by rw [hn] at hl; rw [IntKind.wrap_i64]; omega
    have hlt : (i : Int) < (n : Int) := by omega
    clear hxi hx hxs hl hn hb ih
    generalize andL (xs.drop (i + 1)) = c2 at *
    generalize andL (xs.drop i) = c1 at *
    obtain ⟨i', hi'⟩ : ∃ i', i + 1 = i' := ⟨_, rfl⟩
    rw [hi'] at HI hw2
    clear hi'
    go_enter Try.func119, Try.ntmps119
    go_wp2_with fail
    have j0 := (HB.out.cell (p := ⟨b, o + i * 5, none⟩) hbl).trans i0; have j1 := (HB.out.cell (p := ⟨b, o + i * 5 + 1, none⟩) hbl).trans i1; have j2 := (HB.out.cell (p := ⟨b, o + i * 5 + 2, none⟩) hbl).trans i2; have j3 := (HB.out.cell (p := ⟨b, o + i * 5 + 3, none⟩) hbl).trans i3; have j4 := (HB.out.cell (p := ⟨b, o + i * 5 + 4, none⟩) hbl).trans i4
    have hbl0 := Nat.lt_of_lt_of_le hbl HB.out.size
    have hz := heap_alloc_new w (.cells #[.int .i64 0, .int .i64 0, .int .i64 0, .int .i64 0, .slice none 0 0] 25)
    have HZ := hide hz
    have HXd := hide ((HX.out.below HB.out).below (Below.refl _ _).drew)
    have hlw := (Array.getElem?_eq_some_iff.1 hz).1
    clear hz i0 i1 i2 i3 i4
    have hsz0 : (w.alloc (.cells #[.int .i64 0, .int .i64 0, .int .i64 0, .int .i64 0, .slice none 0 0] 25)).heap.size = w.heap.size + 1 := by simp
    generalize w.alloc (.cells #[.int .i64 0, .int .i64 0, .int .i64 0, .int .i64 0, .slice none 0 0] 25) = W0 at *
    go_region_law
      (first
        | (go_simp; go_at_call 119; (with_reducible refine (HI.out _ HXd.out).mono ?_); rintro e u1 ⟨ro, rt, rp, rv, rks, rs, rfl, rfl, own5, hb5⟩; have OW := hide own5; have HB5 := hide hb5; have j0 := (hb5.cell (p := ⟨b, o + i * 5, none⟩) hbl0).trans j0; have j1 := (hb5.cell (p := ⟨b, o + i * 5 + 1, none⟩) hbl0).trans j1; have j2 := (hb5.cell (p := ⟨b, o + i * 5 + 2, none⟩) hbl0).trans j2; have j3 := (hb5.cell (p := ⟨b, o + i * 5 + 3, none⟩) hbl0).trans j3; have j4 := (hb5.cell (p := ⟨b, o + i * 5 + 4, none⟩) hbl0).trans j4; have hblu := Nat.lt_of_lt_of_le hbl0 hb5.size; have hbz := (hb5.block w.heap.size hlw).trans HZ.out; have e0 := cell_of_heapP hbz (k := 0) rfl; have e1 := cell_of_heapP hbz (k := 1) rfl; have e2 := cell_of_heapP hbz (k := 2) rfl; have e3 := cell_of_heapP hbz (k := 3) rfl; have e4 := cell_of_heapP hbz (k := 4) rfl; have hll := lt_of_cell e0; have ef := frozen_of_heapP hbz; have HBZ := hide hbz; clear own5 hb5 hbz))
    all_goals
      go_wp2_with fail
      have hgg := st5_same u1 w.heap.size _ _ _ _ _ _ (.int .i64 3) (.int .i64 0) (.int .i64 0) (.int .i64 0) (.slice (some ⟨u1.heap.size, 0, none⟩) 2 2) HBZ.out
      have hq := (heap_alloc_old _ (.cells #[.int .i64 xo, .int .i64 xt, .int .i64 xp, .int .i64 xv, .slice none 0 0, .int .i64 ro, .int .i64 rt, .int .i64 rp, .int .i64 rv, .slice rs.a rs.n rs.cap] 25) (Array.getElem?_eq_some_iff.1 hgg).1).trans hgg
      have q0 := cell_of_heapO hq (k := 0) rfl; have q1 := cell_of_heapO hq (k := 1) rfl; have q2 := cell_of_heapO hq (k := 2) rfl; have q3 := cell_of_heapO hq (k := 3) rfl; have q4 := cell_of_heapO hq (k := 4) rfl
      have hsz5 := st5_size u1 w.heap.size (.int .i64 3) (.int .i64 0) (.int .i64 0) (.int .i64 0) (.slice (some ⟨u1.heap.size, 0, none⟩) 2 2)
      have hBu := HB5.out.size
      have ho5 := OW.out.keep (fun q h1 _ _ => st5_other u1 w.heap.size q (.int .i64 3) (.int .i64 0) (.int .i64 0) (.int .i64 0) (.slice (some ⟨u1.heap.size, 0, none⟩) 2 2) (by simp at h1; omega))
      have ht := OwnC.two (.nil (lo := W0.drew.heap.size)) ho5 (Nat.le_refl _) hBu (Nat.le_of_eq hsz5.symm) xo xt xp xv ro rt rp rv
      have hb9 := (st5_below w.heap.size (.int .i64 3) (.int .i64 0) (.int .i64 0) (.int .i64 0) (.slice (some ⟨u1.heap.size, 0, none⟩) 2 2) (HB.out.drew.trans (HB5.out.mono HB.out.drew.size)) (by omega)).alloc (by rw [hsz5]; have := HB.out.size; simp at hBu; omega) (.cells #[.int .i64 xo, .int .i64 xt, .int .i64 xp, .int .i64 xv, .slice none 0 0, .int .i64 ro, .int .i64 rt, .int .i64 rp, .int .i64 rv, .slice rs.a rs.n rs.cap] 25)
      rw [hsz5] at ht
      refine bodyPost_ret (v := .agg #[.int .i64 3, .int .i64 0, .int .i64 0, .int .i64 0, .slice (some ⟨u1.heap.size, 0, none⟩) 2 2]) (by simp [results, Try.results119, go_sem, q0, q1, q2, q3, q4]) rfl ⟨3, 0, 0, 0, _, ⟨some ⟨u1.heap.size, 0, none⟩, 2, 2⟩, HA.out, rfl, ht.wide (by have := HB.out.size; simp; omega) (by simp), ?_⟩
      exact hb9

end Go.Proofs.Ytpnmphfdfadlcaa
