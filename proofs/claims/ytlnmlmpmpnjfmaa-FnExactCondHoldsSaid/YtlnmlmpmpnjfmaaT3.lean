/-
  The laws' own functions on conditions: copy. No condition but bounds on sizes.
-/
import Derived.Test.YtlnmlmpmpnjfmaaT2
namespace Go.Proofs.Ytlnmlmpmpnjfmaa
open Go.RowKit

/-- What a copy of parts hands back. -/
def RetK (w : World) (xs : List Cd) (e : Ending) (w' : World) : Prop := ∃ s : Slc, e = .returned (.slice s.a s.n s.cap) ∧ RepK w.heap.size w' s xs ∧ Below w.heap.size w w'
/-- What a copy of a condition hands back. -/
def RetC (w : World) (o t p x : Int) (xs : List Cd) (e : Ending) (w' : World) : Prop := ∃ s : Slc, e = .returned (.agg #[.int .i64 o, .int .i64 t, .int .i64 p, .int .i64 x, .slice s.a s.n s.cap]) ∧ RepK w.heap.size w' s xs ∧ Below w.heap.size w w'

theorem RetK.mono {w0 w : World} {xs : List Cd} {e : Ending} {w' : World} (h : RetK w xs e w') (hb : Below w0.heap.size w0 w) : RetK w0 xs e w' := by
  obtain ⟨s, h1, h2, h3⟩ := h
  exact ⟨s, h1, h2.low hb.size, hb.trans (h3.mono hb.size)⟩

def ToK (xs : List Cd) : Prop := ∀ (a : Option Addr) (n c : Nat) (w : World), RepK 0 w ⟨a, n, c⟩ xs → descs xs ≤ 1048576 →
  Calls Try.prog 95 #[.slice a n c] w (RetK w xs)

theorem RepK.set {lo : Nat} {w : World} {s : Slc} {ks : List Cd} (h : RepK lo w s ks) {g : Nat} (hg : g < lo) (j : Nat) (u : Value) : RepK lo (w.setCell ⟨g, j, none⟩ u) s ks :=
  h.keep fun q hq _ => heap_setCell_other w ⟨g, j, none⟩ q u (fun e => by simp at e; omega)
theorem RepC.set {lo : Nat} {w : World} {s : Cs} {ks : Cd} (h : RepC lo w s ks) {g : Nat} (hg : g < lo) (j : Nat) (u : Value) : RepC lo (w.setCell ⟨g, j, none⟩ u) s ks :=
  h.keep fun q hq _ => heap_setCell_other w ⟨g, j, none⟩ q u (fun e => by simp at e; omega)

/-- One element of an owned slice of conditions is stored. -/
theorem Own.setCs {T : TypeId} {w : World} {base g n cap : Nat} {xs : List Cs} (h : Own CsE T w base (.slice (some ⟨g, 0, none⟩) n cap) xs) {k : Nat} {z : Cs} (hz : xs[k]? = some z) (x : Cs) :
    Own CsE T (((((w.setCell ⟨g, k * 5, none⟩ (.int .i64 x.op)).setCell ⟨g, k * 5 + 1, none⟩ (.int .i64 x.th)).setCell ⟨g, k * 5 + 2, none⟩ (.int .i64 x.pl)).setCell ⟨g, k * 5 + 3, none⟩ (.int .i64 x.val)).setCell ⟨g, k * 5 + 4, none⟩ (.slice x.s.a x.s.n x.s.cap)) base (.slice (some ⟨g, 0, none⟩) n cap) (xs.set k x) := by
  have h0 := h.set (i := k) (j := 0) ⟨x.op, z.th, z.pl, z.val, z.s⟩ (u := .int .i64 x.op) (by decide) hz rfl
  have h1 := h0.set (i := k) (j := 1) ⟨x.op, x.th, z.pl, z.val, z.s⟩ (u := .int .i64 x.th) (by decide) (get_set_self hz _) rfl
  have h2 := h1.set (i := k) (j := 2) ⟨x.op, x.th, x.pl, z.val, z.s⟩ (u := .int .i64 x.pl) (by decide) (get_set_self (get_set_self hz _) _) rfl
  have h3 := h2.set (i := k) (j := 3) ⟨x.op, x.th, x.pl, x.val, z.s⟩ (u := .int .i64 x.val) (by decide) (get_set_self (get_set_self (get_set_self hz _) _) _) rfl
  have h4 := h3.set (i := k) (j := 4) x (u := .slice x.s.a x.s.n x.s.cap) (by decide) (get_set_self (get_set_self (get_set_self (get_set_self hz _) _) _) _) rfl
  simp only [List.set_set] at h4
  exact h4

theorem Own.cs {T : TypeId} {w : World} {base g n cap : Nat} {xs : List Cs} (h : Own CsE T w base (.slice (some ⟨g, 0, none⟩) n cap) xs) {k : Nat} {x : Cs} (hx : xs[k]? = some x) :
    g < w.heap.size ∧ w.cell? ⟨g, k * 5, none⟩ = some (.int .i64 x.op) ∧ w.cell? ⟨g, k * 5 + 1, none⟩ = some (.int .i64 x.th) ∧
      w.cell? ⟨g, k * 5 + 2, none⟩ = some (.int .i64 x.pl) ∧ w.cell? ⟨g, k * 5 + 3, none⟩ = some (.int .i64 x.val) ∧ w.cell? ⟨g, k * 5 + 4, none⟩ = some (.slice x.s.a x.s.n x.s.cap) ∧ ∀ j, w.frozen? ⟨g, j, none⟩ = false :=
  ⟨(World.ownsRow.lt h g rfl).2, h.cell hx (j := 0) rfl, h.cell hx (j := 1) rfl, h.cell hx (j := 2) rfl, h.cell hx (j := 3) rfl, h.cell hx (j := 4) rfl, fun j => h.frozen j⟩

set_option maxHeartbeats 800000 in
theorem toCond_of {xs : List Cd} (H : ToK xs) (o t p x : Int) (a : Option Addr) (n c : Nat) (w : World) (h : RepK 0 w ⟨a, n, c⟩ xs) (hl : descs xs ≤ 1048576) :
    Calls Try.prog 45 #[.agg #[.int .i64 o, .int .i64 t, .int .i64 p, .int .i64 x, .slice a n c]] w (RetC w o t p x xs) := by
  have HH := hide h
  have HT := hide (fun w' h' => H a n c w' h' hl)
  clear h H
  go_enter Try.func45, Try.ntmps45
  go_wp2_with fail
  (with_reducible refine (HT.out _ (HH.out.below ((((Below.refl _ _).alloc (Nat.le_refl _) _).alloc (by simp) _).alloc (by simp; omega) _))).mono ?_); rintro e w1 ⟨s, rfl, hs, hb1⟩
  obtain ⟨hc1, hf1⟩ := bcell hb1
  have HS := hide hs; have HB := hide hb1
  clear hs hb1
  go_wp2_with fail
  have hsz : w.heap.size + 3 ≤ w1.heap.size := by have := HB.out.size; simp at this; omega
  refine bodyPost_ret (v := .agg #[.int .i64 o, .int .i64 t, .int .i64 p, .int .i64 x, .slice s.a s.n s.cap]) (by simp [results, Try.results45, go_sem, hc1]) rfl ⟨s, rfl, ?_, ?_⟩
  · have h := HS.out
    have e : (((w.alloc (.cells #[.int .i64 o, .int .i64 t, .int .i64 p, .int .i64 x, .slice a n c] 50)).alloc (.cells #[.int .i64 0, .int .i64 0, .int .i64 0, .int .i64 0, .slice none 0 0] 55)).alloc (.cells #[.int .i64 o, .int .i64 t, .int .i64 p, .int .i64 x, .slice none 0 0] 55)).heap.size = w.heap.size + 1 + 1 + 1 := by simp
    rw [e] at h
    exact ((((((h.set (by omega) _ _).set (by omega) _ _).set (by omega) _ _).set (by omega) _ _).set (by omega) _ _).set (by omega) _ _).low (by omega)
  · have h0 := (((Below.refl w.heap.size w).alloc (Nat.le_refl _) (.cells #[.int .i64 o, .int .i64 t, .int .i64 p, .int .i64 x, .slice a n c] 50)).alloc (by simp) (.cells #[.int .i64 0, .int .i64 0, .int .i64 0, .int .i64 0, .slice none 0 0] 55)).alloc (by simp; omega) (.cells #[.int .i64 o, .int .i64 t, .int .i64 p, .int .i64 x, .slice none 0 0] 55)
    exact ((((((h0.trans (HB.out.mono h0.size)).setCell (by simp; omega) _).setCell (by simp) _).setCell (by simp) _).setCell (by simp) _).setCell (by simp) _).setCell (by simp) _

set_option maxHeartbeats 800000 in
theorem toK_any : ∀ xs, ToK xs := Cd.all (by
  intro xs ih a n c w hx hl
  obtain ⟨e1, hc1, hc2, hc3⟩ := hx.open
  simp only at e1 hc1 hc2 hc3
  have HX := hide hx; have IH := hide ih
  clear hx ih
  have H := hide e1.symm
  clear e1
  rw [H.out] at hc1 hc2
  have hn : n ≤ 1048576 := by have := length_le_descs xs; rw [H.out] at this; omega
  go_enter Try.func95, Try.ntmps95
  go_wp2_with (at_make; refine wpList_make CsE 55 ⟨0, 0, 0, 0, ⟨none, 0, 0⟩⟩ Try.infoCond rfl Try.underlying53 n (by decide) (by omega) rfl _ _ rfl rfl rfl ?_; intro w1 hown hgr)
  have hb1 := below_of_grown hgr
  go_loopw [4] (fun i wr => ∃ (k : Nat) (us : List Cs), k ≤ n ∧ i = .int .i64 k ∧ Hid (us.length = k) ∧ Own CsE 55 wr w.heap.size (.slice (some ⟨w.heap.size, 0, none⟩) n n) (us ++ List.replicate (n - k) ⟨0, 0, 0, 0, ⟨none, 0, 0⟩⟩) ∧ Hid (∀ (i : Nat) (u : Cs) (x : Cd), us[i]? = some u → xs[i]? = some x → RepC (w.heap.size + 1) wr u x) ∧ Below w.heap.size w wr) (fun i _ => n - (intOf i).toNat)
  case atStart => exact ⟨0, [], Nat.zero_le _, rfl, hide rfl, by simpa using hown, hide (fun i u x h => by simp at h), hb1⟩
  case round =>
    obtain ⟨k, us, hk, rfl, U, ho, R, hb⟩ := hrel
    by_cases hlt : k < n
    · obtain ⟨x, hxk⟩ := get_of_lt (xs := xs) (k := k) (by rw [H.out]; exact hlt)
      obtain ⟨b, o, s, rfl, hbl, i0, i1, i2, i3, i4, i5⟩ := (HX.out.below hb).kid hxk
      have hlt' := nat_of_lt hlt
      have HC := hide (fun w' h => toCond_of (IH.out x (List.mem_of_getElem? hxk)) x.op x.th x.pl x.val s.a s.n s.cap w' h (by have := descs_kid hxk; omega))
      have hz : (us ++ List.replicate (n - k) (⟨0, 0, 0, 0, ⟨none, 0, 0⟩⟩ : Cs))[k]? = some ⟨0, 0, 0, 0, ⟨none, 0, 0⟩⟩ := by
        rw [List.getElem?_append_right (by rw [U.out]; omega), U.out, Nat.sub_self, List.getElem?_replicate, if_pos (by omega)]
      have X := hide hxk; have HZ := hide hz; have I5 := hide i5
      clear hxk hz i5
      go_wp2_with fail
      (with_reducible refine (HC.out _ I5.out).mono ?_); rintro e w2 ⟨s', rfl, hs', hb2⟩
      obtain ⟨hgl, f0, f1, f2, f3, f4, hfr⟩ := (ho.below hb2).cs HZ.out
      have ho2 := (ho.below hb2).setCs HZ.out ⟨x.op, x.th, x.pl, x.val, s'⟩
      have hset : (us ++ List.replicate (n - k) (⟨0, 0, 0, 0, ⟨none, 0, 0⟩⟩ : Cs)).set k ⟨x.op, x.th, x.pl, x.val, s'⟩ = (us ++ [⟨x.op, x.th, x.pl, x.val, s'⟩]) ++ List.replicate (n - (k + 1)) ⟨0, 0, 0, 0, ⟨none, 0, 0⟩⟩ := by
        rw [List.set_append_right _ _ (by rw [U.out]; omega), U.out, Nat.sub_self, show n - k = (n - (k + 1)) + 1 by omega, List.replicate_succ, List.set_cons_zero]; simp
      rw [hset] at ho2
      clear hset
      have HO2 := hide ho2; have HS := hide hs'
      clear ho2 hs'
      have hgw : w.heap.size < wr.heap.size := by have := (World.ownsRow.lt ho _ rfl).2; exact this
      have R2 : Hid (∀ (i : Nat) (u : Cs) (y : Cd), (us ++ [(⟨x.op, x.th, x.pl, x.val, s'⟩ : Cs)])[i]? = some u → xs[i]? = some y → RepC (w.heap.size + 1) w2 u y) := hide (by
        intro i u y hu hy
        by_cases hi : i < k
        · rw [List.getElem?_append_left (by rw [U.out]; exact hi)] at hu
          exact (R.out i u y hu hy).belowW hb2
        · have hi2 : i = k := by
            have := (List.getElem?_eq_some_iff.1 hu).1
            simp [U.out] at this; omega
          subst hi2
          rw [List.getElem?_append_right (by rw [U.out]; omega), U.out, Nat.sub_self] at hu
          simp at hu
          rw [X.out] at hy
          simp at hy
          subst hu; subst hy
          have := (HS.out.low (lo' := w.heap.size + 1) (by omega)).cond x.op x.th x.pl x.val
          rwa [Cd.eta] at this)
      have hb3 := hb.trans (hb2.mono hb.size)
      go_wp2_with fail
      go_roundw
      case rel =>
        refine ⟨k + 1, _, by omega, by go_num, hide (by simp [U.out]), HO2.out, hide (fun i u y hu hy => (((((R2.out i u y hu hy).set (by omega) _ _).set (by omega) _ _).set (by omega) _ _).set (by omega) _ _).set (by omega) _ _), ((((hb3.setCell (Nat.le_refl _) _).setCell (Nat.le_refl _) _).setCell (Nat.le_refl _) _).setCell (Nat.le_refl _) _).setCell (Nat.le_refl _) _⟩
      case measure => simp [intOf]; omega
    · have e : k = n := by omega
      subst e
      have HO := hide ho; clear ho
      go_wp2_with fail
      go_ret
      have ho := HO.out
      rw [Nat.sub_self, List.replicate_zero, List.append_nil] at ho
      have hgw : w.heap.size < wr.heap.size := (World.ownsRow.lt ho _ rfl).2
      have hr := ho.rep
      exact ⟨⟨some ⟨w.heap.size, 0, none⟩, k, k⟩, rfl, ⟨us, by rw [U.out, H.out], by exact hr, .inr (fun b o e => by simp at e; omega), fun i u y hu hy => (R.out i u y hu hy).low (by omega)⟩, hb⟩)

theorem toCond_any (o t p x : Int) (xs : List Cd) (a : Option Addr) (n c : Nat) (w : World) (h : RepK 0 w ⟨a, n, c⟩ xs) (hl : descs xs ≤ 1048576) :
    Calls Try.prog 45 #[.agg #[.int .i64 o, .int .i64 t, .int .i64 p, .int .i64 x, .slice a n c]] w (RetC w o t p x xs) := toCond_of (toK_any xs) o t p x a n c w h hl

end Go.Proofs.Ytlnmlmpmpnjfmaa
