/-
  Conditions that are drawn and changed. Condition: not too many numbers were taken.
-/
import Derived.Test.YtpnmphfdfadlcaaD2
import Derived.Test.YtpnmphfdfadlcaaT2
import Derived.Test.YtpnmphfdfadlcaaBase2
namespace Go.Proofs.Ytpnmphfdfadlcaa
open Go.RowKit

/-- u reads as the condition c, in blocks that are ok. -/
inductive RepX (ok : Nat → Prop) (w : World) : Cs → Cd → Prop
  | mk {o t p x : Int} {s : Slc} {us : List Cs} {ks : List Cd} (h1 : us.length = ks.length) (h2 : Rep CsE w s.v us) (h3 : us = [] ∨ ∀ b o, s.a = some ⟨b, o, none⟩ → ok b)
      (h4 : ∀ (i : Nat) (u : Cs) (k : Cd), us[i]? = some u → ks[i]? = some k → RepX ok w u k) : RepX ok w ⟨o, t, p, x, s⟩ (.mk o t p x ks)

/-- s reads as the conditions ks, in blocks that are ok. -/
def Foot (ok : Nat → Prop) (w : World) (s : Slc) (ks : List Cd) : Prop :=
  ∃ us : List Cs, us.length = ks.length ∧ Rep CsE w s.v us ∧ (us = [] ∨ ∀ b o, s.a = some ⟨b, o, none⟩ → ok b) ∧ ∀ (i : Nat) (u : Cs) (k : Cd), us[i]? = some u → ks[i]? = some k → RepX ok w u k

theorem Foot.cond {ok : Nat → Prop} {w : World} {s : Slc} {ks : List Cd} (h : Foot ok w s ks) (o t p x : Int) : RepX ok w ⟨o, t, p, x, s⟩ (.mk o t p x ks) := by
  obtain ⟨us, h1, h2, h3, h4⟩ := h
  exact .mk h1 h2 h3 h4

theorem rep_ok {ok : Nat → Prop} {w w' : World} {s : Slc} {us : List Cs} (h : Rep CsE w s.v us) (hf : us = [] ∨ ∀ b o, s.a = some ⟨b, o, none⟩ → ok b) (hk : ∀ q, ok q → q < w.heap.size → w'.heap[q]? = w.heap[q]?) : Rep CsE w' s.v us := by
  obtain ⟨a, c, hv, h1, h2, h⟩ := h
  refine ⟨a, c, hv, h1, h2, fun i x hx => ?_⟩
  obtain ⟨b, o, rfl, hi⟩ := h i x hx
  refine ⟨b, o, rfl, fun j u hu => ?_⟩
  have hc := hi j u hu
  rw [← hc]
  refine cell_of_block (hk b ?_ (lt_of_cell hc)) _
  rcases hf with rfl | hf
  · simp at hx
  · simp only [Slc.v, Value.slice.injEq] at hv
    exact hf b o hv.1

theorem RepX.step {ok : Nat → Prop} {w w' : World} {u : Cs} {c : Cd} (h : RepX ok w u c) (hk : ∀ q, ok q → q < w.heap.size → w'.heap[q]? = w.heap[q]?) : RepX ok w' u c := by
  induction h with
  | mk h1 h2 h3 h4 ih => exact .mk h1 (rep_ok h2 h3 hk) h3 ih
theorem RepX.weak {ok ok' : Nat → Prop} {w : World} {u : Cs} {c : Cd} (h : RepX ok w u c) (hi : ∀ q, ok q → ok' q) : RepX ok' w u c := by
  induction h with
  | mk h1 h2 h3 h4 ih => exact .mk h1 h2 (h3.imp id fun h b o e => hi b (h b o e)) ih
theorem RepX.rep {ok : Nat → Prop} {w : World} {u : Cs} {c : Cd} (h : RepX ok w u c) : RepC 0 w u c := by
  induction h with
  | mk h1 h2 h3 h4 ih => exact .mk h1 h2 (.inr fun b o _ => Nat.zero_le _) ih
theorem RepX.of {lo : Nat} {w : World} {u : Cs} {c : Cd} (h : RepC lo w u c) : RepX (fun q => lo ≤ q) w u c := by
  induction h with
  | mk h1 h2 h3 h4 ih => exact .mk h1 h2 h3 ih

theorem Foot.step {ok : Nat → Prop} {w w' : World} {s : Slc} {ks : List Cd} (h : Foot ok w s ks) (hk : ∀ q, ok q → q < w.heap.size → w'.heap[q]? = w.heap[q]?) : Foot ok w' s ks := by
  obtain ⟨us, h1, h2, h3, h4⟩ := h
  exact ⟨us, h1, rep_ok h2 h3 hk, h3, fun i u k hu hkk => (h4 i u k hu hkk).step hk⟩
theorem Foot.weak {ok ok' : Nat → Prop} {w : World} {s : Slc} {ks : List Cd} (h : Foot ok w s ks) (hi : ∀ q, ok q → ok' q) : Foot ok' w s ks := by
  obtain ⟨us, h1, h2, h3, h4⟩ := h
  exact ⟨us, h1, h2, h3.imp id fun h b o e => hi b (h b o e), fun i u k hu hkk => (h4 i u k hu hkk).weak hi⟩
theorem Foot.rep {ok : Nat → Prop} {w : World} {s : Slc} {ks : List Cd} (h : Foot ok w s ks) : RepK 0 w s ks := by
  obtain ⟨us, h1, h2, h3, h4⟩ := h
  exact ⟨us, h1, h2, .inr fun b o _ => Nat.zero_le _, fun i u k hu hkk => (h4 i u k hu hkk).rep⟩
theorem Foot.of {lo : Nat} {w : World} {s : Slc} {ks : List Cd} (h : RepK lo w s ks) : Foot (fun q => lo ≤ q) w s ks := by
  obtain ⟨us, h1, h2, h3, h4⟩ := h
  exact ⟨us, h1, h2, h3, fun i u k hu hkk => RepX.of (h4 i u k hu hkk)⟩
theorem Foot.nil (ok : Nat → Prop) (w : World) : Foot ok w ⟨none, 0, 0⟩ [] := ⟨[], rfl, Rep.nil w, .inl rfl, fun i u k h => by simp at h⟩
theorem Foot.below {ok : Nat → Prop} {w w' : World} {s : Slc} {ks : List Cd} (h : Foot ok w s ks) (hb : Below w.heap.size w w') : Foot ok w' s ks := h.step (fun q _ hq => hb.block q hq)
theorem Foot.set {ok : Nat → Prop} {w : World} {s : Slc} {ks : List Cd} (h : Foot ok w s ks) {g : Nat} (hg : ¬ ok g) (j : Nat) (u : Value) : Foot ok (w.setCell ⟨g, j, none⟩ u) s ks :=
  h.step (fun q hq _ => heap_setCell_other w ⟨g, j, none⟩ q u (fun e => hg (by
    have h2 : q = g := by simpa using e
    exact h2 ▸ hq)))
theorem Foot.outside {ok : Nat → Prop} {b : Nat} {w w' : World} {s : Slc} {ks : List Cd} (h : Foot ok w s ks) (ho : Outside b (b + 1) w w') (hb : ¬ ok b) : Foot ok w' s ks :=
  h.step (fun q hq hqs => ho.block q hqs (by
    have : q ≠ b := fun e => hb (e ▸ hq)
    omega))

theorem Foot.one {ok : Nat → Prop} {w : World} {o t q x : Int} {s : Slc} {ks : List Cd} (h : Foot ok w s ks) (hg : ok w.heap.size) (T : TypeId) :
    Foot ok (w.alloc (.cells #[.int .i64 o, .int .i64 t, .int .i64 q, .int .i64 x, .slice s.a s.n s.cap] T)) ⟨some ⟨w.heap.size, 0, none⟩, 1, 1⟩ [.mk o t q x ks] := by
  refine ⟨[⟨o, t, q, x, s⟩], rfl, ⟨_, 1, rfl, Nat.le_refl _, by unfold maxLen; omega, fun i u hu => ?_⟩, .inr fun b f e => by simp at e; rw [← e.1]; exact hg, fun i u k hu hk => ?_⟩
  · refine ⟨w.heap.size, 0, rfl, fun j v hv => ?_⟩
    cases i with
    | zero =>
      simp at hu; subst hu
      rw [cell_of_row _ _ _ _ T (0, 0) (heap_alloc_new w _)]
      simpa [CsE] using hv
    | succ i => simp at hu
  · cases i with
    | zero =>
      simp at hu hk; subst hu; subst hk
      exact (h.below (belowAlloc _ _)).cond o t q x
    | succ i => simp at hu

/-- A condition that was drawn: all of it from lo on. -/
def QF (lo : Nat) (K : Int) (v : Value) (w : World) : Prop := ∃ (o t q x : Int) (s : Slc) (ks : List Cd), v = .agg #[.int .i64 o, .int .i64 t, .int .i64 q, .int .i64 x, .slice s.a s.n s.cap] ∧ Foot (fun q => lo ≤ q) w s ks ∧ (descs ks : Int) + 2 ≤ K

theorem numLit3 (b : Nat) (a : Option Addr) (c : Nat) (xs : List Int) (p : Int) (y0 y1 y2 : Int) (w' : World) (G : Nat) (hG : w'.heap.size = G) (hb : b < G) (h : Rd (w'.alloc (.cells #[.int .i64 y0, .int .i64 y1, .int .i64 y2] 3)) b a c xs p) (hp : p ≤ 1000000000) :
    Calls Try.prog 159 #[.pointer (some ⟨b, 0, none⟩), .slice (some ⟨G, 0, none⟩) 3 3] (w'.alloc (.cells #[.int .i64 y0, .int .i64 y1, .int .i64 y2] 3)) (RetRd (w'.alloc (.cells #[.int .i64 y0, .int .i64 y1, .int .i64 y2] 3)) b a c xs p 1 (OneOf [y0, y1, y2])) := by
  subst hG
  exact num_any b a c xs p (Value.slice (some (Addr.mk w'.heap.size 0 none)) 3 3) [y0, y1, y2] _ h hp (rep_lit w' [y0, y1, y2] 3 (by simp)) (by simp) (by simp) (by intro g o e; simp at e; omega)

theorem numLit4 (b : Nat) (a : Option Addr) (c : Nat) (xs : List Int) (p : Int) (y0 y1 y2 y3 : Int) (w' : World) (G : Nat) (hG : w'.heap.size = G) (hb : b < G) (h : Rd (w'.alloc (.cells #[.int .i64 y0, .int .i64 y1, .int .i64 y2, .int .i64 y3] 3)) b a c xs p) (hp : p ≤ 1000000000) :
    Calls Try.prog 159 #[.pointer (some ⟨b, 0, none⟩), .slice (some ⟨G, 0, none⟩) 4 4] (w'.alloc (.cells #[.int .i64 y0, .int .i64 y1, .int .i64 y2, .int .i64 y3] 3)) (RetRd (w'.alloc (.cells #[.int .i64 y0, .int .i64 y1, .int .i64 y2, .int .i64 y3] 3)) b a c xs p 1 (OneOf [y0, y1, y2, y3])) := by
  subst hG
  exact num_any b a c xs p (Value.slice (some (Addr.mk w'.heap.size 0 none)) 4 4) [y0, y1, y2, y3] _ h hp (rep_lit w' [y0, y1, y2, y3] 3 (by simp)) (by simp) (by simp) (by intro g o e; simp at e; omega)

theorem numLit5 (b : Nat) (a : Option Addr) (c : Nat) (xs : List Int) (p : Int) (y0 y1 y2 y3 y4 : Int) (w' : World) (G : Nat) (hG : w'.heap.size = G) (hb : b < G) (h : Rd (w'.alloc (.cells #[.int .i64 y0, .int .i64 y1, .int .i64 y2, .int .i64 y3, .int .i64 y4] 3)) b a c xs p) (hp : p ≤ 1000000000) :
    Calls Try.prog 159 #[.pointer (some ⟨b, 0, none⟩), .slice (some ⟨G, 0, none⟩) 5 5] (w'.alloc (.cells #[.int .i64 y0, .int .i64 y1, .int .i64 y2, .int .i64 y3, .int .i64 y4] 3)) (RetRd (w'.alloc (.cells #[.int .i64 y0, .int .i64 y1, .int .i64 y2, .int .i64 y3, .int .i64 y4] 3)) b a c xs p 1 (OneOf [y0, y1, y2, y3, y4])) := by
  subst hG
  exact num_any b a c xs p (Value.slice (some (Addr.mk w'.heap.size 0 none)) 5 5) [y0, y1, y2, y3, y4] _ h hp (rep_lit w' [y0, y1, y2, y3, y4] 3 (by simp)) (by simp) (by simp) (by intro g o e; simp at e; omega)

set_option maxHeartbeats 800000 in
theorem l11Some_any (b : Nat) (a : Option Addr) (c : Nat) (xs : List Int) (p : Int) (w : World) (hr : Rd w b a c xs p) (hp : p ≤ 800000000) :
    Calls Try.prog 80 #[.pointer (some ⟨b, 0, none⟩)] w (RetRd w b a c xs p 200 (QF w.heap.size 40)) := by
  have HN := hide (fun w' G hG hb h hp => numLit4 b a c xs p 2 3 1 4 w' G hG hb h hp)
  have HD := hide (fun d hd p w' h hp => l11Draw_any b a c xs d hd p w' h hp)
  have HR0 := hide (hr.allocNew (.cells #[.int .i64 0, .int .i64 0, .int .i64 0, .int .i64 0, .slice none 0 0] 25))
  have HO0 := hide (Outside.of_below (lo := b) (hi := b + 1) (belowAlloc w (.cells #[.int .i64 0, .int .i64 0, .int .i64 0, .int .i64 0, .slice none 0 0] 25)))
  have hlt := hr.lt
  have hne : w.heap.size ≠ b := by omega
  clear hr
  go_enter Try.func80, Try.ntmps80
  go_wp2_with fail
  (with_reducible refine (HN.out _ _ (by simp) (by omega) (HR0.out.allocNew _) (by omega)).mono ?_); rintro e w1 ⟨v1, p1, rfl, ⟨y, hy, rfl⟩, hp1, hr1, ho1⟩
  have HR1 := hide hr1
  have OO1 := hide ((Outside.of_below (lo := b) (hi := b + 1) (belowAlloc (w.alloc (.cells #[.int .i64 0, .int .i64 0, .int .i64 0, .int .i64 0, .slice none 0 0] 25)) (.cells #[.int .i64 2, .int .i64 3, .int .i64 1, .int .i64 4] 3))).trans ho1)
  clear hr1 ho1
  obtain ⟨d, rfl, hd⟩ : ∃ d : Nat, y = (d : Int) ∧ d ≤ 4 := by
    simp only [List.mem_cons, List.not_mem_nil, or_false] at hy
    rcases hy with rfl | rfl | rfl | rfl
    · exact ⟨2, rfl, by decide⟩
    · exact ⟨3, rfl, by decide⟩
    · exact ⟨1, rfl, by decide⟩
    · exact ⟨4, rfl, by decide⟩
  have hpow : (2 : Int) ^ d ≤ 16 ∧ (2 : Int) ^ (d + 1) ≤ 32 ∧ (1 : Int) ≤ 2 ^ d := by
    have : d = 0 ∨ d = 1 ∨ d = 2 ∨ d = 3 ∨ d = 4 := by omega
    rcases this with rfl | rfl | rfl | rfl | rfl <;> decide
  have hsz : w.heap.size < w1.heap.size := by have := OO1.out.size; simp at this; omega
  go_wp2_with fail
  (with_reducible refine (HD.out d (by omega) p1 _ HR1.out (by omega)).mono ?_); rintro e w2 ⟨v2, p2, rfl, ⟨o, t, q, x, s, ks, rfl, hk, hd2⟩, hp2, hr2, ho2⟩
  have OO2 := hide (OO1.out.trans ho2)
  have HR2 := hide hr2
  have HK := hide hk
  clear hr2 ho2 hk
  obtain ⟨hc2, hf2⟩ := ocell OO2.out
  go_wp2_with fail
  refine bodyPost_ret (v := .agg #[.int .i64 o, .int .i64 t, .int .i64 q, .int .i64 x, .slice s.a s.n s.cap]) (by simp [results, Try.results80, go_sem, hc2, hne]) rfl ⟨_, p2, rfl, ⟨o, t, q, x, s, ks, rfl, ?_, by omega⟩, by omega, (((((HR2.out.setNew hlt _ _).setNew hlt _ _).setNew hlt _ _).setNew hlt _ _).setNew hlt _ _), ((((((HO0.out.trans OO2.out).setNew (Nat.le_refl _) _ _).setNew (Nat.le_refl _) _ _).setNew (Nat.le_refl _) _ _).setNew (Nat.le_refl _) _ _).setNew (Nat.le_refl _) _ _)⟩
  exact (Foot.of (((((HK.out.set2 (g := w.heap.size) hsz _ _).set2 hsz _ _).set2 hsz _ _).set2 hsz _ _).set2 hsz _ _)).weak (fun q hq => by have hq' : w1.heap.size ≤ q := hq; omega)

end Go.Proofs.Ytpnmphfdfadlcaa
