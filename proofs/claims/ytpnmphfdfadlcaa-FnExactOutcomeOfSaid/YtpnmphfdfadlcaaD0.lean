/-
  The reference's source of random numbers: how it lies in memory.
-/
import Derived.Test.YtpnmphfdfadlcaaBase
namespace Go.Proofs.Ytpnmphfdfadlcaa
open Go.RowKit

/-- Bytes. -/
def ByteE : El Int := ⟨1, by decide, fun x => [.int .u8 x], fun _ => rfl, fun x u h => by simp at h; subst h; rfl⟩

theorem Rep.byte {w : World} {a : Option Addr} {n c : Nat} {xs : List Int} (h : Rep ByteE w (.slice a n c) xs) {k : Nat} {x : Int} (hx : xs[k]? = some x) :
    ∃ b o, a = some ⟨b, o, none⟩ ∧ b < w.heap.size ∧ w.cell? ⟨b, o + k, none⟩ = some (.int .u8 x) := by
  obtain ⟨a', c', hv, _, _, h⟩ := h
  simp only [Value.slice.injEq] at hv
  obtain ⟨rfl, rfl, rfl⟩ := hv
  obtain ⟨b, o, rfl, h'⟩ := h k x hx
  have := h' 0 _ rfl
  simp only [ByteE, Nat.mul_one, Nat.add_zero] at this
  exact ⟨b, o, rfl, lt_of_cell this, this⟩

/-- The source lies in block b: its bytes xs, and how many were taken. -/
structure Rd (w : World) (b : Nat) (a : Option Addr) (c : Nat) (xs : List Int) (p : Int) : Prop where
  lt : b < w.heap.size
  c0 : w.cell? ⟨b, 0, none⟩ = some (.slice a xs.length c)
  c1 : w.cell? ⟨b, 1, none⟩ = some (.int .i64 p)
  f1 : w.frozen? ⟨b, 1, none⟩ = false
  rep : Rep ByteE w (.slice a xs.length c) xs
  far : ∀ g o, xs ≠ [] → a = some ⟨g, o, none⟩ → g < b
  by' : ∀ x ∈ xs, 0 ≤ x ∧ x ≤ 255
  p0 : 0 ≤ p

/-- Something else was made or written: the source is as it was. -/
theorem Rd.keep {w w' : World} {b : Nat} {a : Option Addr} {c : Nat} {xs : List Int} {p : Int} (h : Rd w b a c xs p) {B : Nat} (hb : Below B w w') (hB : b < B) : Rd w' b a c xs p := by
  have e : ∀ g o, g < B → w'.cell? ⟨g, o, none⟩ = w.cell? ⟨g, o, none⟩ := fun g o hg => hb.cell (p := ⟨g, o, none⟩) hg
  refine ⟨Nat.lt_of_lt_of_le h.lt hb.size, (e b 0 hB).trans h.c0, (e b 1 hB).trans h.c1, (hb.frozen (p := ⟨b, 1, none⟩) hB).trans h.f1, ?_, h.far, h.by', h.p0⟩
  obtain ⟨a', c', hv, h1, h2, h3⟩ := h.rep
  refine ⟨a', c', hv, h1, h2, fun i x hx => ?_⟩
  obtain ⟨g, o, rfl, hi⟩ := h3 i x hx
  refine ⟨g, o, rfl, fun j u hu => ?_⟩
  rw [← hi j u hu]
  refine e g _ ?_
  simp only [Value.slice.injEq] at hv
  have := h.far g o (by intro e; subst e; simp at hx) hv.1
  omega

theorem cell_far {w : World} {b j g o : Nat} {v : Value} (hg : g ≠ b) : (w.setCell ⟨b, j, none⟩ v).cell? ⟨g, o, none⟩ = w.cell? ⟨g, o, none⟩ := by
  unfold World.cell?
  rw [heap_setCell_other w ⟨b, j, none⟩ g v (fun e => hg (by simpa using e))]

/-- The count is stored. -/
theorem Rd.step {w : World} {b : Nat} {a : Option Addr} {c : Nat} {xs : List Int} {p : Int} (h : Rd w b a c xs p) (q : Int) (hq : 0 ≤ q) : Rd (w.setCell ⟨b, 1, none⟩ (.int .i64 q)) b a c xs q := by
  have h0 := h.c0; have h1 := h.c1; have h2 := h.f1
  refine ⟨by simpa using h.lt, by simp [go_sem, h0], by simp [go_sem, h1], by simp [go_sem, h2], ?_, h.far, h.by', hq⟩
  obtain ⟨a', c', hv, h3, h4, h5⟩ := h.rep
  refine ⟨a', c', hv, h3, h4, fun i x hx => ?_⟩
  obtain ⟨g, o, rfl, hi⟩ := h5 i x hx
  refine ⟨g, o, rfl, fun j u hu => ?_⟩
  simp only [Value.slice.injEq] at hv
  have := h.far g o (by intro e; subst e; simp at hx) hv.1
  rw [cell_far (by omega)]
  exact hi j u hu

/-- What a function that takes from the source hands back. -/
def RetRd (w : World) (b : Nat) (a : Option Addr) (c : Nat) (xs : List Int) (p K : Int) (Q : Value → World → Prop) (e : Ending) (w' : World) : Prop :=
  ∃ (v : Value) (p' : Int), e = .returned v ∧ Q v w' ∧ p' ≤ p + K ∧ Rd w' b a c xs p' ∧ Outside b (b + 1) w w'

end Go.Proofs.Ytpnmphfdfadlcaa
