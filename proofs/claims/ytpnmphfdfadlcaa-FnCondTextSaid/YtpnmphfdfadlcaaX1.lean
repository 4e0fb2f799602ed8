/-
  A variable that holds a condition: five cells of a block.
-/
import Derived.Test.YtpnmphfdfadlcaaT3
import Derived.Test.YtpnmphfdfadlcaaT4
import Derived.Test.YtpnmphfdfadlcaaP7
import Derived.Deep.RegionHeld3
import Derived.Deep.DeepCutAuto
namespace Go.Proofs.Ytpnmphfdfadlcaa
open Go.RowKit

structure BoxC (w : World) (b : Nat) (o t q x : Int) (a : Option Addr) (n c : Nat) : Prop where
  lt : b < w.heap.size
  c0 : w.cell? ⟨b, 0, none⟩ = some (.int .i64 o)
  c1 : w.cell? ⟨b, 1, none⟩ = some (.int .i64 t)
  c2 : w.cell? ⟨b, 2, none⟩ = some (.int .i64 q)
  c3 : w.cell? ⟨b, 3, none⟩ = some (.int .i64 x)
  c4 : w.cell? ⟨b, 4, none⟩ = some (.slice a n c)

theorem BoxC.below {w w' : World} {b : Nat} {o t q x : Int} {a : Option Addr} {n c : Nat} (h : BoxC w b o t q x a n c) (hb : Below w.heap.size w w') : BoxC w' b o t q x a n c :=
  ⟨Nat.lt_of_lt_of_le h.lt hb.size, (hb.cell (p := ⟨b, 0, none⟩) h.lt).trans h.c0, (hb.cell (p := ⟨b, 1, none⟩) h.lt).trans h.c1, (hb.cell (p := ⟨b, 2, none⟩) h.lt).trans h.c2, (hb.cell (p := ⟨b, 3, none⟩) h.lt).trans h.c3, (hb.cell (p := ⟨b, 4, none⟩) h.lt).trans h.c4⟩

theorem BoxC.new (w : World) (o t q x : Int) (a : Option Addr) (n c : Nat) (T : TypeId) : BoxC (w.alloc (.cells #[.int .i64 o, .int .i64 t, .int .i64 q, .int .i64 x, .slice a n c] T)) w.heap.size o t q x a n c :=
  ⟨by simp, by simp [go_sem], by simp [go_sem], by simp [go_sem], by simp [go_sem], by simp [go_sem]⟩

theorem below_alloc (w : World) (o : Obj) : Below w.heap.size w (w.alloc o) := (Below.refl _ _).alloc (Nat.le_refl _) o

end Go.Proofs.Ytpnmphfdfadlcaa
