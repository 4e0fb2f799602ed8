/-
  Plain: what the sizes leave.
-/
import Derived.Test.YtkfhgnkonaafgaaGreatDoorZx04
import Derived.Test.YtkfhgnkonaafgaaGreatDoorZx05
import Derived.Deep.LoopGhost
import Derived.Test.YtkfhgnkonaafgaaGreatDoorZx00
set_option maxHeartbeats 6400000
set_option maxRecDepth 100000
namespace Go.Proofs.YtkfhgnkonaafgaaGreatDoor
open Go.RowKit
end Go.Proofs.YtkfhgnkonaafgaaGreatDoor
namespace Go.Proofs.YtkfhgnkonaafgaaGreatDoor
open Go.RowKit
end Go.Proofs.YtkfhgnkonaafgaaGreatDoor
namespace Go.Proofs.YtkfhgnkonaafgaaGreatDoor
open Go.RowKit
structure Same (lo hi:Nat) (w w':World):Prop where
 os:w'.os=w.os
 tape:w'.tape=w.tape
 output:w'.output=w.output
 size:w.heap.size≤w'.heap.size
 block:∀ k,lo≤k→k < hi→w'.heap[k]? = w.heap[k]?
theorem Same.ofBelow {lo hi:Nat} {w w':World} (h:Below w.heap.size w w') (hh:hi≤w.heap.size):Same lo hi w w':=⟨h.os,h.tape,h.output,h.size,fun k _ h2=>h.block k (by omega)⟩
theorem Same.trans {lo hi:Nat} {a b c:World} (h:Same lo hi a b) (k:Same lo hi b c):Same lo hi a c:=⟨k.os.trans h.os,k.tape.trans h.tape,k.output.trans h.output,Nat.le_trans h.size k.size,fun q h1 h2=>(k.block q h1 h2).trans (h.block q h1 h2)⟩
def cut (hi:Nat) (w:World):World:={ w with heap:=w.heap.extract 0 hi }
theorem eqI_same (v v':Value) (p:List Int) (w:World) (h:Rep IntE w v p) (h':Rep IntE w v' p):Calls Tryz.prog 16 #[v,v'] w fun e w'=>e = .returned (.bool true)∧Below w.heap.size w w':=
 (eqIntS_any v v' p p w h h').mono fun _ _ ⟨a,b⟩=>⟨by rw [a,decide_eq_true rfl],b⟩
theorem cell_of_heapB {w:World} {b k:Nat} {cur:Array Value} {t:TypeId} {v:Value} (h:w.heap[b]? = some (.cells cur t (0,0))) (hk:cur[k]? = some v):w.cell? ⟨b,k,none⟩=some v:=by
 simp [World.cell?,h,hk]
theorem belowAllocB (w:World) (o:Obj):Below w.heap.size w (w.alloc o):=(Below.refl _ _).alloc (Nat.le_refl _) o
end Go.Proofs.YtkfhgnkonaafgaaGreatDoor
namespace Go.Proofs.YtkfhgnkonaafgaaGreatDoor
theorem szPP_le2 (p:List (List Ins)) (l:Int) (h:¬ szPP p l < 0) (hl:l≤1048576):(0≤szPP p l∧szPP p l≤1048576)∧p.length≤1048576∧p.flatten.length≤1048576∧∀ r∈p,r.length≤1048576:=by
 unfold szPP at h ⊢
 split at h
 ·omega
 ·rename_i hl2
  rw [if_neg hl2]
  have h1:=szP_le p _ (Int.not_lt.1 h)
  refine ⟨by omega,by omega, ?_,fun r hr=>by have:=h1.2 r hr;omega⟩
  rcases szP_eq p _ (Int.not_lt.1 h) with h2 | h2
  ·rw [h2] at h1 h;omega
  ·subst h2;simp
end Go.Proofs.YtkfhgnkonaafgaaGreatDoor