/-
  Programs that are drawn: the texts, one instruction. Condition: not too many numbers were taken.
-/
import Derived.Test.YtkfhgnkonaafgaaGreatDoorZx05
import Derived.Test.YtkfhgnkonaafgaaGreatDoorZx07
import Derived.Test.YtkfhgnkonaafgaaGreatDoorZx00
set_option maxHeartbeats 6400000
set_option maxRecDepth 100000
namespace Go.Proofs.YtkfhgnkonaafgaaGreatDoor
open Go.RowKit
theorem eql_slice_nil (P:Program) (w:World) (t e:TypeId) (a:Option Addr) (n c n' c':Nat) (h:P.underlying t=some (.slice e)):(binOp .eql t (.slice a n c) (.slice none n' c')).run P w = .ok (.bool a.isNone) w:=Lib.run_eql_slice_nil w t e a n c n' c' h
end Go.Proofs.YtkfhgnkonaafgaaGreatDoor
namespace Go.Proofs.YtkfhgnkonaafgaaGreatDoor
open Go.RowKit
def StrE:El ByteArray:=⟨1,by decide,fun x=>[.string x],fun _=>rfl,fun x u h=>by simp at h;subst h;rfl⟩
theorem Rep.str {w:World} {a:Option Addr} {n c:Nat} {xs:List ByteArray} (h:Rep StrE w (.slice a n c) xs) {k:Nat} {x:ByteArray} (hx:xs[k]? = some x) :
 ∃ b o,a=some ⟨b,o,none⟩∧b < w.heap.size∧w.cell? ⟨b,o+k,none⟩=some (.string x):=by
 obtain ⟨a',c',hv,_,_,h⟩:=h
 simp only [Value.slice.injEq] at hv
 obtain ⟨rfl,rfl,rfl⟩:=hv
 obtain ⟨b,o,rfl,h'⟩:=h k x hx
 have:=h' 0 _ rfl
 simp only [StrE,Nat.mul_one,Nat.add_zero] at this
 exact ⟨b,o,rfl,lt_of_cell this,this⟩
end Go.Proofs.YtkfhgnkonaafgaaGreatDoor
namespace Go.Proofs.YtkfhgnkonaafgaaGreatDoor
open Go.RowKit
section
variable {α : Type} {f : α → α} {k : Nat} {xs : List α}
end
end Go.Proofs.YtkfhgnkonaafgaaGreatDoor
namespace Go.Proofs.YtkfhgnkonaafgaaGreatDoor
open Go.RowKit
end Go.Proofs.YtkfhgnkonaafgaaGreatDoor
namespace Go.Proofs.YtkfhgnkonaafgaaGreatDoor
open Go.RowKit
end Go.Proofs.YtkfhgnkonaafgaaGreatDoor
namespace Go.Proofs.YtkfhgnkonaafgaaGreatDoor
open Go.RowKit
theorem Own.grown_ne {α β:Type} {E:El α} {F:El β} {T U:TypeId} {w w':World} {base base':Nat} {v u:Value} {xs:List α} {ys:List β} (h:Own E T w base v xs) (k:Own F U w base' u ys) (hT:T≠U) (hg:w.grownBy w' u.ownBlock):Own E T w' base v xs:=
 h.grown hg (by
  rcases hq:v.ownBlock with _ | q
  ·exact .inl rfl
  ·refine .inr (fun e => ?_)
   exact own_ne hT h k q e.symm hq)
end Go.Proofs.YtkfhgnkonaafgaaGreatDoor
namespace Go.Proofs.YtkfhgnkonaafgaaGreatDoor
open Go.RowKit
theorem Own.lit {α:Type} {E:El α} {T:TypeId} {w:World} {base:Nat} (hb:base≤w.heap.size) (xs:List α) (cur:Array Value) (n:Nat) (hc:cur.toList=xs.flatMap E.c) (hn:n=xs.length) (hl:n≤1000) :
 Own E T (w.alloc (.cells cur T)) base (.slice (some ⟨w.heap.size,0,none⟩) n n) xs:=by
 subst hn
 have hsz:(xs.flatMap E.c).length=xs.length * E.sz:=El.length E xs
 refine ⟨hsz, .inr ⟨w.heap.size,xs.length,cur,rfl,hb,heap_alloc_new w _,Nat.le_refl _,by unfold maxLen;omega, ?_, ?_⟩⟩
 ·rw [← hsz,← hc];simp
 ·rw [hc,← hsz,List.take_length]
end Go.Proofs.YtkfhgnkonaafgaaGreatDoor