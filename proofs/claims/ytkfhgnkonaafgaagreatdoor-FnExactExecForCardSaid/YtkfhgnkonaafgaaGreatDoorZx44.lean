/-
  Arguments that are lists of numbers.
-/
import Derived.Test.YtkfhgnkonaafgaaGreatDoorZx27
set_option maxHeartbeats 6400000
set_option maxRecDepth 100000
namespace Go.Proofs.YtkfhgnkonaafgaaGreatDoor
open Go.RowKit Go.Deep Go.ChangeShapes Go.WideShapes Go.ChangeAt
section
variable {H : Type} {enc : TypeId × Value → H} {w : World} {base : Nat} {spare : Nat → Bool} {held : Bool}
theorem intR_of_trod:∀ (n:Nat) (cs:List Value) (x:DataW H × List MemPlace),DataW.trod enc Tryz.prog w base spare held n 3 cs=some x→∃ y:Int,cs=IntE.c y:=by
 intro n cs x h
 obtain ⟨i,rfl,_⟩:=DataW.trod_int Tryz.underlying3 h
 exact ⟨i,rfl⟩
theorem intsR_of_trod {v:Value} {d:DataW H} {ps:List MemPlace} (hok:∃ a len cap,v = .slice a len cap) (h:DataW.Trod enc Tryz.prog w base spare held 24 v d ps):∃ p,Rep IntE w v p:=by
 obtain ⟨fuel,hf⟩:=h
 obtain ⟨v',p,hv,hp,_⟩:=rep_of_trod IntE Tryz.underlying24 Tryz.cellsIntR (fun _=>True) (fun n cs x hx=>by obtain ⟨y,hy⟩:=intR_of_trod n cs x hx;exact ⟨y,hy,trivial⟩) hf
 obtain ⟨a,len,cap,rfl⟩:=hok
 simp [Value.cells] at hv
 subst hv
 exact ⟨p,hp⟩
end
end Go.Proofs.YtkfhgnkonaafgaaGreatDoor