/-
  Arguments that are bytes, as the laws take them.
-/
import Derived.Test.YtngekjpklkjnbaaGreatZu02
set_option maxHeartbeats 6400000
set_option maxRecDepth 100000
namespace Go.Proofs.YtngekjpklkjnbaaGreat
open Go.RowKit Go.Deep Go.ChangeShapes Go.WideShapes Go.ChangeAt
theorem Tryz.own:ownKnob Tryz.prog.godebug=none:=Kr
theorem Tryz.laidOut:laidOutB Tryz.prog=true:=Kr
theorem Tryz.CZ:Tryz.prog.cellsOf 5=1:=Kr
section
variable {H : Type} {enc : TypeId × Value → H} {w : World} {base : Nat} {spare : Nat → Bool} {held : Bool}
theorem U8 {v:Value}{d:DataW H}{ps:List MemPlace}(hok:∃ a len cap,v = .slice a len cap) (h:DataW.Trod enc Tryz.prog w base spare held 39 v d ps):∃ p,Z7 Zr w v p∧∀ x∈p,0≤x∧x≤255:=by
 obtain⟨fuel,hf⟩:=h;obtain⟨v',p,hv,hp,hq⟩:=Jg Zr Tryz.underlying39 Tryz.CZ (fun x=>0≤x∧x≤255) (fun n cs x hx=>by
  obtain⟨i,rfl,hi⟩:=DataW.trod_int Tryz.underlying5 hx;exact⟨i,rfl,by
   have:=hi.2;simp only[Lit.wf,Bool.and_eq_true,decide_eq_true_eq,show IntKind.u8.min=0 from by decide,show IntKind.u8.max=255 from by decide]at this;omega⟩) hf
 obtain⟨a,len,cap,rfl⟩:=hok;simp[Value.cells]at hv;subst hv;exact⟨p,hp,hq⟩
end
end Go.Proofs.YtngekjpklkjnbaaGreat