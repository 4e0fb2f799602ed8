/-
  An argument that is a program, as the laws take it.
-/
import Derived.Test.YtngekjpklkjnbaaGreatZu02
set_option maxHeartbeats 6400000
set_option maxRecDepth 100000
namespace Go.Proofs.YtngekjpklkjnbaaGreat
open Go.RowKit Go.Deep Go.ChangeShapes Go.WideShapes Go.ChangeAt
theorem Tryz.own:ownKnob Tryz.prog.godebug=none:=Kr
theorem Tryz.laidOut:laidOutB Tryz.prog=true:=Kr
theorem Tryz.KG:Tryz.prog.cellsOf 77=4:=Kr
theorem Tryz.GD:Tryz.prog.cellsOf 53=1:=Kr
theorem Tryz.Eg:Tryz.prog.cellsOf 3=1:=Kr
theorem four {l:List Value}(h:l.length=4):∃ a b c d,l=[a,b,c,d]:=by
 match l,h with
 | [a,b,c,d],_=>exact⟨a,b,c,d,rfl⟩
section
variable {H : Type} {enc : TypeId × Value → H} {w : World} {base : Nat} {spare : Nat → Bool} {held : Bool}
theorem Ar:∀ (n:Nat) (cs:List Value) (x:DataW H × List MemPlace),DataW.trod enc Tryz.prog w base spare held n 77 cs=some x→∃ y:Ins,cs=ZH.c y:=by
 intro n cs x h;obtain⟨xs,m,rfl,hx,hlen,hxl,hf⟩:=DataW.trod_struct Tryz.underlying77 h;rw[Tryz.KG]at hlen;obtain⟨a,b,c,d,rfl⟩:=four hlen;have h0:DataW.trod enc Tryz.prog w base spare held m 3 (([a,b,c,d].drop 0).take (Tryz.prog.cellsOf 3))=xs[0]?:=hf 0 _ rfl;have h1:DataW.trod enc Tryz.prog w base spare held m 3 (([a,b,c,d].drop 1).take (Tryz.prog.cellsOf 3))=xs[1]?:=hf 1 _ rfl;have h2:DataW.trod enc Tryz.prog w base spare held m 3 (([a,b,c,d].drop 2).take (Tryz.prog.cellsOf 3))=xs[2]?:=hf 2 _ rfl;have h3:DataW.trod enc Tryz.prog w base spare held m 3 (([a,b,c,d].drop 3).take (Tryz.prog.cellsOf 3))=xs[3]?:=hf 3 _ rfl;rw[Tryz.Eg]at h0 h1 h2 h3;have hxl':xs.length=4:=hxl;obtain⟨i0,rfl⟩:=Kg (v:=a) Tryz.underlying3 h0 (by rw[List.getElem?_eq_getElem Om];simp);obtain⟨i1,rfl⟩:=Kg (v:=b) Tryz.underlying3 h1 (by rw[List.getElem?_eq_getElem Om];simp);obtain⟨i2,rfl⟩:=Kg (v:=c) Tryz.underlying3 h2 (by rw[List.getElem?_eq_getElem Om];simp);obtain⟨i3,rfl⟩:=Kg (v:=d) Tryz.underlying3 h3 (by rw[List.getElem?_eq_getElem Om];simp);exact⟨⟨i0,i1,i2,i3⟩,rfl⟩
theorem Ri {v:Value}{d:DataW H}{ps:List MemPlace}(hok:∃ a len cap,v = .slice a len cap) (h:DataW.Trod enc Tryz.prog w base spare held 22 v d ps):∃ p,Yv ZH w v p:=by
 obtain⟨fuel,hf⟩:=h;obtain⟨v',p,hv,hp⟩:=Rj ZH Tryz.underlying22 Tryz.underlying53 Tryz.GD Tryz.KG Ar hf;obtain⟨a,len,cap,rfl⟩:=hok;simp[Value.cells]at hv;subst hv;exact⟨p,hp⟩
end
end Go.Proofs.YtngekjpklkjnbaaGreat