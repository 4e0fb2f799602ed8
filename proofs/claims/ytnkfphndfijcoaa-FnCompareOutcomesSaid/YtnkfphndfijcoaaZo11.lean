/-
  RunSeq: its outcomes are those of the final states that can be reached. How outcomes are sorted is a hypothesis here.
-/
import Derived.Test.YtnkfphndfijcoaaZo06
import Derived.Test.YtnkfphndfijcoaaZo00
set_option maxHeartbeats 6400000
set_option maxRecDepth 100000
namespace Go.Proofs.Ytnkfphndfijcoaa
open Go.RowKit
theorem sq_done_pc {p:List (List Ins)}{a b:Sq}(ha:SqOk p a) (hb:SqOk p b) (da:sqDone p a=true) (db:sqDone p b=true) (e:sqOut a=sqOut b):a=b:=by
 have h1:a.rg=b.rg∧a.mm=b.mm:=List.append_inj e (by rw[ha.lr,hb.lr]);have h2:a.pc=b.pc:=by
  apply List.ext_getElem (by rw[ha.lp,hb.lp]);intro i h1 h2;have hp:i < p.length:=by rw[← ha.lp];exact h1
  unfold sqDone at da db;rw[List.all_eq_true]at da db;have k1:=da i (List.mem_range.2 hp);have k2:=db i (List.mem_range.2 hp);have g1:=ha.pc i a.pc[i] p[i] (List.getElem?_eq_getElem h1) (List.getElem?_eq_getElem hp);have g2:=hb.pc i b.pc[i] p[i] (List.getElem?_eq_getElem h2) (List.getElem?_eq_getElem hp);simp[List.getD_eq_getElem?_getD,h1,h2,hp]at k1 k2;omega
 cases a;cases b;simp only[Sq.mk.injEq];exact⟨h2,h1.1,h1.2⟩
end Go.Proofs.Ytnkfphndfijcoaa