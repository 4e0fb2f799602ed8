/-
  GapsOf, of the program and of the reference; the law FnExactGapsOf.
-/
import Derived.Test.YtlddmagfbcomgaaGreatZq02
import Derived.Test.YtlddmagfbcomgaaGreatZq00
set_option maxHeartbeats 6400000
set_option maxRecDepth 100000
namespace Go.Proofs.YtlddmagfbcomgaaGreat
open Go.RowKit
def gapsV (p:List (List Ins)):List Gp:=if progValid p=true then gapsP p else []
theorem GapsOf_any (v:Value) (p:List (List Ins)) (w:World) (hp:RepP w v p) (hl:p.flatten.length≤1048576) :
 Calls Tryz.prog 18 #[v] w (RetOwn GapE 64 w (gapsV p)):=by
 have GV:Hid (gapsV p=if progValid p=true then gapsP p else []):=hide rfl
 have HP:=hide hp;clear hp
 have HV:=hide (fun w' h=>ProgramValid_any v p w' h hl)
 have HG:=hide (fun w' h=>gaps_any v p w' h hl)
 generalize hb:progValid p=b at *
 clear hb
 cases b
 ·go_enter Tryz.func18,Tryz.ntmps18
  go_wp2_with (go_at_call 35;(with_reducible refine (HV.out _ HP.out).mono ?_);rintro e w1 ⟨rfl,hb1⟩)
  go_ret
  rw [GV.out]
  exact ⟨_,rfl,Own.nil _ _ _,hb1⟩
 ·go_enter Tryz.func18,Tryz.ntmps18
  go_wp2_with (first | (go_at_call 35;(with_reducible refine (HV.out _ HP.out).mono ?_);rintro e w1 ⟨rfl,hb1⟩) | (go_at_call 46;(with_reducible refine (HG.out _ (HP.out.below hb1)).mono ?_);rintro e w2 ⟨u,rfl,hu,hb2⟩))
  go_ret
  rw [GV.out]
  exact ⟨_,rfl,hu.mono hb1.size,Below.next hb1 hb2⟩
end Go.Proofs.YtlddmagfbcomgaaGreat