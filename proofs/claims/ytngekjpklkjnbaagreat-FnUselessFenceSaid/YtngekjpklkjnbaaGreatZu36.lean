/-
  FnUselessFence: for every input the law returns true and the input reads afterwards as it read before. No condition.
-/
import Derived.Test.YtngekjpklkjnbaaGreatZu34
import Derived.Test.YtngekjpklkjnbaaGreatZu35
set_option maxHeartbeats 6400000
set_option maxRecDepth 100000
namespace Go.Proofs.YtngekjpklkjnbaaGreat
open Go.RowKit Go.ChangeShapes Go.WideShapes Go.ChangeAt
open Go.ChangeMaps (open_string)
theorem Ja:∀ t∈Tryz.f5.params.toList,Tryz.prog.readableRec t=true∧t < Tryz.prog.types.size:=by
 intro t ht;have:t=39:=by simpa[Tryz.params5] using ht
 subst this;exact⟨Kr,of_decide_eq_true Kr⟩
theorem QS (os:Os) (started:os.Started) (H:Type) (enc:TypeId × Value→H) :
 ReturnsInHanded {} Tryz.checked os 5 .any (Rows.fnUselessFenceSpec.pre6 enc Tryz.prog Tryz.f5 Rows.fnUselessFenceRow.domain false) (Rows.fnUselessFenceSpec.post enc Tryz.prog Tryz.f5 false true false false):=by
 refine returnsInHanded_of_change (C:=Tryz.checked) Tryz.own started Kr Tryz.func5
  (ChangeSpec.witness6 (enc:=enc) (C:=Tryz.checked) false ⟨#[],#[.slice none 0 0],[]⟩ 8 Kr Kr Kr Kr) ?_
 intro W base args ds gs before hval0 hW hcnd _;have hval:∀ (j:Nat) t v,Tryz.f5.params[j]? = some t→args[j]? = some v→Value.okWide Tryz.prog W .any base t v:=hval0;have hW':=hW;obtain⟨p,q,hA0,hV,rfl,hfz,hnd⟩:=hW;have hA:DataW.TrodAll enc Tryz.prog W 0 (fun _=>true) true Tryz.f5.params.toList args.toList ds p:=hA0;rw[Tryz.params5]at hA hval;obtain⟨v0,d0,rfl,rfl,h0⟩:=trodAll_one hA;obtain⟨rfl,rfl⟩:=trodVars_none hV;obtain⟨B0,hB0⟩:=U8 (okWide_slice Tryz.underlying39 (hval 0 39 v0 rfl rfl)) h0;refine(JU v0 B0 W hB0).mono fun e W' ⟨he,hb⟩ => ?_;exact⟨_,he,AQ Tryz.laidOut Ja rfl rfl Kr Tryz.underlying4 hW' hb⟩
theorem fnUselessFence_holds:Rows.FnUselessFenceSaid:=
 OpenClaim.holds_of_wide 5 Tryz.f5 rfl rfl rfl rfl rfl rfl rfl ⟨rfl,rfl,rfl,rfl,rfl⟩ rfl rfl rfl rfl rfl Kr Tryz.func5 Kr
  (of_decide_eq_true Kr) (by unfold Func.isWrapper;first | (rw[if_pos (by decide +kernel)];kernel_rfl) | (rw[if_neg (by decide +kernel)];exact⟨rfl,rfl⟩))
  (fun os started H enc _=>QS os started H enc)
end Go.Proofs.YtngekjpklkjnbaaGreat