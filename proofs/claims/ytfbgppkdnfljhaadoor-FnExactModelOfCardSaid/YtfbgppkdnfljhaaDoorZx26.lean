/-
  FnExactModelOf: for every input the law returns true and the input reads afterwards as it read before; the tied card. Condition: none beyond the row's own (the listed variables start as the program's text lays it, which the card ties).
-/
import Derived.Test.YtfbgppkdnfljhaaDoorZx08
import Derived.Test.YtfbgppkdnfljhaaDoorZx23
import Derived.Test.YtfbgppkdnfljhaaDoorZx25
import Derived.Test.YtfbgppkdnfljhaaDoorTie
import Derived.Test.YtfbgppkdnfljhaaDoorCards
import Derived.SevenTiedAt
set_option maxHeartbeats 6400000
set_option maxRecDepth 100000
namespace Go.Proofs.YtfbgppkdnfljhaaDoor
open Go Go.RowKit Go.ChangeShapes Go.WideShapes Go.ChangeAt
open Go.ChangeMaps (open_string)
theorem fnExactModelOf_reads:∀ t∈Tryd.f4.params.toList,Tryd.prog.readableRec t=true∧t < Tryd.prog.types.size:=by
 intro t ht
 have:t=9:=by simpa [Tryd.params4] using ht
 subst this
 exact ⟨by kernel_rfl,of_decide_eq_true (by kernel_rfl)⟩
theorem fnExactModelOf_lifted (os:Os) (started:os.Started) (H:Type) (enc:TypeId × Value→H) :
 ReturnsInHanded {} Tryd.checked os 4 .any (fun w args=>(Rows.fnExactModelOfSpec.pre enc Tryd.prog Tryd.f4 [] false w args∧laidMetH Tryd.prog laidM w)∧sizedMet enc Tryd.prog Tryd.f4 (OpenSpec.ofChange Rows.fnExactModelOfSpec) false w args)
  (Rows.fnExactModelOfSpec.post enc Tryd.prog Tryd.f4 false true false false):=by
 refine returnsInHanded_of_change_and (C:=Tryd.checked) (X:=fun w _=>laidMetH Tryd.prog laidM w) (fun _ _ _ hh h=>h.of_heap hh) Tryd.own started (by kernel_rfl) Tryd.func4
  (ChangeSpec.witness_shaped (enc:=enc) (C:=Tryd.checked) (os:=os) (X:=fun w _=>laidMetH Tryd.prog laidM w) false (World.laidAll Tryd.prog os laidM) #[.string ⟨#[]⟩] 8 rfl (laidAll_shaped os) (by kernel_rfl) (by kernel_rfl) (by kernel_rfl) (laidAll_met os _)) ?_
 intro W base args ds gs before hval0 hW _ _ hL _
 have hval:∀ (j:Nat) t v,Tryd.f4.params[j]? = some t→args[j]? = some v→Value.okWide Tryd.prog W .any base t v:=hval0
 have hW':=hW
 obtain ⟨p,q,hA0,hV,rfl,hfz,hnd⟩:=hW
 have hA:DataW.TrodAll enc Tryd.prog W 0 (fun _=>true) true Tryd.f4.params.toList args.toList ds p:=hA0
 rw [Tryd.params4] at hA hval
 obtain ⟨v0,d0,rfl,rfl,h0⟩:=trodAll_one hA
 obtain ⟨g1,g2,rfl⟩:∃ g1 g2,gs=[g1,g2]:=by
  match gs,hV with
  | [g1,g2],_=>exact ⟨g1,g2,rfl⟩
  | [],h=>exact h.elim
  | [_],⟨_,_,_,_,_,_,_,_,_,_,h,_⟩=>exact h.elim
  | _ :: _ :: _ :: _,⟨_,_,_,_,_,_,_,_,_,_,⟨_,_,_,_,_,_,_,_,_,_,h,_⟩,_⟩=>exact h.elim
 obtain ⟨s0,rfl,rfl,rfl,hs0⟩:=open_string Tryd.underlying9 (hval 0 9 v0 rfl rfl) h0
 refine (lawFnExactModelOf s0 W  (globs_of_laid hL).1 (globs_of_laid hL).2).mono fun e W' ⟨he,hb⟩ => ?_
 exact ⟨_,he,post_lawV Tryd.laidOut fnExactModelOf_reads (by kernel_rfl) rfl (by kernel_rfl) Tryd.underlying4 hW' hb⟩
theorem fnExactModelOf_named:Tryd.prog.funcNamed Rows.fnExactModelOfRow.func=some 4:=by kernel_rfl
theorem fnExactModelOf_closed:joinedFacts Tryd.prog 4 Tryd.f4 Rows.fnExactModelOfSpec Rows.fnExactModelOfRow=true:=by kernel_rfl
theorem fnExactModelOf_inst:Func.isInstance Tryd.prog Tryd.f4 Rows.fnExactModelOfRow.origin Rows.fnExactModelOfRow.targs:=of_decide_eq_true (by kernel_rfl)
theorem fnExactModelOf_wrap:Func.isWrapper Tryd.prog Tryd.f4 Rows.fnExactModelOfRow.wrapper Rows.fnExactModelOfRow.mainSum:=by unfold Func.isWrapper;first | (rw [if_pos (by decide +kernel)];kernel_rfl) | (rw [if_neg (by decide +kernel)];exact ⟨rfl,rfl⟩)
theorem fnExactModelOf_wf:Rows.fnExactModelOfRow.wfByText (OpenSpec.ofChange Rows.fnExactModelOfSpec)=true:=by kernel_rfl
theorem fnExactModelOf_main:Tryd.prog.mainIs=some (Rows.fnExactModelOfCard.stood.harness.1,Rows.fnExactModelOfCard.stood.harness.2.toList):=by kernel_rfl
theorem fnExactModelOf_looks:false=Tryd.prog.looks []:=by kernel_rfl
theorem fnExactModelOf_goes:false=Rows.fnExactModelOfRow.goesBy Tryd.prog:=by kernel_rfl
theorem fnExactModelOf_row:Rows.FnExactModelOfSaid:=
 OpenClaim.holds_of_wide 4 Tryd.f4 rfl rfl rfl rfl rfl rfl rfl ⟨rfl,rfl,rfl,rfl,rfl⟩ rfl rfl rfl rfl rfl fnExactModelOf_named Tryd.func4 fnExactModelOf_closed fnExactModelOf_inst fnExactModelOf_wrap
  (fun os started H enc _=>fnExactModelOf_lifted os started H enc)
theorem fnExactModelOf_holds:Rows.FnExactModelOfCardSaid:=
 Claim7.holds_tied_plain_at .later [] [.data, .widerDeep, .widerDeep, .pinned] true Rows.fnExactModelOfCard.stood.harness false
  fnExactModelOf_row (fun _ h=>by cases h) fnExactModelOf_wf (fun _ h=>by cases h) fnExactModelOf_row_tie rfl ⟨rfl,rfl⟩ fnExactModelOf_main rfl
  (fun f fn hf hfn=>by
   obtain rfl:f=4:=Option.some.inj (fnExactModelOf_named.symm.trans hf) |>.symm
   obtain rfl:fn=Tryd.f4:=(Option.some.inj (Tryd.func4.symm.trans hfn)).symm
   exact ⟨fnExactModelOf_looks,fun j t ht=>by
    rw [Tryd.params4] at ht
    have hm:t∈[9]:=by simpa using Array.mem_of_getElem? ht
    have hall:([9].all fun u => !Tryd.prog.wantsStandIn u)=true:=by kernel_rfl
    exact (show Tryd.prog.wantsStandIn t=false by simpa using List.all_eq_true.1 hall t hm)⟩)
  fnExactModelOf_goes
end Go.Proofs.YtfbgppkdnfljhaaDoor