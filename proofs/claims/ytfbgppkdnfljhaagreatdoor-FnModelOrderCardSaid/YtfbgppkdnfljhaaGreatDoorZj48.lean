/-
  FnModelOrder: for every input the law returns true and the input reads afterwards as it read before; the tied card. Condition: none beyond the row's own (the listed variables start as the program's text lays it, which the card ties).
-/
import Derived.Test.YtfbgppkdnfljhaaGreatDoorZj06
import Derived.Test.YtfbgppkdnfljhaaGreatDoorZj47
import Derived.Test.YtfbgppkdnfljhaaGreatDoorZj46
import Derived.Test.YtfbgppkdnfljhaaGreatDoorTie
import Derived.Test.YtfbgppkdnfljhaaGreatDoorCards
import Derived.SevenTiedAt
set_option maxHeartbeats 6400000
set_option maxRecDepth 100000
namespace Go.Proofs.YtfbgppkdnfljhaaGreatDoor
open Go Go.RowKit Go.ChangeShapes Go.WideShapes Go.ChangeAt
open Go.ChangeMaps (open_string)
theorem fnModelOrder_reads:∀ t∈Tryz.f6.params.toList,Tryz.prog.readableRec t=true∧t < Tryz.prog.types.size:=by
 intro t ht
 have:t=39:=by simpa [Tryz.params6] using ht
 subst this
 exact ⟨by kernel_rfl,of_decide_eq_true (by kernel_rfl)⟩
theorem fnModelOrder_lifted (os:Os) (started:os.Started) (H:Type) (enc:TypeId × Value→H) :
 ReturnsInHanded {} Tryz.checked os 6 .any (fun w args=>(Rows.fnModelOrderSpec.pre enc Tryz.prog Tryz.f6 [] false w args∧laidMetH Tryz.prog laidM w)∧sizedMet enc Tryz.prog Tryz.f6 (OpenSpec.ofChange Rows.fnModelOrderSpec) false w args)
  (Rows.fnModelOrderSpec.post enc Tryz.prog Tryz.f6 false true false false):=by
 refine returnsInHanded_of_change_and (C:=Tryz.checked) (X:=fun w _=>laidMetH Tryz.prog laidM w) (fun _ _ _ hh h=>h.of_heap hh) Tryz.own started (by kernel_rfl) Tryz.func6
  (ChangeSpec.witness_shaped (enc:=enc) (C:=Tryz.checked) (os:=os) (X:=fun w _=>laidMetH Tryz.prog laidM w) false (World.laidAll Tryz.prog os laidM) #[.slice none 0 0] 8 rfl (laidAll_shaped os) (by kernel_rfl) (by kernel_rfl) (by kernel_rfl) (laidAll_met os _)) ?_
 intro W base args ds gs before hval0 hW _ _ hL _
 have hval:∀ (j:Nat) t v,Tryz.f6.params[j]? = some t→args[j]? = some v→Value.okWide Tryz.prog W .any base t v:=hval0
 have hW':=hW
 obtain ⟨p,q,hA0,hV,rfl,hfz,hnd⟩:=hW
 have hA:DataW.TrodAll enc Tryz.prog W 0 (fun _=>true) true Tryz.f6.params.toList args.toList ds p:=hA0
 rw [Tryz.params6] at hA hval
 obtain ⟨v0,d0,rfl,rfl,h0⟩:=trodAll_one hA
 obtain ⟨g1,g2,rfl⟩:∃ g1 g2,gs=[g1,g2]:=by
  match gs,hV with
  | [g1,g2],_=>exact ⟨g1,g2,rfl⟩
  | [],h=>exact h.elim
  | [_],⟨_,_,_,_,_,_,_,_,_,_,h,_⟩=>exact h.elim
  | _ :: _ :: _ :: _,⟨_,_,_,_,_,_,_,_,_,_,⟨_,_,_,_,_,_,_,_,_,_,h,_⟩,_⟩=>exact h.elim
 obtain ⟨B0,hB0⟩:=bytes_of_trod (okWide_slice Tryz.underlying39 (hval 0 39 v0 rfl rfl)) h0
 refine (lawFnModelOrder v0 B0 W hB0 (globs_of_laid hL).1 (globs_of_laid hL).2).mono fun e W' ⟨he,hb⟩ => ?_
 exact ⟨_,he,post_lawV Tryz.laidOut fnModelOrder_reads (by kernel_rfl) rfl (by kernel_rfl) Tryz.underlying4 hW' hb⟩
theorem fnModelOrder_named:Tryz.prog.funcNamed Rows.fnModelOrderRow.func=some 6:=by kernel_rfl
theorem fnModelOrder_closed:joinedFacts Tryz.prog 6 Tryz.f6 Rows.fnModelOrderSpec Rows.fnModelOrderRow=true:=by kernel_rfl
theorem fnModelOrder_inst:Func.isInstance Tryz.prog Tryz.f6 Rows.fnModelOrderRow.origin Rows.fnModelOrderRow.targs:=of_decide_eq_true (by kernel_rfl)
theorem fnModelOrder_wrap:Func.isWrapper Tryz.prog Tryz.f6 Rows.fnModelOrderRow.wrapper Rows.fnModelOrderRow.mainSum:=by unfold Func.isWrapper;first | (rw [if_pos (by decide +kernel)];kernel_rfl) | (rw [if_neg (by decide +kernel)];exact ⟨rfl,rfl⟩)
theorem fnModelOrder_wf:Rows.fnModelOrderRow.wfByText (OpenSpec.ofChange Rows.fnModelOrderSpec)=true:=by kernel_rfl
theorem fnModelOrder_main:Tryz.prog.mainIs=some (Rows.fnModelOrderCard.stood.harness.1,Rows.fnModelOrderCard.stood.harness.2.toList):=by kernel_rfl
theorem fnModelOrder_looks:false=Tryz.prog.looks []:=by kernel_rfl
theorem fnModelOrder_goes:false=Rows.fnModelOrderRow.goesBy Tryz.prog:=by kernel_rfl
theorem fnModelOrder_row:Rows.FnModelOrderSaid:=
 OpenClaim.holds_of_wide 6 Tryz.f6 rfl rfl rfl rfl rfl rfl rfl ⟨rfl,rfl,rfl,rfl,rfl⟩ rfl rfl rfl rfl rfl fnModelOrder_named Tryz.func6 fnModelOrder_closed fnModelOrder_inst fnModelOrder_wrap
  (fun os started H enc _=>fnModelOrder_lifted os started H enc)
theorem fnModelOrder_holds:Rows.FnModelOrderCardSaid:=
 Claim7.holds_tied_plain_at .later [] [.data, .widerDeep, .widerDeep, .pinned] true Rows.fnModelOrderCard.stood.harness false
  fnModelOrder_row (fun _ h=>by cases h) fnModelOrder_wf (fun _ h=>by cases h) fnModelOrder_row_tie rfl ⟨rfl,rfl⟩ fnModelOrder_main rfl
  (fun f fn hf hfn=>by
   obtain rfl:f=6:=Option.some.inj (fnModelOrder_named.symm.trans hf) |>.symm
   obtain rfl:fn=Tryz.f6:=(Option.some.inj (Tryz.func6.symm.trans hfn)).symm
   exact ⟨fnModelOrder_looks,fun j t ht=>by
    rw [Tryz.params6] at ht
    have hm:t∈[39]:=by simpa using Array.mem_of_getElem? ht
    have hall:([39].all fun u => !Tryz.prog.wantsStandIn u)=true:=by kernel_rfl
    exact (show Tryz.prog.wantsStandIn t=false by simpa using List.all_eq_true.1 hall t hm)⟩)
  fnModelOrder_goes
end Go.Proofs.YtfbgppkdnfljhaaGreatDoor