/-
  FnAllowedExecs: for every input the law returns true and the input reads afterwards as it read before; the tied card. Condition: none beyond the row's own (the listed variable starts as the program's text lays it, which the card ties).
-/
import Derived.Test.YtfbgppkdnfljhaaGreatDoorZj06
import Derived.Test.YtfbgppkdnfljhaaGreatDoorZj25
import Derived.Test.YtfbgppkdnfljhaaGreatDoorZj41
import Derived.Test.YtfbgppkdnfljhaaGreatDoorTie
import Derived.Test.YtfbgppkdnfljhaaGreatDoorCards
import Derived.SevenTiedAt
set_option maxHeartbeats 6400000
set_option maxRecDepth 100000
namespace Go.Proofs.YtfbgppkdnfljhaaGreatDoor
open Go Go.RowKit Go.ChangeShapes Go.WideShapes Go.ChangeAt
open Go.ChangeMaps (open_string)
theorem fnAllowedExecs_reads:∀ t∈Tryz.f5.params.toList,Tryz.prog.readableRec t=true∧t < Tryz.prog.types.size:=by
 intro t ht
 have:t=39:=by simpa [Tryz.params5] using ht
 subst this
 exact ⟨by kernel_rfl,of_decide_eq_true (by kernel_rfl)⟩
theorem fnAllowedExecs_lifted (os:Os) (started:os.Started) (H:Type) (enc:TypeId × Value→H) :
 ReturnsInHanded {} Tryz.checked os 5 .any (fun w args=>(Rows.fnAllowedExecsSpec.pre enc Tryz.prog Tryz.f5 [] false w args∧laidMetH Tryz.prog laidL w)∧sizedMet enc Tryz.prog Tryz.f5 (OpenSpec.ofChange Rows.fnAllowedExecsSpec) false w args)
  (Rows.fnAllowedExecsSpec.post enc Tryz.prog Tryz.f5 false true false false):=by
 refine returnsInHanded_of_change_and (C:=Tryz.checked) (X:=fun w _=>laidMetH Tryz.prog laidL w) (fun _ _ _ hh h=>h.of_heap hh) Tryz.own started (by kernel_rfl) Tryz.func5
  (ChangeSpec.witness_shaped (enc:=enc) (C:=Tryz.checked) (os:=os) (X:=fun w _=>laidMetH Tryz.prog laidL w) false (World.doorLaid Tryz.prog 14 os) #[.slice none 0 0, .slice none 0 0] 8 rfl (World.shaped_of_RefB (by kernel_rfl) (by kernel_rfl)) (by kernel_rfl) (by kernel_rfl) (by kernel_rfl) (door_met os _)) ?_
 intro W base args ds gs before hval0 hW _ _ hL _
 have hval:∀ (j:Nat) t v,Tryz.f5.params[j]? = some t→args[j]? = some v→Value.okWide Tryz.prog W .any base t v:=hval0
 have hW':=hW
 obtain ⟨p,q,hA0,hV,rfl,hfz,hnd⟩:=hW
 have hA:DataW.TrodAll enc Tryz.prog W 0 (fun _=>true) true Tryz.f5.params.toList args.toList ds p:=hA0
 rw [Tryz.params5] at hA hval
 obtain ⟨v0,v1,d0,d1,p0,p1,rfl,rfl,rfl,h0,h1⟩:=trodAll_two hA
 obtain ⟨g1,rfl⟩:∃ g1,gs=[g1]:=by
  match gs,hV with
  | [g1],_=>exact ⟨g1,rfl⟩
  | [],h=>exact h.elim
  | _ :: _ :: _,⟨_,_,_,_,_,_,_,_,_,_,h,_⟩=>exact h.elim
 obtain ⟨B0,hB0⟩:=bytes_of_trod (okWide_slice Tryz.underlying39 (hval 0 39 v0 rfl rfl)) h0
 obtain ⟨B1,hB1⟩:=bytes_of_trod (okWide_slice Tryz.underlying39 (hval 1 39 v1 rfl rfl)) h1
 refine (lawFnAllowedExecs v0 v1 B0 B1 W hB0 hB1 (glob_of_laid hL)).mono fun e W' ⟨he,hb⟩ => ?_
 exact ⟨_,he,post_lawV Tryz.laidOut fnAllowedExecs_reads (by kernel_rfl) rfl (by kernel_rfl) Tryz.underlying4 hW' hb⟩
theorem fnAllowedExecs_named:Tryz.prog.funcNamed Rows.fnAllowedExecsRow.func=some 5:=by kernel_rfl
theorem fnAllowedExecs_closed:joinedFacts Tryz.prog 5 Tryz.f5 Rows.fnAllowedExecsSpec Rows.fnAllowedExecsRow=true:=by kernel_rfl
theorem fnAllowedExecs_inst:Func.isInstance Tryz.prog Tryz.f5 Rows.fnAllowedExecsRow.origin Rows.fnAllowedExecsRow.targs:=of_decide_eq_true (by kernel_rfl)
theorem fnAllowedExecs_wrap:Func.isWrapper Tryz.prog Tryz.f5 Rows.fnAllowedExecsRow.wrapper Rows.fnAllowedExecsRow.mainSum:=by unfold Func.isWrapper;first | (rw [if_pos (by decide +kernel)];kernel_rfl) | (rw [if_neg (by decide +kernel)];exact ⟨rfl,rfl⟩)
theorem fnAllowedExecs_wf:Rows.fnAllowedExecsRow.wfByText (OpenSpec.ofChange Rows.fnAllowedExecsSpec)=true:=by kernel_rfl
theorem fnAllowedExecs_main:Tryz.prog.mainIs=some (Rows.fnAllowedExecsCard.stood.harness.1,Rows.fnAllowedExecsCard.stood.harness.2.toList):=by kernel_rfl
theorem fnAllowedExecs_looks:false=Tryz.prog.looks []:=by kernel_rfl
theorem fnAllowedExecs_goes:false=Rows.fnAllowedExecsRow.goesBy Tryz.prog:=by kernel_rfl
theorem fnAllowedExecs_row:Rows.FnAllowedExecsSaid:=
 OpenClaim.holds_of_wide 5 Tryz.f5 rfl rfl rfl rfl rfl rfl rfl ⟨rfl,rfl,rfl,rfl,rfl⟩ rfl rfl rfl rfl rfl fnAllowedExecs_named Tryz.func5 fnAllowedExecs_closed fnAllowedExecs_inst fnAllowedExecs_wrap
  (fun os started H enc _=>fnAllowedExecs_lifted os started H enc)
theorem fnAllowedExecs_holds:Rows.FnAllowedExecsCardSaid:=
 Claim7.holds_tied_plain_at .later [] [.widerDeep] true Rows.fnAllowedExecsCard.stood.harness false
  fnAllowedExecs_row (fun _ h=>by cases h) fnAllowedExecs_wf (fun _ h=>by cases h) fnAllowedExecs_row_tie rfl ⟨rfl,rfl⟩ fnAllowedExecs_main rfl
  (fun f fn hf hfn=>by
   obtain rfl:f=5:=Option.some.inj (fnAllowedExecs_named.symm.trans hf) |>.symm
   obtain rfl:fn=Tryz.f5:=(Option.some.inj (Tryz.func5.symm.trans hfn)).symm
   exact ⟨fnAllowedExecs_looks,fun j t ht=>by
    rw [Tryz.params5] at ht
    have hm:t∈[39,39]:=by simpa using Array.mem_of_getElem? ht
    have hall:([39,39].all fun u => !Tryz.prog.wantsStandIn u)=true:=by kernel_rfl
    exact (show Tryz.prog.wantsStandIn t=false by simpa using List.all_eq_true.1 hall t hm)⟩)
  fnAllowedExecs_goes
end Go.Proofs.YtfbgppkdnfljhaaGreatDoor