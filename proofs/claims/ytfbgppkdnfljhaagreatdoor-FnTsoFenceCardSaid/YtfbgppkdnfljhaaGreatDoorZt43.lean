/-
  FnTsoFence: for every input the law returns true and the input reads afterwards as it read before; the tied card. Condition: none beyond the row's own (the listed variables start as the program's text lays it, which the card ties).
-/
import Derived.Test.YtfbgppkdnfljhaaGreatDoorZt06
import Derived.Test.YtfbgppkdnfljhaaGreatDoorZt39
import Derived.Test.YtfbgppkdnfljhaaGreatDoorZt42
import Derived.Test.YtfbgppkdnfljhaaGreatDoorTie
import Derived.Test.YtfbgppkdnfljhaaGreatDoorCards
import Derived.SevenTiedAt
set_option maxHeartbeats 6400000
set_option maxRecDepth 100000
namespace Go.Proofs.YtfbgppkdnfljhaaGreatDoor
open Go Go.RowKit Go.ChangeShapes Go.WideShapes Go.ChangeAt
open Go.ChangeMaps (open_string)
theorem fnTsoFence_reads:∀ t∈Tryz.f4.params.toList,Tryz.prog.readableRec t=true∧t < Tryz.prog.types.size:=by
 intro t ht
 have:t=39:=by simpa [Tryz.params4] using ht
 subst this
 exact ⟨by kernel_rfl,of_decide_eq_true (by kernel_rfl)⟩
theorem fnTsoFence_lifted (os:Os) (started:os.Started) (H:Type) (enc:TypeId × Value→H) :
 ReturnsInHanded {} Tryz.checked os 4 .any (fun w args=>(Rows.fnTsoFenceSpec.pre enc Tryz.prog Tryz.f4 [] false w args∧laidMetH Tryz.prog laidM w)∧sizedMet enc Tryz.prog Tryz.f4 (OpenSpec.ofChange Rows.fnTsoFenceSpec) false w args)
  (Rows.fnTsoFenceSpec.post enc Tryz.prog Tryz.f4 false true false false):=by
 refine returnsInHanded_of_change_and (C:=Tryz.checked) (X:=fun w _=>laidMetH Tryz.prog laidM w) (fun _ _ _ hh h=>h.of_heap hh) Tryz.own started (by kernel_rfl) Tryz.func4
  (ChangeSpec.witness_shaped (enc:=enc) (C:=Tryz.checked) (os:=os) (X:=fun w _=>laidMetH Tryz.prog laidM w) false (World.laidAll Tryz.prog os laidM) #[.slice none 0 0] 8 rfl (laidAll_shaped os) (by kernel_rfl) (by kernel_rfl) (by kernel_rfl) (laidAll_met os _)) ?_
 intro W base args ds gs before hval0 hW _ _ hL _
 have hval:∀ (j:Nat) t v,Tryz.f4.params[j]? = some t→args[j]? = some v→Value.okWide Tryz.prog W .any base t v:=hval0
 have hW':=hW
 obtain ⟨p,q,hA0,hV,rfl,hfz,hnd⟩:=hW
 have hA:DataW.TrodAll enc Tryz.prog W 0 (fun _=>true) true Tryz.f4.params.toList args.toList ds p:=hA0
 rw [Tryz.params4] at hA hval
 obtain ⟨v0,d0,rfl,rfl,h0⟩:=trodAll_one hA
 obtain ⟨g1,g2,rfl⟩:∃ g1 g2,gs=[g1,g2]:=by
  match gs,hV with
  | [g1,g2],_=>exact ⟨g1,g2,rfl⟩
  | [],h=>exact h.elim
  | [_],⟨_,_,_,_,_,_,_,_,_,_,h,_⟩=>exact h.elim
  | _ :: _ :: _ :: _,⟨_,_,_,_,_,_,_,_,_,_,⟨_,_,_,_,_,_,_,_,_,_,h,_⟩,_⟩=>exact h.elim
 obtain ⟨B0,hB0⟩:=bytes_of_trod (okWide_slice Tryz.underlying39 (hval 0 39 v0 rfl rfl)) h0
 refine (lawFnTsoFence v0 B0 W hB0 (globs_of_laid hL).1 (globs_of_laid hL).2).mono fun e W' ⟨he,hb⟩ => ?_
 exact ⟨_,he,post_lawV Tryz.laidOut fnTsoFence_reads (by kernel_rfl) rfl (by kernel_rfl) Tryz.underlying4 hW' hb⟩
theorem fnTsoFence_named:Tryz.prog.funcNamed Rows.fnTsoFenceRow.func=some 4:=by kernel_rfl
theorem fnTsoFence_closed:joinedFacts Tryz.prog 4 Tryz.f4 Rows.fnTsoFenceSpec Rows.fnTsoFenceRow=true:=by kernel_rfl
theorem fnTsoFence_inst:Func.isInstance Tryz.prog Tryz.f4 Rows.fnTsoFenceRow.origin Rows.fnTsoFenceRow.targs:=of_decide_eq_true (by kernel_rfl)
theorem fnTsoFence_wrap:Func.isWrapper Tryz.prog Tryz.f4 Rows.fnTsoFenceRow.wrapper Rows.fnTsoFenceRow.mainSum:=by unfold Func.isWrapper;first | (rw [if_pos (by decide +kernel)];kernel_rfl) | (rw [if_neg (by decide +kernel)];exact ⟨rfl,rfl⟩)
theorem fnTsoFence_wf:Rows.fnTsoFenceRow.wfByText (OpenSpec.ofChange Rows.fnTsoFenceSpec)=true:=by kernel_rfl
theorem fnTsoFence_main:Tryz.prog.mainIs=some (Rows.fnTsoFenceCard.stood.harness.1,Rows.fnTsoFenceCard.stood.harness.2.toList):=by kernel_rfl
theorem fnTsoFence_looks:false=Tryz.prog.looks []:=by kernel_rfl
theorem fnTsoFence_goes:false=Rows.fnTsoFenceRow.goesBy Tryz.prog:=by kernel_rfl
theorem fnTsoFence_row:Rows.FnTsoFenceSaid:=
 OpenClaim.holds_of_wide 4 Tryz.f4 rfl rfl rfl rfl rfl rfl rfl ⟨rfl,rfl,rfl,rfl,rfl⟩ rfl rfl rfl rfl rfl fnTsoFence_named Tryz.func4 fnTsoFence_closed fnTsoFence_inst fnTsoFence_wrap
  (fun os started H enc _=>fnTsoFence_lifted os started H enc)
theorem fnTsoFence_holds:Rows.FnTsoFenceCardSaid:=
 Claim7.holds_tied_plain_at .later [] [.data, .widerDeep, .widerDeep, .pinned] true Rows.fnTsoFenceCard.stood.harness false
  fnTsoFence_row (fun _ h=>by cases h) fnTsoFence_wf (fun _ h=>by cases h) fnTsoFence_row_tie rfl ⟨rfl,rfl⟩ fnTsoFence_main rfl
  (fun f fn hf hfn=>by
   obtain rfl:f=4:=Option.some.inj (fnTsoFence_named.symm.trans hf) |>.symm
   obtain rfl:fn=Tryz.f4:=(Option.some.inj (Tryz.func4.symm.trans hfn)).symm
   exact ⟨fnTsoFence_looks,fun j t ht=>by
    rw [Tryz.params4] at ht
    have hm:t∈[39]:=by simpa using Array.mem_of_getElem? ht
    have hall:([39].all fun u => !Tryz.prog.wantsStandIn u)=true:=by kernel_rfl
    exact (show Tryz.prog.wantsStandIn t=false by simpa using List.all_eq_true.1 hall t hm)⟩)
  fnTsoFence_goes
end Go.Proofs.YtfbgppkdnfljhaaGreatDoor