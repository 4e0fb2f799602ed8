/-
  FnExactOutcomeOf: for every input the law returns true and the input reads afterwards as it read before. No condition.
-/
import Derived.Test.YtpnmphfdfadlcaaArgI
import Derived.Test.YtpnmphfdfadlcaaArgX
import Derived.Test.YtpnmphfdfadlcaaLOutc
namespace Go.Proofs.Ytpnmphfdfadlcaa
open Go.RowKit Go.ChangeShapes Go.WideShapes Go.ChangeAt
open Go.ChangeMaps (open_string)

theorem fnExactOutcomeOf_reads : ∀ t ∈ Try.f10.params.toList, Try.prog.readableRec t = true ∧ t < Try.prog.types.size := by
  intro t ht
  have : t = 47 ∨ t = 76 := by simpa [Try.params10] using ht
  rcases this with rfl | rfl
  · exact ⟨by kernel_rfl, of_decide_eq_true (by kernel_rfl)⟩
  · exact ⟨by kernel_rfl, of_decide_eq_true (by kernel_rfl)⟩

set_option maxRecDepth 100000 in
theorem fnExactOutcomeOf_lifted (os : Os) (started : os.Started) (H : Type) (enc : TypeId × Value → H) :
    ReturnsInHanded {} Try.checked os 10 .any (Rows.fnExactOutcomeOfSpec.pre6 enc Try.prog Try.f10 Rows.fnExactOutcomeOfRow.domain false) (Rows.fnExactOutcomeOfSpec.post enc Try.prog Try.f10 false true false false) := by
  refine returnsInHanded_of_change (C := Try.checked) Try.own started (by kernel_rfl) Try.func10
    (ChangeSpec.witness6 (enc := enc) (C := Try.checked) false ⟨#[], #[.slice none 0 0, .agg #[.slice none 0 0, .slice none 0 0]], []⟩ 8 (by kernel_rfl) (by kernel_rfl) (by kernel_rfl) (by kernel_rfl)) ?_
  intro W base args ds gs before hval0 hW hcnd _
  have hval : ∀ (j : Nat) t v, Try.f10.params[j]? = some t → args[j]? = some v → Value.okWide Try.prog W .any base t v := hval0
  have hW' := hW
  obtain ⟨p, q, hA0, hV, rfl, hfz, hnd⟩ := hW
  have hA : DataW.TrodAll enc Try.prog W 0 (fun _ => true) true Try.f10.params.toList args.toList ds p := hA0
  rw [Try.params10] at hA hval
  obtain ⟨v0, v1, d0, d1, p0, p1, rfl, rfl, rfl, h0, h1⟩ := trodAll_two hA
  obtain ⟨rfl, rfl⟩ := trodVars_none hV
  obtain ⟨P0, hP0⟩ := prog_of_trod (okWide_slice Try.underlying47 (hval 0 47 v0 rfl rfl)) h0
  obtain ⟨f1, o1, X1, rfl, hX1⟩ := exec_of_trod (okWide_struct Try.underlying76 (hval 1 76 v1 rfl rfl)) h1
  refine (lawOutcomeOf v0 P0 f1 o1 X1 W hP0 hX1).mono fun e W' ⟨he, hb⟩ => ?_
  exact ⟨_, he, post_law Try.laidOut fnExactOutcomeOf_reads rfl rfl (by kernel_rfl) Try.underlying4 hW' hb⟩

theorem fnExactOutcomeOf_holds : Rows.FnExactOutcomeOfSaid :=
  OpenClaim.holds_of_wide 10 Try.f10 rfl rfl rfl rfl rfl rfl rfl ⟨rfl, rfl, rfl, rfl, rfl⟩ rfl rfl rfl rfl rfl (by kernel_rfl) Try.func10 (by kernel_rfl)
    (of_decide_eq_true (by kernel_rfl)) (by unfold Func.isWrapper; first | (rw [if_pos (by decide +kernel)]; kernel_rfl) | (rw [if_neg (by decide +kernel)]; exact ⟨rfl, rfl⟩))
    (fun os started H enc _ => fnExactOutcomeOf_lifted os started H enc)

end Go.Proofs.Ytpnmphfdfadlcaa
