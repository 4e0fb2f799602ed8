/-
  FnExactCompareOutcomes: for every input the law returns true and the input reads afterwards as it read before. No condition.
-/
import Derived.Test.YtkgkgmalgilabaaArgL
import Derived.Test.YtkgkgmalgilabaaLCmp
namespace Go.Proofs.Ytkgkgmalgilabaa
open Go.RowKit Go.ChangeShapes Go.WideShapes Go.ChangeAt
open Go.ChangeMaps (open_string)

theorem fnExactCompareOutcomes_reads : ∀ t ∈ Try.f7.params.toList, Try.prog.readableRec t = true ∧ t < Try.prog.types.size := by
  intro t ht
  have : t = 41 := by simpa [Try.params7] using ht
  subst this
  exact ⟨by kernel_rfl, of_decide_eq_true (by kernel_rfl)⟩

set_option maxRecDepth 100000 in
theorem fnExactCompareOutcomes_lifted (os : Os) (started : os.Started) (H : Type) (enc : TypeId × Value → H) :
    ReturnsInHanded {} Try.checked os 7 .any (Rows.fnExactCompareOutcomesSpec.pre6 enc Try.prog Try.f7 Rows.fnExactCompareOutcomesRow.domain false) (Rows.fnExactCompareOutcomesSpec.post enc Try.prog Try.f7 false true false false) := by
  refine returnsInHanded_of_change (C := Try.checked) Try.own started (by kernel_rfl) Try.func7
    (ChangeSpec.witness6 (enc := enc) (C := Try.checked) false ⟨#[], #[.slice none 0 0, .slice none 0 0], []⟩ 8 (by kernel_rfl) (by kernel_rfl) (by kernel_rfl) (by kernel_rfl)) ?_
  intro W base args ds gs before hval0 hW hcnd _
  have hval : ∀ (j : Nat) t v, Try.f7.params[j]? = some t → args[j]? = some v → Value.okWide Try.prog W .any base t v := hval0
  have hW' := hW
  obtain ⟨p, q, hA0, hV, rfl, hfz, hnd⟩ := hW
  have hA : DataW.TrodAll enc Try.prog W 0 (fun _ => true) true Try.f7.params.toList args.toList ds p := hA0
  rw [Try.params7] at hA hval
  obtain ⟨v0, v1, d0, d1, p0, p1, rfl, rfl, rfl, h0, h1⟩ := trodAll_two hA
  obtain ⟨rfl, rfl⟩ := trodVars_none hV
  obtain ⟨L0, hL0⟩ := ints2_of_trod (okWide_slice Try.underlying41 (hval 0 41 v0 rfl rfl)) h0
  obtain ⟨L1, hL1⟩ := ints2_of_trod (okWide_slice Try.underlying41 (hval 1 41 v1 rfl rfl)) h1
  refine (lawCompareOutcomes v0 L0 v1 L1 W hL0 hL1).mono fun e W' ⟨he, hb⟩ => ?_
  exact ⟨_, he, post_law Try.laidOut fnExactCompareOutcomes_reads rfl rfl (by kernel_rfl) Try.underlying4 hW' hb⟩

theorem fnExactCompareOutcomes_holds : Rows.FnExactCompareOutcomesSaid :=
  OpenClaim.holds_of_wide 7 Try.f7 rfl rfl rfl rfl rfl rfl rfl ⟨rfl, rfl, rfl, rfl, rfl⟩ rfl rfl rfl rfl rfl (by kernel_rfl) Try.func7 (by kernel_rfl)
    (of_decide_eq_true (by kernel_rfl)) (by unfold Func.isWrapper; first | (rw [if_pos (by decide +kernel)]; kernel_rfl) | (rw [if_neg (by decide +kernel)]; exact ⟨rfl, rfl⟩))
    (fun os started H enc _ => fnExactCompareOutcomes_lifted os started H enc)

end Go.Proofs.Ytkgkgmalgilabaa
