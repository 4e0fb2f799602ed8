/-
  FnExactCondHolds: for every input the law returns true and the input reads afterwards as it read before. No condition.
-/
import Derived.Test.YtlnmlmpmpnjfmaaArgC
import Derived.Test.YtlnmlmpmpnjfmaaArgI
import Derived.Test.YtlnmlmpmpnjfmaaArgN
import Derived.Test.YtlnmlmpmpnjfmaaLHolds
namespace Go.Proofs.Ytlnmlmpmpnjfmaa
open Go.RowKit Go.ChangeShapes Go.WideShapes Go.ChangeAt
open Go.ChangeMaps (open_string)

theorem fnExactCondHolds_reads : ∀ t ∈ Try.f13.params.toList, Try.prog.readableRec t = true ∧ t < Try.prog.types.size := by
  intro t ht
  have : t = 22 ∨ t = 29 ∨ t = 50 := by simpa [Try.params13] using ht
  rcases this with rfl | rfl | rfl
  · exact ⟨by kernel_rfl, of_decide_eq_true (by kernel_rfl)⟩
  · exact ⟨by kernel_rfl, of_decide_eq_true (by kernel_rfl)⟩
  · exact ⟨by kernel_rfl, of_decide_eq_true (by kernel_rfl)⟩

set_option maxRecDepth 100000 in
theorem fnExactCondHolds_lifted (os : Os) (started : os.Started) (H : Type) (enc : TypeId × Value → H) :
    ReturnsInHanded {} Try.checked os 13 .any (Rows.fnExactCondHoldsSpec.pre6 enc Try.prog Try.f13 Rows.fnExactCondHoldsRow.domain false) (Rows.fnExactCondHoldsSpec.post enc Try.prog Try.f13 false true false false) := by
  refine returnsInHanded_of_change (C := Try.checked) Try.own started (by kernel_rfl) Try.func13
    (ChangeSpec.witness6 (enc := enc) (C := Try.checked) false ⟨#[], #[.slice none 0 0, .slice none 0 0, .agg #[.int .i64 0, .int .i64 0, .int .i64 0, .int .i64 0, .slice none 0 0]], []⟩ 8 (by kernel_rfl) (by kernel_rfl) (by kernel_rfl) (by kernel_rfl)) ?_
  intro W base args ds gs before hval0 hW hcnd _
  have hval : ∀ (j : Nat) t v, Try.f13.params[j]? = some t → args[j]? = some v → Value.okWide Try.prog W .any base t v := hval0
  have hW' := hW
  obtain ⟨p, q, hA0, hV, rfl, hfz, hnd⟩ := hW
  have hA : DataW.TrodAll enc Try.prog W 0 (fun _ => true) true Try.f13.params.toList args.toList ds p := hA0
  rw [Try.params13] at hA hval
  obtain ⟨v0, v1, v2, d0, d1, d2, p0, p1, p2, rfl, rfl, rfl, h0, h1, h2⟩ := trodAll_three hA
  obtain ⟨rfl, rfl⟩ := trodVars_none hV
  obtain ⟨P0, hP0⟩ := prog_of_trod (okWide_slice Try.underlying22 (hval 0 22 v0 rfl rfl)) h0
  obtain ⟨I1, hI1⟩ := ints_of_trod (okWide_slice Try.underlying29 (hval 1 29 v1 rfl rfl)) h1
  obtain ⟨o2, t2, q2, x2, a2, n2, c2, K2, rfl, hC2⟩ := cond_of_trod (okWide_struct Try.underlying50 (hval 2 50 v2 rfl rfl)) h2
  refine (lawCondHolds v0 P0 v1 I1 o2 t2 q2 x2 a2 n2 c2 K2 W hP0 hI1 hC2).mono fun e W' ⟨he, hb⟩ => ?_
  exact ⟨_, he, post_law Try.laidOut fnExactCondHolds_reads rfl rfl (by kernel_rfl) Try.underlying4 hW' hb⟩

theorem fnExactCondHolds_holds : Rows.FnExactCondHoldsSaid :=
  OpenClaim.holds_of_wide 13 Try.f13 rfl rfl rfl rfl rfl rfl rfl ⟨rfl, rfl, rfl, rfl, rfl⟩ rfl rfl rfl rfl rfl (by kernel_rfl) Try.func13 (by kernel_rfl)
    (of_decide_eq_true (by kernel_rfl)) (by unfold Func.isWrapper; first | (rw [if_pos (by decide +kernel)]; kernel_rfl) | (rw [if_neg (by decide +kernel)]; exact ⟨rfl, rfl⟩))
    (fun os started H enc _ => fnExactCondHolds_lifted os started H enc)

end Go.Proofs.Ytlnmlmpmpnjfmaa
