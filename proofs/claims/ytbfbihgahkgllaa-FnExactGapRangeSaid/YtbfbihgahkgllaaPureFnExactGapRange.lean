/- The program's GapRange returns what the reference's returns, for all arguments; no condition. -/
import Derived.Test.YtbfbihgahkgllaaP1
import Derived.Test.YtbfbihgahkgllaaForms
namespace Go.Proofs.Ytbfbihgahkgllaa.Pure
open Go.RowKit Go.Proofs.YtbfbihgahkgllaaW.PrintWords Go.Proofs.YtbfbihgahkgllaaW.PrintLast Go.Proofs.YtbfbihgahkgllaaW.PrintMore
open Go.Proofs.Ytbfbihgahkgllaa.P

theorem FnExactGapRange : laws_FnExactGapRange.Pure := by
  intro a b _ _
  unfold laws_FnExactGapRange.f spec_GapRange.f impl_GapRange.f spec_l03Steps.f impl_isStep.f spec_l03Up.f
  simp only [in_form, within_form, Option.bind_some]
  by_cases h1 : 1 ≤ b ∧ b ≤ 1000
  · by_cases h2 : 1 ≤ a ∧ a ≤ b
    · have h0 : ¬ a = 0 := by omega
      simp [h1, h2, h0]
    · simp [h1, h2]
  · simp [h1]
end Go.Proofs.Ytbfbihgahkgllaa.Pure
