/- The program's ValidDivider returns what the reference's returns, for all arguments; no condition. -/
import Derived.Test.YtbfbihgahkgllaaP1
import Derived.Test.YtbfbihgahkgllaaForms
namespace Go.Proofs.Ytbfbihgahkgllaa.Pure
open Go.RowKit Go.Proofs.YtbfbihgahkgllaaW.PrintWords Go.Proofs.YtbfbihgahkgllaaW.PrintLast Go.Proofs.YtbfbihgahkgllaaW.PrintMore
open Go.Proofs.Ytbfbihgahkgllaa.P

theorem FnExactValidDivider : laws_FnExactValidDivider.Pure := by
  intro a b _ _
  unfold laws_FnExactValidDivider.f spec_ValidDivider.f impl_ValidDivider.f spec_l03Is.f laws_toDivider.f
  simp only [in_form, within_form, Option.bind_some]
  by_cases h1 : 1 ≤ a ∧ a ≤ 64
  · by_cases h2 : 0 ≤ b ∧ b ≤ a
    · simp [h1, h2]
    · simp [h1, h2]
  · simp [h1]
end Go.Proofs.Ytbfbihgahkgllaa.Pure
