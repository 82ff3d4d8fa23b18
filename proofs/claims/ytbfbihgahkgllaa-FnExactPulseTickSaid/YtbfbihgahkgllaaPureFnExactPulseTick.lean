/- The program's PulseTick returns what the reference's returns, for all arguments; no condition. -/
import Derived.Test.YtbfbihgahkgllaaP1
import Derived.Test.YtbfbihgahkgllaaP2
import Derived.Test.YtbfbihgahkgllaaForms
namespace Go.Proofs.Ytbfbihgahkgllaa.Pure
open Go.RowKit Go.Proofs.YtbfbihgahkgllaaW.PrintWords Go.Proofs.YtbfbihgahkgllaaW.PrintLast Go.Proofs.YtbfbihgahkgllaaW.PrintMore
open Go.Proofs.Ytbfbihgahkgllaa.P

theorem FnExactPulseTick : laws_FnExactPulseTick.Pure := by
  intro a b c d _ _ _ _
  unfold laws_FnExactPulseTick.f spec_PulseTick.f impl_PulseTick.f spec_l03Steps.f impl_isStep.f spec_l03Tick.f impl_pulseTick.f spec_l03Up.f
  simp only [in_form, within_form, Option.bind_some]
  by_cases h1 : 1 ≤ b ∧ b ≤ 1000
  · by_cases h2 : 1 ≤ a ∧ a ≤ b
    · have h0 : ¬ a = 0 := by omega
      by_cases h3 : 0 ≤ c ∧ c ≤ wrap64 (b - 1)
      · by_cases h4 : 0 ≤ d ∧ d ≤ 100000
        · simp [h1, h2, h0, h3, h4]
        · simp [h1, h2, h3, h4]
      · simp [h1, h2, h3]
    · simp [h1, h2]
  · simp [h1]
end Go.Proofs.Ytbfbihgahkgllaa.Pure
