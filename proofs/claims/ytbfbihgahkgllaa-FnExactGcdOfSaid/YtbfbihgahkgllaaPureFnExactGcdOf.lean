/- The program's GcdOf returns what the reference's returns, for all arguments; no condition. -/
import Derived.Test.YtbfbihgahkgllaaP2
import Derived.Test.YtbfbihgahkgllaaP3
import Derived.Test.YtbfbihgahkgllaaGcd
namespace Go.Proofs.Ytbfbihgahkgllaa.Pure
open Go.RowKit Go.Proofs.YtbfbihgahkgllaaW.PrintWords Go.Proofs.YtbfbihgahkgllaaW.PrintLast Go.Proofs.YtbfbihgahkgllaaW.PrintMore
open Go.Proofs.Ytbfbihgahkgllaa.P

theorem FnExactGcdOf : laws_FnExactGcdOf.Pure := by
  intro a b _ _
  apply Ev.rounds
  unfold laws_FnExactGcdOf.f spec_GcdOf.f impl_GcdOf.f impl_isPositive.f
  simp only [in_form, within_form, Option.bind_some]
  by_cases h1 : 1 ≤ a ∧ a ≤ 1000000000000000
  · by_cases h2 : 1 ≤ b ∧ b ≤ 1000000000000000
    · simp only [h1, h2, and_self, decide_true, if_true]
      refine Ev.bind (Ev.bind (specGcd_ev (by omega) (by omega)) (Ev.now _)) ?_
      refine Ev.bind (Ev.bind (gcd_ev (by omega) (by omega) (by omega) (by omega)) (Ev.now _)) ?_
      exact Ev.const (by simp)
    · simp only [h1, h2, and_self, decide_true, decide_false, if_true, Bool.false_eq_true, if_false, Option.bind_some]
      exact Ev.const (by simp)
  · simp only [h1, decide_false, Bool.false_eq_true, if_false, Option.bind_some]
    exact Ev.const (by simp)
end Go.Proofs.Ytbfbihgahkgllaa.Pure
