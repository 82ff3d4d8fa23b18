/- The program's ValidFraction returns what the reference's returns, for all arguments; no condition. -/
import Derived.Test.YtbfbihgahkgllaaP3
import Derived.Test.YtbfbihgahkgllaaFracs
namespace Go.Proofs.Ytbfbihgahkgllaa.Pure
open Go.RowKit Go.Proofs.YtbfbihgahkgllaaW.PrintWords Go.Proofs.YtbfbihgahkgllaaW.PrintLast Go.Proofs.YtbfbihgahkgllaaW.PrintMore
open Go.Proofs.Ytbfbihgahkgllaa.P

theorem FnExactValidFraction : laws_FnExactValidFraction.Pure := by
  intro a b _ _
  apply Ev.rounds
  unfold laws_FnExactValidFraction.f laws_toFraction.f
  simp only [Option.bind_some]
  refine Ev.bind (specValid_ev a b) (Ev.bind (valid_ev a b) ?_)
  exact Ev.const (by simp)
end Go.Proofs.Ytbfbihgahkgllaa.Pure
