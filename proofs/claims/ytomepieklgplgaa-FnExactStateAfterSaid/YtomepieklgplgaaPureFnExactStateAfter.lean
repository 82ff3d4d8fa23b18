/- The program's StateAfter returns what the reference's returns, for all arguments; no condition. -/
import Derived.Test.YtomepieklgplgaaP12
import Derived.Test.YtomepieklgplgaaStateAfter
namespace Go.Proofs.Ytomepieklgplgaa.Pure
open Go.RowKit Go.Proofs.YtomepieklgplgaaW.PrintWords Go.Proofs.YtomepieklgplgaaW.PrintLast Go.Proofs.YtomepieklgplgaaW.PrintMore
open Go.Proofs.Ytomepieklgplgaa.P

theorem FnExactStateAfter : laws_FnExactStateAfter.Pure := by
  intro n l x s _ hm _ _ _
  apply Ev.rounds
  unfold laws_FnExactStateAfter.f
  by_cases hl : l.length ≤ 1048576
  · simp only [sz_short hl, Option.bind_some, if_neg (show ¬ (1048576 - (l.length : Int)) < 0 by omega)]
    refine Ev.bind (toCounter_ev n l hl) (Ev.bind (specAfter_ev hl) (Ev.bind (toCounter_ev n l hl) (Ev.bind implAfter_ev ?_)))
    simp only [if_true, bne_self_eq_false]
    refine Ev.succ ?_
    simp only [laws_FnExactStateAfter.j0, Bool.false_eq_true, if_false]
    refine Ev.bind (toCounter_ev n l hl) (Ev.bind (eqCounter_ev n l hl) ?_)
    simp only [if_true]
    exact Ev.now _
  · simp only [sz_long hm (by omega), Option.bind_some]
    exact Ev.now _
end Go.Proofs.Ytomepieklgplgaa.Pure
