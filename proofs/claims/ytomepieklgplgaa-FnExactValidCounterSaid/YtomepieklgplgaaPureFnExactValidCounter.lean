/- The program's ValidCounter returns what the reference's returns, for all counters; no condition. -/
import Derived.Test.YtomepieklgplgaaP14
import Derived.Test.YtomepieklgplgaaCounters
namespace Go.Proofs.Ytomepieklgplgaa.Pure
open Go.RowKit Go.Proofs.YtomepieklgplgaaW.PrintWords Go.Proofs.YtomepieklgplgaaW.PrintLast Go.Proofs.YtomepieklgplgaaW.PrintMore
open Go.Proofs.Ytomepieklgplgaa.P

theorem FnExactValidCounter : laws_FnExactValidCounter.Pure := by
  intro n l _ hm _
  apply Ev.rounds
  unfold laws_FnExactValidCounter.f
  by_cases hl : l.length ≤ 1048576
  · simp only [sz_short hl, Option.bind_some, if_neg (show ¬ (1048576 - (l.length : Int)) < 0 by omega)]
    refine Ev.bind (toCounter_ev n l hl) (Ev.bind (specValid_ev n l hl) (Ev.bind (toCounter_ev n l hl) ?_))
    simp only [implValid_form, Option.bind_some, bne_self_eq_false, Bool.false_eq_true, if_false]
    refine Ev.bind (toCounter_ev n l hl) (Ev.bind (eqCounter_ev n l hl) ?_)
    simp only [if_true]
    exact Ev.now _
  · simp only [sz_long hm (by omega), Option.bind_some]
    exact Ev.now _
end Go.Proofs.Ytomepieklgplgaa.Pure
