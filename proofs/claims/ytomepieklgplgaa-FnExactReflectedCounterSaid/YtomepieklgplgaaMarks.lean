/- What the laws do with counters that a function returned: marks written into one are found again. Lists of fewer than 2^60 numbers. -/
import Derived.Test.YtomepieklgplgaaP1
import Derived.Test.YtomepieklgplgaaP3
import Derived.Test.YtomepieklgplgaaCounters
namespace Go.Proofs.Ytomepieklgplgaa.P
open Go.RowKit Go.Proofs.YtomepieklgplgaaW.PrintWords Go.Proofs.YtomepieklgplgaaW.PrintLast Go.Proofs.YtomepieklgplgaaW.PrintMore

theorem markC_ev (n : Int) {l : List Int} (hl : 1 + (l.length : Int) < 1152921504606846976) : Ev (fun k => laws_markCounter.f k n l 1) (1 + l.length, marks l.length 1) := by
  unfold laws_markCounter.f
  exact Ev.bind (mark_ev (by omega) hl) (Ev.now _)
theorem heldC_ev (n : Int) {m : Nat} (hl : 1 + (m : Int) < 1152921504606846976) : Ev (fun k => laws_heldCounter.f k n (marks m 1) 1) (1 + (m : Int)) := by
  unfold laws_heldCounter.f
  refine Ev.bind (held_ev (by omega) hl) ?_
  simp only [if_neg (show ¬ (1 + (m : Int)) < 0 by omega)]
  exact Ev.now _
end Go.Proofs.Ytomepieklgplgaa.P
