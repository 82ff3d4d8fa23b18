/- The program's IsWave returns what the reference's returns, for all arguments; no condition. -/
import Derived.Test.YtkhkmdddflaolaaDoorP2
import Derived.Test.YtkhkmdddflaolaaDoorP5
import Derived.Test.YtkhkmdddflaolaaDoorWave
namespace Go.Proofs.YtkhkmdddflaolaaDoor.Pure
open Go.RowKit Go.Proofs.YtkhkmdddflaolaaDoorW.PrintWords Go.Proofs.YtkhkmdddflaolaaDoorW.PrintLast Go.Proofs.YtkhkmdddflaolaaDoorW.PrintMore
open Go.Proofs.YtkhkmdddflaolaaDoor.P

theorem FnExactIsWave : laws_FnExactIsWave.Pure := by
  intro s hs
  apply Ev.rounds
  unfold laws_FnExactIsWave.f spec_IsWave.f
  by_cases hl : (s.size : Int) > 1048576
  · simp only [if_pos hl]; exact Ev.now _
  simp only [if_neg hl, isWave_form (show s.size ≤ 9223372036854775807 by omega), Option.bind_some]
  refine Ev.bind (Ev.bind (specWave_ev (by omega)) (Ev.now _)) ?_
  exact Ev.const (by simp)
end Go.Proofs.YtkhkmdddflaolaaDoor.Pure
