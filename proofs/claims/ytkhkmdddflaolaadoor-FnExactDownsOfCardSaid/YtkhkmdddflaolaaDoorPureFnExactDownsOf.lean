/- The program's DownsOf returns what the reference's returns, for all arguments; no condition. -/
import Derived.Test.YtkhkmdddflaolaaDoorP24
import Derived.Test.YtkhkmdddflaolaaDoorP26
import Derived.Test.YtkhkmdddflaolaaDoorP30
import Derived.Test.YtkhkmdddflaolaaDoorEdges
import Derived.Test.YtkhkmdddflaolaaDoorLists
namespace Go.Proofs.YtkhkmdddflaolaaDoor.Pure
open Go.RowKit Go.Proofs.YtkhkmdddflaolaaDoorW.PrintWords Go.Proofs.YtkhkmdddflaolaaDoorW.PrintLast Go.Proofs.YtkhkmdddflaolaaDoorW.PrintMore
open Go.Proofs.YtkhkmdddflaolaaDoor.P

theorem downs_both {s : ByteArray} (hs : s.size ≤ 1048576) : ∃ l q, l.length < 1152921504606846 ∧ Ev (fun k => spec_DownsOf.f k s) (l, q) ∧ Ev (fun k => impl_DownsOf.f k s) (l, q) := by
  unfold spec_DownsOf.f impl_DownsOf.f
  simp only [isWave_form (show s.size ≤ 9223372036854775807 by omega), Option.bind_some]
  by_cases hw : waveOk s = true
  · have hl := edges_length 48 s
    refine ⟨edges 48 s, true, by omega, Ev.bind (specWave_ev (by omega)) ?_, ?_⟩
    · simp only [hw, if_true]; exact Ev.bind (specEdges_ev (by omega) 48) (Ev.now _)
    · simp only [hw, if_true]; exact Ev.bind (changes_ev (by omega) 48) (Ev.now _)
  · refine ⟨[], false, by simp, Ev.bind (specWave_ev (by omega)) ?_, ?_⟩
    · simp only [hw, Bool.false_eq_true, if_false]; exact Ev.now _
    · simp only [hw, Bool.false_eq_true, if_false]; exact Ev.now _

theorem FnExactDownsOf : laws_FnExactDownsOf.Pure := by
  intro s hs
  apply Ev.rounds
  unfold laws_FnExactDownsOf.f
  by_cases hlong : (s.size : Int) > 1048576
  · simp only [if_pos hlong]; exact Ev.now _
  simp only [if_neg hlong]
  obtain ⟨l, q, hl, h1, h2⟩ := downs_both (s := s) (by omega)
  refine Ev.bind h1 (Ev.bind h2 (Ev.bind (eqS_ev (l := l) (by omega)) ?_))
  simp only [if_true, bne_self_eq_false]
  refine Ev.succ ?_
  simp only [laws_FnExactDownsOf.j0, Bool.false_eq_true, if_false]
  refine Ev.bind (mark_ev (by omega) (by omega)) (Ev.bind (held_ev (by omega) (by omega)) ?_)
  simp only [if_neg (show ¬ (1 + (l.length : Int)) < 0 by omega), if_true]
  refine Ev.bind h2 (Ev.bind (eqS_ev (l := l) (by omega)) ?_)
  simp only [if_true, bne_self_eq_false]
  refine Ev.succ ?_
  simp only [laws_FnExactDownsOf.j1, Bool.false_eq_true, if_false]
  refine Ev.bind (held_ev (by omega) (by omega)) ?_
  simp only [if_neg (show ¬ (1 + (l.length : Int)) < 0 by omega), if_true]
  exact Ev.now _
end Go.Proofs.YtkhkmdddflaolaaDoor.Pure
