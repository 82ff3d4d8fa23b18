/- The program's IsSelfStarting returns what the reference's returns, for all arguments; no condition. -/
import Derived.Test.YtomepieklgplgaaP10
import Derived.Test.YtomepieklgplgaaP11
import Derived.Test.YtomepieklgplgaaP12
import Derived.Test.YtomepieklgplgaaP13
import Derived.Test.YtomepieklgplgaaRing2
namespace Go.Proofs.Ytomepieklgplgaa.Pure
open Go.RowKit Go.Proofs.YtomepieklgplgaaW.PrintWords Go.Proofs.YtomepieklgplgaaW.PrintLast Go.Proofs.YtomepieklgplgaaW.PrintMore
open Go.Proofs.Ytomepieklgplgaa.P

theorem self_both {n : Int} {l : List Int} {x : Int} (hl : l.length ≤ 1048576) : ∃ v, Ev (fun k => spec_IsSelfStarting.f k n l x) v ∧ Ev (fun k => impl_IsSelfStarting.f k n l x) v := by
  unfold spec_IsSelfStarting.f impl_IsSelfStarting.f impl_TailOf.f
  by_cases hs : okC n l ∧ isSt n x
  · by_cases ht : (tailOf l x : Int) = 0
    · refine ⟨((ringsUp l l.length).length : Int) == 1, Ev.bind (specAt_ev n l x hl) ?_, Ev.bind (a := ((tailOf l x : Int), true)) ?_ ?_⟩
      · simp only [hs, and_self, decide_true, if_true]
        refine Ev.bind (specRing_ev hs.1 hs.2) ?_
        simp only [ht, if_true]
        exact Ev.bind (specRings_ev hs.1) (Ev.now _)
      · simp only [isState_form, hs, and_self, decide_true, Option.bind_some, if_true]
        exact Ev.bind (implRing_ev hs.1 hs.2) (Ev.now _)
      · simp only [if_true, ht]
        exact Ev.bind (implRings_ev hs.1) (Ev.now _)
    · refine ⟨false, Ev.bind (specAt_ev n l x hl) ?_, Ev.bind (a := ((tailOf l x : Int), true)) ?_ ?_⟩
      · simp only [hs, and_self, decide_true, if_true]
        refine Ev.bind (specRing_ev hs.1 hs.2) ?_
        simp only [ht, if_false]
        exact Ev.now _
      · simp only [isState_form, hs, and_self, decide_true, Option.bind_some, if_true]
        exact Ev.bind (implRing_ev hs.1 hs.2) (Ev.now _)
      · simp only [if_true, ht, if_false]
        exact Ev.now _
  · refine ⟨false, Ev.bind (specAt_ev n l x hl) ?_, Ev.bind (a := ((0 : Int), false)) ?_ ?_⟩
    · simp only [hs, decide_false, Bool.false_eq_true, if_false]
      exact Ev.now _
    · simp only [isState_form, hs, decide_false, Option.bind_some, Bool.false_eq_true, if_false]
      exact Ev.now _
    · simp only [Bool.false_eq_true, if_false]
      exact Ev.now _
theorem FnExactIsSelfStarting : laws_FnExactIsSelfStarting.Pure := by
  intro n l x _ hm _ _
  apply Ev.rounds
  unfold laws_FnExactIsSelfStarting.f
  by_cases hl : l.length ≤ 1048576
  · simp only [sz_short hl, Option.bind_some, if_neg (show ¬ (1048576 - (l.length : Int)) < 0 by omega)]
    obtain ⟨v, h1, h2⟩ := self_both (n := n) (x := x) hl
    refine Ev.bind (toCounter_ev n l hl) (Ev.bind h1 (Ev.bind (toCounter_ev n l hl) (Ev.bind h2 ?_)))
    simp only [bne_self_eq_false, Bool.false_eq_true, if_false]
    refine Ev.bind (toCounter_ev n l hl) (Ev.bind (eqCounter_ev n l hl) ?_)
    simp only [if_true]
    exact Ev.now _
  · simp only [sz_long hm (by omega), Option.bind_some]
    exact Ev.now _
end Go.Proofs.Ytomepieklgplgaa.Pure
