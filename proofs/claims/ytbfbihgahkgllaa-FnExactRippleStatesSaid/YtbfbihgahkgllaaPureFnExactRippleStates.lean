/- The program's RippleStates returns what the reference's returns, for all arguments; no condition. -/
import Derived.Test.YtbfbihgahkgllaaP4
import Derived.Test.YtbfbihgahkgllaaP6
import Derived.Test.YtbfbihgahkgllaaRipple
import Derived.Test.YtbfbihgahkgllaaLists
namespace Go.Proofs.Ytbfbihgahkgllaa.Pure
open Go.RowKit Go.Proofs.YtbfbihgahkgllaaW.PrintWords Go.Proofs.YtbfbihgahkgllaaW.PrintLast Go.Proofs.YtbfbihgahkgllaaW.PrintMore
open Go.Proofs.Ytbfbihgahkgllaa.P

theorem FnExactRippleStates : laws_FnExactRippleStates.Pure := by
  intro a b _ _
  apply Ev.rounds
  have hs : ∃ l q, l.length < 1000 ∧ Ev (fun k => spec_RippleStates.f k a b) (l, q) ∧ Ev (fun k => impl_RippleStates.f k a b) (l, q) := by
    unfold spec_RippleStates.f impl_RippleStates.f
    simp only [state_form, isStateOf_form, Option.bind_some]
    by_cases h : isSt a b
    · have hb := isSt_lt h
      have ha := h.1
      obtain ⟨x, rfl⟩ := Int.eq_ofNat_of_zero_le hb.1
      obtain ⟨n, rfl⟩ := Int.eq_ofNat_of_zero_le (show 0 ≤ a by omega)
      simp only [h, decide_true, if_true]
      have := rip_length n x 0
      exact ⟨rip n x 0, true, by omega, Ev.bind (specRipple_ev (by omega) (by omega)) (Ev.now _), Ev.bind (ripple_ev (by omega) (by omega)) (Ev.now _)⟩
    · simp only [h, decide_false, Bool.false_eq_true, if_false]
      exact ⟨[], false, by simp, Ev.now _, Ev.now _⟩
  obtain ⟨l, q, hl, h1, h2⟩ := hs
  unfold laws_FnExactRippleStates.f
  refine Ev.bind h1 (Ev.bind h2 (Ev.bind (eqS_ev (l := l) (by omega)) ?_))
  simp only [if_true, bne_self_eq_false]
  refine Ev.succ ?_
  simp only [laws_FnExactRippleStates.j0, Bool.false_eq_true, if_false]
  refine Ev.bind (mark_ev (by omega) (by omega)) (Ev.bind (held_ev (by omega) (by omega)) ?_)
  simp only [if_neg (show ¬ (1 + (l.length : Int)) < 0 by omega), if_true]
  refine Ev.bind h2 (Ev.bind (eqS_ev (l := l) (by omega)) ?_)
  simp only [if_true, bne_self_eq_false]
  refine Ev.succ ?_
  simp only [laws_FnExactRippleStates.j1, Bool.false_eq_true, if_false]
  refine Ev.bind (held_ev (by omega) (by omega)) ?_
  simp only [if_neg (show ¬ (1 + (l.length : Int)) < 0 by omega), if_true]
  exact Ev.now _
end Go.Proofs.Ytbfbihgahkgllaa.Pure
