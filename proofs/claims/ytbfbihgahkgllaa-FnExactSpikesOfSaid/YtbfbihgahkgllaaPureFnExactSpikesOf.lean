/- The program's SpikesOf returns what the reference's returns, for all arguments; no condition. -/
import Derived.Test.YtbfbihgahkgllaaP5
import Derived.Test.YtbfbihgahkgllaaP7
import Derived.Test.YtbfbihgahkgllaaSpikes
import Derived.Test.YtbfbihgahkgllaaLists
namespace Go.Proofs.Ytbfbihgahkgllaa.Pure
open Go.RowKit Go.Proofs.YtbfbihgahkgllaaW.PrintWords Go.Proofs.YtbfbihgahkgllaaW.PrintLast Go.Proofs.YtbfbihgahkgllaaW.PrintMore
open Go.Proofs.Ytbfbihgahkgllaa.P

theorem FnExactSpikesOf : laws_FnExactSpikesOf.Pure := by
  intro a b _ _
  apply Ev.rounds
  have hs : ∃ l q, l.length < 1000 ∧ Ev (fun k => spec_SpikesOf.f k a b) (l, q) ∧ Ev (fun k => impl_SpikesOf.f k a b) (l, q) := by
    by_cases h : isSt a b
    · have ha := h.1
      obtain ⟨n, rfl⟩ := Int.eq_ofNat_of_zero_le (show 0 ≤ a by omega)
      have hp := pow_256n (show n ≤ 8 by omega)
      have := spikes_length n b (2 ^ n) 0
      obtain ⟨h1, h2⟩ := spikesOf_ev (show 1 ≤ n by omega) (by omega) h
      exact ⟨_, true, by omega, h2, h1⟩
    · unfold spec_SpikesOf.f impl_SpikesOf.f
      simp only [state_form, isStateOf_form, Option.bind_some, h, decide_false, Bool.false_eq_true, if_false]
      exact ⟨[], false, by simp, Ev.now _, Ev.now _⟩
  obtain ⟨l, q, hl, h1, h2⟩ := hs
  unfold laws_FnExactSpikesOf.f
  refine Ev.bind h1 (Ev.bind h2 (Ev.bind (eqS_ev (l := l) (by omega)) ?_))
  simp only [if_true, bne_self_eq_false]
  refine Ev.succ ?_
  simp only [laws_FnExactSpikesOf.j0, Bool.false_eq_true, if_false]
  refine Ev.bind (mark_ev (by omega) (by omega)) (Ev.bind (held_ev (by omega) (by omega)) ?_)
  simp only [if_neg (show ¬ (1 + (l.length : Int)) < 0 by omega), if_true]
  refine Ev.bind h2 (Ev.bind (eqS_ev (l := l) (by omega)) ?_)
  simp only [if_true, bne_self_eq_false]
  refine Ev.succ ?_
  simp only [laws_FnExactSpikesOf.j1, Bool.false_eq_true, if_false]
  refine Ev.bind (held_ev (by omega) (by omega)) ?_
  simp only [if_neg (show ¬ (1 + (l.length : Int)) < 0 by omega), if_true]
  exact Ev.now _
end Go.Proofs.Ytbfbihgahkgllaa.Pure
