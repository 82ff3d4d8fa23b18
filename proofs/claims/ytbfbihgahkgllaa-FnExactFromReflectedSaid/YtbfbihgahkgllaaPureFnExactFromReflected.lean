/- The program's FromReflected returns what the reference's returns, for all arguments; no condition. -/
import Derived.Test.YtbfbihgahkgllaaP3
import Derived.Test.YtbfbihgahkgllaaReflected
namespace Go.Proofs.Ytbfbihgahkgllaa.Pure
open Go.RowKit Go.Proofs.YtbfbihgahkgllaaW.PrintWords Go.Proofs.YtbfbihgahkgllaaW.PrintLast Go.Proofs.YtbfbihgahkgllaaW.PrintMore
open Go.Proofs.Ytbfbihgahkgllaa.P

theorem FnExactFromReflected : laws_FnExactFromReflected.Pure := by
  intro a b _ _
  apply Ev.rounds
  unfold laws_FnExactFromReflected.f spec_FromReflected.f impl_FromReflected.f
  simp only [state_form, isStateOf_form, Option.bind_some]
  by_cases h : isSt a b
  · have hb := isSt_lt h
    obtain ⟨x, rfl⟩ := Int.eq_ofNat_of_zero_le hb.1
    simp only [h, decide_true, if_true]
    refine Ev.bind (specFrom_loop (by omega) (grayD 8 x) 0 (by omega)) ?_
    refine Ev.bind (Ev.bind (fromReflected_ev (by omega)) (Ev.now _)) ?_
    exact Ev.const (by simp)
  · simp only [h, decide_false, Bool.false_eq_true, if_false, Option.bind_some]
    exact Ev.const (by simp)
end Go.Proofs.Ytbfbihgahkgllaa.Pure
