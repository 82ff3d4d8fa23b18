/- The program's LcmOf returns what the reference's returns, for all arguments; no condition. -/
import Derived.Test.YtbfbihgahkgllaaP2
import Derived.Test.YtbfbihgahkgllaaP4
import Derived.Test.YtbfbihgahkgllaaGcd
namespace Go.Proofs.Ytbfbihgahkgllaa.Pure
open Go.RowKit Go.Proofs.YtbfbihgahkgllaaW.PrintWords Go.Proofs.YtbfbihgahkgllaaW.PrintLast Go.Proofs.YtbfbihgahkgllaaW.PrintMore
open Go.Proofs.Ytbfbihgahkgllaa.P

theorem FnExactLcmOf : laws_FnExactLcmOf.Pure := by
  intro a b _ _
  apply Ev.rounds
  unfold laws_FnExactLcmOf.f spec_LcmOf.f impl_LcmOf.f impl_isPositive.f
  simp only [in_form, within_form, Option.bind_some]
  by_cases h1 : 1 ≤ a ∧ a ≤ 1000000000000000
  · by_cases h2 : 1 ≤ b ∧ b ≤ 1000000000000000
    · simp only [h1, h2, and_self, decide_true, if_true, Bool.not_true]
      have hg : ((Int.gcd a b : Nat) : Int) ≠ 0 := by
        have := Int.gcd_pos_of_ne_zero_left b (show a ≠ 0 by omega)
        omega
      have hb : b ≠ 0 := by omega
      have hs : ∃ r, Ev (fun k => spec_LcmOf.j0 k a b false) r ∧ Ev (fun k => impl_lcm.f k a b) r := by
        by_cases hq : (wrap64 (Int.tdiv a (Int.gcd a b : Int))) > (wrap64 (Int.tdiv (1000000000000000000 : Int) b))
        · refine ⟨(0, false), ?_, ?_⟩
          · refine Ev.succ ?_
            simp only [spec_LcmOf.j0, Bool.false_eq_true, if_false]
            refine Ev.bind (specGcd_ev (by omega) (by omega)) (Ev.const ?_)
            rw [if_neg hg, if_neg hb, if_pos hq]
          · unfold impl_lcm.f
            refine Ev.bind (gcd_ev (by omega) (by omega) (by omega) (by omega)) (Ev.const ?_)
            rw [if_neg hg, if_neg hb, if_pos hq]
        · refine ⟨(wrap64 ((wrap64 (Int.tdiv a (Int.gcd a b : Int))) * b), true), ?_, ?_⟩
          · refine Ev.succ ?_
            simp only [spec_LcmOf.j0, Bool.false_eq_true, if_false]
            refine Ev.bind (specGcd_ev (by omega) (by omega)) (Ev.const ?_)
            rw [if_neg hg, if_neg hb, if_neg hq]
          · unfold impl_lcm.f
            refine Ev.bind (gcd_ev (by omega) (by omega) (by omega) (by omega)) (Ev.const ?_)
            rw [if_neg hg, if_neg hb, if_neg hq]
      obtain ⟨r, hs1, hs2⟩ := hs
      refine Ev.bind hs1 ?_
      refine Ev.bind (Ev.bind hs2 (Ev.now _)) ?_
      exact Ev.const (by simp)
    · simp only [h1, h2, and_self, decide_true, decide_false, if_true, Bool.false_eq_true, if_false, Option.bind_some, Bool.not_false]
      refine Ev.bind (a := (0, false)) (Ev.succ ?_) ?_
      · simp only [spec_LcmOf.j0, if_true]; exact Ev.now _
      exact Ev.const (by simp)
  · simp only [h1, decide_false, Bool.false_eq_true, if_false, Option.bind_some]
    refine Ev.bind (a := (0, false)) (Ev.succ ?_) ?_
    · simp only [spec_LcmOf.j0, if_true]; exact Ev.now _
    exact Ev.const (by simp)
end Go.Proofs.Ytbfbihgahkgllaa.Pure
