/- When a fraction is valid, as the program and as the reference ask it; no condition. -/
import Derived.Test.YtbfbihgahkgllaaP3
import Derived.Test.YtbfbihgahkgllaaGcd
namespace Go.Proofs.Ytbfbihgahkgllaa.P
open Go.RowKit Go.Proofs.YtbfbihgahkgllaaW.PrintWords Go.Proofs.YtbfbihgahkgllaaW.PrintLast Go.Proofs.YtbfbihgahkgllaaW.PrintMore

/-- In lowest terms, and both parts not too great. -/
def okFrac (n d : Int) : Bool := decide (1 ≤ d ∧ d ≤ 1000000000000000000) && (decide (-1000000000000000000 ≤ n ∧ n ≤ 1000000000000000000) && decide ((Int.gcd n d : Int) = 1))
theorem gcd_max (n d : Int) : Int.gcd (if n > -n then n else -n) d = Int.gcd n d := by
  split
  · rfl
  · exact Int.neg_gcd
theorem specIs_ev (n d : Int) : Ev (fun k => spec_l01FIs.f k n d) (okFrac n d) := by
  unfold spec_l01FIs.f spec_l00Max.f okFrac
  simp only [in_form, Option.bind_some]
  by_cases h1 : 1 ≤ d ∧ d ≤ 1000000000000000000
  · by_cases h2 : -1000000000000000000 ≤ n ∧ n ≤ 1000000000000000000
    · simp only [h1, h2, and_self, decide_true, if_true, Bool.true_and]
      rw [w64 (by omega) (by omega)]
      have e : (if n > -n then some n else some (-n)) = some (if n > -n then n else -n) := by split <;> rfl
      rw [e]
      simp only [Option.bind_some]
      have h0 : 0 ≤ (if n > -n then n else -n) := by split <;> omega
      refine Ev.bind (specGcd_ev h0 (by omega)) (Ev.const ?_)
      rw [gcd_max]
      congr 1
    · simp only [h1, h2, and_self, decide_true, decide_false, if_true, Bool.false_eq_true, if_false, Bool.false_and, Bool.and_false]
      exact Ev.now _
  · simp only [h1, decide_false, Bool.false_eq_true, if_false, Bool.false_and]
    exact Ev.now _
theorem specValid_ev (n d : Int) : Ev (fun k => spec_ValidFraction.f k n d) (okFrac n d) := by
  unfold spec_ValidFraction.f
  exact Ev.bind (specIs_ev n d) (Ev.now _)
theorem valid_ev (n d : Int) : Ev (fun k => impl_ValidFraction.f k n d) (okFrac n d) := by
  unfold impl_ValidFraction.f okFrac
  simp only [within_form, Option.bind_some]
  by_cases h1 : 1 ≤ d ∧ d ≤ 1000000000000000000
  · by_cases h2 : -1000000000000000000 ≤ n ∧ n ≤ 1000000000000000000
    · simp only [h1, h2, and_self, decide_true, if_true, Bool.true_and]
      refine Ev.bind (gcd_ev (by omega) (by omega) (by omega) (by omega)) (Ev.const ?_)
      congr 1
    · simp only [h1, h2, and_self, decide_true, decide_false, if_true, Bool.false_eq_true, if_false, Bool.false_and, Bool.and_false]
      exact Ev.now _
  · simp only [h1, decide_false, Bool.false_eq_true, if_false, Bool.false_and]
    exact Ev.now _
end Go.Proofs.Ytbfbihgahkgllaa.P
