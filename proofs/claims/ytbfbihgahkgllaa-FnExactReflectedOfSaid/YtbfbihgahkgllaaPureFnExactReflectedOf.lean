/- The program's ReflectedOf returns what the reference's returns, for all arguments; no condition. -/
import Derived.Test.YtbfbihgahkgllaaP1
import Derived.Test.YtbfbihgahkgllaaStates
namespace Go.Proofs.Ytbfbihgahkgllaa.Pure
open Go.RowKit Go.Proofs.YtbfbihgahkgllaaW.PrintWords Go.Proofs.YtbfbihgahkgllaaW.PrintLast Go.Proofs.YtbfbihgahkgllaaW.PrintMore
open Go.Proofs.Ytbfbihgahkgllaa.P

theorem FnExactReflectedOf : laws_FnExactReflectedOf.Pure := by
  intro a b _ _
  unfold laws_FnExactReflectedOf.f spec_ReflectedOf.f impl_ReflectedOf.f spec_l02Code.f impl_reflected.f
  simp only [state_form, isStateOf_form, Option.bind_some]
  by_cases h : isSt a b
  · have hb : 0 ≤ b ∧ b ≤ 255 := by have := isSt_lt h; omega
    have e : wrap64 (Int.tdiv b 2) = b / 2 := by
      rw [Int.tdiv_eq_ediv_of_nonneg (by omega)]; exact w64 (by omega) (by omega)
    simp [h, e]
  · simp [h]
end Go.Proofs.Ytbfbihgahkgllaa.Pure
