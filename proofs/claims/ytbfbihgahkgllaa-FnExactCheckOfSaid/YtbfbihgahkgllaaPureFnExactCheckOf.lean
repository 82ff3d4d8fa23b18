/- The program's CheckOf returns what the reference's returns, for all arguments; no condition. -/
import Derived.Test.YtbfbihgahkgllaaP2
import Derived.Test.YtbfbihgahkgllaaForms
namespace Go.Proofs.Ytbfbihgahkgllaa.Pure
open Go.RowKit Go.Proofs.YtbfbihgahkgllaaW.PrintWords Go.Proofs.YtbfbihgahkgllaaW.PrintLast Go.Proofs.YtbfbihgahkgllaaW.PrintMore
open Go.Proofs.Ytbfbihgahkgllaa.P

theorem check_loops (s : ByteArray) (hs : s.size ≤ 1048576) (d : Nat) : ∀ (n i : Int), 0 ≤ i → i ≤ s.size → (s.size : Int) - i = d →
    ∃ r, Ev (fun k => spec_l01Check.l0 k n s i) r ∧ Ev (fun k => impl_CheckOf.l0 k n s (s.size : Int) i) (r, true) := by
  induction d with
  | zero =>
    intro n i h0 h1 hd
    have hge : ¬ i < (s.size : Int) := by omega
    refine ⟨n, Ev.succ ?_, Ev.succ ?_⟩
    · simp only [spec_l01Check.l0, hge, if_false]; exact Ev.now _
    · simp only [impl_CheckOf.l0, hge, if_false]; exact Ev.now _
  | succ d ih =>
    intro n i h0 h1 hd
    have hlt : i < (s.size : Int) := by omega
    obtain ⟨r, ha, hb⟩ := ih (Int.tmod (wrap64 ((wrap64 ((wrap64 (307 * n)) + (wrap64 (bt s i)))) + 13)) 64901) (i + 1) (by omega) (by omega) (by omega)
    refine ⟨r, Ev.succ ?_, Ev.succ ?_⟩
    · simp only [spec_l01Check.l0, hlt, h0, if_true, w64 (show -9223372036854775808 ≤ i + 1 by omega) (by omega)]; exact ha
    · simp only [impl_CheckOf.l0, hlt, h0, if_true, w64 (show -9223372036854775808 ≤ i + 1 by omega) (by omega)]; exact hb

theorem FnExactCheckOf : laws_FnExactCheckOf.Pure := by
  intro a s _ _
  apply Ev.rounds
  unfold laws_FnExactCheckOf.f spec_CheckOf.f impl_CheckOf.f spec_l01Check.f
  simp only [in_form, within_form, Option.bind_some]
  by_cases hs : (s.size : Int) > 1048576
  · simp only [hs, if_true]; exact Ev.now _
  simp only [hs, if_false]
  by_cases h1 : 0 ≤ a ∧ a ≤ 64900
  · obtain ⟨r, ha, hb⟩ := check_loops s (by omega) s.size a 0 (by omega) (by omega) (by omega)
    simp only [h1, and_self, decide_true, if_true]
    refine Ev.bind (Ev.bind ha (Ev.now _)) ?_
    refine Ev.bind hb ?_
    exact Ev.const (by simp)
  · simp only [h1, decide_false, Bool.false_eq_true, if_false, Option.bind_some]
    exact Ev.const (by simp)
end Go.Proofs.Ytbfbihgahkgllaa.Pure
