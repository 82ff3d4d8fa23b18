/- The program's WavePeriod returns what the reference's returns, for all arguments; no condition. -/
import Derived.Test.YtkhkmdddflaolaaDoorP13
import Derived.Test.YtkhkmdddflaolaaDoorP14
import Derived.Test.YtkhkmdddflaolaaDoorP15
import Derived.Test.YtkhkmdddflaolaaDoorP16
import Derived.Test.YtkhkmdddflaolaaDoorP17
import Derived.Test.YtkhkmdddflaolaaDoorWave
namespace Go.Proofs.YtkhkmdddflaolaaDoor.Pure
open Go.RowKit Go.Proofs.YtkhkmdddflaolaaDoorW.PrintWords Go.Proofs.YtkhkmdddflaolaaDoorW.PrintLast Go.Proofs.YtkhkmdddflaolaaDoorW.PrintMore
open Go.Proofs.YtkhkmdddflaolaaDoor.P

theorem period_loops (s : ByteArray) (hs : s.size ≤ 1048576) (d : Nat) : ∀ p : Nat, 1 ≤ p → s.size ≤ p + d → (p ≤ s.size ∨ p = 1) →
    ∃ r : Int, Ev (fun k => spec_l01Period.l0 k s (p : Int)) r ∧ Ev (fun k => impl_WavePeriod.l0 k s (p : Int)) (r, true) := by
  induction d with
  | zero =>
    intro p h1 hd hp
    refine ⟨(p : Int), Ev.succ ?_, Ev.succ ?_⟩
    · simp only [spec_l01Period.l0, if_neg (show ¬ (p : Int) < (s.size : Int) by omega), spec_l00Max.f]
      by_cases h : (1 : Int) > (s.size : Int)
      · simp only [if_pos h, Option.bind_some]
        exact Ev.const (congrArg some (by omega))
      · simp only [if_neg h, Option.bind_some]
        exact Ev.const (congrArg some (by omega))
    · simp only [impl_WavePeriod.l0, if_neg (show ¬ (p : Int) < (s.size : Int) by omega)]
      exact Ev.now _
  | succ d ih =>
    intro p h1 hd hp
    by_cases hlt : p < s.size
    · have e1 : wrap64 ((s.size : Int) - (p : Int)) = ((s.size - p : Nat) : Int) := by rw [w64 (by omega) (by omega)]; omega
      have e2 : wrap64 ((p : Int) + 1) = ((p + 1 : Nat) : Int) := by rw [w64 (by omega) (by omega)]; omega
      have t1 : (p : Int) < (s.size : Int) := by omega
      have t2 : (0 : Int) ≤ (p : Int) := by omega
      have t3 : (p : Int) ≤ (s.size : Int) := by omega
      have t4 : (0 : Int) ≤ ((s.size - p : Nat) : Int) := by omega
      have t5 : ((s.size - p : Nat) : Int) ≤ (s.size : Int) := by omega
      by_cases he : (s.extract (p : Int).toNat s.size).toList = (s.extract 0 (((s.size - p : Nat) : Int)).toNat).toList
      · refine ⟨(p : Int), Ev.succ ?_, Ev.succ ?_⟩
        · simp only [spec_l01Period.l0, if_pos t1, if_pos t2, if_pos t3, e1, if_pos t4, if_pos t5, if_pos he]; exact Ev.now _
        · simp only [impl_WavePeriod.l0, if_pos t1, if_pos t2, if_pos t3, e1, if_pos t4, if_pos t5, if_pos he]; exact Ev.now _
      · obtain ⟨r, ha, hb⟩ := ih (p + 1) (by omega) (by omega) (by omega)
        refine ⟨r, Ev.succ ?_, Ev.succ ?_⟩
        · simp only [spec_l01Period.l0, if_pos t1, if_pos t2, if_pos t3, e1, if_pos t4, if_pos t5, if_neg he, e2]; exact ha
        · simp only [impl_WavePeriod.l0, if_pos t1, if_pos t2, if_pos t3, e1, if_pos t4, if_pos t5, if_neg he, e2]; exact hb
    · refine ⟨(p : Int), Ev.succ ?_, Ev.succ ?_⟩
      · simp only [spec_l01Period.l0, if_neg (show ¬ (p : Int) < (s.size : Int) by omega), spec_l00Max.f]
        by_cases h : (1 : Int) > (s.size : Int)
        · simp only [if_pos h, Option.bind_some]
          exact Ev.const (congrArg some (by omega))
        · simp only [if_neg h, Option.bind_some]
          exact Ev.const (congrArg some (by omega))
      · simp only [impl_WavePeriod.l0, if_neg (show ¬ (p : Int) < (s.size : Int) by omega)]
        exact Ev.now _

theorem FnExactWavePeriod : laws_FnExactWavePeriod.Pure := by
  intro s hs
  apply Ev.rounds
  unfold laws_FnExactWavePeriod.f spec_WavePeriod.f impl_WavePeriod.f
  by_cases hl : (s.size : Int) > 1048576
  · simp only [if_pos hl]; exact Ev.now _
  simp only [if_neg hl, isWave_form (show s.size ≤ 9223372036854775807 by omega), Option.bind_some]
  obtain ⟨r, ha, hb⟩ := period_loops s (by omega) s.size 1 (by omega) (by omega) (by omega)
  by_cases hw : waveOk s = true
  · refine Ev.bind (a := (r, true)) (Ev.bind (specWave_ev (by omega)) ?_) ?_
    · simp only [hw, if_true]; exact Ev.bind ha (Ev.now _)
    · simp only [hw, if_true]
      refine Ev.bind hb (Ev.const ?_)
      simp
  · refine Ev.bind (a := ((0 : Int), false)) (Ev.bind (specWave_ev (by omega)) ?_) ?_
    · simp only [hw, Bool.false_eq_true, if_false]; exact Ev.now _
    · simp only [hw, Bool.false_eq_true, if_false, Option.bind_some]
      exact Ev.const (by simp)
end Go.Proofs.YtkhkmdddflaolaaDoor.Pure
