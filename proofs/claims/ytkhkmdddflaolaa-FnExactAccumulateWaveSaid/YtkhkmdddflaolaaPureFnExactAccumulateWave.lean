/- The program's AccumulateWave returns what the reference's returns, for all arguments; no condition. -/
import Derived.Test.YtkhkmdddflaolaaP3
import Derived.Test.YtkhkmdddflaolaaP4
import Derived.Test.YtkhkmdddflaolaaP5
import Derived.Test.YtkhkmdddflaolaaP6
import Derived.Test.YtkhkmdddflaolaaExtAccum
import Derived.Test.YtkhkmdddflaolaaForms
namespace Go.Proofs.Ytkhkmdddflaolaa.Pure
open Go.RowKit Go.Proofs.YtkhkmdddflaolaaW.PrintWords Go.Proofs.YtkhkmdddflaolaaW.PrintLast Go.Proofs.YtkhkmdddflaolaaW.PrintMore
open Go.Proofs.Ytkhkmdddflaolaa.P

theorem acc_loop (s m p : Int) (n : Nat) (h1 : 1 ≤ m) (h2 : m ≤ 1000) (h3 : 1 ≤ s) (h4 : s ≤ m) (h5 : 0 ≤ p) (h6 : p < m) (hn : n ≤ 400) (d : Nat) : ∀ i : Nat, i + d = n →
    Ev (fun k => spec_l03Accumulate.l0 k s m (accPh s m p i) (d : Int) (levels (accBit s m p) i)) (waveStr (accBit s m p) n) := by
  induction d with
  | zero =>
    intro i hi
    refine Ev.succ ?_
    obtain rfl : i = n := by omega
    simp only [spec_l03Accumulate.l0]
    exact Ev.congr (fun _ => if_neg (by decide)) (Ev.now _)
  | succ d ih =>
    intro i hi
    refine Ev.succ ?_
    have hbd := accPh_bd s m p (by omega) h5 h6 i
    have hgt : ((d + 1 : Nat) : Int) > 0 := by omega
    have e0 : wrap64 (accPh s m p i + s) = accPh s m p i + s := w64 (by omega) (by omega)
    have e1 : wrap64 (accPh s m p i + s - m) = accPh s m p i + s - m := w64 (by omega) (by omega)
    have e2 : wrap64 (((d + 1 : Nat) : Int) - 1) = (d : Int) := by rw [w64 (by omega) (by omega)]; omega
    have hl : (levels (accBit s m p) i).length < 140737488355328 := by rw [levels_length]; omega
    simp only [spec_l03Accumulate.l0, if_pos hgt, e0, e1, e2, if_pos hl]
    have hnext := ih (i + 1) (by omega)
    by_cases hb : accPh s m p i + s ≥ m
    · simp only [if_pos hb]
      have hbit : accBit s m p i = true := decide_eq_true hb
      have hp : accPh s m p (i + 1) = accPh s m p i + s - m := by
        rw [accPh, ← Int.sub_emod_right]; exact Int.emod_eq_of_lt (by omega) (by omega)
      rw [levels, hbit, if_pos rfl, hp] at hnext
      exact hnext
    · simp only [if_neg hb]
      have hbit : accBit s m p i = false := decide_eq_false hb
      have hp : accPh s m p (i + 1) = accPh s m p i + s := by
        rw [accPh]; exact Int.emod_eq_of_lt (by omega) (by omega)
      rw [levels, hbit, hp] at hnext
      exact hnext

theorem FnExactAccumulateWave : laws_FnExactAccumulateWave.Pure := by
  intro a b c e _ hwb _ _
  have hbb := wf64 hwb
  apply Ev.rounds
  unfold laws_FnExactAccumulateWave.f spec_AccumulateWave.f impl_AccumulateWave.f spec_l03Steps.f
  simp only [in_form, Option.bind_some]
  by_cases h1 : 1 ≤ b ∧ b ≤ 1000
  · have ew : wrap64 (b - 1) = b - 1 := w64 (by omega) (by omega)
    by_cases h2 : 1 ≤ a ∧ a ≤ b
    · by_cases h3 : 0 ≤ c ∧ c ≤ b - 1
      · by_cases h4 : 0 ≤ e ∧ e ≤ 400
        · obtain ⟨n, rfl⟩ := Int.eq_ofNat_of_zero_le h4.1
          have hok : accOk a b c (n : Int) := ⟨h1, h2, h3, h4⟩
          simp only [h1, h2, ew, h3, h4, hok, and_self, decide_true, if_true, Int.toNat_natCast, Option.bind_some]
          refine Ev.bind (Ev.bind (acc_loop a b c n h1.1 h1.2 h2.1 h2.2 h3.1 (by omega) (by omega) n 0 (by omega)) (Ev.now _)) ?_
          exact Ev.const (by simp)
        · have hok : ¬ accOk a b c e := fun h => h4 h.2.2.2
          simp only [h1, h2, ew, h3, h4, hok, and_self, decide_true, decide_false, if_true, Bool.false_eq_true, if_false, Option.bind_some]
          exact Ev.const (by simp)
      · have hok : ¬ accOk a b c e := fun h => h3 h.2.2.1
        simp only [h1, h2, ew, h3, hok, and_self, decide_true, decide_false, if_true, Bool.false_eq_true, if_false, Option.bind_some]
        exact Ev.const (by simp)
    · have hok : ¬ accOk a b c e := fun h => h2 h.2.1
      simp only [h1, h2, hok, and_self, decide_true, decide_false, if_true, Bool.false_eq_true, if_false, Option.bind_some]
      exact Ev.const (by simp)
  · have hok : ¬ accOk a b c e := fun h => h1 h.1
    simp only [h1, hok, decide_false, Bool.false_eq_true, if_false, Option.bind_some]
    exact Ev.const (by simp)
end Go.Proofs.Ytkhkmdddflaolaa.Pure
