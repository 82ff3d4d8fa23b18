/- The program's EvenPattern returns what the reference's returns, for all arguments; no condition. -/
import Derived.Test.YtkhkmdddflaolaaP2
import Derived.Test.YtkhkmdddflaolaaP3
import Derived.Test.YtkhkmdddflaolaaExtEven
import Derived.Test.YtkhkmdddflaolaaForms
namespace Go.Proofs.Ytkhkmdddflaolaa.Pure
open Go.RowKit Go.Proofs.YtkhkmdddflaolaaW.PrintWords Go.Proofs.YtkhkmdddflaolaaW.PrintLast Go.Proofs.YtkhkmdddflaolaaW.PrintMore
open Go.Proofs.Ytkhkmdddflaolaa.P

theorem even_loop (s : Nat) (m : Int) (h1 : 1 ≤ s) (h2 : s ≤ 64) (h3 : 0 ≤ m) (h4 : m ≤ (s : Int)) (d : Nat) : ∀ i : Nat, i + d = s →
    Ev (fun k => spec_EvenPattern.l0 k (s : Int) m (levels (evenBit (s : Int) m) i) (i : Int)) (waveStr (evenBit (s : Int) m) s, true) := by
  induction d with
  | zero =>
    intro i hi
    refine Ev.succ ?_
    obtain rfl : i = s := by omega
    simp only [spec_EvenPattern.l0, Int.lt_irrefl, if_false]
    exact Ev.now _
  | succ d ih =>
    intro i hi
    refine Ev.succ ?_
    have hlt : (i : Int) < (s : Int) := by omega
    have hz : ¬ (s : Int) = 0 := by omega
    have hm1 : 0 ≤ ((i : Int) + 1) * m := Int.mul_nonneg (by omega) h3
    have hm2 : 0 ≤ (i : Int) * m := Int.mul_nonneg (by omega) h3
    have hm3 : ((i : Int) + 1) * m ≤ 64 * 64 := Int.mul_le_mul (by omega) (by omega) h3 (by omega)
    have hm4 : (i : Int) * m ≤ 64 * 64 := Int.mul_le_mul (by omega) (by omega) h3 (by omega)
    have hd1 : 0 ≤ ((i : Int) + 1) * m / s := Int.ediv_nonneg hm1 (by omega)
    have hd2 : 0 ≤ (i : Int) * m / s := Int.ediv_nonneg hm2 (by omega)
    have hd3 : ((i : Int) + 1) * m / s ≤ ((i : Int) + 1) * m := Int.ediv_le_self _ hm1
    have hd4 : (i : Int) * m / s ≤ (i : Int) * m := Int.ediv_le_self _ hm2
    have e0 : wrap64 ((i : Int) + 1) = (i : Int) + 1 := w64 (by omega) (by omega)
    have e1 : wrap64 (((i : Int) + 1) * m) = ((i : Int) + 1) * m := w64 (by omega) (by omega)
    have e2 : wrap64 ((i : Int) * m) = (i : Int) * m := w64 (by omega) (by omega)
    have e3 : wrap64 (((i : Int) + 1) * m / s) = ((i : Int) + 1) * m / s := w64 (by omega) (by omega)
    have e4 : wrap64 ((i : Int) * m / s) = (i : Int) * m / s := w64 (by omega) (by omega)
    have hl : (levels (evenBit (s : Int) m) i).length < 140737488355328 := by rw [levels_length]; omega
    simp only [spec_EvenPattern.l0, if_pos hlt, if_neg hz, e0, e1, e2, Int.tdiv_eq_ediv_of_nonneg hm1, Int.tdiv_eq_ediv_of_nonneg hm2, e3, e4, if_pos hl]
    have hn := ih (i + 1) (by omega)
    rw [show ((i + 1 : Nat) : Int) = (i : Int) + 1 by omega] at hn
    by_cases hb : ((i : Int) + 1) * m / s > (i : Int) * m / s
    · simp only [if_pos hb]
      have hbit : evenBit (s : Int) m i = true := decide_eq_true hb
      rw [levels, hbit, if_pos rfl] at hn
      exact hn
    · simp only [if_neg hb]
      have hbit : evenBit (s : Int) m i = false := decide_eq_false hb
      rw [levels, hbit] at hn
      exact hn

theorem FnExactEvenPattern : laws_FnExactEvenPattern.Pure := by
  intro a b _ _
  apply Ev.rounds
  unfold laws_FnExactEvenPattern.f spec_EvenPattern.f impl_EvenPattern.f
  simp only [in_form, Option.bind_some]
  by_cases h1 : 1 ≤ a ∧ a ≤ 64
  · by_cases h2 : 0 ≤ b ∧ b ≤ a
    · obtain ⟨s, rfl⟩ := Int.eq_ofNat_of_zero_le (show 0 ≤ a by omega)
      have hok : evenOk (s : Int) b := ⟨h1.1, h1.2, h2.1, h2.2⟩
      simp only [h1, h2, hok, and_self, decide_true, if_true, Bool.not_true, Int.toNat_natCast, Option.bind_some]
      refine Ev.bind (a := (waveStr (evenBit (s : Int) b) s, true)) (Ev.succ ?_) ?_
      · simp only [spec_EvenPattern.j0, Bool.false_eq_true, if_false]
        exact even_loop s b (by omega) (by omega) h2.1 h2.2 s 0 (by omega)
      · exact Ev.const (by simp)
    · have hok : ¬ evenOk a b := fun h => h2 ⟨h.2.2.1, h.2.2.2⟩
      simp only [h1, h2, hok, and_self, decide_true, decide_false, if_true, if_false, Bool.not_false, Option.bind_some]
      refine Ev.bind (a := (⟨#[]⟩, false)) (Ev.succ ?_) ?_
      · simp only [spec_EvenPattern.j0, if_true]; exact Ev.now _
      · exact Ev.const (by simp)
  · have hok : ¬ evenOk a b := fun h => h1 ⟨h.1, h.2.1⟩
    simp only [h1, hok, decide_false, Bool.false_eq_true, if_false, Option.bind_some]
    refine Ev.bind (a := (⟨#[]⟩, false)) (Ev.succ ?_) ?_
    · simp only [spec_EvenPattern.j0, if_true]; exact Ev.now _
    · exact Ev.const (by simp)
end Go.Proofs.Ytkhkmdddflaolaa.Pure
