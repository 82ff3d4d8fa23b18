/- The program's RepeatWave returns what the reference's returns, for all arguments; no condition. -/
import Derived.Test.YtkhkmdddflaolaaDoorP34
import Derived.Test.YtkhkmdddflaolaaDoorP36
import Derived.Test.YtkhkmdddflaolaaDoorP38
import Derived.Test.YtkhkmdddflaolaaDoorP39
import Derived.Test.YtkhkmdddflaolaaDoorExtRepeat
import Derived.Test.YtkhkmdddflaolaaDoorWave
import Derived.Test.YtkhkmdddflaolaaDoorForms
namespace Go.Proofs.YtkhkmdddflaolaaDoor.Pure
open Go.RowKit Go.Proofs.YtkhkmdddflaolaaDoorW.PrintWords Go.Proofs.YtkhkmdddflaolaaDoorW.PrintLast Go.Proofs.YtkhkmdddflaolaaDoorW.PrintMore
open Go.Proofs.YtkhkmdddflaolaaDoor.P

theorem wave_size {s : ByteArray} (h : waveOk s = true) : s.size ≤ 400 := by
  unfold waveOk at h
  rw [Bool.and_eq_true, decide_eq_true_eq] at h
  exact h.1
theorem ba_ext {s t : ByteArray} (h : s.data.toList = t.data.toList) : s = t := ByteArray.ext (Array.ext' h)
def repS (s : ByteArray) (n : Nat) : ByteArray := ⟨(Lib.repeatL s.data.toList n).toArray⟩
theorem rep_zero (a s : ByteArray) : a ++ repS s 0 = a := by
  apply ba_ext
  simp [repS, Lib.repeatL]
theorem rep_succ (a s : ByteArray) (n : Nat) : a ++ s ++ repS s n = a ++ repS s (n + 1) := by
  apply ba_ext
  simp [repS, Lib.repeatL]
theorem rep_start (s : ByteArray) (n : Nat) : (⟨#[]⟩ : ByteArray) ++ repS s n = repS s n := by
  apply ba_ext
  simp [repS]
theorem rep_loop (s : ByteArray) (hs : s.size ≤ 400) (n : Nat) : ∀ a : ByteArray, n ≤ 400 → a.size + n * 400 ≤ 1000000 → Ev (fun k => spec_RepeatWave.l0 k s (n : Int) a) (a ++ repS s n, true) := by
  induction n with
  | zero =>
    intro a _ _
    refine Ev.succ ?_
    rw [rep_zero]
    simp only [spec_RepeatWave.l0, Int.natCast_zero, gt_iff_lt, Int.lt_irrefl, if_false]
    exact Ev.now _
  | succ n ih =>
    intro a hn ha
    refine Ev.succ ?_
    rw [← rep_succ]
    have e : wrap64 (((n + 1 : Nat) : Int) - 1) = (n : Int) := by rw [w64 (by omega) (by omega)]; omega
    simp only [spec_RepeatWave.l0, if_pos (show ((n + 1 : Nat) : Int) > 0 by omega), if_pos (show a.size + s.size ≤ 9223372036854775807 by omega), e]
    exact ih (a ++ s) (by omega) (by rw [ByteArray.size_append]; omega)

theorem repeat_both {s : ByteArray} {n : Int} (hs : s.size ≤ 1048576) : ∃ v, Ev (fun k => spec_RepeatWave.f k s n) v ∧ impl_RepeatWave.f s n = some v := by
  unfold spec_RepeatWave.f impl_RepeatWave.f
  simp only [isWave_form (show s.size ≤ 9223372036854775807 by omega), in_form, impl_isTicks.f, within_form, Option.bind_some]
  by_cases hw : waveOk s = true
  · have h4 := wave_size hw
    by_cases h1 : 0 ≤ n ∧ n ≤ 400
    · obtain ⟨m, rfl⟩ := Int.eq_ofNat_of_zero_le h1.1
      have hm : m ≤ 400 := by omega
      have hmul : s.size * m ≤ 400 * 400 := Nat.mul_le_mul h4 hm
      have e : wrap64 ((s.size : Int) * (m : Int)) = ((s.size * m : Nat) : Int) := by rw [← Int.natCast_mul, w64 (by omega) (by omega)]
      simp only [h1, and_self, decide_true, if_true, hw, e]
      by_cases hbig : ((s.size * m : Nat) : Int) > 400
      · refine ⟨(⟨#[]⟩, false), Ev.bind (specWave_ev (by omega)) ?_, by rw [if_pos hbig]⟩
        simp only [hw, if_true, hbig, decide_true]
        refine Ev.succ ?_
        simp only [spec_RepeatWave.j0, if_true]
        exact Ev.now _
      · refine ⟨(repS s m, true), Ev.bind (specWave_ev (by omega)) ?_, ?_⟩
        · simp only [hw, if_true, hbig, decide_false]
          refine Ev.succ ?_
          simp only [spec_RepeatWave.j0, Bool.false_eq_true, if_false]
          have := rep_loop s h4 m ⟨#[]⟩ hm (by have : (⟨#[]⟩ : ByteArray).size = 0 := rfl; omega)
          rw [rep_start] at this
          exact this
        · rw [if_neg hbig]
          unfold strings_Repeat.f
          rw [if_pos ⟨h1.1, by omega, by omega⟩]
          rfl
    · refine ⟨(⟨#[]⟩, false), Ev.bind (specWave_ev (by omega)) ?_, ?_⟩
      · simp only [hw, if_true, h1, decide_false, Bool.false_eq_true, if_false]
        refine Ev.succ ?_
        simp only [spec_RepeatWave.j0, if_true]
        exact Ev.now _
      · simp only [hw, if_true, h1, decide_false, Bool.false_eq_true, if_false]
  · refine ⟨(⟨#[]⟩, false), Ev.bind (specWave_ev (by omega)) ?_, ?_⟩
    · simp only [hw, Bool.false_eq_true, if_false]
      refine Ev.succ ?_
      simp only [spec_RepeatWave.j0, if_true]
      exact Ev.now _
    · simp only [hw, Bool.false_eq_true, if_false]
theorem FnExactRepeatWave : laws_FnExactRepeatWave.Pure := by
  intro s n _ _
  apply Ev.rounds
  unfold laws_FnExactRepeatWave.f
  by_cases hlong : (s.size : Int) > 1048576
  · simp only [if_pos hlong]; exact Ev.now _
  simp only [if_neg hlong]
  obtain ⟨v, h1, h2⟩ := repeat_both (s := s) (n := n) (by omega)
  refine Ev.bind h1 ?_
  simp only [h2, Option.bind_some, if_true, bne_self_eq_false, Bool.false_eq_true, if_false]
  exact Ev.now _
end Go.Proofs.YtkhkmdddflaolaaDoor.Pure
