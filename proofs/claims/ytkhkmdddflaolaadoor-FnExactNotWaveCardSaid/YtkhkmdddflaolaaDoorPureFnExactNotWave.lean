/- The program's NotWave returns what the reference's returns, for all texts; no condition. -/
import Derived.Test.YtkhkmdddflaolaaDoorP9
import Derived.Test.YtkhkmdddflaolaaDoorP10
import Derived.Test.YtkhkmdddflaolaaDoorP12
import Derived.Test.YtkhkmdddflaolaaDoorExtNot
import Derived.Test.YtkhkmdddflaolaaDoorWave
namespace Go.Proofs.YtkhkmdddflaolaaDoor.Pure
open Go.RowKit Go.Proofs.YtkhkmdddflaolaaDoorW.PrintWords Go.Proofs.YtkhkmdddflaolaaDoorW.PrintLast Go.Proofs.YtkhkmdddflaolaaDoorW.PrintMore
open Go.Proofs.YtkhkmdddflaolaaDoor.P

theorem level_of {s : ByteArray} (h : waveOk s = true) (i : Nat) (hi : i < s.size) : bt s (i : Int) = 48 ∨ bt s (i : Int) = 49 := by
  unfold waveOk at h
  rw [Bool.and_eq_true, List.all_eq_true] at h
  have := h.2 _ (List.getElem_mem (l := bs s) (n := i) (by rw [bs_len]; exact hi))
  rw [bt_nat s i hi]
  unfold isLevel at this
  rw [Bool.or_eq_true, beq_iff_eq, beq_iff_eq] at this
  omega
theorem wave_size {s : ByteArray} (h : waveOk s = true) : s.size ≤ 400 := by
  unfold waveOk at h
  rw [Bool.and_eq_true, decide_eq_true_eq] at h
  exact h.1
theorem not_loop (s : ByteArray) (hw : waveOk s = true) (d : Nat) : ∀ i : Nat, i + d = s.size →
    Ev (fun k => spec_l01Not.l0 k s (levels (notBit s) i) (i : Int)) (waveStr (notBit s) s.size) := by
  have hs := wave_size hw
  induction d with
  | zero =>
    intro i hi
    refine Ev.succ ?_
    obtain rfl : i = s.size := by omega
    simp only [spec_l01Not.l0, Int.lt_irrefl, if_false]
    exact Ev.now _
  | succ d ih =>
    intro i hi
    refine Ev.succ ?_
    have hlt : (i : Int) < (s.size : Int) := by omega
    have e0 : wrap64 ((i : Int) + 1) = ((i + 1 : Nat) : Int) := by rw [w64 (by omega) (by omega)]; omega
    have hl : (levels (notBit s) i).length < 140737488355328 := by rw [levels_length]; omega
    have hb : (97 - bt s (i : Int)) % 256 = if notBit s i = true then 49 else 48 := by
      unfold notBit
      rcases level_of hw i (by omega) with h | h <;> rw [h] <;> rfl
    simp only [spec_l01Not.l0, if_pos hlt, if_pos (show (0 : Int) ≤ (i : Int) by omega), if_pos hl, e0, hb]
    exact ih (i + 1) (by omega)

theorem not_both {s : ByteArray} (hs : s.size ≤ 1048576) : ∃ v, Ev (fun k => spec_NotWave.f k s) v ∧ impl_NotWave.f s = some v := by
  unfold spec_NotWave.f impl_NotWave.f
  simp only [isWave_form (show s.size ≤ 9223372036854775807 by omega), Option.bind_some]
  by_cases hw : waveOk s = true
  · have h4 := wave_size hw
    refine ⟨(waveStr (notBit s) s.size, true), Ev.bind (specWave_ev (by omega)) ?_, ?_⟩
    · simp only [hw, if_true]
      exact Ev.bind (a := waveStr (notBit s) s.size) (not_loop s hw s.size 0 (by omega)) (Ev.now _)
    · simp only [hw, if_true, if_pos (show s.size ≤ 1000000 by omega)]
  · refine ⟨(⟨#[]⟩, false), Ev.bind (specWave_ev (by omega)) ?_, ?_⟩
    · simp only [hw, Bool.false_eq_true, if_false]; exact Ev.now _
    · simp only [hw, Bool.false_eq_true, if_false]
theorem FnExactNotWave : laws_FnExactNotWave.Pure := by
  intro s hs
  apply Ev.rounds
  unfold laws_FnExactNotWave.f
  by_cases hlong : (s.size : Int) > 1048576
  · simp only [if_pos hlong]; exact Ev.now _
  simp only [if_neg hlong]
  obtain ⟨v, h1, h2⟩ := not_both (s := s) (by omega)
  refine Ev.bind h1 ?_
  simp only [h2, Option.bind_some, if_true, bne_self_eq_false, Bool.false_eq_true, if_false]
  exact Ev.now _
end Go.Proofs.YtkhkmdddflaolaaDoor.Pure
