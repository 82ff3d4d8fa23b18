/- The program's JoinWaves returns what the reference's returns, for all arguments; no condition. -/
import Derived.Test.YtkhkmdddflaolaaDoorP20
import Derived.Test.YtkhkmdddflaolaaDoorP22
import Derived.Test.YtkhkmdddflaolaaDoorExtJoin
import Derived.Test.YtkhkmdddflaolaaDoorExtSpecJoin
import Derived.Test.YtkhkmdddflaolaaDoorWave
import Derived.Test.YtkhkmdddflaolaaDoorForms
namespace Go.Proofs.YtkhkmdddflaolaaDoor.Pure
open Go.RowKit Go.Proofs.YtkhkmdddflaolaaDoorW.PrintWords Go.Proofs.YtkhkmdddflaolaaDoorW.PrintLast Go.Proofs.YtkhkmdddflaolaaDoorW.PrintMore
open Go.Proofs.YtkhkmdddflaolaaDoor.P

theorem wave_size {s : ByteArray} (h : waveOk s = true) : s.size ≤ 400 := by
  unfold waveOk at h
  rw [Bool.and_eq_true, decide_eq_true_eq] at h
  exact h.1
theorem join_both {op : Int} {s t : ByteArray} (hs : s.size ≤ 1048576) (ht : t.size ≤ 1048576) : ∃ v, Ev (fun k => spec_JoinWaves.f k op s t) v ∧ impl_JoinWaves.f op s t = some v := by
  unfold spec_JoinWaves.f impl_JoinWaves.f
  simp only [isWave_form (show s.size ≤ 9223372036854775807 by omega), isWave_form (show t.size ≤ 9223372036854775807 by omega), in_form, Option.bind_some]
  by_cases h1 : 0 ≤ op ∧ op ≤ 3
  · simp only [h1, and_self, decide_true, if_true]
    by_cases hw : waveOk s = true
    · by_cases hu : waveOk t = true
      · by_cases hst : s.size = t.size
        · have h4 := wave_size hw
          refine ⟨(waveStr (joinBit op s t) s.size, true), Ev.bind (specWave_ev (by omega)) ?_, ?_⟩
          · simp only [hw, if_true]
            refine Ev.bind (specWave_ev (by omega)) ?_
            have hsp : spec_l01Join.f op s t = some (waveStr (joinBit op s t) s.size) := by unfold spec_l01Join.f; rw [if_pos ⟨hst, by omega, h1⟩]
            simp only [hu, if_true, if_pos (show (s.size : Int) = (t.size : Int) by omega), hsp, Option.bind_some]
            exact Ev.now _
          · simp only [hw, hu, if_true]; rw [if_pos ⟨hst, trivial⟩, if_pos (by omega)]
        · refine ⟨(⟨#[]⟩, false), Ev.bind (specWave_ev (by omega)) ?_, ?_⟩
          · simp only [hw, if_true]
            refine Ev.bind (specWave_ev (by omega)) ?_
            simp only [hu, if_true, if_neg (show ¬ (s.size : Int) = (t.size : Int) by omega)]
            exact Ev.now _
          · simp only [hw, hu, if_true, hst, false_and, if_false]
      · refine ⟨(⟨#[]⟩, false), Ev.bind (specWave_ev (by omega)) ?_, ?_⟩
        · simp only [hw, if_true]
          refine Ev.bind (specWave_ev (by omega)) ?_
          simp only [hu, Bool.false_eq_true, if_false]
          exact Ev.now _
        · simp only [hw, hu, if_true, Bool.false_eq_true, if_false]
    · refine ⟨(⟨#[]⟩, false), Ev.bind (specWave_ev (by omega)) ?_, ?_⟩
      · simp only [hw, Bool.false_eq_true, if_false]; exact Ev.now _
      · simp only [hw, Bool.false_eq_true, if_false]
  · simp only [h1, decide_false, Bool.false_eq_true, if_false]
    refine ⟨(⟨#[]⟩, false), Ev.now _, ?_⟩
    by_cases hw : waveOk s = true
    · by_cases hu : waveOk t = true
      · simp only [hw, hu, if_true, and_false, if_false]
      · simp only [hw, hu, if_true, Bool.false_eq_true, if_false]
    · simp only [hw, Bool.false_eq_true, if_false]
theorem FnExactJoinWaves : laws_FnExactJoinWaves.Pure := by
  intro op s t _ _ _
  apply Ev.rounds
  unfold laws_FnExactJoinWaves.f
  by_cases hlong : (s.size : Int) > 1048576
  · simp only [if_pos hlong]; exact Ev.now _
  by_cases hlong2 : (t.size : Int) > 1048576
  · simp only [if_neg hlong, if_pos hlong2]; exact Ev.now _
  simp only [if_neg hlong, if_neg hlong2]
  obtain ⟨v, h1, h2⟩ := join_both (op := op) (s := s) (t := t) (by omega) (by omega)
  refine Ev.bind h1 ?_
  simp only [h2, Option.bind_some, if_true, bne_self_eq_false, Bool.false_eq_true, if_false]
  exact Ev.now _
end Go.Proofs.YtkhkmdddflaolaaDoor.Pure
