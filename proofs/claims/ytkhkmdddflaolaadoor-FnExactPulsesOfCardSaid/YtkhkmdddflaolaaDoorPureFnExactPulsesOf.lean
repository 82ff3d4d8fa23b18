/- The program's PulsesOf returns what the reference's returns, for all arguments; no condition. -/
import Derived.Test.YtkhkmdddflaolaaDoorP44
import Derived.Test.YtkhkmdddflaolaaDoorP45
import Derived.Test.YtkhkmdddflaolaaDoorP48
import Derived.Test.YtkhkmdddflaolaaDoorP49
import Derived.Test.YtkhkmdddflaolaaDoorRuns
import Derived.Test.YtkhkmdddflaolaaDoorLists
namespace Go.Proofs.YtkhkmdddflaolaaDoor.Pure
open Go.RowKit Go.Proofs.YtkhkmdddflaolaaDoorW.PrintWords Go.Proofs.YtkhkmdddflaolaaDoorW.PrintLast Go.Proofs.YtkhkmdddflaolaaDoorW.PrintMore
open Go.Proofs.YtkhkmdddflaolaaDoor.P

theorem wave_size {s : ByteArray} (h : waveOk s = true) : s.size ≤ 400 := by
  unfold waveOk at h
  rw [Bool.and_eq_true, decide_eq_true_eq] at h
  exact h.1
theorem set_last (l : List Int) (c v : Int) : (l ++ [c]).set l.length v = l ++ [v] := by simp
theorem rd_last (l : List Int) (c : Int) : rd (l ++ [c]) (l.length : Int) = c := by
  rw [show rd (l ++ [c]) (l.length : Int) = (l ++ [c]).getD l.length 0 by simp [rd]]
  simp [List.getD_eq_getElem?_getD]
/-- What stands before place i: c bytes of a run. -/
def tailRun (s : ByteArray) (i c : Nat) : Prop := if c = 0 then (i = 0 ∨ (0 < i ∧ bt s ((i - 1 : Nat) : Int) = 48)) else (0 < i ∧ ¬ bt s ((i - 1 : Nat) : Int) = 48)
theorem pulses_loop (s : ByteArray) (hs : s.size ≤ 400) (d : Nat) : ∀ (i c : Nat) (done : List Int), i + d = s.size → done.length + c + d ≤ 1000 → tailRun s i c →
    Ev (fun k => spec_l01Pulses.l0 k s (done ++ (if 0 < c then [(c : Int)] else [])) (i : Int)) (done ++ runsL 48 c ((bs s).drop i)) := by
  induction d with
  | zero =>
    intro i c done hi hd ht
    refine Ev.succ ?_
    rw [List.drop_eq_nil_of_le (by rw [bs_len]; omega)]
    simp only [spec_l01Pulses.l0, if_neg (show ¬ (i : Int) < (s.size : Int) by omega)]
    exact Ev.const (by simp [runsL])
  | succ d ih =>
    intro i c done hi hd ht
    refine Ev.succ ?_
    have hlt : i < s.size := by omega
    have e1 : wrap64 ((i : Int) + 1) = ((i + 1 : Nat) : Int) := by rw [w64 (by omega) (by omega)]; omega
    have hb := bt_nat s i hlt
    rw [List.drop_eq_getElem_cons (l := bs s) (i := i) (by rw [bs_len]; exact hlt)]
    generalize hx : (bs s)[i]'(by rw [bs_len]; exact hlt) = x at hb ⊢
    have t1 : (i : Int) < (s.size : Int) := by omega
    have t2 : (0 : Int) ≤ (i : Int) := by omega
    by_cases h0 : bt s (i : Int) = 48
    · have hx8 : x = 48 := UInt8.toNat_inj.mp (show x.toNat = 48 by omega)
      simp only [spec_l01Pulses.l0, if_pos t1, if_pos t2, if_pos h0, e1]
      have h := ih (i + 1) 0 (done ++ (if 0 < c then [(c : Int)] else [])) (by omega) (by rw [List.length_append]; split <;> simp <;> omega) (by unfold tailRun; rw [if_pos rfl]; exact .inr ⟨by omega, by simpa using h0⟩)
      rw [if_neg (Nat.lt_irrefl 0), List.append_nil, List.append_assoc] at h
      rw [runsL, if_pos hx8]
      exact h
    · have hx8 : ¬ x = 48 := fun h => h0 (by rw [hb, h]; rfl)
      have hnext : tailRun s (i + 1) (c + 1) := by unfold tailRun; rw [if_neg (by omega)]; exact ⟨by omega, by simpa using h0⟩
      have h := ih (i + 1) (c + 1) done (by omega) (by omega) hnext
      rw [if_pos (Nat.succ_pos c)] at h
      rw [runsL, if_neg hx8]
      have one : ∀ v : Int, v = (c : Int) → (done ++ [v]).set (wrap64 (((done ++ [v]).length : Int) - 1)).toNat (wrap64 (rd (done ++ [v]) (wrap64 (((done ++ [v]).length : Int) - 1)) + 1)) = done ++ [((c + 1 : Nat) : Int)] ∧ 0 ≤ wrap64 (((done ++ [v]).length : Int) - 1) ∧ wrap64 (((done ++ [v]).length : Int) - 1) < ((done ++ [v]).length : Int) := by
        intro v hv
        have el : wrap64 (((done ++ [v]).length : Int) - 1) = (done.length : Int) := by rw [List.length_append, List.length_singleton, w64 (by omega) (by omega)]; omega
        rw [el, rd_last, hv, w64 (by omega) (by omega), Int.toNat_natCast, set_last]
        refine ⟨by rw [show (c : Int) + 1 = ((c + 1 : Nat) : Int) by omega], by omega, by rw [List.length_append, List.length_singleton]; omega⟩
      by_cases hi0 : i = 0
      · have hc : c = 0 := by
          by_cases hc : c = 0
          · exact hc
          · unfold tailRun at ht; rw [if_neg hc] at ht; omega
        subst hc
        obtain ⟨o1, o2, o3⟩ := one 0 rfl
        simp only [spec_l01Pulses.l0, if_pos t1, if_pos t2, if_neg h0, if_pos (show (i : Int) = 0 by omega), if_neg (Nat.lt_irrefl 0), List.append_nil, if_pos (show done.length < 17592186044416 by omega), Option.bind_some, if_pos o2, if_pos o3, o1, e1]
        exact h
      · have e2 : wrap64 ((i : Int) - 1) = ((i - 1 : Nat) : Int) := by rw [w64 (by omega) (by omega)]; omega
        by_cases hc : c = 0
        · subst hc
          unfold tailRun at ht
          rw [if_pos rfl] at ht
          have h48 : bt s ((i - 1 : Nat) : Int) = 48 := by rcases ht with h | h; exact absurd h hi0; exact h.2
          obtain ⟨o1, o2, o3⟩ := one 0 rfl
          simp only [spec_l01Pulses.l0, if_pos t1, if_pos t2, if_neg h0, if_neg (show ¬ (i : Int) = 0 by omega), e2, if_pos (show (0 : Int) ≤ ((i - 1 : Nat) : Int) by omega), if_pos (show ((i - 1 : Nat) : Int) < (s.size : Int) by omega), if_pos h48, if_neg (Nat.lt_irrefl 0), List.append_nil, if_pos (show done.length < 17592186044416 by omega), Option.bind_some, if_pos o2, if_pos o3, o1, e1]
          exact h
        · have ht' := ht
          unfold tailRun at ht'
          rw [if_neg hc] at ht'
          obtain ⟨o1, o2, o3⟩ := one (c : Int) rfl
          simp only [spec_l01Pulses.l0, if_pos t1, if_pos t2, if_neg h0, if_neg (show ¬ (i : Int) = 0 by omega), e2, if_pos (show (0 : Int) ≤ ((i - 1 : Nat) : Int) by omega), if_pos (show ((i - 1 : Nat) : Int) < (s.size : Int) by omega), if_neg ht'.2, if_pos (show 0 < c by omega), if_pos o2, if_pos o3, o1, e1]
          exact h
theorem pulses_both {s : ByteArray} (hs : s.size ≤ 1048576) : ∃ l q, l.length < 1152921504606846 ∧ Ev (fun k => spec_PulsesOf.f k s) (l, q) ∧ Ev (fun k => impl_PulsesOf.f k s) (l, q) := by
  unfold spec_PulsesOf.f impl_PulsesOf.f
  simp only [isWave_form (show s.size ≤ 9223372036854775807 by omega), Option.bind_some]
  by_cases hw : waveOk s = true
  · have hl := runsL_length 48 (bs s) 0
    rw [bs_len] at hl
    have h4 := wave_size hw
    have hp := pulses_loop s h4 s.size 0 0 [] (by omega) (by rw [List.length_nil]; omega) (by unfold tailRun; rw [if_pos rfl]; exact .inl rfl)
    rw [List.nil_append, if_neg (Nat.lt_irrefl 0), List.nil_append, List.drop_zero] at hp
    refine ⟨runsL 48 0 (bs s), true, by omega, Ev.bind (specWave_ev (by omega)) ?_, ?_⟩
    · simp only [hw, if_true]; exact Ev.bind (a := runsL 48 0 (bs s)) hp (Ev.now _)
    · simp only [hw, if_true]; exact Ev.bind (lengthsOf_ev hs 48) (Ev.now _)
  · refine ⟨[], false, by simp, Ev.bind (specWave_ev (by omega)) ?_, ?_⟩
    · simp only [hw, Bool.false_eq_true, if_false]; exact Ev.now _
    · simp only [hw, Bool.false_eq_true, if_false]; exact Ev.now _

theorem FnExactPulsesOf : laws_FnExactPulsesOf.Pure := by
  intro s hs
  apply Ev.rounds
  unfold laws_FnExactPulsesOf.f
  by_cases hlong : (s.size : Int) > 1048576
  · simp only [if_pos hlong]; exact Ev.now _
  simp only [if_neg hlong]
  obtain ⟨l, q, hl, h1, h2⟩ := pulses_both (s := s) (by omega)
  refine Ev.bind h1 (Ev.bind h2 (Ev.bind (eqS_ev (l := l) (by omega)) ?_))
  simp only [if_true, bne_self_eq_false]
  refine Ev.succ ?_
  simp only [laws_FnExactPulsesOf.j0, Bool.false_eq_true, if_false]
  refine Ev.bind (mark_ev (by omega) (by omega)) (Ev.bind (held_ev (by omega) (by omega)) ?_)
  simp only [if_neg (show ¬ (1 + (l.length : Int)) < 0 by omega), if_true]
  refine Ev.bind h2 (Ev.bind (eqS_ev (l := l) (by omega)) ?_)
  simp only [if_true, bne_self_eq_false]
  refine Ev.succ ?_
  simp only [laws_FnExactPulsesOf.j1, Bool.false_eq_true, if_false]
  refine Ev.bind (held_ev (by omega) (by omega)) ?_
  simp only [if_neg (show ¬ (1 + (l.length : Int)) < 0 by omega), if_true]
  exact Ev.now _
end Go.Proofs.YtkhkmdddflaolaaDoor.Pure
