/- The program's BinaryCounter returns what the reference's returns, for all arguments; no condition. -/
import Derived.Test.YtomepieklgplgaaP1
import Derived.Test.YtomepieklgplgaaP4
import Derived.Test.YtomepieklgplgaaExtBinary
import Derived.Test.YtomepieklgplgaaMapN
import Derived.Test.YtomepieklgplgaaMarks
namespace Go.Proofs.Ytomepieklgplgaa.Pure
open Go.RowKit Go.Proofs.YtomepieklgplgaaW.PrintWords Go.Proofs.YtomepieklgplgaaW.PrintLast Go.Proofs.YtomepieklgplgaaW.PrintMore
open Go.Proofs.Ytomepieklgplgaa.P

theorem bin_loop (n : Int) (M N : Nat) (hM : M ≤ N) (hN : N ≤ 256) (d : Nat) : ∀ (i : Nat) (L : List Int), i + 1 + d = M → L.length = N → (∀ j, j < N → L[j]? = some (if j < i then (j : Int) + 1 else 0)) →
    Ev (fun k => spec_BinaryCounter.l0 k (M : Int) (i : Int) n L) (n, mapN (binF (M : Int)) N, true) := by
  induction d with
  | zero =>
    intro i L hi hL hg
    refine Ev.succ ?_
    have e1 : wrap64 ((i : Int) + 1) = (i : Int) + 1 := w64 (by omega) (by omega)
    simp only [spec_BinaryCounter.l0, e1, if_neg (show ¬ (i : Int) + 1 < (M : Int) by omega)]
    rw [mapN_eq (f := binF (M : Int)) hL (fun j hj => by
      rw [hg j hj, binF]
      congr 1
      by_cases h : j < i
      · rw [if_pos h, if_pos (by omega)]
      · rw [if_neg h, if_neg (by omega)])]
    exact Ev.now _
  | succ d ih =>
    intro i L hi hL hg
    refine Ev.succ ?_
    have e1 : wrap64 ((i : Int) + 1) = ((i + 1 : Nat) : Int) := by rw [w64 (by omega) (by omega)]; omega
    simp only [spec_BinaryCounter.l0, e1, if_pos (show ((i + 1 : Nat) : Int) < (M : Int) by omega), if_pos (show (0 : Int) ≤ (i : Int) by omega), if_pos (show (i : Int) < (L.length : Int) by omega), Int.toNat_natCast]
    refine ih (i + 1) _ (by omega) (by rw [List.length_set]; exact hL) (fun j hj => ?_)
    rw [getElem?_set' L i _ j (by omega)]
    by_cases h : j = i
    · rw [if_pos h, if_pos (by omega), h]; congr 1
    · rw [if_neg h, hg j hj]
      by_cases h2 : j < i
      · rw [if_pos h2, if_pos (by omega)]
      · rw [if_neg h2, if_neg (by omega)]
theorem binary_both (n m : Int) : ∃ b l q, l.length ≤ 256 ∧ Ev (fun k => spec_BinaryCounter.f k n m) (b, l, q) ∧ impl_BinaryCounter.f n m = some (b, l, q) := by
  unfold spec_BinaryCounter.f impl_BinaryCounter.f spec_l02Bits.f
  simp only [in_form, Option.bind_some]
  by_cases h1 : 1 ≤ n ∧ n ≤ 8
  · have hp := pow_256 h1
    obtain ⟨N, hN⟩ : ∃ N : Nat, N = 2 ^ n.toNat := ⟨_, rfl⟩
    have hNI : (2 : Int) ^ n.toNat = (N : Int) := by rw [hN]; exact_mod_cast rfl
    have hN8 : N ≤ 256 := by omega
    simp only [h1, and_self, decide_true, if_true, size_form (show 0 ≤ n ∧ n ≤ 62 by omega), Option.bind_some]
    by_cases h2 : 1 ≤ m ∧ m ≤ 2 ^ n.toNat
    · obtain ⟨M, rfl⟩ := Int.eq_ofNat_of_zero_le (show 0 ≤ m by omega)
      have hM : M ≤ N := by omega
      refine ⟨n, mapN (binF (M : Int)) N, true, by rw [mapN_length]; exact hN8, ?_, by rw [if_pos ⟨h1, h2⟩, ← hN]⟩
      simp only [h2, and_self, decide_true, Bool.not_true]
      refine Ev.succ ?_
      simp only [spec_BinaryCounter.j0, Bool.false_eq_true, if_false, size_form (show 0 ≤ n ∧ n ≤ 62 by omega), Option.bind_some, hNI, Int.toNat_natCast, if_pos (show (0 : Int) ≤ (N : Int) by omega), if_pos (show N ≤ 35184372088832 by omega)]
      exact bin_loop n M N hM hN8 (M - 1) 0 _ (by omega) (by simp) (fun j hj => by simp [hj])
    · refine ⟨0, [], false, by simp, ?_, by rw [if_neg (fun z => h2 z.2)]⟩
      simp only [h2, decide_false, Bool.not_false]
      refine Ev.succ ?_
      simp only [spec_BinaryCounter.j0, if_true]
      exact Ev.now _
  · refine ⟨0, [], false, by simp, ?_, by rw [if_neg (fun z => h1 z.1)]⟩
    simp only [h1, decide_false, Bool.false_eq_true, if_false]
    refine Ev.succ ?_
    simp only [spec_BinaryCounter.j0, if_true]
    exact Ev.now _
theorem FnExactBinaryCounter : laws_FnExactBinaryCounter.Pure := by
  intro n m _ _
  apply Ev.rounds
  unfold laws_FnExactBinaryCounter.f
  obtain ⟨b, l, q, hl, h1, h2⟩ := binary_both n m
  refine Ev.bind h1 ?_
  simp only [h2, Option.bind_some]
  refine Ev.bind (eqCounter_ev b l (by omega)) ?_
  simp only [if_true, bne_self_eq_false]
  refine Ev.succ ?_
  simp only [laws_FnExactBinaryCounter.j0, Bool.false_eq_true, if_false, h2, Option.bind_some]
  refine Ev.bind (markC_ev b (by omega)) (Ev.bind (heldC_ev b (by omega)) ?_)
  simp only [if_neg (show ¬ (1 + (l.length : Int)) < 0 by omega), if_true]
  refine Ev.bind (eqCounter_ev b l (by omega)) ?_
  simp only [if_true, bne_self_eq_false]
  refine Ev.succ ?_
  simp only [laws_FnExactBinaryCounter.j1, Bool.false_eq_true, if_false]
  refine Ev.bind (heldC_ev b (by omega)) ?_
  simp only [if_neg (show ¬ (1 + (l.length : Int)) < 0 by omega), if_true]
  exact Ev.now _
end Go.Proofs.Ytomepieklgplgaa.Pure
