/- The program's ReflectedCounter returns what the reference's returns, for all arguments; no condition. -/
import Derived.Test.YtomepieklgplgaaP1
import Derived.Test.YtomepieklgplgaaP3
import Derived.Test.YtomepieklgplgaaP5
import Derived.Test.YtomepieklgplgaaExtReflected
import Derived.Test.YtomepieklgplgaaMapN
import Derived.Test.YtomepieklgplgaaMarks
namespace Go.Proofs.Ytomepieklgplgaa.Pure
open Go.RowKit Go.Proofs.YtomepieklgplgaaW.PrintWords Go.Proofs.YtomepieklgplgaaW.PrintLast Go.Proofs.YtomepieklgplgaaW.PrintMore
open Go.Proofs.Ytomepieklgplgaa.P

theorem gray_pow : ∀ b : Fin 9, ∀ x : Fin 256, x.val < 2 ^ b.val → grayC x.val < 2 ^ b.val ∧ grayD 8 x.val < 2 ^ b.val := by decide +kernel
theorem ref_loop (n : Int) (h1 : 1 ≤ n) (h8 : n ≤ 8) (N : Nat) (hN : N = 2 ^ n.toNat) (d : Nat) : ∀ (i : Nat) (L : List Int), i + d = N → L.length = N → (∀ j, j < N → grayD 8 j < i → L[j]? = some (refF n (j : Int))) →
    Ev (fun k => spec_ReflectedCounter.l0 k n (i : Int) n L) (n, mapN (refF n) N, true) := by
  have hp := pow_256 ⟨h1, h8⟩
  have hNI : (2 : Int) ^ n.toNat = (N : Int) := by rw [hN]; exact_mod_cast rfl
  have hN8 : 2 ≤ N ∧ N ≤ 256 := by omega
  have hb : n.toNat < 9 := by omega
  have gp : ∀ x, x < N → grayC x < N ∧ grayD 8 x < N := fun x hx => by
    have := gray_pow ⟨n.toNat, hb⟩ ⟨x, by omega⟩ (by rw [← hN]; exact hx)
    rw [← hN] at this
    exact this
  induction d with
  | zero =>
    intro i L hi hL hg
    refine Ev.succ ?_
    simp only [spec_ReflectedCounter.l0, size_form (show 0 ≤ n ∧ n ≤ 62 by omega), Option.bind_some, hNI, if_neg (show ¬ (i : Int) < (N : Int) by omega)]
    rw [mapN_eq (f := refF n) hL (fun j hj => hg j hj (by have := (gp j hj).2; omega))]
    exact Ev.now _
  | succ d ih =>
    intro i L hi hL hg
    refine Ev.succ ?_
    have e1 : wrap64 ((i : Int) + 1) = ((i + 1 : Nat) : Int) := by rw [w64 (by omega) (by omega)]; omega
    have e2 : Int.tmod ((i + 1 : Nat) : Int) (N : Int) = (((i + 1) % N : Nat) : Int) := by
      rw [Int.tmod_eq_emod_of_nonneg (by omega)]; exact (Int.natCast_emod _ _).symm
    have hq : (i + 1) % N < N := Nat.mod_lt _ (by omega)
    have hg1 := (gp i (by omega)).1
    simp only [spec_ReflectedCounter.l0, size_form (show 0 ≤ n ∧ n ≤ 62 by omega), Option.bind_some, hNI, if_pos (show (i : Int) < (N : Int) by omega), e1, code_form (show i < 4611686018427387904 by omega), if_neg (show ¬ (N : Int) = 0 by omega), e2, code_form (show (i + 1) % N < 4611686018427387904 by omega), if_pos (show (0 : Int) ≤ ((grayC i : Nat) : Int) by omega), if_pos (show ((grayC i : Nat) : Int) < (L.length : Int) by omega), Int.toNat_natCast]
    refine ih (i + 1) _ (by omega) (by rw [List.length_set]; exact hL) (fun j hj hd => ?_)
    rw [getElem?_set' L (grayC i) _ j (by omega)]
    by_cases h : j = grayC i
    · rw [if_pos h, h, refF, Int.toNat_natCast, grayD_C (by omega), hN]
    · rw [if_neg h]
      refine hg j hj ?_
      have hne : grayD 8 j ≠ i := fun z => h (by rw [← z, grayC_D (by omega)])
      omega
theorem reflected_both (n : Int) : ∃ b l q, l.length ≤ 256 ∧ Ev (fun k => spec_ReflectedCounter.f k n) (b, l, q) ∧ impl_ReflectedCounter.f n = some (b, l, q) := by
  unfold spec_ReflectedCounter.f impl_ReflectedCounter.f spec_l02Bits.f
  simp only [in_form, Option.bind_some]
  by_cases h1 : 1 ≤ n ∧ n ≤ 8
  · have hp := pow_256 h1
    obtain ⟨N, hN⟩ : ∃ N : Nat, N = 2 ^ n.toNat := ⟨_, rfl⟩
    have hNI : (2 : Int) ^ n.toNat = (N : Int) := by rw [hN]; exact_mod_cast rfl
    have hN8 : N ≤ 256 := by omega
    refine ⟨n, mapN (refF n) N, true, by rw [mapN_length]; exact hN8, ?_, by rw [if_pos h1, ← hN]⟩
    simp only [h1, and_self, decide_true, if_true, size_form (show 0 ≤ n ∧ n ≤ 62 by omega), Option.bind_some, hNI, Int.toNat_natCast, if_pos (show (0 : Int) ≤ (N : Int) by omega), if_pos (show N ≤ 35184372088832 by omega)]
    exact ref_loop n h1.1 h1.2 N hN N 0 _ (by omega) (by simp) (fun j hj hd => by omega)
  · refine ⟨0, [], false, by simp, ?_, by rw [if_neg h1]⟩
    simp only [h1, decide_false, Bool.false_eq_true, if_false]
    exact Ev.now _
theorem FnExactReflectedCounter : laws_FnExactReflectedCounter.Pure := by
  intro n _
  apply Ev.rounds
  unfold laws_FnExactReflectedCounter.f
  obtain ⟨b, l, q, hl, h1, h2⟩ := reflected_both n
  refine Ev.bind h1 ?_
  simp only [h2, Option.bind_some]
  refine Ev.bind (eqCounter_ev b l (by omega)) ?_
  simp only [if_true, bne_self_eq_false]
  refine Ev.succ ?_
  simp only [laws_FnExactReflectedCounter.j0, Bool.false_eq_true, if_false, h2, Option.bind_some]
  refine Ev.bind (markC_ev b (by omega)) (Ev.bind (heldC_ev b (by omega)) ?_)
  simp only [if_neg (show ¬ (1 + (l.length : Int)) < 0 by omega), if_true]
  refine Ev.bind (eqCounter_ev b l (by omega)) ?_
  simp only [if_true, bne_self_eq_false]
  refine Ev.succ ?_
  simp only [laws_FnExactReflectedCounter.j1, Bool.false_eq_true, if_false]
  refine Ev.bind (heldC_ev b (by omega)) ?_
  simp only [if_neg (show ¬ (1 + (l.length : Int)) < 0 by omega), if_true]
  exact Ev.now _
end Go.Proofs.Ytomepieklgplgaa.Pure
