/- The reflected code of the numbers below 256 and its inverse; no condition. -/
import Derived.Test.YtomepieklgplgaaP3
import Derived.Test.YtomepieklgplgaaP16
import Derived.Test.YtomepieklgplgaaStates
namespace Go.Proofs.Ytomepieklgplgaa.P
open Go.RowKit Go.Proofs.YtomepieklgplgaaW.PrintWords Go.Proofs.YtomepieklgplgaaW.PrintLast Go.Proofs.YtomepieklgplgaaW.PrintMore

/-- The sum without carries of a number, its half, the half of that, and so on: m of them. -/
def grayD : Nat → Nat → Nat
  | 0, _ => 0
  | m + 1, x => x ^^^ grayD m (x / 2)
def grayC (x : Nat) : Nat := x ^^^ x / 2
theorem grayD_zero (m : Nat) : grayD m 0 = 0 := by
  induction m with
  | zero => rfl
  | succ m ih => simp [grayD, ih]
set_option maxRecDepth 100000 in
theorem gray_table : ∀ x : Fin 256, grayD 8 x.val < 256 ∧ grayC (grayD 8 x.val) = x.val ∧ grayD 8 (grayC x.val) = x.val ∧ grayC x.val < 256 := by decide +kernel
theorem grayD_lt {x : Nat} (h : x < 256) : grayD 8 x < 256 := (gray_table ⟨x, h⟩).1
theorem grayC_D {x : Nat} (h : x < 256) : grayC (grayD 8 x) = x := (gray_table ⟨x, h⟩).2.1
theorem grayD_C {x : Nat} (h : x < 256) : grayD 8 (grayC x) = x := (gray_table ⟨x, h⟩).2.2.1
theorem grayC_lt {x : Nat} (h : x < 256) : grayC x < 256 := (gray_table ⟨x, h⟩).2.2.2

theorem code_form {x : Nat} (h : x < 4611686018427387904) : spec_l02Code.f (x : Int) = some ((grayC x : Nat) : Int) := by
  unfold spec_l02Code.f grayC
  have e : (x : Int) / 2 = ((x / 2 : Nat) : Int) := by omega
  rw [e, xor_i64 x (x / 2) (by omega) (by omega)]
theorem reflected_form {x : Nat} (h : x < 4611686018427387904) : impl_reflected.f (x : Int) = some ((grayC x : Nat) : Int) := by
  unfold impl_reflected.f grayC
  have e : wrap64 (Int.tdiv (x : Int) 2) = ((x / 2 : Nat) : Int) := by
    rw [Int.tdiv_eq_ediv_of_nonneg (by omega), w64 (by omega) (by omega)]; omega
  rw [e, xor_i64 x (x / 2) (by omega) (by omega)]

theorem fromRef_loop (m : Nat) : ∀ (x st : Nat), x < 2 ^ m → m ≤ 60 → st < 4611686018427387904 →
    Ev (fun k => impl_fromReflected.l0 k (x : Int) (st : Int)) ((st ^^^ grayD m x : Nat) : Int) := by
  induction m with
  | zero =>
    intro x st hx hm hst
    have hx : x = 0 := by simpa using hx
    subst hx
    refine Ev.succ ?_
    simp only [impl_fromReflected.l0]
    simp only [if_neg (show ¬ ((0 : Nat) : Int) > 0 by decide)]
    exact Ev.const (by simp [grayD])
  | succ m ih =>
    intro x st hx hm hst
    refine Ev.succ ?_
    by_cases h0 : x = 0
    · subst h0
      simp only [impl_fromReflected.l0]
      simp only [if_neg (show ¬ ((0 : Nat) : Int) > 0 by decide)]
      exact Ev.const (by rw [grayD_zero]; simp)
    · simp only [impl_fromReflected.l0]
      have hx62 : x < 2 ^ 61 := Nat.lt_of_lt_of_le hx (Nat.pow_le_pow_right (by omega) (by omega))
      have hp : (x : Int) > 0 := by omega
      have e : wrap64 (Int.tdiv (x : Int) 2) = ((x / 2 : Nat) : Int) := by
        rw [Int.tdiv_eq_ediv_of_nonneg (by omega), w64 (by omega) (by omega)]; omega
      simp only [if_pos hp, e, xor_i64 st x (by omega) (by omega)]
      have hxor : st ^^^ x < 2 ^ 62 := Nat.xor_lt_two_pow (by omega) (by omega)
      refine Ev.eq (ih (x / 2) (st ^^^ x) (by omega) (by omega) (by omega)) ?_
      rw [grayD, Nat.xor_assoc]
theorem fromReflected_ev {x : Nat} (h : x < 256) : Ev (fun k => impl_fromReflected.f k (x : Int)) ((grayD 8 x : Nat) : Int) := by
  refine Ev.eq (fromRef_loop 8 x 0 (by omega) (by omega) (by omega)) ?_
  rw [Nat.zero_xor]
end Go.Proofs.Ytomepieklgplgaa.P
