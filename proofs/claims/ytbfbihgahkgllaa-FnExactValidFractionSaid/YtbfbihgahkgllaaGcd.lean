/- The greatest common divisor: the program's loop, for all numbers, and the reference's, for numbers that are not negative, end and give the same; the numbers are of 64 bits. -/
import Derived.Test.YtbfbihgahkgllaaP2
import Derived.Test.YtbfbihgahkgllaaP3
import Derived.Test.YtbfbihgahkgllaaForms
namespace Go.Proofs.Ytbfbihgahkgllaa.P
open Go.RowKit Go.Proofs.YtbfbihgahkgllaaW.PrintWords Go.Proofs.YtbfbihgahkgllaaW.PrintLast Go.Proofs.YtbfbihgahkgllaaW.PrintMore

theorem tmod_lt {a b : Int} (hb : b ≠ 0) : (Int.tmod a b).natAbs < b.natAbs := by
  rw [Int.natAbs_tmod]; exact Nat.mod_lt _ (by omega)
/-- What both loops come to: the signs are dropped at the end. -/
theorem implGcd (n : Nat) : ∀ (a b : Int), b.natAbs ≤ n → -9223372036854775808 < a → a ≤ 9223372036854775807 → -9223372036854775808 < b → b ≤ 9223372036854775807 →
    Ev (fun k => impl_gcd.l0 k a b) (Int.gcd a b : Int) := by
  induction n with
  | zero =>
    intro a b hn ha0 ha hb0 hb
    refine Ev.succ ?_
    have hb : b = 0 := by omega
    subst hb
    simp only [impl_gcd.l0, if_true]
    refine Ev.const ?_
    rw [w64 (by omega) (by omega)]
    unfold mx
    congr 1
    simp only [Int.gcd_zero_right]
    split <;> omega
  | succ n ih =>
    intro a b hn ha0 ha hb0 hb
    refine Ev.succ ?_
    by_cases hz : b = 0
    · subst hz
      simp only [impl_gcd.l0, if_true]
      refine Ev.const ?_
      rw [w64 (by omega) (by omega)]
      unfold mx
      congr 1
      simp only [Int.gcd_zero_right]
      split <;> omega
    · simp only [impl_gcd.l0, hz, if_false]
      have h1 := tmod_lt (a := a) hz
      have e : Int.gcd b (Int.tmod a b) = Int.gcd a b := by
        unfold Int.gcd
        rw [Int.natAbs_tmod, Nat.gcd_comm a.natAbs, Nat.gcd_rec b.natAbs a.natAbs, Nat.gcd_comm]
      exact Ev.eq (ih b (Int.tmod a b) (by omega) hb0 hb (by omega) (by omega)) (by rw [e])
theorem specGcd (n : Nat) : ∀ (a b : Int), b.natAbs ≤ n → 0 ≤ a → 0 ≤ b →
    Ev (fun k => spec_l01Gcd.l0 k a b) (Int.gcd a b : Int) := by
  induction n with
  | zero =>
    intro a b hn ha hb
    refine Ev.succ ?_
    have hb : b = 0 := by omega
    subst hb
    simp only [spec_l01Gcd.l0, gt_iff_lt, Int.lt_irrefl, if_false]
    refine Ev.const ?_
    congr 1
    simp only [Int.gcd_zero_right]
    omega
  | succ n ih =>
    intro a b hn ha hb
    refine Ev.succ ?_
    by_cases hz : b = 0
    · subst hz
      simp only [spec_l01Gcd.l0, gt_iff_lt, Int.lt_irrefl, if_false]
      refine Ev.const ?_
      congr 1
      simp only [Int.gcd_zero_right]
      omega
    · have hp : b > 0 := by omega
      simp only [spec_l01Gcd.l0, hz, hp, if_true, if_false]
      have h1 := tmod_lt (a := a) hz
      have h2 := Int.tmod_nonneg b ha
      have e : Int.gcd b (Int.tmod a b) = Int.gcd a b := by
        unfold Int.gcd
        rw [Int.natAbs_tmod, Nat.gcd_comm a.natAbs, Nat.gcd_rec b.natAbs a.natAbs, Nat.gcd_comm]
      exact Ev.eq (ih b (Int.tmod a b) (by omega) (by omega) (by omega)) (by rw [e])
theorem gcd_ev {a b : Int} (ha0 : -9223372036854775808 < a) (ha : a ≤ 9223372036854775807) (hb0 : -9223372036854775808 < b) (hb : b ≤ 9223372036854775807) :
    Ev (fun k => impl_gcd.f k a b) (Int.gcd a b : Int) := implGcd b.natAbs a b (Nat.le_refl _) ha0 ha hb0 hb
theorem specGcd_ev {a b : Int} (ha : 0 ≤ a) (hb : 0 ≤ b) : Ev (fun k => spec_l01Gcd.f k a b) (Int.gcd a b : Int) := specGcd b.natAbs a b (Nat.le_refl _) ha hb
end Go.Proofs.Ytbfbihgahkgllaa.P
