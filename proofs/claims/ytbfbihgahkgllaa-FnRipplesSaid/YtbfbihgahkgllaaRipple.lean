/- The states of a ripple: the program's loop and the reference's come to the same list, told in numbers. The bits are at most 8. -/
import Derived.Test.YtbfbihgahkgllaaP4
import Derived.Test.YtbfbihgahkgllaaP6
import Derived.Test.YtbfbihgahkgllaaStates
namespace Go.Proofs.Ytbfbihgahkgllaa.P
open Go.RowKit Go.Proofs.YtbfbihgahkgllaaW.PrintWords Go.Proofs.YtbfbihgahkgllaaW.PrintLast Go.Proofs.YtbfbihgahkgllaaW.PrintMore

/-- From place i on, d places: the states through which a ripple goes from x. -/
def ripN : Nat → Nat → Nat → List Nat
  | 0, _, _ => []
  | d + 1, x, i => if (x ^^^ 2 ^ i) / 2 ^ i % 2 = 1 then [x ^^^ 2 ^ i] else (x ^^^ 2 ^ i) :: ripN d (x ^^^ 2 ^ i) (i + 1)
def rip (d x i : Nat) : List Int := (ripN d x i).map (fun n : Nat => (n : Int))
theorem ripN_length (d : Nat) : ∀ x i, (ripN d x i).length ≤ d := by
  induction d with
  | zero => intro x i; simp [ripN]
  | succ d ih =>
    intro x i
    simp only [ripN]
    split
    · simp
    · simp only [List.length_cons]
      have := ih (x ^^^ 2 ^ i) (i + 1)
      omega
theorem rip_length (d x i : Nat) : (rip d x i).length ≤ d := by
  unfold rip; rw [List.length_map]; exact ripN_length d x i
theorem rip_pos (d x i : Nat) : 1 ≤ (rip (d + 1) x i).length := by
  unfold rip; rw [List.length_map]
  simp only [ripN]
  split <;> simp
theorem rip_step (d x i : Nat) : rip (d + 1) x i = if (x ^^^ 2 ^ i) / 2 ^ i % 2 = 1 then [((x ^^^ 2 ^ i : Nat) : Int)] else ((x ^^^ 2 ^ i : Nat) : Int) :: rip d (x ^^^ 2 ^ i) (i + 1) := by
  unfold rip
  simp only [ripN]
  split <;> rfl
theorem pow_cast (i : Nat) : (2 : Int) ^ i = ((2 ^ i : Nat) : Int) := by simp
theorem and_one (y i : Nat) (hy : y < 4611686018427387904) : (Go.bits .and .i64 ((y : Int) / 2 ^ i) 1 = 1) ↔ y / 2 ^ i % 2 = 1 := by
  have e : ((y : Int) / 2 ^ i) = ((y / 2 ^ i : Nat) : Int) := by rw [pow_cast]; exact (Int.natCast_ediv _ _).symm
  have hle := Nat.div_le_self y (2 ^ i)
  rw [e, show (1 : Int) = ((1 : Nat) : Int) from rfl, and_i64 _ 1 (by omega) (by decide), Nat.and_one_is_mod]
  omega
theorem ripple_loops (d : Nat) : ∀ (x i : Nat) (out : List Int), x < 4611686018427387904 → i + d ≤ 60 → out.length + d < 17592186044416 →
    Ev (fun k => impl_rippleStates.l0 k (x : Int) out ((i + d : Nat) : Int) (i : Int)) (out ++ rip d x i) ∧
    Ev (fun k => spec_l02Ripple.l0 k ((i + d : Nat) : Int) out (x : Int) (i : Int)) (out ++ rip d x i) := by
  induction d with
  | zero =>
    intro x i out hx hi ho
    refine ⟨Ev.succ ?_, Ev.succ ?_⟩
    · simp only [impl_rippleStates.l0, Nat.add_zero, Int.lt_irrefl, if_false]
      exact Ev.const (by simp [rip, ripN])
    · simp only [spec_l02Ripple.l0, Nat.add_zero, Int.lt_irrefl, if_false]
      exact Ev.const (by simp [rip, ripN])
  | succ d ih =>
    intro x i out hx hi ho
    have hpow : 2 ^ i < 4611686018427387904 := Nat.lt_of_lt_of_le (Nat.pow_lt_pow_right (by omega) (show i < 61 by omega)) (by decide)
    have hy : x ^^^ 2 ^ i < 4611686018427387904 := Nat.xor_lt_two_pow (n := 62) hx hpow
    have hk : i + 1 + d ≤ 60 := by clear hpow hy; omega
    have hol : (out ++ [((x ^^^ 2 ^ i : Nat) : Int)]).length + d < 17592186044416 := by rw [List.length_append, List.length_singleton]; omega
    have e1 : shl .i64 1 (i : Int) = ((2 ^ i : Nat) : Int) := by rw [shl1 (by omega) (by omega), Int.toNat_natCast, pow_cast]
    have e2 : IntKind.u64.wrap (i : Int) = (i : Int) := wu64 (by omega) (by omega)
    have e3 : Go.bits .xor .i64 (x : Int) ((2 ^ i : Nat) : Int) = ((x ^^^ 2 ^ i : Nat) : Int) := xor_i64 _ _ (by omega) (by omega)
    have e4 : shr .i64 ((x ^^^ 2 ^ i : Nat) : Int) (i : Int) = ((x ^^^ 2 ^ i : Nat) : Int) / 2 ^ i := by rw [shr_nat (by omega) (by omega), Int.toNat_natCast]
    have e5 := and_one (x ^^^ 2 ^ i) i (by omega)
    have hlt : (i : Int) < ((i + (d + 1) : Nat) : Int) := by omega
    have h0 : (0 : Int) ≤ (i : Int) := by omega
    have hl : out.length < 17592186044416 := by omega
    have e6 : wrap64 ((i : Int) + 1) = ((i + 1 : Nat) : Int) := by rw [w64 (by omega) (by omega)]; omega
    obtain ⟨ha, hb⟩ := ih (x ^^^ 2 ^ i) (i + 1) (out ++ [((x ^^^ 2 ^ i : Nat) : Int)]) hy hk hol
    have e7 : i + (d + 1) = i + 1 + d := by omega
    refine ⟨Ev.succ ?_, Ev.succ ?_⟩
    · simp only [impl_rippleStates.l0, if_pos hlt, if_pos h0, if_pos hl, e1, e3, e4, Option.bind_some, e6]
      by_cases hb1 : (x ^^^ 2 ^ i) / 2 ^ i % 2 = 1
      · simp only [if_pos (e5.mpr hb1)]
        exact Ev.const (by rw [rip_step, if_pos hb1])
      · simp only [if_neg (fun z => hb1 (e5.mp z))]
        rw [e7]
        refine Ev.eq ha ?_
        rw [rip_step, if_neg hb1]
        simp
    · simp only [spec_l02Ripple.l0, if_pos hlt, e2, if_pos h0, if_pos hl, e1, e3, e4, Option.bind_some, e6]
      by_cases hb1 : (x ^^^ 2 ^ i) / 2 ^ i % 2 = 1
      · simp only [if_pos (e5.mpr hb1)]
        exact Ev.const (by rw [rip_step, if_pos hb1])
      · simp only [if_neg (fun z => hb1 (e5.mp z))]
        rw [e7]
        refine Ev.eq hb ?_
        rw [rip_step, if_neg hb1]
        simp
theorem ripple_ev {b x : Nat} (hb : b ≤ 60) (hx : x < 4611686018427387904) : Ev (fun k => impl_rippleStates.f k (b : Int) (x : Int)) (rip b x 0) := by
  have := (ripple_loops b x 0 [] hx (by omega) (by simp; omega)).1
  rw [Nat.zero_add, List.nil_append] at this
  exact this
theorem specRipple_ev {b x : Nat} (hb : b ≤ 60) (hx : x < 4611686018427387904) : Ev (fun k => spec_l02Ripple.f k (b : Int) (x : Int)) (rip b x 0) := by
  have := (ripple_loops b x 0 [] hx (by omega) (by simp; omega)).2
  rw [Nat.zero_add, List.nil_append] at this
  exact this
end Go.Proofs.Ytbfbihgahkgllaa.P
