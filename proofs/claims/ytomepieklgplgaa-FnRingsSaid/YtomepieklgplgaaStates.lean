/- When a number is a state of so many bits, as the program and as the reference ask it; no condition. -/
import Derived.Test.YtomepieklgplgaaP1
import Derived.Test.YtomepieklgplgaaP2
import Derived.Test.YtomepieklgplgaaForms
import Derived.Test.YtomepieklgplgaaBase
namespace Go.Proofs.Ytomepieklgplgaa.P
open Go.RowKit Go.Proofs.YtomepieklgplgaaW.PrintWords Go.Proofs.YtomepieklgplgaaW.PrintLast Go.Proofs.YtomepieklgplgaaW.PrintMore

/-- x is a state of so many bits. -/
def isSt (bits x : Int) : Prop := (1 ≤ bits ∧ bits ≤ 8) ∧ 0 ≤ x ∧ x < 2 ^ bits.toNat
instance (b x : Int) : Decidable (isSt b x) := by unfold isSt; infer_instance
theorem pow_256 {b : Int} (h : 1 ≤ b ∧ b ≤ 8) : (2 : Int) ≤ 2 ^ b.toNat ∧ (2 : Int) ^ b.toNat ≤ 256 := by
  obtain ⟨n, rfl⟩ := Int.eq_ofNat_of_zero_le (by omega : 0 ≤ b)
  have : n = 1 ∨ n = 2 ∨ n = 3 ∨ n = 4 ∨ n = 5 ∨ n = 6 ∨ n = 7 ∨ n = 8 := by omega
  rcases this with rfl | rfl | rfl | rfl | rfl | rfl | rfl | rfl <;> decide
theorem shlU {n : Int} (h0 : 0 ≤ n) (h1 : n ≤ 62) : shl .i64 1 (IntKind.u64.wrap n) = 2 ^ n.toNat := by
  rw [wu64 h0 (by omega)]; exact shl1 h0 h1
theorem wu64_nonneg (x : Int) : 0 ≤ IntKind.u64.wrap x := by
  simp [IntKind.wrap, IntKind.bits, IntKind.signed]; omega
theorem size_form {b : Int} (h : 0 ≤ b ∧ b ≤ 62) : spec_l02Size.f b = some (2 ^ b.toNat) := by
  unfold spec_l02Size.f
  rw [if_pos (wu64_nonneg b), shlU h.1 h.2]
theorem isBits_form (b : Int) : impl_isBits.f b = some (decide (1 ≤ b ∧ b ≤ 8)) := by
  unfold impl_isBits.f
  simp only [within_form, Option.bind_some]
theorem isStateOf_form (b x : Int) : impl_isStateOf.f b x = some (decide (isSt b x)) := by
  unfold impl_isStateOf.f
  simp only [isBits_form, within_form, Option.bind_some]
  by_cases h : 1 ≤ b ∧ b ≤ 8
  · have hp := pow_256 h
    rw [if_pos (by simp [h]), if_pos (by omega), shl1 (by omega) (by omega)]
    rw [w64 (by omega) (by omega)]
    exact congrArg some (decide_eq_decide.mpr (by unfold isSt; omega))
  · rw [if_neg (by simpa using h)]
    exact congrArg some (decide_eq_false (fun z => h z.1)).symm
end Go.Proofs.Ytomepieklgplgaa.P
