/- A counter that is whole; the states that it runs through; no condition beyond lists of at most 1048576 numbers. -/
import Derived.Test.YtomepieklgplgaaP7
import Derived.Test.YtomepieklgplgaaExtValid
import Derived.Test.YtomepieklgplgaaBase
import Derived.Test.YtomepieklgplgaaStates
namespace Go.Proofs.Ytomepieklgplgaa.P
open Go.RowKit Go.Proofs.YtomepieklgplgaaW.PrintWords Go.Proofs.YtomepieklgplgaaW.PrintLast Go.Proofs.YtomepieklgplgaaW.PrintMore

/-- A counter of n bits, whole. -/
def okC (n : Int) (l : List Int) : Prop := (1 ≤ n ∧ n ≤ 8) ∧ (l.length : Int) = 2 ^ n.toNat ∧ ∀ x ∈ l, isSt n x
instance (n : Int) (l : List Int) : Decidable (okC n l) := by unfold okC; infer_instance
/-- The state after i steps. -/
def outX (l : List Int) (x : Int) : Nat → Int
  | 0 => x
  | i + 1 => rd l (outX l x i)
theorem okC_form (n : Int) (l : List Int) : impl_ValidCounter.f n l = some (decide (okC n l)) := by
  unfold impl_ValidCounter.f
  by_cases h1 : 1 ≤ n ∧ n ≤ 8
  · by_cases h2 : (l.length : Int) = 2 ^ n.toNat
    · have h3 : l.length = 2 ^ n.toNat := by exact_mod_cast h2
      rw [if_pos ⟨h1.1, h1.2, h3⟩]
      congr 1
      rw [Bool.eq_iff_iff, decide_eq_true_eq]
      simp only [Bool.not_eq_true', List.any_eq_false]
      exact ⟨fun h => ⟨h1, h2, fun x hx => by simpa [isStB] using h x hx⟩, fun h x hx => by simpa [isStB] using h.2.2 x hx⟩
    · have h3 : ¬ l.length = 2 ^ n.toNat := fun z => h2 (by exact_mod_cast z)
      rw [if_neg (fun z => h3 z.2.2), decide_eq_false (fun z => h2 z.2.1)]
  · rw [if_neg (fun z => h1 ⟨z.1, z.2.1⟩), decide_eq_false (fun z => h1 z.1)]
theorem isState_form (n : Int) (l : List Int) (x : Int) : impl_Counter_isState.f n l x = some (decide (okC n l ∧ isSt n x)) := by
  unfold impl_Counter_isState.f
  simp only [okC_form, Option.bind_some, isStateOf_form]
  by_cases h : okC n l
  · simp [h]
  · simp [h]
theorem outX_st {n : Int} {l : List Int} {x : Int} (hok : okC n l) (hx : isSt n x) (i : Nat) : isSt n (outX l x i) := by
  induction i with
  | zero => exact hx
  | succ i ih =>
    obtain ⟨h1, h2, h3⟩ := hok
    obtain ⟨y, hy⟩ : ∃ y : Nat, outX l x i = (y : Int) := Int.eq_ofNat_of_zero_le ih.2.1
    have hlt : y < l.length := by have := ih.2.2; omega
    rw [outX, hy, rd_at l y hlt]
    exact h3 _ (List.getElem_mem hlt)

end Go.Proofs.Ytomepieklgplgaa.P
