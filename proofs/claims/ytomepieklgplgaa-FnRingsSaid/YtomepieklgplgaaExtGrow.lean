/- slices.Grow of the nil slice: the contract of the Go function, for at most a million elements. -/
import Derived.Test.YtomepieklgplgaaP0
import Derived.Test.YtomepieklgplgaaBase
import Derived.Lib.Hide
namespace Go.Proofs.Ytomepieklgplgaa.P
open Go.RowKit Go.Proofs.YtomepieklgplgaaW.PrintWords Go.Proofs.YtomepieklgplgaaW.PrintLast Go.Proofs.YtomepieklgplgaaW.PrintMore
set_option linter.unusedVariables false
set_option linter.unusedSimpArgs false

def slices_Grow_int64_int64.f (l0 : List Int) (a1 : Int) : Option (List Int) :=
  if l0 = [] ∧ 0 ≤ a1 ∧ a1 ≤ 1000000 then some [] else none

set_option maxHeartbeats 8000000 in
set_option maxRecDepth 100000 in
theorem grow_pos (n : Int) (h0 : 0 < n) (h1 : n ≤ 1000000) (w : World) :
    Calls Try.prog 94 #[.slice none 0 0, .int .i64 n] w fun e w' => ∃ v0_ : Value, e = .returned v0_ ∧ Kd.R (Kd.int .i64) 2 w' w.heap.size (fun _ => True) v0_ [] ∧ Below w.heap.size w w' := by
  have hneg : decide (n < 0) = false := decide_eq_false (by omega)
  have hpos : decide (n > 0) = true := decide_eq_true h0
  have hw : wrap64 (n - 0) = n := by rw [Int.sub_zero]; exact w64 (by omega) (by omega)
  go_enter Try.func94, Try.ntmps94
  go_wp2_with (first | ((with_reducible refine gate_builtin (b := .append) (xs := #[.tmp 20, .tmp 21]) rfl ?_); refine Kd.R_append_zeros (Kd.int .i64) (w0 := w) w.heap.size rfl (.tmp 20) (.tmp 21) 24 3 2 (.int .i64 0) 8 rfl Try.underlying24 Try.underlying3 info2 rfl (by decide) (by omega) (.slice none 0 0) ([] : List Int) 0 n (fun _ => True) rfl rfl ?hz (fun _ _ => trivial) (Kd.R_nil _ _ _ _ _) (by omega) (Below.refl _ _) (Nat.le_refl _) ?hl ?_; (case hz => exact rfl); (case hl => (rw [List.length_nil]; omega)); intro v1 w1 ho hb hg hat; obtain ⟨Ao, co, rfl⟩ := Kd.R_slice ho; have HO := Aside0.mk ho; have HB := Aside0.mk hb; clear ho hb hg hat))
  go_ret
  refine ⟨_, rfl, ?_, HB.out⟩
  have h := Kd.R_take (m := 0) HO.out (Nat.zero_le _)
  rw [List.take_zero] at h
  exact h
set_option maxHeartbeats 8000000 in
set_option maxRecDepth 100000 in
theorem grow_zero (w : World) :
    Calls Try.prog 94 #[.slice none 0 0, .int .i64 0] w fun e w' => ∃ v0_ : Value, e = .returned v0_ ∧ Kd.R (Kd.int .i64) 2 w' w.heap.size (fun _ => True) v0_ [] ∧ Below w.heap.size w w' := by
  go_enter Try.func94, Try.ntmps94
  go_wp2
  go_ret
  exact ⟨_, rfl, Kd.R_nil _ _ _ _ _, Below.refl _ _⟩
theorem slices_Grow_int64_int64.calls (A0 : Option Addr) (c0 : Nat) (l0 : List Int) (a1 : Int) (r : List Int) (w : World) (hr0 : A0 = none) (hc0 : c0 ≤ l0.length) (h : slices_Grow_int64_int64.f l0 a1 = some r) :
    Calls Try.prog 94 #[.slice A0 l0.length c0, .int .i64 a1] w fun e w' => ∃ v0_ : Value, e = .returned (v0_) ∧ Kd.R (Kd.int .i64) 2 w' w.heap.size (fun _ => True) v0_ r ∧ Below w.heap.size w w' := by
  unfold slices_Grow_int64_int64.f at h
  split at h
  · rename_i hc
    obtain ⟨rfl, h0, h1⟩ := hc
    obtain rfl := Option.some.inj h
    subst hr0
    obtain rfl : c0 = 0 := Nat.le_zero.mp hc0
    by_cases hz : a1 = 0
    · subst hz; exact grow_zero w
    · exact grow_pos a1 (by omega) h1 w
  · cases h
end Go.Proofs.Ytomepieklgplgaa.P
