/- The program's IsName returns what the reference's returns, for all arguments; no condition. -/
import Derived.Test.YtkhkmdddflaolaaDoorP6
import Derived.Test.YtkhkmdddflaolaaDoorP7
import Derived.Test.YtkhkmdddflaolaaDoorP8
import Derived.Test.YtkhkmdddflaolaaDoorWave
namespace Go.Proofs.YtkhkmdddflaolaaDoor.Pure
open Go.RowKit Go.Proofs.YtkhkmdddflaolaaDoorW.PrintWords Go.Proofs.YtkhkmdddflaolaaDoorW.PrintLast Go.Proofs.YtkhkmdddflaolaaDoorW.PrintMore
open Go.Proofs.YtkhkmdddflaolaaDoor.P

def isLow (b : UInt8) : Bool := decide (97 ≤ b.toNat) && decide (b.toNat ≤ 122)
set_option maxRecDepth 100000 in
theorem low_table : ∀ b : Fin 256, ([97, 98, 99, 100, 101, 102, 103, 104, 105, 106, 107, 108, 109, 110, 111, 112, 113, 114, 115, 116, 117, 118, 119, 120, 121, 122] : List UInt8).contains (UInt8.ofNat b.val) = isLow (UInt8.ofNat b.val) := by decide +kernel
theorem low_contains (b : UInt8) : ([97, 98, 99, 100, 101, 102, 103, 104, 105, 106, 107, 108, 109, 110, 111, 112, 113, 114, 115, 116, 117, 118, 119, 120, 121, 122] : List UInt8).contains b = isLow b := by
  have h := low_table ⟨b.toNat, b.toNat_lt⟩
  rw [UInt8.ofNat_toNat] at h
  exact h
def nameOk (s : ByteArray) : Bool := (decide (1 ≤ s.size) && decide (s.size ≤ 10)) && (bs s).all isLow
theorem isName_form {s : ByteArray} (hs : s.size ≤ 9223372036854775807) : impl_IsName.f s = some (nameOk s) := by
  unfold impl_IsName.f strings_Trim.f nameOk
  by_cases h1 : (s.size : Int) ≥ 1
  · by_cases h2 : (s.size : Int) ≤ 10
    · rw [if_pos h1, if_pos h2, if_pos ⟨hs, by decide, by decide⟩]
      simp only [Option.bind_some, mk_toList]
      rw [trim_beq]
      have e : (fun x => (⟨#[97, 98, 99, 100, 101, 102, 103, 104, 105, 106, 107, 108, 109, 110, 111, 112, 113, 114, 115, 116, 117, 118, 119, 120, 121, 122]⟩ : ByteArray).data.toList.contains x) = isLow := funext low_contains
      rw [e, decide_eq_true (show 1 ≤ s.size by omega), decide_eq_true (show s.size ≤ 10 by omega), Bool.true_and, Bool.true_and]
    · rw [if_pos h1, if_neg h2, decide_eq_false (show ¬ s.size ≤ 10 by omega), Bool.and_false, Bool.false_and]
  · rw [if_neg h1, decide_eq_false (show ¬ 1 ≤ s.size by omega), Bool.false_and, Bool.false_and]
theorem specName_loop (s : ByteArray) (hs : s.size < 4611686018427387904) (d : Nat) : ∀ i : Nat, i + d = s.size → Ev (fun k => spec_IsName.l0 k s (i : Int)) ((decide (1 ≤ s.size) && decide (s.size ≤ 10)) && ((bs s).drop i).all isLow) := by
  induction d with
  | zero =>
    intro i hi
    refine Ev.succ ?_
    simp only [spec_IsName.l0, if_neg (show ¬ (i : Int) < (s.size : Int) by omega)]
    rw [List.drop_eq_nil_of_le (by rw [bs_len]; omega), List.all_nil, Bool.and_true]
    by_cases h1 : (s.size : Int) ≥ 1
    · simp only [if_pos h1]
      refine Ev.const (congrArg some ?_)
      rw [decide_eq_true (show 1 ≤ s.size by omega), Bool.true_and]
      exact decide_eq_decide.mpr (by omega)
    · simp only [if_neg h1]
      rw [decide_eq_false (show ¬ 1 ≤ s.size by omega), Bool.false_and]
      exact Ev.now _
  | succ d ih =>
    intro i hi
    refine Ev.succ ?_
    have hlt : i < s.size := by omega
    rw [all_from _ _ _ (by rw [bs_len]; exact hlt)]
    have hb := bt_nat s i hlt
    have e1 : wrap64 ((i : Int) + 1) = ((i + 1 : Nat) : Int) := by rw [w64 (by omega) (by omega)]; omega
    simp only [spec_IsName.l0, if_pos (show (i : Int) < (s.size : Int) by omega), if_pos (show (0 : Int) ≤ (i : Int) by omega), hb, e1]
    generalize hc : (bs s)[i]'(by rw [bs_len]; exact hlt) = c
    by_cases h0 : (c.toNat : Int) < 97
    · simp only [if_pos h0]
      have hk : isLow c = false := by unfold isLow; simp; omega
      rw [hk, Bool.false_and, Bool.and_false]
      exact Ev.now _
    · simp only [if_neg h0]
      by_cases h1 : (c.toNat : Int) > 122
      · simp only [if_pos h1]
        have hk : isLow c = false := by unfold isLow; simp; omega
        rw [hk, Bool.false_and, Bool.and_false]
        exact Ev.now _
      · simp only [if_neg h1]
        have hk : isLow c = true := by unfold isLow; simp; omega
        rw [hk, Bool.true_and]
        exact ih (i + 1) (by omega)

theorem FnExactIsName : laws_FnExactIsName.Pure := by
  intro s hs
  apply Ev.rounds
  unfold laws_FnExactIsName.f spec_IsName.f
  by_cases hl : (s.size : Int) > 1048576
  · simp only [if_pos hl]; exact Ev.now _
  simp only [if_neg hl, isName_form (show s.size ≤ 9223372036854775807 by omega), Option.bind_some]
  have h := specName_loop s (by omega) s.size 0 (by omega)
  rw [List.drop_zero] at h
  refine Ev.bind h ?_
  exact Ev.const (by simp [nameOk])
end Go.Proofs.YtkhkmdddflaolaaDoor.Pure
