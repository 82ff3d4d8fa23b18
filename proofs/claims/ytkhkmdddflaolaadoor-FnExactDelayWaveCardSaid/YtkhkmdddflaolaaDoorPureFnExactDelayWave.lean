/- The program's DelayWave returns what the reference's returns, for all arguments; no condition. -/
import Derived.Test.YtkhkmdddflaolaaDoorP36
import Derived.Test.YtkhkmdddflaolaaDoorP40
import Derived.Test.YtkhkmdddflaolaaDoorP41
import Derived.Test.YtkhkmdddflaolaaDoorP42
import Derived.Test.YtkhkmdddflaolaaDoorP43
import Derived.Test.YtkhkmdddflaolaaDoorExtRepeat
import Derived.Test.YtkhkmdddflaolaaDoorWave
import Derived.Test.YtkhkmdddflaolaaDoorForms
namespace Go.Proofs.YtkhkmdddflaolaaDoor.Pure
open Go.RowKit Go.Proofs.YtkhkmdddflaolaaDoorW.PrintWords Go.Proofs.YtkhkmdddflaolaaDoorW.PrintLast Go.Proofs.YtkhkmdddflaolaaDoorW.PrintMore
open Go.Proofs.YtkhkmdddflaolaaDoor.P

theorem wave_size {s : ByteArray} (h : waveOk s = true) : s.size ≤ 400 := by
  unfold waveOk at h
  rw [Bool.and_eq_true, decide_eq_true_eq] at h
  exact h.1
theorem ba_ext {s t : ByteArray} (h : s.data.toList = t.data.toList) : s = t := ByteArray.ext (Array.ext' h)
def delayL (s : ByteArray) (n : Nat) : Nat → List Int
  | 0 => []
  | i + 1 => delayL s n i ++ [if n ≤ i then bt s ((i - n : Nat) : Int) else 48]
theorem delayL_length (s : ByteArray) (n i : Nat) : (delayL s n i).length = i := by
  induction i with
  | zero => rfl
  | succ i ih => simp [delayL, ih]
theorem delay_loop (s : ByteArray) (hs : s.size ≤ 400) (n : Nat) (hn : n ≤ 400) (d : Nat) : ∀ i : Nat, i + d = s.size → Ev (fun k => spec_l01Delay.l0 k s (n : Int) (delayL s n i) (i : Int)) (strOfNums (delayL s n s.size)) := by
  induction d with
  | zero =>
    intro i hi
    refine Ev.succ ?_
    obtain rfl : i = s.size := by omega
    simp only [spec_l01Delay.l0, Int.lt_irrefl, if_false]
    exact Ev.now _
  | succ d ih =>
    intro i hi
    refine Ev.succ ?_
    have e : wrap64 ((i : Int) + 1) = ((i + 1 : Nat) : Int) := by rw [w64 (by omega) (by omega)]; omega
    have hl : (delayL s n i).length < 140737488355328 := by rw [delayL_length]; omega
    have hlt : (i : Int) < (s.size : Int) := by omega
    have hn := ih (i + 1) (by omega)
    by_cases hc : n ≤ i
    · have e2 : wrap64 ((i : Int) - (n : Int)) = ((i - n : Nat) : Int) := by rw [w64 (by omega) (by omega)]; omega
      simp only [spec_l01Delay.l0, if_pos hlt, if_pos (show (i : Int) ≥ (n : Int) by omega), e2, if_pos (show (0 : Int) ≤ ((i - n : Nat) : Int) by omega), if_pos (show ((i - n : Nat) : Int) < (s.size : Int) by omega), if_pos hl, e]
      rw [delayL, if_pos hc] at hn
      exact hn
    · simp only [spec_l01Delay.l0, if_pos hlt, if_neg (show ¬ (i : Int) ≥ (n : Int) by omega), if_pos hl, e]
      rw [delayL, if_neg hc] at hn
      exact hn
theorem delay_take (s : ByteArray) (n : Nat) (i : Nat) : i ≤ s.size → (List.replicate n (48 : UInt8) ++ bs s).take i = (delayL s n i).map fun x => UInt8.ofNat x.toNat := by
  induction i with
  | zero => intro _; simp [delayL]
  | succ i ih =>
    intro hi
    have hb : (bs s).length = s.size := bs_len s
    have hlt : i < (List.replicate n (48 : UInt8) ++ bs s).length := by rw [List.length_append, List.length_replicate]; omega
    rw [← List.take_append_getElem hlt, ih (by omega), delayL, List.map_append]
    congr 1
    simp only [List.map_cons, List.map_nil, List.cons.injEq, and_true]
    by_cases hc : n ≤ i
    · rw [if_pos hc, List.getElem_append_right (by rw [List.length_replicate]; exact hc)]
      rw [bt_nat s (i - n) (by omega)]
      simp only [List.length_replicate, Int.toNat_natCast, UInt8.ofNat_toNat]
    · rw [if_neg hc, List.getElem_append_left (by rw [List.length_replicate]; omega), List.getElem_replicate]
      rfl
theorem delay_bytes (s : ByteArray) (n : Nat) : ((⟨(Lib.repeatL (⟨#[48]⟩ : ByteArray).data.toList n).toArray⟩ : ByteArray) ++ s).extract 0 s.size = strOfNums (delayL s n s.size) := by
  apply ba_ext
  rw [strOfNums_data, ← delay_take s n s.size (Nat.le_refl _)]
  have h : Lib.repeatL (⟨#[48]⟩ : ByteArray).data.toList n = List.replicate n (48 : UInt8) := by
    have := Lib.repeatL_replicate (48 : UInt8) 1 n
    rw [Nat.mul_one] at this
    exact this
  rw [h]
  simp [bs, List.take_append]

theorem delay_both {s : ByteArray} {n : Int} (hs : s.size ≤ 1048576) : ∃ v, Ev (fun k => spec_DelayWave.f k s n) v ∧ impl_DelayWave.f s n = some v := by
  unfold spec_DelayWave.f impl_DelayWave.f
  simp only [isWave_form (show s.size ≤ 9223372036854775807 by omega), in_form, impl_isTicks.f, within_form, Option.bind_some]
  by_cases hw : waveOk s = true
  · have h4 := wave_size hw
    by_cases h1 : 0 ≤ n ∧ n ≤ 400
    · obtain ⟨m, rfl⟩ := Int.eq_ofNat_of_zero_le h1.1
      have hm : m ≤ 400 := by omega
      refine ⟨(strOfNums (delayL s m s.size), true), Ev.bind (specWave_ev (by omega)) ?_, ?_⟩
      · simp only [hw, if_true, h1, and_self, decide_true]
        exact Ev.bind (a := strOfNums (delayL s m s.size)) (delay_loop s h4 m hm s.size 0 (by omega)) (Ev.now _)
      · have hrep : strings_Repeat.f (⟨#[48]⟩ : ByteArray) (m : Int) = some ⟨(Lib.repeatL (⟨#[48]⟩ : ByteArray).data.toList m).toArray⟩ := by
          unfold strings_Repeat.f
          rw [if_pos ⟨h1.1, by omega, by decide⟩, Int.toNat_natCast]
        have hrs : (⟨(Lib.repeatL (⟨#[48]⟩ : ByteArray).data.toList m).toArray⟩ : ByteArray).size = m := by
          rw [show (⟨(Lib.repeatL (⟨#[48]⟩ : ByteArray).data.toList m).toArray⟩ : ByteArray).size = (Lib.repeatL (⟨#[48]⟩ : ByteArray).data.toList m).length by simp [ByteArray.size], Lib.repeatL_length]
          simp
        simp only [hw, if_true, h1, and_self, decide_true, hrep, Option.bind_some, hrs]
        rw [if_pos (by omega), if_pos (by omega), if_pos (by rw [ByteArray.size_append, hrs]; omega), Int.toNat_natCast, delay_bytes]
    · refine ⟨(⟨#[]⟩, false), Ev.bind (specWave_ev (by omega)) ?_, ?_⟩
      · simp only [hw, if_true, h1, decide_false, Bool.false_eq_true, if_false]
        exact Ev.now _
      · simp only [hw, if_true, h1, decide_false, Bool.false_eq_true, if_false]
  · refine ⟨(⟨#[]⟩, false), Ev.bind (specWave_ev (by omega)) ?_, ?_⟩
    · simp only [hw, Bool.false_eq_true, if_false]
      exact Ev.now _
    · simp only [hw, Bool.false_eq_true, if_false]
theorem FnExactDelayWave : laws_FnExactDelayWave.Pure := by
  intro s n _ _
  apply Ev.rounds
  unfold laws_FnExactDelayWave.f
  by_cases hlong : (s.size : Int) > 1048576
  · simp only [if_pos hlong]; exact Ev.now _
  simp only [if_neg hlong]
  obtain ⟨v, h1, h2⟩ := delay_both (s := s) (n := n) (by omega)
  refine Ev.bind h1 ?_
  simp only [h2, Option.bind_some, if_true, bne_self_eq_false, Bool.false_eq_true, if_false]
  exact Ev.now _
end Go.Proofs.YtkhkmdddflaolaaDoor.Pure
