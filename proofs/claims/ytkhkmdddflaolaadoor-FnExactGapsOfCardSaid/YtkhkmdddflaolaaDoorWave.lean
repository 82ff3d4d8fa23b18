/- When a text is a wave, as the program (it trims zeros and ones off) and as the reference (it looks at each byte) ask it. The texts are shorter than 2^62 bytes. -/
import Derived.Test.YtkhkmdddflaolaaDoorP1
import Derived.Test.YtkhkmdddflaolaaDoorP4
import Derived.Test.YtkhkmdddflaolaaDoorForms
import Derived.Test.YtkhkmdddflaolaaDoorExtTrim
namespace Go.Proofs.YtkhkmdddflaolaaDoor.P
open Go.RowKit Go.Proofs.YtkhkmdddflaolaaDoorW.PrintWords Go.Proofs.YtkhkmdddflaolaaDoorW.PrintLast Go.Proofs.YtkhkmdddflaolaaDoorW.PrintMore

/-- A text's bytes. -/
abbrev bs (s : ByteArray) : List UInt8 := s.data.toList
theorem bs_len (s : ByteArray) : (bs s).length = s.size := by simp [bs]
theorem bt_nat (s : ByteArray) (i : Nat) (h : i < s.size) : bt s (i : Int) = (((bs s)[i]'(by rw [bs_len]; exact h)).toNat : Int) := by
  unfold bt bs
  rw [dif_pos (by simpa using h)]
  simp [ByteArray.getElem_eq_getElem_data]

theorem dropWhile_all {α : Type} (p : α → Bool) (l : List α) : (∀ x ∈ l.dropWhile p, p x = true) ↔ ∀ x ∈ l, p x = true := by
  induction l with
  | nil => simp
  | cons a l ih =>
    by_cases h : p a = true
    · simp [h, ih]
    · simp [h]
theorem dropWhile_nil {α : Type} (p : α → Bool) (l : List α) : l.dropWhile p = [] ↔ ∀ x ∈ l, p x = true := by
  induction l with
  | nil => simp
  | cons a l ih =>
    by_cases h : p a = true
    · simp [h, ih]
    · simp [h]
/-- Nothing is left exactly if each byte is of the cutset. -/
theorem trimS_nil (l cs : List UInt8) : Lib.trimS l cs = [] ↔ ∀ x ∈ l, cs.contains x = true := by
  unfold Lib.trimS Lib.trimRightS Lib.trimLeftS
  rw [dropWhile_nil]
  have h := dropWhile_all (cs.contains ·) l.reverse
  simp only [List.mem_reverse] at h ⊢
  exact h
theorem trim_beq (l cs : List UInt8) : (Lib.trimS l cs == []) = l.all (cs.contains ·) := by
  rw [Bool.eq_iff_iff, beq_iff_eq, trimS_nil, List.all_eq_true]
theorem mk_toList (l : List UInt8) : (⟨l.toArray⟩ : ByteArray).toList = l := by rw [ByteArray.toList_eq]

/-- All bytes from place i on are of some kind: a loop that looks at one after another. -/
theorem all_from (p : UInt8 → Bool) (l : List UInt8) (i : Nat) (h : i < l.length) : (l.drop i).all p = (p l[i] && (l.drop (i + 1)).all p) := by
  rw [List.drop_eq_getElem_cons h, List.all_cons]

def isLevel (b : UInt8) : Bool := b.toNat == 48 || b.toNat == 49
def waveOk (s : ByteArray) : Bool := decide (s.size ≤ 400) && (bs s).all isLevel
theorem level_contains (b : UInt8) : ([48, 49] : List UInt8).contains b = isLevel b := by
  unfold isLevel
  rw [Bool.eq_iff_iff]
  simp only [List.contains_iff_mem, List.mem_cons, List.not_mem_nil, or_false, Bool.or_eq_true, beq_iff_eq, ← UInt8.toNat_inj]
  exact Iff.rfl
theorem isWave_form {s : ByteArray} (hs : s.size ≤ 9223372036854775807) : impl_IsWave.f s = some (waveOk s) := by
  unfold impl_IsWave.f strings_Trim.f waveOk
  by_cases h : (s.size : Int) ≤ 400
  · rw [if_pos h, if_pos ⟨hs, by decide, by decide⟩]
    simp only [Option.bind_some, mk_toList]
    rw [trim_beq]
    have e : (fun x => (⟨#[48, 49]⟩ : ByteArray).data.toList.contains x) = isLevel := funext level_contains
    rw [e, decide_eq_true (show s.size ≤ 400 by omega), Bool.true_and]
  · rw [if_neg h, decide_eq_false (show ¬ s.size ≤ 400 by omega), Bool.false_and]
theorem specWave_loop (s : ByteArray) (hs : s.size < 4611686018427387904) (d : Nat) : ∀ i : Nat, i + d = s.size → Ev (fun k => spec_l01Wave.l0 k s (i : Int)) (decide (s.size ≤ 400) && ((bs s).drop i).all isLevel) := by
  induction d with
  | zero =>
    intro i hi
    refine Ev.succ ?_
    simp only [spec_l01Wave.l0, if_neg (show ¬ (i : Int) < (s.size : Int) by omega)]
    refine Ev.const (congrArg some ?_)
    rw [List.drop_eq_nil_of_le (by rw [bs_len]; omega), List.all_nil, Bool.and_true]
    exact decide_eq_decide.mpr (by omega)
  | succ d ih =>
    intro i hi
    refine Ev.succ ?_
    have hlt : i < s.size := by omega
    rw [all_from _ _ _ (by rw [bs_len]; exact hlt)]
    have hb := bt_nat s i hlt
    have e1 : wrap64 ((i : Int) + 1) = ((i + 1 : Nat) : Int) := by rw [w64 (by omega) (by omega)]; omega
    simp only [spec_l01Wave.l0, if_pos (show (i : Int) < (s.size : Int) by omega), if_pos (show (0 : Int) ≤ (i : Int) by omega), hb, e1]
    generalize hc : (bs s)[i]'(by rw [bs_len]; exact hlt) = c
    by_cases h0 : (c.toNat : Int) = 48
    · simp only [if_pos h0]
      have hk : isLevel c = true := by unfold isLevel; simp; omega
      rw [hk, Bool.true_and]
      exact ih (i + 1) (by omega)
    · simp only [if_neg h0]
      by_cases h1 : (c.toNat : Int) = 49
      · simp only [if_pos h1]
        have hk : isLevel c = true := by unfold isLevel; simp; omega
        rw [hk, Bool.true_and]
        exact ih (i + 1) (by omega)
      · simp only [if_neg h1]
        have hk : isLevel c = false := by unfold isLevel; simp; omega
        rw [hk, Bool.false_and, Bool.and_false]
        exact Ev.now _
theorem specWave_ev {s : ByteArray} (hs : s.size < 4611686018427387904) : Ev (fun k => spec_l01Wave.f k s) (waveOk s) := by
  have h := specWave_loop s hs s.size 0 (by omega)
  rw [List.drop_zero] at h
  exact h
end Go.Proofs.YtkhkmdddflaolaaDoor.P
