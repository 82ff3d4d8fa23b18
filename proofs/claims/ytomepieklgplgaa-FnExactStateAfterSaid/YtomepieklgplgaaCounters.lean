/- Counters: when one is valid, as the program and as the reference ask it; a law's copying and comparing of counters. Lists of at most 1048576 numbers. -/
import Derived.Test.YtomepieklgplgaaP1
import Derived.Test.YtomepieklgplgaaExtValid
import Derived.Test.YtomepieklgplgaaLists
namespace Go.Proofs.Ytomepieklgplgaa.P
open Go.RowKit Go.Proofs.YtomepieklgplgaaW.PrintWords Go.Proofs.YtomepieklgplgaaW.PrintLast Go.Proofs.YtomepieklgplgaaW.PrintMore

def validB (n : Int) (l : List Int) : Bool := decide (1 ≤ n ∧ n ≤ 8) && decide ((l.length : Int) = 2 ^ n.toNat) && l.all fun x => isStB n x
theorem any_not (n : Int) (l : List Int) : (!(l.any fun x => !isStB n x)) = l.all fun x => isStB n x := by
  induction l with
  | nil => rfl
  | cons a l ih => simp only [List.any_cons, List.all_cons, Bool.not_or, Bool.not_not, ih]
theorem implValid_form (n : Int) (l : List Int) : impl_ValidCounter.f n l = some (validB n l) := by
  unfold impl_ValidCounter.f validB
  by_cases h1 : 1 ≤ n ∧ n ≤ 8
  · by_cases h2 : (l.length : Int) = 2 ^ n.toNat
    · have h3 : l.length = 2 ^ n.toNat := by exact_mod_cast h2
      rw [if_pos ⟨h1.1, h1.2, h3⟩, any_not, decide_eq_true h1, decide_eq_true h2, Bool.true_and, Bool.true_and]
    · have h3 : ¬ l.length = 2 ^ n.toNat := fun z => h2 (by exact_mod_cast z)
      rw [if_neg (fun z => h3 z.2.2), decide_eq_false h2, Bool.and_false, Bool.false_and]
  · rw [if_neg (fun z => h1 ⟨z.1, z.2.1⟩), decide_eq_false h1, Bool.false_and, Bool.false_and]
theorem is_loop (n : Int) (l : List Int) (hl : l.length ≤ 1048576) (d : Nat) : ∀ i : Nat, i + d = l.length → Ev (fun k => spec_l02Is.l0 k (i : Int) n l) ((l.drop i).all (fun x => isStB n x), n) := by
  induction d with
  | zero =>
    intro i hi
    refine Ev.succ ?_
    rw [List.drop_eq_nil_of_le (by omega)]
    simp only [spec_l02Is.l0, if_neg (show ¬ (i : Int) < (l.length : Int) by omega)]
    exact Ev.now _
  | succ d ih =>
    intro i hi
    refine Ev.succ ?_
    have hlt : i < l.length := by omega
    have e1 : wrap64 ((i : Int) + 1) = ((i + 1 : Nat) : Int) := by rw [w64 (by omega) (by omega)]; omega
    have er : rd l (i : Int) = l[i] := rd_at l i hlt
    rw [List.drop_eq_getElem_cons hlt, List.all_cons]
    simp only [spec_l02Is.l0, if_pos (show (i : Int) < (l.length : Int) by omega), if_pos (show (0 : Int) ≤ (i : Int) by omega), er, state_form, Option.bind_some, e1]
    by_cases hs : isSt n l[i]
    · simp only [hs, decide_true, if_true, isStB, Bool.true_and]
      exact ih (i + 1) (by omega)
    · simp only [hs, decide_false, Bool.false_eq_true, if_false, isStB, Bool.false_and]
      exact Ev.now _
theorem specIs_ev (n : Int) (l : List Int) (hl : l.length ≤ 1048576) : Ev (fun k => spec_l02Is.f k n l) (validB n l, n) := by
  unfold spec_l02Is.f spec_l02Bits.f validB
  simp only [in_form, Option.bind_some]
  by_cases h1 : 1 ≤ n ∧ n ≤ 8
  · simp only [h1, and_self, decide_true, if_true, size_form (show 0 ≤ n ∧ n ≤ 62 by omega), Option.bind_some]
    by_cases h2 : (l.length : Int) = 2 ^ n.toNat
    · refine Ev.succ ?_
      simp only [spec_l02Is.j0, h2, bne_self_eq_false, Bool.false_eq_true, if_false, decide_true, Bool.true_and]
      have h := is_loop n l hl l.length 0 (by omega)
      rw [List.drop_zero] at h
      exact h
    · have hb : ((l.length : Int) != 2 ^ n.toNat) = true := bne_iff_ne.mpr h2
      refine Ev.succ ?_
      simp only [spec_l02Is.j0, hb, if_true, h2, decide_false, Bool.true_and, Bool.false_and]
      exact Ev.now _
  · simp only [h1, decide_false, Bool.false_eq_true, if_false, Bool.false_and]
    refine Ev.succ ?_
    simp only [spec_l02Is.j0, if_true]
    exact Ev.now _
theorem specValid_ev (n : Int) (l : List Int) (hl : l.length ≤ 1048576) : Ev (fun k => spec_ValidCounter.f k n l) (validB n l) := by
  unfold spec_ValidCounter.f
  exact Ev.bind (specIs_ev n l hl) (Ev.now _)

theorem sz_long {n : Int} {l : List Int} (hm : l.length ≤ maxLen) (h : 1048576 < l.length) : laws_szCounter.f n l 1048576 = some (-1) := by
  unfold laws_szCounter.f laws_szInt64S.f
  have hx : maxLen ≤ 9223372036854775807 := by decide
  have hm' : (l.length : Int) ≤ 9223372036854775807 := by omega
  rw [w64 (by omega) (by omega), if_pos (by omega)]
  rfl
theorem sz_short {n : Int} {l : List Int} (h : l.length ≤ 1048576) : laws_szCounter.f n l 1048576 = some (1048576 - (l.length : Int)) := by
  unfold laws_szCounter.f laws_szInt64S.f
  rw [w64 (by omega) (by omega), if_neg (by omega)]
  simp only [Option.bind_some]
  rw [if_neg (by omega)]
theorem copy_loop (l : List Int) (hl : l.length ≤ 1048576) (d : Nat) : ∀ (i : Nat) (m : List Int), i + d = l.length → m.length = l.length → m.take i = l.take i → Ev (fun k => laws_toInt64S.l0 k l m (i : Int)) l := by
  induction d with
  | zero =>
    intro i m hi hm ht
    refine Ev.succ ?_
    simp only [laws_toInt64S.l0, if_neg (show ¬ (i : Int) < (l.length : Int) by omega)]
    rw [List.take_of_length_le (by omega), List.take_of_length_le (by omega)] at ht
    rw [ht]
    exact Ev.now _
  | succ d ih =>
    intro i m hi hm ht
    refine Ev.succ ?_
    have hlt : i < l.length := by omega
    have e1 : wrap64 ((i : Int) + 1) = ((i + 1 : Nat) : Int) := by rw [w64 (by omega) (by omega)]; omega
    have er : rd l (i : Int) = l[i] := rd_at l i hlt
    simp only [laws_toInt64S.l0, if_pos (show (i : Int) < (l.length : Int) by omega), if_pos (show (0 : Int) ≤ (i : Int) by omega), if_pos (show (i : Int) < (m.length : Int) by omega), er, Int.toNat_natCast, e1]
    refine ih (i + 1) (m.set i l[i]) (by omega) (by rw [List.length_set]; exact hm) ?_
    rw [← List.take_append_getElem hlt, ← List.take_append_getElem (show i < (m.set i l[i]).length by rw [List.length_set]; omega)]
    rw [List.take_set_of_le (Nat.le_refl i), ht, List.getElem_set_self]
theorem toCounter_ev (n : Int) (l : List Int) (hl : l.length ≤ 1048576) : Ev (fun k => laws_toCounter.f k n l) (n, l) := by
  unfold laws_toCounter.f laws_toInt64S.f
  simp only [Int.toNat_natCast, if_pos (show (0 : Int) ≤ (l.length : Int) by omega), if_pos (show l.length ≤ 35184372088832 by omega)]
  exact Ev.bind (a := l) (copy_loop l hl l.length 0 _ (by omega) (by simp) (by simp)) (Ev.now _)
theorem eqCounter_ev (n : Int) (l : List Int) (hl : l.length ≤ 1048576) : Ev (fun k => laws_eqCounter.f k n l n l) true := by
  unfold laws_eqCounter.f
  simp only [if_true]
  refine Ev.bind (eqS_ev (l := l) (by omega)) ?_
  simp only [if_true]
  exact Ev.now _
end Go.Proofs.Ytomepieklgplgaa.P
