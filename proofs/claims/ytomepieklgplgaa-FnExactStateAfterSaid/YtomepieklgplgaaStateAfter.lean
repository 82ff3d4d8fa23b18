/- The state after so many steps, as the program and as the reference reckon it. For whole counters. -/
import Derived.Test.YtomepieklgplgaaP11
import Derived.Test.YtomepieklgplgaaP12
import Derived.Test.YtomepieklgplgaaRing2
namespace Go.Proofs.Ytomepieklgplgaa.P
open Go.RowKit Go.Proofs.YtomepieklgplgaaW.PrintWords Go.Proofs.YtomepieklgplgaaW.PrintLast Go.Proofs.YtomepieklgplgaaW.PrintMore

theorem outX_add (l : List Int) (x : Int) (i j : Nat) : outX l (outX l x i) j = outX l x (i + j) := by
  induction j with
  | zero => rfl
  | succ j ih => rw [outX, ih, ← Nat.add_assoc, outX]
theorem implAfter_loop {n : Int} {l : List Int} {x : Int} (hok : okC n l) (hx : isSt n x) (s : Nat) (hs : s ≤ 1000000000) (d : Nat) : ∀ i : Nat, i + d = s → Ev (fun k => impl_StateAfter.l0 k (outX l x i) (s : Int) (i : Int) n l) (outX l x s, true) := by
  induction d with
  | zero =>
    intro i hi
    obtain rfl : i = s := by omega
    refine Ev.succ ?_
    simp only [impl_StateAfter.l0, Int.lt_irrefl, if_false]
    exact Ev.now _
  | succ d ih =>
    intro i hi
    refine Ev.succ ?_
    have h := outX_lt hok hx i
    have e1 : wrap64 ((i : Int) + 1) = ((i + 1 : Nat) : Int) := by rw [w64 (by omega) (by omega)]; omega
    simp only [impl_StateAfter.l0, if_pos (show (i : Int) < (s : Int) by omega), if_pos h.1, if_pos h.2, e1]
    exact ih (i + 1) (by omega)
theorem specAfter_loop1 {n : Int} {l : List Int} {x : Int} (hok : okC n l) (hx : isSt n x) (s : Nat) (hs : s ≤ 1000000000) (d : Nat) : ∀ i : Nat, i + d = s → Ev (fun k => spec_StateAfter.l1 k (outX l x i) (d : Int) n l) (outX l x s, true) := by
  induction d with
  | zero =>
    intro i hi
    obtain rfl : i = s := by omega
    refine Ev.succ ?_
    simp only [spec_StateAfter.l1, if_neg (show ¬ ((0 : Nat) : Int) > 0 by omega)]
    exact Ev.now _
  | succ d ih =>
    intro i hi
    refine Ev.succ ?_
    have h := outX_lt hok hx i
    have e1 : wrap64 (((d + 1 : Nat) : Int) - 1) = (d : Int) := by rw [w64 (by omega) (by omega)]; omega
    simp only [spec_StateAfter.l1, if_pos (show ((d + 1 : Nat) : Int) > 0 by omega), if_pos h.1, if_pos h.2, e1]
    exact ih (i + 1) (by omega)
/-- How many steps are gone in truth. -/
def stepsOf (l : List Int) (x : Int) (s : Nat) : Nat := if s ≤ tailOf l x then s else tailOf l x + (s - tailOf l x) % (ringOf l x).length
theorem min_form (a b : Nat) : spec_l00Min.f (a : Int) (b : Int) = some ((min a b : Nat) : Int) := by
  unfold spec_l00Min.f
  split
  · rw [Nat.min_eq_left (by omega)]
  · rw [Nat.min_eq_right (by omega)]
theorem specAfter_loop0 {n : Int} {l : List Int} {x : Int} (hok : okC n l) (hx : isSt n x) (s : Nat) (hs : s ≤ 1000000000) (d : Nat) : ∀ i : Nat, i + d = min s (tailOf l x) → Ev (fun k => spec_StateAfter.l0 k (s : Int) (ringOf l x) (tailOf l x : Int) (outX l x i) (i : Int) n l) (outX l x (stepsOf l x s), true) := by
  have hp := ringOf_pos hok hx
  have ht := tailOf_lt hok hx
  have hT := ringT_pos hok hx
  induction d with
  | zero =>
    intro i hi
    refine Ev.succ ?_
    simp only [spec_StateAfter.l0, min_form, Option.bind_some, if_neg (show ¬ (i : Int) < ((min s (tailOf l x) : Nat) : Int) by omega)]
    by_cases hc : s ≤ tailOf l x
    · simp only [if_pos (show (s : Int) ≤ (tailOf l x : Int) by omega), stepsOf, if_pos hc]
      obtain rfl : i = s := by omega
      exact Ev.now _
    · obtain rfl : i = tailOf l x := by omega
      have e2 : Int.tmod (wrap64 ((s : Int) - (tailOf l x : Int))) ((ringOf l x).length : Int) = (((s - tailOf l x) % (ringOf l x).length : Nat) : Int) := by
        rw [w64 (by omega) (by omega), show (s : Int) - (tailOf l x : Int) = ((s - tailOf l x : Nat) : Int) by omega]
        exact (Int.ofNat_tmod _ _).symm
      have hm := Nat.mod_lt (s - tailOf l x) hp.1
      simp only [if_neg (show ¬ (s : Int) ≤ (tailOf l x : Int) by omega), if_neg (show ¬ ((ringOf l x).length : Int) = 0 by omega), e2, stepsOf, if_neg hc]
      exact specAfter_loop1 hok hx _ (by omega) _ _ rfl
  | succ d ih =>
    intro i hi
    refine Ev.succ ?_
    have h := outX_lt hok hx i
    have e1 : wrap64 ((i : Int) + 1) = ((i + 1 : Nat) : Int) := by rw [w64 (by omega) (by omega)]; omega
    simp only [spec_StateAfter.l0, min_form, Option.bind_some, if_pos (show (i : Int) < ((min s (tailOf l x) : Nat) : Int) by omega), if_pos h.1, if_pos h.2, e1]
    exact ih (i + 1) (by omega)
theorem implAfter_ev {n : Int} {l : List Int} {x s : Int} : Ev (fun k => impl_StateAfter.f k n l x s) (if okC n l ∧ isSt n x ∧ 0 ≤ s ∧ s ≤ 1000000000 then (outX l x (stepsOf l x s.toNat), true) else (0, false)) := by
  unfold impl_StateAfter.f
  simp only [isState_form, within_form, Option.bind_some]
  by_cases hs : okC n l ∧ isSt n x
  · obtain ⟨hok, hx⟩ := hs
    simp only [hok, hx, true_and, decide_true, if_true]
    refine Ev.succ ?_
    by_cases hb : 0 ≤ s ∧ s ≤ 1000000000
    · obtain ⟨m, rfl⟩ := Int.eq_ofNat_of_zero_le hb.1
      have hp := ringOf_pos hok hx
      have ht := tailOf_lt hok hx
      have hT := ringT_pos hok hx
      simp only [impl_StateAfter.j0, hb, and_self, decide_true, Bool.not_true, Bool.false_eq_true, if_false, if_true, Int.toNat_natCast]
      refine Ev.bind (implRing_ev hok hx) ?_
      by_cases hc : m ≤ tailOf l x
      · simp only [if_neg (show ¬ (m : Int) > (tailOf l x : Int) by omega), stepsOf, if_pos hc]
        refine Ev.succ ?_
        simp only [impl_StateAfter.j1]
        exact implAfter_loop hok hx m (by omega) m 0 (by omega)
      · have e2 : Int.tmod (wrap64 ((m : Int) - (tailOf l x : Int))) ((ringOf l x).length : Int) = (((m - tailOf l x) % (ringOf l x).length : Nat) : Int) := by
          rw [w64 (by omega) (by omega), show (m : Int) - (tailOf l x : Int) = ((m - tailOf l x : Nat) : Int) by omega]
          exact (Int.ofNat_tmod _ _).symm
        have hm := Nat.mod_lt (m - tailOf l x) hp.1
        have e3 : wrap64 ((tailOf l x : Int) + (((m - tailOf l x) % (ringOf l x).length : Nat) : Int)) = ((tailOf l x + (m - tailOf l x) % (ringOf l x).length : Nat) : Int) := by
          rw [w64 (by omega) (by omega)]; omega
        simp only [if_pos (show (m : Int) > (tailOf l x : Int) by omega), if_neg (show ¬ ((ringOf l x).length : Int) = 0 by omega), e2, e3, stepsOf, if_neg hc]
        refine Ev.succ ?_
        simp only [impl_StateAfter.j1]
        have hle : tailOf l x + (m - tailOf l x) % (ringOf l x).length ≤ 1000000000 := by omega
        exact implAfter_loop hok hx (tailOf l x + (m - tailOf l x) % (ringOf l x).length) hle (tailOf l x + (m - tailOf l x) % (ringOf l x).length) 0 (Nat.zero_add _)
    · simp only [impl_StateAfter.j0, hb, decide_false, Bool.not_false, if_true, if_false]
      exact Ev.now _
  · have hn : ¬ (okC n l ∧ isSt n x ∧ 0 ≤ s ∧ s ≤ 1000000000) := fun z => hs ⟨z.1, z.2.1⟩
    rw [if_neg hn]
    simp only [hs, decide_false, Bool.false_eq_true, if_false]
    refine Ev.succ ?_
    simp only [impl_StateAfter.j0, if_true]
    exact Ev.now _
theorem specAfter_ev {n : Int} {l : List Int} {x s : Int} (hl : l.length ≤ 1048576) : Ev (fun k => spec_StateAfter.f k n l x s) (if okC n l ∧ isSt n x ∧ 0 ≤ s ∧ s ≤ 1000000000 then (outX l x (stepsOf l x s.toNat), true) else (0, false)) := by
  unfold spec_StateAfter.f
  refine Ev.bind (specAt_ev n l x hl) ?_
  simp only [in_form, Option.bind_some]
  by_cases hs : okC n l ∧ isSt n x
  · obtain ⟨hok, hx⟩ := hs
    simp only [hok, hx, true_and, and_self, decide_true, if_true]
    refine Ev.succ ?_
    by_cases hb : 0 ≤ s ∧ s ≤ 1000000000
    · obtain ⟨m, rfl⟩ := Int.eq_ofNat_of_zero_le hb.1
      simp only [spec_StateAfter.j0, hb, and_self, decide_true, Bool.not_true, Bool.false_eq_true, if_false, if_true, Int.toNat_natCast]
      refine Ev.bind (specRing_ev hok hx) ?_
      exact specAfter_loop0 hok hx m (by omega) (min m (tailOf l x)) 0 (Nat.zero_add _)
    · simp only [spec_StateAfter.j0, hb, decide_false, Bool.not_false, if_true, if_false]
      exact Ev.now _
  · have hn : ¬ (okC n l ∧ isSt n x ∧ 0 ≤ s ∧ s ≤ 1000000000) := fun z => hs ⟨z.1, z.2.1⟩
    rw [if_neg hn]
    simp only [hs, decide_false, Bool.false_eq_true, if_false]
    refine Ev.succ ?_
    simp only [spec_StateAfter.j0, if_true]
    exact Ev.now _
end Go.Proofs.Ytomepieklgplgaa.P
