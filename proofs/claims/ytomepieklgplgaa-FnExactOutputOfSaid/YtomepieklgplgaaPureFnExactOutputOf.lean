/- The program's OutputOf returns what the reference's returns, for all arguments; no condition. -/
import Derived.Test.YtomepieklgplgaaP27
import Derived.Test.YtomepieklgplgaaP29
import Derived.Test.YtomepieklgplgaaExtOutput
namespace Go.Proofs.Ytomepieklgplgaa.Pure
open Go.RowKit Go.Proofs.YtomepieklgplgaaW.PrintWords Go.Proofs.YtomepieklgplgaaW.PrintLast Go.Proofs.YtomepieklgplgaaW.PrintMore
open Go.Proofs.Ytomepieklgplgaa.P

theorem and_one (a : Nat) (ha : a < 9223372036854775808) : Go.bits .and .i64 (a : Int) 1 = ((a % 2 : Nat) : Int) := by
  have h := and_i64 a 1 ha (by decide)
  rw [show ((1 : Nat) : Int) = 1 from rfl] at h
  rw [h, Nat.and_one_is_mod]
theorem out_level (l : List Int) {n x : Int} {b : Int} (hok : okC n l) (hx : isSt n x) (hb : 0 ≤ b ∧ b ≤ n - 1) (i : Nat) :
    (wrap64 (48 + Go.bits .and .i64 (shr .i64 (outX l x i) b) 1)) % 256 = if outBit l x b i = true then 49 else 48 := by
  have hs := outX_st hok hx i
  have h256 := isSt_lt hs
  obtain ⟨y, hy⟩ : ∃ y : Nat, outX l x i = (y : Int) := Int.eq_ofNat_of_zero_le hs.2.1
  have hn := hok.1
  unfold outBit
  rw [hy] at h256 ⊢
  rw [shr_nat hb.1 (by omega)]
  have e : (y : Int) / 2 ^ b.toNat = ((y / 2 ^ b.toNat : Nat) : Int) := by
    rw [Int.natCast_ediv]
    congr 1
  have hle : y / 2 ^ b.toNat ≤ y := Nat.div_le_self _ _
  rw [e, and_one _ (by omega)]
  rcases Nat.mod_two_eq_zero_or_one (y / 2 ^ b.toNat) with h | h <;> rw [h, w64 (by decide) (by decide)] <;> decide
theorem out_loop (n : Int) (l : List Int) (x b : Int) (t : Nat) (ht : t ≤ 400) (hok : okC n l) (hx : isSt n x) (hb : 0 ≤ b ∧ b ≤ n - 1) (d : Nat) : ∀ i : Nat, i + d = t →
    Ev (fun k => spec_OutputOf.l0 k b (t : Int) (levels (outBit l x b) i) (outX l x i) (i : Int) n l) (waveStr (outBit l x b) t, true) := by
  induction d with
  | zero =>
    intro i hi
    refine Ev.succ ?_
    obtain rfl : i = t := by omega
    simp only [spec_OutputOf.l0, Int.lt_irrefl, if_false]
    exact Ev.now _
  | succ d ih =>
    intro i hi
    refine Ev.succ ?_
    have e1 : wrap64 ((i : Int) + 1) = ((i + 1 : Nat) : Int) := by rw [w64 (by omega) (by omega)]; omega
    have hl : (levels (outBit l x b) i).length < 140737488355328 := by rw [levels_length]; omega
    have hs := outX_st hok hx i
    have hn := hok.1
    have hlen := hok.2.1
    have hw : IntKind.u64.wrap b = b := wu64 hb.1 (by omega)
    simp only [spec_OutputOf.l0, if_pos (show (i : Int) < (t : Int) by omega), hw, if_pos hb.1, if_pos hl, if_pos hs.2.1, if_pos (show outX l x i < (l.length : Int) by have := hs.2.2; omega), out_level l hok hx hb i, e1]
    exact ih (i + 1) (by omega)
theorem output_both {n : Int} {l : List Int} {x b t : Int} (hl : l.length ≤ 1048576) : ∃ v, Ev (fun k => spec_OutputOf.f k n l x b t) v ∧ impl_OutputOf.f n l x b t = some v := by
  unfold spec_OutputOf.f impl_OutputOf.f
  simp only [in_form]
  by_cases hs : okC n l ∧ isSt n x
  · have hn := hs.1.1
    have hw : wrap64 (n - 1) = n - 1 := w64 (by omega) (by omega)
    by_cases hb : 0 ≤ b ∧ b ≤ n - 1
    · by_cases ht : 0 ≤ t ∧ t ≤ 400
      · obtain ⟨m, rfl⟩ := Int.eq_ofNat_of_zero_le ht.1
        have hok : outOk n l x b (m : Int) := ⟨hs.1, hs.2, hb, ht⟩
        refine ⟨(waveStr (outBit l x b) m, true), Ev.bind (specAt_ev n l x hl) ?_, by rw [if_pos hok, Int.toNat_natCast]⟩
        simp only [hs, and_self, decide_true, if_true, hw, hb, ht, Option.bind_some, Bool.not_true]
        refine Ev.succ ?_
        simp only [spec_OutputOf.j0, Bool.false_eq_true, if_false]
        exact out_loop n l x b m (by omega) hs.1 hs.2 hb m 0 (by omega)
      · have hok : ¬ outOk n l x b t := fun z => ht z.2.2.2
        refine ⟨(⟨#[]⟩, false), Ev.bind (specAt_ev n l x hl) ?_, by rw [if_neg hok]⟩
        simp only [hs, and_self, decide_true, if_true, hw, hb, ht, decide_false, Option.bind_some, Bool.not_false]
        refine Ev.succ ?_
        simp only [spec_OutputOf.j0, if_true]
        exact Ev.now _
    · have hok : ¬ outOk n l x b t := fun z => hb z.2.2.1
      refine ⟨(⟨#[]⟩, false), Ev.bind (specAt_ev n l x hl) ?_, by rw [if_neg hok]⟩
      simp only [hs, and_self, decide_true, if_true, hw, hb, decide_false, Option.bind_some, Bool.false_eq_true, if_false]
      refine Ev.succ ?_
      simp only [spec_OutputOf.j0, if_true]
      exact Ev.now _
  · have hok : ¬ outOk n l x b t := fun z => hs ⟨z.1, z.2.1⟩
    refine ⟨(⟨#[]⟩, false), Ev.bind (specAt_ev n l x hl) ?_, by rw [if_neg hok]⟩
    simp only [hs, decide_false, Bool.false_eq_true, if_false]
    refine Ev.succ ?_
    simp only [spec_OutputOf.j0, if_true]
    exact Ev.now _
theorem FnExactOutputOf : laws_FnExactOutputOf.Pure := by
  intro n l x b t _ hm _ _ _ _
  apply Ev.rounds
  unfold laws_FnExactOutputOf.f
  by_cases hl : l.length ≤ 1048576
  · simp only [sz_short hl, Option.bind_some, if_neg (show ¬ (1048576 - (l.length : Int)) < 0 by omega)]
    obtain ⟨v, h1, h2⟩ := output_both (n := n) (x := x) (b := b) (t := t) hl
    refine Ev.bind (toCounter_ev n l hl) (Ev.bind h1 (Ev.bind (toCounter_ev n l hl) ?_))
    simp only [h2, Option.bind_some, if_true, bne_self_eq_false]
    refine Ev.succ ?_
    simp only [laws_FnExactOutputOf.j0, Bool.false_eq_true, if_false]
    refine Ev.bind (toCounter_ev n l hl) (Ev.bind (eqCounter_ev n l hl) ?_)
    simp only [if_true]
    exact Ev.now _
  · simp only [sz_long hm (by omega), Option.bind_some]
    exact Ev.now _
end Go.Proofs.Ytomepieklgplgaa.Pure
