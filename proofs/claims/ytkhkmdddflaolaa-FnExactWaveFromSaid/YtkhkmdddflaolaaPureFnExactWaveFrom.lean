/- The program's WaveFrom returns what the reference's returns, for all arguments; no condition. -/
import Derived.Test.YtkhkmdddflaolaaP14
import Derived.Test.YtkhkmdddflaolaaP15
import Derived.Test.YtkhkmdddflaolaaBase
import Derived.Test.YtkhkmdddflaolaaP10
import Derived.Test.YtkhkmdddflaolaaP11
import Derived.Test.YtkhkmdddflaolaaP12
import Derived.Test.YtkhkmdddflaolaaP13
import Derived.Test.YtkhkmdddflaolaaP16
import Derived.Test.YtkhkmdddflaolaaExtFrom
import Derived.Test.YtkhkmdddflaolaaForms
import Derived.Test.YtkhkmdddflaolaaFromLaw
import Derived.Test.YtkhkmdddflaolaaSets
import Derived.Test.YtkhkmdddflaolaaWaveOf
/- Two equal lists are told equal, and a law's copy of a list of whole numbers holds the same; lists of at most 1048576 numbers. -/
namespace Go.Proofs.Ytkhkmdddflaolaa.P
open Go.RowKit Go.Proofs.YtkhkmdddflaolaaW.PrintWords Go.Proofs.YtkhkmdddflaolaaW.PrintLast Go.Proofs.YtkhkmdddflaolaaW.PrintMore
set_option linter.unusedVariables false
set_option linter.unusedSimpArgs false

theorem eqS_loop (l : List Int) (hl : l.length < 1152921504606846976) (d : Nat) : ∀ i : Nat, i + d = l.length → Ev (fun k => laws_eqInt64S.l0 k l l (i : Int)) true := by
  induction d with
  | zero =>
    intro i hi
    refine Ev.succ ?_
    simp only [laws_eqInt64S.l0, if_neg (show ¬ (i : Int) < (l.length : Int) by omega)]
    exact Ev.now _
  | succ d ih =>
    intro i hi
    refine Ev.succ ?_
    simp only [laws_eqInt64S.l0, if_pos (show (i : Int) < (l.length : Int) by omega), if_pos (show (0 : Int) ≤ (i : Int) by omega), if_true]
    rw [show (i : Int) + 1 = ((i + 1 : Nat) : Int) by omega, w64 (by omega) (by omega)]
    exact ih (i + 1) (by omega)
theorem eqS_ev {l : List Int} (hl : l.length < 1152921504606846976) : Ev (fun k => laws_eqInt64S.f k l l) true := by
  unfold laws_eqInt64S.f
  simp only [if_true]
  exact eqS_loop l hl l.length 0 (by omega)
theorem copy_loop (l : List Int) (hl : l.length ≤ 1048576) (d : Nat) : ∀ (i : Nat) (m : List Int), i + d = l.length → m.length = l.length → m.take i = l.take i → Ev (fun k => laws_toInt64S.l0 k l m (i : Int)) l := by
  induction d with
  | zero =>
    intro i m hi hm ht
    refine Ev.succ ?_
    simp only [laws_toInt64S.l0, if_neg (show ¬ (i : Int) < (l.length : Int) by omega)]
    rw [List.take_of_length_le (by omega), List.take_of_length_le (by omega)] at ht
    rw [ht]
    exact Ev.now _
  | succ d ih =>
    intro i m hi hm ht
    refine Ev.succ ?_
    have hlt : i < l.length := by omega
    have e1 : wrap64 ((i : Int) + 1) = ((i + 1 : Nat) : Int) := by rw [w64 (by omega) (by omega)]; omega
    have er : rd l (i : Int) = l[i] := rd_at l i hlt
    simp only [laws_toInt64S.l0, if_pos (show (i : Int) < (l.length : Int) by omega), if_pos (show (0 : Int) ≤ (i : Int) by omega), if_pos (show (i : Int) < (m.length : Int) by omega), er, Int.toNat_natCast, e1]
    refine ih (i + 1) (m.set i l[i]) (by omega) (by rw [List.length_set]; exact hm) ?_
    rw [← List.take_append_getElem hlt, ← List.take_append_getElem (show i < (m.set i l[i]).length by rw [List.length_set]; omega)]
    rw [List.take_set_of_le (Nat.le_refl i), ht, List.getElem_set_self]
theorem toInt64S_ev (l : List Int) (hl : l.length ≤ 1048576) : Ev (fun k => laws_toInt64S.f k l) l := by
  unfold laws_toInt64S.f
  simp only [Int.toNat_natCast, if_pos (show (0 : Int) ≤ (l.length : Int) by omega), if_pos (show l.length ≤ 35184372088832 by omega)]
  exact copy_loop l hl l.length 0 _ (by omega) (by simp) (by simp)
end Go.Proofs.Ytkhkmdddflaolaa.P

namespace Go.Proofs.Ytkhkmdddflaolaa.Pure
open Go.RowKit Go.Proofs.YtkhkmdddflaolaaW.PrintWords Go.Proofs.YtkhkmdddflaolaaW.PrintLast Go.Proofs.YtkhkmdddflaolaaW.PrintMore
set_option linter.unusedVariables false
set_option linter.unusedSimpArgs false
open Go.Proofs.Ytkhkmdddflaolaa.P

theorem rises_loop (l : List Int) (hi : Int) (hl : l.length ≤ 1048576) (d : Nat) : ∀ i : Nat, i + d = l.length → Ev (fun k => spec_l00Rises.l0 k l 0 hi (i : Int)) (setG l hi d i) := by
  induction d with
  | zero =>
    intro i h
    refine Ev.succ ?_
    simp only [spec_l00Rises.l0, if_neg (show ¬ (i : Int) < (l.length : Int) by omega)]
    exact Ev.now _
  | succ d ih =>
    intro i h
    refine Ev.succ ?_
    have e1 : wrap64 ((i : Int) + 1) = ((i + 1 : Nat) : Int) := by rw [w64 (by omega) (by omega)]; omega
    have hn := ih (i + 1) (by omega)
    simp only [spec_l00Rises.l0, if_pos (show (i : Int) < (l.length : Int) by omega), if_pos (show (0 : Int) ≤ (i : Int) by omega), in_form, Option.bind_some, e1, setG, stepB]
    by_cases hw : 0 ≤ rd l (i : Int) ∧ rd l (i : Int) ≤ hi
    · simp only [hw, and_self, decide_true, if_true, Bool.true_and]
      by_cases h0 : i = 0
      · simp only [if_neg (show ¬ (i : Int) > 0 by omega), h0, decide_true, Bool.true_or, Bool.true_and]
        simp only [h0] at hn
        exact hn
      · have e2 : wrap64 ((i : Int) - 1) = ((i - 1 : Nat) : Int) := by rw [w64 (by omega) (by omega)]; omega
        simp only [if_pos (show (i : Int) > 0 by omega), e2, if_pos (show (0 : Int) ≤ ((i - 1 : Nat) : Int) by omega), if_pos (show ((i - 1 : Nat) : Int) < (l.length : Int) by omega), h0, decide_false, Bool.false_or]
        by_cases hr : rd l ((i - 1 : Nat) : Int) < rd l (i : Int)
        · simp only [if_neg (show ¬ rd l ((i - 1 : Nat) : Int) ≥ rd l (i : Int) by omega), hr, decide_true, Bool.true_and]
          exact hn
        · simp only [if_pos (show rd l ((i - 1 : Nat) : Int) ≥ rd l (i : Int) by omega), hr, decide_false, Bool.false_and]
          exact Ev.now _
    · simp only [hw, decide_false, Bool.false_eq_true, if_false, Bool.false_and]
      exact Ev.now _
theorem rises_ev {l : List Int} {hi : Int} (hl : l.length ≤ 1048576) : Ev (fun k => spec_l00Rises.f k l 0 hi) (setB l hi) := by
  unfold spec_l00Rises.f
  exact rises_loop l hi hl l.length 0 (by omega)
theorem has_loop (l : List Int) (x : Int) (hl : l.length ≤ 1048576) (d : Nat) : ∀ i : Nat, i + d = l.length → Ev (fun k => spec_l00Has.l0 k l x (i : Int)) (hasG l x d i) := by
  induction d with
  | zero =>
    intro i h
    refine Ev.succ ?_
    simp only [spec_l00Has.l0, if_neg (show ¬ (i : Int) < (l.length : Int) by omega)]
    exact Ev.now _
  | succ d ih =>
    intro i h
    refine Ev.succ ?_
    have e1 : wrap64 ((i : Int) + 1) = ((i + 1 : Nat) : Int) := by rw [w64 (by omega) (by omega)]; omega
    have hn := ih (i + 1) (by omega)
    simp only [spec_l00Has.l0, if_pos (show (i : Int) < (l.length : Int) by omega), if_pos (show (0 : Int) ≤ (i : Int) by omega), e1, hasG]
    by_cases hx : rd l (i : Int) = x
    · simp only [hx, if_true, decide_true, Bool.true_or]
      exact Ev.now _
    · simp only [hx, if_false, decide_false, Bool.false_or]
      exact hn
theorem has_ev {l : List Int} {x : Int} (hl : l.length ≤ 1048576) : Ev (fun k => spec_l00Has.f k l x) (decide (x ∈ l)) := by
  unfold spec_l00Has.f
  rw [← hasG_mem]
  exact has_loop l x hl l.length 0 (by omega)

def okG (u d : List Int) : Nat → Nat → Bool
  | 0, _ => true
  | e + 1, i => !badU u d i && okG u d e (i + 1)
theorem okG_iff (u d : List Int) (e : Nat) : ∀ i, okG u d e i = true ↔ ∀ j, i ≤ j → j < i + e → badU u d j = false := by
  induction e with
  | zero => intro i; exact ⟨fun _ j h1 h2 => by omega, fun _ => rfl⟩
  | succ e ih =>
    intro i
    rw [okG, Bool.and_eq_true, Bool.not_eq_true', ih (i + 1)]
    constructor
    · rintro ⟨h1, h2⟩ j h3 h4
      by_cases hj : j = i
      · rw [hj]; exact h1
      · exact h2 j (by omega) (by omega)
    · intro h
      exact ⟨h i (by omega) (by omega), fun j h3 h4 => h j (by omega) (by omega)⟩
theorem from_loop (u d : List Int) (hu : u.length ≤ 1048576) (hd : d.length ≤ 1048576) (n : Nat) (hn : n ≤ 400) (e : Nat) : ∀ i : Nat, i + e = n →
    Ev (fun k => spec_l01From.l0 k u d (n : Int) (levels (fun i => levU u d (i + 1)) i) (lvB (levU u d i)) (i : Int)) (if okG u d e i = true then (waveStr (fun i => levU u d (i + 1)) n, true) else ((⟨#[]⟩ : ByteArray), false)) := by
  induction e with
  | zero =>
    intro i hi
    refine Ev.succ ?_
    obtain rfl : i = n := by omega
    simp only [spec_l01From.l0, Int.lt_irrefl, if_false, okG, if_true]
    exact Ev.now _
  | succ e ih =>
    intro i hi
    refine Ev.succ ?_
    have e1 : wrap64 ((i : Int) + 1) = ((i + 1 : Nat) : Int) := by rw [w64 (by omega) (by omega)]; omega
    have hlen : (levels (fun i => levU u d (i + 1)) i).length < 140737488355328 := by rw [levels_length]; omega
    have hnx := ih (i + 1) (by omega)
    simp only [spec_l01From.l0, if_pos (show (i : Int) < (n : Int) by omega)]
    refine Ev.bind (has_ev hu) (Ev.bind (has_ev hd) ?_)
    rw [okG]
    unfold badU
    simp only [levels, levU] at hnx
    by_cases h1 : (i : Int) ∈ u <;> by_cases h2 : (i : Int) ∈ d <;> cases h3 : levU u d i <;> simp only [h1, h2, h3, lvB, decide_true, decide_false, if_true, if_false, Bool.true_and, Bool.false_and, Bool.and_true, Bool.and_false, Bool.true_or, Bool.or_true, Bool.false_or, Bool.or_false, Bool.not_true, Bool.not_false, Bool.false_eq_true, reduceCtorEq, Int.reduceEq, Int.reduceBEq] at hnx ⊢ <;> refine Ev.succ ?_ <;> simp only [spec_l01From.j1, if_true, if_false, Bool.false_eq_true, if_pos hlen, e1] <;> first | exact Ev.now _ | exact hnx
theorem from_both {u d : List Int} {n : Int} (hu : u.length ≤ 1048576) (hd : d.length ≤ 1048576) (hwf : -9223372036854775808 ≤ n ∧ n ≤ 9223372036854775807) : ∃ v, Ev (fun k => spec_WaveFrom.f k u d n) v ∧ impl_WaveFrom.f u d n = some v := by
  unfold spec_WaveFrom.f impl_WaveFrom.f
  simp only [in_form, Option.bind_some, if_pos (And.intro hu hd)]
  by_cases ht : 0 ≤ n ∧ n ≤ 400
  · have ew : wrap64 (n - 1) = n - 1 := w64 (by omega) (by omega)
    simp only [ht, and_self, decide_true, if_true, true_and, ew]
    cases hs : setB u (n - 1) with
    | false =>
      refine ⟨(⟨#[]⟩, false), Ev.bind (Ev.eq (rises_ev hu) hs) ?_, ?_⟩
      · simp only [Bool.false_eq_true, if_false]; exact Ev.now _
      · simp only [Bool.false_eq_true, false_and, if_false]
    | true =>
      cases hs2 : setB d (n - 1) with
      | false =>
        refine ⟨(⟨#[]⟩, false), Ev.bind (Ev.eq (rises_ev hu) hs) ?_, ?_⟩
        · simp only [if_true]
          refine Ev.bind (Ev.eq (rises_ev hd) hs2) ?_
          simp only [Bool.false_eq_true, if_false]; exact Ev.now _
        · simp only [Bool.false_eq_true, and_false, if_false]
      | true =>
        obtain ⟨m, rfl⟩ := Int.eq_ofNat_of_zero_le ht.1
        have hm : m ≤ 400 := by omega
        have hiff := checks_iff (n := m) (setB_rising hs) (fun x hx => by have := setB_bound hs x hx; omega) (setB_rising hs2) (fun x hx => by have := setB_bound hs2 x hx; omega)
        have hok : okG u d m 0 = true ↔ (collect (upAt u d) m = u ∧ collect (downAt u d) m = d) := by
          rw [hiff, okG_iff]
          exact ⟨fun h i hi => h i (by omega) (by omega), fun h j _ hj => h j (by omega)⟩
        refine ⟨if okG u d m 0 = true then (waveStr (fun i => levU u d (i + 1)) m, true) else ((⟨#[]⟩ : ByteArray), false), Ev.bind (Ev.eq (rises_ev hu) hs) ?_, ?_⟩
        · simp only [if_true]
          refine Ev.bind (Ev.eq (rises_ev hd) hs2) ?_
          simp only [if_true]
          unfold spec_l01From.f
          exact Ev.bind (from_loop u d hu hd m hm m 0 (by omega)) (Ev.now _)
        · simp only [and_self, if_true, Int.toNat_natCast]
          by_cases h : collect (upAt u d) m = u ∧ collect (downAt u d) m = d
          · rw [if_pos h, if_pos (hok.mpr h)]
          · rw [if_neg h, if_neg (fun z => h (hok.mp z))]
  · simp only [ht, decide_false, Bool.false_eq_true, if_false, false_and]
    exact ⟨_, Ev.now _, rfl⟩
theorem FnExactWaveFrom : laws_FnExactWaveFrom.Pure := by
  intro u d n _ _ _ _ _ _ hw
  have hwf := wf64 hw
  apply Ev.rounds
  unfold laws_FnExactWaveFrom.f
  by_cases h1 : (u.length : Int) > 1048576
  · simp only [if_pos h1]; exact Ev.now _
  by_cases h2 : (d.length : Int) > 1048576
  · simp only [if_neg h1, if_pos h2]; exact Ev.now _
  simp only [if_neg h1, if_neg h2]
  have hu : u.length ≤ 1048576 := by omega
  have hd : d.length ≤ 1048576 := by omega
  obtain ⟨v, h3, h4⟩ := from_both hu hd hwf
  refine Ev.bind (toInt64S_ev u hu) (Ev.bind (toInt64S_ev d hd) (Ev.bind h3 (Ev.bind (toInt64S_ev u hu) (Ev.bind (toInt64S_ev d hd) ?_))))
  simp only [h4, Option.bind_some, if_true, bne_self_eq_false]
  refine Ev.succ ?_
  simp only [laws_FnExactWaveFrom.j0, Bool.false_eq_true, if_false]
  refine Ev.bind (toInt64S_ev u hu) (Ev.bind (eqS_ev (by omega)) ?_)
  simp only [if_true]
  refine Ev.bind (toInt64S_ev d hd) (Ev.bind (eqS_ev (by omega)) ?_)
  simp only [if_true]
  exact Ev.now _
end Go.Proofs.Ytkhkmdddflaolaa.Pure
