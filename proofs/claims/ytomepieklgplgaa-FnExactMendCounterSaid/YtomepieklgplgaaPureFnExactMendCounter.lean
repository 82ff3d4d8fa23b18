/- The program's MendCounter returns what the reference's returns, for all counters and states; no condition. -/
import Derived.Test.YtomepieklgplgaaP9
import Derived.Test.YtomepieklgplgaaBase
import Derived.Test.YtomepieklgplgaaP1
import Derived.Test.YtomepieklgplgaaP2
import Derived.Test.YtomepieklgplgaaExtValid
import Derived.Test.YtomepieklgplgaaForms
import Derived.Test.YtomepieklgplgaaStates
import Derived.Test.YtomepieklgplgaaP6
import Derived.Test.YtomepieklgplgaaP3
import Derived.Laws.CopyOwn
import Derived.Deep.RegionLaw
import Derived.Deep.QuietTactic
import Derived.BigQuiet
import Derived.Lib.Hide
import Derived.Test.YtomepieklgplgaaExtGrow
import Derived.Test.YtomepieklgplgaaP0
import Derived.Test.YtomepieklgplgaaP4
import Derived.Test.YtomepieklgplgaaP14
import Derived.Test.YtomepieklgplgaaExtRep
import Derived.Test.YtomepieklgplgaaP7
import Derived.Test.YtomepieklgplgaaP16
import Derived.Test.YtomepieklgplgaaP18
import Derived.Test.YtomepieklgplgaaExtClone
import Derived.Test.YtomepieklgplgaaP20
import Derived.Test.YtomepieklgplgaaP21
/- What the laws do with lists of whole numbers: two equal lists are told equal; marks that were written are found again. The lists hold fewer than 2^60 numbers. -/
namespace Go.Proofs.Ytomepieklgplgaa.P
open Go.RowKit Go.Proofs.YtomepieklgplgaaW.PrintWords Go.Proofs.YtomepieklgplgaaW.PrintLast Go.Proofs.YtomepieklgplgaaW.PrintMore

theorem eqS_loop (l : List Int) (hl : l.length < 1152921504606846976) (d : Nat) : ∀ i : Nat, i + d = l.length → Ev (fun k => laws_eqInt64S.l0 k l l (i : Int)) true := by
  induction d with
  | zero =>
    intro i hi
    refine Ev.succ ?_
    simp only [laws_eqInt64S.l0, if_neg (show ¬ (i : Int) < (l.length : Int) by omega)]
    exact Ev.now _
  | succ d ih =>
    intro i hi
    refine Ev.succ ?_
    simp only [laws_eqInt64S.l0, if_pos (show (i : Int) < (l.length : Int) by omega), if_pos (show (0 : Int) ≤ (i : Int) by omega), if_true]
    rw [show (i : Int) + 1 = ((i + 1 : Nat) : Int) by omega, w64 (by omega) (by omega)]
    exact ih (i + 1) (by omega)
theorem eqS_ev {l : List Int} (hl : l.length < 1152921504606846976) : Ev (fun k => laws_eqInt64S.f k l l) true := by
  unfold laws_eqInt64S.f
  simp only [if_true]
  exact eqS_loop l hl l.length 0 (by omega)

/-- n marks from s on. -/
def marks : Nat → Int → List Int
  | 0, _ => []
  | n + 1, s => s :: marks n (s + 1)
theorem marks_length (n : Nat) : ∀ s, (marks n s).length = n := by
  induction n with
  | zero => intro s; rfl
  | succ n ih => intro s; simp [marks, ih]
theorem marks_get (n : Nat) : ∀ (s : Int) (j : Nat), j < n → (marks n s)[j]? = some (s + j) := by
  induction n with
  | zero => intro s j h; omega
  | succ n ih =>
    intro s j h
    cases j with
    | zero => simp [marks]
    | succ j => simp only [marks, List.getElem?_cons_succ, ih (s + 1) j (by omega)]; congr 1; omega
theorem rd_marks (n : Nat) (s : Int) (j : Nat) (h : j < n) : rd (marks n s) (j : Int) = s + j := by
  unfold rd
  simp [List.getD_eq_getElem?_getD, marks_get n s j h]
theorem set_mid (pre : List Int) (x y : Int) (post : List Int) : (pre ++ x :: post).set pre.length y = pre ++ y :: post := by
  simp
theorem mark_loop (s : Int) (hs0 : 0 ≤ s) (rest : List Int) : ∀ (pre : List Int) (m : Int), m = s + pre.length → s + pre.length + rest.length < 1152921504606846976 →
    Ev (fun k => laws_markInt64S.l0 k (pre ++ rest) m (pre.length : Int)) (m + rest.length, pre ++ marks rest.length m) := by
  induction rest with
  | nil =>
    intro pre m hm hb
    refine Ev.succ ?_
    simp only [laws_markInt64S.l0, List.append_nil, Int.lt_irrefl, if_false]
    exact Ev.const (by simp [marks])
  | cons x rest ih =>
    intro pre m hm hb
    refine Ev.succ ?_
    simp only [List.length_cons] at hb
    simp only [laws_markInt64S.l0, if_pos (show (pre.length : Int) < ((pre ++ x :: rest).length : Int) by simp; omega), if_pos (show (0 : Int) ≤ (pre.length : Int) by omega), Int.toNat_natCast, set_mid]
    rw [w64 (by omega) (by omega), w64 (by omega) (by omega)]
    have h := ih (pre ++ [m]) (m + 1) (by simp; omega) (by simp; omega)
    simp only [List.append_assoc, List.singleton_append, List.length_append, List.length_singleton] at h
    refine Ev.eq (Ev.congr (fun k => ?_) h) ?_
    · congr 1
    · rw [List.length_cons, marks]
      refine Prod.ext ?_ rfl
      show m + 1 + (rest.length : Int) = m + ((rest.length + 1 : Nat) : Int)
      omega
theorem mark_ev {s : Int} (hs0 : 0 ≤ s) {l : List Int} (hl : s + l.length < 1152921504606846976) : Ev (fun k => laws_markInt64S.f k l s) (s + l.length, marks l.length s) := by
  have h := mark_loop s hs0 l [] s (by simp) (by simpa using hl)
  exact h
theorem held_loop (L : List Int) (s : Int) (hs0 : 0 ≤ s) (hL : s + L.length < 1152921504606846976) (hr : ∀ j : Nat, j < L.length → rd L (j : Int) = s + j) (d : Nat) :
    ∀ i : Nat, i + d = L.length → Ev (fun k => laws_heldInt64S.l0 k L (s + i) (i : Int)) (s + L.length) := by
  induction d with
  | zero =>
    intro i hi
    refine Ev.succ ?_
    simp only [laws_heldInt64S.l0, if_neg (show ¬ (i : Int) < (L.length : Int) by omega)]
    exact Ev.const (by congr 1; omega)
  | succ d ih =>
    intro i hi
    refine Ev.succ ?_
    simp only [laws_heldInt64S.l0, if_pos (show (i : Int) < (L.length : Int) by omega), if_pos (show (0 : Int) ≤ (i : Int) by omega), if_pos (hr i (by omega))]
    rw [w64 (by omega) (by omega), w64 (by omega) (by omega)]
    refine Ev.congr (fun k => ?_) (ih (i + 1) (by omega))
    congr 1
    omega
theorem held_ev {s : Int} (hs0 : 0 ≤ s) {n : Nat} (hl : s + n < 1152921504606846976) : Ev (fun k => laws_heldInt64S.f k (marks n s) s) (s + n) := by
  have h := held_loop (marks n s) s hs0 (by rw [marks_length]; exact hl) (fun j hj => rd_marks n s j (by rwa [marks_length] at hj)) n 0 (by rw [marks_length]; omega)
  unfold laws_heldInt64S.f
  refine Ev.eq (Ev.congr (fun k => ?_) h) ?_
  · congr 1; omega
  · rw [marks_length]
end Go.Proofs.Ytomepieklgplgaa.P

/- Counters: when one is valid, as the program and as the reference ask it; a law's copying and comparing of counters. Lists of at most 1048576 numbers. -/
namespace Go.Proofs.Ytomepieklgplgaa.P
open Go.RowKit Go.Proofs.YtomepieklgplgaaW.PrintWords Go.Proofs.YtomepieklgplgaaW.PrintLast Go.Proofs.YtomepieklgplgaaW.PrintMore

def validB (n : Int) (l : List Int) : Bool := decide (1 ≤ n ∧ n ≤ 8) && decide ((l.length : Int) = 2 ^ n.toNat) && l.all fun x => isStB n x
theorem any_not (n : Int) (l : List Int) : (!(l.any fun x => !isStB n x)) = l.all fun x => isStB n x := by
  induction l with
  | nil => rfl
  | cons a l ih => simp only [List.any_cons, List.all_cons, Bool.not_or, Bool.not_not, ih]
theorem implValid_form (n : Int) (l : List Int) : impl_ValidCounter.f n l = some (validB n l) := by
  unfold impl_ValidCounter.f validB
  by_cases h1 : 1 ≤ n ∧ n ≤ 8
  · by_cases h2 : (l.length : Int) = 2 ^ n.toNat
    · have h3 : l.length = 2 ^ n.toNat := by exact_mod_cast h2
      rw [if_pos ⟨h1.1, h1.2, h3⟩, any_not, decide_eq_true h1, decide_eq_true h2, Bool.true_and, Bool.true_and]
    · have h3 : ¬ l.length = 2 ^ n.toNat := fun z => h2 (by exact_mod_cast z)
      rw [if_neg (fun z => h3 z.2.2), decide_eq_false h2, Bool.and_false, Bool.false_and]
  · rw [if_neg (fun z => h1 ⟨z.1, z.2.1⟩), decide_eq_false h1, Bool.false_and, Bool.false_and]
theorem is_loop (n : Int) (l : List Int) (hl : l.length ≤ 1048576) (d : Nat) : ∀ i : Nat, i + d = l.length → Ev (fun k => spec_l02Is.l0 k (i : Int) n l) ((l.drop i).all (fun x => isStB n x), n) := by
  induction d with
  | zero =>
    intro i hi
    refine Ev.succ ?_
    rw [List.drop_eq_nil_of_le (by omega)]
    simp only [spec_l02Is.l0, if_neg (show ¬ (i : Int) < (l.length : Int) by omega)]
    exact Ev.now _
  | succ d ih =>
    intro i hi
    refine Ev.succ ?_
    have hlt : i < l.length := by omega
    have e1 : wrap64 ((i : Int) + 1) = ((i + 1 : Nat) : Int) := by rw [w64 (by omega) (by omega)]; omega
    have er : rd l (i : Int) = l[i] := rd_at l i hlt
    rw [List.drop_eq_getElem_cons hlt, List.all_cons]
    simp only [spec_l02Is.l0, if_pos (show (i : Int) < (l.length : Int) by omega), if_pos (show (0 : Int) ≤ (i : Int) by omega), er, state_form, Option.bind_some, e1]
    by_cases hs : isSt n l[i]
    · simp only [hs, decide_true, if_true, isStB, Bool.true_and]
      exact ih (i + 1) (by omega)
    · simp only [hs, decide_false, Bool.false_eq_true, if_false, isStB, Bool.false_and]
      exact Ev.now _
theorem specIs_ev (n : Int) (l : List Int) (hl : l.length ≤ 1048576) : Ev (fun k => spec_l02Is.f k n l) (validB n l, n) := by
  unfold spec_l02Is.f spec_l02Bits.f validB
  simp only [in_form, Option.bind_some]
  by_cases h1 : 1 ≤ n ∧ n ≤ 8
  · simp only [h1, and_self, decide_true, if_true, size_form (show 0 ≤ n ∧ n ≤ 62 by omega), Option.bind_some]
    by_cases h2 : (l.length : Int) = 2 ^ n.toNat
    · refine Ev.succ ?_
      simp only [spec_l02Is.j0, h2, bne_self_eq_false, Bool.false_eq_true, if_false, decide_true, Bool.true_and]
      have h := is_loop n l hl l.length 0 (by omega)
      rw [List.drop_zero] at h
      exact h
    · have hb : ((l.length : Int) != 2 ^ n.toNat) = true := bne_iff_ne.mpr h2
      refine Ev.succ ?_
      simp only [spec_l02Is.j0, hb, if_true, h2, decide_false, Bool.true_and, Bool.false_and]
      exact Ev.now _
  · simp only [h1, decide_false, Bool.false_eq_true, if_false, Bool.false_and]
    refine Ev.succ ?_
    simp only [spec_l02Is.j0, if_true]
    exact Ev.now _
theorem sz_long {n : Int} {l : List Int} (hm : l.length ≤ maxLen) (h : 1048576 < l.length) : laws_szCounter.f n l 1048576 = some (-1) := by
  unfold laws_szCounter.f laws_szInt64S.f
  have hx : maxLen ≤ 9223372036854775807 := by decide
  have hm' : (l.length : Int) ≤ 9223372036854775807 := by omega
  rw [w64 (by omega) (by omega), if_pos (by omega)]
  rfl
theorem sz_short {n : Int} {l : List Int} (h : l.length ≤ 1048576) : laws_szCounter.f n l 1048576 = some (1048576 - (l.length : Int)) := by
  unfold laws_szCounter.f laws_szInt64S.f
  rw [w64 (by omega) (by omega), if_neg (by omega)]
  simp only [Option.bind_some]
  rw [if_neg (by omega)]
theorem copy_loop (l : List Int) (hl : l.length ≤ 1048576) (d : Nat) : ∀ (i : Nat) (m : List Int), i + d = l.length → m.length = l.length → m.take i = l.take i → Ev (fun k => laws_toInt64S.l0 k l m (i : Int)) l := by
  induction d with
  | zero =>
    intro i m hi hm ht
    refine Ev.succ ?_
    simp only [laws_toInt64S.l0, if_neg (show ¬ (i : Int) < (l.length : Int) by omega)]
    rw [List.take_of_length_le (by omega), List.take_of_length_le (by omega)] at ht
    rw [ht]
    exact Ev.now _
  | succ d ih =>
    intro i m hi hm ht
    refine Ev.succ ?_
    have hlt : i < l.length := by omega
    have e1 : wrap64 ((i : Int) + 1) = ((i + 1 : Nat) : Int) := by rw [w64 (by omega) (by omega)]; omega
    have er : rd l (i : Int) = l[i] := rd_at l i hlt
    simp only [laws_toInt64S.l0, if_pos (show (i : Int) < (l.length : Int) by omega), if_pos (show (0 : Int) ≤ (i : Int) by omega), if_pos (show (i : Int) < (m.length : Int) by omega), er, Int.toNat_natCast, e1]
    refine ih (i + 1) (m.set i l[i]) (by omega) (by rw [List.length_set]; exact hm) ?_
    rw [← List.take_append_getElem hlt, ← List.take_append_getElem (show i < (m.set i l[i]).length by rw [List.length_set]; omega)]
    rw [List.take_set_of_le (Nat.le_refl i), ht, List.getElem_set_self]
theorem toCounter_ev (n : Int) (l : List Int) (hl : l.length ≤ 1048576) : Ev (fun k => laws_toCounter.f k n l) (n, l) := by
  unfold laws_toCounter.f laws_toInt64S.f
  simp only [Int.toNat_natCast, if_pos (show (0 : Int) ≤ (l.length : Int) by omega), if_pos (show l.length ≤ 35184372088832 by omega)]
  exact Ev.bind (a := l) (copy_loop l hl l.length 0 _ (by omega) (by simp) (by simp)) (Ev.now _)
theorem eqCounter_ev (n : Int) (l : List Int) (hl : l.length ≤ 1048576) : Ev (fun k => laws_eqCounter.f k n l n l) true := by
  unfold laws_eqCounter.f
  simp only [if_true]
  refine Ev.bind (eqS_ev (l := l) (by omega)) ?_
  simp only [if_true]
  exact Ev.now _
end Go.Proofs.Ytomepieklgplgaa.P

/- What the laws do with counters that a function returned: marks written into one are found again. Lists of fewer than 2^60 numbers. -/
namespace Go.Proofs.Ytomepieklgplgaa.P
open Go.RowKit Go.Proofs.YtomepieklgplgaaW.PrintWords Go.Proofs.YtomepieklgplgaaW.PrintLast Go.Proofs.YtomepieklgplgaaW.PrintMore

theorem markC_ev (n : Int) {l : List Int} (hl : 1 + (l.length : Int) < 1152921504606846976) : Ev (fun k => laws_markCounter.f k n l 1) (1 + l.length, marks l.length 1) := by
  unfold laws_markCounter.f
  exact Ev.bind (mark_ev (by omega) hl) (Ev.now _)
theorem heldC_ev (n : Int) {m : Nat} (hl : 1 + (m : Int) < 1152921504606846976) : Ev (fun k => laws_heldCounter.f k n (marks m 1) 1) (1 + (m : Int)) := by
  unfold laws_heldCounter.f
  refine Ev.bind (held_ev (by omega) hl) ?_
  simp only [if_neg (show ¬ (1 + (m : Int)) < 0 by omega)]
  exact Ev.now _
end Go.Proofs.Ytomepieklgplgaa.P

/- A counter that is whole; the states that it runs through; no condition beyond lists of at most 1048576 numbers. -/
namespace Go.Proofs.Ytomepieklgplgaa.P
open Go.RowKit Go.Proofs.YtomepieklgplgaaW.PrintWords Go.Proofs.YtomepieklgplgaaW.PrintLast Go.Proofs.YtomepieklgplgaaW.PrintMore

/-- A counter of n bits, whole. -/
def okC (n : Int) (l : List Int) : Prop := (1 ≤ n ∧ n ≤ 8) ∧ (l.length : Int) = 2 ^ n.toNat ∧ ∀ x ∈ l, isSt n x
instance (n : Int) (l : List Int) : Decidable (okC n l) := by unfold okC; infer_instance
/-- The state after i steps. -/
def outX (l : List Int) (x : Int) : Nat → Int
  | 0 => x
  | i + 1 => rd l (outX l x i)
theorem okC_form (n : Int) (l : List Int) : impl_ValidCounter.f n l = some (decide (okC n l)) := by
  unfold impl_ValidCounter.f
  by_cases h1 : 1 ≤ n ∧ n ≤ 8
  · by_cases h2 : (l.length : Int) = 2 ^ n.toNat
    · have h3 : l.length = 2 ^ n.toNat := by exact_mod_cast h2
      rw [if_pos ⟨h1.1, h1.2, h3⟩]
      congr 1
      rw [Bool.eq_iff_iff, decide_eq_true_eq]
      simp only [Bool.not_eq_true', List.any_eq_false]
      exact ⟨fun h => ⟨h1, h2, fun x hx => by simpa [isStB] using h x hx⟩, fun h x hx => by simpa [isStB] using h.2.2 x hx⟩
    · have h3 : ¬ l.length = 2 ^ n.toNat := fun z => h2 (by exact_mod_cast z)
      rw [if_neg (fun z => h3 z.2.2), decide_eq_false (fun z => h2 z.2.1)]
  · rw [if_neg (fun z => h1 ⟨z.1, z.2.1⟩), decide_eq_false (fun z => h1 z.1)]
theorem isState_form (n : Int) (l : List Int) (x : Int) : impl_Counter_isState.f n l x = some (decide (okC n l ∧ isSt n x)) := by
  unfold impl_Counter_isState.f
  simp only [okC_form, Option.bind_some, isStateOf_form]
  by_cases h : okC n l
  · simp [h]
  · simp [h]
theorem outX_st {n : Int} {l : List Int} {x : Int} (hok : okC n l) (hx : isSt n x) (i : Nat) : isSt n (outX l x i) := by
  induction i with
  | zero => exact hx
  | succ i ih =>
    obtain ⟨h1, h2, h3⟩ := hok
    obtain ⟨y, hy⟩ : ∃ y : Nat, outX l x i = (y : Int) := Int.eq_ofNat_of_zero_le ih.2.1
    have hlt : y < l.length := by have := ih.2.2; omega
    rw [outX, hy, rd_at l y hlt]
    exact h3 _ (List.getElem_mem hlt)

theorem validB_ok (n : Int) (l : List Int) : validB n l = decide (okC n l) := by
  have h1 := implValid_form n l
  rw [okC_form] at h1
  exact (Option.some.inj h1).symm
theorem specAt_ev (n : Int) (l : List Int) (x : Int) (hl : l.length ≤ 1048576) : Ev (fun k => spec_l02At.f k n l x) (decide (okC n l ∧ isSt n x), n) := by
  unfold spec_l02At.f
  refine Ev.bind (specIs_ev n l hl) ?_
  rw [validB_ok]
  by_cases h : okC n l
  · simp only [h, decide_true, if_true, state_form, Option.bind_some, true_and]
    exact Ev.now _
  · simp only [h, decide_false, Bool.false_eq_true, if_false, false_and]
    exact Ev.now _
end Go.Proofs.Ytomepieklgplgaa.P

/- The ring that a state of a whole counter reaches, and the steps to it: the program's loops and the reference's come to the same. -/
namespace Go.Proofs.Ytomepieklgplgaa.P
open Go.RowKit Go.Proofs.YtomepieklgplgaaW.PrintWords Go.Proofs.YtomepieklgplgaaW.PrintLast Go.Proofs.YtomepieklgplgaaW.PrintMore

/-- The states before step i. -/
def pathX (l : List Int) (x : Int) : Nat → List Int
  | 0 => []
  | i + 1 => pathX l x i ++ [outX l x i]
theorem pathX_length (l : List Int) (x : Int) (i : Nat) : (pathX l x i).length = i := by
  induction i with
  | zero => rfl
  | succ i ih => simp [pathX, ih]
/-- The first step, from i on, at which a state comes again. -/
def turnX (l : List Int) (x : Int) : Nat → Nat → Nat
  | 0, i => i
  | k + 1, i => if outX l x i ∈ pathX l x i then i else turnX l x k (i + 1)
def ringT (l : List Int) (x : Int) : Nat := turnX l x (l.length + 1) 0
def tailOf (l : List Int) (x : Int) : Nat := (pathX l x (ringT l x)).idxOf (outX l x (ringT l x))
def rawRing (l : List Int) (x : Int) : List Int := (pathX l x (ringT l x)).drop (tailOf l x)
def leastOf (r : List Int) : Int := r.tail.foldl mn (r.headD 0)

theorem outX_lt {n : Int} {l : List Int} {x : Int} (hok : okC n l) (hx : isSt n x) (i : Nat) : 0 ≤ outX l x i ∧ outX l x i < (l.length : Int) := by
  have h := outX_st hok hx i
  exact ⟨h.2.1, by have := h.2.2; have := hok.2.1; omega⟩
theorem turnX_spec (l : List Int) (x : Int) (k : Nat) : ∀ i, i ≤ turnX l x k i ∧ turnX l x k i ≤ i + k ∧ (∀ j, i ≤ j → j < turnX l x k i → outX l x j ∉ pathX l x j) ∧ (turnX l x k i < i + k → outX l x (turnX l x k i) ∈ pathX l x (turnX l x k i)) := by
  induction k with
  | zero => intro i; exact ⟨Nat.le_refl _, Nat.le_refl _, fun j h1 h2 => absurd h2 (by simp only [turnX]; omega), fun h => absurd h (by simp only [turnX]; omega)⟩
  | succ k ih =>
    intro i
    by_cases hc : outX l x i ∈ pathX l x i
    · have e : turnX l x (k + 1) i = i := by rw [turnX, if_pos hc]
      rw [e]
      exact ⟨Nat.le_refl _, by omega, fun j h1 h2 => by omega, fun _ => hc⟩
    · have e : turnX l x (k + 1) i = turnX l x k (i + 1) := by rw [turnX, if_neg hc]
      rw [e]
      obtain ⟨h1, h2, h3, h4⟩ := ih (i + 1)
      refine ⟨by omega, by omega, fun j g1 g2 => ?_, fun h => h4 (by omega)⟩
      by_cases hj : j = i
      · rw [hj]; exact hc
      · exact h3 j (by omega) g2
theorem nodup_bound (N : Nat) : ∀ p : List Int, p.Nodup → (∀ y ∈ p, 0 ≤ y ∧ y < (N : Int)) → p.length ≤ N := by
  induction N with
  | zero =>
    intro p _ h
    cases p with
    | nil => exact Nat.le_refl _
    | cons a p => have := h a List.mem_cons_self; omega
  | succ N ih =>
    intro p hp h
    have h2 := ih (p.erase (N : Int)) (hp.erase _) (fun y hy => by
      have hy1 := List.mem_of_mem_erase hy
      have hy2 : y ≠ (N : Int) := fun e => by rw [e] at hy; exact (List.Nodup.not_mem_erase hp) hy
      have := h y hy1
      omega)
    have h3 : p.length - 1 ≤ (p.erase (N : Int)).length := by
      rw [List.length_erase]; split <;> omega
    omega
theorem pathX_mem {l : List Int} {x : Int} {i : Nat} {y : Int} : y ∈ pathX l x i ↔ ∃ j, j < i ∧ y = outX l x j := by
  induction i with
  | zero => simp [pathX]
  | succ i ih =>
    rw [pathX, List.mem_append, List.mem_singleton, ih]
    constructor
    · rintro (⟨j, h1, h2⟩ | h)
      · exact ⟨j, by omega, h2⟩
      · exact ⟨i, by omega, h⟩
    · rintro ⟨j, h1, h2⟩
      by_cases h : j = i
      · exact .inr (by rw [h2, h])
      · exact .inl ⟨j, by omega, h2⟩
theorem pathX_nodup {l : List Int} {x : Int} {i : Nat} (h : ∀ j, j < i → outX l x j ∉ pathX l x j) : (pathX l x i).Nodup := by
  induction i with
  | zero => exact List.nodup_nil
  | succ i ih =>
    rw [pathX, List.nodup_append]
    refine ⟨ih (fun j hj => h j (by omega)), by simp, fun a ha b hb => ?_⟩
    rw [List.mem_singleton] at hb
    rintro rfl
    rw [hb] at ha
    exact h i (by omega) ha
/-- Where the run turns. -/
theorem ringT_spec {n : Int} {l : List Int} {x : Int} (hok : okC n l) (hx : isSt n x) : ringT l x ≤ l.length ∧ (∀ j, j < ringT l x → outX l x j ∉ pathX l x j) ∧ outX l x (ringT l x) ∈ pathX l x (ringT l x) := by
  obtain ⟨_, h2, h3, h4⟩ := turnX_spec l x (l.length + 1) 0
  have hd := pathX_nodup (l := l) (x := x) (i := ringT l x) (fun j hj => h3 j (by omega) hj)
  have hb := nodup_bound l.length _ hd (fun y hy => by
    obtain ⟨j, _, rfl⟩ := pathX_mem.mp hy
    exact outX_lt hok hx j)
  rw [pathX_length] at hb
  exact ⟨hb, fun j hj => h3 j (by omega) hj, h4 (by show ringT l x < _; omega)⟩

theorem mn_le (a b : Int) : mn a b ≤ a ∧ mn a b ≤ b ∧ (mn a b = a ∨ mn a b = b) := by
  unfold mn; split <;> omega
theorem fold_mn (l : List Int) : ∀ a, (l.foldl mn a = a ∨ l.foldl mn a ∈ l) ∧ l.foldl mn a ≤ a ∧ ∀ y ∈ l, l.foldl mn a ≤ y := by
  induction l with
  | nil => intro a; exact ⟨.inl rfl, Int.le_refl _, fun y hy => by cases hy⟩
  | cons b l ih =>
    intro a
    obtain ⟨h1, h2, h3⟩ := ih (mn a b)
    obtain ⟨m1, m2, m3⟩ := mn_le a b
    rw [List.foldl_cons]
    refine ⟨?_, by omega, fun y hy => ?_⟩
    · rcases h1 with h | h
      · rcases m3 with m | m
        · exact .inl (by omega)
        · exact .inr (by rw [h, m]; exact List.mem_cons_self)
      · exact .inr (List.mem_cons_of_mem _ h)
    · rcases List.mem_cons.mp hy with rfl | hy
      · omega
      · exact h3 y hy
theorem least_spec {r : List Int} (h : r ≠ []) : leastOf r ∈ r ∧ ∀ y ∈ r, leastOf r ≤ y := by
  cases r with
  | nil => exact absurd rfl h
  | cons a l =>
    obtain ⟨h1, h2, h3⟩ := fold_mn l a
    show l.foldl mn a ∈ a :: l ∧ ∀ y ∈ a :: l, l.foldl mn a ≤ y
    refine ⟨?_, fun y hy => ?_⟩
    · rcases h1 with h | h
      · rw [h]; exact List.mem_cons_self
      · exact List.mem_cons_of_mem _ h
    · rcases List.mem_cons.mp hy with rfl | hy
      · exact h2
      · exact h3 y hy
theorem least_snoc {p : List Int} (h : p ≠ []) (a : Int) : leastOf (p ++ [a]) = mn (leastOf p) a := by
  cases p with
  | nil => exact absurd rfl h
  | cons b l =>
    show (l ++ [a]).foldl mn b = mn (l.foldl mn b) a
    rw [List.foldl_append]; rfl
def leastIx (r : List Int) : Nat := r.idxOf (leastOf r)
/-- The ring, from its least state on. -/
def turned (r : List Int) : List Int := r.drop (leastIx r) ++ r.take (leastIx r)
def ringOf (l : List Int) (x : Int) : List Int := turned (rawRing l x)
theorem leastIx_lt {r : List Int} (h : r ≠ []) : leastIx r < r.length := List.idxOf_lt_length_of_mem (least_spec h).1
theorem leastIx_snoc {p : List Int} (h : p ≠ []) (a : Int) : leastIx (p ++ [a]) = if a < leastOf p then p.length else leastIx p := by
  unfold leastIx
  rw [least_snoc h]
  obtain ⟨h1, h2⟩ := least_spec h
  unfold mn
  split
  · rename_i hlt
    have hn : a ∉ p := fun z => by have := h2 a z; omega
    rw [List.idxOf_append, if_neg hn]
    simp
  · rw [List.idxOf_append, if_pos h1]
theorem min_loop (r : List Int) (hr : r.length ≤ 1048576) (d : Nat) : ∀ i : Nat, 1 ≤ i → i + d = r.length → Ev (fun k => slices_Min_int64_int64.l0 k r (leastOf (r.take i)) (i : Int)) (leastOf r) := by
  induction d with
  | zero =>
    intro i h1 hi
    refine Ev.succ ?_
    simp only [slices_Min_int64_int64.l0, if_neg (show ¬ (i : Int) < (r.length : Int) by omega)]
    exact Ev.const (by rw [List.take_of_length_le (by omega)])
  | succ d ih =>
    intro i h1 hi
    refine Ev.succ ?_
    have hlt : i < r.length := by omega
    have e1 : wrap64 ((i : Int) + 1) = ((i + 1 : Nat) : Int) := by rw [w64 (by omega) (by omega)]; omega
    have hne : r.take i ≠ [] := fun z => by have := congrArg List.length z; rw [List.length_take, List.length_nil] at this; omega
    simp only [slices_Min_int64_int64.l0, if_pos (show (i : Int) < (r.length : Int) by omega), if_pos (show (0 : Int) ≤ (i : Int) by omega), rd_at r i hlt, e1]
    rw [← least_snoc hne, List.take_append_getElem hlt]
    exact ih (i + 1) (by omega) (by omega)
theorem min_ev {r : List Int} (hr : r.length ≤ 1048576) (h : r ≠ []) : Ev (fun k => slices_Min_int64_int64.f k r) (leastOf r) := by
  have hp : 0 < r.length := List.length_pos_iff.mpr h
  unfold slices_Min_int64_int64.f
  simp only [if_neg (show ¬ (r.length : Int) < 1 by omega), if_pos (show (0 : Int) < (r.length : Int) by omega)]
  have h1 := min_loop r hr (r.length - 1) 1 (Nat.le_refl 1) (by omega)
  have e : leastOf (r.take 1) = rd r 0 := by
    cases r with
    | nil => exact absurd rfl h
    | cons a l => rfl
  rw [e] at h1
  exact h1
theorem idxOf_le (l : List Int) : ∀ (i : Nat) (h : i < l.length), l.idxOf l[i] ≤ i := by
  induction l with
  | nil => intro i h; exact absurd h (by simp)
  | cons a l ih =>
    intro i h
    cases i with
    | zero => simp
    | succ i =>
      have h2 := ih i (by simpa using h)
      simp only [List.getElem_cons_succ, List.idxOf_cons]
      cases (a == l[i]'(by simpa using h)) <;> simp <;> omega
theorem index_loop (r : List Int) (hr : r.length ≤ 1048576) (v : Int) (hv : v ∈ r) (d : Nat) : ∀ i : Nat, i + d = r.idxOf v → Ev (fun k => slices_Index_int64_int64.l0 k r v (r.length : Int) (i : Int)) ((r.idxOf v : Nat) : Int) := by
  have hlt := List.idxOf_lt_length_of_mem hv
  induction d with
  | zero =>
    intro i hi
    refine Ev.succ ?_
    have hi' : i = r.idxOf v := by omega
    have hil : i < r.length := by omega
    have hg : v = r[i] := by subst hi'; exact (List.getElem_idxOf hlt).symm
    simp only [slices_Index_int64_int64.l0, if_pos (show (i : Int) < (r.length : Int) by omega), if_pos (show (0 : Int) ≤ (i : Int) by omega), rd_at r i hil, if_pos hg]
    exact Ev.const (by rw [hi'])
  | succ d ih =>
    intro i hi
    refine Ev.succ ?_
    have hil : i < r.length := by omega
    have e1 : wrap64 ((i : Int) + 1) = ((i + 1 : Nat) : Int) := by rw [w64 (by omega) (by omega)]; omega
    have hg : ¬ v = r[i] := fun z => by
      have : r.idxOf v ≤ i := by rw [z]; exact idxOf_le r i hil
      omega
    simp only [slices_Index_int64_int64.l0, if_pos (show (i : Int) < (r.length : Int) by omega), if_pos (show (0 : Int) ≤ (i : Int) by omega), rd_at r i hil, if_neg hg, e1]
    exact ih (i + 1) (by omega)
theorem index_ev {r : List Int} (hr : r.length ≤ 1048576) {v : Int} (hv : v ∈ r) : Ev (fun k => slices_Index_int64_int64.f k r v) ((r.idxOf v : Nat) : Int) := index_loop r hr v hv (r.idxOf v) 0 (by omega)
theorem concat_ev {a b : List Int} (ha : a.length ≤ 400000) (hb : b.length ≤ 400000) : Ev (fun k => slices_Concat_int64_int64.f k [a, b]) (a ++ b) := by
  have r0 : rd_L2 [a, b] 0 = a := rfl
  have r1 : rd_L2 [a, b] 1 = b := rfl
  have e0 : wrap64 (0 + 1) = 1 := w64 (by omega) (by omega)
  have e1 : wrap64 (1 + 1) = 2 := w64 (by omega) (by omega)
  have s0 : wrap64 (0 + (a.length : Int)) = (a.length : Int) := by rw [w64 (by omega) (by omega)]; omega
  have s1 : wrap64 ((a.length : Int) + (b.length : Int)) = (a.length : Int) + (b.length : Int) := w64 (by omega) (by omega)
  have hl : ([a, b].length : Int) = 2 := rfl
  unfold slices_Concat_int64_int64.f
  refine Ev.succ ?_
  simp only [slices_Concat_int64_int64.l0, hl, if_pos (show (0 : Int) < 2 by decide), if_pos (show (0 : Int) ≤ 0 by decide), r0, s0, if_neg (show ¬ (a.length : Int) < 0 by omega), e0]
  refine Ev.succ ?_
  simp only [slices_Concat_int64_int64.l0, hl, if_pos (show (1 : Int) < 2 by decide), if_pos (show (0 : Int) ≤ 1 by decide), r1, s1, if_neg (show ¬ (a.length : Int) + (b.length : Int) < 0 by omega), e1]
  refine Ev.succ ?_
  have hg : slices_Grow_int64_int64.f ([] : List Int) ((a.length : Int) + (b.length : Int)) = some [] := by
    unfold slices_Grow_int64_int64.f
    rw [if_pos ⟨rfl, by omega, by omega⟩]
  simp only [slices_Concat_int64_int64.l0, if_neg (show ¬ (2 : Int) < 2 by decide), hg, Option.bind_some, hl]
  refine Ev.succ ?_
  simp only [slices_Concat_int64_int64.l1, hl, if_pos (show (0 : Int) < 2 by decide), if_pos (show (0 : Int) ≤ 0 by decide), r0, e0, if_pos (show ([] : List Int).length + a.length < 17592186044416 by rw [List.length_nil]; omega), List.nil_append]
  refine Ev.succ ?_
  simp only [slices_Concat_int64_int64.l1, hl, if_pos (show (1 : Int) < 2 by decide), if_pos (show (0 : Int) ≤ 1 by decide), r1, e1, if_pos (show a.length + b.length < 17592186044416 by omega)]
  refine Ev.succ ?_
  simp only [slices_Concat_int64_int64.l1, if_neg (show ¬ (2 : Int) < 2 by decide)]
  exact Ev.now _
end Go.Proofs.Ytomepieklgplgaa.P

/- The loops of the program's ringFrom and of the reference's l02Ring come to the ring and the tail of a state; all rings of a counter, likewise. For whole counters. -/
namespace Go.Proofs.Ytomepieklgplgaa.P
open Go.RowKit Go.Proofs.YtomepieklgplgaaW.PrintWords Go.Proofs.YtomepieklgplgaaW.PrintLast Go.Proofs.YtomepieklgplgaaW.PrintMore
set_option linter.unusedVariables false

theorem rd_set_self (l : List Int) (i : Nat) (v : Int) (h : i < l.length) : rd (l.set i v) (i : Int) = v := by
  rw [rd_at _ _ (by rw [List.length_set]; exact h), List.getElem_set_self]
theorem rd_set_ne (l : List Int) (i j : Nat) (v : Int) (h : j < l.length) (hne : i ≠ j) : rd (l.set i v) (j : Int) = rd l (j : Int) := by
  rw [rd_at _ _ (by rw [List.length_set]; exact h), rd_at _ _ h, List.getElem_set_ne hne]
/-- What is noted of the states: their places, d more. -/
def seenOk (d : Int) (l seen p : List Int) : Prop := seen.length = l.length ∧ ∀ y : Nat, y < l.length → rd seen (y : Int) = if (y : Int) ∈ p then (p.idxOf (y : Int) : Int) + d else d - 1
theorem seenOk_set {d : Int} {l seen p : List Int} (h : seenOk d l seen p) {x : Nat} (hx : x < l.length) (hn : (x : Int) ∉ p) : seenOk d l (seen.set x ((p.length : Int) + d)) (p ++ [(x : Int)]) := by
  refine ⟨by rw [List.length_set]; exact h.1, fun y hy => ?_⟩
  have hs : seen.length = l.length := h.1
  by_cases e : x = y
  · subst e
    rw [rd_set_self _ _ _ (by omega), if_pos (by simp), List.idxOf_append, if_neg hn]
    simp
  · rw [rd_set_ne _ _ _ _ (by omega) e, h.2 y hy]
    have e' : ¬ (y : Int) = (x : Int) := by omega
    by_cases hp : (y : Int) ∈ p
    · rw [if_pos hp, if_pos (List.mem_append_left _ hp), List.idxOf_append, if_pos hp]
    · rw [if_neg hp, if_neg (by simp [hp, e'])]
theorem seenOk_start (d : Int) (l : List Int) : seenOk d l (List.replicate l.length (d - 1)) [] := by
  refine ⟨by simp, fun y hy => ?_⟩
  rw [rd_at _ _ (by simpa using hy)]
  simp
theorem outX_nat {n : Int} {l : List Int} {x : Int} (hok : okC n l) (hx : isSt n x) (i : Nat) : ∃ y : Nat, outX l x i = (y : Int) ∧ y < l.length := by
  have h := outX_lt hok hx i
  obtain ⟨y, hy⟩ := Int.eq_ofNat_of_zero_le h.1
  exact ⟨y, hy, by omega⟩
theorem okC_len {n : Int} {l : List Int} (hok : okC n l) : 2 ≤ l.length ∧ l.length ≤ 256 := by
  have := pow_256 hok.1
  have := hok.2.1
  omega
theorem ringT_pos {n : Int} {l : List Int} {x : Int} (hok : okC n l) (hx : isSt n x) : 0 < ringT l x ∧ ringT l x ≤ 256 := by
  obtain ⟨h1, _, h3⟩ := ringT_spec hok hx
  have := okC_len hok
  refine ⟨?_, by omega⟩
  obtain ⟨j, hj, _⟩ := pathX_mem.mp h3
  omega
theorem tailOf_lt {n : Int} {l : List Int} {x : Int} (hok : okC n l) (hx : isSt n x) : tailOf l x < ringT l x := by
  have h := List.idxOf_lt_length_of_mem (ringT_spec hok hx).2.2
  rwa [pathX_length] at h
theorem rawRing_length (l : List Int) (x : Int) : (rawRing l x).length = ringT l x - tailOf l x := by
  rw [rawRing, List.length_drop, pathX_length]
theorem rawRing_ne {n : Int} {l : List Int} {x : Int} (hok : okC n l) (hx : isSt n x) : rawRing l x ≠ [] := by
  intro h
  have h1 := congrArg List.length h
  rw [rawRing_length, List.length_nil] at h1
  have := tailOf_lt hok hx
  omega
theorem implRing_loop {n : Int} {l : List Int} {x : Int} (hok : okC n l) (hx : isSt n x) (d : Nat) : ∀ (i : Nat) (seen : List Int), i + d = ringT l x → seenOk 0 l seen (pathX l x i) →
    Ev (fun k => impl_Counter_ringFrom.l0 k (outX l x i) seen (pathX l x i) (outX l x i) n l) (ringOf l x, (tailOf l x : Int)) := by
  have h256 := ringT_pos hok hx
  have hT := ringT_spec hok hx
  induction d with
  | zero =>
    intro i seen hi hs
    obtain rfl : i = ringT l x := by omega
    obtain ⟨y, hy, hyl⟩ := outX_nat hok hx (ringT l x)
    have hm := hT.2.2
    have hrd : rd seen (y : Int) = (tailOf l x : Int) := by
      rw [hs.2 y hyl, ← hy, if_pos hm, Int.add_zero]; rfl
    have hlt := tailOf_lt hok hx
    have hne := rawRing_ne hok hx
    have hrl : (rawRing l x).length ≤ 1048576 := by rw [rawRing_length]; omega
    have hil := leastIx_lt hne
    refine Ev.succ ?_
    have hsl : seen.length = l.length := hs.1
    simp only [impl_Counter_ringFrom.l0, hy, pathX_length, if_pos (show (0 : Int) ≤ (y : Int) by omega), if_pos (show (y : Int) < (seen.length : Int) by omega), hrd, if_neg (show ¬ (tailOf l x : Int) < 0 by omega), if_neg (show ¬ ((ringT l x : Nat) : Int) = 0 by omega), if_pos (show (0 : Int) ≤ (tailOf l x : Int) by omega), if_pos (show (tailOf l x : Int) ≤ ((ringT l x : Nat) : Int) by omega), Option.bind_some, Int.toNat_natCast]
    refine Ev.bind (min_ev hrl hne) (Ev.bind (index_ev hrl (least_spec hne).1) ?_)
    show Ev (fun k => if (0 : Int) ≤ ((leastIx (rawRing l x) : Nat) : Int) then (if ((leastIx (rawRing l x) : Nat) : Int) ≤ ((rawRing l x).length : Int) then ((slices_Concat_int64_int64.f k [(rawRing l x).drop ((leastIx (rawRing l x) : Nat) : Int).toNat, (rawRing l x).take ((leastIx (rawRing l x) : Nat) : Int).toNat]).bind fun t321 => some (t321, (tailOf l x : Int))) else none) else none) _
    simp only [Int.toNat_natCast, if_pos (show (0 : Int) ≤ ((leastIx (rawRing l x) : Nat) : Int) by omega), if_pos (show ((leastIx (rawRing l x) : Nat) : Int) ≤ ((rawRing l x).length : Int) by omega)]
    refine Ev.bind (concat_ev (by rw [List.length_drop, rawRing_length]; omega) (by rw [List.length_take, rawRing_length]; omega)) ?_
    exact Ev.now _
  | succ d ih =>
    intro i seen hi hs
    obtain ⟨y, hy, hyl⟩ := outX_nat hok hx i
    have hm := hT.2.1 i (by omega)
    have hrd : rd seen (y : Int) = -1 := by
      rw [hs.2 y hyl, ← hy, if_neg hm]; rfl
    have hsl : seen.length = l.length := hs.1
    refine Ev.succ ?_
    rw [hy] at hm
    have hs2 := seenOk_set hs hyl hm
    rw [pathX_length, Int.add_zero] at hs2
    have e1 : pathX l x i ++ [(y : Int)] = pathX l x (i + 1) := by rw [pathX, hy]
    have e2 : rd l (y : Int) = outX l x (i + 1) := by rw [outX, hy]
    rw [e1] at hs2
    simp only [impl_Counter_ringFrom.l0, hy, pathX_length, if_pos (show (0 : Int) ≤ (y : Int) by omega), if_pos (show (y : Int) < (seen.length : Int) by omega), hrd, if_pos (show (-1 : Int) < 0 by decide), if_pos (show i < 17592186044416 by omega), if_pos (show (y : Int) < (l.length : Int) by omega), Int.toNat_natCast, e1, e2]
    exact ih (i + 1) _ (by omega) hs2
theorem implRing_ev {n : Int} {l : List Int} {x : Int} (hok : okC n l) (hx : isSt n x) : Ev (fun k => impl_Counter_ringFrom.f k n l x) (ringOf l x, (tailOf l x : Int)) := by
  have hl := okC_len hok
  unfold impl_Counter_ringFrom.f
  have hr : slices_Repeat_int_int.f [(-1 : Int)] (l.length : Int) = some (List.replicate l.length (-1)) := by
    unfold slices_Repeat_int_int.f
    rw [if_pos ⟨rfl, by omega, by omega⟩]
    rfl
  simp only [hr, Option.bind_some]
  exact implRing_loop hok hx (ringT l x) 0 _ (by omega) (seenOk_start 0 l)
theorem specLeast_loop {r : List Int} (hr : r.length ≤ 1048576) (h : r ≠ []) (n t : Int) (l : List Int) (d : Nat) : ∀ i : Nat, 1 ≤ i → i + d = r.length →
    Ev (fun k => spec_l02Ring.l1 k t r ((leastIx (r.take i) : Nat) : Int) (i : Int) n l) (turned r, t, n) := by
  induction d with
  | zero =>
    intro i h1 hi
    have hil := leastIx_lt h
    refine Ev.succ ?_
    rw [List.take_of_length_le (by omega)]
    have ho : spec_l00Own.f (r.drop (leastIx r)) = some (r.drop (leastIx r)) := by
      unfold spec_l00Own.f
      simp only [Option.bind_some, List.length_nil, List.length_drop, List.nil_append]
      rw [if_pos (by omega)]
    simp only [spec_l02Ring.l1, if_neg (show ¬ (i : Int) < (r.length : Int) by omega), if_pos (show (0 : Int) ≤ ((leastIx r : Nat) : Int) by omega), if_pos (show ((leastIx r : Nat) : Int) ≤ (r.length : Int) by omega), Int.toNat_natCast, ho, Option.bind_some, List.length_drop, List.length_take]
    rw [if_pos (by omega)]
    exact Ev.now _
  | succ d ih =>
    intro i h1 hi
    refine Ev.succ ?_
    have hlt : i < r.length := by omega
    have hne : r.take i ≠ [] := fun z => by have := congrArg List.length z; rw [List.length_take, List.length_nil] at this; omega
    have hjl := leastIx_lt hne
    have hj : leastIx (r.take i) < r.length := by rw [List.length_take] at hjl; omega
    have hrj : rd r ((leastIx (r.take i) : Nat) : Int) = leastOf (r.take i) := by
      rw [rd_at r _ hj]
      have e : (r.take i)[leastIx (r.take i)]'hjl = leastOf (r.take i) := List.getElem_idxOf hjl
      rw [← e, List.getElem_take]
    have e1 : wrap64 ((i : Int) + 1) = ((i + 1 : Nat) : Int) := by rw [w64 (by omega) (by omega)]; omega
    have hsn := leastIx_snoc hne r[i]
    rw [List.take_append_getElem hlt, List.length_take, Nat.min_eq_left (by omega)] at hsn
    have hi2 := ih (i + 1) (by omega) (by omega)
    simp only [spec_l02Ring.l1, if_pos (show (i : Int) < (r.length : Int) by omega), if_pos (show (0 : Int) ≤ (i : Int) by omega), if_pos (show (0 : Int) ≤ ((leastIx (r.take i) : Nat) : Int) by omega), if_pos (show ((leastIx (r.take i) : Nat) : Int) < (r.length : Int) by omega), rd_at r i hlt, hrj, e1]
    by_cases hc : r[i] < leastOf (r.take i)
    · rw [if_pos hc] at hsn
      rw [hsn] at hi2
      simp only [if_pos hc]
      exact hi2
    · rw [if_neg hc] at hsn
      rw [hsn] at hi2
      simp only [if_neg hc]
      exact hi2
theorem specRing_loop {n : Int} {l : List Int} {x : Int} (hok : okC n l) (hx : isSt n x) (d : Nat) : ∀ (i : Nat) (seen : List Int), i + d = ringT l x → seenOk 1 l seen (pathX l x i) →
    Ev (fun k => spec_l02Ring.l0 k (outX l x i) seen (pathX l x i) n l) (ringOf l x, (tailOf l x : Int), n) := by
  have h256 := ringT_pos hok hx
  have hT := ringT_spec hok hx
  induction d with
  | zero =>
    intro i seen hi hs
    obtain rfl : i = ringT l x := by omega
    obtain ⟨y, hy, hyl⟩ := outX_nat hok hx (ringT l x)
    have hm := hT.2.2
    have hrd : rd seen (y : Int) = (tailOf l x : Int) + 1 := by
      rw [hs.2 y hyl, ← hy, if_pos hm]; rfl
    have hlt := tailOf_lt hok hx
    have hne := rawRing_ne hok hx
    have hrl : (rawRing l x).length ≤ 1048576 := by rw [rawRing_length]; omega
    have hsl : seen.length = l.length := hs.1
    have ew : wrap64 ((tailOf l x : Int) + 1 - 1) = (tailOf l x : Int) := by rw [w64 (by omega) (by omega)]; omega
    refine Ev.succ ?_
    simp only [spec_l02Ring.l0, hy, pathX_length, if_pos (show (0 : Int) ≤ (y : Int) by omega), if_pos (show (y : Int) < (seen.length : Int) by omega), hrd, if_neg (show ¬ (tailOf l x : Int) + 1 = 0 by omega), ew, if_pos (show (0 : Int) ≤ (tailOf l x : Int) by omega), if_pos (show (tailOf l x : Int) ≤ ((ringT l x : Nat) : Int) by omega), Int.toNat_natCast]
    have h1 := specLeast_loop hrl hne n (tailOf l x : Int) l ((rawRing l x).length - 1) 1 (Nat.le_refl 1) (by have := List.length_pos_iff.mpr hne; omega)
    have e0 : leastIx ((rawRing l x).take 1) = 0 := by
      generalize rawRing l x = r at hne
      cases r with
      | nil => exact absurd rfl hne
      | cons a r => simp [leastIx, leastOf]
    rw [e0] at h1
    exact h1
  | succ d ih =>
    intro i seen hi hs
    obtain ⟨y, hy, hyl⟩ := outX_nat hok hx i
    have hm := hT.2.1 i (by omega)
    have hrd : rd seen (y : Int) = 0 := by
      rw [hs.2 y hyl, ← hy, if_neg hm]; rfl
    have hsl : seen.length = l.length := hs.1
    refine Ev.succ ?_
    rw [hy] at hm
    have hs2 := seenOk_set hs hyl hm
    have e1 : pathX l x i ++ [(y : Int)] = pathX l x (i + 1) := by rw [pathX, hy]
    have e2 : rd l (y : Int) = outX l x (i + 1) := by rw [outX, hy]
    have e3 : ((pathX l x i).length : Int) + 1 = ((pathX l x (i + 1)).length : Int) := by rw [pathX_length, pathX_length]; omega
    rw [e1, e3] at hs2
    simp only [spec_l02Ring.l0, hy, if_pos (show (0 : Int) ≤ (y : Int) by omega), if_pos (show (y : Int) < (seen.length : Int) by omega), hrd, if_true, if_pos (show (pathX l x i).length < 17592186044416 by rw [pathX_length]; omega), if_pos (show (y : Int) < (l.length : Int) by omega), Int.toNat_natCast, Option.bind_some, e1, e2]
    exact ih (i + 1) _ (by omega) hs2
theorem specRing_ev {n : Int} {l : List Int} {x : Int} (hok : okC n l) (hx : isSt n x) : Ev (fun k => spec_l02Ring.f k n l x) (ringOf l x, (tailOf l x : Int), n) := by
  have hl := okC_len hok
  unfold spec_l02Ring.f
  simp only [Int.toNat_natCast, if_pos (show (0 : Int) ≤ (l.length : Int) by omega), if_pos (show l.length ≤ 35184372088832 by omega)]
  exact specRing_loop hok hx (ringT l x) 0 _ (by omega) (seenOk_start 1 l)

theorem turned_length (r : List Int) : (turned r).length = r.length := by
  unfold turned
  rw [List.length_append, List.length_drop, List.length_take]
  omega
theorem ringOf_length (l : List Int) (x : Int) : (ringOf l x).length = ringT l x - tailOf l x := by rw [ringOf, turned_length, rawRing_length]
theorem ringOf_pos {n : Int} {l : List Int} {x : Int} (hok : okC n l) (hx : isSt n x) : 0 < (ringOf l x).length ∧ (ringOf l x).length ≤ 256 := by
  have := tailOf_lt hok hx
  have := ringT_pos hok hx
  rw [ringOf_length]; omega
/-- The rings whose least state is below i. -/
def ringsUp (l : List Int) : Nat → List (List Int)
  | 0 => []
  | i + 1 => ringsUp l i ++ if tailOf l (i : Int) = 0 ∧ rd (ringOf l (i : Int)) 0 = (i : Int) then [ringOf l (i : Int)] else []
theorem ringsUp_length (l : List Int) (i : Nat) : (ringsUp l i).length ≤ i := by
  induction i with
  | zero => exact Nat.le_refl _
  | succ i ih => rw [ringsUp, List.length_append]; split <;> simp <;> omega
theorem isSt_nat {n : Int} {l : List Int} (hok : okC n l) {i : Nat} (hi : i < l.length) : isSt n (i : Int) := ⟨hok.1, by omega, by have := hok.2.1; omega⟩
theorem implRings_loop {n : Int} {l : List Int} (hok : okC n l) (d : Nat) : ∀ i : Nat, i + d = l.length → Ev (fun k => impl_Counter_rings.l0 k (ringsUp l i) (l.length : Int) (i : Int) n l) (ringsUp l l.length) := by
  have hl := okC_len hok
  induction d with
  | zero =>
    intro i hi
    obtain rfl : i = l.length := by omega
    refine Ev.succ ?_
    simp only [impl_Counter_rings.l0, Int.lt_irrefl, if_false]
    exact Ev.now _
  | succ d ih =>
    intro i hi
    refine Ev.succ ?_
    have hst := isSt_nat hok (show i < l.length by omega)
    have hp := ringOf_pos hok hst
    have e1 : wrap64 ((i : Int) + 1) = ((i + 1 : Nat) : Int) := by rw [w64 (by omega) (by omega)]; omega
    have hr := ringsUp_length l i
    have h1 := ih (i + 1) (by omega)
    simp only [impl_Counter_rings.l0, if_pos (show (i : Int) < (l.length : Int) by omega), e1]
    refine Ev.bind (implRing_ev hok hst) ?_
    rw [ringsUp] at h1
    by_cases ht : tailOf l (i : Int) = 0
    · by_cases hh : rd (ringOf l (i : Int)) 0 = (i : Int)
      · rw [if_pos ⟨ht, hh⟩] at h1
        simp only [ht, hh, Int.natCast_zero, if_true, if_pos (show (0 : Int) < ((ringOf l (i : Int)).length : Int) by omega), if_pos (show (ringsUp l i).length < 5864062014805 by omega)]
        exact h1
      · rw [if_neg (fun z => hh z.2), List.append_nil] at h1
        simp only [ht, hh, Int.natCast_zero, if_true, if_false, if_pos (show (0 : Int) < ((ringOf l (i : Int)).length : Int) by omega)]
        exact h1
    · rw [if_neg (fun z => ht z.1), List.append_nil] at h1
      simp only [if_neg (show ¬ (tailOf l (i : Int) : Int) = 0 by omega)]
      exact h1
theorem implRings_ev {n : Int} {l : List Int} (hok : okC n l) : Ev (fun k => impl_Counter_rings.f k n l) (ringsUp l l.length) := implRings_loop hok l.length 0 (by omega)
theorem specRings_loop {n : Int} {l : List Int} (hok : okC n l) (d : Nat) : ∀ i : Nat, i + d = l.length → Ev (fun k => spec_l02Rings.l0 k (ringsUp l i) (i : Int) n l) (ringsUp l l.length, n) := by
  have hl := okC_len hok
  induction d with
  | zero =>
    intro i hi
    obtain rfl : i = l.length := by omega
    refine Ev.succ ?_
    simp only [spec_l02Rings.l0, Int.lt_irrefl, if_false]
    exact Ev.now _
  | succ d ih =>
    intro i hi
    refine Ev.succ ?_
    have hst := isSt_nat hok (show i < l.length by omega)
    have hp := ringOf_pos hok hst
    have e1 : wrap64 ((i : Int) + 1) = ((i + 1 : Nat) : Int) := by rw [w64 (by omega) (by omega)]; omega
    have hr := ringsUp_length l i
    have h1 := ih (i + 1) (by omega)
    simp only [spec_l02Rings.l0, if_pos (show (i : Int) < (l.length : Int) by omega), e1]
    refine Ev.bind (specRing_ev hok hst) ?_
    rw [ringsUp] at h1
    by_cases ht : tailOf l (i : Int) = 0
    · by_cases hh : rd (ringOf l (i : Int)) 0 = (i : Int)
      · rw [if_pos ⟨ht, hh⟩] at h1
        simp only [ht, hh, Int.natCast_zero, if_true, if_pos (show (0 : Int) < ((ringOf l (i : Int)).length : Int) by omega), if_pos (show (ringsUp l i).length < 5864062014805 by omega)]
        exact h1
      · rw [if_neg (fun z => hh z.2), List.append_nil] at h1
        simp only [ht, hh, Int.natCast_zero, if_true, if_false, if_pos (show (0 : Int) < ((ringOf l (i : Int)).length : Int) by omega)]
        exact h1
    · rw [if_neg (fun z => ht z.1), List.append_nil] at h1
      simp only [if_neg (show ¬ (tailOf l (i : Int) : Int) = 0 by omega)]
      exact h1
theorem specRings_ev {n : Int} {l : List Int} (hok : okC n l) : Ev (fun k => spec_l02Rings.f k n l) (ringsUp l l.length, n) := specRings_loop hok l.length 0 (by omega)
end Go.Proofs.Ytomepieklgplgaa.P

/- The state after so many steps, as the program and as the reference reckon it. For whole counters. -/
namespace Go.Proofs.Ytomepieklgplgaa.P
open Go.RowKit Go.Proofs.YtomepieklgplgaaW.PrintWords Go.Proofs.YtomepieklgplgaaW.PrintLast Go.Proofs.YtomepieklgplgaaW.PrintMore
set_option linter.unusedVariables false

theorem outX_add (l : List Int) (x : Int) (i j : Nat) : outX l (outX l x i) j = outX l x (i + j) := by
  induction j with
  | zero => rfl
  | succ j ih => rw [outX, ih, ← Nat.add_assoc, outX]
end Go.Proofs.Ytomepieklgplgaa.P

/- What a ring is: it holds the states behind the tail, each one's next state at the next place, and each once. For whole counters. -/
namespace Go.Proofs.Ytomepieklgplgaa.P
open Go.RowKit Go.Proofs.YtomepieklgplgaaW.PrintWords Go.Proofs.YtomepieklgplgaaW.PrintLast Go.Proofs.YtomepieklgplgaaW.PrintMore
set_option linter.unusedVariables false

/-- How many states the ring has. -/
def per (l : List Int) (x : Int) : Nat := ringT l x - tailOf l x
theorem pathX_get (l : List Int) (x : Int) (i : Nat) : ∀ j, j < i → (pathX l x i)[j]? = some (outX l x j) := by
  induction i with
  | zero => intro j h; omega
  | succ i ih =>
    intro j h
    rw [pathX]
    by_cases hj : j < i
    · rw [List.getElem?_append_left (by rw [pathX_length]; exact hj), ih j hj]
    · obtain rfl : j = i := by omega
      rw [List.getElem?_append_right (by rw [pathX_length]; exact Nat.le_refl _), pathX_length, Nat.sub_self]
      rfl
theorem outX_turn {n : Int} {l : List Int} {x : Int} (hok : okC n l) (hx : isSt n x) : outX l x (ringT l x) = outX l x (tailOf l x) := by
  have h := (ringT_spec hok hx).2.2
  have hlt : tailOf l x < (pathX l x (ringT l x)).length := List.idxOf_lt_length_of_mem h
  have e : (pathX l x (ringT l x))[tailOf l x]? = some (outX l x (ringT l x)) := by
    rw [List.getElem?_eq_getElem hlt]
    congr 1
    exact List.getElem_idxOf hlt
  rw [pathX_get l x _ _ (tailOf_lt hok hx)] at e
  exact (Option.some.inj e).symm
theorem outX_per {n : Int} {l : List Int} {x : Int} (hok : okC n l) (hx : isSt n x) (m : Nat) : outX l x (tailOf l x + m + per l x) = outX l x (tailOf l x + m) := by
  have ht := tailOf_lt hok hx
  have e : tailOf l x + m + per l x = ringT l x + m := by unfold per; omega
  rw [e, ← outX_add, outX_turn hok hx, outX_add]
theorem outX_mod {n : Int} {l : List Int} {x : Int} (hok : okC n l) (hx : isSt n x) (m : Nat) : outX l x (tailOf l x + m) = outX l x (tailOf l x + m % per l x) := by
  have hp : 0 < per l x := by have := tailOf_lt hok hx; unfold per; omega
  induction m using Nat.strongRecOn with
  | ind m ih =>
    by_cases h : m < per l x
    · rw [Nat.mod_eq_of_lt h]
    · have e := outX_per hok hx (m - per l x)
      rw [show tailOf l x + (m - per l x) + per l x = tailOf l x + m by omega] at e
      rw [e, ih (m - per l x) (by omega), ← Nat.mod_eq_sub_mod (by omega)]
theorem outX_inj {n : Int} {l : List Int} {x : Int} (hok : okC n l) (hx : isSt n x) {i j : Nat} (hi : i < ringT l x) (hj : j < ringT l x) (h : outX l x i = outX l x j) : i = j := by
  obtain ⟨_, h2, _⟩ := ringT_spec hok hx
  by_cases h1 : i < j
  · exact absurd (pathX_mem.mpr ⟨i, h1, h.symm⟩) (h2 j hj)
  · by_cases h3 : j < i
    · exact absurd (pathX_mem.mpr ⟨j, h3, h⟩) (h2 i hi)
    · omega
theorem ring_len (l : List Int) (x : Int) : (ringOf l x).length = per l x := ringOf_length l x
theorem per_pos {n : Int} {l : List Int} {x : Int} (hok : okC n l) (hx : isSt n x) : 0 < per l x ∧ per l x ≤ 256 := by
  have := tailOf_lt hok hx
  have := ringT_pos hok hx
  unfold per; omega
/-- Where the ring begins. -/
def offX (l : List Int) (x : Int) : Nat := tailOf l x + leastIx (rawRing l x)
theorem rawRing_get (l : List Int) (x : Int) (j : Nat) (h : j < per l x) : (rawRing l x)[j]? = some (outX l x (tailOf l x + j)) := by
  rw [rawRing, List.getElem?_drop, pathX_get]
  unfold per at h; omega
theorem ring_get {n : Int} {l : List Int} {x : Int} (hok : okC n l) (hx : isSt n x) (j : Nat) (h : j < per l x) : (ringOf l x)[j]? = some (outX l x (offX l x + j)) := by
  have hk := leastIx_lt (rawRing_ne hok hx)
  have hr : (rawRing l x).length = per l x := rawRing_length l x
  rw [ringOf, turned, offX]
  by_cases hj : j < per l x - leastIx (rawRing l x)
  · rw [List.getElem?_append_left (by rw [List.length_drop]; omega), List.getElem?_drop, rawRing_get _ _ _ (by omega), Nat.add_assoc]
  · rw [List.getElem?_append_right (by rw [List.length_drop]; omega), List.length_drop, List.getElem?_take_of_lt (by omega), rawRing_get _ _ _ (by omega)]
    congr 1
    have e := outX_per hok hx (leastIx (rawRing l x) + j - per l x)
    rw [show tailOf l x + (leastIx (rawRing l x) + j - per l x) + per l x = tailOf l x + leastIx (rawRing l x) + j by omega] at e
    rw [e]
    congr 1
    omega
end Go.Proofs.Ytomepieklgplgaa.P

/- Rings of a whole counter: which states lie on them, that no two have a state in common, and that each state comes to one. -/
namespace Go.Proofs.Ytomepieklgplgaa.P
open Go.RowKit Go.Proofs.YtomepieklgplgaaW.PrintWords Go.Proofs.YtomepieklgplgaaW.PrintLast Go.Proofs.YtomepieklgplgaaW.PrintMore
set_option linter.unusedVariables false

theorem outX_again {l : List Int} {y : Int} {m : Nat} (h : outX l y m = y) (q : Nat) : outX l y (q * m) = y := by
  induction q with
  | zero => rw [Nat.zero_mul]; rfl
  | succ q ih => rw [Nat.succ_mul, ← outX_add, ih, h]
theorem cyc_of {n : Int} {l : List Int} {y : Int} (hok : okC n l) (hy : isSt n y) {m : Nat} (hm : 1 ≤ m) (h : outX l y m = y) : tailOf l y = 0 := by
  by_cases ht : tailOf l y = 0
  · exact ht
  · exfalso
    have hp := per_pos hok hy
    have e1 : outX l y (tailOf l y - 1) = outX l y (tailOf l y + (m - 1)) := by
      rw [show tailOf l y + (m - 1) = m + (tailOf l y - 1) by omega, ← outX_add, h]
    rw [outX_mod hok hy] at e1
    have hlt := Nat.mod_lt (m - 1) hp.1
    have htl := tailOf_lt hok hy
    have := outX_inj hok hy (by omega) (by unfold per at hlt ⊢; omega) e1
    omega
theorem cyc_turn {n : Int} {l : List Int} {y : Int} (hok : okC n l) (hy : isSt n y) (h : tailOf l y = 0) : outX l y (ringT l y) = y := by
  have e := outX_turn hok hy
  rw [h] at e
  exact e
/-- A state that is met behind the tail is met again; one that is met ahead of its end is not. -/
theorem cyc_iff {n : Int} {l : List Int} {x : Int} (hok : okC n l) (hx : isSt n x) (j : Nat) : tailOf l (outX l x j) = 0 ↔ tailOf l x ≤ j := by
  have hy := outX_st hok hx j
  have hp := per_pos hok hx
  constructor
  · intro h
    by_cases hj : tailOf l x ≤ j
    · exact hj
    · exfalso
      have e := outX_again (cyc_turn hok hy h) (tailOf l x)
      have hT := ringT_pos hok hy
      have hm : tailOf l x ≤ tailOf l x * ringT l (outX l x j) := Nat.le_mul_of_pos_right _ hT.1
      rw [outX_add, show j + tailOf l x * ringT l (outX l x j) = tailOf l x + (j + tailOf l x * ringT l (outX l x j) - tailOf l x) by omega, outX_mod hok hx] at e
      have hlt := Nat.mod_lt (j + tailOf l x * ringT l (outX l x j) - tailOf l x) hp.1
      have htl := tailOf_lt hok hx
      have := outX_inj hok hx (by unfold per at hlt ⊢; omega) (by omega) e
      omega
  · intro h
    refine cyc_of hok hy hp.1 ?_
    rw [outX_add]
    have e := outX_per hok hx (j - tailOf l x)
    rw [show tailOf l x + (j - tailOf l x) = j by omega] at e
    exact e
/-- y is met on the way from a. -/
def onX (l : List Int) (a y : Int) : Prop := ∃ j, y = outX l a j
theorem onX_trans {l : List Int} {a b c : Int} (h : onX l a b) (k : onX l b c) : onX l a c := by
  obtain ⟨i, rfl⟩ := h; obtain ⟨j, rfl⟩ := k; exact ⟨i + j, outX_add _ _ _ _⟩
theorem onX_refl (l : List Int) (a : Int) : onX l a a := ⟨0, rfl⟩
theorem onX_symm {n : Int} {l : List Int} {a y : Int} (hok : okC n l) (ha : isSt n a) (hc : tailOf l a = 0) (h : onX l a y) : onX l y a := by
  obtain ⟨j, rfl⟩ := h
  have hT := ringT_pos hok ha
  have e := outX_again (cyc_turn hok ha hc) (j + 1)
  have hm : j + 1 ≤ (j + 1) * ringT l a := Nat.le_mul_of_pos_right _ hT.1
  exact ⟨(j + 1) * ringT l a - j, by rw [outX_add, show j + ((j + 1) * ringT l a - j) = (j + 1) * ringT l a by omega, e]⟩
theorem ring_mem {n : Int} {l : List Int} {x y : Int} (hok : okC n l) (hx : isSt n x) : y ∈ ringOf l x ↔ ∃ j, tailOf l x ≤ j ∧ y = outX l x j := by
  have hp := per_pos hok hx
  constructor
  · intro h
    obtain ⟨j, hj, e⟩ := List.mem_iff_getElem.mp h
    have hj' : j < per l x := by rw [← ring_len l x]; exact hj
    have e2 := ring_get hok hx j hj'
    rw [List.getElem?_eq_getElem hj, e] at e2
    exact ⟨offX l x + j, by unfold offX; omega, Option.some.inj e2⟩
  · rintro ⟨j, hj, rfl⟩
    have e := outX_mod hok hx (j - tailOf l x)
    rw [show tailOf l x + (j - tailOf l x) = j by omega] at e
    have hlt := Nat.mod_lt (j - tailOf l x) hp.1
    have hraw : outX l x j ∈ rawRing l x := by
      rw [e]
      exact List.mem_of_getElem? (rawRing_get l x _ hlt)
    rw [ringOf, turned, List.mem_append]
    rw [← List.take_append_drop (leastIx (rawRing l x)) (rawRing l x), List.mem_append] at hraw
    exact hraw.symm
theorem ring_mem_cyc {n : Int} {l : List Int} {x y : Int} (hok : okC n l) (hx : isSt n x) (hc : tailOf l x = 0) : y ∈ ringOf l x ↔ onX l x y := by
  rw [ring_mem hok hx, hc]
  exact ⟨fun ⟨j, _, h⟩ => ⟨j, h⟩, fun ⟨j, h⟩ => ⟨j, Nat.zero_le _, h⟩⟩
theorem ring_head {n : Int} {l : List Int} {x : Int} (hok : okC n l) (hx : isSt n x) : rd (ringOf l x) 0 ∈ ringOf l x ∧ ∀ y ∈ ringOf l x, rd (ringOf l x) 0 ≤ y := by
  have hp := ringOf_pos hok hx
  have hne := rawRing_ne hok hx
  have hls := least_spec hne
  have hk := leastIx_lt hne
  have e0 : rd (ringOf l x) 0 = leastOf (rawRing l x) := by
    have := rd_at (ringOf l x) 0 hp.1
    rw [show ((0 : Nat) : Int) = 0 from rfl] at this
    rw [this]
    have e : (ringOf l x)[0]? = some (leastOf (rawRing l x)) := by
      rw [ringOf, turned, List.getElem?_append_left (by rw [List.length_drop]; omega), List.getElem?_drop, Nat.add_zero, List.getElem?_eq_getElem hk]
      congr 1
      exact List.getElem_idxOf hk
    rw [List.getElem?_eq_getElem hp.1] at e
    exact Option.some.inj e
  have hm : ∀ y, y ∈ ringOf l x ↔ y ∈ rawRing l x := by
    intro y
    rw [ringOf, turned, List.mem_append]
    constructor
    · rintro (h | h)
      · exact List.mem_of_mem_drop h
      · exact List.mem_of_mem_take h
    · intro h
      rw [← List.take_append_drop (leastIx (rawRing l x)) (rawRing l x), List.mem_append] at h
      exact h.symm
  rw [e0]
  exact ⟨(hm _).mpr hls.1, fun y hy => hls.2 y ((hm y).mp hy)⟩
/-- The least state of a ring. -/
def loX (l : List Int) (a : Int) : Prop := tailOf l a = 0 ∧ rd (ringOf l a) 0 = a
instance (l : List Int) (a : Int) : Decidable (loX l a) := by unfold loX; infer_instance
theorem loX_le {n : Int} {l : List Int} {a y : Int} (hok : okC n l) (ha : isSt n a) (h : loX l a) (hy : onX l a y) : a ≤ y := by
  have := (ring_head hok ha).2 y ((ring_mem_cyc hok ha h.1).mpr hy)
  rwa [h.2] at this
theorem loX_eq {n : Int} {l : List Int} {a b y : Int} (hok : okC n l) (ha : isSt n a) (hb : isSt n b) (h : loX l a) (k : loX l b) (h1 : onX l a y) (h2 : onX l b y) : a = b := by
  have e1 := loX_le hok ha h (onX_trans h1 (onX_symm hok hb k.1 h2))
  have e2 := loX_le hok hb k (onX_trans h2 (onX_symm hok ha h.1 h1))
  omega
/-- The least state of the ring that x comes to. -/
def lowOf (l : List Int) (x : Int) : Int := rd (ringOf l x) 0
theorem lowOf_spec {n : Int} {l : List Int} {x : Int} (hok : okC n l) (hx : isSt n x) : isSt n (lowOf l x) ∧ loX l (lowOf l x) ∧ ∃ j, tailOf l x ≤ j ∧ lowOf l x = outX l x j := by
  obtain ⟨h1, h2⟩ := ring_head hok hx
  obtain ⟨j, hj, e⟩ := (ring_mem hok hx).mp h1
  have hst : isSt n (lowOf l x) := by unfold lowOf; rw [e]; exact outX_st hok hx j
  have hc : tailOf l (lowOf l x) = 0 := by unfold lowOf; rw [e]; exact (cyc_iff hok hx j).mpr hj
  refine ⟨hst, ⟨hc, ?_⟩, j, hj, e⟩
  obtain ⟨k1, k2⟩ := ring_head hok hst
  have hself : lowOf l x ∈ ringOf l (lowOf l x) := (ring_mem_cyc hok hst hc).mpr (onX_refl _ _)
  have hle := k2 _ hself
  obtain ⟨i, hi⟩ := (ring_mem_cyc hok hst hc).mp k1
  have hge : lowOf l x ≤ rd (ringOf l (lowOf l x)) 0 := by
    refine h2 _ ((ring_mem hok hx).mpr ⟨j + i, by omega, ?_⟩)
    rw [hi]
    show outX l (rd (ringOf l x) 0) i = _
    rw [e, outX_add]
  omega
theorem lowOf_on {n : Int} {l : List Int} {x : Int} (hok : okC n l) (hx : isSt n x) : onX l x (lowOf l x) := by
  obtain ⟨_, _, j, _, e⟩ := lowOf_spec hok hx; exact ⟨j, e⟩
theorem ringsUp_mem (l : List Int) (i : Nat) (r : List Int) : r ∈ ringsUp l i ↔ ∃ a : Nat, a < i ∧ loX l (a : Int) ∧ r = ringOf l (a : Int) := by
  induction i with
  | zero => simp [ringsUp]
  | succ i ih =>
    rw [ringsUp, List.mem_append, ih]
    constructor
    · rintro (⟨a, h1, h2⟩ | h)
      · exact ⟨a, by omega, h2⟩
      · split at h
        · rename_i hc
          exact ⟨i, by omega, hc, List.mem_singleton.mp h⟩
        · cases h
    · rintro ⟨a, h1, h2, h3⟩
      by_cases ha : a = i
      · subst ha
        refine .inr ?_
        rw [if_pos (show tailOf l (a : Int) = 0 ∧ rd (ringOf l (a : Int)) 0 = (a : Int) from h2), h3]
        exact List.mem_singleton.mpr rfl
      · exact .inl ⟨a, by omega, h2, h3⟩
end Go.Proofs.Ytomepieklgplgaa.P

/- The mended counter: what it holds, that each of its states comes to the state that was named, and how many next states are new. For whole counters. -/
namespace Go.Proofs.Ytomepieklgplgaa.P
open Go.RowKit Go.Proofs.YtomepieklgplgaaW.PrintWords Go.Proofs.YtomepieklgplgaaW.PrintLast Go.Proofs.YtomepieklgplgaaW.PrintMore
set_option linter.unusedVariables false

/-- One ring after another is led to the state s, unless it holds s. -/
def mendR (s : Int) : List (List Int) → List Int → List Int
  | [], m => m
  | r :: rs, m => mendR s rs (if s ∈ r then m else m.set (rd r 0).toNat s)
theorem mendR_length (s : Int) (a : List (List Int)) : ∀ m, (mendR s a m).length = m.length := by
  induction a with
  | nil => intro m; rfl
  | cons r a ih =>
    intro m
    rw [mendR, ih]
    split
    · rfl
    · rw [List.length_set]
def mend (l : List Int) (s : Int) : List Int := mendR s (ringsUp l l.length) l
theorem mend_length (l : List Int) (s : Int) : (mend l s).length = l.length := mendR_length _ _ _
theorem index_no {r : List Int} (hr : r.length ≤ 1048576) {v : Int} (hv : v ∉ r) (d : Nat) : ∀ i : Nat, i + d = r.length → Ev (fun k => slices_Index_int64_int64.l0 k r v (r.length : Int) (i : Int)) (-1) := by
  induction d with
  | zero =>
    intro i hi
    refine Ev.succ ?_
    simp only [slices_Index_int64_int64.l0, if_neg (show ¬ (i : Int) < (r.length : Int) by omega)]
    exact Ev.now _
  | succ d ih =>
    intro i hi
    refine Ev.succ ?_
    have hil : i < r.length := by omega
    have e1 : wrap64 ((i : Int) + 1) = ((i + 1 : Nat) : Int) := by rw [w64 (by omega) (by omega)]; omega
    have hg : ¬ v = r[i] := fun z => hv (by rw [z]; exact List.getElem_mem hil)
    simp only [slices_Index_int64_int64.l0, if_pos (show (i : Int) < (r.length : Int) by omega), if_pos (show (0 : Int) ≤ (i : Int) by omega), rd_at r i hil, if_neg hg, e1]
    exact ih (i + 1) (by omega)
theorem contains_ev {r : List Int} (hr : r.length ≤ 1048576) (v : Int) : Ev (fun k => slices_Contains_int64_int64.f k r v) (decide (v ∈ r)) := by
  unfold slices_Contains_int64_int64.f
  by_cases h : v ∈ r
  · refine Ev.bind (index_ev hr h) ?_
    rw [decide_eq_true h, decide_eq_true (show ((r.idxOf v : Nat) : Int) ≥ 0 by omega)]
    exact Ev.now _
  · refine Ev.bind (a := (-1 : Int)) (index_no hr h r.length 0 (by omega)) ?_
    rw [decide_eq_false h]
    exact Ev.now _
theorem mend_loop {n : Int} {l : List Int} {s : Int} (hok : okC n l) (N : Nat) (R : List (List Int)) (hR : R.length ≤ 1048576) (hr : ∀ r ∈ R, r.length ≤ 1048576 ∧ 0 < r.length ∧ 0 ≤ rd r 0 ∧ rd r 0 < (N : Int)) (d : Nat) : ∀ (i : Nat) (m : List Int), i + d = R.length → m.length = N →
    Ev (fun k => impl_MendCounter.l0 k s R (R.length : Int) (i : Int) n m) (n, mendR s (R.drop i) m, true) := by
  induction d with
  | zero =>
    intro i m hi hm
    refine Ev.succ ?_
    rw [List.drop_eq_nil_of_le (by omega)]
    simp only [impl_MendCounter.l0, if_neg (show ¬ (i : Int) < (R.length : Int) by omega)]
    exact Ev.now _
  | succ d ih =>
    intro i m hi hm
    refine Ev.succ ?_
    have hlt : i < R.length := by omega
    have e1 : wrap64 ((i : Int) + 1) = ((i + 1 : Nat) : Int) := by rw [w64 (by omega) (by omega)]; omega
    have er : rd_L2 R (i : Int) = R[i] := by
      unfold rd_L2
      simp [List.getD_eq_getElem?_getD, List.getElem?_eq_getElem hlt]
    obtain ⟨h1, h2, h3, h4⟩ := hr _ (List.getElem_mem hlt)
    rw [List.drop_eq_getElem_cons hlt, mendR]
    simp only [impl_MendCounter.l0, if_pos (show (i : Int) < (R.length : Int) by omega), if_pos (show (0 : Int) ≤ (i : Int) by omega), er, e1]
    refine Ev.bind (contains_ev h1 s) ?_
    by_cases hc : s ∈ R[i]
    · simp only [hc, decide_true, if_true]
      exact ih (i + 1) m (by omega) hm
    · simp only [hc, decide_false, Bool.false_eq_true, if_false, if_pos (show (0 : Int) < (R[i].length : Int) by omega), if_pos h3, if_pos (show rd R[i] 0 < (m.length : Int) by omega)]
      exact ih (i + 1) _ (by omega) (by rw [List.length_set]; exact hm)
theorem ringsUp_each {n : Int} {l : List Int} (hok : okC n l) : ∀ r ∈ ringsUp l l.length, r.length ≤ 1048576 ∧ 0 < r.length ∧ 0 ≤ rd r 0 ∧ rd r 0 < (l.length : Int) := by
  intro r hr
  obtain ⟨a, h1, h2, rfl⟩ := (ringsUp_mem l l.length r).mp hr
  have hp := ringOf_pos hok (isSt_nat hok h1)
  rw [h2.2]
  omega
/-- What the program's MendCounter answers. -/
def mendV (n : Int) (l : List Int) (s : Int) : Int × List Int × Bool := if (okC n l ∧ isSt n s) ∧ tailOf l s = 0 then (n, mend l s, true) else (0, [], false)
theorem implMend_ev (n : Int) (l : List Int) (s : Int) : Ev (fun k => impl_MendCounter.f k n l s) (mendV n l s) := by
  unfold impl_MendCounter.f impl_TailOf.f mendV
  by_cases hs : okC n l ∧ isSt n s
  · refine Ev.bind (a := ((tailOf l s : Int), true)) ?_ ?_
    · simp only [isState_form, hs, and_self, decide_true, Option.bind_some, if_true]
      exact Ev.bind (implRing_ev hs.1 hs.2) (Ev.now _)
    · simp only [if_true]
      refine Ev.succ ?_
      by_cases ht : tailOf l s = 0
      · have h256 := okC_len hs.1
        have hcl : slices_Clone_int64_int64.f l = some l := by unfold slices_Clone_int64_int64.f; rw [if_pos (by omega)]
        have hrl := ringsUp_length l l.length
        rw [if_pos ⟨hs, ht⟩]
        simp only [impl_MendCounter.j0, ht, Int.natCast_zero, show ¬ ((0 : Int) > 0) by decide, decide_false, Bool.false_eq_true, if_false, hcl, Option.bind_some]
        refine Ev.bind (implRings_ev hs.1) ?_
        exact mend_loop hs.1 l.length (ringsUp l l.length) (by omega) (ringsUp_each hs.1) (ringsUp l l.length).length 0 l (by omega) rfl
      · rw [if_neg (fun z => ht z.2)]
        simp only [impl_MendCounter.j0, show (tailOf l s : Int) > 0 by omega, decide_true, if_true]
        exact Ev.now _
  · refine Ev.bind (a := ((0 : Int), false)) ?_ ?_
    · simp only [isState_form, hs, decide_false, Option.bind_some, Bool.false_eq_true, if_false]
      exact Ev.now _
    · rw [if_neg (fun z => hs z.1)]
      simp only [Bool.false_eq_true, if_false]
      refine Ev.succ ?_
      simp only [impl_MendCounter.j0, if_true]
      exact Ev.now _
end Go.Proofs.Ytomepieklgplgaa.P

namespace Go.Proofs.Ytomepieklgplgaa.Pure
open Go.RowKit Go.Proofs.YtomepieklgplgaaW.PrintWords Go.Proofs.YtomepieklgplgaaW.PrintLast Go.Proofs.YtomepieklgplgaaW.PrintMore
set_option linter.unusedVariables false
set_option linter.unusedSimpArgs false
open Go.Proofs.Ytomepieklgplgaa.P

/-- A ring of the list holds s exactly if it begins where the ring of s begins. -/
theorem ring_same {n : Int} {l : List Int} {s : Int} (hok : okC n l) (hs : isSt n s) (hc : tailOf l s = 0) {a : Nat} (ha : a < l.length) (hlo : loX l (a : Int)) : rd (ringOf l (a : Int)) 0 = rd (ringOf l s) 0 ↔ s ∈ ringOf l (a : Int) := by
  have hsa := isSt_nat hok ha
  obtain ⟨h1, h2, h3⟩ := lowOf_spec hok hs
  have h4 := lowOf_on hok hs
  rw [ring_mem_cyc hok hsa hlo.1, hlo.2]
  constructor
  · intro e
    have e' : (a : Int) = lowOf l s := e
    rw [← e'] at h4
    exact onX_symm hok hs hc h4
  · intro h
    exact loX_eq hok hsa h1 hlo h2 h (onX_symm hok hs hc h4)
theorem specMend_loop (n s : Int) (ogn : List Int) (ho : 0 < ogn.length) (N : Nat) (R : List (List Int)) (hR : R.length ≤ 1048576) (hr : ∀ r ∈ R, 0 < r.length ∧ 0 ≤ rd r 0 ∧ rd r 0 < (N : Int) ∧ (rd r 0 = rd ogn 0 ↔ s ∈ r)) (d : Nat) : ∀ (i : Nat) (m : List Int), i + d = R.length → m.length = N →
    Ev (fun k => spec_MendCounter.l0 k s ogn R (i : Int) n m) (n, mendR s (R.drop i) m, true) := by
  induction d with
  | zero =>
    intro i m hi hm
    refine Ev.succ ?_
    rw [List.drop_eq_nil_of_le (by omega)]
    simp only [spec_MendCounter.l0, if_neg (show ¬ (i : Int) < (R.length : Int) by omega)]
    exact Ev.now _
  | succ d ih =>
    intro i m hi hm
    refine Ev.succ ?_
    have hlt : i < R.length := by omega
    have e1 : wrap64 ((i : Int) + 1) = ((i + 1 : Nat) : Int) := by rw [w64 (by omega) (by omega)]; omega
    have er : rd_L2 R (i : Int) = R[i] := by
      unfold rd_L2
      simp [List.getD_eq_getElem?_getD, List.getElem?_eq_getElem hlt]
    obtain ⟨h1, h2, h3, h4⟩ := hr _ (List.getElem_mem hlt)
    rw [List.drop_eq_getElem_cons hlt, mendR]
    simp only [spec_MendCounter.l0, if_pos (show (i : Int) < (R.length : Int) by omega), if_pos (show (0 : Int) ≤ (i : Int) by omega), er, e1, if_pos (show (0 : Int) < (R[i].length : Int) by omega), if_pos (show (0 : Int) < (ogn.length : Int) by omega)]
    by_cases hc : s ∈ R[i]
    · simp only [hc, if_true, if_pos (h4.mpr hc)]
      exact ih (i + 1) m (by omega) hm
    · simp only [hc, if_false, if_neg (fun e => hc (h4.mp e)), if_pos h2, if_pos (show rd R[i] 0 < (m.length : Int) by omega)]
      exact ih (i + 1) _ (by omega) (by rw [List.length_set]; exact hm)
theorem specMend_ev {n : Int} {l : List Int} {s : Int} (hl : l.length ≤ 1048576) : Ev (fun k => spec_MendCounter.f k n l s) (mendV n l s) := by
  unfold spec_MendCounter.f mendV
  refine Ev.bind (specAt_ev n l s hl) ?_
  by_cases hs : okC n l ∧ isSt n s
  · simp only [hs, and_self, decide_true, if_true, true_and]
    refine Ev.bind (specRing_ev hs.1 hs.2) ?_
    by_cases ht : tailOf l s = 0
    · have h256 := okC_len hs.1
      have hown : spec_l00Own.f l = some l := by
        unfold spec_l00Own.f
        simp only [Option.bind_some, List.length_nil, List.nil_append, if_pos (show 0 + l.length < 17592186044416 by omega)]
      have hrl := ringsUp_length l l.length
      have hp := ringOf_pos hs.1 hs.2
      simp only [ht, Int.natCast_zero, show ¬ ((0 : Int) > 0) by decide, if_false, hown, Option.bind_some, if_true]
      refine Ev.bind (specRings_ev hs.1) ?_
      refine specMend_loop n s (ringOf l s) hp.1 l.length (ringsUp l l.length) (by omega) (fun r hr => ?_) (ringsUp l l.length).length 0 l (by omega) rfl
      obtain ⟨q1, q2, q3, q4⟩ := ringsUp_each hs.1 r hr
      obtain ⟨a, h1, h2, rfl⟩ := (ringsUp_mem l l.length r).mp hr
      exact ⟨q2, q3, q4, ring_same hs.1 hs.2 ht h1 h2⟩
    · simp only [if_pos (show (tailOf l s : Int) > 0 by omega), ht, if_false]
      exact Ev.now _
  · simp only [hs, decide_false, Bool.false_eq_true, if_false, false_and]
    exact Ev.now _
theorem mendV_len {n : Int} {l : List Int} {s : Int} (hl : l.length ≤ 1048576) : (mendV n l s).2.1.length ≤ 1048576 := by
  unfold mendV
  split
  · rw [mend_length]; exact hl
  · simp
theorem FnExactMendCounter : laws_FnExactMendCounter.Pure := by
  intro n l s _ hm _ _
  apply Ev.rounds
  unfold laws_FnExactMendCounter.f
  by_cases hl : l.length ≤ 1048576
  · simp only [sz_short hl, Option.bind_some, if_neg (show ¬ (1048576 - (l.length : Int)) < 0 by omega)]
    have h1 := specMend_ev (n := n) (s := s) hl
    have h2 := implMend_ev n l s
    have hv := mendV_len (n := n) (s := s) hl
    generalize mendV n l s = v at h1 h2 hv
    obtain ⟨b, q, ok⟩ := v
    replace hv : q.length ≤ 1048576 := hv
    refine Ev.bind (toCounter_ev n l hl) (Ev.bind h1 (Ev.bind (toCounter_ev n l hl) (Ev.bind h2 ?_)))
    refine Ev.bind (eqCounter_ev b q (by omega)) ?_
    simp only [if_true, bne_self_eq_false]
    refine Ev.succ ?_
    simp only [laws_FnExactMendCounter.j0, Bool.false_eq_true, if_false]
    refine Ev.bind (toCounter_ev n l hl) (Ev.bind (eqCounter_ev n l hl) ?_)
    simp only [if_true]
    refine Ev.bind (markC_ev n (by omega)) ?_
    simp only [if_neg (show ¬ (1 + (l.length : Int)) < 0 by omega)]
    refine Ev.bind (eqCounter_ev b q (by omega)) ?_
    simp only [if_true, bne_self_eq_false]
    refine Ev.succ ?_
    simp only [laws_FnExactMendCounter.j1, Bool.false_eq_true, if_false]
    refine Ev.bind (markC_ev b (by omega)) (Ev.bind (heldC_ev b (by omega)) ?_)
    simp only [if_neg (show ¬ (1 + (q.length : Int)) < 0 by omega), if_true]
    refine Ev.bind (toCounter_ev n l hl) (Ev.bind h2 ?_)
    refine Ev.bind (eqCounter_ev b q (by omega)) ?_
    simp only [if_true, bne_self_eq_false]
    refine Ev.succ ?_
    simp only [laws_FnExactMendCounter.j2, Bool.false_eq_true, if_false]
    refine Ev.bind (heldC_ev b (by omega)) ?_
    simp only [if_neg (show ¬ (1 + (q.length : Int)) < 0 by omega), if_true]
    exact Ev.now _
  · simp only [sz_long hm (by omega), Option.bind_some]
    exact Ev.now _
end Go.Proofs.Ytomepieklgplgaa.Pure
