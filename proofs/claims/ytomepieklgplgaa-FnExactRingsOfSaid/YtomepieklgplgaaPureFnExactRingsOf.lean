/- The program's RingsOf returns what the reference's returns, for all counters; no condition. -/
import Derived.Test.YtomepieklgplgaaP9
import Derived.Test.YtomepieklgplgaaBase
import Derived.Test.YtomepieklgplgaaP1
import Derived.Test.YtomepieklgplgaaP2
import Derived.Test.YtomepieklgplgaaExtValid
import Derived.Test.YtomepieklgplgaaForms
import Derived.Test.YtomepieklgplgaaStates
import Derived.Test.YtomepieklgplgaaP0
import Derived.Test.YtomepieklgplgaaP3
import Derived.Laws.CopyOwn
import Derived.Deep.RegionLaw
import Derived.Deep.QuietTactic
import Derived.BigQuiet
import Derived.Lib.Hide
import Derived.Test.YtomepieklgplgaaExtGrow
import Derived.Test.YtomepieklgplgaaP4
import Derived.Test.YtomepieklgplgaaP14
import Derived.Test.YtomepieklgplgaaExtRep
import Derived.Test.YtomepieklgplgaaP5
import Derived.Test.YtomepieklgplgaaP16
import Derived.Test.YtomepieklgplgaaP18
import Derived.Test.YtomepieklgplgaaExtMarkSS
/- What the laws do with lists of whole numbers: two equal lists are told equal; marks that were written are found again. The lists hold fewer than 2^60 numbers. -/
namespace Go.Proofs.Ytomepieklgplgaa.P
open Go.RowKit Go.Proofs.YtomepieklgplgaaW.PrintWords Go.Proofs.YtomepieklgplgaaW.PrintLast Go.Proofs.YtomepieklgplgaaW.PrintMore

theorem eqS_loop (l : List Int) (hl : l.length < 1152921504606846976) (d : Nat) : ∀ i : Nat, i + d = l.length → Ev (fun k => laws_eqInt64S.l0 k l l (i : Int)) true := by
  induction d with
  | zero =>
    intro i hi
    refine Ev.succ ?_
    simp only [laws_eqInt64S.l0, if_neg (show ¬ (i : Int) < (l.length : Int) by omega)]
    exact Ev.now _
  | succ d ih =>
    intro i hi
    refine Ev.succ ?_
    simp only [laws_eqInt64S.l0, if_pos (show (i : Int) < (l.length : Int) by omega), if_pos (show (0 : Int) ≤ (i : Int) by omega), if_true]
    rw [show (i : Int) + 1 = ((i + 1 : Nat) : Int) by omega, w64 (by omega) (by omega)]
    exact ih (i + 1) (by omega)
theorem eqS_ev {l : List Int} (hl : l.length < 1152921504606846976) : Ev (fun k => laws_eqInt64S.f k l l) true := by
  unfold laws_eqInt64S.f
  simp only [if_true]
  exact eqS_loop l hl l.length 0 (by omega)

/-- n marks from s on. -/
def marks : Nat → Int → List Int
  | 0, _ => []
  | n + 1, s => s :: marks n (s + 1)
theorem marks_length (n : Nat) : ∀ s, (marks n s).length = n := by
  induction n with
  | zero => intro s; rfl
  | succ n ih => intro s; simp [marks, ih]
theorem marks_get (n : Nat) : ∀ (s : Int) (j : Nat), j < n → (marks n s)[j]? = some (s + j) := by
  induction n with
  | zero => intro s j h; omega
  | succ n ih =>
    intro s j h
    cases j with
    | zero => simp [marks]
    | succ j => simp only [marks, List.getElem?_cons_succ, ih (s + 1) j (by omega)]; congr 1; omega
theorem rd_marks (n : Nat) (s : Int) (j : Nat) (h : j < n) : rd (marks n s) (j : Int) = s + j := by
  unfold rd
  simp [List.getD_eq_getElem?_getD, marks_get n s j h]
theorem set_mid (pre : List Int) (x y : Int) (post : List Int) : (pre ++ x :: post).set pre.length y = pre ++ y :: post := by
  simp
theorem mark_loop (s : Int) (hs0 : 0 ≤ s) (rest : List Int) : ∀ (pre : List Int) (m : Int), m = s + pre.length → s + pre.length + rest.length < 1152921504606846976 →
    Ev (fun k => laws_markInt64S.l0 k (pre ++ rest) m (pre.length : Int)) (m + rest.length, pre ++ marks rest.length m) := by
  induction rest with
  | nil =>
    intro pre m hm hb
    refine Ev.succ ?_
    simp only [laws_markInt64S.l0, List.append_nil, Int.lt_irrefl, if_false]
    exact Ev.const (by simp [marks])
  | cons x rest ih =>
    intro pre m hm hb
    refine Ev.succ ?_
    simp only [List.length_cons] at hb
    simp only [laws_markInt64S.l0, if_pos (show (pre.length : Int) < ((pre ++ x :: rest).length : Int) by simp; omega), if_pos (show (0 : Int) ≤ (pre.length : Int) by omega), Int.toNat_natCast, set_mid]
    rw [w64 (by omega) (by omega), w64 (by omega) (by omega)]
    have h := ih (pre ++ [m]) (m + 1) (by simp; omega) (by simp; omega)
    simp only [List.append_assoc, List.singleton_append, List.length_append, List.length_singleton] at h
    refine Ev.eq (Ev.congr (fun k => ?_) h) ?_
    · congr 1
    · rw [List.length_cons, marks]
      refine Prod.ext ?_ rfl
      show m + 1 + (rest.length : Int) = m + ((rest.length + 1 : Nat) : Int)
      omega
theorem mark_ev {s : Int} (hs0 : 0 ≤ s) {l : List Int} (hl : s + l.length < 1152921504606846976) : Ev (fun k => laws_markInt64S.f k l s) (s + l.length, marks l.length s) := by
  have h := mark_loop s hs0 l [] s (by simp) (by simpa using hl)
  exact h
theorem held_loop (L : List Int) (s : Int) (hs0 : 0 ≤ s) (hL : s + L.length < 1152921504606846976) (hr : ∀ j : Nat, j < L.length → rd L (j : Int) = s + j) (d : Nat) :
    ∀ i : Nat, i + d = L.length → Ev (fun k => laws_heldInt64S.l0 k L (s + i) (i : Int)) (s + L.length) := by
  induction d with
  | zero =>
    intro i hi
    refine Ev.succ ?_
    simp only [laws_heldInt64S.l0, if_neg (show ¬ (i : Int) < (L.length : Int) by omega)]
    exact Ev.const (by congr 1; omega)
  | succ d ih =>
    intro i hi
    refine Ev.succ ?_
    simp only [laws_heldInt64S.l0, if_pos (show (i : Int) < (L.length : Int) by omega), if_pos (show (0 : Int) ≤ (i : Int) by omega), if_pos (hr i (by omega))]
    rw [w64 (by omega) (by omega), w64 (by omega) (by omega)]
    refine Ev.congr (fun k => ?_) (ih (i + 1) (by omega))
    congr 1
    omega
theorem held_ev {s : Int} (hs0 : 0 ≤ s) {n : Nat} (hl : s + n < 1152921504606846976) : Ev (fun k => laws_heldInt64S.f k (marks n s) s) (s + n) := by
  have h := held_loop (marks n s) s hs0 (by rw [marks_length]; exact hl) (fun j hj => rd_marks n s j (by rwa [marks_length] at hj)) n 0 (by rw [marks_length]; omega)
  unfold laws_heldInt64S.f
  refine Ev.eq (Ev.congr (fun k => ?_) h) ?_
  · congr 1; omega
  · rw [marks_length]
end Go.Proofs.Ytomepieklgplgaa.P

/- Counters: when one is valid, as the program and as the reference ask it; a law's copying and comparing of counters. Lists of at most 1048576 numbers. -/
namespace Go.Proofs.Ytomepieklgplgaa.P
open Go.RowKit Go.Proofs.YtomepieklgplgaaW.PrintWords Go.Proofs.YtomepieklgplgaaW.PrintLast Go.Proofs.YtomepieklgplgaaW.PrintMore

def validB (n : Int) (l : List Int) : Bool := decide (1 ≤ n ∧ n ≤ 8) && decide ((l.length : Int) = 2 ^ n.toNat) && l.all fun x => isStB n x
theorem any_not (n : Int) (l : List Int) : (!(l.any fun x => !isStB n x)) = l.all fun x => isStB n x := by
  induction l with
  | nil => rfl
  | cons a l ih => simp only [List.any_cons, List.all_cons, Bool.not_or, Bool.not_not, ih]
theorem implValid_form (n : Int) (l : List Int) : impl_ValidCounter.f n l = some (validB n l) := by
  unfold impl_ValidCounter.f validB
  by_cases h1 : 1 ≤ n ∧ n ≤ 8
  · by_cases h2 : (l.length : Int) = 2 ^ n.toNat
    · have h3 : l.length = 2 ^ n.toNat := by exact_mod_cast h2
      rw [if_pos ⟨h1.1, h1.2, h3⟩, any_not, decide_eq_true h1, decide_eq_true h2, Bool.true_and, Bool.true_and]
    · have h3 : ¬ l.length = 2 ^ n.toNat := fun z => h2 (by exact_mod_cast z)
      rw [if_neg (fun z => h3 z.2.2), decide_eq_false h2, Bool.and_false, Bool.false_and]
  · rw [if_neg (fun z => h1 ⟨z.1, z.2.1⟩), decide_eq_false h1, Bool.false_and, Bool.false_and]
theorem is_loop (n : Int) (l : List Int) (hl : l.length ≤ 1048576) (d : Nat) : ∀ i : Nat, i + d = l.length → Ev (fun k => spec_l02Is.l0 k (i : Int) n l) ((l.drop i).all (fun x => isStB n x), n) := by
  induction d with
  | zero =>
    intro i hi
    refine Ev.succ ?_
    rw [List.drop_eq_nil_of_le (by omega)]
    simp only [spec_l02Is.l0, if_neg (show ¬ (i : Int) < (l.length : Int) by omega)]
    exact Ev.now _
  | succ d ih =>
    intro i hi
    refine Ev.succ ?_
    have hlt : i < l.length := by omega
    have e1 : wrap64 ((i : Int) + 1) = ((i + 1 : Nat) : Int) := by rw [w64 (by omega) (by omega)]; omega
    have er : rd l (i : Int) = l[i] := rd_at l i hlt
    rw [List.drop_eq_getElem_cons hlt, List.all_cons]
    simp only [spec_l02Is.l0, if_pos (show (i : Int) < (l.length : Int) by omega), if_pos (show (0 : Int) ≤ (i : Int) by omega), er, state_form, Option.bind_some, e1]
    by_cases hs : isSt n l[i]
    · simp only [hs, decide_true, if_true, isStB, Bool.true_and]
      exact ih (i + 1) (by omega)
    · simp only [hs, decide_false, Bool.false_eq_true, if_false, isStB, Bool.false_and]
      exact Ev.now _
theorem specIs_ev (n : Int) (l : List Int) (hl : l.length ≤ 1048576) : Ev (fun k => spec_l02Is.f k n l) (validB n l, n) := by
  unfold spec_l02Is.f spec_l02Bits.f validB
  simp only [in_form, Option.bind_some]
  by_cases h1 : 1 ≤ n ∧ n ≤ 8
  · simp only [h1, and_self, decide_true, if_true, size_form (show 0 ≤ n ∧ n ≤ 62 by omega), Option.bind_some]
    by_cases h2 : (l.length : Int) = 2 ^ n.toNat
    · refine Ev.succ ?_
      simp only [spec_l02Is.j0, h2, bne_self_eq_false, Bool.false_eq_true, if_false, decide_true, Bool.true_and]
      have h := is_loop n l hl l.length 0 (by omega)
      rw [List.drop_zero] at h
      exact h
    · have hb : ((l.length : Int) != 2 ^ n.toNat) = true := bne_iff_ne.mpr h2
      refine Ev.succ ?_
      simp only [spec_l02Is.j0, hb, if_true, h2, decide_false, Bool.true_and, Bool.false_and]
      exact Ev.now _
  · simp only [h1, decide_false, Bool.false_eq_true, if_false, Bool.false_and]
    refine Ev.succ ?_
    simp only [spec_l02Is.j0, if_true]
    exact Ev.now _
theorem sz_long {n : Int} {l : List Int} (hm : l.length ≤ maxLen) (h : 1048576 < l.length) : laws_szCounter.f n l 1048576 = some (-1) := by
  unfold laws_szCounter.f laws_szInt64S.f
  have hx : maxLen ≤ 9223372036854775807 := by decide
  have hm' : (l.length : Int) ≤ 9223372036854775807 := by omega
  rw [w64 (by omega) (by omega), if_pos (by omega)]
  rfl
theorem sz_short {n : Int} {l : List Int} (h : l.length ≤ 1048576) : laws_szCounter.f n l 1048576 = some (1048576 - (l.length : Int)) := by
  unfold laws_szCounter.f laws_szInt64S.f
  rw [w64 (by omega) (by omega), if_neg (by omega)]
  simp only [Option.bind_some]
  rw [if_neg (by omega)]
theorem copy_loop (l : List Int) (hl : l.length ≤ 1048576) (d : Nat) : ∀ (i : Nat) (m : List Int), i + d = l.length → m.length = l.length → m.take i = l.take i → Ev (fun k => laws_toInt64S.l0 k l m (i : Int)) l := by
  induction d with
  | zero =>
    intro i m hi hm ht
    refine Ev.succ ?_
    simp only [laws_toInt64S.l0, if_neg (show ¬ (i : Int) < (l.length : Int) by omega)]
    rw [List.take_of_length_le (by omega), List.take_of_length_le (by omega)] at ht
    rw [ht]
    exact Ev.now _
  | succ d ih =>
    intro i m hi hm ht
    refine Ev.succ ?_
    have hlt : i < l.length := by omega
    have e1 : wrap64 ((i : Int) + 1) = ((i + 1 : Nat) : Int) := by rw [w64 (by omega) (by omega)]; omega
    have er : rd l (i : Int) = l[i] := rd_at l i hlt
    simp only [laws_toInt64S.l0, if_pos (show (i : Int) < (l.length : Int) by omega), if_pos (show (0 : Int) ≤ (i : Int) by omega), if_pos (show (i : Int) < (m.length : Int) by omega), er, Int.toNat_natCast, e1]
    refine ih (i + 1) (m.set i l[i]) (by omega) (by rw [List.length_set]; exact hm) ?_
    rw [← List.take_append_getElem hlt, ← List.take_append_getElem (show i < (m.set i l[i]).length by rw [List.length_set]; omega)]
    rw [List.take_set_of_le (Nat.le_refl i), ht, List.getElem_set_self]
theorem toCounter_ev (n : Int) (l : List Int) (hl : l.length ≤ 1048576) : Ev (fun k => laws_toCounter.f k n l) (n, l) := by
  unfold laws_toCounter.f laws_toInt64S.f
  simp only [Int.toNat_natCast, if_pos (show (0 : Int) ≤ (l.length : Int) by omega), if_pos (show l.length ≤ 35184372088832 by omega)]
  exact Ev.bind (a := l) (copy_loop l hl l.length 0 _ (by omega) (by simp) (by simp)) (Ev.now _)
theorem eqCounter_ev (n : Int) (l : List Int) (hl : l.length ≤ 1048576) : Ev (fun k => laws_eqCounter.f k n l n l) true := by
  unfold laws_eqCounter.f
  simp only [if_true]
  refine Ev.bind (eqS_ev (l := l) (by omega)) ?_
  simp only [if_true]
  exact Ev.now _
end Go.Proofs.Ytomepieklgplgaa.P

/- What the laws do with counters that a function returned: marks written into one are found again. Lists of fewer than 2^60 numbers. -/
namespace Go.Proofs.Ytomepieklgplgaa.P
open Go.RowKit Go.Proofs.YtomepieklgplgaaW.PrintWords Go.Proofs.YtomepieklgplgaaW.PrintLast Go.Proofs.YtomepieklgplgaaW.PrintMore

theorem markC_ev (n : Int) {l : List Int} (hl : 1 + (l.length : Int) < 1152921504606846976) : Ev (fun k => laws_markCounter.f k n l 1) (1 + l.length, marks l.length 1) := by
  unfold laws_markCounter.f
  exact Ev.bind (mark_ev (by omega) hl) (Ev.now _)
end Go.Proofs.Ytomepieklgplgaa.P

/- A counter that is whole; the states that it runs through; no condition beyond lists of at most 1048576 numbers. -/
namespace Go.Proofs.Ytomepieklgplgaa.P
open Go.RowKit Go.Proofs.YtomepieklgplgaaW.PrintWords Go.Proofs.YtomepieklgplgaaW.PrintLast Go.Proofs.YtomepieklgplgaaW.PrintMore

/-- A counter of n bits, whole. -/
def okC (n : Int) (l : List Int) : Prop := (1 ≤ n ∧ n ≤ 8) ∧ (l.length : Int) = 2 ^ n.toNat ∧ ∀ x ∈ l, isSt n x
instance (n : Int) (l : List Int) : Decidable (okC n l) := by unfold okC; infer_instance
/-- The state after i steps. -/
def outX (l : List Int) (x : Int) : Nat → Int
  | 0 => x
  | i + 1 => rd l (outX l x i)
theorem okC_form (n : Int) (l : List Int) : impl_ValidCounter.f n l = some (decide (okC n l)) := by
  unfold impl_ValidCounter.f
  by_cases h1 : 1 ≤ n ∧ n ≤ 8
  · by_cases h2 : (l.length : Int) = 2 ^ n.toNat
    · have h3 : l.length = 2 ^ n.toNat := by exact_mod_cast h2
      rw [if_pos ⟨h1.1, h1.2, h3⟩]
      congr 1
      rw [Bool.eq_iff_iff, decide_eq_true_eq]
      simp only [Bool.not_eq_true', List.any_eq_false]
      exact ⟨fun h => ⟨h1, h2, fun x hx => by simpa [isStB] using h x hx⟩, fun h x hx => by simpa [isStB] using h.2.2 x hx⟩
    · have h3 : ¬ l.length = 2 ^ n.toNat := fun z => h2 (by exact_mod_cast z)
      rw [if_neg (fun z => h3 z.2.2), decide_eq_false (fun z => h2 z.2.1)]
  · rw [if_neg (fun z => h1 ⟨z.1, z.2.1⟩), decide_eq_false (fun z => h1 z.1)]
theorem outX_st {n : Int} {l : List Int} {x : Int} (hok : okC n l) (hx : isSt n x) (i : Nat) : isSt n (outX l x i) := by
  induction i with
  | zero => exact hx
  | succ i ih =>
    obtain ⟨h1, h2, h3⟩ := hok
    obtain ⟨y, hy⟩ : ∃ y : Nat, outX l x i = (y : Int) := Int.eq_ofNat_of_zero_le ih.2.1
    have hlt : y < l.length := by have := ih.2.2; omega
    rw [outX, hy, rd_at l y hlt]
    exact h3 _ (List.getElem_mem hlt)

theorem validB_ok (n : Int) (l : List Int) : validB n l = decide (okC n l) := by
  have h1 := implValid_form n l
  rw [okC_form] at h1
  exact (Option.some.inj h1).symm
end Go.Proofs.Ytomepieklgplgaa.P

/- The ring that a state of a whole counter reaches, and the steps to it: the program's loops and the reference's come to the same. -/
namespace Go.Proofs.Ytomepieklgplgaa.P
open Go.RowKit Go.Proofs.YtomepieklgplgaaW.PrintWords Go.Proofs.YtomepieklgplgaaW.PrintLast Go.Proofs.YtomepieklgplgaaW.PrintMore

/-- The states before step i. -/
def pathX (l : List Int) (x : Int) : Nat → List Int
  | 0 => []
  | i + 1 => pathX l x i ++ [outX l x i]
theorem pathX_length (l : List Int) (x : Int) (i : Nat) : (pathX l x i).length = i := by
  induction i with
  | zero => rfl
  | succ i ih => simp [pathX, ih]
/-- The first step, from i on, at which a state comes again. -/
def turnX (l : List Int) (x : Int) : Nat → Nat → Nat
  | 0, i => i
  | k + 1, i => if outX l x i ∈ pathX l x i then i else turnX l x k (i + 1)
def ringT (l : List Int) (x : Int) : Nat := turnX l x (l.length + 1) 0
def tailOf (l : List Int) (x : Int) : Nat := (pathX l x (ringT l x)).idxOf (outX l x (ringT l x))
def rawRing (l : List Int) (x : Int) : List Int := (pathX l x (ringT l x)).drop (tailOf l x)
def leastOf (r : List Int) : Int := r.tail.foldl mn (r.headD 0)

theorem outX_lt {n : Int} {l : List Int} {x : Int} (hok : okC n l) (hx : isSt n x) (i : Nat) : 0 ≤ outX l x i ∧ outX l x i < (l.length : Int) := by
  have h := outX_st hok hx i
  exact ⟨h.2.1, by have := h.2.2; have := hok.2.1; omega⟩
theorem turnX_spec (l : List Int) (x : Int) (k : Nat) : ∀ i, i ≤ turnX l x k i ∧ turnX l x k i ≤ i + k ∧ (∀ j, i ≤ j → j < turnX l x k i → outX l x j ∉ pathX l x j) ∧ (turnX l x k i < i + k → outX l x (turnX l x k i) ∈ pathX l x (turnX l x k i)) := by
  induction k with
  | zero => intro i; exact ⟨Nat.le_refl _, Nat.le_refl _, fun j h1 h2 => absurd h2 (by simp only [turnX]; omega), fun h => absurd h (by simp only [turnX]; omega)⟩
  | succ k ih =>
    intro i
    by_cases hc : outX l x i ∈ pathX l x i
    · have e : turnX l x (k + 1) i = i := by rw [turnX, if_pos hc]
      rw [e]
      exact ⟨Nat.le_refl _, by omega, fun j h1 h2 => by omega, fun _ => hc⟩
    · have e : turnX l x (k + 1) i = turnX l x k (i + 1) := by rw [turnX, if_neg hc]
      rw [e]
      obtain ⟨h1, h2, h3, h4⟩ := ih (i + 1)
      refine ⟨by omega, by omega, fun j g1 g2 => ?_, fun h => h4 (by omega)⟩
      by_cases hj : j = i
      · rw [hj]; exact hc
      · exact h3 j (by omega) g2
theorem nodup_bound (N : Nat) : ∀ p : List Int, p.Nodup → (∀ y ∈ p, 0 ≤ y ∧ y < (N : Int)) → p.length ≤ N := by
  induction N with
  | zero =>
    intro p _ h
    cases p with
    | nil => exact Nat.le_refl _
    | cons a p => have := h a List.mem_cons_self; omega
  | succ N ih =>
    intro p hp h
    have h2 := ih (p.erase (N : Int)) (hp.erase _) (fun y hy => by
      have hy1 := List.mem_of_mem_erase hy
      have hy2 : y ≠ (N : Int) := fun e => by rw [e] at hy; exact (List.Nodup.not_mem_erase hp) hy
      have := h y hy1
      omega)
    have h3 : p.length - 1 ≤ (p.erase (N : Int)).length := by
      rw [List.length_erase]; split <;> omega
    omega
theorem pathX_mem {l : List Int} {x : Int} {i : Nat} {y : Int} : y ∈ pathX l x i ↔ ∃ j, j < i ∧ y = outX l x j := by
  induction i with
  | zero => simp [pathX]
  | succ i ih =>
    rw [pathX, List.mem_append, List.mem_singleton, ih]
    constructor
    · rintro (⟨j, h1, h2⟩ | h)
      · exact ⟨j, by omega, h2⟩
      · exact ⟨i, by omega, h⟩
    · rintro ⟨j, h1, h2⟩
      by_cases h : j = i
      · exact .inr (by rw [h2, h])
      · exact .inl ⟨j, by omega, h2⟩
theorem pathX_nodup {l : List Int} {x : Int} {i : Nat} (h : ∀ j, j < i → outX l x j ∉ pathX l x j) : (pathX l x i).Nodup := by
  induction i with
  | zero => exact List.nodup_nil
  | succ i ih =>
    rw [pathX, List.nodup_append]
    refine ⟨ih (fun j hj => h j (by omega)), by simp, fun a ha b hb => ?_⟩
    rw [List.mem_singleton] at hb
    rintro rfl
    rw [hb] at ha
    exact h i (by omega) ha
/-- Where the run turns. -/
theorem ringT_spec {n : Int} {l : List Int} {x : Int} (hok : okC n l) (hx : isSt n x) : ringT l x ≤ l.length ∧ (∀ j, j < ringT l x → outX l x j ∉ pathX l x j) ∧ outX l x (ringT l x) ∈ pathX l x (ringT l x) := by
  obtain ⟨_, h2, h3, h4⟩ := turnX_spec l x (l.length + 1) 0
  have hd := pathX_nodup (l := l) (x := x) (i := ringT l x) (fun j hj => h3 j (by omega) hj)
  have hb := nodup_bound l.length _ hd (fun y hy => by
    obtain ⟨j, _, rfl⟩ := pathX_mem.mp hy
    exact outX_lt hok hx j)
  rw [pathX_length] at hb
  exact ⟨hb, fun j hj => h3 j (by omega) hj, h4 (by show ringT l x < _; omega)⟩

theorem mn_le (a b : Int) : mn a b ≤ a ∧ mn a b ≤ b ∧ (mn a b = a ∨ mn a b = b) := by
  unfold mn; split <;> omega
theorem fold_mn (l : List Int) : ∀ a, (l.foldl mn a = a ∨ l.foldl mn a ∈ l) ∧ l.foldl mn a ≤ a ∧ ∀ y ∈ l, l.foldl mn a ≤ y := by
  induction l with
  | nil => intro a; exact ⟨.inl rfl, Int.le_refl _, fun y hy => by cases hy⟩
  | cons b l ih =>
    intro a
    obtain ⟨h1, h2, h3⟩ := ih (mn a b)
    obtain ⟨m1, m2, m3⟩ := mn_le a b
    rw [List.foldl_cons]
    refine ⟨?_, by omega, fun y hy => ?_⟩
    · rcases h1 with h | h
      · rcases m3 with m | m
        · exact .inl (by omega)
        · exact .inr (by rw [h, m]; exact List.mem_cons_self)
      · exact .inr (List.mem_cons_of_mem _ h)
    · rcases List.mem_cons.mp hy with rfl | hy
      · omega
      · exact h3 y hy
theorem least_spec {r : List Int} (h : r ≠ []) : leastOf r ∈ r ∧ ∀ y ∈ r, leastOf r ≤ y := by
  cases r with
  | nil => exact absurd rfl h
  | cons a l =>
    obtain ⟨h1, h2, h3⟩ := fold_mn l a
    show l.foldl mn a ∈ a :: l ∧ ∀ y ∈ a :: l, l.foldl mn a ≤ y
    refine ⟨?_, fun y hy => ?_⟩
    · rcases h1 with h | h
      · rw [h]; exact List.mem_cons_self
      · exact List.mem_cons_of_mem _ h
    · rcases List.mem_cons.mp hy with rfl | hy
      · exact h2
      · exact h3 y hy
theorem least_snoc {p : List Int} (h : p ≠ []) (a : Int) : leastOf (p ++ [a]) = mn (leastOf p) a := by
  cases p with
  | nil => exact absurd rfl h
  | cons b l =>
    show (l ++ [a]).foldl mn b = mn (l.foldl mn b) a
    rw [List.foldl_append]; rfl
def leastIx (r : List Int) : Nat := r.idxOf (leastOf r)
/-- The ring, from its least state on. -/
def turned (r : List Int) : List Int := r.drop (leastIx r) ++ r.take (leastIx r)
def ringOf (l : List Int) (x : Int) : List Int := turned (rawRing l x)
theorem leastIx_lt {r : List Int} (h : r ≠ []) : leastIx r < r.length := List.idxOf_lt_length_of_mem (least_spec h).1
theorem leastIx_snoc {p : List Int} (h : p ≠ []) (a : Int) : leastIx (p ++ [a]) = if a < leastOf p then p.length else leastIx p := by
  unfold leastIx
  rw [least_snoc h]
  obtain ⟨h1, h2⟩ := least_spec h
  unfold mn
  split
  · rename_i hlt
    have hn : a ∉ p := fun z => by have := h2 a z; omega
    rw [List.idxOf_append, if_neg hn]
    simp
  · rw [List.idxOf_append, if_pos h1]
theorem min_loop (r : List Int) (hr : r.length ≤ 1048576) (d : Nat) : ∀ i : Nat, 1 ≤ i → i + d = r.length → Ev (fun k => slices_Min_int64_int64.l0 k r (leastOf (r.take i)) (i : Int)) (leastOf r) := by
  induction d with
  | zero =>
    intro i h1 hi
    refine Ev.succ ?_
    simp only [slices_Min_int64_int64.l0, if_neg (show ¬ (i : Int) < (r.length : Int) by omega)]
    exact Ev.const (by rw [List.take_of_length_le (by omega)])
  | succ d ih =>
    intro i h1 hi
    refine Ev.succ ?_
    have hlt : i < r.length := by omega
    have e1 : wrap64 ((i : Int) + 1) = ((i + 1 : Nat) : Int) := by rw [w64 (by omega) (by omega)]; omega
    have hne : r.take i ≠ [] := fun z => by have := congrArg List.length z; rw [List.length_take, List.length_nil] at this; omega
    simp only [slices_Min_int64_int64.l0, if_pos (show (i : Int) < (r.length : Int) by omega), if_pos (show (0 : Int) ≤ (i : Int) by omega), rd_at r i hlt, e1]
    rw [← least_snoc hne, List.take_append_getElem hlt]
    exact ih (i + 1) (by omega) (by omega)
theorem min_ev {r : List Int} (hr : r.length ≤ 1048576) (h : r ≠ []) : Ev (fun k => slices_Min_int64_int64.f k r) (leastOf r) := by
  have hp : 0 < r.length := List.length_pos_iff.mpr h
  unfold slices_Min_int64_int64.f
  simp only [if_neg (show ¬ (r.length : Int) < 1 by omega), if_pos (show (0 : Int) < (r.length : Int) by omega)]
  have h1 := min_loop r hr (r.length - 1) 1 (Nat.le_refl 1) (by omega)
  have e : leastOf (r.take 1) = rd r 0 := by
    cases r with
    | nil => exact absurd rfl h
    | cons a l => rfl
  rw [e] at h1
  exact h1
theorem idxOf_le (l : List Int) : ∀ (i : Nat) (h : i < l.length), l.idxOf l[i] ≤ i := by
  induction l with
  | nil => intro i h; exact absurd h (by simp)
  | cons a l ih =>
    intro i h
    cases i with
    | zero => simp
    | succ i =>
      have h2 := ih i (by simpa using h)
      simp only [List.getElem_cons_succ, List.idxOf_cons]
      cases (a == l[i]'(by simpa using h)) <;> simp <;> omega
theorem index_loop (r : List Int) (hr : r.length ≤ 1048576) (v : Int) (hv : v ∈ r) (d : Nat) : ∀ i : Nat, i + d = r.idxOf v → Ev (fun k => slices_Index_int64_int64.l0 k r v (r.length : Int) (i : Int)) ((r.idxOf v : Nat) : Int) := by
  have hlt := List.idxOf_lt_length_of_mem hv
  induction d with
  | zero =>
    intro i hi
    refine Ev.succ ?_
    have hi' : i = r.idxOf v := by omega
    have hil : i < r.length := by omega
    have hg : v = r[i] := by subst hi'; exact (List.getElem_idxOf hlt).symm
    simp only [slices_Index_int64_int64.l0, if_pos (show (i : Int) < (r.length : Int) by omega), if_pos (show (0 : Int) ≤ (i : Int) by omega), rd_at r i hil, if_pos hg]
    exact Ev.const (by rw [hi'])
  | succ d ih =>
    intro i hi
    refine Ev.succ ?_
    have hil : i < r.length := by omega
    have e1 : wrap64 ((i : Int) + 1) = ((i + 1 : Nat) : Int) := by rw [w64 (by omega) (by omega)]; omega
    have hg : ¬ v = r[i] := fun z => by
      have : r.idxOf v ≤ i := by rw [z]; exact idxOf_le r i hil
      omega
    simp only [slices_Index_int64_int64.l0, if_pos (show (i : Int) < (r.length : Int) by omega), if_pos (show (0 : Int) ≤ (i : Int) by omega), rd_at r i hil, if_neg hg, e1]
    exact ih (i + 1) (by omega)
theorem index_ev {r : List Int} (hr : r.length ≤ 1048576) {v : Int} (hv : v ∈ r) : Ev (fun k => slices_Index_int64_int64.f k r v) ((r.idxOf v : Nat) : Int) := index_loop r hr v hv (r.idxOf v) 0 (by omega)
theorem concat_ev {a b : List Int} (ha : a.length ≤ 400000) (hb : b.length ≤ 400000) : Ev (fun k => slices_Concat_int64_int64.f k [a, b]) (a ++ b) := by
  have r0 : rd_L2 [a, b] 0 = a := rfl
  have r1 : rd_L2 [a, b] 1 = b := rfl
  have e0 : wrap64 (0 + 1) = 1 := w64 (by omega) (by omega)
  have e1 : wrap64 (1 + 1) = 2 := w64 (by omega) (by omega)
  have s0 : wrap64 (0 + (a.length : Int)) = (a.length : Int) := by rw [w64 (by omega) (by omega)]; omega
  have s1 : wrap64 ((a.length : Int) + (b.length : Int)) = (a.length : Int) + (b.length : Int) := w64 (by omega) (by omega)
  have hl : ([a, b].length : Int) = 2 := rfl
  unfold slices_Concat_int64_int64.f
  refine Ev.succ ?_
  simp only [slices_Concat_int64_int64.l0, hl, if_pos (show (0 : Int) < 2 by decide), if_pos (show (0 : Int) ≤ 0 by decide), r0, s0, if_neg (show ¬ (a.length : Int) < 0 by omega), e0]
  refine Ev.succ ?_
  simp only [slices_Concat_int64_int64.l0, hl, if_pos (show (1 : Int) < 2 by decide), if_pos (show (0 : Int) ≤ 1 by decide), r1, s1, if_neg (show ¬ (a.length : Int) + (b.length : Int) < 0 by omega), e1]
  refine Ev.succ ?_
  have hg : slices_Grow_int64_int64.f ([] : List Int) ((a.length : Int) + (b.length : Int)) = some [] := by
    unfold slices_Grow_int64_int64.f
    rw [if_pos ⟨rfl, by omega, by omega⟩]
  simp only [slices_Concat_int64_int64.l0, if_neg (show ¬ (2 : Int) < 2 by decide), hg, Option.bind_some, hl]
  refine Ev.succ ?_
  simp only [slices_Concat_int64_int64.l1, hl, if_pos (show (0 : Int) < 2 by decide), if_pos (show (0 : Int) ≤ 0 by decide), r0, e0, if_pos (show ([] : List Int).length + a.length < 17592186044416 by rw [List.length_nil]; omega), List.nil_append]
  refine Ev.succ ?_
  simp only [slices_Concat_int64_int64.l1, hl, if_pos (show (1 : Int) < 2 by decide), if_pos (show (0 : Int) ≤ 1 by decide), r1, e1, if_pos (show a.length + b.length < 17592186044416 by omega)]
  refine Ev.succ ?_
  simp only [slices_Concat_int64_int64.l1, if_neg (show ¬ (2 : Int) < 2 by decide)]
  exact Ev.now _
end Go.Proofs.Ytomepieklgplgaa.P

/- The loops of the program's ringFrom and of the reference's l02Ring come to the ring and the tail of a state; all rings of a counter, likewise. For whole counters. -/
namespace Go.Proofs.Ytomepieklgplgaa.P
open Go.RowKit Go.Proofs.YtomepieklgplgaaW.PrintWords Go.Proofs.YtomepieklgplgaaW.PrintLast Go.Proofs.YtomepieklgplgaaW.PrintMore
set_option linter.unusedVariables false

theorem rd_set_self (l : List Int) (i : Nat) (v : Int) (h : i < l.length) : rd (l.set i v) (i : Int) = v := by
  rw [rd_at _ _ (by rw [List.length_set]; exact h), List.getElem_set_self]
theorem rd_set_ne (l : List Int) (i j : Nat) (v : Int) (h : j < l.length) (hne : i ≠ j) : rd (l.set i v) (j : Int) = rd l (j : Int) := by
  rw [rd_at _ _ (by rw [List.length_set]; exact h), rd_at _ _ h, List.getElem_set_ne hne]
/-- What is noted of the states: their places, d more. -/
def seenOk (d : Int) (l seen p : List Int) : Prop := seen.length = l.length ∧ ∀ y : Nat, y < l.length → rd seen (y : Int) = if (y : Int) ∈ p then (p.idxOf (y : Int) : Int) + d else d - 1
theorem seenOk_set {d : Int} {l seen p : List Int} (h : seenOk d l seen p) {x : Nat} (hx : x < l.length) (hn : (x : Int) ∉ p) : seenOk d l (seen.set x ((p.length : Int) + d)) (p ++ [(x : Int)]) := by
  refine ⟨by rw [List.length_set]; exact h.1, fun y hy => ?_⟩
  have hs : seen.length = l.length := h.1
  by_cases e : x = y
  · subst e
    rw [rd_set_self _ _ _ (by omega), if_pos (by simp), List.idxOf_append, if_neg hn]
    simp
  · rw [rd_set_ne _ _ _ _ (by omega) e, h.2 y hy]
    have e' : ¬ (y : Int) = (x : Int) := by omega
    by_cases hp : (y : Int) ∈ p
    · rw [if_pos hp, if_pos (List.mem_append_left _ hp), List.idxOf_append, if_pos hp]
    · rw [if_neg hp, if_neg (by simp [hp, e'])]
theorem seenOk_start (d : Int) (l : List Int) : seenOk d l (List.replicate l.length (d - 1)) [] := by
  refine ⟨by simp, fun y hy => ?_⟩
  rw [rd_at _ _ (by simpa using hy)]
  simp
theorem outX_nat {n : Int} {l : List Int} {x : Int} (hok : okC n l) (hx : isSt n x) (i : Nat) : ∃ y : Nat, outX l x i = (y : Int) ∧ y < l.length := by
  have h := outX_lt hok hx i
  obtain ⟨y, hy⟩ := Int.eq_ofNat_of_zero_le h.1
  exact ⟨y, hy, by omega⟩
theorem okC_len {n : Int} {l : List Int} (hok : okC n l) : 2 ≤ l.length ∧ l.length ≤ 256 := by
  have := pow_256 hok.1
  have := hok.2.1
  omega
theorem ringT_pos {n : Int} {l : List Int} {x : Int} (hok : okC n l) (hx : isSt n x) : 0 < ringT l x ∧ ringT l x ≤ 256 := by
  obtain ⟨h1, _, h3⟩ := ringT_spec hok hx
  have := okC_len hok
  refine ⟨?_, by omega⟩
  obtain ⟨j, hj, _⟩ := pathX_mem.mp h3
  omega
theorem tailOf_lt {n : Int} {l : List Int} {x : Int} (hok : okC n l) (hx : isSt n x) : tailOf l x < ringT l x := by
  have h := List.idxOf_lt_length_of_mem (ringT_spec hok hx).2.2
  rwa [pathX_length] at h
theorem rawRing_length (l : List Int) (x : Int) : (rawRing l x).length = ringT l x - tailOf l x := by
  rw [rawRing, List.length_drop, pathX_length]
theorem rawRing_ne {n : Int} {l : List Int} {x : Int} (hok : okC n l) (hx : isSt n x) : rawRing l x ≠ [] := by
  intro h
  have h1 := congrArg List.length h
  rw [rawRing_length, List.length_nil] at h1
  have := tailOf_lt hok hx
  omega
theorem implRing_loop {n : Int} {l : List Int} {x : Int} (hok : okC n l) (hx : isSt n x) (d : Nat) : ∀ (i : Nat) (seen : List Int), i + d = ringT l x → seenOk 0 l seen (pathX l x i) →
    Ev (fun k => impl_Counter_ringFrom.l0 k (outX l x i) seen (pathX l x i) (outX l x i) n l) (ringOf l x, (tailOf l x : Int)) := by
  have h256 := ringT_pos hok hx
  have hT := ringT_spec hok hx
  induction d with
  | zero =>
    intro i seen hi hs
    obtain rfl : i = ringT l x := by omega
    obtain ⟨y, hy, hyl⟩ := outX_nat hok hx (ringT l x)
    have hm := hT.2.2
    have hrd : rd seen (y : Int) = (tailOf l x : Int) := by
      rw [hs.2 y hyl, ← hy, if_pos hm, Int.add_zero]; rfl
    have hlt := tailOf_lt hok hx
    have hne := rawRing_ne hok hx
    have hrl : (rawRing l x).length ≤ 1048576 := by rw [rawRing_length]; omega
    have hil := leastIx_lt hne
    refine Ev.succ ?_
    have hsl : seen.length = l.length := hs.1
    simp only [impl_Counter_ringFrom.l0, hy, pathX_length, if_pos (show (0 : Int) ≤ (y : Int) by omega), if_pos (show (y : Int) < (seen.length : Int) by omega), hrd, if_neg (show ¬ (tailOf l x : Int) < 0 by omega), if_neg (show ¬ ((ringT l x : Nat) : Int) = 0 by omega), if_pos (show (0 : Int) ≤ (tailOf l x : Int) by omega), if_pos (show (tailOf l x : Int) ≤ ((ringT l x : Nat) : Int) by omega), Option.bind_some, Int.toNat_natCast]
    refine Ev.bind (min_ev hrl hne) (Ev.bind (index_ev hrl (least_spec hne).1) ?_)
    show Ev (fun k => if (0 : Int) ≤ ((leastIx (rawRing l x) : Nat) : Int) then (if ((leastIx (rawRing l x) : Nat) : Int) ≤ ((rawRing l x).length : Int) then ((slices_Concat_int64_int64.f k [(rawRing l x).drop ((leastIx (rawRing l x) : Nat) : Int).toNat, (rawRing l x).take ((leastIx (rawRing l x) : Nat) : Int).toNat]).bind fun t321 => some (t321, (tailOf l x : Int))) else none) else none) _
    simp only [Int.toNat_natCast, if_pos (show (0 : Int) ≤ ((leastIx (rawRing l x) : Nat) : Int) by omega), if_pos (show ((leastIx (rawRing l x) : Nat) : Int) ≤ ((rawRing l x).length : Int) by omega)]
    refine Ev.bind (concat_ev (by rw [List.length_drop, rawRing_length]; omega) (by rw [List.length_take, rawRing_length]; omega)) ?_
    exact Ev.now _
  | succ d ih =>
    intro i seen hi hs
    obtain ⟨y, hy, hyl⟩ := outX_nat hok hx i
    have hm := hT.2.1 i (by omega)
    have hrd : rd seen (y : Int) = -1 := by
      rw [hs.2 y hyl, ← hy, if_neg hm]; rfl
    have hsl : seen.length = l.length := hs.1
    refine Ev.succ ?_
    rw [hy] at hm
    have hs2 := seenOk_set hs hyl hm
    rw [pathX_length, Int.add_zero] at hs2
    have e1 : pathX l x i ++ [(y : Int)] = pathX l x (i + 1) := by rw [pathX, hy]
    have e2 : rd l (y : Int) = outX l x (i + 1) := by rw [outX, hy]
    rw [e1] at hs2
    simp only [impl_Counter_ringFrom.l0, hy, pathX_length, if_pos (show (0 : Int) ≤ (y : Int) by omega), if_pos (show (y : Int) < (seen.length : Int) by omega), hrd, if_pos (show (-1 : Int) < 0 by decide), if_pos (show i < 17592186044416 by omega), if_pos (show (y : Int) < (l.length : Int) by omega), Int.toNat_natCast, e1, e2]
    exact ih (i + 1) _ (by omega) hs2
theorem implRing_ev {n : Int} {l : List Int} {x : Int} (hok : okC n l) (hx : isSt n x) : Ev (fun k => impl_Counter_ringFrom.f k n l x) (ringOf l x, (tailOf l x : Int)) := by
  have hl := okC_len hok
  unfold impl_Counter_ringFrom.f
  have hr : slices_Repeat_int_int.f [(-1 : Int)] (l.length : Int) = some (List.replicate l.length (-1)) := by
    unfold slices_Repeat_int_int.f
    rw [if_pos ⟨rfl, by omega, by omega⟩]
    rfl
  simp only [hr, Option.bind_some]
  exact implRing_loop hok hx (ringT l x) 0 _ (by omega) (seenOk_start 0 l)
theorem specLeast_loop {r : List Int} (hr : r.length ≤ 1048576) (h : r ≠ []) (n t : Int) (l : List Int) (d : Nat) : ∀ i : Nat, 1 ≤ i → i + d = r.length →
    Ev (fun k => spec_l02Ring.l1 k t r ((leastIx (r.take i) : Nat) : Int) (i : Int) n l) (turned r, t, n) := by
  induction d with
  | zero =>
    intro i h1 hi
    have hil := leastIx_lt h
    refine Ev.succ ?_
    rw [List.take_of_length_le (by omega)]
    have ho : spec_l00Own.f (r.drop (leastIx r)) = some (r.drop (leastIx r)) := by
      unfold spec_l00Own.f
      simp only [Option.bind_some, List.length_nil, List.length_drop, List.nil_append]
      rw [if_pos (by omega)]
    simp only [spec_l02Ring.l1, if_neg (show ¬ (i : Int) < (r.length : Int) by omega), if_pos (show (0 : Int) ≤ ((leastIx r : Nat) : Int) by omega), if_pos (show ((leastIx r : Nat) : Int) ≤ (r.length : Int) by omega), Int.toNat_natCast, ho, Option.bind_some, List.length_drop, List.length_take]
    rw [if_pos (by omega)]
    exact Ev.now _
  | succ d ih =>
    intro i h1 hi
    refine Ev.succ ?_
    have hlt : i < r.length := by omega
    have hne : r.take i ≠ [] := fun z => by have := congrArg List.length z; rw [List.length_take, List.length_nil] at this; omega
    have hjl := leastIx_lt hne
    have hj : leastIx (r.take i) < r.length := by rw [List.length_take] at hjl; omega
    have hrj : rd r ((leastIx (r.take i) : Nat) : Int) = leastOf (r.take i) := by
      rw [rd_at r _ hj]
      have e : (r.take i)[leastIx (r.take i)]'hjl = leastOf (r.take i) := List.getElem_idxOf hjl
      rw [← e, List.getElem_take]
    have e1 : wrap64 ((i : Int) + 1) = ((i + 1 : Nat) : Int) := by rw [w64 (by omega) (by omega)]; omega
    have hsn := leastIx_snoc hne r[i]
    rw [List.take_append_getElem hlt, List.length_take, Nat.min_eq_left (by omega)] at hsn
    have hi2 := ih (i + 1) (by omega) (by omega)
    simp only [spec_l02Ring.l1, if_pos (show (i : Int) < (r.length : Int) by omega), if_pos (show (0 : Int) ≤ (i : Int) by omega), if_pos (show (0 : Int) ≤ ((leastIx (r.take i) : Nat) : Int) by omega), if_pos (show ((leastIx (r.take i) : Nat) : Int) < (r.length : Int) by omega), rd_at r i hlt, hrj, e1]
    by_cases hc : r[i] < leastOf (r.take i)
    · rw [if_pos hc] at hsn
      rw [hsn] at hi2
      simp only [if_pos hc]
      exact hi2
    · rw [if_neg hc] at hsn
      rw [hsn] at hi2
      simp only [if_neg hc]
      exact hi2
theorem specRing_loop {n : Int} {l : List Int} {x : Int} (hok : okC n l) (hx : isSt n x) (d : Nat) : ∀ (i : Nat) (seen : List Int), i + d = ringT l x → seenOk 1 l seen (pathX l x i) →
    Ev (fun k => spec_l02Ring.l0 k (outX l x i) seen (pathX l x i) n l) (ringOf l x, (tailOf l x : Int), n) := by
  have h256 := ringT_pos hok hx
  have hT := ringT_spec hok hx
  induction d with
  | zero =>
    intro i seen hi hs
    obtain rfl : i = ringT l x := by omega
    obtain ⟨y, hy, hyl⟩ := outX_nat hok hx (ringT l x)
    have hm := hT.2.2
    have hrd : rd seen (y : Int) = (tailOf l x : Int) + 1 := by
      rw [hs.2 y hyl, ← hy, if_pos hm]; rfl
    have hlt := tailOf_lt hok hx
    have hne := rawRing_ne hok hx
    have hrl : (rawRing l x).length ≤ 1048576 := by rw [rawRing_length]; omega
    have hsl : seen.length = l.length := hs.1
    have ew : wrap64 ((tailOf l x : Int) + 1 - 1) = (tailOf l x : Int) := by rw [w64 (by omega) (by omega)]; omega
    refine Ev.succ ?_
    simp only [spec_l02Ring.l0, hy, pathX_length, if_pos (show (0 : Int) ≤ (y : Int) by omega), if_pos (show (y : Int) < (seen.length : Int) by omega), hrd, if_neg (show ¬ (tailOf l x : Int) + 1 = 0 by omega), ew, if_pos (show (0 : Int) ≤ (tailOf l x : Int) by omega), if_pos (show (tailOf l x : Int) ≤ ((ringT l x : Nat) : Int) by omega), Int.toNat_natCast]
    have h1 := specLeast_loop hrl hne n (tailOf l x : Int) l ((rawRing l x).length - 1) 1 (Nat.le_refl 1) (by have := List.length_pos_iff.mpr hne; omega)
    have e0 : leastIx ((rawRing l x).take 1) = 0 := by
      generalize rawRing l x = r at hne
      cases r with
      | nil => exact absurd rfl hne
      | cons a r => simp [leastIx, leastOf]
    rw [e0] at h1
    exact h1
  | succ d ih =>
    intro i seen hi hs
    obtain ⟨y, hy, hyl⟩ := outX_nat hok hx i
    have hm := hT.2.1 i (by omega)
    have hrd : rd seen (y : Int) = 0 := by
      rw [hs.2 y hyl, ← hy, if_neg hm]; rfl
    have hsl : seen.length = l.length := hs.1
    refine Ev.succ ?_
    rw [hy] at hm
    have hs2 := seenOk_set hs hyl hm
    have e1 : pathX l x i ++ [(y : Int)] = pathX l x (i + 1) := by rw [pathX, hy]
    have e2 : rd l (y : Int) = outX l x (i + 1) := by rw [outX, hy]
    have e3 : ((pathX l x i).length : Int) + 1 = ((pathX l x (i + 1)).length : Int) := by rw [pathX_length, pathX_length]; omega
    rw [e1, e3] at hs2
    simp only [spec_l02Ring.l0, hy, if_pos (show (0 : Int) ≤ (y : Int) by omega), if_pos (show (y : Int) < (seen.length : Int) by omega), hrd, if_true, if_pos (show (pathX l x i).length < 17592186044416 by rw [pathX_length]; omega), if_pos (show (y : Int) < (l.length : Int) by omega), Int.toNat_natCast, Option.bind_some, e1, e2]
    exact ih (i + 1) _ (by omega) hs2
theorem specRing_ev {n : Int} {l : List Int} {x : Int} (hok : okC n l) (hx : isSt n x) : Ev (fun k => spec_l02Ring.f k n l x) (ringOf l x, (tailOf l x : Int), n) := by
  have hl := okC_len hok
  unfold spec_l02Ring.f
  simp only [Int.toNat_natCast, if_pos (show (0 : Int) ≤ (l.length : Int) by omega), if_pos (show l.length ≤ 35184372088832 by omega)]
  exact specRing_loop hok hx (ringT l x) 0 _ (by omega) (seenOk_start 1 l)

theorem turned_length (r : List Int) : (turned r).length = r.length := by
  unfold turned
  rw [List.length_append, List.length_drop, List.length_take]
  omega
theorem ringOf_length (l : List Int) (x : Int) : (ringOf l x).length = ringT l x - tailOf l x := by rw [ringOf, turned_length, rawRing_length]
theorem ringOf_pos {n : Int} {l : List Int} {x : Int} (hok : okC n l) (hx : isSt n x) : 0 < (ringOf l x).length ∧ (ringOf l x).length ≤ 256 := by
  have := tailOf_lt hok hx
  have := ringT_pos hok hx
  rw [ringOf_length]; omega
/-- The rings whose least state is below i. -/
def ringsUp (l : List Int) : Nat → List (List Int)
  | 0 => []
  | i + 1 => ringsUp l i ++ if tailOf l (i : Int) = 0 ∧ rd (ringOf l (i : Int)) 0 = (i : Int) then [ringOf l (i : Int)] else []
theorem ringsUp_length (l : List Int) (i : Nat) : (ringsUp l i).length ≤ i := by
  induction i with
  | zero => exact Nat.le_refl _
  | succ i ih => rw [ringsUp, List.length_append]; split <;> simp <;> omega
theorem isSt_nat {n : Int} {l : List Int} (hok : okC n l) {i : Nat} (hi : i < l.length) : isSt n (i : Int) := ⟨hok.1, by omega, by have := hok.2.1; omega⟩
theorem implRings_loop {n : Int} {l : List Int} (hok : okC n l) (d : Nat) : ∀ i : Nat, i + d = l.length → Ev (fun k => impl_Counter_rings.l0 k (ringsUp l i) (l.length : Int) (i : Int) n l) (ringsUp l l.length) := by
  have hl := okC_len hok
  induction d with
  | zero =>
    intro i hi
    obtain rfl : i = l.length := by omega
    refine Ev.succ ?_
    simp only [impl_Counter_rings.l0, Int.lt_irrefl, if_false]
    exact Ev.now _
  | succ d ih =>
    intro i hi
    refine Ev.succ ?_
    have hst := isSt_nat hok (show i < l.length by omega)
    have hp := ringOf_pos hok hst
    have e1 : wrap64 ((i : Int) + 1) = ((i + 1 : Nat) : Int) := by rw [w64 (by omega) (by omega)]; omega
    have hr := ringsUp_length l i
    have h1 := ih (i + 1) (by omega)
    simp only [impl_Counter_rings.l0, if_pos (show (i : Int) < (l.length : Int) by omega), e1]
    refine Ev.bind (implRing_ev hok hst) ?_
    rw [ringsUp] at h1
    by_cases ht : tailOf l (i : Int) = 0
    · by_cases hh : rd (ringOf l (i : Int)) 0 = (i : Int)
      · rw [if_pos ⟨ht, hh⟩] at h1
        simp only [ht, hh, Int.natCast_zero, if_true, if_pos (show (0 : Int) < ((ringOf l (i : Int)).length : Int) by omega), if_pos (show (ringsUp l i).length < 5864062014805 by omega)]
        exact h1
      · rw [if_neg (fun z => hh z.2), List.append_nil] at h1
        simp only [ht, hh, Int.natCast_zero, if_true, if_false, if_pos (show (0 : Int) < ((ringOf l (i : Int)).length : Int) by omega)]
        exact h1
    · rw [if_neg (fun z => ht z.1), List.append_nil] at h1
      simp only [if_neg (show ¬ (tailOf l (i : Int) : Int) = 0 by omega)]
      exact h1
theorem implRings_ev {n : Int} {l : List Int} (hok : okC n l) : Ev (fun k => impl_Counter_rings.f k n l) (ringsUp l l.length) := implRings_loop hok l.length 0 (by omega)
theorem specRings_loop {n : Int} {l : List Int} (hok : okC n l) (d : Nat) : ∀ i : Nat, i + d = l.length → Ev (fun k => spec_l02Rings.l0 k (ringsUp l i) (i : Int) n l) (ringsUp l l.length, n) := by
  have hl := okC_len hok
  induction d with
  | zero =>
    intro i hi
    obtain rfl : i = l.length := by omega
    refine Ev.succ ?_
    simp only [spec_l02Rings.l0, Int.lt_irrefl, if_false]
    exact Ev.now _
  | succ d ih =>
    intro i hi
    refine Ev.succ ?_
    have hst := isSt_nat hok (show i < l.length by omega)
    have hp := ringOf_pos hok hst
    have e1 : wrap64 ((i : Int) + 1) = ((i + 1 : Nat) : Int) := by rw [w64 (by omega) (by omega)]; omega
    have hr := ringsUp_length l i
    have h1 := ih (i + 1) (by omega)
    simp only [spec_l02Rings.l0, if_pos (show (i : Int) < (l.length : Int) by omega), e1]
    refine Ev.bind (specRing_ev hok hst) ?_
    rw [ringsUp] at h1
    by_cases ht : tailOf l (i : Int) = 0
    · by_cases hh : rd (ringOf l (i : Int)) 0 = (i : Int)
      · rw [if_pos ⟨ht, hh⟩] at h1
        simp only [ht, hh, Int.natCast_zero, if_true, if_pos (show (0 : Int) < ((ringOf l (i : Int)).length : Int) by omega), if_pos (show (ringsUp l i).length < 5864062014805 by omega)]
        exact h1
      · rw [if_neg (fun z => hh z.2), List.append_nil] at h1
        simp only [ht, hh, Int.natCast_zero, if_true, if_false, if_pos (show (0 : Int) < ((ringOf l (i : Int)).length : Int) by omega)]
        exact h1
    · rw [if_neg (fun z => ht z.1), List.append_nil] at h1
      simp only [if_neg (show ¬ (tailOf l (i : Int) : Int) = 0 by omega)]
      exact h1
theorem specRings_ev {n : Int} {l : List Int} (hok : okC n l) : Ev (fun k => spec_l02Rings.f k n l) (ringsUp l l.length, n) := specRings_loop hok l.length 0 (by omega)
end Go.Proofs.Ytomepieklgplgaa.P

namespace Go.Proofs.Ytomepieklgplgaa.Pure
open Go.RowKit Go.Proofs.YtomepieklgplgaaW.PrintWords Go.Proofs.YtomepieklgplgaaW.PrintLast Go.Proofs.YtomepieklgplgaaW.PrintMore
set_option linter.unusedVariables false
set_option linter.unusedSimpArgs false
open Go.Proofs.Ytomepieklgplgaa.P

/-- How many numbers the rows hold. -/
def total : List (List Int) → Nat
  | [] => 0
  | r :: R => r.length + total R
/-- The rows, numbered through. -/
def markR : List (List Int) → Int → List (List Int)
  | [], _ => []
  | r :: R, s => marks r.length s :: markR R (s + r.length)
theorem rd_mid (pre : List (List Int)) (r : List Int) (R : List (List Int)) : rd_L2 (pre ++ r :: R) (pre.length : Int) = r := by
  unfold rd_L2
  simp
theorem set_mid2 (pre : List (List Int)) (x y : List Int) (post : List (List Int)) : (pre ++ x :: post).set pre.length y = pre ++ y :: post := by
  simp
theorem markSS_loop (R : List (List Int)) : ∀ (pre : List (List Int)) (s : Int), 0 ≤ s → s + total R < 1152921504606846976 → (pre.length : Int) + R.length < 1152921504606846976 →
    Ev (fun k => laws_markInt64SS.l0 k (pre ++ R) s (pre.length : Int)) (s + total R, pre ++ markR R s) := by
  induction R with
  | nil =>
    intro pre s h0 h1 h2
    refine Ev.succ ?_
    simp only [laws_markInt64SS.l0, List.append_nil, Int.lt_irrefl, if_false, total, markR, Int.natCast_zero, Int.add_zero]
    exact Ev.now _
  | cons r R ih =>
    intro pre s h0 h1 h2
    rw [total] at h1
    rw [List.length_cons] at h2
    have e1 : wrap64 ((pre.length : Int) + 1) = (((pre ++ [marks r.length s]).length : Nat) : Int) := by rw [w64 (by omega) (by omega), List.length_append, List.length_singleton]; omega
    refine Ev.succ ?_
    have hlt : (pre.length : Int) < ((pre ++ r :: R).length : Int) := by rw [List.length_append, List.length_cons]; omega
    simp only [laws_markInt64SS.l0, if_pos hlt, if_pos (show (0 : Int) ≤ (pre.length : Int) by omega), rd_mid]
    refine Ev.bind (mark_ev h0 (by omega)) ?_
    simp only [Int.toNat_natCast, set_mid2, e1]
    have h := ih (pre ++ [marks r.length s]) (s + r.length) (by omega) (by omega) (by rw [List.length_append, List.length_singleton]; omega)
    rw [List.append_assoc, List.singleton_append] at h
    refine Ev.eq h ?_
    rw [markR, total, List.append_assoc, List.singleton_append]
    congr 1
    omega
theorem markSS_ev {R : List (List Int)} (h1 : 1 + (total R : Int) < 1152921504606846976) (h2 : (R.length : Int) < 1152921504606846976) : Ev (fun k => laws_markInt64SS.f k R 1) (1 + (total R : Int), markR R 1) := by
  have h := markSS_loop R [] 1 (by omega) (by omega) (by rw [List.length_nil]; omega)
  rw [List.nil_append, List.nil_append] at h
  exact h
theorem heldSS_loop (R : List (List Int)) : ∀ (pre : List (List Int)) (s : Int), 0 ≤ s → s + total R < 1152921504606846976 → (pre.length : Int) + R.length < 1152921504606846976 →
    Ev (fun k => laws_heldInt64SS.l0 k (pre ++ markR R s) s (pre.length : Int)) (s + total R) := by
  induction R with
  | nil =>
    intro pre s h0 h1 h2
    refine Ev.succ ?_
    simp only [laws_heldInt64SS.l0, List.append_nil, Int.lt_irrefl, if_false, total, markR, Int.natCast_zero, Int.add_zero]
    exact Ev.now _
  | cons r R ih =>
    intro pre s h0 h1 h2
    rw [total] at h1
    rw [List.length_cons] at h2
    have e1 : wrap64 ((pre.length : Int) + 1) = (((pre ++ [marks r.length s]).length : Nat) : Int) := by rw [w64 (by omega) (by omega), List.length_append, List.length_singleton]; omega
    refine Ev.succ ?_
    have hlt : (pre.length : Int) < ((pre ++ marks r.length s :: markR R (s + r.length)).length : Int) := by rw [List.length_append, List.length_cons]; omega
    simp only [markR, laws_heldInt64SS.l0, if_pos hlt, if_pos (show (0 : Int) ≤ (pre.length : Int) by omega), rd_mid]
    refine Ev.bind (held_ev h0 (by omega)) ?_
    simp only [if_neg (show ¬ (s + (r.length : Int)) < 0 by omega), e1]
    have h := ih (pre ++ [marks r.length s]) (s + r.length) (by omega) (by omega) (by rw [List.length_append, List.length_singleton]; omega)
    rw [List.append_assoc, List.singleton_append] at h
    refine Ev.eq h ?_
    rw [total]
    omega
theorem heldSS_ev {R : List (List Int)} (h1 : 1 + (total R : Int) < 1152921504606846976) (h2 : (R.length : Int) < 1152921504606846976) : Ev (fun k => laws_heldInt64SS.f k (markR R 1) 1) (1 + (total R : Int)) := by
  have h := heldSS_loop R [] 1 (by omega) (by omega) (by rw [List.length_nil]; omega)
  rw [List.nil_append] at h
  exact h
theorem eqSS_loop (R : List (List Int)) (hr : ∀ r ∈ R, r.length ≤ 1048576) (hR : R.length ≤ 1048576) (d : Nat) : ∀ i : Nat, i + d = R.length → Ev (fun k => laws_eqInt64SS.l0 k R R (i : Int)) true := by
  induction d with
  | zero =>
    intro i hi
    refine Ev.succ ?_
    simp only [laws_eqInt64SS.l0, if_neg (show ¬ (i : Int) < (R.length : Int) by omega)]
    exact Ev.now _
  | succ d ih =>
    intro i hi
    refine Ev.succ ?_
    have hlt : i < R.length := by omega
    have e1 : wrap64 ((i : Int) + 1) = ((i + 1 : Nat) : Int) := by rw [w64 (by omega) (by omega)]; omega
    have er : rd_L2 R (i : Int) = R[i] := by
      unfold rd_L2
      simp [List.getD_eq_getElem?_getD, List.getElem?_eq_getElem hlt]
    have h3 := hr _ (List.getElem_mem hlt)
    simp only [laws_eqInt64SS.l0, if_pos (show (i : Int) < (R.length : Int) by omega), if_pos (show (0 : Int) ≤ (i : Int) by omega), er, e1]
    refine Ev.bind (eqS_ev (by omega)) ?_
    simp only [if_true]
    exact ih (i + 1) (by omega)
theorem eqSS_ev {R : List (List Int)} (hr : ∀ r ∈ R, r.length ≤ 1048576) (hR : R.length ≤ 1048576) : Ev (fun k => laws_eqInt64SS.f k R R) true := by
  unfold laws_eqInt64SS.f
  simp only [if_true]
  exact eqSS_loop R hr hR R.length 0 (by omega)

def ringsV (n : Int) (l : List Int) : List (List Int) × Bool := if okC n l then (ringsUp l l.length, true) else ([], false)
theorem specRingsOf_ev {n : Int} {l : List Int} (hl : l.length ≤ 1048576) : Ev (fun k => spec_RingsOf.f k n l) (ringsV n l) := by
  unfold spec_RingsOf.f ringsV
  refine Ev.bind (specIs_ev n l hl) ?_
  rw [validB_ok]
  by_cases h : okC n l
  · simp only [h, decide_true, if_true]
    exact Ev.bind (specRings_ev h) (Ev.now _)
  · simp only [h, decide_false, Bool.false_eq_true, if_false]
    exact Ev.now _
theorem implRingsOf_ev {n : Int} {l : List Int} : Ev (fun k => impl_RingsOf.f k n l) (ringsV n l) := by
  unfold impl_RingsOf.f ringsV
  simp only [okC_form, Option.bind_some]
  by_cases h : okC n l
  · simp only [h, decide_true, if_true]
    exact Ev.bind (implRings_ev h) (Ev.now _)
  · simp only [h, decide_false, Bool.false_eq_true, if_false]
    exact Ev.now _
theorem ringsUp_rows {n : Int} {l : List Int} (hok : okC n l) (i : Nat) (hi : i ≤ l.length) : (∀ r ∈ ringsUp l i, r.length ≤ 256) ∧ total (ringsUp l i) ≤ 256 * i := by
  have htot : ∀ (A B : List (List Int)), total (A ++ B) = total A + total B := by
    intro A
    induction A with
    | nil => intro B; simp [total]
    | cons a A ih => intro B; simp only [List.cons_append, total, ih]; omega
  induction i with
  | zero => exact ⟨fun r hr => by simp [ringsUp] at hr, by simp [ringsUp, total]⟩
  | succ i ih =>
    obtain ⟨h1, h2⟩ := ih (by omega)
    have hp := ringOf_pos hok (isSt_nat hok (show i < l.length by omega))
    constructor
    · intro r hr
      rw [ringsUp, List.mem_append] at hr
      rcases hr with hr | hr
      · exact h1 r hr
      · split at hr
        · rw [List.mem_singleton.mp hr]; exact hp.2
        · cases hr
    · rw [ringsUp, htot]
      split
      · simp only [total]; omega
      · simp only [total]; omega
theorem ringsV_rows (n : Int) (l : List Int) : (∀ r ∈ (ringsV n l).1, r.length ≤ 1048576) ∧ (ringsV n l).1.length ≤ 1048576 ∧ total (ringsV n l).1 ≤ 1048576 := by
  unfold ringsV
  by_cases h : okC n l
  · rw [if_pos h]
    have h256 := okC_len h
    obtain ⟨h1, h2⟩ := ringsUp_rows h l.length (Nat.le_refl _)
    have h3 := ringsUp_length l l.length
    exact ⟨fun r hr => by have := h1 r hr; omega, by show (ringsUp l l.length).length ≤ _; omega, by show total (ringsUp l l.length) ≤ _; omega⟩
  · rw [if_neg h]
    exact ⟨fun r hr => by simp at hr, by simp, by simp [total]⟩
theorem FnExactRingsOf : laws_FnExactRingsOf.Pure := by
  intro n l _ hm _
  apply Ev.rounds
  unfold laws_FnExactRingsOf.f
  by_cases hl : l.length ≤ 1048576
  · simp only [sz_short hl, Option.bind_some, if_neg (show ¬ (1048576 - (l.length : Int)) < 0 by omega)]
    have h1 := specRingsOf_ev (n := n) hl
    have h2 := implRingsOf_ev (n := n) (l := l)
    obtain ⟨q1, q2, q3⟩ := ringsV_rows n l
    generalize ringsV n l = v at h1 h2 q1 q2 q3
    obtain ⟨R, ok⟩ := v
    replace q1 : ∀ r ∈ R, r.length ≤ 1048576 := q1
    replace q2 : R.length ≤ 1048576 := q2
    replace q3 : total R ≤ 1048576 := q3
    refine Ev.bind (toCounter_ev n l hl) (Ev.bind h1 (Ev.bind (toCounter_ev n l hl) (Ev.bind h2 ?_)))
    refine Ev.bind (eqSS_ev q1 q2) ?_
    simp only [if_true, bne_self_eq_false]
    refine Ev.succ ?_
    simp only [laws_FnExactRingsOf.j0, Bool.false_eq_true, if_false]
    refine Ev.bind (toCounter_ev n l hl) (Ev.bind (eqCounter_ev n l hl) ?_)
    simp only [if_true]
    refine Ev.bind (markC_ev n (by omega)) ?_
    simp only [if_neg (show ¬ (1 + (l.length : Int)) < 0 by omega)]
    refine Ev.bind (eqSS_ev q1 q2) ?_
    simp only [if_true, bne_self_eq_false]
    refine Ev.succ ?_
    simp only [laws_FnExactRingsOf.j1, Bool.false_eq_true, if_false]
    refine Ev.bind (markSS_ev (by omega) (by omega)) (Ev.bind (heldSS_ev (by omega) (by omega)) ?_)
    simp only [if_neg (show ¬ (1 + (total R : Int)) < 0 by omega), if_true]
    refine Ev.bind (toCounter_ev n l hl) (Ev.bind h2 ?_)
    refine Ev.bind (eqSS_ev q1 q2) ?_
    simp only [if_true, bne_self_eq_false]
    refine Ev.succ ?_
    simp only [laws_FnExactRingsOf.j2, Bool.false_eq_true, if_false]
    refine Ev.bind (heldSS_ev (by omega) (by omega)) ?_
    simp only [if_neg (show ¬ (1 + (total R : Int)) < 0 by omega), if_true]
    exact Ev.now _
  · simp only [sz_long hm (by omega), Option.bind_some]
    exact Ev.now _
end Go.Proofs.Ytomepieklgplgaa.Pure
