/- The program's MostChanged returns what the reference's returns, for all arguments; no condition. -/
import Derived.Test.YtomepieklgplgaaP1
import Derived.Test.YtomepieklgplgaaBase
import Derived.Test.YtomepieklgplgaaExtValid
import Derived.Test.YtomepieklgplgaaForms
import Derived.Test.YtomepieklgplgaaStates
import Derived.Test.YtomepieklgplgaaP3
import Derived.Test.YtomepieklgplgaaP7
import Derived.Test.YtomepieklgplgaaP0
import Derived.Test.YtomepieklgplgaaP8
import Derived.Laws.CopyOwn
import Derived.Deep.RegionLaw
import Derived.Deep.QuietTactic
import Derived.BigQuiet
import Derived.Lib.Hide
import Derived.Test.YtomepieklgplgaaExtGrow
import Derived.Test.YtomepieklgplgaaP9
import Derived.Test.YtomepieklgplgaaP11
import Derived.Test.YtomepieklgplgaaExtRep
import Derived.Test.YtomepieklgplgaaP14
import Derived.Test.YtomepieklgplgaaP15
/- What the laws do with lists of whole numbers: two equal lists are told equal; marks that were written are found again. The lists hold fewer than 2^60 numbers. -/
namespace Go.Proofs.Ytomepieklgplgaa.P
open Go.RowKit Go.Proofs.YtomepieklgplgaaW.PrintWords Go.Proofs.YtomepieklgplgaaW.PrintLast Go.Proofs.YtomepieklgplgaaW.PrintMore

theorem eqS_loop (l : List Int) (hl : l.length < 1152921504606846976) (d : Nat) : ∀ i : Nat, i + d = l.length → Ev (fun k => laws_eqInt64S.l0 k l l (i : Int)) true := by
  induction d with
  | zero =>
    intro i hi
    refine Ev.succ ?_
    simp only [laws_eqInt64S.l0, if_neg (show ¬ (i : Int) < (l.length : Int) by omega)]
    exact Ev.now _
  | succ d ih =>
    intro i hi
    refine Ev.succ ?_
    simp only [laws_eqInt64S.l0, if_pos (show (i : Int) < (l.length : Int) by omega), if_pos (show (0 : Int) ≤ (i : Int) by omega), if_true]
    rw [show (i : Int) + 1 = ((i + 1 : Nat) : Int) by omega, w64 (by omega) (by omega)]
    exact ih (i + 1) (by omega)
theorem eqS_ev {l : List Int} (hl : l.length < 1152921504606846976) : Ev (fun k => laws_eqInt64S.f k l l) true := by
  unfold laws_eqInt64S.f
  simp only [if_true]
  exact eqS_loop l hl l.length 0 (by omega)

end Go.Proofs.Ytomepieklgplgaa.P

/- Counters: when one is valid, as the program and as the reference ask it; a law's copying and comparing of counters. Lists of at most 1048576 numbers. -/
namespace Go.Proofs.Ytomepieklgplgaa.P
open Go.RowKit Go.Proofs.YtomepieklgplgaaW.PrintWords Go.Proofs.YtomepieklgplgaaW.PrintLast Go.Proofs.YtomepieklgplgaaW.PrintMore

def validB (n : Int) (l : List Int) : Bool := decide (1 ≤ n ∧ n ≤ 8) && decide ((l.length : Int) = 2 ^ n.toNat) && l.all fun x => isStB n x
theorem any_not (n : Int) (l : List Int) : (!(l.any fun x => !isStB n x)) = l.all fun x => isStB n x := by
  induction l with
  | nil => rfl
  | cons a l ih => simp only [List.any_cons, List.all_cons, Bool.not_or, Bool.not_not, ih]
theorem implValid_form (n : Int) (l : List Int) : impl_ValidCounter.f n l = some (validB n l) := by
  unfold impl_ValidCounter.f validB
  by_cases h1 : 1 ≤ n ∧ n ≤ 8
  · by_cases h2 : (l.length : Int) = 2 ^ n.toNat
    · have h3 : l.length = 2 ^ n.toNat := by exact_mod_cast h2
      rw [if_pos ⟨h1.1, h1.2, h3⟩, any_not, decide_eq_true h1, decide_eq_true h2, Bool.true_and, Bool.true_and]
    · have h3 : ¬ l.length = 2 ^ n.toNat := fun z => h2 (by exact_mod_cast z)
      rw [if_neg (fun z => h3 z.2.2), decide_eq_false h2, Bool.and_false, Bool.false_and]
  · rw [if_neg (fun z => h1 ⟨z.1, z.2.1⟩), decide_eq_false h1, Bool.false_and, Bool.false_and]
theorem is_loop (n : Int) (l : List Int) (hl : l.length ≤ 1048576) (d : Nat) : ∀ i : Nat, i + d = l.length → Ev (fun k => spec_l02Is.l0 k (i : Int) n l) ((l.drop i).all (fun x => isStB n x), n) := by
  induction d with
  | zero =>
    intro i hi
    refine Ev.succ ?_
    rw [List.drop_eq_nil_of_le (by omega)]
    simp only [spec_l02Is.l0, if_neg (show ¬ (i : Int) < (l.length : Int) by omega)]
    exact Ev.now _
  | succ d ih =>
    intro i hi
    refine Ev.succ ?_
    have hlt : i < l.length := by omega
    have e1 : wrap64 ((i : Int) + 1) = ((i + 1 : Nat) : Int) := by rw [w64 (by omega) (by omega)]; omega
    have er : rd l (i : Int) = l[i] := rd_at l i hlt
    rw [List.drop_eq_getElem_cons hlt, List.all_cons]
    simp only [spec_l02Is.l0, if_pos (show (i : Int) < (l.length : Int) by omega), if_pos (show (0 : Int) ≤ (i : Int) by omega), er, state_form, Option.bind_some, e1]
    by_cases hs : isSt n l[i]
    · simp only [hs, decide_true, if_true, isStB, Bool.true_and]
      exact ih (i + 1) (by omega)
    · simp only [hs, decide_false, Bool.false_eq_true, if_false, isStB, Bool.false_and]
      exact Ev.now _
theorem specIs_ev (n : Int) (l : List Int) (hl : l.length ≤ 1048576) : Ev (fun k => spec_l02Is.f k n l) (validB n l, n) := by
  unfold spec_l02Is.f spec_l02Bits.f validB
  simp only [in_form, Option.bind_some]
  by_cases h1 : 1 ≤ n ∧ n ≤ 8
  · simp only [h1, and_self, decide_true, if_true, size_form (show 0 ≤ n ∧ n ≤ 62 by omega), Option.bind_some]
    by_cases h2 : (l.length : Int) = 2 ^ n.toNat
    · refine Ev.succ ?_
      simp only [spec_l02Is.j0, h2, bne_self_eq_false, Bool.false_eq_true, if_false, decide_true, Bool.true_and]
      have h := is_loop n l hl l.length 0 (by omega)
      rw [List.drop_zero] at h
      exact h
    · have hb : ((l.length : Int) != 2 ^ n.toNat) = true := bne_iff_ne.mpr h2
      refine Ev.succ ?_
      simp only [spec_l02Is.j0, hb, if_true, h2, decide_false, Bool.true_and, Bool.false_and]
      exact Ev.now _
  · simp only [h1, decide_false, Bool.false_eq_true, if_false, Bool.false_and]
    refine Ev.succ ?_
    simp only [spec_l02Is.j0, if_true]
    exact Ev.now _
theorem sz_long {n : Int} {l : List Int} (hm : l.length ≤ maxLen) (h : 1048576 < l.length) : laws_szCounter.f n l 1048576 = some (-1) := by
  unfold laws_szCounter.f laws_szInt64S.f
  have hx : maxLen ≤ 9223372036854775807 := by decide
  have hm' : (l.length : Int) ≤ 9223372036854775807 := by omega
  rw [w64 (by omega) (by omega), if_pos (by omega)]
  rfl
theorem sz_short {n : Int} {l : List Int} (h : l.length ≤ 1048576) : laws_szCounter.f n l 1048576 = some (1048576 - (l.length : Int)) := by
  unfold laws_szCounter.f laws_szInt64S.f
  rw [w64 (by omega) (by omega), if_neg (by omega)]
  simp only [Option.bind_some]
  rw [if_neg (by omega)]
theorem copy_loop (l : List Int) (hl : l.length ≤ 1048576) (d : Nat) : ∀ (i : Nat) (m : List Int), i + d = l.length → m.length = l.length → m.take i = l.take i → Ev (fun k => laws_toInt64S.l0 k l m (i : Int)) l := by
  induction d with
  | zero =>
    intro i m hi hm ht
    refine Ev.succ ?_
    simp only [laws_toInt64S.l0, if_neg (show ¬ (i : Int) < (l.length : Int) by omega)]
    rw [List.take_of_length_le (by omega), List.take_of_length_le (by omega)] at ht
    rw [ht]
    exact Ev.now _
  | succ d ih =>
    intro i m hi hm ht
    refine Ev.succ ?_
    have hlt : i < l.length := by omega
    have e1 : wrap64 ((i : Int) + 1) = ((i + 1 : Nat) : Int) := by rw [w64 (by omega) (by omega)]; omega
    have er : rd l (i : Int) = l[i] := rd_at l i hlt
    simp only [laws_toInt64S.l0, if_pos (show (i : Int) < (l.length : Int) by omega), if_pos (show (0 : Int) ≤ (i : Int) by omega), if_pos (show (i : Int) < (m.length : Int) by omega), er, Int.toNat_natCast, e1]
    refine ih (i + 1) (m.set i l[i]) (by omega) (by rw [List.length_set]; exact hm) ?_
    rw [← List.take_append_getElem hlt, ← List.take_append_getElem (show i < (m.set i l[i]).length by rw [List.length_set]; omega)]
    rw [List.take_set_of_le (Nat.le_refl i), ht, List.getElem_set_self]
theorem toCounter_ev (n : Int) (l : List Int) (hl : l.length ≤ 1048576) : Ev (fun k => laws_toCounter.f k n l) (n, l) := by
  unfold laws_toCounter.f laws_toInt64S.f
  simp only [Int.toNat_natCast, if_pos (show (0 : Int) ≤ (l.length : Int) by omega), if_pos (show l.length ≤ 35184372088832 by omega)]
  exact Ev.bind (a := l) (copy_loop l hl l.length 0 _ (by omega) (by simp) (by simp)) (Ev.now _)
theorem eqCounter_ev (n : Int) (l : List Int) (hl : l.length ≤ 1048576) : Ev (fun k => laws_eqCounter.f k n l n l) true := by
  unfold laws_eqCounter.f
  simp only [if_true]
  refine Ev.bind (eqS_ev (l := l) (by omega)) ?_
  simp only [if_true]
  exact Ev.now _
end Go.Proofs.Ytomepieklgplgaa.P

/- A counter that is whole; the states that it runs through; no condition beyond lists of at most 1048576 numbers. -/
namespace Go.Proofs.Ytomepieklgplgaa.P
open Go.RowKit Go.Proofs.YtomepieklgplgaaW.PrintWords Go.Proofs.YtomepieklgplgaaW.PrintLast Go.Proofs.YtomepieklgplgaaW.PrintMore

/-- A counter of n bits, whole. -/
def okC (n : Int) (l : List Int) : Prop := (1 ≤ n ∧ n ≤ 8) ∧ (l.length : Int) = 2 ^ n.toNat ∧ ∀ x ∈ l, isSt n x
instance (n : Int) (l : List Int) : Decidable (okC n l) := by unfold okC; infer_instance
/-- The state after i steps. -/
def outX (l : List Int) (x : Int) : Nat → Int
  | 0 => x
  | i + 1 => rd l (outX l x i)
theorem okC_form (n : Int) (l : List Int) : impl_ValidCounter.f n l = some (decide (okC n l)) := by
  unfold impl_ValidCounter.f
  by_cases h1 : 1 ≤ n ∧ n ≤ 8
  · by_cases h2 : (l.length : Int) = 2 ^ n.toNat
    · have h3 : l.length = 2 ^ n.toNat := by exact_mod_cast h2
      rw [if_pos ⟨h1.1, h1.2, h3⟩]
      congr 1
      rw [Bool.eq_iff_iff, decide_eq_true_eq]
      simp only [Bool.not_eq_true', List.any_eq_false]
      exact ⟨fun h => ⟨h1, h2, fun x hx => by simpa [isStB] using h x hx⟩, fun h x hx => by simpa [isStB] using h.2.2 x hx⟩
    · have h3 : ¬ l.length = 2 ^ n.toNat := fun z => h2 (by exact_mod_cast z)
      rw [if_neg (fun z => h3 z.2.2), decide_eq_false (fun z => h2 z.2.1)]
  · rw [if_neg (fun z => h1 ⟨z.1, z.2.1⟩), decide_eq_false (fun z => h1 z.1)]
theorem isState_form (n : Int) (l : List Int) (x : Int) : impl_Counter_isState.f n l x = some (decide (okC n l ∧ isSt n x)) := by
  unfold impl_Counter_isState.f
  simp only [okC_form, Option.bind_some, isStateOf_form]
  by_cases h : okC n l
  · simp [h]
  · simp [h]
theorem outX_st {n : Int} {l : List Int} {x : Int} (hok : okC n l) (hx : isSt n x) (i : Nat) : isSt n (outX l x i) := by
  induction i with
  | zero => exact hx
  | succ i ih =>
    obtain ⟨h1, h2, h3⟩ := hok
    obtain ⟨y, hy⟩ : ∃ y : Nat, outX l x i = (y : Int) := Int.eq_ofNat_of_zero_le ih.2.1
    have hlt : y < l.length := by have := ih.2.2; omega
    rw [outX, hy, rd_at l y hlt]
    exact h3 _ (List.getElem_mem hlt)

theorem validB_ok (n : Int) (l : List Int) : validB n l = decide (okC n l) := by
  have h1 := implValid_form n l
  rw [okC_form] at h1
  exact (Option.some.inj h1).symm
theorem specAt_ev (n : Int) (l : List Int) (x : Int) (hl : l.length ≤ 1048576) : Ev (fun k => spec_l02At.f k n l x) (decide (okC n l ∧ isSt n x), n) := by
  unfold spec_l02At.f
  refine Ev.bind (specIs_ev n l hl) ?_
  rw [validB_ok]
  by_cases h : okC n l
  · simp only [h, decide_true, if_true, state_form, Option.bind_some, true_and]
    exact Ev.now _
  · simp only [h, decide_false, Bool.false_eq_true, if_false, false_and]
    exact Ev.now _
end Go.Proofs.Ytomepieklgplgaa.P

/- The ring that a state of a whole counter reaches, and the steps to it: the program's loops and the reference's come to the same. -/
namespace Go.Proofs.Ytomepieklgplgaa.P
open Go.RowKit Go.Proofs.YtomepieklgplgaaW.PrintWords Go.Proofs.YtomepieklgplgaaW.PrintLast Go.Proofs.YtomepieklgplgaaW.PrintMore

/-- The states before step i. -/
def pathX (l : List Int) (x : Int) : Nat → List Int
  | 0 => []
  | i + 1 => pathX l x i ++ [outX l x i]
theorem pathX_length (l : List Int) (x : Int) (i : Nat) : (pathX l x i).length = i := by
  induction i with
  | zero => rfl
  | succ i ih => simp [pathX, ih]
/-- The first step, from i on, at which a state comes again. -/
def turnX (l : List Int) (x : Int) : Nat → Nat → Nat
  | 0, i => i
  | k + 1, i => if outX l x i ∈ pathX l x i then i else turnX l x k (i + 1)
def ringT (l : List Int) (x : Int) : Nat := turnX l x (l.length + 1) 0
def tailOf (l : List Int) (x : Int) : Nat := (pathX l x (ringT l x)).idxOf (outX l x (ringT l x))
def rawRing (l : List Int) (x : Int) : List Int := (pathX l x (ringT l x)).drop (tailOf l x)
def leastOf (r : List Int) : Int := r.tail.foldl mn (r.headD 0)

theorem outX_lt {n : Int} {l : List Int} {x : Int} (hok : okC n l) (hx : isSt n x) (i : Nat) : 0 ≤ outX l x i ∧ outX l x i < (l.length : Int) := by
  have h := outX_st hok hx i
  exact ⟨h.2.1, by have := h.2.2; have := hok.2.1; omega⟩
theorem turnX_spec (l : List Int) (x : Int) (k : Nat) : ∀ i, i ≤ turnX l x k i ∧ turnX l x k i ≤ i + k ∧ (∀ j, i ≤ j → j < turnX l x k i → outX l x j ∉ pathX l x j) ∧ (turnX l x k i < i + k → outX l x (turnX l x k i) ∈ pathX l x (turnX l x k i)) := by
  induction k with
  | zero => intro i; exact ⟨Nat.le_refl _, Nat.le_refl _, fun j h1 h2 => absurd h2 (by simp only [turnX]; omega), fun h => absurd h (by simp only [turnX]; omega)⟩
  | succ k ih =>
    intro i
    by_cases hc : outX l x i ∈ pathX l x i
    · have e : turnX l x (k + 1) i = i := by rw [turnX, if_pos hc]
      rw [e]
      exact ⟨Nat.le_refl _, by omega, fun j h1 h2 => by omega, fun _ => hc⟩
    · have e : turnX l x (k + 1) i = turnX l x k (i + 1) := by rw [turnX, if_neg hc]
      rw [e]
      obtain ⟨h1, h2, h3, h4⟩ := ih (i + 1)
      refine ⟨by omega, by omega, fun j g1 g2 => ?_, fun h => h4 (by omega)⟩
      by_cases hj : j = i
      · rw [hj]; exact hc
      · exact h3 j (by omega) g2
theorem nodup_bound (N : Nat) : ∀ p : List Int, p.Nodup → (∀ y ∈ p, 0 ≤ y ∧ y < (N : Int)) → p.length ≤ N := by
  induction N with
  | zero =>
    intro p _ h
    cases p with
    | nil => exact Nat.le_refl _
    | cons a p => have := h a List.mem_cons_self; omega
  | succ N ih =>
    intro p hp h
    have h2 := ih (p.erase (N : Int)) (hp.erase _) (fun y hy => by
      have hy1 := List.mem_of_mem_erase hy
      have hy2 : y ≠ (N : Int) := fun e => by rw [e] at hy; exact (List.Nodup.not_mem_erase hp) hy
      have := h y hy1
      omega)
    have h3 : p.length - 1 ≤ (p.erase (N : Int)).length := by
      rw [List.length_erase]; split <;> omega
    omega
theorem pathX_mem {l : List Int} {x : Int} {i : Nat} {y : Int} : y ∈ pathX l x i ↔ ∃ j, j < i ∧ y = outX l x j := by
  induction i with
  | zero => simp [pathX]
  | succ i ih =>
    rw [pathX, List.mem_append, List.mem_singleton, ih]
    constructor
    · rintro (⟨j, h1, h2⟩ | h)
      · exact ⟨j, by omega, h2⟩
      · exact ⟨i, by omega, h⟩
    · rintro ⟨j, h1, h2⟩
      by_cases h : j = i
      · exact .inr (by rw [h2, h])
      · exact .inl ⟨j, by omega, h2⟩
theorem pathX_nodup {l : List Int} {x : Int} {i : Nat} (h : ∀ j, j < i → outX l x j ∉ pathX l x j) : (pathX l x i).Nodup := by
  induction i with
  | zero => exact List.nodup_nil
  | succ i ih =>
    rw [pathX, List.nodup_append]
    refine ⟨ih (fun j hj => h j (by omega)), by simp, fun a ha b hb => ?_⟩
    rw [List.mem_singleton] at hb
    rintro rfl
    rw [hb] at ha
    exact h i (by omega) ha
/-- Where the run turns. -/
theorem ringT_spec {n : Int} {l : List Int} {x : Int} (hok : okC n l) (hx : isSt n x) : ringT l x ≤ l.length ∧ (∀ j, j < ringT l x → outX l x j ∉ pathX l x j) ∧ outX l x (ringT l x) ∈ pathX l x (ringT l x) := by
  obtain ⟨_, h2, h3, h4⟩ := turnX_spec l x (l.length + 1) 0
  have hd := pathX_nodup (l := l) (x := x) (i := ringT l x) (fun j hj => h3 j (by omega) hj)
  have hb := nodup_bound l.length _ hd (fun y hy => by
    obtain ⟨j, _, rfl⟩ := pathX_mem.mp hy
    exact outX_lt hok hx j)
  rw [pathX_length] at hb
  exact ⟨hb, fun j hj => h3 j (by omega) hj, h4 (by show ringT l x < _; omega)⟩

theorem mn_le (a b : Int) : mn a b ≤ a ∧ mn a b ≤ b ∧ (mn a b = a ∨ mn a b = b) := by
  unfold mn; split <;> omega
theorem fold_mn (l : List Int) : ∀ a, (l.foldl mn a = a ∨ l.foldl mn a ∈ l) ∧ l.foldl mn a ≤ a ∧ ∀ y ∈ l, l.foldl mn a ≤ y := by
  induction l with
  | nil => intro a; exact ⟨.inl rfl, Int.le_refl _, fun y hy => by cases hy⟩
  | cons b l ih =>
    intro a
    obtain ⟨h1, h2, h3⟩ := ih (mn a b)
    obtain ⟨m1, m2, m3⟩ := mn_le a b
    rw [List.foldl_cons]
    refine ⟨?_, by omega, fun y hy => ?_⟩
    · rcases h1 with h | h
      · rcases m3 with m | m
        · exact .inl (by omega)
        · exact .inr (by rw [h, m]; exact List.mem_cons_self)
      · exact .inr (List.mem_cons_of_mem _ h)
    · rcases List.mem_cons.mp hy with rfl | hy
      · omega
      · exact h3 y hy
theorem least_spec {r : List Int} (h : r ≠ []) : leastOf r ∈ r ∧ ∀ y ∈ r, leastOf r ≤ y := by
  cases r with
  | nil => exact absurd rfl h
  | cons a l =>
    obtain ⟨h1, h2, h3⟩ := fold_mn l a
    show l.foldl mn a ∈ a :: l ∧ ∀ y ∈ a :: l, l.foldl mn a ≤ y
    refine ⟨?_, fun y hy => ?_⟩
    · rcases h1 with h | h
      · rw [h]; exact List.mem_cons_self
      · exact List.mem_cons_of_mem _ h
    · rcases List.mem_cons.mp hy with rfl | hy
      · exact h2
      · exact h3 y hy
theorem least_snoc {p : List Int} (h : p ≠ []) (a : Int) : leastOf (p ++ [a]) = mn (leastOf p) a := by
  cases p with
  | nil => exact absurd rfl h
  | cons b l =>
    show (l ++ [a]).foldl mn b = mn (l.foldl mn b) a
    rw [List.foldl_append]; rfl
def leastIx (r : List Int) : Nat := r.idxOf (leastOf r)
/-- The ring, from its least state on. -/
def turned (r : List Int) : List Int := r.drop (leastIx r) ++ r.take (leastIx r)
def ringOf (l : List Int) (x : Int) : List Int := turned (rawRing l x)
theorem leastIx_lt {r : List Int} (h : r ≠ []) : leastIx r < r.length := List.idxOf_lt_length_of_mem (least_spec h).1
theorem leastIx_snoc {p : List Int} (h : p ≠ []) (a : Int) : leastIx (p ++ [a]) = if a < leastOf p then p.length else leastIx p := by
  unfold leastIx
  rw [least_snoc h]
  obtain ⟨h1, h2⟩ := least_spec h
  unfold mn
  split
  · rename_i hlt
    have hn : a ∉ p := fun z => by have := h2 a z; omega
    rw [List.idxOf_append, if_neg hn]
    simp
  · rw [List.idxOf_append, if_pos h1]
theorem min_loop (r : List Int) (hr : r.length ≤ 1048576) (d : Nat) : ∀ i : Nat, 1 ≤ i → i + d = r.length → Ev (fun k => slices_Min_int64_int64.l0 k r (leastOf (r.take i)) (i : Int)) (leastOf r) := by
  induction d with
  | zero =>
    intro i h1 hi
    refine Ev.succ ?_
    simp only [slices_Min_int64_int64.l0, if_neg (show ¬ (i : Int) < (r.length : Int) by omega)]
    exact Ev.const (by rw [List.take_of_length_le (by omega)])
  | succ d ih =>
    intro i h1 hi
    refine Ev.succ ?_
    have hlt : i < r.length := by omega
    have e1 : wrap64 ((i : Int) + 1) = ((i + 1 : Nat) : Int) := by rw [w64 (by omega) (by omega)]; omega
    have hne : r.take i ≠ [] := fun z => by have := congrArg List.length z; rw [List.length_take, List.length_nil] at this; omega
    simp only [slices_Min_int64_int64.l0, if_pos (show (i : Int) < (r.length : Int) by omega), if_pos (show (0 : Int) ≤ (i : Int) by omega), rd_at r i hlt, e1]
    rw [← least_snoc hne, List.take_append_getElem hlt]
    exact ih (i + 1) (by omega) (by omega)
theorem min_ev {r : List Int} (hr : r.length ≤ 1048576) (h : r ≠ []) : Ev (fun k => slices_Min_int64_int64.f k r) (leastOf r) := by
  have hp : 0 < r.length := List.length_pos_iff.mpr h
  unfold slices_Min_int64_int64.f
  simp only [if_neg (show ¬ (r.length : Int) < 1 by omega), if_pos (show (0 : Int) < (r.length : Int) by omega)]
  have h1 := min_loop r hr (r.length - 1) 1 (Nat.le_refl 1) (by omega)
  have e : leastOf (r.take 1) = rd r 0 := by
    cases r with
    | nil => exact absurd rfl h
    | cons a l => rfl
  rw [e] at h1
  exact h1
theorem idxOf_le (l : List Int) : ∀ (i : Nat) (h : i < l.length), l.idxOf l[i] ≤ i := by
  induction l with
  | nil => intro i h; exact absurd h (by simp)
  | cons a l ih =>
    intro i h
    cases i with
    | zero => simp
    | succ i =>
      have h2 := ih i (by simpa using h)
      simp only [List.getElem_cons_succ, List.idxOf_cons]
      cases (a == l[i]'(by simpa using h)) <;> simp <;> omega
theorem index_loop (r : List Int) (hr : r.length ≤ 1048576) (v : Int) (hv : v ∈ r) (d : Nat) : ∀ i : Nat, i + d = r.idxOf v → Ev (fun k => slices_Index_int64_int64.l0 k r v (r.length : Int) (i : Int)) ((r.idxOf v : Nat) : Int) := by
  have hlt := List.idxOf_lt_length_of_mem hv
  induction d with
  | zero =>
    intro i hi
    refine Ev.succ ?_
    have hi' : i = r.idxOf v := by omega
    have hil : i < r.length := by omega
    have hg : v = r[i] := by subst hi'; exact (List.getElem_idxOf hlt).symm
    simp only [slices_Index_int64_int64.l0, if_pos (show (i : Int) < (r.length : Int) by omega), if_pos (show (0 : Int) ≤ (i : Int) by omega), rd_at r i hil, if_pos hg]
    exact Ev.const (by rw [hi'])
  | succ d ih =>
    intro i hi
    refine Ev.succ ?_
    have hil : i < r.length := by omega
    have e1 : wrap64 ((i : Int) + 1) = ((i + 1 : Nat) : Int) := by rw [w64 (by omega) (by omega)]; omega
    have hg : ¬ v = r[i] := fun z => by
      have : r.idxOf v ≤ i := by rw [z]; exact idxOf_le r i hil
      omega
    simp only [slices_Index_int64_int64.l0, if_pos (show (i : Int) < (r.length : Int) by omega), if_pos (show (0 : Int) ≤ (i : Int) by omega), rd_at r i hil, if_neg hg, e1]
    exact ih (i + 1) (by omega)
theorem index_ev {r : List Int} (hr : r.length ≤ 1048576) {v : Int} (hv : v ∈ r) : Ev (fun k => slices_Index_int64_int64.f k r v) ((r.idxOf v : Nat) : Int) := index_loop r hr v hv (r.idxOf v) 0 (by omega)
theorem concat_ev {a b : List Int} (ha : a.length ≤ 400000) (hb : b.length ≤ 400000) : Ev (fun k => slices_Concat_int64_int64.f k [a, b]) (a ++ b) := by
  have r0 : rd_L1 [a, b] 0 = a := rfl
  have r1 : rd_L1 [a, b] 1 = b := rfl
  have e0 : wrap64 (0 + 1) = 1 := w64 (by omega) (by omega)
  have e1 : wrap64 (1 + 1) = 2 := w64 (by omega) (by omega)
  have s0 : wrap64 (0 + (a.length : Int)) = (a.length : Int) := by rw [w64 (by omega) (by omega)]; omega
  have s1 : wrap64 ((a.length : Int) + (b.length : Int)) = (a.length : Int) + (b.length : Int) := w64 (by omega) (by omega)
  have hl : ([a, b].length : Int) = 2 := rfl
  unfold slices_Concat_int64_int64.f
  refine Ev.succ ?_
  simp only [slices_Concat_int64_int64.l0, hl, if_pos (show (0 : Int) < 2 by decide), if_pos (show (0 : Int) ≤ 0 by decide), r0, s0, if_neg (show ¬ (a.length : Int) < 0 by omega), e0]
  refine Ev.succ ?_
  simp only [slices_Concat_int64_int64.l0, hl, if_pos (show (1 : Int) < 2 by decide), if_pos (show (0 : Int) ≤ 1 by decide), r1, s1, if_neg (show ¬ (a.length : Int) + (b.length : Int) < 0 by omega), e1]
  refine Ev.succ ?_
  have hg : slices_Grow_int64_int64.f ([] : List Int) ((a.length : Int) + (b.length : Int)) = some [] := by
    unfold slices_Grow_int64_int64.f
    rw [if_pos ⟨rfl, by omega, by omega⟩]
  simp only [slices_Concat_int64_int64.l0, if_neg (show ¬ (2 : Int) < 2 by decide), hg, Option.bind_some, hl]
  refine Ev.succ ?_
  simp only [slices_Concat_int64_int64.l1, hl, if_pos (show (0 : Int) < 2 by decide), if_pos (show (0 : Int) ≤ 0 by decide), r0, e0, if_pos (show ([] : List Int).length + a.length < 17592186044416 by rw [List.length_nil]; omega), List.nil_append]
  refine Ev.succ ?_
  simp only [slices_Concat_int64_int64.l1, hl, if_pos (show (1 : Int) < 2 by decide), if_pos (show (0 : Int) ≤ 1 by decide), r1, e1, if_pos (show a.length + b.length < 17592186044416 by omega)]
  refine Ev.succ ?_
  simp only [slices_Concat_int64_int64.l1, if_neg (show ¬ (2 : Int) < 2 by decide)]
  exact Ev.now _
end Go.Proofs.Ytomepieklgplgaa.P

/- The loops of the program's ringFrom and of the reference's l02Ring come to the ring and the tail of a state; all rings of a counter, likewise. For whole counters. -/
namespace Go.Proofs.Ytomepieklgplgaa.P
open Go.RowKit Go.Proofs.YtomepieklgplgaaW.PrintWords Go.Proofs.YtomepieklgplgaaW.PrintLast Go.Proofs.YtomepieklgplgaaW.PrintMore

theorem rd_set_self (l : List Int) (i : Nat) (v : Int) (h : i < l.length) : rd (l.set i v) (i : Int) = v := by
  rw [rd_at _ _ (by rw [List.length_set]; exact h), List.getElem_set_self]
theorem rd_set_ne (l : List Int) (i j : Nat) (v : Int) (h : j < l.length) (hne : i ≠ j) : rd (l.set i v) (j : Int) = rd l (j : Int) := by
  rw [rd_at _ _ (by rw [List.length_set]; exact h), rd_at _ _ h, List.getElem_set_ne hne]
/-- What is noted of the states: their places, d more. -/
def seenOk (d : Int) (l seen p : List Int) : Prop := seen.length = l.length ∧ ∀ y : Nat, y < l.length → rd seen (y : Int) = if (y : Int) ∈ p then (p.idxOf (y : Int) : Int) + d else d - 1
theorem seenOk_set {d : Int} {l seen p : List Int} (h : seenOk d l seen p) {x : Nat} (hx : x < l.length) (hn : (x : Int) ∉ p) : seenOk d l (seen.set x ((p.length : Int) + d)) (p ++ [(x : Int)]) := by
  refine ⟨by rw [List.length_set]; exact h.1, fun y hy => ?_⟩
  have hs : seen.length = l.length := h.1
  by_cases e : x = y
  · subst e
    rw [rd_set_self _ _ _ (by omega), if_pos (by simp), List.idxOf_append, if_neg hn]
    simp
  · rw [rd_set_ne _ _ _ _ (by omega) e, h.2 y hy]
    have e' : ¬ (y : Int) = (x : Int) := by omega
    by_cases hp : (y : Int) ∈ p
    · rw [if_pos hp, if_pos (List.mem_append_left _ hp), List.idxOf_append, if_pos hp]
    · rw [if_neg hp, if_neg (by simp [hp, e'])]
theorem seenOk_start (d : Int) (l : List Int) : seenOk d l (List.replicate l.length (d - 1)) [] := by
  refine ⟨by simp, fun y hy => ?_⟩
  rw [rd_at _ _ (by simpa using hy)]
  simp
theorem outX_nat {n : Int} {l : List Int} {x : Int} (hok : okC n l) (hx : isSt n x) (i : Nat) : ∃ y : Nat, outX l x i = (y : Int) ∧ y < l.length := by
  have h := outX_lt hok hx i
  obtain ⟨y, hy⟩ := Int.eq_ofNat_of_zero_le h.1
  exact ⟨y, hy, by omega⟩
theorem okC_len {n : Int} {l : List Int} (hok : okC n l) : 2 ≤ l.length ∧ l.length ≤ 256 := by
  have := pow_256 hok.1
  have := hok.2.1
  omega
theorem ringT_pos {n : Int} {l : List Int} {x : Int} (hok : okC n l) (hx : isSt n x) : 0 < ringT l x ∧ ringT l x ≤ 256 := by
  obtain ⟨h1, _, h3⟩ := ringT_spec hok hx
  have := okC_len hok
  refine ⟨?_, by omega⟩
  obtain ⟨j, hj, _⟩ := pathX_mem.mp h3
  omega
theorem tailOf_lt {n : Int} {l : List Int} {x : Int} (hok : okC n l) (hx : isSt n x) : tailOf l x < ringT l x := by
  have h := List.idxOf_lt_length_of_mem (ringT_spec hok hx).2.2
  rwa [pathX_length] at h
theorem rawRing_length (l : List Int) (x : Int) : (rawRing l x).length = ringT l x - tailOf l x := by
  rw [rawRing, List.length_drop, pathX_length]
theorem rawRing_ne {n : Int} {l : List Int} {x : Int} (hok : okC n l) (hx : isSt n x) : rawRing l x ≠ [] := by
  intro h
  have h1 := congrArg List.length h
  rw [rawRing_length, List.length_nil] at h1
  have := tailOf_lt hok hx
  omega
theorem implRing_loop {n : Int} {l : List Int} {x : Int} (hok : okC n l) (hx : isSt n x) (d : Nat) : ∀ (i : Nat) (seen : List Int), i + d = ringT l x → seenOk 0 l seen (pathX l x i) →
    Ev (fun k => impl_Counter_ringFrom.l0 k (outX l x i) seen (pathX l x i) (outX l x i) n l) (ringOf l x, (tailOf l x : Int)) := by
  have h256 := ringT_pos hok hx
  have hT := ringT_spec hok hx
  induction d with
  | zero =>
    intro i seen hi hs
    obtain rfl : i = ringT l x := by omega
    obtain ⟨y, hy, hyl⟩ := outX_nat hok hx (ringT l x)
    have hm := hT.2.2
    have hrd : rd seen (y : Int) = (tailOf l x : Int) := by
      rw [hs.2 y hyl, ← hy, if_pos hm, Int.add_zero]; rfl
    have hlt := tailOf_lt hok hx
    have hne := rawRing_ne hok hx
    have hrl : (rawRing l x).length ≤ 1048576 := by rw [rawRing_length]; omega
    have hil := leastIx_lt hne
    refine Ev.succ ?_
    have hsl : seen.length = l.length := hs.1
    simp only [impl_Counter_ringFrom.l0, hy, pathX_length, if_pos (show (0 : Int) ≤ (y : Int) by omega), if_pos (show (y : Int) < (seen.length : Int) by omega), hrd, if_neg (show ¬ (tailOf l x : Int) < 0 by omega), if_neg (show ¬ ((ringT l x : Nat) : Int) = 0 by omega), if_pos (show (0 : Int) ≤ (tailOf l x : Int) by omega), if_pos (show (tailOf l x : Int) ≤ ((ringT l x : Nat) : Int) by omega), Option.bind_some, Int.toNat_natCast]
    refine Ev.bind (min_ev hrl hne) (Ev.bind (index_ev hrl (least_spec hne).1) ?_)
    show Ev (fun k => if (0 : Int) ≤ ((leastIx (rawRing l x) : Nat) : Int) then (if ((leastIx (rawRing l x) : Nat) : Int) ≤ ((rawRing l x).length : Int) then ((slices_Concat_int64_int64.f k [(rawRing l x).drop ((leastIx (rawRing l x) : Nat) : Int).toNat, (rawRing l x).take ((leastIx (rawRing l x) : Nat) : Int).toNat]).bind fun t321 => some (t321, (tailOf l x : Int))) else none) else none) _
    simp only [Int.toNat_natCast, if_pos (show (0 : Int) ≤ ((leastIx (rawRing l x) : Nat) : Int) by omega), if_pos (show ((leastIx (rawRing l x) : Nat) : Int) ≤ ((rawRing l x).length : Int) by omega)]
    refine Ev.bind (concat_ev (by rw [List.length_drop, rawRing_length]; omega) (by rw [List.length_take, rawRing_length]; omega)) ?_
    exact Ev.now _
  | succ d ih =>
    intro i seen hi hs
    obtain ⟨y, hy, hyl⟩ := outX_nat hok hx i
    have hm := hT.2.1 i (by omega)
    have hrd : rd seen (y : Int) = -1 := by
      rw [hs.2 y hyl, ← hy, if_neg hm]; rfl
    have hsl : seen.length = l.length := hs.1
    refine Ev.succ ?_
    rw [hy] at hm
    have hs2 := seenOk_set hs hyl hm
    rw [pathX_length, Int.add_zero] at hs2
    have e1 : pathX l x i ++ [(y : Int)] = pathX l x (i + 1) := by rw [pathX, hy]
    have e2 : rd l (y : Int) = outX l x (i + 1) := by rw [outX, hy]
    rw [e1] at hs2
    simp only [impl_Counter_ringFrom.l0, hy, pathX_length, if_pos (show (0 : Int) ≤ (y : Int) by omega), if_pos (show (y : Int) < (seen.length : Int) by omega), hrd, if_pos (show (-1 : Int) < 0 by decide), if_pos (show i < 17592186044416 by omega), if_pos (show (y : Int) < (l.length : Int) by omega), Int.toNat_natCast, e1, e2]
    exact ih (i + 1) _ (by omega) hs2
theorem implRing_ev {n : Int} {l : List Int} {x : Int} (hok : okC n l) (hx : isSt n x) : Ev (fun k => impl_Counter_ringFrom.f k n l x) (ringOf l x, (tailOf l x : Int)) := by
  have hl := okC_len hok
  unfold impl_Counter_ringFrom.f
  have hr : slices_Repeat_int_int.f [(-1 : Int)] (l.length : Int) = some (List.replicate l.length (-1)) := by
    unfold slices_Repeat_int_int.f
    rw [if_pos ⟨rfl, by omega, by omega⟩]
    rfl
  simp only [hr, Option.bind_some]
  exact implRing_loop hok hx (ringT l x) 0 _ (by omega) (seenOk_start 0 l)
theorem specLeast_loop {r : List Int} (hr : r.length ≤ 1048576) (h : r ≠ []) (n t : Int) (l : List Int) (d : Nat) : ∀ i : Nat, 1 ≤ i → i + d = r.length →
    Ev (fun k => spec_l02Ring.l1 k t r ((leastIx (r.take i) : Nat) : Int) (i : Int) n l) (turned r, t, n) := by
  induction d with
  | zero =>
    intro i h1 hi
    have hil := leastIx_lt h
    refine Ev.succ ?_
    rw [List.take_of_length_le (by omega)]
    have ho : spec_l00Own.f (r.drop (leastIx r)) = some (r.drop (leastIx r)) := by
      unfold spec_l00Own.f
      simp only [Option.bind_some, List.length_nil, List.length_drop, List.nil_append]
      rw [if_pos (by omega)]
    simp only [spec_l02Ring.l1, if_neg (show ¬ (i : Int) < (r.length : Int) by omega), if_pos (show (0 : Int) ≤ ((leastIx r : Nat) : Int) by omega), if_pos (show ((leastIx r : Nat) : Int) ≤ (r.length : Int) by omega), Int.toNat_natCast, ho, Option.bind_some, List.length_drop, List.length_take]
    rw [if_pos (by omega)]
    exact Ev.now _
  | succ d ih =>
    intro i h1 hi
    refine Ev.succ ?_
    have hlt : i < r.length := by omega
    have hne : r.take i ≠ [] := fun z => by have := congrArg List.length z; rw [List.length_take, List.length_nil] at this; omega
    have hjl := leastIx_lt hne
    have hj : leastIx (r.take i) < r.length := by rw [List.length_take] at hjl; omega
    have hrj : rd r ((leastIx (r.take i) : Nat) : Int) = leastOf (r.take i) := by
      rw [rd_at r _ hj]
      have e : (r.take i)[leastIx (r.take i)]'hjl = leastOf (r.take i) := List.getElem_idxOf hjl
      rw [← e, List.getElem_take]
    have e1 : wrap64 ((i : Int) + 1) = ((i + 1 : Nat) : Int) := by rw [w64 (by omega) (by omega)]; omega
    have hsn := leastIx_snoc hne r[i]
    rw [List.take_append_getElem hlt, List.length_take, Nat.min_eq_left (by omega)] at hsn
    have hi2 := ih (i + 1) (by omega) (by omega)
    simp only [spec_l02Ring.l1, if_pos (show (i : Int) < (r.length : Int) by omega), if_pos (show (0 : Int) ≤ (i : Int) by omega), if_pos (show (0 : Int) ≤ ((leastIx (r.take i) : Nat) : Int) by omega), if_pos (show ((leastIx (r.take i) : Nat) : Int) < (r.length : Int) by omega), rd_at r i hlt, hrj, e1]
    by_cases hc : r[i] < leastOf (r.take i)
    · rw [if_pos hc] at hsn
      rw [hsn] at hi2
      simp only [if_pos hc]
      exact hi2
    · rw [if_neg hc] at hsn
      rw [hsn] at hi2
      simp only [if_neg hc]
      exact hi2
theorem specRing_loop {n : Int} {l : List Int} {x : Int} (hok : okC n l) (hx : isSt n x) (d : Nat) : ∀ (i : Nat) (seen : List Int), i + d = ringT l x → seenOk 1 l seen (pathX l x i) →
    Ev (fun k => spec_l02Ring.l0 k (outX l x i) seen (pathX l x i) n l) (ringOf l x, (tailOf l x : Int), n) := by
  have h256 := ringT_pos hok hx
  have hT := ringT_spec hok hx
  induction d with
  | zero =>
    intro i seen hi hs
    obtain rfl : i = ringT l x := by omega
    obtain ⟨y, hy, hyl⟩ := outX_nat hok hx (ringT l x)
    have hm := hT.2.2
    have hrd : rd seen (y : Int) = (tailOf l x : Int) + 1 := by
      rw [hs.2 y hyl, ← hy, if_pos hm]; rfl
    have hlt := tailOf_lt hok hx
    have hne := rawRing_ne hok hx
    have hrl : (rawRing l x).length ≤ 1048576 := by rw [rawRing_length]; omega
    have hsl : seen.length = l.length := hs.1
    have ew : wrap64 ((tailOf l x : Int) + 1 - 1) = (tailOf l x : Int) := by rw [w64 (by omega) (by omega)]; omega
    refine Ev.succ ?_
    simp only [spec_l02Ring.l0, hy, pathX_length, if_pos (show (0 : Int) ≤ (y : Int) by omega), if_pos (show (y : Int) < (seen.length : Int) by omega), hrd, if_neg (show ¬ (tailOf l x : Int) + 1 = 0 by omega), ew, if_pos (show (0 : Int) ≤ (tailOf l x : Int) by omega), if_pos (show (tailOf l x : Int) ≤ ((ringT l x : Nat) : Int) by omega), Int.toNat_natCast]
    have h1 := specLeast_loop hrl hne n (tailOf l x : Int) l ((rawRing l x).length - 1) 1 (Nat.le_refl 1) (by have := List.length_pos_iff.mpr hne; omega)
    have e0 : leastIx ((rawRing l x).take 1) = 0 := by
      generalize rawRing l x = r at hne
      cases r with
      | nil => exact absurd rfl hne
      | cons a r => simp [leastIx, leastOf]
    rw [e0] at h1
    exact h1
  | succ d ih =>
    intro i seen hi hs
    obtain ⟨y, hy, hyl⟩ := outX_nat hok hx i
    have hm := hT.2.1 i (by omega)
    have hrd : rd seen (y : Int) = 0 := by
      rw [hs.2 y hyl, ← hy, if_neg hm]; rfl
    have hsl : seen.length = l.length := hs.1
    refine Ev.succ ?_
    rw [hy] at hm
    have hs2 := seenOk_set hs hyl hm
    have e1 : pathX l x i ++ [(y : Int)] = pathX l x (i + 1) := by rw [pathX, hy]
    have e2 : rd l (y : Int) = outX l x (i + 1) := by rw [outX, hy]
    have e3 : ((pathX l x i).length : Int) + 1 = ((pathX l x (i + 1)).length : Int) := by rw [pathX_length, pathX_length]; omega
    rw [e1, e3] at hs2
    simp only [spec_l02Ring.l0, hy, if_pos (show (0 : Int) ≤ (y : Int) by omega), if_pos (show (y : Int) < (seen.length : Int) by omega), hrd, if_true, if_pos (show (pathX l x i).length < 17592186044416 by rw [pathX_length]; omega), if_pos (show (y : Int) < (l.length : Int) by omega), Int.toNat_natCast, Option.bind_some, e1, e2]
    exact ih (i + 1) _ (by omega) hs2
theorem specRing_ev {n : Int} {l : List Int} {x : Int} (hok : okC n l) (hx : isSt n x) : Ev (fun k => spec_l02Ring.f k n l x) (ringOf l x, (tailOf l x : Int), n) := by
  have hl := okC_len hok
  unfold spec_l02Ring.f
  simp only [Int.toNat_natCast, if_pos (show (0 : Int) ≤ (l.length : Int) by omega), if_pos (show l.length ≤ 35184372088832 by omega)]
  exact specRing_loop hok hx (ringT l x) 0 _ (by omega) (seenOk_start 1 l)

theorem turned_length (r : List Int) : (turned r).length = r.length := by
  unfold turned
  rw [List.length_append, List.length_drop, List.length_take]
  omega
theorem ringOf_length (l : List Int) (x : Int) : (ringOf l x).length = ringT l x - tailOf l x := by rw [ringOf, turned_length, rawRing_length]
end Go.Proofs.Ytomepieklgplgaa.P

/- The state after so many steps, as the program and as the reference reckon it. For whole counters. -/
namespace Go.Proofs.Ytomepieklgplgaa.P
open Go.RowKit Go.Proofs.YtomepieklgplgaaW.PrintWords Go.Proofs.YtomepieklgplgaaW.PrintLast Go.Proofs.YtomepieklgplgaaW.PrintMore

theorem outX_add (l : List Int) (x : Int) (i j : Nat) : outX l (outX l x i) j = outX l x (i + j) := by
  induction j with
  | zero => rfl
  | succ j ih => rw [outX, ih, ← Nat.add_assoc, outX]
end Go.Proofs.Ytomepieklgplgaa.P

/- What a ring is: it holds the states behind the tail, each one's next state at the next place, and each once. For whole counters. -/
namespace Go.Proofs.Ytomepieklgplgaa.P
open Go.RowKit Go.Proofs.YtomepieklgplgaaW.PrintWords Go.Proofs.YtomepieklgplgaaW.PrintLast Go.Proofs.YtomepieklgplgaaW.PrintMore

/-- How many states the ring has. -/
def per (l : List Int) (x : Int) : Nat := ringT l x - tailOf l x
theorem pathX_get (l : List Int) (x : Int) (i : Nat) : ∀ j, j < i → (pathX l x i)[j]? = some (outX l x j) := by
  induction i with
  | zero => intro j h; omega
  | succ i ih =>
    intro j h
    rw [pathX]
    by_cases hj : j < i
    · rw [List.getElem?_append_left (by rw [pathX_length]; exact hj), ih j hj]
    · obtain rfl : j = i := by omega
      rw [List.getElem?_append_right (by rw [pathX_length]; exact Nat.le_refl _), pathX_length, Nat.sub_self]
      rfl
theorem outX_turn {n : Int} {l : List Int} {x : Int} (hok : okC n l) (hx : isSt n x) : outX l x (ringT l x) = outX l x (tailOf l x) := by
  have h := (ringT_spec hok hx).2.2
  have hlt : tailOf l x < (pathX l x (ringT l x)).length := List.idxOf_lt_length_of_mem h
  have e : (pathX l x (ringT l x))[tailOf l x]? = some (outX l x (ringT l x)) := by
    rw [List.getElem?_eq_getElem hlt]
    congr 1
    exact List.getElem_idxOf hlt
  rw [pathX_get l x _ _ (tailOf_lt hok hx)] at e
  exact (Option.some.inj e).symm
theorem outX_per {n : Int} {l : List Int} {x : Int} (hok : okC n l) (hx : isSt n x) (m : Nat) : outX l x (tailOf l x + m + per l x) = outX l x (tailOf l x + m) := by
  have ht := tailOf_lt hok hx
  have e : tailOf l x + m + per l x = ringT l x + m := by unfold per; omega
  rw [e, ← outX_add, outX_turn hok hx, outX_add]
theorem ring_len (l : List Int) (x : Int) : (ringOf l x).length = per l x := ringOf_length l x
theorem per_pos {n : Int} {l : List Int} {x : Int} (hok : okC n l) (hx : isSt n x) : 0 < per l x ∧ per l x ≤ 256 := by
  have := tailOf_lt hok hx
  have := ringT_pos hok hx
  unfold per; omega
/-- Where the ring begins. -/
def offX (l : List Int) (x : Int) : Nat := tailOf l x + leastIx (rawRing l x)
theorem rawRing_get (l : List Int) (x : Int) (j : Nat) (h : j < per l x) : (rawRing l x)[j]? = some (outX l x (tailOf l x + j)) := by
  rw [rawRing, List.getElem?_drop, pathX_get]
  unfold per at h; omega
theorem ring_get {n : Int} {l : List Int} {x : Int} (hok : okC n l) (hx : isSt n x) (j : Nat) (h : j < per l x) : (ringOf l x)[j]? = some (outX l x (offX l x + j)) := by
  have hk := leastIx_lt (rawRing_ne hok hx)
  have hr : (rawRing l x).length = per l x := rawRing_length l x
  rw [ringOf, turned, offX]
  by_cases hj : j < per l x - leastIx (rawRing l x)
  · rw [List.getElem?_append_left (by rw [List.length_drop]; omega), List.getElem?_drop, rawRing_get _ _ _ (by omega), Nat.add_assoc]
  · rw [List.getElem?_append_right (by rw [List.length_drop]; omega), List.length_drop, List.getElem?_take_of_lt (by omega), rawRing_get _ _ _ (by omega)]
    congr 1
    have e := outX_per hok hx (leastIx (rawRing l x) + j - per l x)
    rw [show tailOf l x + (leastIx (rawRing l x) + j - per l x) + per l x = tailOf l x + leastIx (rawRing l x) + j by omega] at e
    rw [e]
    congr 1
    omega
theorem ring_rd {n : Int} {l : List Int} {x : Int} (hok : okC n l) (hx : isSt n x) (j : Nat) (h : j < per l x) : rd (ringOf l x) (j : Int) = outX l x (offX l x + j) := by
  have hl : j < (ringOf l x).length := by rw [ring_len]; exact h
  rw [rd_at _ _ hl]
  have := ring_get hok hx j h
  rw [List.getElem?_eq_getElem hl] at this
  exact Option.some.inj this
/-- The state at the next place is the next state. -/
theorem ring_next {n : Int} {l : List Int} {x : Int} (hok : okC n l) (hx : isSt n x) (j : Nat) (h : j < per l x) : rd l (rd (ringOf l x) (j : Int)) = rd (ringOf l x) (((j + 1) % per l x : Nat) : Int) := by
  have hp := per_pos hok hx
  rw [ring_rd hok hx j h, ring_rd hok hx _ (Nat.mod_lt _ hp.1)]
  show outX l x (offX l x + j + 1) = _
  by_cases hj : j + 1 < per l x
  · rw [Nat.mod_eq_of_lt hj]; rfl
  · obtain hj' : j + 1 = per l x := by omega
    rw [hj', Nat.mod_self, Nat.add_zero]
    have e := outX_per hok hx (leastIx (rawRing l x))
    rw [show tailOf l x + leastIx (rawRing l x) + per l x = offX l x + j + 1 by unfold offX; omega] at e
    exact e
end Go.Proofs.Ytomepieklgplgaa.P

namespace Go.Proofs.Ytomepieklgplgaa.Pure
open Go.RowKit Go.Proofs.YtomepieklgplgaaW.PrintWords Go.Proofs.YtomepieklgplgaaW.PrintLast Go.Proofs.YtomepieklgplgaaW.PrintMore
open Go.Proofs.Ytomepieklgplgaa.P

theorem ones_all : ∀ v : Fin 256, spec_l02Ones.l0 9 (v.val : Int) 0 = bits_OnesCount64.f (IntKind.u64.wrap (v.val : Int)) := by decide +kernel
theorem ones_ev (v : Nat) (h : v < 256) : ∃ p, Ev (fun k => spec_l02Ones.f k (v : Int)) p ∧ bits_OnesCount64.f (IntKind.u64.wrap (v : Int)) = some p := by
  have e := ones_all ⟨v, h⟩
  obtain ⟨p, hp⟩ : ∃ p, bits_OnesCount64.f (IntKind.u64.wrap (v : Int)) = some p := ⟨_, rfl⟩
  exact ⟨p, Ev.of (fun k => spec_l02Ones.mono (v : Int) k) (k := 9) (e.trans hp), hp⟩
theorem max_form (a b : Int) : spec_l00Max.f a b = some (mx a b) := by
  unfold spec_l00Max.f mx
  split <;> split <;> first | rfl | (congr 1; omega)
theorem most_loop {n : Int} {l : List Int} {x : Int} (hok : okC n l) (hx : isSt n x) (d : Nat) : ∀ (i : Nat) (m : Int), i + d = per l x → ∃ r, Ev (fun k => spec_MostChanged.l0 k (ringOf l x) m (i : Int)) r ∧ Ev (fun k => impl_MostChanged.l0 k m (ringOf l x) ((ringOf l x).length : Int) (i : Int) n l) r := by
  have hp := per_pos hok hx
  have hlen := ring_len l x
  induction d with
  | zero =>
    intro i m hi
    refine ⟨(m, true), Ev.succ ?_, Ev.succ ?_⟩
    · simp only [spec_MostChanged.l0, if_neg (show ¬ (i : Int) < ((ringOf l x).length : Int) by omega)]
      exact Ev.now _
    · simp only [impl_MostChanged.l0, if_neg (show ¬ (i : Int) < ((ringOf l x).length : Int) by omega)]
      exact Ev.now _
  | succ d ih =>
    intro i m hi
    have e1 : wrap64 ((i : Int) + 1) = ((i + 1 : Nat) : Int) := by rw [w64 (by omega) (by omega)]; omega
    have hrd := ring_rd hok hx i (by omega)
    have hnx := ring_next hok hx i (by omega)
    obtain ⟨a, ha, hal⟩ := outX_nat hok hx (offX l x + i)
    have hst := outX_st hok hx (offX l x + i + 1)
    have hb : rd (ringOf l x) (((i + 1) % per l x : Nat) : Int) = outX l x (offX l x + i + 1) := by
      rw [← hnx, hrd]; rfl
    obtain ⟨b, hb2, hbl⟩ := outX_nat hok hx (offX l x + i + 1)
    have h256 := okC_len hok
    have hl2 : rd l (a : Int) = (b : Int) := by rw [← ha, ← hb2]; rfl
    have et : Int.tmod (((i + 1 : Nat) : Int)) ((ringOf l x).length : Int) = (((i + 1) % per l x : Nat) : Int) := by
      rw [hlen]; exact (Int.ofNat_tmod _ _).symm
    have hxor := xor_i64 a b (by omega) (by omega)
    have hx256 : a ^^^ b < 256 := Nat.xor_lt_two_pow (n := 8) (by omega) (by omega)
    obtain ⟨p, hp1, hp2⟩ := ones_ev (a ^^^ b) hx256
    obtain ⟨r, hr1, hr2⟩ := ih (i + 1) (mx m p) (by omega)
    have hml : (((i + 1) % per l x : Nat) : Int) < ((ringOf l x).length : Int) := by
      have := Nat.mod_lt (i + 1) hp.1
      omega
    refine ⟨r, Ev.succ ?_, Ev.succ ?_⟩
    · simp only [spec_MostChanged.l0, if_pos (show (i : Int) < ((ringOf l x).length : Int) by omega), if_pos (show (0 : Int) ≤ (i : Int) by omega), if_neg (show ¬ ((ringOf l x).length : Int) = 0 by omega), e1, et, if_pos (show (0 : Int) ≤ (((i + 1) % per l x : Nat) : Int) by omega), if_pos hml, hrd, hb, ha, hb2, hxor]
      refine Ev.bind hp1 ?_
      simp only [max_form, Option.bind_some]
      exact hr1
    · simp only [impl_MostChanged.l0, if_pos (show (i : Int) < ((ringOf l x).length : Int) by omega), if_pos (show (0 : Int) ≤ (i : Int) by omega), hrd, ha, if_pos (show (0 : Int) ≤ (a : Int) by omega), if_pos (show (a : Int) < (l.length : Int) by omega), hl2, hxor, hp2, Option.bind_some, e1]
      exact hr2
theorem most_both {n : Int} {l : List Int} {x : Int} (hl : l.length ≤ 1048576) : ∃ v, Ev (fun k => spec_MostChanged.f k n l x) v ∧ Ev (fun k => impl_MostChanged.f k n l x) v := by
  unfold spec_MostChanged.f impl_MostChanged.f
  by_cases hs : okC n l ∧ isSt n x
  · obtain ⟨r, h1, h2⟩ := most_loop hs.1 hs.2 (per l x) 0 0 (by omega)
    refine ⟨r, Ev.bind (specAt_ev n l x hl) ?_, ?_⟩
    · simp only [hs, and_self, decide_true, if_true]
      exact Ev.bind (specRing_ev hs.1 hs.2) h1
    · simp only [isState_form, hs, and_self, decide_true, Option.bind_some, if_true]
      exact Ev.bind (implRing_ev hs.1 hs.2) h2
  · refine ⟨(0, false), Ev.bind (specAt_ev n l x hl) ?_, ?_⟩
    · simp only [hs, decide_false, Bool.false_eq_true, if_false]
      exact Ev.now _
    · simp only [isState_form, hs, decide_false, Option.bind_some, Bool.false_eq_true, if_false]
      exact Ev.now _
theorem FnExactMostChanged : laws_FnExactMostChanged.Pure := by
  intro n l x _ hm _ _
  apply Ev.rounds
  unfold laws_FnExactMostChanged.f
  by_cases hl : l.length ≤ 1048576
  · simp only [sz_short hl, Option.bind_some, if_neg (show ¬ (1048576 - (l.length : Int)) < 0 by omega)]
    obtain ⟨v, h1, h2⟩ := most_both (n := n) (x := x) hl
    refine Ev.bind (toCounter_ev n l hl) (Ev.bind h1 (Ev.bind (toCounter_ev n l hl) (Ev.bind h2 ?_)))
    simp only [if_true, bne_self_eq_false]
    refine Ev.succ ?_
    simp only [laws_FnExactMostChanged.j0, Bool.false_eq_true, if_false]
    refine Ev.bind (toCounter_ev n l hl) (Ev.bind (eqCounter_ev n l hl) ?_)
    simp only [if_true]
    exact Ev.now _
  · simp only [sz_long hm (by omega), Option.bind_some]
    exact Ev.now _
end Go.Proofs.Ytomepieklgplgaa.Pure
