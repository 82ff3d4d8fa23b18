/- The loops of the program's ringFrom and of the reference's l02Ring come to the ring and the tail of a state; all rings of a counter, likewise. For whole counters. -/
import Derived.Test.YtomepieklgplgaaP3
import Derived.Test.YtomepieklgplgaaP8
import Derived.Test.YtomepieklgplgaaP9
import Derived.Test.YtomepieklgplgaaP11
import Derived.Test.YtomepieklgplgaaRing
namespace Go.Proofs.Ytomepieklgplgaa.P
open Go.RowKit Go.Proofs.YtomepieklgplgaaW.PrintWords Go.Proofs.YtomepieklgplgaaW.PrintLast Go.Proofs.YtomepieklgplgaaW.PrintMore

theorem rd_set_self (l : List Int) (i : Nat) (v : Int) (h : i < l.length) : rd (l.set i v) (i : Int) = v := by
  rw [rd_at _ _ (by rw [List.length_set]; exact h), List.getElem_set_self]
theorem rd_set_ne (l : List Int) (i j : Nat) (v : Int) (h : j < l.length) (hne : i ≠ j) : rd (l.set i v) (j : Int) = rd l (j : Int) := by
  rw [rd_at _ _ (by rw [List.length_set]; exact h), rd_at _ _ h, List.getElem_set_ne hne]
/-- What is noted of the states: their places, d more. -/
def seenOk (d : Int) (l seen p : List Int) : Prop := seen.length = l.length ∧ ∀ y : Nat, y < l.length → rd seen (y : Int) = if (y : Int) ∈ p then (p.idxOf (y : Int) : Int) + d else d - 1
theorem seenOk_set {d : Int} {l seen p : List Int} (h : seenOk d l seen p) {x : Nat} (hx : x < l.length) (hn : (x : Int) ∉ p) : seenOk d l (seen.set x ((p.length : Int) + d)) (p ++ [(x : Int)]) := by
  refine ⟨by rw [List.length_set]; exact h.1, fun y hy => ?_⟩
  have hs : seen.length = l.length := h.1
  by_cases e : x = y
  · subst e
    rw [rd_set_self _ _ _ (by omega), if_pos (by simp), List.idxOf_append, if_neg hn]
    simp
  · rw [rd_set_ne _ _ _ _ (by omega) e, h.2 y hy]
    have e' : ¬ (y : Int) = (x : Int) := by omega
    by_cases hp : (y : Int) ∈ p
    · rw [if_pos hp, if_pos (List.mem_append_left _ hp), List.idxOf_append, if_pos hp]
    · rw [if_neg hp, if_neg (by simp [hp, e'])]
theorem seenOk_start (d : Int) (l : List Int) : seenOk d l (List.replicate l.length (d - 1)) [] := by
  refine ⟨by simp, fun y hy => ?_⟩
  rw [rd_at _ _ (by simpa using hy)]
  simp
theorem outX_nat {n : Int} {l : List Int} {x : Int} (hok : okC n l) (hx : isSt n x) (i : Nat) : ∃ y : Nat, outX l x i = (y : Int) ∧ y < l.length := by
  have h := outX_lt hok hx i
  obtain ⟨y, hy⟩ := Int.eq_ofNat_of_zero_le h.1
  exact ⟨y, hy, by omega⟩
theorem okC_len {n : Int} {l : List Int} (hok : okC n l) : 2 ≤ l.length ∧ l.length ≤ 256 := by
  have := pow_256 hok.1
  have := hok.2.1
  omega
theorem ringT_pos {n : Int} {l : List Int} {x : Int} (hok : okC n l) (hx : isSt n x) : 0 < ringT l x ∧ ringT l x ≤ 256 := by
  obtain ⟨h1, _, h3⟩ := ringT_spec hok hx
  have := okC_len hok
  refine ⟨?_, by omega⟩
  obtain ⟨j, hj, _⟩ := pathX_mem.mp h3
  omega
theorem tailOf_lt {n : Int} {l : List Int} {x : Int} (hok : okC n l) (hx : isSt n x) : tailOf l x < ringT l x := by
  have h := List.idxOf_lt_length_of_mem (ringT_spec hok hx).2.2
  rwa [pathX_length] at h
theorem rawRing_length (l : List Int) (x : Int) : (rawRing l x).length = ringT l x - tailOf l x := by
  rw [rawRing, List.length_drop, pathX_length]
theorem rawRing_ne {n : Int} {l : List Int} {x : Int} (hok : okC n l) (hx : isSt n x) : rawRing l x ≠ [] := by
  intro h
  have h1 := congrArg List.length h
  rw [rawRing_length, List.length_nil] at h1
  have := tailOf_lt hok hx
  omega
theorem implRing_loop {n : Int} {l : List Int} {x : Int} (hok : okC n l) (hx : isSt n x) (d : Nat) : ∀ (i : Nat) (seen : List Int), i + d = ringT l x → seenOk 0 l seen (pathX l x i) →
    Ev (fun k => impl_Counter_ringFrom.l0 k (outX l x i) seen (pathX l x i) (outX l x i) n l) (ringOf l x, (tailOf l x : Int)) := by
  have h256 := ringT_pos hok hx
  have hT := ringT_spec hok hx
  induction d with
  | zero =>
    intro i seen hi hs
    obtain rfl : i = ringT l x := by omega
    obtain ⟨y, hy, hyl⟩ := outX_nat hok hx (ringT l x)
    have hm := hT.2.2
    have hrd : rd seen (y : Int) = (tailOf l x : Int) := by
      rw [hs.2 y hyl, ← hy, if_pos hm, Int.add_zero]; rfl
    have hlt := tailOf_lt hok hx
    have hne := rawRing_ne hok hx
    have hrl : (rawRing l x).length ≤ 1048576 := by rw [rawRing_length]; omega
    have hil := leastIx_lt hne
    refine Ev.succ ?_
    have hsl : seen.length = l.length := hs.1
    simp only [impl_Counter_ringFrom.l0, hy, pathX_length, if_pos (show (0 : Int) ≤ (y : Int) by omega), if_pos (show (y : Int) < (seen.length : Int) by omega), hrd, if_neg (show ¬ (tailOf l x : Int) < 0 by omega), if_neg (show ¬ ((ringT l x : Nat) : Int) = 0 by omega), if_pos (show (0 : Int) ≤ (tailOf l x : Int) by omega), if_pos (show (tailOf l x : Int) ≤ ((ringT l x : Nat) : Int) by omega), Option.bind_some, Int.toNat_natCast]
    refine Ev.bind (min_ev hrl hne) (Ev.bind (index_ev hrl (least_spec hne).1) ?_)
    show Ev (fun k => if (0 : Int) ≤ ((leastIx (rawRing l x) : Nat) : Int) then (if ((leastIx (rawRing l x) : Nat) : Int) ≤ ((rawRing l x).length : Int) then ((slices_Concat_int64_int64.f k [(rawRing l x).drop ((leastIx (rawRing l x) : Nat) : Int).toNat, (rawRing l x).take ((leastIx (rawRing l x) : Nat) : Int).toNat]).bind fun t321 => some (t321, (tailOf l x : Int))) else none) else none) _
    simp only [Int.toNat_natCast, if_pos (show (0 : Int) ≤ ((leastIx (rawRing l x) : Nat) : Int) by omega), if_pos (show ((leastIx (rawRing l x) : Nat) : Int) ≤ ((rawRing l x).length : Int) by omega)]
    refine Ev.bind (concat_ev (by rw [List.length_drop, rawRing_length]; omega) (by rw [List.length_take, rawRing_length]; omega)) ?_
    exact Ev.now _
  | succ d ih =>
    intro i seen hi hs
    obtain ⟨y, hy, hyl⟩ := outX_nat hok hx i
    have hm := hT.2.1 i (by omega)
    have hrd : rd seen (y : Int) = -1 := by
      rw [hs.2 y hyl, ← hy, if_neg hm]; rfl
    have hsl : seen.length = l.length := hs.1
    refine Ev.succ ?_
    rw [hy] at hm
    have hs2 := seenOk_set hs hyl hm
    rw [pathX_length, Int.add_zero] at hs2
    have e1 : pathX l x i ++ [(y : Int)] = pathX l x (i + 1) := by rw [pathX, hy]
    have e2 : rd l (y : Int) = outX l x (i + 1) := by rw [outX, hy]
    rw [e1] at hs2
    simp only [impl_Counter_ringFrom.l0, hy, pathX_length, if_pos (show (0 : Int) ≤ (y : Int) by omega), if_pos (show (y : Int) < (seen.length : Int) by omega), hrd, if_pos (show (-1 : Int) < 0 by decide), if_pos (show i < 17592186044416 by omega), if_pos (show (y : Int) < (l.length : Int) by omega), Int.toNat_natCast, e1, e2]
    exact ih (i + 1) _ (by omega) hs2
theorem implRing_ev {n : Int} {l : List Int} {x : Int} (hok : okC n l) (hx : isSt n x) : Ev (fun k => impl_Counter_ringFrom.f k n l x) (ringOf l x, (tailOf l x : Int)) := by
  have hl := okC_len hok
  unfold impl_Counter_ringFrom.f
  have hr : slices_Repeat_int_int.f [(-1 : Int)] (l.length : Int) = some (List.replicate l.length (-1)) := by
    unfold slices_Repeat_int_int.f
    rw [if_pos ⟨rfl, by omega, by omega⟩]
    rfl
  simp only [hr, Option.bind_some]
  exact implRing_loop hok hx (ringT l x) 0 _ (by omega) (seenOk_start 0 l)
theorem specLeast_loop {r : List Int} (hr : r.length ≤ 1048576) (h : r ≠ []) (n t : Int) (l : List Int) (d : Nat) : ∀ i : Nat, 1 ≤ i → i + d = r.length →
    Ev (fun k => spec_l02Ring.l1 k t r ((leastIx (r.take i) : Nat) : Int) (i : Int) n l) (turned r, t, n) := by
  induction d with
  | zero =>
    intro i h1 hi
    have hil := leastIx_lt h
    refine Ev.succ ?_
    rw [List.take_of_length_le (by omega)]
    have ho : spec_l00Own.f (r.drop (leastIx r)) = some (r.drop (leastIx r)) := by
      unfold spec_l00Own.f
      simp only [Option.bind_some, List.length_nil, List.length_drop, List.nil_append]
      rw [if_pos (by omega)]
    simp only [spec_l02Ring.l1, if_neg (show ¬ (i : Int) < (r.length : Int) by omega), if_pos (show (0 : Int) ≤ ((leastIx r : Nat) : Int) by omega), if_pos (show ((leastIx r : Nat) : Int) ≤ (r.length : Int) by omega), Int.toNat_natCast, ho, Option.bind_some, List.length_drop, List.length_take]
    rw [if_pos (by omega)]
    exact Ev.now _
  | succ d ih =>
    intro i h1 hi
    refine Ev.succ ?_
    have hlt : i < r.length := by omega
    have hne : r.take i ≠ [] := fun z => by have := congrArg List.length z; rw [List.length_take, List.length_nil] at this; omega
    have hjl := leastIx_lt hne
    have hj : leastIx (r.take i) < r.length := by rw [List.length_take] at hjl; omega
    have hrj : rd r ((leastIx (r.take i) : Nat) : Int) = leastOf (r.take i) := by
      rw [rd_at r _ hj]
      have e : (r.take i)[leastIx (r.take i)]'hjl = leastOf (r.take i) := List.getElem_idxOf hjl
      rw [← e, List.getElem_take]
    have e1 : wrap64 ((i : Int) + 1) = ((i + 1 : Nat) : Int) := by rw [w64 (by omega) (by omega)]; omega
    have hsn := leastIx_snoc hne r[i]
    rw [List.take_append_getElem hlt, List.length_take, Nat.min_eq_left (by omega)] at hsn
    have hi2 := ih (i + 1) (by omega) (by omega)
    simp only [spec_l02Ring.l1, if_pos (show (i : Int) < (r.length : Int) by omega), if_pos (show (0 : Int) ≤ (i : Int) by omega), if_pos (show (0 : Int) ≤ ((leastIx (r.take i) : Nat) : Int) by omega), if_pos (show ((leastIx (r.take i) : Nat) : Int) < (r.length : Int) by omega), rd_at r i hlt, hrj, e1]
    by_cases hc : r[i] < leastOf (r.take i)
    · rw [if_pos hc] at hsn
      rw [hsn] at hi2
      simp only [if_pos hc]
      exact hi2
    · rw [if_neg hc] at hsn
      rw [hsn] at hi2
      simp only [if_neg hc]
      exact hi2
theorem specRing_loop {n : Int} {l : List Int} {x : Int} (hok : okC n l) (hx : isSt n x) (d : Nat) : ∀ (i : Nat) (seen : List Int), i + d = ringT l x → seenOk 1 l seen (pathX l x i) →
    Ev (fun k => spec_l02Ring.l0 k (outX l x i) seen (pathX l x i) n l) (ringOf l x, (tailOf l x : Int), n) := by
  have h256 := ringT_pos hok hx
  have hT := ringT_spec hok hx
  induction d with
  | zero =>
    intro i seen hi hs
    obtain rfl : i = ringT l x := by omega
    obtain ⟨y, hy, hyl⟩ := outX_nat hok hx (ringT l x)
    have hm := hT.2.2
    have hrd : rd seen (y : Int) = (tailOf l x : Int) + 1 := by
      rw [hs.2 y hyl, ← hy, if_pos hm]; rfl
    have hlt := tailOf_lt hok hx
    have hne := rawRing_ne hok hx
    have hrl : (rawRing l x).length ≤ 1048576 := by rw [rawRing_length]; omega
    have hsl : seen.length = l.length := hs.1
    have ew : wrap64 ((tailOf l x : Int) + 1 - 1) = (tailOf l x : Int) := by rw [w64 (by omega) (by omega)]; omega
    refine Ev.succ ?_
    simp only [spec_l02Ring.l0, hy, pathX_length, if_pos (show (0 : Int) ≤ (y : Int) by omega), if_pos (show (y : Int) < (seen.length : Int) by omega), hrd, if_neg (show ¬ (tailOf l x : Int) + 1 = 0 by omega), ew, if_pos (show (0 : Int) ≤ (tailOf l x : Int) by omega), if_pos (show (tailOf l x : Int) ≤ ((ringT l x : Nat) : Int) by omega), Int.toNat_natCast]
    have h1 := specLeast_loop hrl hne n (tailOf l x : Int) l ((rawRing l x).length - 1) 1 (Nat.le_refl 1) (by have := List.length_pos_iff.mpr hne; omega)
    have e0 : leastIx ((rawRing l x).take 1) = 0 := by
      generalize rawRing l x = r at hne
      cases r with
      | nil => exact absurd rfl hne
      | cons a r => simp [leastIx, leastOf]
    rw [e0] at h1
    exact h1
  | succ d ih =>
    intro i seen hi hs
    obtain ⟨y, hy, hyl⟩ := outX_nat hok hx i
    have hm := hT.2.1 i (by omega)
    have hrd : rd seen (y : Int) = 0 := by
      rw [hs.2 y hyl, ← hy, if_neg hm]; rfl
    have hsl : seen.length = l.length := hs.1
    refine Ev.succ ?_
    rw [hy] at hm
    have hs2 := seenOk_set hs hyl hm
    have e1 : pathX l x i ++ [(y : Int)] = pathX l x (i + 1) := by rw [pathX, hy]
    have e2 : rd l (y : Int) = outX l x (i + 1) := by rw [outX, hy]
    have e3 : ((pathX l x i).length : Int) + 1 = ((pathX l x (i + 1)).length : Int) := by rw [pathX_length, pathX_length]; omega
    rw [e1, e3] at hs2
    simp only [spec_l02Ring.l0, hy, if_pos (show (0 : Int) ≤ (y : Int) by omega), if_pos (show (y : Int) < (seen.length : Int) by omega), hrd, if_true, if_pos (show (pathX l x i).length < 17592186044416 by rw [pathX_length]; omega), if_pos (show (y : Int) < (l.length : Int) by omega), Int.toNat_natCast, Option.bind_some, e1, e2]
    exact ih (i + 1) _ (by omega) hs2
theorem specRing_ev {n : Int} {l : List Int} {x : Int} (hok : okC n l) (hx : isSt n x) : Ev (fun k => spec_l02Ring.f k n l x) (ringOf l x, (tailOf l x : Int), n) := by
  have hl := okC_len hok
  unfold spec_l02Ring.f
  simp only [Int.toNat_natCast, if_pos (show (0 : Int) ≤ (l.length : Int) by omega), if_pos (show l.length ≤ 35184372088832 by omega)]
  exact specRing_loop hok hx (ringT l x) 0 _ (by omega) (seenOk_start 1 l)

/-! ### all rings -/
theorem turned_length (r : List Int) : (turned r).length = r.length := by
  unfold turned
  rw [List.length_append, List.length_drop, List.length_take]
  omega
theorem ringOf_length (l : List Int) (x : Int) : (ringOf l x).length = ringT l x - tailOf l x := by rw [ringOf, turned_length, rawRing_length]
theorem ringOf_pos {n : Int} {l : List Int} {x : Int} (hok : okC n l) (hx : isSt n x) : 0 < (ringOf l x).length ∧ (ringOf l x).length ≤ 256 := by
  have := tailOf_lt hok hx
  have := ringT_pos hok hx
  rw [ringOf_length]; omega
/-- The rings whose least state is below i. -/
def ringsUp (l : List Int) : Nat → List (List Int)
  | 0 => []
  | i + 1 => ringsUp l i ++ if tailOf l (i : Int) = 0 ∧ rd (ringOf l (i : Int)) 0 = (i : Int) then [ringOf l (i : Int)] else []
theorem ringsUp_length (l : List Int) (i : Nat) : (ringsUp l i).length ≤ i := by
  induction i with
  | zero => exact Nat.le_refl _
  | succ i ih => rw [ringsUp, List.length_append]; split <;> simp <;> omega
theorem isSt_nat {n : Int} {l : List Int} (hok : okC n l) {i : Nat} (hi : i < l.length) : isSt n (i : Int) := ⟨hok.1, by omega, by have := hok.2.1; omega⟩
theorem implRings_loop {n : Int} {l : List Int} (hok : okC n l) (d : Nat) : ∀ i : Nat, i + d = l.length → Ev (fun k => impl_Counter_rings.l0 k (ringsUp l i) (l.length : Int) (i : Int) n l) (ringsUp l l.length) := by
  have hl := okC_len hok
  induction d with
  | zero =>
    intro i hi
    obtain rfl : i = l.length := by omega
    refine Ev.succ ?_
    simp only [impl_Counter_rings.l0, Int.lt_irrefl, if_false]
    exact Ev.now _
  | succ d ih =>
    intro i hi
    refine Ev.succ ?_
    have hst := isSt_nat hok (show i < l.length by omega)
    have hp := ringOf_pos hok hst
    have e1 : wrap64 ((i : Int) + 1) = ((i + 1 : Nat) : Int) := by rw [w64 (by omega) (by omega)]; omega
    have hr := ringsUp_length l i
    have h1 := ih (i + 1) (by omega)
    simp only [impl_Counter_rings.l0, if_pos (show (i : Int) < (l.length : Int) by omega), e1]
    refine Ev.bind (implRing_ev hok hst) ?_
    rw [ringsUp] at h1
    by_cases ht : tailOf l (i : Int) = 0
    · by_cases hh : rd (ringOf l (i : Int)) 0 = (i : Int)
      · rw [if_pos ⟨ht, hh⟩] at h1
        simp only [ht, hh, Int.natCast_zero, if_true, if_pos (show (0 : Int) < ((ringOf l (i : Int)).length : Int) by omega), if_pos (show (ringsUp l i).length < 5864062014805 by omega)]
        exact h1
      · rw [if_neg (fun z => hh z.2), List.append_nil] at h1
        simp only [ht, hh, Int.natCast_zero, if_true, if_false, if_pos (show (0 : Int) < ((ringOf l (i : Int)).length : Int) by omega)]
        exact h1
    · rw [if_neg (fun z => ht z.1), List.append_nil] at h1
      simp only [if_neg (show ¬ (tailOf l (i : Int) : Int) = 0 by omega)]
      exact h1
theorem implRings_ev {n : Int} {l : List Int} (hok : okC n l) : Ev (fun k => impl_Counter_rings.f k n l) (ringsUp l l.length) := implRings_loop hok l.length 0 (by omega)
theorem specRings_loop {n : Int} {l : List Int} (hok : okC n l) (d : Nat) : ∀ i : Nat, i + d = l.length → Ev (fun k => spec_l02Rings.l0 k (ringsUp l i) (i : Int) n l) (ringsUp l l.length, n) := by
  have hl := okC_len hok
  induction d with
  | zero =>
    intro i hi
    obtain rfl : i = l.length := by omega
    refine Ev.succ ?_
    simp only [spec_l02Rings.l0, Int.lt_irrefl, if_false]
    exact Ev.now _
  | succ d ih =>
    intro i hi
    refine Ev.succ ?_
    have hst := isSt_nat hok (show i < l.length by omega)
    have hp := ringOf_pos hok hst
    have e1 : wrap64 ((i : Int) + 1) = ((i + 1 : Nat) : Int) := by rw [w64 (by omega) (by omega)]; omega
    have hr := ringsUp_length l i
    have h1 := ih (i + 1) (by omega)
    simp only [spec_l02Rings.l0, if_pos (show (i : Int) < (l.length : Int) by omega), e1]
    refine Ev.bind (specRing_ev hok hst) ?_
    rw [ringsUp] at h1
    by_cases ht : tailOf l (i : Int) = 0
    · by_cases hh : rd (ringOf l (i : Int)) 0 = (i : Int)
      · rw [if_pos ⟨ht, hh⟩] at h1
        simp only [ht, hh, Int.natCast_zero, if_true, if_pos (show (0 : Int) < ((ringOf l (i : Int)).length : Int) by omega), if_pos (show (ringsUp l i).length < 5864062014805 by omega)]
        exact h1
      · rw [if_neg (fun z => hh z.2), List.append_nil] at h1
        simp only [ht, hh, Int.natCast_zero, if_true, if_false, if_pos (show (0 : Int) < ((ringOf l (i : Int)).length : Int) by omega)]
        exact h1
    · rw [if_neg (fun z => ht z.1), List.append_nil] at h1
      simp only [if_neg (show ¬ (tailOf l (i : Int) : Int) = 0 by omega)]
      exact h1
theorem specRings_ev {n : Int} {l : List Int} (hok : okC n l) : Ev (fun k => spec_l02Rings.f k n l) (ringsUp l l.length, n) := specRings_loop hok l.length 0 (by omega)
end Go.Proofs.Ytomepieklgplgaa.P
