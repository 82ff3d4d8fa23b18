/- The ring that a state of a whole counter reaches, and the steps to it: the program's loops and the reference's come to the same. -/
import Derived.Test.YtomepieklgplgaaP0
import Derived.Test.YtomepieklgplgaaP3
import Derived.Test.YtomepieklgplgaaP8
import Derived.Test.YtomepieklgplgaaOkC
import Derived.Test.YtomepieklgplgaaExtRep
import Derived.Test.YtomepieklgplgaaExtGrow
namespace Go.Proofs.Ytomepieklgplgaa.P
open Go.RowKit Go.Proofs.YtomepieklgplgaaW.PrintWords Go.Proofs.YtomepieklgplgaaW.PrintLast Go.Proofs.YtomepieklgplgaaW.PrintMore

/-- The states before step i. -/
def pathX (l : List Int) (x : Int) : Nat → List Int
  | 0 => []
  | i + 1 => pathX l x i ++ [outX l x i]
theorem pathX_length (l : List Int) (x : Int) (i : Nat) : (pathX l x i).length = i := by
  induction i with
  | zero => rfl
  | succ i ih => simp [pathX, ih]
/-- The first step, from i on, at which a state comes again. -/
def turnX (l : List Int) (x : Int) : Nat → Nat → Nat
  | 0, i => i
  | k + 1, i => if outX l x i ∈ pathX l x i then i else turnX l x k (i + 1)
def ringT (l : List Int) (x : Int) : Nat := turnX l x (l.length + 1) 0
def tailOf (l : List Int) (x : Int) : Nat := (pathX l x (ringT l x)).idxOf (outX l x (ringT l x))
def rawRing (l : List Int) (x : Int) : List Int := (pathX l x (ringT l x)).drop (tailOf l x)
def leastOf (r : List Int) : Int := r.tail.foldl mn (r.headD 0)

theorem outX_lt {n : Int} {l : List Int} {x : Int} (hok : okC n l) (hx : isSt n x) (i : Nat) : 0 ≤ outX l x i ∧ outX l x i < (l.length : Int) := by
  have h := outX_st hok hx i
  exact ⟨h.2.1, by have := h.2.2; have := hok.2.1; omega⟩
theorem turnX_spec (l : List Int) (x : Int) (k : Nat) : ∀ i, i ≤ turnX l x k i ∧ turnX l x k i ≤ i + k ∧ (∀ j, i ≤ j → j < turnX l x k i → outX l x j ∉ pathX l x j) ∧ (turnX l x k i < i + k → outX l x (turnX l x k i) ∈ pathX l x (turnX l x k i)) := by
  induction k with
  | zero => intro i; exact ⟨Nat.le_refl _, Nat.le_refl _, fun j h1 h2 => absurd h2 (by simp only [turnX]; omega), fun h => absurd h (by simp only [turnX]; omega)⟩
  | succ k ih =>
    intro i
    by_cases hc : outX l x i ∈ pathX l x i
    · have e : turnX l x (k + 1) i = i := by rw [turnX, if_pos hc]
      rw [e]
      exact ⟨Nat.le_refl _, by omega, fun j h1 h2 => by omega, fun _ => hc⟩
    · have e : turnX l x (k + 1) i = turnX l x k (i + 1) := by rw [turnX, if_neg hc]
      rw [e]
      obtain ⟨h1, h2, h3, h4⟩ := ih (i + 1)
      refine ⟨by omega, by omega, fun j g1 g2 => ?_, fun h => h4 (by omega)⟩
      by_cases hj : j = i
      · rw [hj]; exact hc
      · exact h3 j (by omega) g2
theorem nodup_bound (N : Nat) : ∀ p : List Int, p.Nodup → (∀ y ∈ p, 0 ≤ y ∧ y < (N : Int)) → p.length ≤ N := by
  induction N with
  | zero =>
    intro p _ h
    cases p with
    | nil => exact Nat.le_refl _
    | cons a p => have := h a List.mem_cons_self; omega
  | succ N ih =>
    intro p hp h
    have h2 := ih (p.erase (N : Int)) (hp.erase _) (fun y hy => by
      have hy1 := List.mem_of_mem_erase hy
      have hy2 : y ≠ (N : Int) := fun e => by rw [e] at hy; exact (List.Nodup.not_mem_erase hp) hy
      have := h y hy1
      omega)
    have h3 : p.length - 1 ≤ (p.erase (N : Int)).length := by
      rw [List.length_erase]; split <;> omega
    omega
theorem pathX_mem {l : List Int} {x : Int} {i : Nat} {y : Int} : y ∈ pathX l x i ↔ ∃ j, j < i ∧ y = outX l x j := by
  induction i with
  | zero => simp [pathX]
  | succ i ih =>
    rw [pathX, List.mem_append, List.mem_singleton, ih]
    constructor
    · rintro (⟨j, h1, h2⟩ | h)
      · exact ⟨j, by omega, h2⟩
      · exact ⟨i, by omega, h⟩
    · rintro ⟨j, h1, h2⟩
      by_cases h : j = i
      · exact .inr (by rw [h2, h])
      · exact .inl ⟨j, by omega, h2⟩
theorem pathX_nodup {l : List Int} {x : Int} {i : Nat} (h : ∀ j, j < i → outX l x j ∉ pathX l x j) : (pathX l x i).Nodup := by
  induction i with
  | zero => exact List.nodup_nil
  | succ i ih =>
    rw [pathX, List.nodup_append]
    refine ⟨ih (fun j hj => h j (by omega)), by simp, fun a ha b hb => ?_⟩
    rw [List.mem_singleton] at hb
    rintro rfl
    rw [hb] at ha
    exact h i (by omega) ha
/-- Where the run turns. -/
theorem ringT_spec {n : Int} {l : List Int} {x : Int} (hok : okC n l) (hx : isSt n x) : ringT l x ≤ l.length ∧ (∀ j, j < ringT l x → outX l x j ∉ pathX l x j) ∧ outX l x (ringT l x) ∈ pathX l x (ringT l x) := by
  obtain ⟨_, h2, h3, h4⟩ := turnX_spec l x (l.length + 1) 0
  have hd := pathX_nodup (l := l) (x := x) (i := ringT l x) (fun j hj => h3 j (by omega) hj)
  have hb := nodup_bound l.length _ hd (fun y hy => by
    obtain ⟨j, _, rfl⟩ := pathX_mem.mp hy
    exact outX_lt hok hx j)
  rw [pathX_length] at hb
  exact ⟨hb, fun j hj => h3 j (by omega) hj, h4 (by show ringT l x < _; omega)⟩

/-! ### the least element and its place -/
theorem mn_le (a b : Int) : mn a b ≤ a ∧ mn a b ≤ b ∧ (mn a b = a ∨ mn a b = b) := by
  unfold mn; split <;> omega
theorem fold_mn (l : List Int) : ∀ a, (l.foldl mn a = a ∨ l.foldl mn a ∈ l) ∧ l.foldl mn a ≤ a ∧ ∀ y ∈ l, l.foldl mn a ≤ y := by
  induction l with
  | nil => intro a; exact ⟨.inl rfl, Int.le_refl _, fun y hy => by cases hy⟩
  | cons b l ih =>
    intro a
    obtain ⟨h1, h2, h3⟩ := ih (mn a b)
    obtain ⟨m1, m2, m3⟩ := mn_le a b
    rw [List.foldl_cons]
    refine ⟨?_, by omega, fun y hy => ?_⟩
    · rcases h1 with h | h
      · rcases m3 with m | m
        · exact .inl (by omega)
        · exact .inr (by rw [h, m]; exact List.mem_cons_self)
      · exact .inr (List.mem_cons_of_mem _ h)
    · rcases List.mem_cons.mp hy with rfl | hy
      · omega
      · exact h3 y hy
theorem least_spec {r : List Int} (h : r ≠ []) : leastOf r ∈ r ∧ ∀ y ∈ r, leastOf r ≤ y := by
  cases r with
  | nil => exact absurd rfl h
  | cons a l =>
    obtain ⟨h1, h2, h3⟩ := fold_mn l a
    show l.foldl mn a ∈ a :: l ∧ ∀ y ∈ a :: l, l.foldl mn a ≤ y
    refine ⟨?_, fun y hy => ?_⟩
    · rcases h1 with h | h
      · rw [h]; exact List.mem_cons_self
      · exact List.mem_cons_of_mem _ h
    · rcases List.mem_cons.mp hy with rfl | hy
      · exact h2
      · exact h3 y hy
theorem least_snoc {p : List Int} (h : p ≠ []) (a : Int) : leastOf (p ++ [a]) = mn (leastOf p) a := by
  cases p with
  | nil => exact absurd rfl h
  | cons b l =>
    show (l ++ [a]).foldl mn b = mn (l.foldl mn b) a
    rw [List.foldl_append]; rfl
def leastIx (r : List Int) : Nat := r.idxOf (leastOf r)
/-- The ring, from its least state on. -/
def turned (r : List Int) : List Int := r.drop (leastIx r) ++ r.take (leastIx r)
def ringOf (l : List Int) (x : Int) : List Int := turned (rawRing l x)
theorem leastIx_lt {r : List Int} (h : r ≠ []) : leastIx r < r.length := List.idxOf_lt_length_of_mem (least_spec h).1
theorem leastIx_snoc {p : List Int} (h : p ≠ []) (a : Int) : leastIx (p ++ [a]) = if a < leastOf p then p.length else leastIx p := by
  unfold leastIx
  rw [least_snoc h]
  obtain ⟨h1, h2⟩ := least_spec h
  unfold mn
  split
  · rename_i hlt
    have hn : a ∉ p := fun z => by have := h2 a z; omega
    rw [List.idxOf_append, if_neg hn]
    simp
  · rw [List.idxOf_append, if_pos h1]
theorem min_loop (r : List Int) (hr : r.length ≤ 1048576) (d : Nat) : ∀ i : Nat, 1 ≤ i → i + d = r.length → Ev (fun k => slices_Min_int64_int64.l0 k r (leastOf (r.take i)) (i : Int)) (leastOf r) := by
  induction d with
  | zero =>
    intro i h1 hi
    refine Ev.succ ?_
    simp only [slices_Min_int64_int64.l0, if_neg (show ¬ (i : Int) < (r.length : Int) by omega)]
    exact Ev.const (by rw [List.take_of_length_le (by omega)])
  | succ d ih =>
    intro i h1 hi
    refine Ev.succ ?_
    have hlt : i < r.length := by omega
    have e1 : wrap64 ((i : Int) + 1) = ((i + 1 : Nat) : Int) := by rw [w64 (by omega) (by omega)]; omega
    have hne : r.take i ≠ [] := fun z => by have := congrArg List.length z; rw [List.length_take, List.length_nil] at this; omega
    simp only [slices_Min_int64_int64.l0, if_pos (show (i : Int) < (r.length : Int) by omega), if_pos (show (0 : Int) ≤ (i : Int) by omega), rd_at r i hlt, e1]
    rw [← least_snoc hne, List.take_append_getElem hlt]
    exact ih (i + 1) (by omega) (by omega)
theorem min_ev {r : List Int} (hr : r.length ≤ 1048576) (h : r ≠ []) : Ev (fun k => slices_Min_int64_int64.f k r) (leastOf r) := by
  have hp : 0 < r.length := List.length_pos_iff.mpr h
  unfold slices_Min_int64_int64.f
  simp only [if_neg (show ¬ (r.length : Int) < 1 by omega), if_pos (show (0 : Int) < (r.length : Int) by omega)]
  have h1 := min_loop r hr (r.length - 1) 1 (Nat.le_refl 1) (by omega)
  have e : leastOf (r.take 1) = rd r 0 := by
    cases r with
    | nil => exact absurd rfl h
    | cons a l => rfl
  rw [e] at h1
  exact h1
theorem idxOf_le (l : List Int) : ∀ (i : Nat) (h : i < l.length), l.idxOf l[i] ≤ i := by
  induction l with
  | nil => intro i h; exact absurd h (by simp)
  | cons a l ih =>
    intro i h
    cases i with
    | zero => simp
    | succ i =>
      have h2 := ih i (by simpa using h)
      simp only [List.getElem_cons_succ, List.idxOf_cons]
      cases (a == l[i]'(by simpa using h)) <;> simp <;> omega
theorem index_loop (r : List Int) (hr : r.length ≤ 1048576) (v : Int) (hv : v ∈ r) (d : Nat) : ∀ i : Nat, i + d = r.idxOf v → Ev (fun k => slices_Index_int64_int64.l0 k r v (r.length : Int) (i : Int)) ((r.idxOf v : Nat) : Int) := by
  have hlt := List.idxOf_lt_length_of_mem hv
  induction d with
  | zero =>
    intro i hi
    refine Ev.succ ?_
    have hi' : i = r.idxOf v := by omega
    have hil : i < r.length := by omega
    have hg : v = r[i] := by subst hi'; exact (List.getElem_idxOf hlt).symm
    simp only [slices_Index_int64_int64.l0, if_pos (show (i : Int) < (r.length : Int) by omega), if_pos (show (0 : Int) ≤ (i : Int) by omega), rd_at r i hil, if_pos hg]
    exact Ev.const (by rw [hi'])
  | succ d ih =>
    intro i hi
    refine Ev.succ ?_
    have hil : i < r.length := by omega
    have e1 : wrap64 ((i : Int) + 1) = ((i + 1 : Nat) : Int) := by rw [w64 (by omega) (by omega)]; omega
    have hg : ¬ v = r[i] := fun z => by
      have : r.idxOf v ≤ i := by rw [z]; exact idxOf_le r i hil
      omega
    simp only [slices_Index_int64_int64.l0, if_pos (show (i : Int) < (r.length : Int) by omega), if_pos (show (0 : Int) ≤ (i : Int) by omega), rd_at r i hil, if_neg hg, e1]
    exact ih (i + 1) (by omega)
theorem index_ev {r : List Int} (hr : r.length ≤ 1048576) {v : Int} (hv : v ∈ r) : Ev (fun k => slices_Index_int64_int64.f k r v) ((r.idxOf v : Nat) : Int) := index_loop r hr v hv (r.idxOf v) 0 (by omega)
theorem concat_ev {a b : List Int} (ha : a.length ≤ 400000) (hb : b.length ≤ 400000) : Ev (fun k => slices_Concat_int64_int64.f k [a, b]) (a ++ b) := by
  have r0 : rd_L1 [a, b] 0 = a := rfl
  have r1 : rd_L1 [a, b] 1 = b := rfl
  have e0 : wrap64 (0 + 1) = 1 := w64 (by omega) (by omega)
  have e1 : wrap64 (1 + 1) = 2 := w64 (by omega) (by omega)
  have s0 : wrap64 (0 + (a.length : Int)) = (a.length : Int) := by rw [w64 (by omega) (by omega)]; omega
  have s1 : wrap64 ((a.length : Int) + (b.length : Int)) = (a.length : Int) + (b.length : Int) := w64 (by omega) (by omega)
  have hl : ([a, b].length : Int) = 2 := rfl
  unfold slices_Concat_int64_int64.f
  refine Ev.succ ?_
  simp only [slices_Concat_int64_int64.l0, hl, if_pos (show (0 : Int) < 2 by decide), if_pos (show (0 : Int) ≤ 0 by decide), r0, s0, if_neg (show ¬ (a.length : Int) < 0 by omega), e0]
  refine Ev.succ ?_
  simp only [slices_Concat_int64_int64.l0, hl, if_pos (show (1 : Int) < 2 by decide), if_pos (show (0 : Int) ≤ 1 by decide), r1, s1, if_neg (show ¬ (a.length : Int) + (b.length : Int) < 0 by omega), e1]
  refine Ev.succ ?_
  have hg : slices_Grow_int64_int64.f ([] : List Int) ((a.length : Int) + (b.length : Int)) = some [] := by
    unfold slices_Grow_int64_int64.f
    rw [if_pos ⟨rfl, by omega, by omega⟩]
  simp only [slices_Concat_int64_int64.l0, if_neg (show ¬ (2 : Int) < 2 by decide), hg, Option.bind_some, hl]
  refine Ev.succ ?_
  simp only [slices_Concat_int64_int64.l1, hl, if_pos (show (0 : Int) < 2 by decide), if_pos (show (0 : Int) ≤ 0 by decide), r0, e0, if_pos (show ([] : List Int).length + a.length < 17592186044416 by rw [List.length_nil]; omega), List.nil_append]
  refine Ev.succ ?_
  simp only [slices_Concat_int64_int64.l1, hl, if_pos (show (1 : Int) < 2 by decide), if_pos (show (0 : Int) ≤ 1 by decide), r1, e1, if_pos (show a.length + b.length < 17592186044416 by omega)]
  refine Ev.succ ?_
  simp only [slices_Concat_int64_int64.l1, if_neg (show ¬ (2 : Int) < 2 by decide)]
  exact Ev.now _
end Go.Proofs.Ytomepieklgplgaa.P
