/- What the laws do with lists of whole numbers: two equal lists are told equal; marks that were written are found again. The lists hold fewer than 2^60 numbers. -/
import Derived.Test.YtomepieklgplgaaP1
import Derived.Test.YtomepieklgplgaaForms
namespace Go.Proofs.Ytomepieklgplgaa.P
open Go.RowKit Go.Proofs.YtomepieklgplgaaW.PrintWords Go.Proofs.YtomepieklgplgaaW.PrintLast Go.Proofs.YtomepieklgplgaaW.PrintMore

theorem eqS_loop (l : List Int) (hl : l.length < 1152921504606846976) (d : Nat) : ∀ i : Nat, i + d = l.length → Ev (fun k => laws_eqInt64S.l0 k l l (i : Int)) true := by
  induction d with
  | zero =>
    intro i hi
    refine Ev.succ ?_
    simp only [laws_eqInt64S.l0, if_neg (show ¬ (i : Int) < (l.length : Int) by omega)]
    exact Ev.now _
  | succ d ih =>
    intro i hi
    refine Ev.succ ?_
    simp only [laws_eqInt64S.l0, if_pos (show (i : Int) < (l.length : Int) by omega), if_pos (show (0 : Int) ≤ (i : Int) by omega), if_true]
    rw [show (i : Int) + 1 = ((i + 1 : Nat) : Int) by omega, w64 (by omega) (by omega)]
    exact ih (i + 1) (by omega)
theorem eqS_ev {l : List Int} (hl : l.length < 1152921504606846976) : Ev (fun k => laws_eqInt64S.f k l l) true := by
  unfold laws_eqInt64S.f
  simp only [if_true]
  exact eqS_loop l hl l.length 0 (by omega)

/-- n marks from s on. -/
def marks : Nat → Int → List Int
  | 0, _ => []
  | n + 1, s => s :: marks n (s + 1)
theorem marks_length (n : Nat) : ∀ s, (marks n s).length = n := by
  induction n with
  | zero => intro s; rfl
  | succ n ih => intro s; simp [marks, ih]
theorem marks_get (n : Nat) : ∀ (s : Int) (j : Nat), j < n → (marks n s)[j]? = some (s + j) := by
  induction n with
  | zero => intro s j h; omega
  | succ n ih =>
    intro s j h
    cases j with
    | zero => simp [marks]
    | succ j => simp only [marks, List.getElem?_cons_succ, ih (s + 1) j (by omega)]; congr 1; omega
theorem rd_marks (n : Nat) (s : Int) (j : Nat) (h : j < n) : rd (marks n s) (j : Int) = s + j := by
  unfold rd
  simp [List.getD_eq_getElem?_getD, marks_get n s j h]
theorem set_mid (pre : List Int) (x y : Int) (post : List Int) : (pre ++ x :: post).set pre.length y = pre ++ y :: post := by
  simp
theorem mark_loop (s : Int) (hs0 : 0 ≤ s) (rest : List Int) : ∀ (pre : List Int) (m : Int), m = s + pre.length → s + pre.length + rest.length < 1152921504606846976 →
    Ev (fun k => laws_markInt64S.l0 k (pre ++ rest) m (pre.length : Int)) (m + rest.length, pre ++ marks rest.length m) := by
  induction rest with
  | nil =>
    intro pre m hm hb
    refine Ev.succ ?_
    simp only [laws_markInt64S.l0, List.append_nil, Int.lt_irrefl, if_false]
    exact Ev.const (by simp [marks])
  | cons x rest ih =>
    intro pre m hm hb
    refine Ev.succ ?_
    simp only [List.length_cons] at hb
    simp only [laws_markInt64S.l0, if_pos (show (pre.length : Int) < ((pre ++ x :: rest).length : Int) by simp; omega), if_pos (show (0 : Int) ≤ (pre.length : Int) by omega), Int.toNat_natCast, set_mid]
    rw [w64 (by omega) (by omega), w64 (by omega) (by omega)]
    have h := ih (pre ++ [m]) (m + 1) (by simp; omega) (by simp; omega)
    simp only [List.append_assoc, List.singleton_append, List.length_append, List.length_singleton] at h
    refine Ev.eq (Ev.congr (fun k => ?_) h) ?_
    · congr 1
    · rw [List.length_cons, marks]
      refine Prod.ext ?_ rfl
      show m + 1 + (rest.length : Int) = m + ((rest.length + 1 : Nat) : Int)
      omega
theorem mark_ev {s : Int} (hs0 : 0 ≤ s) {l : List Int} (hl : s + l.length < 1152921504606846976) : Ev (fun k => laws_markInt64S.f k l s) (s + l.length, marks l.length s) := by
  have h := mark_loop s hs0 l [] s (by simp) (by simpa using hl)
  exact h
theorem held_loop (L : List Int) (s : Int) (hs0 : 0 ≤ s) (hL : s + L.length < 1152921504606846976) (hr : ∀ j : Nat, j < L.length → rd L (j : Int) = s + j) (d : Nat) :
    ∀ i : Nat, i + d = L.length → Ev (fun k => laws_heldInt64S.l0 k L (s + i) (i : Int)) (s + L.length) := by
  induction d with
  | zero =>
    intro i hi
    refine Ev.succ ?_
    simp only [laws_heldInt64S.l0, if_neg (show ¬ (i : Int) < (L.length : Int) by omega)]
    exact Ev.const (by congr 1; omega)
  | succ d ih =>
    intro i hi
    refine Ev.succ ?_
    simp only [laws_heldInt64S.l0, if_pos (show (i : Int) < (L.length : Int) by omega), if_pos (show (0 : Int) ≤ (i : Int) by omega), if_pos (hr i (by omega))]
    rw [w64 (by omega) (by omega), w64 (by omega) (by omega)]
    refine Ev.congr (fun k => ?_) (ih (i + 1) (by omega))
    congr 1
    omega
theorem held_ev {s : Int} (hs0 : 0 ≤ s) {n : Nat} (hl : s + n < 1152921504606846976) : Ev (fun k => laws_heldInt64S.f k (marks n s) s) (s + n) := by
  have h := held_loop (marks n s) s hs0 (by rw [marks_length]; exact hl) (fun j hj => rd_marks n s j (by rwa [marks_length] at hj)) n 0 (by rw [marks_length]; omega)
  unfold laws_heldInt64S.f
  refine Ev.eq (Ev.congr (fun k => ?_) h) ?_
  · congr 1; omega
  · rw [marks_length]
end Go.Proofs.Ytomepieklgplgaa.P
