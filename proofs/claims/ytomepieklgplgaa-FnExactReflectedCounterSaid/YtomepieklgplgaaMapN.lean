/- Lists told place by place; no condition. -/
import Derived.Test.YtomepieklgplgaaExtCounterBy
namespace Go.Proofs.Ytomepieklgplgaa.P
open Go.RowKit Go.Proofs.YtomepieklgplgaaW.PrintWords Go.Proofs.YtomepieklgplgaaW.PrintLast Go.Proofs.YtomepieklgplgaaW.PrintMore

theorem mapN_get (f : Int → Int) (n : Nat) : ∀ j, j < n → (mapN f n)[j]? = some (f (j : Int)) := by
  induction n with
  | zero => intro j h; omega
  | succ n ih =>
    intro j h
    rw [mapN]
    by_cases hj : j < n
    · rw [List.getElem?_append_left (by rw [mapN_length]; exact hj), ih j hj]
    · obtain rfl : j = n := by omega
      rw [List.getElem?_append_right (by rw [mapN_length]; exact Nat.le_refl _), mapN_length, Nat.sub_self]
      rfl
theorem mapN_eq {f : Int → Int} {n : Nat} {l : List Int} (hl : l.length = n) (h : ∀ j, j < n → l[j]? = some (f (j : Int))) : l = mapN f n := by
  apply List.ext_getElem?
  intro j
  by_cases hj : j < n
  · rw [h j hj, mapN_get f n j hj]
  · rw [List.getElem?_eq_none (by omega), List.getElem?_eq_none (by rw [mapN_length]; omega)]
theorem getElem?_set' (l : List Int) (i : Nat) (v : Int) (j : Nat) (hi : i < l.length) : (l.set i v)[j]? = if j = i then some v else l[j]? := by
  by_cases h : j = i
  · rw [if_pos h, h, List.getElem?_set_self hi]
  · rw [if_neg h, List.getElem?_set_ne (Ne.symm h)]
end Go.Proofs.Ytomepieklgplgaa.P
