/- The ticks at which a wave changes to a level: the program's loop and the reference's come to the same list. The texts are shorter than 2^40 bytes. -/
import Derived.Test.YtkhkmdddflaolaaDoorP23
import Derived.Test.YtkhkmdddflaolaaDoorP25
import Derived.Test.YtkhkmdddflaolaaDoorWave
namespace Go.Proofs.YtkhkmdddflaolaaDoor.P
open Go.RowKit Go.Proofs.YtkhkmdddflaolaaDoorW.PrintWords Go.Proofs.YtkhkmdddflaolaaDoorW.PrintLast Go.Proofs.YtkhkmdddflaolaaDoorW.PrintMore

/-- The places, from i on, at which bytes change to one of them. -/
def edgesL (lv : Int) : Int → Nat → List UInt8 → List Int
  | _, _, [] => []
  | before, i, c :: l => (if (c.toNat : Int) = lv ∧ before ≠ lv then [(i : Int)] else []) ++ edgesL lv (c.toNat : Int) (i + 1) l
theorem edgesL_length (lv : Int) (l : List UInt8) : ∀ before i, (edgesL lv before i l).length ≤ l.length := by
  induction l with
  | nil => intro before i; simp [edgesL]
  | cons c l ih =>
    intro before i
    have := ih (c.toNat : Int) (i + 1)
    simp only [edgesL, List.length_append, List.length_cons]
    split <;> simp <;> omega
theorem edges_loops (s : ByteArray) (hs : s.size < 1099511627776) (lv : Int) (d : Nat) : ∀ (i : Nat) (before : Int) (out : List Int), i + d = s.size → out.length + d < 17592186044416 →
    Ev (fun k => spec_l01Edges.l0 k s lv out before (i : Int)) (out ++ edgesL lv before i ((bs s).drop i)) ∧
    Ev (fun k => impl_changesTo.l0 k s lv out before (s.size : Int) (i : Int)) (out ++ edgesL lv before i ((bs s).drop i)) := by
  induction d with
  | zero =>
    intro i before out hi ho
    rw [List.drop_eq_nil_of_le (by rw [bs_len]; omega)]
    refine ⟨Ev.succ ?_, Ev.succ ?_⟩
    · simp only [spec_l01Edges.l0, if_neg (show ¬ (i : Int) < (s.size : Int) by omega)]
      exact Ev.const (by simp [edgesL])
    · simp only [impl_changesTo.l0, if_neg (show ¬ (i : Int) < (s.size : Int) by omega)]
      exact Ev.const (by simp [edgesL])
  | succ d ih =>
    intro i before out hi ho
    have hlt : i < s.size := by omega
    have hdrop := List.drop_eq_getElem_cons (l := bs s) (i := i) (by rw [bs_len]; exact hlt)
    have hb := bt_nat s i hlt
    have e1 : wrap64 ((i : Int) + 1) = ((i + 1 : Nat) : Int) := by rw [w64 (by omega) (by omega)]; omega
    have t1 : (i : Int) < (s.size : Int) := by omega
    have t2 : (0 : Int) ≤ (i : Int) := by omega
    have t3 : out.length < 17592186044416 := by omega
    rw [hdrop]
    generalize hc : (bs s)[i]'(by rw [bs_len]; exact hlt) = c at hb ⊢
    obtain ⟨ha1, hb1⟩ := ih (i + 1) (c.toNat : Int) (out ++ [(i : Int)]) (by omega) (by rw [List.length_append, List.length_singleton]; omega)
    obtain ⟨ha2, hb2⟩ := ih (i + 1) (c.toNat : Int) out (by omega) (by omega)
    by_cases h1 : (c.toNat : Int) = lv
    · by_cases h2 : before = lv
      · have e : out ++ edgesL lv before i (c :: (bs s).drop (i + 1)) = out ++ edgesL lv (c.toNat : Int) (i + 1) ((bs s).drop (i + 1)) := by simp [edgesL, h2]
        rw [e]
        refine ⟨Ev.succ ?_, Ev.succ ?_⟩
        · simp only [spec_l01Edges.l0, if_pos t1, if_pos t2, hb, if_pos h1, if_pos h2, e1]; exact ha2
        · simp only [impl_changesTo.l0, if_pos t1, if_pos t2, hb, if_pos (show (c.toNat : Int) = before by omega), e1]; exact hb2
      · have e : out ++ edgesL lv before i (c :: (bs s).drop (i + 1)) = out ++ [(i : Int)] ++ edgesL lv (c.toNat : Int) (i + 1) ((bs s).drop (i + 1)) := by simp [edgesL, h1, h2]
        rw [e]
        refine ⟨Ev.succ ?_, Ev.succ ?_⟩
        · simp only [spec_l01Edges.l0, if_pos t1, if_pos t2, hb, if_pos h1, if_neg h2, if_pos t3, e1]; exact ha1
        · simp only [impl_changesTo.l0, if_pos t1, if_pos t2, hb, if_neg (show ¬ (c.toNat : Int) = before by omega), if_pos h1, if_pos t3, e1]; exact hb1
    · have e : out ++ edgesL lv before i (c :: (bs s).drop (i + 1)) = out ++ edgesL lv (c.toNat : Int) (i + 1) ((bs s).drop (i + 1)) := by simp [edgesL, h1]
      rw [e]
      refine ⟨Ev.succ ?_, Ev.succ ?_⟩
      · simp only [spec_l01Edges.l0, if_pos t1, if_pos t2, hb, if_neg h1, e1]; exact ha2
      · by_cases h3 : (c.toNat : Int) = before
        · simp only [impl_changesTo.l0, if_pos t1, if_pos t2, hb, if_pos h3, e1]; exact hb2
        · simp only [impl_changesTo.l0, if_pos t1, if_pos t2, hb, if_neg h3, if_neg h1, e1]; exact hb2
def edges (lv : Int) (s : ByteArray) : List Int := edgesL lv 48 0 (bs s)
theorem edges_length (lv : Int) (s : ByteArray) : (edges lv s).length ≤ s.size := by
  have := edgesL_length lv (bs s) 48 0
  rw [bs_len] at this
  exact this
theorem specEdges_ev {s : ByteArray} (hs : s.size < 1099511627776) (lv : Int) : Ev (fun k => spec_l01Edges.f k s lv) (edges lv s) := by
  have h := (edges_loops s hs lv s.size 0 48 [] (by omega) (by rw [List.length_nil]; omega)).1
  rw [List.nil_append, List.drop_zero] at h
  exact h
theorem changes_ev {s : ByteArray} (hs : s.size < 1099511627776) (lv : Int) : Ev (fun k => impl_changesTo.f k s lv) (edges lv s) := by
  have h := (edges_loops s hs lv s.size 0 48 [] (by omega) (by rw [List.length_nil]; omega)).2
  rw [List.nil_append, List.drop_zero] at h
  exact h
end Go.Proofs.YtkhkmdddflaolaaDoor.P
