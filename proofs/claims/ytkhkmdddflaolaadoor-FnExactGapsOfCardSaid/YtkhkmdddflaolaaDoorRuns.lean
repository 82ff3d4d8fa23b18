/- The lengths of a text's runs between separators: as the program tells them (it splits the text and counts the pieces that are not empty). -/
import Derived.Test.YtkhkmdddflaolaaDoorP47
import Derived.Test.YtkhkmdddflaolaaDoorExtSplit
import Derived.Test.YtkhkmdddflaolaaDoorWave
namespace Go.Proofs.YtkhkmdddflaolaaDoor.P
open Go.RowKit Go.Proofs.YtkhkmdddflaolaaDoorW.PrintWords Go.Proofs.YtkhkmdddflaolaaDoorW.PrintLast Go.Proofs.YtkhkmdddflaolaaDoorW.PrintMore

/-- The runs' lengths, c bytes of a run already seen. -/
def runsL (sep : UInt8) : Nat → List UInt8 → List Int
  | c, [] => if 0 < c then [(c : Int)] else []
  | c, x :: l => if x = sep then (if 0 < c then [(c : Int)] else []) ++ runsL sep 0 l else runsL sep (c + 1) l
def addHead (c : Nat) : List Nat → List Nat
  | [] => []
  | h :: t => (c + h) :: t
theorem addHead_zero (l : List Nat) : addHead 0 l = l := by cases l <;> simp [addHead]
theorem addHead_add (a b : Nat) (l : List Nat) : addHead a (addHead b l) = addHead (a + b) l := by cases l <;> simp [addHead, Nat.add_assoc]
def lens (ps : List (List UInt8)) : List Nat := ps.map List.length
def posI (l : List Nat) : List Int := (l.filter fun n => decide (0 < n)).map fun n : Nat => (n : Int)
theorem posI_cons (p : ByteArray) (l : List ByteArray) : posI ((p :: l).map fun q => q.size) = (if 0 < p.size then [(p.size : Int)] else []) ++ posI (l.map fun q => q.size) := by
  simp only [posI, List.map_cons, List.filter_cons, decide_eq_true_eq]
  split <;> simp
theorem splitK_miss (sep x : UInt8) (h : x ≠ sep) (k : Nat) (m : List UInt8) : lens (Lib.splitK [sep] 0 k (x :: m)) = addHead 1 (lens (Lib.splitK [sep] 0 k m)) := by
  cases k with
  | zero => simp [Lib.splitK, lens, addHead, Nat.add_comm]
  | succ k =>
    have hg := Lib.indexByte_ge m sep
    have hx : (x == sep) = false := by simpa using h
    unfold Lib.splitK
    rw [Lib.index_one, Lib.index_one]
    by_cases h1 : Lib.indexByte m sep = -1
    · have h2 : Lib.indexByte (x :: m) sep = -1 := by simp [Lib.indexByte, hx, h1]
      simp [h1, h2, lens, addHead, Nat.add_comm]
    · have h2 : Lib.indexByte (x :: m) sep = Lib.indexByte m sep + 1 := by simp [Lib.indexByte, hx, h1]
      obtain ⟨j, hj⟩ := Int.eq_ofNat_of_zero_le (show 0 ≤ Lib.indexByte m sep by omega)
      have h3 : ((j : Int) == -1) = false := beq_eq_false_iff_ne.mpr (by omega)
      have h4 : ((j : Int) + 1 == -1) = false := beq_eq_false_iff_ne.mpr (by omega)
      have h5 : ((j : Int) + 1).toNat = j + 1 := by omega
      rw [h2, hj]
      have h6 : (x :: m).drop (j + 1 + [sep].length) = m.drop (j + [sep].length) := by simp
      simp only [h3, h4, h5, Bool.false_eq_true, if_false, Int.toNat_natCast, lens, List.map_cons, addHead, h6, Nat.add_zero, List.take_succ_cons]
      rw [List.length_cons, Nat.add_comm]
theorem splitK_hit (sep : UInt8) (k : Nat) (m : List UInt8) : lens (Lib.splitK [sep] 0 (k + 1) (sep :: m)) = 0 :: lens (Lib.splitK [sep] 0 k m) := by
  have h2 : Lib.indexByte (sep :: m) sep = 0 := by simp [Lib.indexByte]
  rw [Lib.splitK, Lib.index_one, h2]
  simp [lens]
theorem lens_runs (sep : UInt8) (l : List UInt8) : ∀ c, posI (addHead c (lens (Lib.splitK [sep] 0 (l.count sep) l))) = runsL sep c l := by
  induction l with
  | nil => intro c; simp [Lib.splitK, lens, addHead, posI, runsL]; split <;> simp [*] <;> omega
  | cons x m ih =>
    intro c
    by_cases h : x = sep
    · subst h
      rw [List.count_cons_self, splitK_hit, runsL, if_pos rfl, ← ih 0, addHead_zero]
      simp only [addHead, Nat.add_zero, posI]
      by_cases hc : 0 < c
      · simp [hc]
      · simp [hc]
    · rw [List.count_cons_of_ne h, splitK_miss _ _ h, addHead_add, runsL, if_neg h, ih]
theorem pieces_lens (s : ByteArray) (b : UInt8) : (Lib.splitB ⟨#[b]⟩ 0 (Lib.countB s ⟨#[b]⟩) s).map (fun p => p.size) = lens (Lib.splitK [b] 0 ((bs s).count b) (bs s)) := by
  have h := Lib.splitB_data ⟨#[b]⟩ 0 (Lib.countB s ⟨#[b]⟩) s
  have e : Lib.countB s ⟨#[b]⟩ = (bs s).count b := Lib.count_one b (bs s)
  rw [e] at h ⊢
  unfold lens
  rw [show Lib.splitK [b] 0 ((bs s).count b) (bs s) = _ from h.symm, List.map_map]
  rfl
theorem lengths_loop (ps : List ByteArray) (hp : ps.length ≤ 2097152) (d : Nat) : ∀ (i : Nat) (out : List Int), i + d = ps.length → out.length + d ≤ 2097152 →
    Ev (fun k => impl_lengthsOf.l0 k out ps (ps.length : Int) (i : Int)) (out ++ posI ((ps.drop i).map fun p => p.size)) := by
  induction d with
  | zero =>
    intro i out hi ho
    refine Ev.succ ?_
    rw [List.drop_eq_nil_of_le (by omega)]
    simp only [impl_lengthsOf.l0, if_neg (show ¬ (i : Int) < (ps.length : Int) by omega)]
    exact Ev.const (by simp [posI])
  | succ d ih =>
    intro i out hi ho
    refine Ev.succ ?_
    have hlt : i < ps.length := by omega
    have e1 : wrap64 ((i : Int) + 1) = ((i + 1 : Nat) : Int) := by rw [w64 (by omega) (by omega)]; omega
    have er : rdOf ByteArray.empty ps (i : Int) = ps[i] := by simp [rdOf, List.getD_eq_getElem?_getD, List.getElem?_eq_getElem hlt]
    rw [List.drop_eq_getElem_cons hlt]
    simp only [impl_lengthsOf.l0, if_pos (show (i : Int) < (ps.length : Int) by omega), if_pos (show (0 : Int) ≤ (i : Int) by omega), er, e1, if_pos (show out.length < 17592186044416 by omega)]
    by_cases hz : 0 < ps[i].size
    · simp only [if_pos (show ((ps[i].size : Nat) : Int) > 0 by omega)]
      have h := ih (i + 1) (out ++ [(ps[i].size : Int)]) (by omega) (by rw [List.length_append, List.length_singleton]; omega)
      have e : out ++ posI ((ps[i] :: ps.drop (i + 1)).map fun p => p.size) = out ++ [(ps[i].size : Int)] ++ posI ((ps.drop (i + 1)).map fun p => p.size) := by rw [posI_cons, if_pos hz, List.append_assoc]
      rw [e]
      exact h
    · simp only [if_neg (show ¬ ((ps[i].size : Nat) : Int) > 0 by omega)]
      have h := ih (i + 1) out (by omega) (by omega)
      have e : out ++ posI ((ps[i] :: ps.drop (i + 1)).map fun p => p.size) = out ++ posI ((ps.drop (i + 1)).map fun p => p.size) := by rw [posI_cons, if_neg hz, List.nil_append]
      rw [e]
      exact h
theorem runsL_length (sep : UInt8) (l : List UInt8) : ∀ c, (runsL sep c l).length ≤ l.length + 1 := by
  induction l with
  | nil => intro c; simp only [runsL]; split <;> simp
  | cons x l ih =>
    intro c
    have h0 := ih 0
    have h1 := ih (c + 1)
    simp only [runsL, List.length_cons]
    split
    · rw [List.length_append]; split <;> simp <;> omega
    · omega
theorem lengthsOf_ev {s : ByteArray} (hs : s.size ≤ 1048576) (b : UInt8) : Ev (fun k => impl_lengthsOf.f k s ⟨#[b]⟩) (runsL b 0 (bs s)) := by
  have h1 : 1 ≤ (⟨#[b]⟩ : ByteArray).size := Nat.le_refl 1
  have hlen := Lib.splitB_all ⟨#[b]⟩ h1 0 _ s rfl
  have hle := Lib.countB_le ⟨#[b]⟩ h1 s.size s (Nat.le_refl _)
  have h := lengths_loop (Lib.splitB ⟨#[b]⟩ 0 (Lib.countB s ⟨#[b]⟩) s) (by omega) _ 0 [] (by rw [Nat.zero_add]) (by rw [List.length_nil]; omega)
  rw [List.nil_append, List.drop_zero, pieces_lens, ← addHead_zero (lens _), lens_runs] at h
  unfold impl_lengthsOf.f strings_Split.f
  simp only [if_pos (show s.size ≤ 1048576 ∧ (⟨#[b]⟩ : ByteArray).size = 1 from ⟨hs, rfl⟩), Option.bind_some]
  exact h
end Go.Proofs.YtkhkmdddflaolaaDoor.P
