/- The program's GapsOf returns what the reference's returns, for all arguments; no condition. -/
import Derived.Test.YtkhkmdddflaolaaDoorP50
import Derived.Test.YtkhkmdddflaolaaDoorP51
import Derived.Test.YtkhkmdddflaolaaDoorP52
import Derived.Test.YtkhkmdddflaolaaDoorP53
import Derived.Test.YtkhkmdddflaolaaDoorRuns
import Derived.Test.YtkhkmdddflaolaaDoorEdges
import Derived.Test.YtkhkmdddflaolaaDoorLists
namespace Go.Proofs.YtkhkmdddflaolaaDoor.Pure
open Go.RowKit Go.Proofs.YtkhkmdddflaolaaDoorW.PrintWords Go.Proofs.YtkhkmdddflaolaaDoorW.PrintLast Go.Proofs.YtkhkmdddflaolaaDoorW.PrintMore
open Go.Proofs.YtkhkmdddflaolaaDoor.P

theorem wave_size {s : ByteArray} (h : waveOk s = true) : s.size ≤ 400 := by
  unfold waveOk at h
  rw [Bool.and_eq_true, decide_eq_true_eq] at h
  exact h.1
/-- The gaps behind a level of one: c zeros seen since. -/
def gapsZ : Nat → List UInt8 → List Int
  | _, [] => []
  | c, x :: l => if x = 49 then (if 0 < c then [(c : Int)] else []) ++ gapsZ 0 l else gapsZ (c + 1) l
/-- Before any level of one. -/
def gapsN : List UInt8 → List Int
  | [] => []
  | x :: l => if x = 49 then gapsZ 0 l else gapsN l
def bits (l : List UInt8) : Prop := ∀ x ∈ l, x = 48 ∨ x = 49
theorem bits_tail {x : UInt8} {l : List UInt8} (h : bits (x :: l)) : bits l := fun y hy => h y (List.mem_cons_of_mem _ hy)
theorem trimR_cons (x : UInt8) (l : List UInt8) : Lib.trimRightS (x :: l) [48] = if Lib.trimRightS l [48] = [] ∧ x = 48 then [] else x :: Lib.trimRightS l [48] := by
  unfold Lib.trimRightS
  rw [List.reverse_cons, List.dropWhile_append]
  cases hd : l.reverse.dropWhile (([48] : List UInt8).contains ·) with
  | nil =>
    by_cases hx : x = 48
    · subst hx; simp
    · simp [hx]
  | cons a t => simp
theorem gapsZ_zeros (l : List UInt8) : Lib.trimRightS l [48] = [] → ∀ c, gapsZ c l = [] := by
  induction l with
  | nil => intro _ c; rfl
  | cons x l ih =>
    intro h c
    rw [trimR_cons] at h
    split at h
    · rename_i hc
      rw [gapsZ, if_neg (by rw [hc.2]; decide), ih hc.1]
    · cases h
theorem runs_gaps (l : List UInt8) (hb : bits l) : Lib.trimRightS l [48] ≠ [] → ∀ c, runsL 49 c (Lib.trimRightS l [48]) = gapsZ c l := by
  induction l with
  | nil => intro h; exact absurd (by simp [Lib.trimRightS]) h
  | cons x l ih =>
    intro h c
    rw [trimR_cons] at h ⊢
    split
    · rename_i hc; rw [if_pos hc] at h; exact absurd rfl h
    · rename_i hc
      by_cases hl : Lib.trimRightS l [48] = []
      · have hx : x = 49 := by
          rcases hb x (List.mem_cons_self) with h1 | h1
          · exact absurd ⟨hl, h1⟩ hc
          · exact h1
        rw [hl, runsL, if_pos hx, gapsZ, if_pos hx, gapsZ_zeros l hl]
        rfl
      · rw [runsL, gapsZ, ih (bits_tail hb) hl, ih (bits_tail hb) hl]
theorem trim_gaps (l : List UInt8) (hb : bits l) : runsL 49 0 (Lib.trimS l [48]) = gapsN l := by
  unfold Lib.trimS
  induction l with
  | nil => rfl
  | cons x l ih =>
    rcases hb x (List.mem_cons_self) with h1 | h1
    · rw [gapsN, if_neg (by rw [h1]; decide), ← ih (bits_tail hb), trimR_cons]
      split
      · rename_i hc; rw [hc.1]
      · have e : Lib.trimLeftS (x :: Lib.trimRightS l [48]) [48] = Lib.trimLeftS (Lib.trimRightS l [48]) [48] := by simp [Lib.trimLeftS, h1]
        rw [e]
    · rw [gapsN, if_pos h1, trimR_cons, if_neg (by rw [h1]; simp)]
      have e : Lib.trimLeftS (x :: Lib.trimRightS l [48]) [48] = x :: Lib.trimRightS l [48] := by simp [Lib.trimLeftS, h1]
      rw [e, runsL, if_pos h1, if_neg (Nat.lt_irrefl 0), List.nil_append]
      by_cases hl : Lib.trimRightS l [48] = []
      · rw [hl, gapsZ_zeros l hl]; rfl
      · exact runs_gaps l (bits_tail hb) hl 0

/-- The reference's differences. -/
def diffs (U D : List Int) : List Int := List.zipWith (fun u d => u - d) U D
theorem e49 : (49 : UInt8).toNat = 49 := rfl
theorem e48 : (48 : UInt8).toNat = 48 := rfl
theorem edges_gaps (l : List UInt8) (hb : bits l) : ∀ i : Nat,
    (diffs (edgesL 49 49 i l) (edgesL 48 49 i l) = gapsZ 0 l ∧ (edgesL 49 49 i l).length ≤ (edgesL 48 49 i l).length) ∧
    (∀ c : Nat, 0 < c → diffs (edgesL 49 48 i l) (((i : Int) - (c : Int)) :: edgesL 48 48 i l) = gapsZ c l ∧ (edgesL 49 48 i l).length ≤ (edgesL 48 48 i l).length + 1) ∧
    (diffs (edgesL 49 48 i l).tail (edgesL 48 48 i l) = gapsN l ∧ (edgesL 49 48 i l).length ≤ (edgesL 48 48 i l).length + 1) := by
  induction l with
  | nil => intro i; simp [edgesL, diffs, gapsZ, gapsN]
  | cons x l ih =>
    intro i
    obtain ⟨⟨a1, a2⟩, b, c1, c2⟩ := ih (bits_tail hb) (i + 1)
    rcases hb x (List.mem_cons_self) with h1 | h1
    · subst h1
      have n49 : ¬ (48 : UInt8) = 49 := by decide
      refine ⟨?_, ?_, ?_⟩
      · obtain ⟨b1, b2⟩ := b 1 (by omega)
        have e : ((i + 1 : Nat) : Int) - ((1 : Nat) : Int) = (i : Int) := by omega
        rw [e] at b1
        refine ⟨?_, ?_⟩
        · rw [gapsZ, if_neg n49]; simpa [edgesL] using b1
        · simpa [edgesL] using b2
      · intro c hc
        obtain ⟨b1, b2⟩ := b (c + 1) (by omega)
        have e : ((i + 1 : Nat) : Int) - ((c + 1 : Nat) : Int) = (i : Int) - (c : Int) := by omega
        rw [e] at b1
        refine ⟨?_, ?_⟩
        · rw [gapsZ, if_neg n49]; simpa [edgesL] using b1
        · simpa [edgesL] using b2
      · refine ⟨?_, ?_⟩
        · rw [gapsN, if_neg n49]; simpa [edgesL] using c1
        · simpa [edgesL] using c2
    · subst h1
      refine ⟨?_, ?_, ?_⟩
      · refine ⟨?_, ?_⟩
        · rw [gapsZ, if_pos rfl, if_neg (Nat.lt_irrefl 0), List.nil_append]; simpa [edgesL] using a1
        · simpa [edgesL] using a2
      · intro c hc
        refine ⟨?_, ?_⟩
        · rw [gapsZ, if_pos rfl, if_pos hc, ← a1]
          simp [edgesL, diffs]
          omega
        · simpa [edgesL] using a2
      · refine ⟨?_, ?_⟩
        · rw [gapsN, if_pos rfl, ← a1]; simp [edgesL]
        · simpa [edgesL] using a2
theorem edgesL_bound (lv : Int) (l : List UInt8) : ∀ (b : Int) (i : Nat) (x : Int), x ∈ edgesL lv b i l → 0 ≤ x ∧ x ≤ (i : Int) + (l.length : Int) := by
  induction l with
  | nil => intro b i x h; simp [edgesL] at h
  | cons c l ih =>
    intro b i x h
    rw [edgesL, List.mem_append] at h
    rw [List.length_cons]
    rcases h with h | h
    · split at h
      · rw [List.mem_singleton] at h; omega
      · cases h
    · have := ih _ _ _ h; omega
theorem gaps_loop (U D : List Int) (hU : U.length ≤ 1000) (hD : U.length ≤ D.length + 1) (bU : ∀ x ∈ U, 0 ≤ x ∧ x ≤ 1000) (bD : ∀ x ∈ D, 0 ≤ x ∧ x ≤ 1000) (d : Nat) : ∀ (j : Nat) (out : List Int), j + d = U.length → out.length + d ≤ 2000 → 1 ≤ j →
    Ev (fun k => spec_l01Gaps.l0 k U D out (j : Int)) (out ++ diffs (U.drop j) (D.drop (j - 1))) := by
  induction d with
  | zero =>
    intro j out hj ho h1
    refine Ev.succ ?_
    rw [List.drop_eq_nil_of_le (show U.length ≤ j by omega)]
    simp only [spec_l01Gaps.l0, if_neg (show ¬ (j : Int) < (U.length : Int) by omega)]
    exact Ev.const (by simp [diffs])
  | succ d ih =>
    intro j out hj ho h1
    refine Ev.succ ?_
    have hu : j < U.length := by omega
    have hd : j - 1 < D.length := by omega
    have e1 : wrap64 ((j : Int) + 1) = ((j + 1 : Nat) : Int) := by rw [w64 (by omega) (by omega)]; omega
    have e2 : wrap64 ((j : Int) - 1) = ((j - 1 : Nat) : Int) := by rw [w64 (by omega) (by omega)]; omega
    have r1 : rd U (j : Int) = U[j] := rd_at U j hu
    have r2 : rd D ((j - 1 : Nat) : Int) = D[j - 1] := rd_at D (j - 1) hd
    have x1 := bU _ (List.getElem_mem hu)
    have x2 := bD _ (List.getElem_mem hd)
    have e3 : wrap64 (U[j] - D[j - 1]) = U[j] - D[j - 1] := w64 (by omega) (by omega)
    rw [List.drop_eq_getElem_cons hu, List.drop_eq_getElem_cons hd]
    simp only [spec_l01Gaps.l0, if_pos (show (j : Int) < (U.length : Int) by omega), if_pos (show (0 : Int) ≤ (j : Int) by omega), e2, if_pos (show (0 : Int) ≤ ((j - 1 : Nat) : Int) by omega), if_pos (show ((j - 1 : Nat) : Int) < (D.length : Int) by omega), if_pos (show out.length < 17592186044416 by omega), r1, r2, e3, e1]
    have h := ih (j + 1) (out ++ [U[j] - D[j - 1]]) (by omega) (by rw [List.length_append, List.length_singleton]; omega) (by omega)
    rw [Nat.add_sub_cancel] at h
    rw [show j - 1 + 1 = j by omega]
    rw [List.append_assoc] at h
    exact h
theorem wave_bits {s : ByteArray} (h : waveOk s = true) : bits (bs s) := by
  intro x hx
  unfold waveOk at h
  rw [Bool.and_eq_true, List.all_eq_true] at h
  have := h.2 x hx
  unfold isLevel at this
  rw [Bool.or_eq_true, beq_iff_eq, beq_iff_eq] at this
  rcases this with h | h
  · exact .inl (UInt8.toNat_inj.mp h)
  · exact .inr (UInt8.toNat_inj.mp h)
theorem specGaps_ev {s : ByteArray} (hw : waveOk s = true) : Ev (fun k => spec_l01Gaps.f k s) (gapsN (bs s)) := by
  have h4 := wave_size hw
  obtain ⟨_, _, g1, g2⟩ := edges_gaps (bs s) (wave_bits hw) 0
  unfold spec_l01Gaps.f
  refine Ev.bind (specEdges_ev (by omega) 49) (Ev.bind (specEdges_ev (by omega) 48) ?_)
  have hl : (edges 49 s).length ≤ s.size := edges_length 49 s
  have hg : (edges 49 s).length ≤ (edges 48 s).length + 1 := g2
  have bU : ∀ lv, ∀ x ∈ edges lv s, 0 ≤ x ∧ x ≤ 1000 := by
    intro lv x hx
    have := edgesL_bound lv (bs s) 48 0 x hx
    rw [bs_len] at this
    omega
  by_cases h0 : (edges 49 s).length = 0
  · have he : edges 49 s = [] := List.length_eq_zero_iff.mp h0
    have hn : gapsN (bs s) = [] := by
      rw [← g1]
      have : edgesL 49 48 0 (bs s) = [] := he
      rw [this]; rfl
    rw [hn, he]
    refine Ev.succ ?_
    simp only [spec_l01Gaps.l0, List.length_nil]
    exact Ev.const (by simp)
  · have h := gaps_loop (edges 49 s) (edges 48 s) (by omega) hg (bU 49) (bU 48) ((edges 49 s).length - 1) 1 [] (by omega) (by rw [List.length_nil]; omega) (Nat.le_refl 1)
    rw [List.nil_append, Nat.sub_self, List.drop_zero, List.drop_one] at h
    have e : diffs (edges 49 s).tail (edges 48 s) = gapsN (bs s) := g1
    rw [e] at h
    exact h
theorem gaps_both {s : ByteArray} (hs : s.size ≤ 1048576) : ∃ l q, l.length < 1152921504606846 ∧ Ev (fun k => spec_GapsOf.f k s) (l, q) ∧ Ev (fun k => impl_GapsOf.f k s) (l, q) := by
  unfold spec_GapsOf.f impl_GapsOf.f
  simp only [isWave_form (show s.size ≤ 9223372036854775807 by omega), Option.bind_some]
  by_cases hw : waveOk s = true
  · have h4 := wave_size hw
    have ht : strings_Trim.f s ⟨#[48]⟩ = some ⟨(Lib.trimS (bs s) [48]).toArray⟩ := by
      unfold strings_Trim.f
      rw [if_pos ⟨by omega, by decide, by decide⟩]
    have hlt : (Lib.trimS (bs s) [48]).length ≤ s.size := by
      unfold Lib.trimS Lib.trimRightS Lib.trimLeftS
      refine Nat.le_trans ((List.dropWhile_sublist _).length_le) ?_
      rw [List.length_reverse]
      refine Nat.le_trans ((List.dropWhile_sublist _).length_le) ?_
      rw [List.length_reverse, bs_len]
      exact Nat.le_refl _
    have hsz : (⟨(Lib.trimS (bs s) [48]).toArray⟩ : ByteArray).size ≤ 1048576 := by
      have : (⟨(Lib.trimS (bs s) [48]).toArray⟩ : ByteArray).size = (Lib.trimS (bs s) [48]).length := by simp [ByteArray.size]
      omega
    have hr := lengthsOf_ev hsz 49
    have hbs : bs (⟨(Lib.trimS (bs s) [48]).toArray⟩ : ByteArray) = Lib.trimS (bs s) [48] := rfl
    rw [hbs, trim_gaps _ (wave_bits hw)] at hr
    have hl := runsL_length 49 (Lib.trimS (bs s) [48]) 0
    rw [trim_gaps _ (wave_bits hw)] at hl
    refine ⟨gapsN (bs s), true, by omega, Ev.bind (specWave_ev (by omega)) ?_, ?_⟩
    · simp only [hw, if_true]; exact Ev.bind (specGaps_ev hw) (Ev.now _)
    · simp only [hw, if_true, ht, Option.bind_some]; exact Ev.bind hr (Ev.now _)
  · refine ⟨[], false, by simp, Ev.bind (specWave_ev (by omega)) ?_, ?_⟩
    · simp only [hw, Bool.false_eq_true, if_false]; exact Ev.now _
    · simp only [hw, Bool.false_eq_true, if_false]; exact Ev.now _

theorem FnExactGapsOf : laws_FnExactGapsOf.Pure := by
  intro s hs
  apply Ev.rounds
  unfold laws_FnExactGapsOf.f
  by_cases hlong : (s.size : Int) > 1048576
  · simp only [if_pos hlong]; exact Ev.now _
  simp only [if_neg hlong]
  obtain ⟨l, q, hl, h1, h2⟩ := gaps_both (s := s) (by omega)
  refine Ev.bind h1 (Ev.bind h2 (Ev.bind (eqS_ev (l := l) (by omega)) ?_))
  simp only [if_true, bne_self_eq_false]
  refine Ev.succ ?_
  simp only [laws_FnExactGapsOf.j0, Bool.false_eq_true, if_false]
  refine Ev.bind (mark_ev (by omega) (by omega)) (Ev.bind (held_ev (by omega) (by omega)) ?_)
  simp only [if_neg (show ¬ (1 + (l.length : Int)) < 0 by omega), if_true]
  refine Ev.bind h2 (Ev.bind (eqS_ev (l := l) (by omega)) ?_)
  simp only [if_true, bne_self_eq_false]
  refine Ev.succ ?_
  simp only [laws_FnExactGapsOf.j1, Bool.false_eq_true, if_false]
  refine Ev.bind (held_ev (by omega) (by omega)) ?_
  simp only [if_neg (show ¬ (1 + (l.length : Int)) < 0 by omega), if_true]
  exact Ev.now _
end Go.Proofs.YtkhkmdddflaolaaDoor.Pure
