/- Closed forms: a set of ticks, what a list holds, two equal lists, the ticks of a wave's changes to a level. Plain laws on lists; no condition. -/
import Derived.Test.YtkhkmdddflaolaaFromLaw
import Derived.Test.YtkhkmdddflaolaaWaveOf
import Derived.Test.YtkhkmdddflaolaaForms
import Derived.Test.YtkhkmdddflaolaaP2
import Derived.Test.YtkhkmdddflaolaaP3
import Derived.Test.YtkhkmdddflaolaaP4
import Derived.Test.YtkhkmdddflaolaaP5
import Derived.Test.YtkhkmdddflaolaaBase
namespace Go.Proofs.Ytkhkmdddflaolaa.P
open Go.RowKit Go.Proofs.YtkhkmdddflaolaaW.PrintWords Go.Proofs.YtkhkmdddflaolaaW.PrintLast Go.Proofs.YtkhkmdddflaolaaW.PrintMore
set_option linter.unusedVariables false
set_option linter.unusedSimpArgs false

def stepB (l : List Int) (hi : Int) (i : Nat) : Bool := decide (0 ≤ rd l (i : Int) ∧ rd l (i : Int) ≤ hi) && (decide (i = 0) || decide (rd l ((i - 1 : Nat) : Int) < rd l (i : Int)))
def setG (l : List Int) (hi : Int) : Nat → Nat → Bool
  | 0, _ => true
  | d + 1, i => stepB l hi i && setG l hi d (i + 1)
def setB (l : List Int) (hi : Int) : Bool := setG l hi l.length 0
theorem setG_iff (l : List Int) (hi : Int) (d : Nat) : ∀ i, setG l hi d i = true → ∀ j, i ≤ j → j < i + d → stepB l hi j = true := by
  induction d with
  | zero => intro i _ j h1 h2; omega
  | succ d ih =>
    intro i h j h1 h2
    rw [setG, Bool.and_eq_true] at h
    by_cases hj : j = i
    · rw [hj]; exact h.1
    · exact ih (i + 1) h.2 j (by omega) (by omega)
theorem setB_step {l : List Int} {hi : Int} (h : setB l hi = true) (j : Nat) (hj : j < l.length) : (0 ≤ l[j] ∧ l[j] ≤ hi) ∧ (∀ h0 : 0 < j, l[j - 1] < l[j]) := by
  have hs := setG_iff l hi l.length 0 h j (by omega) (by omega)
  unfold stepB at hs
  rw [rd_at l j hj, Bool.and_eq_true, decide_eq_true_eq, Bool.or_eq_true, decide_eq_true_eq, decide_eq_true_eq] at hs
  refine ⟨hs.1, fun h0 => ?_⟩
  rcases hs.2 with h1 | h1
  · omega
  · rw [rd_at l (j - 1) (by omega)] at h1; exact h1
theorem setB_lt {l : List Int} {hi : Int} (h : setB l hi = true) (k : Nat) : ∀ i (h2 : i + k + 1 < l.length), l[i] < l[i + k + 1] := by
  induction k with
  | zero => intro i h2; exact (setB_step h (i + 1) h2).2 (by omega)
  | succ k ih =>
    intro i h2
    have h3 := ih i (by omega)
    have h4 := (setB_step h (i + k + 1 + 1) (by omega)).2 (by omega)
    have e : i + (k + 1) + 1 = i + k + 1 + 1 := by omega
    simp only [e]
    simp only [Nat.add_sub_cancel] at h4
    omega
theorem setB_rising {l : List Int} {hi : Int} (h : setB l hi = true) : rising l := by
  unfold rising
  rw [List.pairwise_iff_getElem]
  intro i j h1 h2 hij
  obtain ⟨k, rfl⟩ : ∃ k, j = i + k + 1 := ⟨j - i - 1, by omega⟩
  exact setB_lt h k i h2
theorem setB_bound {l : List Int} {hi : Int} (h : setB l hi = true) : ∀ x ∈ l, 0 ≤ x ∧ x ≤ hi := by
  intro x hx
  obtain ⟨j, hj, rfl⟩ := List.mem_iff_getElem.mp hx
  exact (setB_step h j hj).1
theorem isSet_loop (l : List Int) (hi : Int) (hl : l.length ≤ 1048576) (d : Nat) : ∀ i : Nat, i + d = l.length → Ev (fun k => impl_isSet.l0 k l 0 hi l (l.length : Int) (i : Int)) (setG l hi d i) := by
  induction d with
  | zero =>
    intro i h
    refine Ev.succ ?_
    simp only [impl_isSet.l0, if_neg (show ¬ (i : Int) < (l.length : Int) by omega)]
    exact Ev.now _
  | succ d ih =>
    intro i h
    refine Ev.succ ?_
    have e1 : wrap64 ((i : Int) + 1) = ((i + 1 : Nat) : Int) := by rw [w64 (by omega) (by omega)]; omega
    have hn := ih (i + 1) (by omega)
    simp only [impl_isSet.l0, if_pos (show (i : Int) < (l.length : Int) by omega), if_pos (show (0 : Int) ≤ (i : Int) by omega), within_form, Option.bind_some, e1, setG, stepB]
    by_cases hw : 0 ≤ rd l (i : Int) ∧ rd l (i : Int) ≤ hi
    · simp only [hw, and_self, decide_true, if_true, Bool.true_and]
      by_cases h0 : i = 0
      · simp only [if_neg (show ¬ (i : Int) > 0 by omega), h0, decide_true, Bool.true_or, Bool.true_and]
        simp only [h0] at hn
        exact hn
      · have e2 : wrap64 ((i : Int) - 1) = ((i - 1 : Nat) : Int) := by rw [w64 (by omega) (by omega)]; omega
        simp only [if_pos (show (i : Int) > 0 by omega), e2, if_pos (show (0 : Int) ≤ ((i - 1 : Nat) : Int) by omega), if_pos (show ((i - 1 : Nat) : Int) < (l.length : Int) by omega), h0, decide_false, Bool.false_or]
        by_cases hr : rd l ((i - 1 : Nat) : Int) < rd l (i : Int)
        · simp only [if_neg (show ¬ rd l ((i - 1 : Nat) : Int) ≥ rd l (i : Int) by omega), hr, decide_true, Bool.true_and]
          exact hn
        · simp only [if_pos (show rd l ((i - 1 : Nat) : Int) ≥ rd l (i : Int) by omega), hr, decide_false, Bool.false_and]
          exact Ev.now _
    · simp only [hw, decide_false, Bool.false_eq_true, if_false, Bool.false_and]
      exact Ev.now _
theorem isSet_ev {l : List Int} {hi : Int} (hl : l.length ≤ 1048576) : Ev (fun k => impl_isSet.f k l 0 hi) (setB l hi) := by
  unfold impl_isSet.f
  exact isSet_loop l hi hl l.length 0 (by omega)

def hasG (l : List Int) (x : Int) : Nat → Nat → Bool
  | 0, _ => false
  | d + 1, i => decide (rd l (i : Int) = x) || hasG l x d (i + 1)
theorem hasG_iff (l : List Int) (x : Int) (d : Nat) : ∀ i, hasG l x d i = true ↔ ∃ j, i ≤ j ∧ j < i + d ∧ rd l (j : Int) = x := by
  induction d with
  | zero =>
    intro i
    constructor
    · intro h; cases h
    · rintro ⟨j, h1, h2, _⟩; omega
  | succ d ih =>
    intro i
    rw [hasG, Bool.or_eq_true, decide_eq_true_eq, ih (i + 1)]
    constructor
    · rintro (h | ⟨j, h1, h2, h3⟩)
      · exact ⟨i, by omega, by omega, h⟩
      · exact ⟨j, by omega, by omega, h3⟩
    · rintro ⟨j, h1, h2, h3⟩
      by_cases hj : j = i
      · exact .inl (hj ▸ h3)
      · exact .inr ⟨j, by omega, by omega, h3⟩
theorem hasG_mem (l : List Int) (x : Int) : hasG l x l.length 0 = decide (x ∈ l) := by
  rw [Bool.eq_iff_iff, hasG_iff, decide_eq_true_eq]
  constructor
  · rintro ⟨j, _, h2, h3⟩
    rw [rd_at l j (by omega)] at h3
    rw [← h3]; exact List.getElem_mem _
  · intro h
    obtain ⟨j, hj, e⟩ := List.mem_iff_getElem.mp h
    exact ⟨j, by omega, by omega, by rw [rd_at l j hj]; exact e⟩
theorem index_loop (l : List Int) (x : Int) (hl : l.length ≤ 1048576) (d : Nat) : ∀ i : Nat, i + d = l.length → ∃ r, Ev (fun k => slices_Index_int64_int64.l0 k l x (l.length : Int) (i : Int)) r ∧ decide (r ≥ 0) = hasG l x d i := by
  induction d with
  | zero =>
    intro i h
    refine ⟨-1, Ev.succ ?_, rfl⟩
    simp only [slices_Index_int64_int64.l0, if_neg (show ¬ (i : Int) < (l.length : Int) by omega)]
    exact Ev.now _
  | succ d ih =>
    intro i h
    have e1 : wrap64 ((i : Int) + 1) = ((i + 1 : Nat) : Int) := by rw [w64 (by omega) (by omega)]; omega
    by_cases hx : x = rd l (i : Int)
    · refine ⟨(i : Int), Ev.succ ?_, ?_⟩
      · simp only [slices_Index_int64_int64.l0, if_pos (show (i : Int) < (l.length : Int) by omega), if_pos (show (0 : Int) ≤ (i : Int) by omega), if_pos hx]
        exact Ev.now _
      · rw [hasG, decide_eq_true hx.symm, Bool.true_or, decide_eq_true_eq]; omega
    · obtain ⟨r, h1, h2⟩ := ih (i + 1) (by omega)
      refine ⟨r, Ev.succ ?_, ?_⟩
      · simp only [slices_Index_int64_int64.l0, if_pos (show (i : Int) < (l.length : Int) by omega), if_pos (show (0 : Int) ≤ (i : Int) by omega), if_neg hx, e1]
        exact h1
      · rw [hasG, h2, decide_eq_false (show ¬ rd l (i : Int) = x from fun h => hx h.symm), Bool.false_or]
theorem contains_ev {l : List Int} {x : Int} (hl : l.length ≤ 1048576) : Ev (fun k => slices_Contains_int64_int64.f k l x) (decide (x ∈ l)) := by
  unfold slices_Contains_int64_int64.f slices_Index_int64_int64.f
  obtain ⟨r, h1, h2⟩ := index_loop l x hl l.length 0 (by omega)
  refine Ev.bind h1 ?_
  rw [h2, hasG_mem]
  exact Ev.now _

def eqG (a b : List Int) : Nat → Nat → Bool
  | 0, _ => true
  | d + 1, i => decide (rd a (i : Int) = rd b (i : Int)) && eqG a b d (i + 1)
theorem eqG_iff (a b : List Int) (d : Nat) : ∀ i, eqG a b d i = true ↔ ∀ j, i ≤ j → j < i + d → rd a (j : Int) = rd b (j : Int) := by
  induction d with
  | zero => intro i; exact ⟨fun _ j h1 h2 => by omega, fun _ => rfl⟩
  | succ d ih =>
    intro i
    rw [eqG, Bool.and_eq_true, decide_eq_true_eq, ih (i + 1)]
    constructor
    · rintro ⟨h1, h2⟩ j h3 h4
      by_cases hj : j = i
      · rw [hj]; exact h1
      · exact h2 j (by omega) (by omega)
    · intro h
      exact ⟨h i (by omega) (by omega), fun j h3 h4 => h j (by omega) (by omega)⟩
theorem eqG_eq {a b : List Int} (h : a.length = b.length) : eqG a b a.length 0 = decide (a = b) := by
  rw [Bool.eq_iff_iff, eqG_iff, decide_eq_true_eq]
  constructor
  · intro h1
    refine List.ext_getElem h (fun j h2 h3 => ?_)
    have := h1 j (by omega) (by omega)
    rw [rd_at a j h2, rd_at b j h3] at this
    exact this
  · rintro rfl j _ _; rfl
theorem equal_loop (a b : List Int) (hl : a.length ≤ 1048576) (h : a.length = b.length) (d : Nat) : ∀ i : Nat, i + d = a.length → Ev (fun k => slices_Equal_int64_int64.l0 k a b (a.length : Int) (i : Int)) (eqG a b d i) := by
  induction d with
  | zero =>
    intro i hi
    refine Ev.succ ?_
    simp only [slices_Equal_int64_int64.l0, if_neg (show ¬ (i : Int) < (a.length : Int) by omega)]
    exact Ev.now _
  | succ d ih =>
    intro i hi
    refine Ev.succ ?_
    have e1 : wrap64 ((i : Int) + 1) = ((i + 1 : Nat) : Int) := by rw [w64 (by omega) (by omega)]; omega
    have hn := ih (i + 1) (by omega)
    simp only [slices_Equal_int64_int64.l0, if_pos (show (i : Int) < (a.length : Int) by omega), if_pos (show (0 : Int) ≤ (i : Int) by omega), if_pos (show (i : Int) < (b.length : Int) by omega), e1, eqG]
    by_cases hx : rd a (i : Int) = rd b (i : Int)
    · simp only [hx, if_true, decide_true, Bool.true_and]
      exact hn
    · simp only [hx, if_false, decide_false, Bool.false_and]
      exact Ev.now _
theorem equal_ev {a b : List Int} (hl : a.length ≤ 1048576) : Ev (fun k => slices_Equal_int64_int64.f k a b) (decide (a = b)) := by
  unfold slices_Equal_int64_int64.f
  by_cases h : a.length = b.length
  · simp only [if_pos (show (a.length : Int) = (b.length : Int) by omega)]
    rw [← eqG_eq h]
    exact equal_loop a b hl h a.length 0 (by omega)
  · simp only [if_neg (show ¬ (a.length : Int) = (b.length : Int) by omega)]
    rw [decide_eq_false (fun e => h (congrArg List.length e))]
    exact Ev.now _

theorem levels_get (bit : Nat → Bool) (n : Nat) : ∀ j, j < n → (levels bit n)[j]? = some (if bit j = true then 49 else 48) := by
  induction n with
  | zero => intro j h; omega
  | succ n ih =>
    intro j h
    rw [levels]
    by_cases hj : j < n
    · rw [List.getElem?_append_left (by rw [levels_length]; exact hj), ih j hj]
    · obtain rfl : j = n := by omega
      rw [List.getElem?_append_right (by rw [levels_length]; exact Nat.le_refl _), levels_length, Nat.sub_self]
      rfl
theorem waveStr_size (bit : Nat → Bool) (n : Nat) : (waveStr bit n).size = n := by
  unfold waveStr
  rw [strOfNums_size, levels_length]
theorem wave_bt (bit : Nat → Bool) (n j : Nat) (h : j < n) : bt (waveStr bit n) (j : Int) = if bit j = true then 49 else 48 := by
  have hs : (waveStr bit n).size = n := waveStr_size bit n
  unfold bt
  rw [Int.toNat_natCast, dif_pos (by omega)]
  have hl : j < (levels bit n).length := by rw [levels_length]; exact h
  have e : (waveStr bit n)[j]'(by omega) = UInt8.ofNat ((levels bit n)[j]).toNat := by
    show (waveStr bit n).data[j]'_ = _
    simp [waveStr, strOfNums]
  have e2 := levels_get bit n j h
  rw [List.getElem?_eq_getElem hl] at e2
  rw [e, Option.some.inj e2]
  split <;> rfl
def lvB (b : Bool) : Int := if b = true then 49 else 48
theorem chg_loop (lev : Nat → Bool) (n : Nat) (hn : n ≤ 400) (t : Bool) (d : Nat) : ∀ i : Nat, i + d = n →
    Ev (fun k => impl_changesTo.l0 k (waveStr (fun i => lev (i + 1)) n) (lvB t) (collect (fun i => lev (i + 1) != lev i && (lev (i + 1) == t)) i) (lvB (lev i)) ((waveStr (fun i => lev (i + 1)) n).size : Int) (i : Int)) (collect (fun i => lev (i + 1) != lev i && (lev (i + 1) == t)) n) := by
  have hsz : (waveStr (fun i => lev (i + 1)) n).size = n := waveStr_size _ n
  induction d with
  | zero =>
    intro i hi
    refine Ev.succ ?_
    obtain rfl : i = n := by omega
    simp only [impl_changesTo.l0, hsz, Int.lt_irrefl, if_false]
    exact Ev.now _
  | succ d ih =>
    intro i hi
    refine Ev.succ ?_
    have e1 : wrap64 ((i : Int) + 1) = ((i + 1 : Nat) : Int) := by rw [w64 (by omega) (by omega)]; omega
    have hb : bt (waveStr (fun i => lev (i + 1)) n) (i : Int) = lvB (lev (i + 1)) := wave_bt (fun i => lev (i + 1)) n i (by omega)
    have hl : (collect (fun i => lev (i + 1) != lev i && (lev (i + 1) == t)) i).length < 17592186044416 := by
      have := collect_length (fun i => lev (i + 1) != lev i && (lev (i + 1) == t)) i; omega
    have hnx := ih (i + 1) (by omega)
    rw [collect] at hnx
    simp only [hsz] at hnx ⊢
    simp only [impl_changesTo.l0, hsz, if_pos (show (i : Int) < (n : Int) by omega), if_pos (show (0 : Int) ≤ (i : Int) by omega), hb, e1, if_pos hl]
    cases h1 : lev (i + 1) <;> cases h2 : lev i <;> cases t <;> simp [h1, h2, lvB] at hnx ⊢ <;> exact hnx
theorem chg_ev (lev : Nat → Bool) (h0 : lev 0 = false) (n : Nat) (hn : n ≤ 400) (t : Bool) (p : Nat → Bool) (hp : ∀ i, p i = (lev (i + 1) != lev i && (lev (i + 1) == t))) :
    Ev (fun k => impl_changesTo.f k (waveStr (fun i => lev (i + 1)) n) (lvB t)) (collect p n) := by
  have h := chg_loop lev n hn t n 0 (by omega)
  rw [h0] at h
  obtain rfl : p = fun i => lev (i + 1) != lev i && (lev (i + 1) == t) := funext hp
  unfold impl_changesTo.f
  exact h
theorem ups_ev (u d : List Int) (n : Nat) (hn : n ≤ 400) : Ev (fun k => impl_changesTo.f k (waveStr (fun i => levU u d (i + 1)) n) 49) (collect (upAt u d) n) :=
  chg_ev (levU u d) rfl n hn true _ (fun i => by unfold upAt; cases levU u d (i + 1) <;> cases levU u d i <;> rfl)
theorem downs_ev (u d : List Int) (n : Nat) (hn : n ≤ 400) : Ev (fun k => impl_changesTo.f k (waveStr (fun i => levU u d (i + 1)) n) 48) (collect (downAt u d) n) :=
  chg_ev (levU u d) rfl n hn false _ (fun i => by unfold downAt; cases levU u d (i + 1) <;> cases levU u d i <;> rfl)
end Go.Proofs.Ytkhkmdddflaolaa.P
