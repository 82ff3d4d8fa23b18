/- The states at which a spike comes: the program's loop and the reference's come to the same list, told in numbers. The bits are at most 8. -/
import Derived.Test.YtbfbihgahkgllaaP4
import Derived.Test.YtbfbihgahkgllaaP5
import Derived.Test.YtbfbihgahkgllaaP7
import Derived.Test.YtbfbihgahkgllaaRipple
namespace Go.Proofs.Ytbfbihgahkgllaa.P
open Go.RowKit Go.Proofs.YtbfbihgahkgllaaW.PrintWords Go.Proofs.YtbfbihgahkgllaaW.PrintLast Go.Proofs.YtbfbihgahkgllaaW.PrintMore

theorem index_loop (l : List Int) (v : Int) (hl : l.length < 1152921504606846976) (d : Nat) : ∀ i : Nat, i + d = l.length → (∀ j : Nat, j < i → rd l (j : Int) ≠ v) →
    ∃ r : Int, Ev (fun k => slices_Index_int64_int64.l0 k l v (l.length : Int) (i : Int)) r ∧ decide (r ≥ 0) = l.contains v := by
  have hin : l.contains v = true ↔ ∃ j : Nat, j < l.length ∧ rd l (j : Int) = v := by
    rw [List.contains_iff_mem, List.mem_iff_getElem]
    constructor
    · rintro ⟨j, hj, e⟩; exact ⟨j, hj, (rd_at l j hj).trans e⟩
    · rintro ⟨j, hj, e⟩; exact ⟨j, hj, (rd_at l j hj).symm.trans e⟩
  induction d with
  | zero =>
    intro i hi hn
    refine ⟨-1, Ev.succ ?_, ?_⟩
    · simp only [slices_Index_int64_int64.l0, if_neg (show ¬ (i : Int) < (l.length : Int) by omega)]
      exact Ev.now _
    · rw [show decide ((-1 : Int) ≥ 0) = false by decide]
      refine (Bool.eq_false_iff.mpr fun h => ?_).symm
      obtain ⟨j, hj, e⟩ := hin.mp h
      exact hn j (by omega) e
  | succ d ih =>
    intro i hi hn
    by_cases hv : v = rd l (i : Int)
    · refine ⟨(i : Int), Ev.succ ?_, ?_⟩
      · simp only [slices_Index_int64_int64.l0, if_pos (show (i : Int) < (l.length : Int) by omega), if_pos (show (0 : Int) ≤ (i : Int) by omega), if_pos hv]
        exact Ev.now _
      · rw [hin.mpr ⟨i, by omega, hv.symm⟩]
        exact decide_eq_true (by omega)
    · obtain ⟨r, h1, h2⟩ := ih (i + 1) (by omega) (fun j hj => by
        by_cases e : j = i
        · rw [e]; exact fun z => hv z.symm
        · exact hn j (by omega))
      refine ⟨r, Ev.succ ?_, h2⟩
      simp only [slices_Index_int64_int64.l0, if_pos (show (i : Int) < (l.length : Int) by omega), if_pos (show (0 : Int) ≤ (i : Int) by omega), if_neg hv]
      rw [show (i : Int) + 1 = ((i + 1 : Nat) : Int) by omega, w64 (by omega) (by omega)]
      exact h1
theorem contains_ev {l : List Int} {v : Int} (hl : l.length < 1152921504606846976) : Ev (fun k => slices_Contains_int64_int64.f k l v) (l.contains v) := by
  obtain ⟨r, h1, h2⟩ := index_loop l v hl l.length 0 (by omega) (fun j hj => by omega)
  unfold slices_Contains_int64_int64.f
  exact Ev.bind h1 (Ev.const (by rw [h2]))
theorem has_loop (l : List Int) (v : Int) (hl : l.length < 1152921504606846976) (d : Nat) : ∀ i : Nat, i + d = l.length → (∀ j : Nat, j < i → rd l (j : Int) ≠ v) →
    Ev (fun k => spec_l00Has.l0 k l v (i : Int)) (l.contains v) := by
  have hin : l.contains v = true ↔ ∃ j : Nat, j < l.length ∧ rd l (j : Int) = v := by
    rw [List.contains_iff_mem, List.mem_iff_getElem]
    constructor
    · rintro ⟨j, hj, e⟩; exact ⟨j, hj, (rd_at l j hj).trans e⟩
    · rintro ⟨j, hj, e⟩; exact ⟨j, hj, (rd_at l j hj).symm.trans e⟩
  induction d with
  | zero =>
    intro i hi hn
    refine Ev.succ ?_
    simp only [spec_l00Has.l0, if_neg (show ¬ (i : Int) < (l.length : Int) by omega)]
    refine Ev.const (congrArg some ?_)
    refine (Bool.eq_false_iff.mpr fun h => ?_).symm
    obtain ⟨j, hj, e⟩ := hin.mp h
    exact hn j (by omega) e
  | succ d ih =>
    intro i hi hn
    refine Ev.succ ?_
    by_cases hv : rd l (i : Int) = v
    · simp only [spec_l00Has.l0, if_pos (show (i : Int) < (l.length : Int) by omega), if_pos (show (0 : Int) ≤ (i : Int) by omega), if_pos hv]
      exact Ev.const (by rw [hin.mpr ⟨i, by omega, hv⟩])
    · simp only [spec_l00Has.l0, if_pos (show (i : Int) < (l.length : Int) by omega), if_pos (show (0 : Int) ≤ (i : Int) by omega), if_neg hv]
      rw [show (i : Int) + 1 = ((i + 1 : Nat) : Int) by omega, w64 (by omega) (by omega)]
      exact ih (i + 1) (by omega) (fun j hj => by
        by_cases e : j = i
        · rw [e]; exact hv
        · exact hn j (by omega))
theorem has_ev {l : List Int} {v : Int} (hl : l.length < 1152921504606846976) : Ev (fun k => spec_l00Has.f k l v) (l.contains v) :=
  has_loop l v hl l.length 0 (by omega) (fun j hj => by omega)

/-- Does the ripple from x go through v before its end. -/
def spikeAt (b : Nat) (v : Int) (x : Nat) : Bool := ((rip b x 0).take ((rip b x 0).length - 1)).contains v
/-- From x on, d states: those at which there is a spike. -/
def spikes (b : Nat) (v : Int) : Nat → Nat → List Int
  | 0, _ => []
  | d + 1, x => (if spikeAt b v x = true then [(x : Int)] else []) ++ spikes b v d (x + 1)
theorem spikes_length (b : Nat) (v : Int) (d : Nat) : ∀ x, (spikes b v d x).length ≤ d := by
  induction d with
  | zero => intro x; simp [spikes]
  | succ d ih =>
    intro x
    have := ih (x + 1)
    simp only [spikes, List.length_append]
    split <;> simp <;> omega
theorem spikes_mem (b : Nat) (v : Int) (d : Nat) : ∀ (x y : Nat), ((y : Int) ∈ spikes b v d x) ↔ (x ≤ y ∧ y < x + d ∧ spikeAt b v y = true) := by
  induction d with
  | zero => intro x y; simp [spikes]; omega
  | succ d ih =>
    intro x y
    simp only [spikes, List.mem_append, ih (x + 1) y]
    by_cases e : y = x
    · subst e
      by_cases hs : spikeAt b v y = true
      · simp [hs]
      · simp [hs]
    · have hne : ¬ ((y : Int) = (x : Int)) := by omega
      have h1 : ((y : Int) ∈ if spikeAt b v x = true then [(x : Int)] else []) ↔ False := by
        split <;> simp [hne]
      rw [h1, false_or]
      constructor <;> (rintro ⟨a, b, c⟩; exact ⟨by omega, by omega, c⟩)
theorem take_last {l : List Int} (h1 : 1 ≤ l.length) (h2 : l.length < 1000) : wrap64 ((l.length : Int) - 1) = ((l.length - 1 : Nat) : Int) := by
  rw [w64 (by omega) (by omega)]; omega
theorem spikes_loops (b : Nat) (hb0 : 1 ≤ b) (hb : b ≤ 8) (v : Int) (d : Nat) : ∀ (x : Nat) (out : List Int), x + d ≤ 256 → out.length + d < 17592186044416 → x + d = 2 ^ b →
    Ev (fun k => impl_SpikesOf.l0 k (b : Int) v out ((x + d : Nat) : Int) (x : Int)) (out ++ spikes b v d x, true) ∧
    Ev (fun k => spec_SpikesOf.l0 k (b : Int) v out (x : Int)) (out ++ spikes b v d x, true) := by
  have hsz := fun (x d : Nat) (h : x + d = 2 ^ b) => (size_form (b := (b : Int)) ⟨by omega, by omega⟩).trans (congrArg some (show (2 : Int) ^ ((b : Int)).toNat = ((x + d : Nat) : Int) by rw [h, Int.toNat_natCast, pow_cast]))
  induction d with
  | zero =>
    intro x out hx ho hp
    refine ⟨Ev.succ ?_, Ev.succ ?_⟩
    · simp only [impl_SpikesOf.l0, Nat.add_zero, Int.lt_irrefl, if_false]
      exact Ev.const (by simp [spikes])
    · simp only [spec_SpikesOf.l0, hsz x 0 hp, Nat.add_zero, Option.bind_some, Int.lt_irrefl, if_false]
      exact Ev.const (by simp [spikes])
  | succ d ih =>
    intro x out hx ho hp
    have hlt : (x : Int) < ((x + (d + 1) : Nat) : Int) := by omega
    obtain ⟨b', rfl⟩ : ∃ m, b = m + 1 := ⟨b - 1, by omega⟩
    have hr1 := rip_pos b' x 0
    have hr2 := rip_length (b' + 1) x 0
    have et := take_last hr1 (by omega)
    have h0 : (0 : Int) ≤ (((rip (b' + 1) x 0).length - 1 : Nat) : Int) := by omega
    have h1 : (((rip (b' + 1) x 0).length - 1 : Nat) : Int) ≤ ((rip (b' + 1) x 0).length : Int) := by omega
    have hl : out.length < 17592186044416 := by omega
    have e6 : wrap64 ((x : Int) + 1) = ((x + 1 : Nat) : Int) := by rw [w64 (by omega) (by omega)]; omega
    have e7 : x + (d + 1) = x + 1 + d := by omega
    have hlen : ((rip (b' + 1) x 0).take ((rip (b' + 1) x 0).length - 1)).length < 1152921504606846976 := by rw [List.length_take]; omega
    refine ⟨Ev.succ ?_, Ev.succ ?_⟩
    · simp only [impl_SpikesOf.l0, if_pos hlt]
      refine Ev.bind (ripple_ev (by omega) (by omega)) ?_
      simp only [et, if_pos h0, if_pos h1, Int.toNat_natCast]
      refine Ev.bind (contains_ev hlen) ?_
      have hc : ((rip (b' + 1) x 0).take ((rip (b' + 1) x 0).length - 1)).contains v = spikeAt (b' + 1) v x := rfl
      by_cases hs : spikeAt (b' + 1) v x = true
      · simp only [hc, hs, if_true, if_pos hl, e6]
        rw [e7]
        refine Ev.eq (ih (x + 1) (out ++ [(x : Int)]) (by omega) (by rw [List.length_append, List.length_singleton]; omega) (by omega)).1 ?_
        simp [spikes, hs]
      · simp only [hc, hs, e6]
        rw [e7]
        refine Ev.eq (ih (x + 1) out (by omega) (by omega) (by omega)).1 ?_
        simp [spikes, hs]
    · simp only [spec_SpikesOf.l0, hsz x (d + 1) hp, Option.bind_some, if_pos hlt]
      refine Ev.bind (specRipple_ev (by omega) (by omega)) ?_
      simp only [et, if_pos h0, if_pos h1, Int.toNat_natCast]
      refine Ev.bind (has_ev hlen) ?_
      have hc : ((rip (b' + 1) x 0).take ((rip (b' + 1) x 0).length - 1)).contains v = spikeAt (b' + 1) v x := rfl
      by_cases hs : spikeAt (b' + 1) v x = true
      · simp only [hc, hs, if_true, if_pos hl, e6]
        refine Ev.eq (ih (x + 1) (out ++ [(x : Int)]) (by omega) (by rw [List.length_append, List.length_singleton]; omega) (by omega)).2 ?_
        simp [spikes, hs]
      · simp only [hc, hs, e6]
        refine Ev.eq (ih (x + 1) out (by omega) (by omega) (by omega)).2 ?_
        simp [spikes, hs]
theorem pow_256n {b : Nat} (hb : b ≤ 8) : 2 ^ b ≤ 256 := Nat.pow_le_pow_right (by omega) hb
theorem spikesOf_ev {b : Nat} (h1 : 1 ≤ b) (h2 : b ≤ 8) {v : Int} (hv : isSt b v) : Ev (fun k => impl_SpikesOf.f k (b : Int) v) (spikes b v (2 ^ b) 0, true) ∧ Ev (fun k => spec_SpikesOf.f k (b : Int) v) (spikes b v (2 ^ b) 0, true) := by
  have hp := pow_256n h2
  obtain ⟨ha, hb⟩ := spikes_loops b h1 h2 v (2 ^ b) 0 [] (by omega) (by rw [List.length_nil]; omega) (by omega)
  rw [Nat.zero_add, List.nil_append] at ha
  rw [List.nil_append] at hb
  constructor
  · unfold impl_SpikesOf.f
    simp only [isStateOf_form, hv, decide_true, Option.bind_some, if_true, if_pos (show (0 : Int) ≤ (b : Int) by omega)]
    rw [shl1 (by omega) (by omega), Int.toNat_natCast, pow_cast]
    exact ha
  · unfold spec_SpikesOf.f
    simp only [state_form, hv, decide_true, Option.bind_some, if_true]
    exact hb
end Go.Proofs.Ytbfbihgahkgllaa.P
