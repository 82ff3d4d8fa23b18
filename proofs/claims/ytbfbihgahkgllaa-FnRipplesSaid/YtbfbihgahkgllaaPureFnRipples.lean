/- A ripple changes one bit after another from the least one on, ends at the next state, and a state is one of the spikes' states exactly if its ripple goes through the watched one; no condition. -/
import Derived.Test.YtbfbihgahkgllaaP4
import Derived.Test.YtbfbihgahkgllaaP5
import Derived.Test.YtbfbihgahkgllaaSpikes
namespace Go.Proofs.Ytbfbihgahkgllaa.Pure
open Go.RowKit Go.Proofs.YtbfbihgahkgllaaW.PrintWords Go.Proofs.YtbfbihgahkgllaaW.PrintLast Go.Proofs.YtbfbihgahkgllaaW.PrintMore
open Go.Proofs.Ytbfbihgahkgllaa.P

theorem has8_loop (l : List Int) (v : Int) (hl : l.length < 1152921504606846976) (d : Nat) : ∀ i : Nat, i + d = l.length → (∀ j : Nat, j < i → rd l (j : Int) ≠ v) →
    Ev (fun k => laws_r8Has.l0 k l v (i : Int)) (l.contains v) := by
  have hin : l.contains v = true ↔ ∃ j : Nat, j < l.length ∧ rd l (j : Int) = v := by
    rw [List.contains_iff_mem, List.mem_iff_getElem]
    constructor
    · rintro ⟨j, hj, e⟩; exact ⟨j, hj, (rd_at l j hj).trans e⟩
    · rintro ⟨j, hj, e⟩; exact ⟨j, hj, (rd_at l j hj).symm.trans e⟩
  induction d with
  | zero =>
    intro i hi hn
    refine Ev.succ ?_
    simp only [laws_r8Has.l0, if_neg (show ¬ (i : Int) < (l.length : Int) by omega)]
    refine Ev.const (congrArg some ?_)
    refine (Bool.eq_false_iff.mpr fun h => ?_).symm
    obtain ⟨j, hj, e⟩ := hin.mp h
    exact hn j (by omega) e
  | succ d ih =>
    intro i hi hn
    refine Ev.succ ?_
    by_cases hv : rd l (i : Int) = v
    · simp only [laws_r8Has.l0, if_pos (show (i : Int) < (l.length : Int) by omega), if_pos (show (0 : Int) ≤ (i : Int) by omega), if_pos hv]
      exact Ev.const (by rw [hin.mpr ⟨i, by omega, hv⟩])
    · simp only [laws_r8Has.l0, if_pos (show (i : Int) < (l.length : Int) by omega), if_pos (show (0 : Int) ≤ (i : Int) by omega), if_neg hv]
      rw [show (i : Int) + 1 = ((i + 1 : Nat) : Int) by omega, w64 (by omega) (by omega)]
      exact ih (i + 1) (by omega) (fun j hj => by
        by_cases e : j = i
        · rw [e]; exact hv
        · exact hn j (by omega))
theorem has8_ev {l : List Int} {v : Int} (hl : l.length < 1152921504606846976) : Ev (fun k => laws_r8Has.f k l v) (l.contains v) :=
  has8_loop l v hl l.length 0 (by omega) (fun j hj => by omega)

theorem at8_form (l : List Int) (hl : ∀ x ∈ l, (Lit.int .u8 x).wf = true) (i n : Int) (hi : 0 ≤ i) (hn : 1 ≤ n) (hn2 : n ≤ 1000) : ∃ r, laws_r8At.f l i n = some r ∧ 0 ≤ r ∧ r < n := by
  unfold laws_r8At.f
  by_cases h1 : n ≤ 1
  · exact ⟨0, by rw [if_pos h1], by omega, by omega⟩
  rw [if_neg h1]
  by_cases h2 : i ≥ (l.length : Int)
  · exact ⟨0, by rw [if_pos h2], by omega, by omega⟩
  rw [if_neg h2, if_pos hi, if_pos (by omega), if_neg (by omega)]
  obtain ⟨j, rfl⟩ := Int.eq_ofNat_of_zero_le hi
  have hj : j < l.length := by omega
  have hx := Go.bounds_u8 (hl l[j] (List.getElem_mem hj))
  have e : rd l ((j : Nat) : Int) = l[j] := rd_at l j hj
  refine ⟨_, rfl, ?_, ?_⟩
  · rw [e, w64 (by omega) (by omega)]; exact Int.tmod_nonneg _ (by omega)
  · rw [e, w64 (by omega) (by omega)]; exact Int.tmod_lt_of_pos _ (by omega)

set_option maxRecDepth 100000 in
theorem rip_last_table : ∀ b : Fin 9, ∀ x : Fin 256, 1 ≤ b.val → x.val < 2 ^ b.val → (ripN b.val x.val 0).getLast? = some ((x.val + 1) % 2 ^ b.val) := by decide +kernel
theorem rip_last {b x : Nat} (h1 : 1 ≤ b) (h2 : b ≤ 8) (hx : x < 2 ^ b) : rd (rip b x 0) (((rip b x 0).length - 1 : Nat) : Int) = (((x + 1) % 2 ^ b : Nat) : Int) := by
  have hp := pow_256n h2
  have h := rip_last_table ⟨b, by omega⟩ ⟨x, by omega⟩ h1 hx
  have hl : (rip b x 0).getLast? = some (((x + 1) % 2 ^ b : Nat) : Int) := by
    unfold rip
    rw [List.getLast?_map, h]
    rfl
  rw [List.getLast?_eq_getElem?] at hl
  unfold rd
  rw [Int.toNat_natCast, List.getD_eq_getElem?_getD, hl]
  rfl

theorem rip_loop (from_ : Nat) (v : Int) (sp : List Int) (hsp : sp.length < 1152921504606846976) (d : Nat) : ∀ (x i : Nat) (pre : List Int) (t : Bool), pre.length = i → i + d ≤ 60 → x < 4611686018427387904 →
    Ev (fun k => laws_FnRipples.l0 k (from_ : Int) v (pre ++ rip d x i) sp (x : Int) t (i : Int)) (sp.contains (from_ : Int) == (t || ((rip d x i).take ((rip d x i).length - 1)).contains v)) := by
  induction d with
  | zero =>
    intro x i pre t hpre hi hx
    refine Ev.succ ?_
    have e : rip 0 x i = [] := rfl
    simp only [laws_FnRipples.l0, e, List.append_nil, hpre, Int.lt_irrefl, if_false]
    refine Ev.bind (has8_ev hsp) (Ev.const ?_)
    simp
  | succ d ih =>
    intro x i pre t hpre hi hx
    refine Ev.succ ?_
    have hpow : 2 ^ i < 4611686018427387904 := Nat.lt_of_lt_of_le (Nat.pow_lt_pow_right (by omega) (show i < 61 by omega)) (by decide)
    have hy : x ^^^ 2 ^ i < 4611686018427387904 := Nat.xor_lt_two_pow (n := 62) hx hpow
    have hk : i + 1 + d ≤ 60 := by clear hpow hy; omega
    have hrl := rip_length (d + 1) x i
    have hrp := rip_pos d x i
    have hget : rd (pre ++ rip (d + 1) x i) (i : Int) = ((x ^^^ 2 ^ i : Nat) : Int) := by
      unfold rd
      rw [Int.toNat_natCast, List.getD_eq_getElem?_getD, List.getElem?_append_right (by omega), hpre, Nat.sub_self, rip_step]
      split <;> rfl
    have hlen : (pre ++ rip (d + 1) x i).length = i + (rip (d + 1) x i).length := by rw [List.length_append, hpre]
    have h1 : (i : Int) < ((pre ++ rip (d + 1) x i).length : Int) := by rw [hlen]; omega
    have h0 : (0 : Int) ≤ (i : Int) := by omega
    have e2 : IntKind.u64.wrap (i : Int) = (i : Int) := wu64 (by omega) (by omega)
    have e1 : shl .i64 1 (i : Int) = ((2 ^ i : Nat) : Int) := by rw [shl1 (by omega) (by omega), Int.toNat_natCast, pow_cast]
    have e3 : Go.bits .xor .i64 ((x ^^^ 2 ^ i : Nat) : Int) (x : Int) = ((2 ^ i : Nat) : Int) := by
      rw [xor_i64 _ _ (by omega) (by omega), Nat.xor_comm (x ^^^ 2 ^ i) x, ← Nat.xor_assoc, Nat.xor_self, Nat.zero_xor]
    have e6 : wrap64 ((i : Int) + 1) = ((i + 1 : Nat) : Int) := by rw [w64 (by omega) (by omega)]; omega
    simp only [laws_FnRipples.l0, if_pos h1, if_pos h0, e2, e1, hget, e3, if_true, e6]
    by_cases hb1 : (x ^^^ 2 ^ i) / 2 ^ i % 2 = 1
    · -- the last one
      have hr : rip (d + 1) x i = [((x ^^^ 2 ^ i : Nat) : Int)] := by rw [rip_step, if_pos hb1]
      have hn : ¬ ((i + 1 : Nat) : Int) < ((pre ++ rip (d + 1) x i).length : Int) := by rw [hlen, hr, List.length_singleton]; omega
      have hend : ∀ (y : Int) (t : Bool), Ev (fun k => laws_FnRipples.l0 k (from_ : Int) v (pre ++ rip (d + 1) x i) sp y t ((i + 1 : Nat) : Int)) (sp.contains (from_ : Int) == t) := by
        intro y t
        refine Ev.succ ?_
        simp only [laws_FnRipples.l0, if_neg hn]
        exact Ev.bind (has8_ev hsp) (Ev.now _)
      cases t with
      | true =>
        simp only [if_true]
        refine Ev.eq (hend _ true) ?_
        simp
      | false =>
        simp only [if_neg hn, Bool.false_eq_true, if_false]
        refine Ev.eq (hend _ false) ?_
        rw [hr]
        simp
    · have hr : rip (d + 1) x i = ((x ^^^ 2 ^ i : Nat) : Int) :: rip d (x ^^^ 2 ^ i) (i + 1) := by rw [rip_step, if_neg hb1]
      have hnext := fun (t : Bool) => ih (x ^^^ 2 ^ i) (i + 1) (pre ++ [((x ^^^ 2 ^ i : Nat) : Int)]) t (by rw [List.length_append, List.length_singleton, hpre]) hk hy
      simp only [List.append_assoc, List.singleton_append, ← hr] at hnext
      cases t with
      | true =>
        simp only [if_true]
        refine Ev.eq (hnext true) ?_
        simp
      | false =>
        simp only [Bool.false_eq_true, if_false]
        by_cases hn : ((i + 1 : Nat) : Int) < ((pre ++ rip (d + 1) x i).length : Int)
        · simp only [if_pos hn]
          refine Ev.eq (hnext _) ?_
          have hd : 1 ≤ (rip d (x ^^^ 2 ^ i) (i + 1)).length := by
            rw [hlen, hr, List.length_cons] at hn; omega
          rw [hr, List.length_cons, Nat.add_sub_cancel, Bool.false_or]
          obtain ⟨m, hm⟩ : ∃ m, (rip d (x ^^^ 2 ^ i) (i + 1)).length = m + 1 := ⟨_, (Nat.sub_add_cancel hd).symm⟩
          rw [hm, Nat.add_sub_cancel, List.take_succ_cons, List.contains_cons]
          congr 2
          rw [Bool.eq_iff_iff]
          simp only [beq_iff_eq]
          exact eq_comm
        · simp only [if_neg hn]
          refine Ev.eq (hnext _) ?_
          have hd : (rip d (x ^^^ 2 ^ i) (i + 1)).length = 0 := by
            rw [hlen, hr, List.length_cons] at hn; omega
          rw [hr, List.length_cons, hd, List.eq_nil_of_length_eq_zero hd]
          simp

theorem FnRipples : laws_FnRipples.Pure := by
  intro l0 l1 _ _ hw0 _ _ hw1
  apply Ev.rounds
  unfold laws_FnRipples.f laws_r8Long.f
  by_cases hlong : (l0.length : Int) > 48
  · simp only [if_pos hlong, Option.bind_some, if_true]; exact Ev.now _
  simp only [if_neg hlong, Option.bind_some]
  by_cases hlong1 : (l1.length : Int) > 48
  · simp only [decide_eq_true hlong1, if_true]; exact Ev.now _
  simp only [decide_eq_false hlong1, Bool.false_eq_true, if_false]
  obtain ⟨r, hr, hr0, hr6⟩ := at8_form l0 hw0 0 6 (by omega) (by omega) (by omega)
  simp only [hr, Option.bind_some]
  obtain ⟨b, hb⟩ : ∃ b : Nat, wrap64 (1 + r) = (b : Int) := ⟨(1 + r).toNat, by rw [w64 (by omega) (by omega)]; omega⟩
  have hb1 : 1 ≤ b ∧ b ≤ 6 := by rw [w64 (by omega) (by omega)] at hb; omega
  have hp := pow_256n (show b ≤ 8 by omega)
  have hp1 : 1 ≤ 2 ^ b := Nat.one_le_two_pow
  have hu : IntKind.u64.wrap (b : Int) = (b : Int) := wu64 (by omega) (by omega)
  have hs : shl .i64 1 (b : Int) = ((2 ^ b : Nat) : Int) := by rw [shl1 (by omega) (by omega), Int.toNat_natCast, pow_cast]
  simp only [hb, hu, hs, if_pos (show (0 : Int) ≤ (b : Int) by omega)]
  obtain ⟨q, hq, hq0, hq1⟩ := at8_form l1 hw1 0 ((2 ^ b : Nat) : Int) (by omega) (by omega) (by omega)
  obtain ⟨v, hv, hv0, hv1⟩ := at8_form l1 hw1 1 ((2 ^ b : Nat) : Int) (by omega) (by omega) (by omega)
  simp only [hq, hv, Option.bind_some]
  obtain ⟨x, rfl⟩ := Int.eq_ofNat_of_zero_le hq0
  have hx : x < 2 ^ b := by omega
  have hsx : isSt (b : Int) (x : Int) := ⟨by omega, by omega, by rw [Int.toNat_natCast, pow_cast]; omega⟩
  have hsv : isSt (b : Int) v := ⟨by omega, by omega, by rw [Int.toNat_natCast, pow_cast]; omega⟩
  refine Ev.bind (a := (rip b x 0, true)) ?_ ?_
  · unfold impl_RippleStates.f
    simp only [isStateOf_form, hsx, decide_true, Option.bind_some, if_true]
    exact Ev.bind (ripple_ev (by omega) (by omega)) (Ev.now _)
  refine Ev.bind (spikesOf_ev hb1.1 (by omega) hsv).1 ?_
  obtain ⟨b', rfl⟩ : ∃ m, b = m + 1 := ⟨b - 1, by omega⟩
  have hrl := rip_length (b' + 1) x 0
  have hrp := rip_pos b' x 0
  have hlast := rip_last hb1.1 (by omega) hx
  have et := take_last hrp (by omega)
  have hm : Int.tmod (wrap64 ((x : Int) + 1)) ((2 ^ (b' + 1) : Nat) : Int) = (((x + 1) % 2 ^ (b' + 1) : Nat) : Int) := by
    rw [w64 (by omega) (by omega), Int.tmod_eq_emod_of_nonneg (by omega), show (x : Int) + 1 = ((x + 1 : Nat) : Int) by omega]
    exact (Int.natCast_emod _ _).symm
  simp only [if_true, if_neg (show ¬ ((rip (b' + 1) x 0).length : Int) = 0 by omega), if_neg (show ¬ ((rip (b' + 1) x 0).length : Int) > ((b' + 1 : Nat) : Int) by omega), et,
    if_pos (show (0 : Int) ≤ (((rip (b' + 1) x 0).length - 1 : Nat) : Int) by omega), if_pos (show (((rip (b' + 1) x 0).length - 1 : Nat) : Int) < ((rip (b' + 1) x 0).length : Int) by omega),
    if_neg (show ¬ ((2 ^ (b' + 1) : Nat) : Int) = 0 by omega), hlast, hm, bne_self_eq_false]
  refine Ev.succ ?_
  simp only [laws_FnRipples.j0, Bool.false_eq_true, if_false]
  have hsl := spikes_length (b' + 1) v (2 ^ (b' + 1)) 0
  refine Ev.eq (rip_loop x v (spikes (b' + 1) v (2 ^ (b' + 1)) 0) (by omega) (b' + 1) x 0 [] false rfl (by omega) (by omega)) ?_
  have hmem := spikes_mem (b' + 1) v (2 ^ (b' + 1)) 0 x
  rw [beq_iff_eq, Bool.false_or, Bool.eq_iff_iff, List.contains_iff_mem, hmem]
  exact ⟨fun h => h.2.2, fun h => ⟨by omega, by omega, h⟩⟩
end Go.Proofs.Ytbfbihgahkgllaa.Pure
