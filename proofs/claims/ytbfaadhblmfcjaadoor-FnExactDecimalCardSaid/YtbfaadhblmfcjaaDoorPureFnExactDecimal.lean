/- The program's Decimal returns what the reference's returns, for all arguments; no condition. -/
import Derived.Test.YtbfaadhblmfcjaaDoorWMore
import Derived.OpenShut
import Derived.Laws.BitsAllLaws
import Derived.Test.YtbfaadhblmfcjaaDoorP1
import Derived.Test.YtbfaadhblmfcjaaDoorExtDecimal
import Derived.Lib.ItoaLen
import Derived.Test.YtbfaadhblmfcjaaDoorP2
/- Plain lemmas on whole numbers of 64 bits, on rounds, and on Go's shifts and bit operations at small numbers; no condition. -/
namespace Go.Proofs.YtbfaadhblmfcjaaDoor.P
open Go.RowKit Go.Proofs.YtbfaadhblmfcjaaDoorW.PrintWords Go.Proofs.YtbfaadhblmfcjaaDoorW.PrintLast Go.Proofs.YtbfaadhblmfcjaaDoorW.PrintMore

theorem w64 {x : Int} (h1 : -9223372036854775808 ≤ x) (h2 : x ≤ 9223372036854775807) : wrap64 x = x := by unfold wrap64; omega
theorem wf64 {a : Int} (h : (Lit.int .i64 a).wf = true) : -9223372036854775808 ≤ a ∧ a ≤ 9223372036854775807 := Go.bounds_i64 h
/-- A loop by the number of rounds that it needs. -/
theorem Ev.eq {α : Type} {g : Nat → Option α} {r q : α} (h : Ev g r) (e : r = q) : Ev g q := e ▸ h
/-- One round more: the function's text at 'k + 1'. -/
theorem Ev.succ {α : Type} {g : Nat → Option α} {r : α} (h : Ev (fun k => g (k + 1)) r) : Ev g r := Ev.step (fun _ => rfl) h

theorem rd_at (xs : List Int) (i : Nat) (h : i < xs.length) : rd xs (i : Int) = xs[i] := by
  unfold rd
  simp [List.getD_eq_getElem?_getD, List.getElem?_eq_getElem h]
end Go.Proofs.YtbfaadhblmfcjaaDoor.P

/- The reference's decimal spelling of a number is Go's own; no condition beyond 64 bits. -/
namespace Go.Proofs.YtbfaadhblmfcjaaDoor.P
open Go.RowKit Go.Proofs.YtbfaadhblmfcjaaDoorW.PrintWords Go.Proofs.YtbfaadhblmfcjaaDoorW.PrintLast Go.Proofs.YtbfaadhblmfcjaaDoorW.PrintMore
set_option linter.unusedSimpArgs false
set_option linter.unusedVariables false
open Go.Lib (decDigits itoa nDigits)

theorem strOf_bytes (l : List UInt8) : strOfNums (l.map fun b => (b.toNat : Int)) = ⟨l.toArray⟩ := by
  unfold strOfNums
  congr 2
  rw [List.map_map]
  have : ((fun n : Int => UInt8.ofNat n.toNat) ∘ fun b : UInt8 => (b.toNat : Int)) = id := by
    funext b
    simp
  rw [this, List.map_id]
/-- The digits, as numbers. -/
def dI (u : Nat) : List Int := (decDigits u).map fun b => (b.toNat : Int)
theorem dig_byte (d : Nat) (h : d < 10) : (UInt8.ofNat (48 + d)).toNat = 48 + d := by
  rw [UInt8.toNat_ofNat']; omega
theorem dI_small {u : Nat} (h : u < 10) : dI u = [(48 + u : Int)] := by
  unfold dI
  rw [decDigits, dif_pos h, List.map_cons, List.map_nil, dig_byte u h]
  rfl
theorem dI_big {u : Nat} (h : ¬ u < 10) : dI u = dI (u / 10) ++ [((48 + u % 10 : Nat) : Int)] := by
  unfold dI
  rw [decDigits, dif_neg h, List.map_append, List.map_cons, List.map_nil, dig_byte (u % 10) (by omega)]
theorem dI_length (u : Nat) (h : u ≤ 9223372036854775808) : (dI u).length ≤ 21 := by
  unfold dI
  rw [List.length_map]
  by_cases h0 : u = 9223372036854775808
  · have e := Go.Lib.itoa_length_le (-(u : Int)) (by omega) (by omega)
    rw [Go.Lib.itoa_neg u (by omega), List.length_cons] at e
    omega
  · have e := Go.Lib.itoa_length_le (u : Int) (by omega) (by omega)
    rwa [Go.Lib.itoa_nonneg] at e
theorem dig_loop (x0 : Int) (sg : Int) (hsg : sg = 1 ∨ sg = -1) (r : ByteArray) : ∀ (w : Nat), 0 < w → w ≤ 9223372036854775808 → (sg = 1 → w ≤ 9223372036854775807) → ∀ acc : List Int, acc.length + (dI w).length ≤ 1000 →
    Ev (fun k => spec_l01Dec.l0 k x0 (acc ++ (dI w).reverse) 0) r → Ev (fun k => spec_l01Dec.l0 k x0 acc (sg * (w : Int))) r := by
  intro w
  induction w using Nat.strongRecOn with
  | ind w ih =>
    intro h0 h1 h1' acc hacc h
    have hm : Int.tmod (sg * (w : Int)) 10 = sg * ((w % 10 : Nat) : Int) := by
      rcases hsg with rfl | rfl
      · rw [Int.one_mul, Int.one_mul]; exact (Int.ofNat_tmod w 10).symm
      · rw [Int.neg_one_mul, Int.neg_one_mul, Int.neg_tmod]; congr 1
    have hd : Int.tdiv (sg * (w : Int)) 10 = sg * ((w / 10 : Nat) : Int) := by
      rcases hsg with rfl | rfl
      · rw [Int.one_mul, Int.one_mul]; exact (Int.ofNat_tdiv w 10).symm
      · rw [Int.neg_one_mul, Int.neg_one_mul, Int.neg_tdiv]; congr 1
    have hne : ¬ sg * (w : Int) = 0 := by rcases hsg with rfl | rfl <;> omega
    have hlt : w % 10 < 10 := Nat.mod_lt _ (by decide)
    have hdl : acc.length < 140737488355328 := by omega
    have hq : wrap64 (sg * ((w / 10 : Nat) : Int)) = sg * ((w / 10 : Nat) : Int) := by
      rcases hsg with rfl | rfl <;> exact w64 (by omega) (by omega)
    have hstep : Ev (fun k => spec_l01Dec.l0 k x0 (acc ++ [((48 + w % 10 : Nat) : Int)]) (sg * ((w / 10 : Nat) : Int))) r := by
      by_cases hs : w < 10
      · rw [dI_small hs, List.reverse_singleton] at h
        have e1 : w / 10 = 0 := by omega
        have e2 : w % 10 = w := by omega
        rw [e1, e2]
        have e3 : sg * ((0 : Nat) : Int) = 0 := by omega
        rw [e3]
        have e4 : ((48 + w : Nat) : Int) = 48 + (w : Int) := by omega
        rw [e4]
        exact h
      · rw [dI_big hs, List.reverse_append, List.reverse_singleton, ← List.append_assoc] at h
        refine ih (w / 10) (by omega) (by omega) (by omega) (by omega) _ ?_ h
        rw [dI_big hs, List.length_append, List.length_singleton] at hacc
        rw [List.length_append, List.length_singleton]
        omega
    refine Ev.succ ?_
    simp only [spec_l01Dec.l0, if_neg hne, hm, hd, hq, if_pos hdl]
    by_cases hneg : sg * ((w % 10 : Nat) : Int) < 0
    · have e5 : wrap64 (48 + wrap64 (-(sg * ((w % 10 : Nat) : Int)))) % 256 = ((48 + w % 10 : Nat) : Int) := by
        rcases hsg with rfl | rfl
        · omega
        · rw [w64 (x := -(-1 * ((w % 10 : Nat) : Int))) (by omega) (by omega), w64 (by omega) (by omega)]; omega
      simp only [if_pos hneg, e5]
      exact hstep
    · have e5 : wrap64 (48 + sg * ((w % 10 : Nat) : Int)) % 256 = ((48 + w % 10 : Nat) : Int) := by
        rcases hsg with rfl | rfl
        · rw [w64 (by omega) (by omega)]; omega
        · rw [w64 (by omega) (by omega)]; omega
      simp only [if_neg hneg, e5]
      exact hstep
theorem rev_loop (l : List Int) (hl : l.length ≤ 1000) (d : Nat) : ∀ i : Nat, i + 1 = d → d ≤ l.length → Ev (fun k => spec_l01Dec.l1 k l (l.drop d).reverse (i : Int)) (strOfNums l.reverse) := by
  induction d with
  | zero => intro i h; omega
  | succ d ih =>
    intro i hi hd
    obtain rfl : i = d := by omega
    refine Ev.succ ?_
    have hlt : i < l.length := by omega
    have e2 : (l.drop (i + 1)).reverse ++ [l[i]] = (l.drop i).reverse := by
      rw [List.drop_eq_getElem_cons hlt, List.reverse_cons]
    simp only [spec_l01Dec.l1, if_pos (show (i : Int) ≥ 0 by omega), if_pos (show (i : Int) < (l.length : Int) by omega), if_pos (show (l.drop (i + 1)).reverse.length < 140737488355328 by rw [List.length_reverse, List.length_drop]; omega), rd_at l i hlt, e2]
    cases i with
    | zero =>
      have e1 : wrap64 (((0 : Nat) : Int) - 1) = -1 := by rw [w64 (by omega) (by omega)]; omega
      rw [e1, List.drop_zero]
      refine Ev.succ ?_
      simp only [spec_l01Dec.l1, if_neg (show ¬ (-1 : Int) ≥ 0 by decide)]
      exact Ev.now _
    | succ j =>
      have e1 : wrap64 (((j + 1 : Nat) : Int) - 1) = (j : Int) := by rw [w64 (by omega) (by omega)]; omega
      rw [e1]
      exact ih j rfl (by omega)
theorem turn_ev (l : List Int) (hl : l.length ≤ 1000) (h0 : 0 < l.length) : Ev (fun k => spec_l01Dec.j1 k l) (strOfNums l.reverse) := by
  refine Ev.succ ?_
  have e1 : wrap64 ((l.length : Int) - 1) = ((l.length - 1 : Nat) : Int) := by rw [w64 (by omega) (by omega)]; omega
  simp only [spec_l01Dec.j1, e1]
  have h := rev_loop l hl l.length (l.length - 1) (by omega) (Nat.le_refl _)
  rw [List.drop_length, List.reverse_nil] at h
  exact h
theorem dI_pos (u : Nat) : 0 < (dI u).length := by
  by_cases h : u < 10
  · rw [dI_small h]; simp
  · rw [dI_big h, List.length_append]; simp
/-- The spelling. -/
def decS (n : Int) : ByteArray := ⟨(itoa n).toArray⟩
theorem implDec_form {n : Int} (h : -9223372036854775808 ≤ n ∧ n ≤ 9223372036854775807) : impl_Decimal.f n = some (decS n) := by
  unfold impl_Decimal.f; rw [if_pos h]; rfl
theorem specDec_ev {n : Int} (h : -9223372036854775808 ≤ n ∧ n ≤ 9223372036854775807) : Ev (fun k => spec_l01Dec.f k n) (decS n) := by
  unfold spec_l01Dec.f
  by_cases h0 : n = 0
  · subst h0
    have e : decS 0 = (⟨#[48]⟩ : ByteArray) := by
      have e2 := strOf_bytes (decDigits 0)
      have e3 := dI_small (u := 0) (by decide)
      unfold dI at e3
      rw [e3] at e2
      have e4 : itoa 0 = decDigits 0 := Go.Lib.itoa_nonneg 0
      unfold decS
      rw [e4, ← e2]
      rfl
    simp only [if_true]
    rw [e]
    exact Ev.now _
  · simp only [if_neg h0]
    by_cases hn : n < 0
    · obtain ⟨u, hu⟩ := Int.eq_ofNat_of_zero_le (show 0 ≤ -n by omega)
      obtain rfl : n = -(u : Int) := by omega
      have hl := dI_length u (by omega)
      have hlp := dI_pos u
      have hd := dig_loop (-(u : Int)) (-1) (.inr rfl) (decS (-(u : Int))) u (by omega) (by omega) (by omega) [] (by simp; omega)
      rw [Int.neg_one_mul] at hd
      refine hd ?_
      refine Ev.succ ?_
      simp only [spec_l01Dec.l0, if_true, if_pos hn, List.nil_append, if_pos (show (dI u).reverse.length < 140737488355328 by rw [List.length_reverse]; omega)]
      have ht := turn_ev ((dI u).reverse ++ [45]) (by rw [List.length_append, List.length_reverse]; simp; omega) (by simp)
      refine Ev.eq ht ?_
      rw [List.reverse_append, List.reverse_reverse, List.reverse_singleton, decS, Go.Lib.itoa_neg u (by omega), ← strOf_bytes]
      rfl
    · obtain ⟨u, rfl⟩ := Int.eq_ofNat_of_zero_le (show 0 ≤ n by omega)
      have hl := dI_length u (by omega)
      have hlp := dI_pos u
      have hd := dig_loop (u : Int) 1 (.inl rfl) (decS (u : Int)) u (by omega) (by omega) (by omega) [] (by simp; omega)
      rw [Int.one_mul] at hd
      refine hd ?_
      refine Ev.succ ?_
      simp only [spec_l01Dec.l0, if_true, if_neg hn, List.nil_append]
      have ht := turn_ev (dI u).reverse (by rw [List.length_reverse]; omega) (by rw [List.length_reverse]; exact hlp)
      refine Ev.eq ht ?_
      rw [List.reverse_reverse, decS, Go.Lib.itoa_nonneg, ← strOf_bytes]
      rfl
end Go.Proofs.YtbfaadhblmfcjaaDoor.P

namespace Go.Proofs.YtbfaadhblmfcjaaDoor.Pure
open Go.RowKit Go.Proofs.YtbfaadhblmfcjaaDoorW.PrintWords Go.Proofs.YtbfaadhblmfcjaaDoorW.PrintLast Go.Proofs.YtbfaadhblmfcjaaDoorW.PrintMore
set_option linter.unusedSimpArgs false
set_option linter.unusedVariables false
open Go.Proofs.YtbfaadhblmfcjaaDoor.P

theorem FnExactDecimal : laws_FnExactDecimal.Pure := by
  intro n hn
  have h := wf64 hn
  apply Ev.rounds
  unfold laws_FnExactDecimal.f spec_Decimal.f
  refine Ev.bind (Ev.bind (specDec_ev h) (Ev.now _)) ?_
  simp only [implDec_form h, Option.bind_some, if_true]
  exact Ev.now _
end Go.Proofs.YtbfaadhblmfcjaaDoor.Pure
