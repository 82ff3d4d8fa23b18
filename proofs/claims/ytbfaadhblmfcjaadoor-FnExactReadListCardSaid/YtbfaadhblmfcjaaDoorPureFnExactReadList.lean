/- The program's ReadList returns what the reference's returns, for all arguments; no condition. -/
import Derived.Test.YtbfaadhblmfcjaaDoorP0
import Derived.Test.YtbfaadhblmfcjaaDoorWMore
import Derived.OpenShut
import Derived.Laws.BitsAllLaws
import Derived.Test.YtbfaadhblmfcjaaDoorProg
import Derived.Ground.NamesProg
import Derived.Shelf.Strings.SlTrimAscii
import Derived.Shelf.Strings.OnBuilder
import Derived.Shelf.Strings.Repeat
import Derived.Test.YtbfaadhblmfcjaaDoorP1
import Derived.Lib.ItoaLen
import Derived.Test.YtbfaadhblmfcjaaDoorBase
import Derived.Test.YtbfaadhblmfcjaaDoorP4
import Derived.Test.YtbfaadhblmfcjaaDoorP6
import Derived.Test.YtbfaadhblmfcjaaDoorExtWide
import Derived.Test.YtbfaadhblmfcjaaDoorForms
import Derived.Test.YtbfaadhblmfcjaaDoorP7
import Derived.Test.YtbfaadhblmfcjaaDoorExtSplit
import Derived.Test.YtbfaadhblmfcjaaDoorP11
/- When a text is a wave, as the program (it trims zeros and ones off) and as the reference (it looks at each byte) ask it. The texts are shorter than 2^62 bytes. -/
namespace Go.Proofs.YtbfaadhblmfcjaaDoor.P
open Go.RowKit Go.Proofs.YtbfaadhblmfcjaaDoorW.PrintWords Go.Proofs.YtbfaadhblmfcjaaDoorW.PrintLast Go.Proofs.YtbfaadhblmfcjaaDoorW.PrintMore

/-- A text's bytes. -/
abbrev bs (s : ByteArray) : List UInt8 := s.data.toList
theorem bs_len (s : ByteArray) : (bs s).length = s.size := by simp [bs]
theorem bt_nat (s : ByteArray) (i : Nat) (h : i < s.size) : bt s (i : Int) = (((bs s)[i]'(by rw [bs_len]; exact h)).toNat : Int) := by
  unfold bt bs
  rw [dif_pos (by simpa using h)]
  simp [ByteArray.getElem_eq_getElem_data]

theorem mk_toList (l : List UInt8) : (⟨l.toArray⟩ : ByteArray).toList = l := by rw [ByteArray.toList_eq]

end Go.Proofs.YtbfaadhblmfcjaaDoor.P

/- Texts put together with a text of one byte between: one more text at the end. -/
namespace Go.Proofs.YtbfaadhblmfcjaaDoor.P
open Go.RowKit Go.Proofs.YtbfaadhblmfcjaaDoorW.PrintWords Go.Proofs.YtbfaadhblmfcjaaDoorW.PrintLast Go.Proofs.YtbfaadhblmfcjaaDoorW.PrintMore
set_option linter.unusedVariables false
set_option linter.unusedSimpArgs false

theorem bs_inj {a b : ByteArray} (h : bs a = bs b) : a = b := Go.WideShapes.bytes_inj h
theorem bs_append (a b : ByteArray) : bs (a ++ b) = bs a ++ bs b := by simp [bs, ByteArray.data_append]
theorem nil_append (a : ByteArray) : (⟨#[]⟩ : ByteArray) ++ a = a := bs_inj (by rw [bs_append]; rfl)
end Go.Proofs.YtbfaadhblmfcjaaDoor.P

/- The reference's decimal spelling of a number is Go's own; no condition beyond 64 bits. -/
namespace Go.Proofs.YtbfaadhblmfcjaaDoor.P
open Go.RowKit Go.Proofs.YtbfaadhblmfcjaaDoorW.PrintWords Go.Proofs.YtbfaadhblmfcjaaDoorW.PrintLast Go.Proofs.YtbfaadhblmfcjaaDoorW.PrintMore
set_option linter.unusedSimpArgs false
set_option linter.unusedVariables false
open Go.Lib (decDigits itoa nDigits)

theorem strOf_bytes (l : List UInt8) : strOfNums (l.map fun b => (b.toNat : Int)) = ⟨l.toArray⟩ := by
  unfold strOfNums
  congr 2
  rw [List.map_map]
  have : ((fun n : Int => UInt8.ofNat n.toNat) ∘ fun b : UInt8 => (b.toNat : Int)) = id := by
    funext b
    simp
  rw [this, List.map_id]
/-- The digits, as numbers. -/
def dI (u : Nat) : List Int := (decDigits u).map fun b => (b.toNat : Int)
theorem dig_byte (d : Nat) (h : d < 10) : (UInt8.ofNat (48 + d)).toNat = 48 + d := by
  rw [UInt8.toNat_ofNat']; omega
theorem dI_small {u : Nat} (h : u < 10) : dI u = [(48 + u : Int)] := by
  unfold dI
  rw [decDigits, dif_pos h, List.map_cons, List.map_nil, dig_byte u h]
  rfl
theorem dI_big {u : Nat} (h : ¬ u < 10) : dI u = dI (u / 10) ++ [((48 + u % 10 : Nat) : Int)] := by
  unfold dI
  rw [decDigits, dif_neg h, List.map_append, List.map_cons, List.map_nil, dig_byte (u % 10) (by omega)]
theorem dI_length (u : Nat) (h : u ≤ 9223372036854775808) : (dI u).length ≤ 21 := by
  unfold dI
  rw [List.length_map]
  by_cases h0 : u = 9223372036854775808
  · have e := Go.Lib.itoa_length_le (-(u : Int)) (by omega) (by omega)
    rw [Go.Lib.itoa_neg u (by omega), List.length_cons] at e
    omega
  · have e := Go.Lib.itoa_length_le (u : Int) (by omega) (by omega)
    rwa [Go.Lib.itoa_nonneg] at e
theorem dig_loop (x0 : Int) (sg : Int) (hsg : sg = 1 ∨ sg = -1) (r : ByteArray) : ∀ (w : Nat), 0 < w → w ≤ 9223372036854775808 → (sg = 1 → w ≤ 9223372036854775807) → ∀ acc : List Int, acc.length + (dI w).length ≤ 1000 →
    Ev (fun k => spec_l01Dec.l0 k x0 (acc ++ (dI w).reverse) 0) r → Ev (fun k => spec_l01Dec.l0 k x0 acc (sg * (w : Int))) r := by
  intro w
  induction w using Nat.strongRecOn with
  | ind w ih =>
    intro h0 h1 h1' acc hacc h
    have hm : Int.tmod (sg * (w : Int)) 10 = sg * ((w % 10 : Nat) : Int) := by
      rcases hsg with rfl | rfl
      · rw [Int.one_mul, Int.one_mul]; exact (Int.ofNat_tmod w 10).symm
      · rw [Int.neg_one_mul, Int.neg_one_mul, Int.neg_tmod]; congr 1
    have hd : Int.tdiv (sg * (w : Int)) 10 = sg * ((w / 10 : Nat) : Int) := by
      rcases hsg with rfl | rfl
      · rw [Int.one_mul, Int.one_mul]; exact (Int.ofNat_tdiv w 10).symm
      · rw [Int.neg_one_mul, Int.neg_one_mul, Int.neg_tdiv]; congr 1
    have hne : ¬ sg * (w : Int) = 0 := by rcases hsg with rfl | rfl <;> omega
    have hlt : w % 10 < 10 := Nat.mod_lt _ (by decide)
    have hdl : acc.length < 140737488355328 := by omega
    have hq : wrap64 (sg * ((w / 10 : Nat) : Int)) = sg * ((w / 10 : Nat) : Int) := by
      rcases hsg with rfl | rfl <;> exact w64 (by omega) (by omega)
    have hstep : Ev (fun k => spec_l01Dec.l0 k x0 (acc ++ [((48 + w % 10 : Nat) : Int)]) (sg * ((w / 10 : Nat) : Int))) r := by
      by_cases hs : w < 10
      · rw [dI_small hs, List.reverse_singleton] at h
        have e1 : w / 10 = 0 := by omega
        have e2 : w % 10 = w := by omega
        rw [e1, e2]
        have e3 : sg * ((0 : Nat) : Int) = 0 := by omega
        rw [e3]
        have e4 : ((48 + w : Nat) : Int) = 48 + (w : Int) := by omega
        rw [e4]
        exact h
      · rw [dI_big hs, List.reverse_append, List.reverse_singleton, ← List.append_assoc] at h
        refine ih (w / 10) (by omega) (by omega) (by omega) (by omega) _ ?_ h
        rw [dI_big hs, List.length_append, List.length_singleton] at hacc
        rw [List.length_append, List.length_singleton]
        omega
    refine Ev.succ ?_
    simp only [spec_l01Dec.l0, if_neg hne, hm, hd, hq, if_pos hdl]
    by_cases hneg : sg * ((w % 10 : Nat) : Int) < 0
    · have e5 : wrap64 (48 + wrap64 (-(sg * ((w % 10 : Nat) : Int)))) % 256 = ((48 + w % 10 : Nat) : Int) := by
        rcases hsg with rfl | rfl
        · omega
        · rw [w64 (x := -(-1 * ((w % 10 : Nat) : Int))) (by omega) (by omega), w64 (by omega) (by omega)]; omega
      simp only [if_pos hneg, e5]
      exact hstep
    · have e5 : wrap64 (48 + sg * ((w % 10 : Nat) : Int)) % 256 = ((48 + w % 10 : Nat) : Int) := by
        rcases hsg with rfl | rfl
        · rw [w64 (by omega) (by omega)]; omega
        · rw [w64 (by omega) (by omega)]; omega
      simp only [if_neg hneg, e5]
      exact hstep
theorem rev_loop (l : List Int) (hl : l.length ≤ 1000) (d : Nat) : ∀ i : Nat, i + 1 = d → d ≤ l.length → Ev (fun k => spec_l01Dec.l1 k l (l.drop d).reverse (i : Int)) (strOfNums l.reverse) := by
  induction d with
  | zero => intro i h; omega
  | succ d ih =>
    intro i hi hd
    obtain rfl : i = d := by omega
    refine Ev.succ ?_
    have hlt : i < l.length := by omega
    have e2 : (l.drop (i + 1)).reverse ++ [l[i]] = (l.drop i).reverse := by
      rw [List.drop_eq_getElem_cons hlt, List.reverse_cons]
    simp only [spec_l01Dec.l1, if_pos (show (i : Int) ≥ 0 by omega), if_pos (show (i : Int) < (l.length : Int) by omega), if_pos (show (l.drop (i + 1)).reverse.length < 140737488355328 by rw [List.length_reverse, List.length_drop]; omega), rd_at l i hlt, e2]
    cases i with
    | zero =>
      have e1 : wrap64 (((0 : Nat) : Int) - 1) = -1 := by rw [w64 (by omega) (by omega)]; omega
      rw [e1, List.drop_zero]
      refine Ev.succ ?_
      simp only [spec_l01Dec.l1, if_neg (show ¬ (-1 : Int) ≥ 0 by decide)]
      exact Ev.now _
    | succ j =>
      have e1 : wrap64 (((j + 1 : Nat) : Int) - 1) = (j : Int) := by rw [w64 (by omega) (by omega)]; omega
      rw [e1]
      exact ih j rfl (by omega)
theorem turn_ev (l : List Int) (hl : l.length ≤ 1000) (h0 : 0 < l.length) : Ev (fun k => spec_l01Dec.j1 k l) (strOfNums l.reverse) := by
  refine Ev.succ ?_
  have e1 : wrap64 ((l.length : Int) - 1) = ((l.length - 1 : Nat) : Int) := by rw [w64 (by omega) (by omega)]; omega
  simp only [spec_l01Dec.j1, e1]
  have h := rev_loop l hl l.length (l.length - 1) (by omega) (Nat.le_refl _)
  rw [List.drop_length, List.reverse_nil] at h
  exact h
theorem dI_pos (u : Nat) : 0 < (dI u).length := by
  by_cases h : u < 10
  · rw [dI_small h]; simp
  · rw [dI_big h, List.length_append]; simp
/-- The spelling. -/
def decS (n : Int) : ByteArray := ⟨(itoa n).toArray⟩
theorem specDec_ev {n : Int} (h : -9223372036854775808 ≤ n ∧ n ≤ 9223372036854775807) : Ev (fun k => spec_l01Dec.f k n) (decS n) := by
  unfold spec_l01Dec.f
  by_cases h0 : n = 0
  · subst h0
    have e : decS 0 = (⟨#[48]⟩ : ByteArray) := by
      have e2 := strOf_bytes (decDigits 0)
      have e3 := dI_small (u := 0) (by decide)
      unfold dI at e3
      rw [e3] at e2
      have e4 : itoa 0 = decDigits 0 := Go.Lib.itoa_nonneg 0
      unfold decS
      rw [e4, ← e2]
      rfl
    simp only [if_true]
    rw [e]
    exact Ev.now _
  · simp only [if_neg h0]
    by_cases hn : n < 0
    · obtain ⟨u, hu⟩ := Int.eq_ofNat_of_zero_le (show 0 ≤ -n by omega)
      obtain rfl : n = -(u : Int) := by omega
      have hl := dI_length u (by omega)
      have hlp := dI_pos u
      have hd := dig_loop (-(u : Int)) (-1) (.inr rfl) (decS (-(u : Int))) u (by omega) (by omega) (by omega) [] (by simp; omega)
      rw [Int.neg_one_mul] at hd
      refine hd ?_
      refine Ev.succ ?_
      simp only [spec_l01Dec.l0, if_true, if_pos hn, List.nil_append, if_pos (show (dI u).reverse.length < 140737488355328 by rw [List.length_reverse]; omega)]
      have ht := turn_ev ((dI u).reverse ++ [45]) (by rw [List.length_append, List.length_reverse]; simp; omega) (by simp)
      refine Ev.eq ht ?_
      rw [List.reverse_append, List.reverse_reverse, List.reverse_singleton, decS, Go.Lib.itoa_neg u (by omega), ← strOf_bytes]
      rfl
    · obtain ⟨u, rfl⟩ := Int.eq_ofNat_of_zero_le (show 0 ≤ n by omega)
      have hl := dI_length u (by omega)
      have hlp := dI_pos u
      have hd := dig_loop (u : Int) 1 (.inl rfl) (decS (u : Int)) u (by omega) (by omega) (by omega) [] (by simp; omega)
      rw [Int.one_mul] at hd
      refine hd ?_
      refine Ev.succ ?_
      simp only [spec_l01Dec.l0, if_true, if_neg hn, List.nil_append]
      have ht := turn_ev (dI u).reverse (by rw [List.length_reverse]; omega) (by rw [List.length_reverse]; exact hlp)
      refine Ev.eq ht ?_
      rw [List.reverse_reverse, decS, Go.Lib.itoa_nonneg, ← strOf_bytes]
      rfl
end Go.Proofs.YtbfaadhblmfcjaaDoor.P

/- Reading numbers: the program's readWide (Go's own parse and spelling) and the reference's reader both take just the spellings of the numbers in the range. The texts are at most 1048576 bytes. -/
namespace Go.Proofs.YtbfaadhblmfcjaaDoor.P
open Go.RowKit Go.Proofs.YtbfaadhblmfcjaaDoorW.PrintWords Go.Proofs.YtbfaadhblmfcjaaDoorW.PrintLast Go.Proofs.YtbfaadhblmfcjaaDoorW.PrintMore
set_option linter.unusedSimpArgs false
set_option linter.unusedVariables false
open Go.Lib (decDigits itoa)

theorem dig_range : ∀ (u : Nat), ∀ b ∈ decDigits u, 48 ≤ b.toNat ∧ b.toNat ≤ 57 := by
  intro u
  induction u using Nat.strongRecOn with
  | ind u ih =>
    intro b hb
    rw [decDigits] at hb
    split at hb
    · rename_i h
      rw [List.mem_singleton.mp hb, dig_byte u h]; omega
    · rename_i h
      rcases List.mem_append.mp hb with h1 | h1
      · exact ih (u / 10) (by omega) b h1
      · rw [List.mem_singleton.mp h1, dig_byte (u % 10) (by omega)]; omega
theorem dig_len (k : Nat) : ∀ u : Nat, u < 10 ^ (k + 1) → (decDigits u).length ≤ k + 1 := by
  induction k with
  | zero =>
    intro u hu
    rw [decDigits, dif_pos (by omega)]
    simp
  | succ k ih =>
    intro u hu
    rw [decDigits]
    split
    · simp
    · have hu' : u < 10 ^ (k + 1) * 10 := by rw [← Nat.pow_succ]; exact hu
      have := ih (u / 10) (by omega)
      rw [List.length_append, List.length_singleton]
      omega
theorem dig_pos (u : Nat) : 0 < (decDigits u).length := by
  have := dI_pos u
  unfold dI at this
  rwa [List.length_map] at this
theorem parse_digits : ∀ (u : Nat), u < 18446744073709551616 → ∀ t : List UInt8, Go.Lib.parseUint10 0 (decDigits u ++ t) = Go.Lib.parseUint10 u t := by
  intro u
  induction u using Nat.strongRecOn with
  | ind u ih =>
    intro hu t
    rw [decDigits]
    split
    · rename_i h
      rw [List.singleton_append]
      simp only [Go.Lib.parseUint10, dig_byte u h]
      rw [if_pos (by omega), if_neg (by omega), if_neg (by omega)]
      congr 1
      omega
    · rename_i h
      rw [List.append_assoc, ih (u / 10) (by omega) (by omega), List.singleton_append]
      simp only [Go.Lib.parseUint10, dig_byte (u % 10) (by omega)]
      rw [if_pos (by omega), if_neg (by omega), if_neg (by omega)]
      congr 1
      omega
theorem parse_mag (u : Nat) (hu : u < 18446744073709551616) : Go.Lib.parseMag (decDigits u) = .ok u := by
  unfold Go.Lib.parseMag
  rw [if_neg (fun h => by have := dig_pos u; rw [h] at this; exact absurd this (by decide))]
  have h := parse_digits u hu []
  rw [List.append_nil] at h
  rw [h]
  rfl
theorem parse_itoa {v : Int} (h : -9223372036854775808 ≤ v ∧ v ≤ 9223372036854775807) : Go.Lib.parseIntB 64 (itoa v) = .ok v := by
  rw [Go.Lib.parseIntB_64]
  by_cases hn : v < 0
  · obtain ⟨u, hu⟩ := Int.eq_ofNat_of_zero_le (show 0 ≤ -v by omega)
    obtain rfl : v = -(u : Int) := by omega
    rw [Go.Lib.itoa_neg u (by omega)]
    unfold Go.Lib.atoiAll
    have e : (45 : UInt8).toNat = 45 := rfl
    simp only [e, or_true, if_true, parse_mag u (by omega)]
    simp
    omega
  · obtain ⟨u, rfl⟩ := Int.eq_ofNat_of_zero_le (show 0 ≤ v by omega)
    rw [Go.Lib.itoa_nonneg]
    have hm := parse_mag u (by omega)
    cases hd : decDigits u with
    | nil => have := dig_pos u; rw [hd] at this; exact absurd this (by decide)
    | cons c r =>
      have hc := dig_range u c (by rw [hd]; exact List.mem_cons_self)
      rw [hd] at hm
      unfold Go.Lib.atoiAll
      simp only [show ¬ c.toNat = 43 by omega, show ¬ c.toNat = 45 by omega, or_self, if_false, hm]
      simp
      omega
theorem decS_list (n : Int) : (decS n).toList = itoa n := by unfold decS; exact mk_toList _
theorem wide_yes {s : ByteArray} {m v : Int} (hm : 0 ≤ m ∧ m ≤ 1000000000000000000) (hv : -m ≤ v ∧ v ≤ m) (h : bs s = itoa v) : wideV s m = (v, true) := by
  unfold wideV
  rw [show s.data.toList = itoa v from h, parse_itoa (by omega)]
  simp only
  rw [if_pos ⟨by rw [mk_toList, ByteArray.toList_eq]; exact h.symm, hv⟩]
theorem wide_no {s : ByteArray} {m : Int} (h : ∀ v, -m ≤ v ∧ v ≤ m → bs s ≠ itoa v) : wideV s m = (0, false) := by
  unfold wideV
  split
  · rename_i v hp
    rw [if_neg]
    rintro ⟨h1, h2⟩
    rw [mk_toList, ByteArray.toList_eq] at h1
    exact h v h2 h1.symm
  · rfl
def endB (s : ByteArray) (m : Int) : Bool := decide (-1000000000000000000 ≤ m ∧ m ≤ 1000000000000000000) && ((decS m).toList == s.toList)
theorem great_end (s rest : ByteArray) (n : Int) (h0 : 0 ≤ n ∧ n ≤ 1000000000000000009) : Ev (fun k => spec_l01Great.l0 k s rest n (rest.size : Int)) (if (rest.size : Int) < (s.size : Int) then -n else n, endB s (if (rest.size : Int) < (s.size : Int) then -n else n)) := by
  refine Ev.succ ?_
  simp only [spec_l01Great.l0, Int.lt_irrefl, if_false, in_form, Option.bind_some]
  have hw : wrap64 (-n) = -n := w64 (by omega) (by omega)
  by_cases hc : (rest.size : Int) < (s.size : Int)
  · simp only [if_pos hc, hw]
    by_cases hr : -1000000000000000000 ≤ -n ∧ -n ≤ 1000000000000000000
    · simp only [endB, hr, and_self, decide_true, if_true, Bool.true_and]
      exact Ev.bind (specDec_ev (by omega)) (Ev.now _)
    · simp only [endB, hr, decide_false, Bool.false_eq_true, if_false, Bool.false_and]
      exact Ev.now _
  · simp only [if_neg hc]
    by_cases hr : -1000000000000000000 ≤ n ∧ n ≤ 1000000000000000000
    · simp only [endB, hr, and_self, decide_true, if_true, Bool.true_and]
      exact Ev.bind (specDec_ev (by omega)) (Ev.now _)
    · simp only [endB, hr, decide_false, Bool.false_eq_true, if_false, Bool.false_and]
      exact Ev.now _
theorem great_loop (s rest : ByteArray) (hs : rest.size ≤ 1048576) (d : Nat) : ∀ (i : Nat) (n : Int), i + d = rest.size → 0 ≤ n ∧ n ≤ 1000000000000000009 → ∃ m b, Ev (fun k => spec_l01Great.l0 k s rest n (i : Int)) (m, b) ∧ (b = true → endB s m = true) := by
  induction d with
  | zero =>
    intro i n hi hn
    obtain rfl : i = rest.size := by omega
    exact ⟨_, _, great_end s rest n hn, fun h => h⟩
  | succ d ih =>
    intro i n hi hn
    have hlt : i < rest.size := by omega
    have hb := bt_range rest (i : Int)
    have e1 : wrap64 ((i : Int) + 1) = ((i + 1 : Nat) : Int) := by rw [w64 (by omega) (by omega)]; omega
    by_cases h1 : bt rest (i : Int) < 48
    · refine ⟨0, false, Ev.succ ?_, fun h => by cases h⟩
      simp only [spec_l01Great.l0, if_pos (show (i : Int) < (rest.size : Int) by omega), if_pos (show (0 : Int) ≤ (i : Int) by omega), if_pos h1]
      exact Ev.now _
    by_cases h2 : bt rest (i : Int) > 57
    · refine ⟨0, false, Ev.succ ?_, fun h => by cases h⟩
      simp only [spec_l01Great.l0, if_pos (show (i : Int) < (rest.size : Int) by omega), if_pos (show (0 : Int) ≤ (i : Int) by omega), if_neg h1, if_pos h2]
      exact Ev.now _
    by_cases h3 : n > 100000000000000000
    · refine ⟨0, false, Ev.succ ?_, fun h => by cases h⟩
      simp only [spec_l01Great.l0, if_pos (show (i : Int) < (rest.size : Int) by omega), if_pos (show (0 : Int) ≤ (i : Int) by omega), if_neg h1, if_neg h2, if_pos h3]
      exact Ev.now _
    have e2 : wrap64 (wrap64 (10 * n) + (bt rest (i : Int) - 48) % 256) = 10 * n + (bt rest (i : Int) - 48) := by
      rw [w64 (x := 10 * n) (by omega) (by omega), w64 (by omega) (by omega)]; omega
    obtain ⟨m, b, hm, hr⟩ := ih (i + 1) (10 * n + (bt rest (i : Int) - 48)) (by omega) (by omega)
    refine ⟨m, b, Ev.succ ?_, hr⟩
    simp only [spec_l01Great.l0, if_pos (show (i : Int) < (rest.size : Int) by omega), if_pos (show (0 : Int) ≤ (i : Int) by omega), if_neg h1, if_neg h2, if_neg h3, e1, e2]
    exact hm
theorem great_digits (s rest : ByteArray) (hs : rest.size ≤ 1048576) (q : Int × Bool) : ∀ (u : Nat), u ≤ 1000000000000000000 → ∀ t : List UInt8, bs rest = decDigits u ++ t →
    Ev (fun k => spec_l01Great.l0 k s rest (u : Int) ((decDigits u).length : Int)) q → Ev (fun k => spec_l01Great.l0 k s rest 0 0) q := by
  intro u
  induction u using Nat.strongRecOn with
  | ind u ih =>
    intro hu t ht h
    have hlen := bs_len rest
    have hstep : ∀ (p : List UInt8) (w d : Nat), bs rest = p ++ (UInt8.ofNat (48 + d) :: t) → d < 10 → w ≤ 100000000000000000 → Ev (fun k => spec_l01Great.l0 k s rest ((w * 10 + d : Nat) : Int) ((p.length + 1 : Nat) : Int)) q → Ev (fun k => spec_l01Great.l0 k s rest (w : Int) (p.length : Int)) q := by
      intro p w d hp hd hw hq
      have hl : p.length < rest.size := by rw [← hlen, hp, List.length_append, List.length_cons]; omega
      have hbt : bt rest (p.length : Int) = ((48 + d : Nat) : Int) := by
        rw [bt_nat rest p.length hl]
        congr 1
        simp only [hp]
        rw [List.getElem_append_right (Nat.le_refl _)]
        simp only [Nat.sub_self, List.getElem_cons_zero]
        exact dig_byte d hd
      have e1 : wrap64 ((p.length : Int) + 1) = ((p.length + 1 : Nat) : Int) := by rw [w64 (by omega) (by omega)]; omega
      have e2 : wrap64 (wrap64 (10 * (w : Int)) + (((48 + d : Nat) : Int) - 48) % 256) = ((w * 10 + d : Nat) : Int) := by
        rw [w64 (x := 10 * (w : Int)) (by omega) (by omega), w64 (by omega) (by omega)]; omega
      refine Ev.succ ?_
      simp only [spec_l01Great.l0, if_pos (show (p.length : Int) < (rest.size : Int) by omega), if_pos (show (0 : Int) ≤ (p.length : Int) by omega), hbt, if_neg (show ¬ ((48 + d : Nat) : Int) < 48 by omega), if_neg (show ¬ ((48 + d : Nat) : Int) > 57 by omega), if_neg (show ¬ (w : Int) > 100000000000000000 by omega), e1, e2]
      exact hq
    by_cases h10 : u < 10
    · have ed : decDigits u = [UInt8.ofNat (48 + u)] := by rw [decDigits, dif_pos h10]
      rw [ed] at ht h
      have := hstep [] 0 u (by rw [ht]; rfl) h10 (by omega) (by
        rw [Nat.zero_mul, Nat.zero_add]
        exact h)
      exact this
    · have ed : decDigits u = decDigits (u / 10) ++ [UInt8.ofNat (48 + u % 10)] := by rw [decDigits, dif_neg h10]
      rw [ed, List.append_assoc, List.singleton_append] at ht
      rw [ed, List.length_append, List.length_singleton] at h
      refine ih (u / 10) (by omega) (by omega) _ ht ?_
      refine hstep (decDigits (u / 10)) (u / 10) (u % 10) ht (by omega) (by omega) ?_
      rw [show u / 10 * 10 + u % 10 = u by omega]
      exact h
theorem extract_bs (s : ByteArray) (i : Nat) : bs (s.extract i s.size) = (bs s).drop i := by
  unfold bs
  rw [ByteArray.data_extract]
  simp [Array.toList_extract, List.take_of_length_le]
theorem great_yes {s : ByteArray} {v : Int} (hs : s.size ≤ 1048576) (hv : -1000000000000000000 ≤ v ∧ v ≤ 1000000000000000000) (h : bs s = itoa v) : Ev (fun k => spec_l01Great.f k s) (v, true) := by
  have hend : endB s v = true := by
    unfold endB
    rw [decide_eq_true hv, Bool.true_and, decS_list, ByteArray.toList_eq, beq_iff_eq]
    exact h.symm
  have hlen := bs_len s
  by_cases hn : v < 0
  · obtain ⟨u, hu⟩ := Int.eq_ofNat_of_zero_le (show 0 ≤ -v by omega)
    obtain rfl : v = -(u : Int) := by omega
    rw [Go.Lib.itoa_neg u (by omega)] at h
    have hl := dig_len 18 u (by omega)
    have hp := dig_pos u
    have hsz : s.size = (decDigits u).length + 1 := by rw [← hlen, h, List.length_cons]
    have hrest : bs (s.extract 1 s.size) = decDigits u := by rw [extract_bs, h]; rfl
    have hrl : (s.extract 1 s.size).size = (decDigits u).length := by rw [← bs_len, hrest]
    have hb0 : bt s 0 = 45 := by
      have := bt_nat s 0 (by omega)
      rw [show ((0 : Nat) : Int) = 0 from rfl] at this
      rw [this]
      simp only [h, List.getElem_cons_zero]
      rfl
    unfold spec_l01Great.f
    simp only [if_pos (show (s.size : Int) > 0 by omega), if_pos (show (0 : Int) < (s.size : Int) by omega), hb0, beq_self_eq_true]
    refine Ev.succ ?_
    simp only [spec_l01Great.j0, if_true, if_pos (show (1 : Int) ≤ (s.size : Int) by omega)]
    refine Ev.succ ?_
    simp only [spec_l01Great.j1, hrl, if_neg (show ¬ ((decDigits u).length : Int) < 1 by omega), decide_eq_false (show ¬ ((decDigits u).length : Int) > 19 by omega)]
    refine Ev.succ ?_
    simp only [spec_l01Great.j2, Bool.false_eq_true, if_false]
    refine great_digits s _ (by omega) _ u (by omega) [] (by rw [hrest, List.append_nil]) ?_
    have he := great_end s (s.extract 1 s.size) (u : Int) (by omega)
    rw [if_pos (by omega), hend, hrl] at he
    exact he
  · obtain ⟨u, rfl⟩ := Int.eq_ofNat_of_zero_le (show 0 ≤ v by omega)
    rw [Go.Lib.itoa_nonneg] at h
    have hl := dig_len 18 u (by omega)
    have hp := dig_pos u
    have hsz : s.size = (decDigits u).length := by rw [← hlen, h]
    have hb0 : (bt s 0 == 45) = false := by
      have := bt_nat s 0 (by omega)
      rw [show ((0 : Nat) : Int) = 0 from rfl] at this
      rw [this]
      have hd := dig_range u ((bs s)[0]'(by omega)) (by rw [← h]; exact List.getElem_mem _)
      exact beq_eq_false_iff_ne.mpr (by omega)
    unfold spec_l01Great.f
    simp only [if_pos (show (s.size : Int) > 0 by omega), if_pos (show (0 : Int) < (s.size : Int) by omega), hb0]
    refine Ev.succ ?_
    simp only [spec_l01Great.j0, Bool.false_eq_true, if_false]
    refine Ev.succ ?_
    simp only [spec_l01Great.j1, if_neg (show ¬ (s.size : Int) < 1 by omega), decide_eq_false (show ¬ (s.size : Int) > 19 by omega)]
    refine Ev.succ ?_
    simp only [spec_l01Great.j2, Bool.false_eq_true, if_false]
    refine great_digits s s (by omega) _ u (by omega) [] (by rw [h, List.append_nil]) ?_
    have he := great_end s s (u : Int) (by omega)
    rw [if_neg (by omega), hend] at he
    rw [← hsz]
    exact he
theorem great_no {s : ByteArray} (hs : s.size ≤ 1048576) (h : ∀ v, -1000000000000000000 ≤ v ∧ v ≤ 1000000000000000000 → bs s ≠ itoa v) : ∃ n, Ev (fun k => spec_l01Great.f k s) (n, false) := by
  have hend : ∀ m b, (b = true → endB s m = true) → b = false := by
    intro m b hb
    cases b with
    | false => rfl
    | true =>
      have he := hb rfl
      unfold endB at he
      rw [Bool.and_eq_true, decide_eq_true_eq, beq_iff_eq, decS_list, ByteArray.toList_eq] at he
      exact absurd he.2.symm (h m he.1)
  have hl0 : ∀ rest : ByteArray, rest.size ≤ 1048576 → ∃ n, Ev (fun k => spec_l01Great.l0 k s rest 0 0) (n, false) := by
    intro rest hr
    obtain ⟨m, b, hm, hb⟩ := great_loop s rest hr rest.size 0 0 (by omega) (by omega)
    obtain rfl := hend m b hb
    exact ⟨m, hm⟩
  have hj1 : ∀ rest : ByteArray, rest.size ≤ 1048576 → ∃ n, Ev (fun k => spec_l01Great.j1 k s rest) (n, false) := by
    intro rest hr
    by_cases h1 : (rest.size : Int) < 1
    · refine ⟨0, Ev.succ ?_⟩
      simp only [spec_l01Great.j1, if_pos h1]
      refine Ev.succ ?_
      simp only [spec_l01Great.j2, if_true]
      exact Ev.now _
    · by_cases h2 : (rest.size : Int) > 19
      · refine ⟨0, Ev.succ ?_⟩
        simp only [spec_l01Great.j1, if_neg h1, decide_eq_true h2]
        refine Ev.succ ?_
        simp only [spec_l01Great.j2, if_true]
        exact Ev.now _
      · obtain ⟨n, hn⟩ := hl0 rest hr
        refine ⟨n, Ev.succ ?_⟩
        simp only [spec_l01Great.j1, if_neg h1, decide_eq_false h2]
        refine Ev.succ ?_
        simp only [spec_l01Great.j2, Bool.false_eq_true, if_false]
        exact hn
  unfold spec_l01Great.f
  by_cases h0 : (s.size : Int) > 0
  · cases hb : bt s 0 == 45 with
    | true =>
      obtain ⟨n, hn⟩ := hj1 (s.extract 1 s.size) (by rw [ByteArray.size_extract]; omega)
      refine ⟨n, ?_⟩
      simp only [if_pos h0, if_pos (show (0 : Int) < (s.size : Int) by omega)]
      refine Ev.succ ?_
      simp only [spec_l01Great.j0, if_true, if_pos (show (1 : Int) ≤ (s.size : Int) by omega)]
      exact hn
    | false =>
      obtain ⟨n, hn⟩ := hj1 s hs
      refine ⟨n, ?_⟩
      simp only [if_pos h0, if_pos (show (0 : Int) < (s.size : Int) by omega)]
      refine Ev.succ ?_
      simp only [spec_l01Great.j0, Bool.false_eq_true, if_false]
      exact hn
  · obtain ⟨n, hn⟩ := hj1 s hs
    refine ⟨n, ?_⟩
    simp only [if_neg h0]
    refine Ev.succ ?_
    simp only [spec_l01Great.j0, Bool.false_eq_true, if_false]
    exact hn
/-- What both readers of numbers answer. -/
def numOf (s : ByteArray) : Int × Bool := wideV s 1000000000000000
theorem value_ev {s : ByteArray} (hs : s.size ≤ 1048576) : Ev (fun k => spec_l01Value.f k s) (numOf s) := by
  unfold spec_l01Value.f numOf
  by_cases hv : ∃ v, (-1000000000000000 ≤ v ∧ v ≤ 1000000000000000) ∧ bs s = itoa v
  · obtain ⟨v, hr, he⟩ := hv
    rw [wide_yes (by omega) hr he]
    refine Ev.bind (great_yes hs (by omega) he) ?_
    simp only [if_true, in_form, Option.bind_some, hr, and_self, decide_true]
    exact Ev.now _
  · rw [wide_no (fun v hr he => hv ⟨v, hr, he⟩)]
    by_cases hw : ∃ v, (-1000000000000000000 ≤ v ∧ v ≤ 1000000000000000000) ∧ bs s = itoa v
    · obtain ⟨v, hr, he⟩ := hw
      refine Ev.bind (great_yes hs hr he) ?_
      have hn : ¬ (-1000000000000000 ≤ v ∧ v ≤ 1000000000000000) := fun z => hv ⟨v, z, he⟩
      simp only [if_true, in_form, Option.bind_some, hn, decide_false, Bool.false_eq_true, if_false]
      exact Ev.now _
    · obtain ⟨n, hn⟩ := great_no hs (fun v hr he => hw ⟨v, hr, he⟩)
      refine Ev.bind hn ?_
      simp only [Bool.false_eq_true, if_false]
      exact Ev.now _
theorem implNum_form {s : ByteArray} (hs : s.size ≤ 1048576) : impl_ReadDecimal.f s = some (numOf s) := by
  unfold impl_ReadDecimal.f impl_readWide.f
  rw [if_pos ⟨by omega, by omega, by omega⟩]
  rfl
end Go.Proofs.YtbfaadhblmfcjaaDoor.P

/- What the laws do with lists of whole numbers: two equal lists are told equal; marks that were written are found again. The lists hold fewer than 2^60 numbers. -/
namespace Go.Proofs.YtbfaadhblmfcjaaDoor.P
open Go.RowKit Go.Proofs.YtbfaadhblmfcjaaDoorW.PrintWords Go.Proofs.YtbfaadhblmfcjaaDoorW.PrintLast Go.Proofs.YtbfaadhblmfcjaaDoorW.PrintMore

theorem eqS_loop (l : List Int) (hl : l.length < 1152921504606846976) (d : Nat) : ∀ i : Nat, i + d = l.length → Ev (fun k => laws_eqInt64S.l0 k l l (i : Int)) true := by
  induction d with
  | zero =>
    intro i hi
    refine Ev.succ ?_
    simp only [laws_eqInt64S.l0, if_neg (show ¬ (i : Int) < (l.length : Int) by omega)]
    exact Ev.now _
  | succ d ih =>
    intro i hi
    refine Ev.succ ?_
    simp only [laws_eqInt64S.l0, if_pos (show (i : Int) < (l.length : Int) by omega), if_pos (show (0 : Int) ≤ (i : Int) by omega), if_true]
    rw [show (i : Int) + 1 = ((i + 1 : Nat) : Int) by omega, w64 (by omega) (by omega)]
    exact ih (i + 1) (by omega)
theorem eqS_ev {l : List Int} (hl : l.length < 1152921504606846976) : Ev (fun k => laws_eqInt64S.f k l l) true := by
  unfold laws_eqInt64S.f
  simp only [if_true]
  exact eqS_loop l hl l.length 0 (by omega)

/-- n marks from s on. -/
def marks : Nat → Int → List Int
  | 0, _ => []
  | n + 1, s => s :: marks n (s + 1)
theorem marks_length (n : Nat) : ∀ s, (marks n s).length = n := by
  induction n with
  | zero => intro s; rfl
  | succ n ih => intro s; simp [marks, ih]
theorem marks_get (n : Nat) : ∀ (s : Int) (j : Nat), j < n → (marks n s)[j]? = some (s + j) := by
  induction n with
  | zero => intro s j h; omega
  | succ n ih =>
    intro s j h
    cases j with
    | zero => simp [marks]
    | succ j => simp only [marks, List.getElem?_cons_succ, ih (s + 1) j (by omega)]; congr 1; omega
theorem rd_marks (n : Nat) (s : Int) (j : Nat) (h : j < n) : rd (marks n s) (j : Int) = s + j := by
  unfold rd
  simp [List.getD_eq_getElem?_getD, marks_get n s j h]
theorem set_mid (pre : List Int) (x y : Int) (post : List Int) : (pre ++ x :: post).set pre.length y = pre ++ y :: post := by
  simp
theorem mark_loop (s : Int) (hs0 : 0 ≤ s) (rest : List Int) : ∀ (pre : List Int) (m : Int), m = s + pre.length → s + pre.length + rest.length < 1152921504606846976 →
    Ev (fun k => laws_markInt64S.l0 k (pre ++ rest) m (pre.length : Int)) (m + rest.length, pre ++ marks rest.length m) := by
  induction rest with
  | nil =>
    intro pre m hm hb
    refine Ev.succ ?_
    simp only [laws_markInt64S.l0, List.append_nil, Int.lt_irrefl, if_false]
    exact Ev.const (by simp [marks])
  | cons x rest ih =>
    intro pre m hm hb
    refine Ev.succ ?_
    simp only [List.length_cons] at hb
    simp only [laws_markInt64S.l0, if_pos (show (pre.length : Int) < ((pre ++ x :: rest).length : Int) by simp; omega), if_pos (show (0 : Int) ≤ (pre.length : Int) by omega), Int.toNat_natCast, set_mid]
    rw [w64 (by omega) (by omega), w64 (by omega) (by omega)]
    have h := ih (pre ++ [m]) (m + 1) (by simp; omega) (by simp; omega)
    simp only [List.append_assoc, List.singleton_append, List.length_append, List.length_singleton] at h
    refine Ev.eq (Ev.congr (fun k => ?_) h) ?_
    · congr 1
    · rw [List.length_cons, marks]
      refine Prod.ext ?_ rfl
      show m + 1 + (rest.length : Int) = m + ((rest.length + 1 : Nat) : Int)
      omega
theorem mark_ev {s : Int} (hs0 : 0 ≤ s) {l : List Int} (hl : s + l.length < 1152921504606846976) : Ev (fun k => laws_markInt64S.f k l s) (s + l.length, marks l.length s) := by
  have h := mark_loop s hs0 l [] s (by simp) (by simpa using hl)
  exact h
theorem held_loop (L : List Int) (s : Int) (hs0 : 0 ≤ s) (hL : s + L.length < 1152921504606846976) (hr : ∀ j : Nat, j < L.length → rd L (j : Int) = s + j) (d : Nat) :
    ∀ i : Nat, i + d = L.length → Ev (fun k => laws_heldInt64S.l0 k L (s + i) (i : Int)) (s + L.length) := by
  induction d with
  | zero =>
    intro i hi
    refine Ev.succ ?_
    simp only [laws_heldInt64S.l0, if_neg (show ¬ (i : Int) < (L.length : Int) by omega)]
    exact Ev.const (by congr 1; omega)
  | succ d ih =>
    intro i hi
    refine Ev.succ ?_
    simp only [laws_heldInt64S.l0, if_pos (show (i : Int) < (L.length : Int) by omega), if_pos (show (0 : Int) ≤ (i : Int) by omega), if_pos (hr i (by omega))]
    rw [w64 (by omega) (by omega), w64 (by omega) (by omega)]
    refine Ev.congr (fun k => ?_) (ih (i + 1) (by omega))
    congr 1
    omega
theorem held_ev {s : Int} (hs0 : 0 ≤ s) {n : Nat} (hl : s + n < 1152921504606846976) : Ev (fun k => laws_heldInt64S.f k (marks n s) s) (s + n) := by
  have h := held_loop (marks n s) s hs0 (by rw [marks_length]; exact hl) (fun j hj => rd_marks n s j (by rwa [marks_length] at hj)) n 0 (by rw [marks_length]; omega)
  unfold laws_heldInt64S.f
  refine Ev.eq (Ev.congr (fun k => ?_) h) ?_
  · congr 1; omega
  · rw [marks_length]
end Go.Proofs.YtbfaadhblmfcjaaDoor.P

/- The pieces of a text between the bytes of one value: as strings.Split tells them. -/
namespace Go.Proofs.YtbfaadhblmfcjaaDoor.P
open Go.RowKit Go.Proofs.YtbfaadhblmfcjaaDoorW.PrintWords Go.Proofs.YtbfaadhblmfcjaaDoorW.PrintLast Go.Proofs.YtbfaadhblmfcjaaDoorW.PrintMore
set_option linter.unusedVariables false
set_option linter.unusedSimpArgs false

/-- A byte ahead of the first piece. -/
def headP (x : UInt8) : List (List UInt8) → List (List UInt8)
  | [] => [[x]]
  | p :: ps => (x :: p) :: ps
def piecesL (c : UInt8) : List UInt8 → List (List UInt8)
  | [] => [[]]
  | x :: l => if x = c then [] :: piecesL c l else headP x (piecesL c l)
theorem piecesL_pos (c : UInt8) (l : List UInt8) : 0 < (piecesL c l).length := by
  cases l with
  | nil => exact Nat.zero_lt_one
  | cons x l =>
    rw [piecesL]
    split
    · simp
    · cases piecesL c l <;> simp [headP]
theorem headP_length (x : UInt8) (l : List (List UInt8)) (h : 0 < l.length) : (headP x l).length = l.length := by
  cases l with
  | nil => exact absurd h (by decide)
  | cons p ps => rfl
theorem piecesL_length (c : UInt8) (l : List UInt8) : (piecesL c l).length ≤ l.length + 1 := by
  induction l with
  | nil => exact Nat.le_refl _
  | cons x l ih =>
    rw [piecesL]
    split
    · simp; omega
    · rw [headP_length _ _ (piecesL_pos c l)]; simp; omega
theorem splitK_none (sep x : UInt8) (h : x ≠ sep) (k : Nat) (m : List UInt8) : Go.Lib.splitK [sep] 0 k (x :: m) = headP x (Go.Lib.splitK [sep] 0 k m) := by
  cases k with
  | zero => simp [Go.Lib.splitK, headP]
  | succ k =>
    have hg := Go.Lib.indexByte_ge m sep
    have hx : (x == sep) = false := by simpa using h
    unfold Go.Lib.splitK
    rw [Go.Lib.index_one, Go.Lib.index_one]
    by_cases h1 : Go.Lib.indexByte m sep = -1
    · have h2 : Go.Lib.indexByte (x :: m) sep = -1 := by simp [Go.Lib.indexByte, hx, h1]
      simp [h1, h2, headP]
    · have h2 : Go.Lib.indexByte (x :: m) sep = Go.Lib.indexByte m sep + 1 := by simp [Go.Lib.indexByte, hx, h1]
      obtain ⟨j, hj⟩ := Int.eq_ofNat_of_zero_le (show 0 ≤ Go.Lib.indexByte m sep by omega)
      have h3 : ((j : Int) == -1) = false := beq_eq_false_iff_ne.mpr (by omega)
      have h4 : ((j : Int) + 1 == -1) = false := beq_eq_false_iff_ne.mpr (by omega)
      have h5 : ((j : Int) + 1).toNat = j + 1 := by omega
      rw [h2, hj]
      have h6 : (x :: m).drop (j + 1 + [sep].length) = m.drop (j + [sep].length) := by simp
      simp only [h3, h4, h5, Bool.false_eq_true, if_false, Int.toNat_natCast, headP, h6, Nat.add_zero, List.take_succ_cons]
theorem splitK_at (sep : UInt8) (k : Nat) (m : List UInt8) : Go.Lib.splitK [sep] 0 (k + 1) (sep :: m) = [] :: Go.Lib.splitK [sep] 0 k m := by
  have h2 : Go.Lib.indexByte (sep :: m) sep = 0 := by simp [Go.Lib.indexByte]
  rw [Go.Lib.splitK, Go.Lib.index_one, h2]
  simp
theorem splitK_pieces (c : UInt8) (l : List UInt8) : Go.Lib.splitK [c] 0 (l.count c) l = piecesL c l := by
  induction l with
  | nil => rfl
  | cons x l ih =>
    rw [piecesL]
    by_cases h : x = c
    · subst h
      rw [List.count_cons_self, splitK_at, if_pos rfl, ih]
    · rw [List.count_cons_of_ne h, splitK_none _ _ h, if_neg h, ih]
/-- The pieces, as texts. -/
def piecesS (s : ByteArray) (c : UInt8) : List ByteArray := Go.Lib.splitB ⟨#[c]⟩ 0 (Go.Lib.countB s ⟨#[c]⟩) s
theorem pieces_bs (s : ByteArray) (c : UInt8) : (piecesS s c).map bs = piecesL c (bs s) := by
  have h := Go.Lib.splitB_data ⟨#[c]⟩ 0 (Go.Lib.countB s ⟨#[c]⟩) s
  have e : Go.Lib.countB s ⟨#[c]⟩ = (bs s).count c := Go.Lib.count_one c (bs s)
  unfold piecesS
  rw [e] at h ⊢
  rw [← splitK_pieces]
  exact h
theorem pieces_length (s : ByteArray) (c : UInt8) : (piecesS s c).length = (piecesL c (bs s)).length := by rw [← pieces_bs, List.length_map]
theorem split_form {s : ByteArray} (hs : s.size ≤ 1048576) (c : UInt8) : strings_Split.f s ⟨#[c]⟩ = some (piecesS s c) := by
  unfold strings_Split.f
  rw [if_pos ⟨hs, rfl⟩]
  rfl
/-- What is read already, ahead of the first piece. -/
def aheadP (p : List UInt8) : List (List UInt8) → List (List UInt8)
  | [] => [p]
  | q :: qs => (p ++ q) :: qs
theorem aheadP_head (p : List UInt8) (x : UInt8) (l : List (List UInt8)) (h : 0 < l.length) : aheadP p (headP x l) = aheadP (p ++ [x]) l := by
  cases l with
  | nil => exact absurd h (by decide)
  | cons q qs => simp [aheadP, headP]
theorem aheadP_nil (l : List (List UInt8)) (h : 0 < l.length) : aheadP [] l = l := by
  cases l with
  | nil => exact absurd h (by decide)
  | cons q qs => rfl
theorem extract_mid (s : ByteArray) (i j : Nat) : bs (s.extract i j) = ((bs s).drop i).take (j - i) := by
  unfold bs
  rw [ByteArray.data_extract]
  simp [Array.toList_extract]
  try rw [List.extract_eq_take_drop]
theorem piece_size (c : UInt8) (l : List UInt8) : ∀ p ∈ piecesL c l, p.length ≤ l.length := by
  induction l with
  | nil => intro p hp; simp [piecesL] at hp; rw [hp]; exact Nat.le_refl _
  | cons x l ih =>
    intro p hp
    rw [piecesL] at hp
    split at hp
    · rcases List.mem_cons.mp hp with rfl | h
      · simp
      · have := ih p h; simp; omega
    · cases hl : piecesL c l with
      | nil => have := piecesL_pos c l; rw [hl] at this; exact absurd this (by decide)
      | cons q qs =>
        rw [hl] at hp ih
        rcases List.mem_cons.mp hp with rfl | h
        · have := ih q List.mem_cons_self; simp; omega
        · have := ih p (List.mem_cons_of_mem _ h); simp; omega
end Go.Proofs.YtbfaadhblmfcjaaDoor.P

namespace Go.Proofs.YtbfaadhblmfcjaaDoor.Pure
open Go.RowKit Go.Proofs.YtbfaadhblmfcjaaDoorW.PrintWords Go.Proofs.YtbfaadhblmfcjaaDoorW.PrintLast Go.Proofs.YtbfaadhblmfcjaaDoorW.PrintMore
open Go.Proofs.YtbfaadhblmfcjaaDoor.P
set_option linter.unusedVariables false
set_option linter.unusedSimpArgs false

/-- The number of a piece. -/
def numP (p : List UInt8) : Int × Bool := numOf ⟨p.toArray⟩
theorem numP_bs (s : ByteArray) : numP (bs s) = numOf s := by
  unfold numP
  rw [show (⟨(bs s).toArray⟩ : ByteArray) = s from bs_inj rfl]
/-- One piece after another, at most 64. -/
def listR (out : List Int) : List (List UInt8) → List Int × Bool
  | [] => (out, true)
  | p :: ps => if (numP p).2 = true ∧ out.length ≠ 64 then listR (out ++ [(numP p).1]) ps else ([], false)
theorem listR_long (ps : List (List UInt8)) : ∀ out : List Int, out.length ≤ 64 → 64 < out.length + ps.length → listR out ps = ([], false) := by
  induction ps with
  | nil => intro out h1 h2; simp at h2; omega
  | cons p ps ih =>
    intro out h1 h2
    rw [listR]
    split
    · rename_i h
      refine ih _ ?_ ?_
      · rw [List.length_append, List.length_singleton]; omega
      · rw [List.length_append, List.length_singleton]; rw [List.length_cons] at h2; omega
    · rfl
theorem listR_size (ps : List (List UInt8)) : ∀ out : List Int, out.length ≤ 64 → (listR out ps).1.length ≤ 64 := by
  induction ps with
  | nil => intro out h; exact h
  | cons p ps ih =>
    intro out h
    rw [listR]
    split
    · rename_i hc
      refine ih _ ?_
      rw [List.length_append, List.length_singleton]; omega
    · simp
theorem implList (s : ByteArray) (W : List ByteArray) (hW : W.length ≤ 1048577) (hz : ∀ w ∈ W, w.size ≤ 1048576) (h64 : W.length ≤ 64) (d : Nat) : ∀ (i : Nat) (out : List Int), i + d = W.length → out.length = i →
    Ev (fun k => impl_ReadList.l0 k W out W (W.length : Int) (i : Int)) (listR out ((W.drop i).map bs)) := by
  induction d with
  | zero =>
    intro i out hi ho
    refine Ev.succ ?_
    rw [List.drop_eq_nil_of_le (by omega)]
    simp only [impl_ReadList.l0, if_neg (show ¬ (i : Int) < (W.length : Int) by omega)]
    exact Ev.now _
  | succ d ih =>
    intro i out hi ho
    refine Ev.succ ?_
    have hlt : i < W.length := by omega
    have e1 : wrap64 ((i : Int) + 1) = ((i + 1 : Nat) : Int) := by rw [w64 (by omega) (by omega)]; omega
    have er : rdOf ByteArray.empty W (i : Int) = W[i] := by simp [rdOf, List.getD_eq_getElem?_getD, List.getElem?_eq_getElem hlt]
    have hwz := hz _ (List.getElem_mem hlt)
    rw [List.drop_eq_getElem_cons hlt, List.map_cons, listR, numP_bs]
    simp only [impl_ReadList.l0, if_pos (show (i : Int) < (W.length : Int) by omega), if_pos (show (0 : Int) ≤ (i : Int) by omega), er, implNum_form hwz, Option.bind_some, e1, if_neg (show ¬ (W.length : Int) > 64 by omega), if_pos (show out.length < 17592186044416 by omega)]
    by_cases hk : (numOf W[i]).2 = true
    · rw [if_pos ⟨hk, by omega⟩]
      simp only [if_pos hk]
      exact ih (i + 1) _ (by omega) (by rw [List.length_append, List.length_singleton]; omega)
    · rw [if_neg (fun z => hk z.1)]
      simp only [if_neg hk]
      exact Ev.now _
theorem implLong (s : ByteArray) (W : List ByteArray) (hW : W.length ≤ 1048577) (hz : ∀ w ∈ W, w.size ≤ 1048576) (h64 : 64 < W.length) : Ev (fun k => impl_ReadList.l0 k W [] W (W.length : Int) 0) ([], false) := by
  refine Ev.succ ?_
  have hlt : 0 < W.length := by omega
  have er : rdOf ByteArray.empty W (0 : Int) = W[0] := by
    have : rdOf ByteArray.empty W ((0 : Nat) : Int) = W[0] := by simp [rdOf, List.getD_eq_getElem?_getD, List.getElem?_eq_getElem hlt]
    exact this
  have hwz := hz _ (List.getElem_mem hlt)
  simp only [impl_ReadList.l0, if_pos (show (0 : Int) < (W.length : Int) by omega), if_pos (show (0 : Int) ≤ 0 by omega), er, implNum_form hwz, Option.bind_some, if_pos (show (W.length : Int) > 64 by omega)]
  by_cases hk : (numOf W[0]).2 = true
  · simp only [if_pos hk]; exact Ev.now _
  · simp only [if_neg hk]; exact Ev.now _
theorem specList (s : ByteArray) (hs : s.size ≤ 1048576) (hne : (s.toList != ([110, 111, 110, 101] : List UInt8)) = true) (d : Nat) : ∀ (a i : Nat) (out : List Int), i + d = s.size → a ≤ i → out.length ≤ 64 →
    Ev (fun k => spec_l01Numbers.l0 k s out (a : Int) (i : Int)) (listR out (aheadP (bs (s.extract a i)) (piecesL 44 ((bs s).drop i)))) := by
  have hl := bs_len s
  have htell : ∀ (a i : Nat) (out : List Int) (r : List Int × Bool), a ≤ i → i ≤ s.size → out.length ≤ 64 →
      (∀ n : Int, numOf (s.extract a i) = (n, true) → out.length ≠ 64 → Ev (fun k => spec_l01Numbers.l0 k s (out ++ [n]) ((i + 1 : Nat) : Int) ((i + 1 : Nat) : Int)) r) → ((numOf (s.extract a i)).2 = true ∧ out.length ≠ 64 ∨ r = ([], false)) →
      Ev (fun k => spec_l01Numbers.j2 k s out (a : Int) (i : Int) false) r := by
    intro a i out r hai his ho hgo hor
    have e1 : wrap64 ((i : Int) + 1) = ((i + 1 : Nat) : Int) := by rw [w64 (by omega) (by omega)]; omega
    have hz : (s.extract a i).size ≤ 1048576 := by rw [ByteArray.size_extract]; omega
    refine Ev.succ ?_
    simp only [spec_l01Numbers.j2, Bool.false_eq_true, if_false, if_pos (show (0 : Int) ≤ (a : Int) by omega), if_pos (show (a : Int) ≤ (i : Int) by omega), if_pos (show (i : Int) ≤ (s.size : Int) by omega), Int.toNat_natCast, e1]
    refine Ev.bind (value_ev hz) ?_
    cases hnum : numOf (s.extract a i) with
    | mk n b =>
      rw [hnum] at hor
      cases b with
      | false =>
        rcases hor with h | rfl
        · cases h.1
        · simp only [Bool.false_eq_true, if_false]
          exact Ev.now _
      | true =>
        by_cases h6 : out.length = 64
        · rcases hor with h | rfl
          · exact absurd h6 h.2
          · simp only [if_true, if_pos (show (out.length : Int) = 64 by omega)]
            exact Ev.now _
        · simp only [if_true, if_neg (show ¬ (out.length : Int) = 64 by omega), if_pos (show out.length < 17592186044416 by omega)]
          exact hgo n hnum h6
  induction d with
  | zero =>
    intro a i out hi hai ho
    obtain rfl : i = s.size := by omega
    refine Ev.succ ?_
    rw [List.drop_eq_nil_of_le (by omega)]
    simp only [spec_l01Numbers.l0, if_pos (show (s.size : Int) ≤ (s.size : Int) by omega), hne]
    refine Ev.succ ?_
    simp only [spec_l01Numbers.j1, if_true, if_neg (show ¬ (s.size : Int) < (s.size : Int) by omega)]
    have er : aheadP (bs (s.extract a s.size)) (piecesL 44 []) = [bs (s.extract a s.size)] := by simp [piecesL, aheadP]
    rw [er, listR, numP_bs]
    refine htell a s.size out _ hai (Nat.le_refl _) ho ?_ ?_
    · intro n hn h6
      rw [hn, if_pos ⟨rfl, h6⟩]
      refine Ev.succ ?_
      simp only [spec_l01Numbers.l0, if_neg (show ¬ ((s.size + 1 : Nat) : Int) ≤ (s.size : Int) by omega)]
      refine Ev.succ ?_
      simp only [spec_l01Numbers.j1, Bool.false_eq_true, if_false]
      exact Ev.now _
    · by_cases hc : (numOf (s.extract a s.size)).2 = true ∧ out.length ≠ 64
      · exact .inl hc
      · exact .inr (by rw [if_neg hc])
  | succ d ih =>
    intro a i out hi hai ho
    have hlt : i < s.size := by omega
    have hbl : i < (bs s).length := by omega
    have e1 : wrap64 ((i : Int) + 1) = ((i + 1 : Nat) : Int) := by rw [w64 (by omega) (by omega)]; omega
    have hb := bt_nat s i hlt
    refine Ev.succ ?_
    simp only [spec_l01Numbers.l0, if_pos (show (i : Int) ≤ (s.size : Int) by omega), hne]
    refine Ev.succ ?_
    simp only [spec_l01Numbers.j1, if_true, if_pos (show (i : Int) < (s.size : Int) by omega), if_pos (show (0 : Int) ≤ (i : Int) by omega), hb]
    rw [List.drop_eq_getElem_cons hbl, piecesL]
    by_cases hc : (bs s)[i] = (44 : UInt8)
    · rw [if_pos hc]
      have hcb : ((((bs s)[i]).toNat : Int) != 44) = false := by rw [hc]; rfl
      simp only [hcb]
      have er : aheadP (bs (s.extract a i)) ([] :: piecesL 44 ((bs s).drop (i + 1))) = bs (s.extract a i) :: piecesL 44 ((bs s).drop (i + 1)) := by simp [aheadP]
      rw [er, listR, numP_bs]
      refine htell a i out _ hai (by omega) ho ?_ ?_
      · intro n hn h6
        rw [hn, if_pos ⟨rfl, h6⟩]
        have h := ih (i + 1) (i + 1) (out ++ [n]) (by omega) (Nat.le_refl _) (by rw [List.length_append, List.length_singleton]; omega)
        have e0 : bs (s.extract (i + 1) (i + 1)) = [] := by rw [extract_mid]; simp
        rw [e0, aheadP_nil _ (piecesL_pos _ _)] at h
        exact h
      · by_cases hk : (numOf (s.extract a i)).2 = true ∧ out.length ≠ 64
        · exact .inl hk
        · exact .inr (by rw [if_neg hk])
    · rw [if_neg hc, aheadP_head _ _ _ (piecesL_pos _ _)]
      have hcb : ((((bs s)[i]).toNat : Int) != 44) = true := by
        refine bne_iff_ne.mpr (fun e => hc (UInt8.toNat_inj.mp ?_))
        show _ = 44
        omega
      have e0 : bs (s.extract a i) ++ [(bs s)[i]] = bs (s.extract a (i + 1)) := by
        rw [extract_mid, extract_mid, show i + 1 - a = (i - a) + 1 by omega]
        rw [List.take_add_one]
        congr 1
        rw [List.getElem?_drop, show a + (i - a) = i by omega, List.getElem?_eq_getElem hbl]
        rfl
      simp only [hcb]
      refine Ev.succ ?_
      simp only [spec_l01Numbers.j2, if_true, e1]
      rw [e0]
      exact ih a (i + 1) out (by omega) (by omega) ho
/-- What both answer. -/
def readV (s : ByteArray) : List Int × Bool := if s.toList = ([110, 111, 110, 101] : List UInt8) then ([], true) else listR [] (piecesL 44 (bs s))
theorem readV_size (s : ByteArray) : (readV s).1.length ≤ 64 := by
  unfold readV
  split
  · simp
  · exact listR_size _ [] (by simp)
theorem specRead_ev {s : ByteArray} (hs : s.size ≤ 1048576) : Ev (fun k => spec_ReadList.f k s) (readV s) := by
  unfold spec_ReadList.f spec_l01Numbers.f readV
  by_cases hn : s.toList = ([110, 111, 110, 101] : List UInt8)
  · rw [if_pos hn]
    have hb : (s.toList != ([110, 111, 110, 101] : List UInt8)) = false := by rw [hn]; rfl
    refine Ev.bind (a := (([] : List Int), true)) ?_ (Ev.now _)
    refine Ev.succ ?_
    simp only [spec_l01Numbers.l0, if_pos (show (0 : Int) ≤ (s.size : Int) by omega), hb]
    refine Ev.succ ?_
    simp only [spec_l01Numbers.j1, Bool.false_eq_true, if_false]
    exact Ev.now _
  · rw [if_neg hn]
    have h := specList s hs (bne_iff_ne.mpr hn) s.size 0 0 [] (by omega) (Nat.le_refl _) (by simp)
    have e0 : bs (s.extract 0 0) = [] := by rw [extract_mid]; simp
    rw [e0, List.drop_zero, aheadP_nil _ (piecesL_pos _ _)] at h
    exact Ev.bind h (Ev.now _)
theorem implRead_ev {s : ByteArray} (hs : s.size ≤ 1048576) : Ev (fun k => impl_ReadList.f k s) (readV s) := by
  unfold impl_ReadList.f readV
  have hl := bs_len s
  by_cases hn : s.toList = ([110, 111, 110, 101] : List UInt8)
  · simp only [if_pos hn]
    exact Ev.now _
  · simp only [if_neg hn, split_form hs 44, Option.bind_some]
    have hlen := pieces_length s 44
    have hle := piecesL_length 44 (bs s)
    have hz : ∀ w ∈ piecesS s 44, w.size ≤ 1048576 := by
      intro w hw
      have hm : bs w ∈ piecesL 44 (bs s) := by rw [← pieces_bs]; exact List.mem_map_of_mem hw
      have := piece_size 44 (bs s) _ hm
      rw [bs_len] at this
      omega
    by_cases h64 : (piecesS s 44).length ≤ 64
    · have h := implList s (piecesS s 44) (by omega) hz h64 (piecesS s 44).length 0 [] (by omega) rfl
      rw [List.drop_zero, pieces_bs] at h
      exact h
    · rw [listR_long _ [] (by simp) (by simp; omega)]
      exact implLong s (piecesS s 44) (by omega) hz (by omega)
theorem FnExactReadList : laws_FnExactReadList.Pure := by
  intro s hs
  apply Ev.rounds
  unfold laws_FnExactReadList.f
  by_cases hl : (s.size : Int) > 1048576
  · simp only [if_pos hl]
    exact Ev.now _
  · have hl' : s.size ≤ 1048576 := by omega
    have hz := readV_size s
    simp only [if_neg hl]
    refine Ev.bind (specRead_ev hl') (Ev.bind (implRead_ev hl') ?_)
    refine Ev.bind (eqS_ev (l := (readV s).1) (by omega)) ?_
    simp only [if_true, bne_self_eq_false]
    refine Ev.succ ?_
    simp only [laws_FnExactReadList.j0, Bool.false_eq_true, if_false]
    refine Ev.bind (mark_ev (s := 1) (by decide) (l := (readV s).1) (by omega)) ?_
    refine Ev.bind (held_ev (s := 1) (by decide) (n := (readV s).1.length) (by omega)) ?_
    simp only [if_neg (show ¬ (1 + ((readV s).1.length : Int)) < 0 by omega), if_true]
    refine Ev.bind (implRead_ev hl') ?_
    refine Ev.bind (eqS_ev (l := (readV s).1) (by omega)) ?_
    simp only [if_true, bne_self_eq_false]
    refine Ev.succ ?_
    simp only [laws_FnExactReadList.j1, Bool.false_eq_true, if_false]
    refine Ev.bind (held_ev (s := 1) (by decide) (n := (readV s).1.length) (by omega)) ?_
    simp only [if_neg (show ¬ (1 + ((readV s).1.length : Int)) < 0 by omega), if_true]
    exact Ev.now _
end Go.Proofs.YtbfaadhblmfcjaaDoor.Pure
