/- The program's ReadFraction returns what the reference's returns, for all arguments; no condition. -/
import Derived.Test.YtbfaadhblmfcjaaDoorP0
import Derived.Test.YtbfaadhblmfcjaaDoorWMore
import Derived.OpenShut
import Derived.Laws.BitsAllLaws
import Derived.Test.YtbfaadhblmfcjaaDoorProg
import Derived.Ground.NamesProg
import Derived.Shelf.Strings.SlTrimAscii
import Derived.Shelf.Strings.OnBuilder
import Derived.Shelf.Strings.Repeat
import Derived.Test.YtbfaadhblmfcjaaDoorP1
import Derived.Test.YtbfaadhblmfcjaaDoorExtDecimal
import Derived.Lib.ItoaLen
import Derived.Test.YtbfaadhblmfcjaaDoorBase
import Derived.Test.YtbfaadhblmfcjaaDoorForms
import Derived.Test.YtbfaadhblmfcjaaDoorP2
import Derived.Test.YtbfaadhblmfcjaaDoorP4
import Derived.Test.YtbfaadhblmfcjaaDoorExtWide
import Derived.Test.YtbfaadhblmfcjaaDoorP7
import Derived.Test.YtbfaadhblmfcjaaDoorP10
import Derived.Test.YtbfaadhblmfcjaaDoorExtCut
/- When a text is a wave, as the program (it trims zeros and ones off) and as the reference (it looks at each byte) ask it. The texts are shorter than 2^62 bytes. -/
namespace Go.Proofs.YtbfaadhblmfcjaaDoor.P
open Go.RowKit Go.Proofs.YtbfaadhblmfcjaaDoorW.PrintWords Go.Proofs.YtbfaadhblmfcjaaDoorW.PrintLast Go.Proofs.YtbfaadhblmfcjaaDoorW.PrintMore

/-- A text's bytes. -/
abbrev bs (s : ByteArray) : List UInt8 := s.data.toList
theorem bs_len (s : ByteArray) : (bs s).length = s.size := by simp [bs]
theorem bt_nat (s : ByteArray) (i : Nat) (h : i < s.size) : bt s (i : Int) = (((bs s)[i]'(by rw [bs_len]; exact h)).toNat : Int) := by
  unfold bt bs
  rw [dif_pos (by simpa using h)]
  simp [ByteArray.getElem_eq_getElem_data]

theorem mk_toList (l : List UInt8) : (⟨l.toArray⟩ : ByteArray).toList = l := by rw [ByteArray.toList_eq]

end Go.Proofs.YtbfaadhblmfcjaaDoor.P

/- Texts put together with a text of one byte between: one more text at the end. -/
namespace Go.Proofs.YtbfaadhblmfcjaaDoor.P
open Go.RowKit Go.Proofs.YtbfaadhblmfcjaaDoorW.PrintWords Go.Proofs.YtbfaadhblmfcjaaDoorW.PrintLast Go.Proofs.YtbfaadhblmfcjaaDoorW.PrintMore
set_option linter.unusedVariables false
set_option linter.unusedSimpArgs false

theorem bs_inj {a b : ByteArray} (h : bs a = bs b) : a = b := Go.WideShapes.bytes_inj h
theorem bs_append (a b : ByteArray) : bs (a ++ b) = bs a ++ bs b := by simp [bs, ByteArray.data_append]
theorem nil_append (a : ByteArray) : (⟨#[]⟩ : ByteArray) ++ a = a := bs_inj (by rw [bs_append]; rfl)
end Go.Proofs.YtbfaadhblmfcjaaDoor.P

/- The reference's decimal spelling of a number is Go's own; no condition beyond 64 bits. -/
namespace Go.Proofs.YtbfaadhblmfcjaaDoor.P
open Go.RowKit Go.Proofs.YtbfaadhblmfcjaaDoorW.PrintWords Go.Proofs.YtbfaadhblmfcjaaDoorW.PrintLast Go.Proofs.YtbfaadhblmfcjaaDoorW.PrintMore
set_option linter.unusedSimpArgs false
set_option linter.unusedVariables false
open Go.Lib (decDigits itoa nDigits)

theorem strOf_bytes (l : List UInt8) : strOfNums (l.map fun b => (b.toNat : Int)) = ⟨l.toArray⟩ := by
  unfold strOfNums
  congr 2
  rw [List.map_map]
  have : ((fun n : Int => UInt8.ofNat n.toNat) ∘ fun b : UInt8 => (b.toNat : Int)) = id := by
    funext b
    simp
  rw [this, List.map_id]
/-- The digits, as numbers. -/
def dI (u : Nat) : List Int := (decDigits u).map fun b => (b.toNat : Int)
theorem dig_byte (d : Nat) (h : d < 10) : (UInt8.ofNat (48 + d)).toNat = 48 + d := by
  rw [UInt8.toNat_ofNat']; omega
theorem dI_small {u : Nat} (h : u < 10) : dI u = [(48 + u : Int)] := by
  unfold dI
  rw [decDigits, dif_pos h, List.map_cons, List.map_nil, dig_byte u h]
  rfl
theorem dI_big {u : Nat} (h : ¬ u < 10) : dI u = dI (u / 10) ++ [((48 + u % 10 : Nat) : Int)] := by
  unfold dI
  rw [decDigits, dif_neg h, List.map_append, List.map_cons, List.map_nil, dig_byte (u % 10) (by omega)]
theorem dI_length (u : Nat) (h : u ≤ 9223372036854775808) : (dI u).length ≤ 21 := by
  unfold dI
  rw [List.length_map]
  by_cases h0 : u = 9223372036854775808
  · have e := Go.Lib.itoa_length_le (-(u : Int)) (by omega) (by omega)
    rw [Go.Lib.itoa_neg u (by omega), List.length_cons] at e
    omega
  · have e := Go.Lib.itoa_length_le (u : Int) (by omega) (by omega)
    rwa [Go.Lib.itoa_nonneg] at e
theorem dig_loop (x0 : Int) (sg : Int) (hsg : sg = 1 ∨ sg = -1) (r : ByteArray) : ∀ (w : Nat), 0 < w → w ≤ 9223372036854775808 → (sg = 1 → w ≤ 9223372036854775807) → ∀ acc : List Int, acc.length + (dI w).length ≤ 1000 →
    Ev (fun k => spec_l01Dec.l0 k x0 (acc ++ (dI w).reverse) 0) r → Ev (fun k => spec_l01Dec.l0 k x0 acc (sg * (w : Int))) r := by
  intro w
  induction w using Nat.strongRecOn with
  | ind w ih =>
    intro h0 h1 h1' acc hacc h
    have hm : Int.tmod (sg * (w : Int)) 10 = sg * ((w % 10 : Nat) : Int) := by
      rcases hsg with rfl | rfl
      · rw [Int.one_mul, Int.one_mul]; exact (Int.ofNat_tmod w 10).symm
      · rw [Int.neg_one_mul, Int.neg_one_mul, Int.neg_tmod]; congr 1
    have hd : Int.tdiv (sg * (w : Int)) 10 = sg * ((w / 10 : Nat) : Int) := by
      rcases hsg with rfl | rfl
      · rw [Int.one_mul, Int.one_mul]; exact (Int.ofNat_tdiv w 10).symm
      · rw [Int.neg_one_mul, Int.neg_one_mul, Int.neg_tdiv]; congr 1
    have hne : ¬ sg * (w : Int) = 0 := by rcases hsg with rfl | rfl <;> omega
    have hlt : w % 10 < 10 := Nat.mod_lt _ (by decide)
    have hdl : acc.length < 140737488355328 := by omega
    have hq : wrap64 (sg * ((w / 10 : Nat) : Int)) = sg * ((w / 10 : Nat) : Int) := by
      rcases hsg with rfl | rfl <;> exact w64 (by omega) (by omega)
    have hstep : Ev (fun k => spec_l01Dec.l0 k x0 (acc ++ [((48 + w % 10 : Nat) : Int)]) (sg * ((w / 10 : Nat) : Int))) r := by
      by_cases hs : w < 10
      · rw [dI_small hs, List.reverse_singleton] at h
        have e1 : w / 10 = 0 := by omega
        have e2 : w % 10 = w := by omega
        rw [e1, e2]
        have e3 : sg * ((0 : Nat) : Int) = 0 := by omega
        rw [e3]
        have e4 : ((48 + w : Nat) : Int) = 48 + (w : Int) := by omega
        rw [e4]
        exact h
      · rw [dI_big hs, List.reverse_append, List.reverse_singleton, ← List.append_assoc] at h
        refine ih (w / 10) (by omega) (by omega) (by omega) (by omega) _ ?_ h
        rw [dI_big hs, List.length_append, List.length_singleton] at hacc
        rw [List.length_append, List.length_singleton]
        omega
    refine Ev.succ ?_
    simp only [spec_l01Dec.l0, if_neg hne, hm, hd, hq, if_pos hdl]
    by_cases hneg : sg * ((w % 10 : Nat) : Int) < 0
    · have e5 : wrap64 (48 + wrap64 (-(sg * ((w % 10 : Nat) : Int)))) % 256 = ((48 + w % 10 : Nat) : Int) := by
        rcases hsg with rfl | rfl
        · omega
        · rw [w64 (x := -(-1 * ((w % 10 : Nat) : Int))) (by omega) (by omega), w64 (by omega) (by omega)]; omega
      simp only [if_pos hneg, e5]
      exact hstep
    · have e5 : wrap64 (48 + sg * ((w % 10 : Nat) : Int)) % 256 = ((48 + w % 10 : Nat) : Int) := by
        rcases hsg with rfl | rfl
        · rw [w64 (by omega) (by omega)]; omega
        · rw [w64 (by omega) (by omega)]; omega
      simp only [if_neg hneg, e5]
      exact hstep
theorem rev_loop (l : List Int) (hl : l.length ≤ 1000) (d : Nat) : ∀ i : Nat, i + 1 = d → d ≤ l.length → Ev (fun k => spec_l01Dec.l1 k l (l.drop d).reverse (i : Int)) (strOfNums l.reverse) := by
  induction d with
  | zero => intro i h; omega
  | succ d ih =>
    intro i hi hd
    obtain rfl : i = d := by omega
    refine Ev.succ ?_
    have hlt : i < l.length := by omega
    have e2 : (l.drop (i + 1)).reverse ++ [l[i]] = (l.drop i).reverse := by
      rw [List.drop_eq_getElem_cons hlt, List.reverse_cons]
    simp only [spec_l01Dec.l1, if_pos (show (i : Int) ≥ 0 by omega), if_pos (show (i : Int) < (l.length : Int) by omega), if_pos (show (l.drop (i + 1)).reverse.length < 140737488355328 by rw [List.length_reverse, List.length_drop]; omega), rd_at l i hlt, e2]
    cases i with
    | zero =>
      have e1 : wrap64 (((0 : Nat) : Int) - 1) = -1 := by rw [w64 (by omega) (by omega)]; omega
      rw [e1, List.drop_zero]
      refine Ev.succ ?_
      simp only [spec_l01Dec.l1, if_neg (show ¬ (-1 : Int) ≥ 0 by decide)]
      exact Ev.now _
    | succ j =>
      have e1 : wrap64 (((j + 1 : Nat) : Int) - 1) = (j : Int) := by rw [w64 (by omega) (by omega)]; omega
      rw [e1]
      exact ih j rfl (by omega)
theorem turn_ev (l : List Int) (hl : l.length ≤ 1000) (h0 : 0 < l.length) : Ev (fun k => spec_l01Dec.j1 k l) (strOfNums l.reverse) := by
  refine Ev.succ ?_
  have e1 : wrap64 ((l.length : Int) - 1) = ((l.length - 1 : Nat) : Int) := by rw [w64 (by omega) (by omega)]; omega
  simp only [spec_l01Dec.j1, e1]
  have h := rev_loop l hl l.length (l.length - 1) (by omega) (Nat.le_refl _)
  rw [List.drop_length, List.reverse_nil] at h
  exact h
theorem dI_pos (u : Nat) : 0 < (dI u).length := by
  by_cases h : u < 10
  · rw [dI_small h]; simp
  · rw [dI_big h, List.length_append]; simp
/-- The spelling. -/
def decS (n : Int) : ByteArray := ⟨(itoa n).toArray⟩
theorem implDec_form {n : Int} (h : -9223372036854775808 ≤ n ∧ n ≤ 9223372036854775807) : impl_Decimal.f n = some (decS n) := by
  unfold impl_Decimal.f; rw [if_pos h]; rfl
theorem specDec_ev {n : Int} (h : -9223372036854775808 ≤ n ∧ n ≤ 9223372036854775807) : Ev (fun k => spec_l01Dec.f k n) (decS n) := by
  unfold spec_l01Dec.f
  by_cases h0 : n = 0
  · subst h0
    have e : decS 0 = (⟨#[48]⟩ : ByteArray) := by
      have e2 := strOf_bytes (decDigits 0)
      have e3 := dI_small (u := 0) (by decide)
      unfold dI at e3
      rw [e3] at e2
      have e4 : itoa 0 = decDigits 0 := Go.Lib.itoa_nonneg 0
      unfold decS
      rw [e4, ← e2]
      rfl
    simp only [if_true]
    rw [e]
    exact Ev.now _
  · simp only [if_neg h0]
    by_cases hn : n < 0
    · obtain ⟨u, hu⟩ := Int.eq_ofNat_of_zero_le (show 0 ≤ -n by omega)
      obtain rfl : n = -(u : Int) := by omega
      have hl := dI_length u (by omega)
      have hlp := dI_pos u
      have hd := dig_loop (-(u : Int)) (-1) (.inr rfl) (decS (-(u : Int))) u (by omega) (by omega) (by omega) [] (by simp; omega)
      rw [Int.neg_one_mul] at hd
      refine hd ?_
      refine Ev.succ ?_
      simp only [spec_l01Dec.l0, if_true, if_pos hn, List.nil_append, if_pos (show (dI u).reverse.length < 140737488355328 by rw [List.length_reverse]; omega)]
      have ht := turn_ev ((dI u).reverse ++ [45]) (by rw [List.length_append, List.length_reverse]; simp; omega) (by simp)
      refine Ev.eq ht ?_
      rw [List.reverse_append, List.reverse_reverse, List.reverse_singleton, decS, Go.Lib.itoa_neg u (by omega), ← strOf_bytes]
      rfl
    · obtain ⟨u, rfl⟩ := Int.eq_ofNat_of_zero_le (show 0 ≤ n by omega)
      have hl := dI_length u (by omega)
      have hlp := dI_pos u
      have hd := dig_loop (u : Int) 1 (.inl rfl) (decS (u : Int)) u (by omega) (by omega) (by omega) [] (by simp; omega)
      rw [Int.one_mul] at hd
      refine hd ?_
      refine Ev.succ ?_
      simp only [spec_l01Dec.l0, if_true, if_neg hn, List.nil_append]
      have ht := turn_ev (dI u).reverse (by rw [List.length_reverse]; omega) (by rw [List.length_reverse]; exact hlp)
      refine Ev.eq ht ?_
      rw [List.reverse_reverse, decS, Go.Lib.itoa_nonneg, ← strOf_bytes]
      rfl
theorem decS_size {n : Int} (h : -9223372036854775808 ≤ n ∧ n ≤ 9223372036854775807) : (decS n).size ≤ 21 := by
  have := Go.Lib.itoa_length_le n h.1 h.2
  show (itoa n).toArray.size ≤ 21
  simpa using this
end Go.Proofs.YtbfaadhblmfcjaaDoor.P

/- The greatest common divisor: the program's loop, for all numbers, and the reference's, for numbers that are not negative, end and give the same; the numbers are of 64 bits. -/
namespace Go.Proofs.YtbfaadhblmfcjaaDoor.P
open Go.RowKit Go.Proofs.YtbfaadhblmfcjaaDoorW.PrintWords Go.Proofs.YtbfaadhblmfcjaaDoorW.PrintLast Go.Proofs.YtbfaadhblmfcjaaDoorW.PrintMore

theorem tmod_lt {a b : Int} (hb : b ≠ 0) : (Int.tmod a b).natAbs < b.natAbs := by
  rw [Int.natAbs_tmod]; exact Nat.mod_lt _ (by omega)
/-- What both loops come to: the signs are dropped at the end. -/
theorem implGcd (n : Nat) : ∀ (a b : Int), b.natAbs ≤ n → -9223372036854775808 < a → a ≤ 9223372036854775807 → -9223372036854775808 < b → b ≤ 9223372036854775807 →
    Ev (fun k => impl_gcd.l0 k a b) (Int.gcd a b : Int) := by
  induction n with
  | zero =>
    intro a b hn ha0 ha hb0 hb
    refine Ev.succ ?_
    have hb : b = 0 := by omega
    subst hb
    simp only [impl_gcd.l0, if_true]
    refine Ev.const ?_
    rw [w64 (by omega) (by omega)]
    unfold mx
    congr 1
    simp only [Int.gcd_zero_right]
    split <;> omega
  | succ n ih =>
    intro a b hn ha0 ha hb0 hb
    refine Ev.succ ?_
    by_cases hz : b = 0
    · subst hz
      simp only [impl_gcd.l0, if_true]
      refine Ev.const ?_
      rw [w64 (by omega) (by omega)]
      unfold mx
      congr 1
      simp only [Int.gcd_zero_right]
      split <;> omega
    · simp only [impl_gcd.l0, hz, if_false]
      have h1 := tmod_lt (a := a) hz
      have e : Int.gcd b (Int.tmod a b) = Int.gcd a b := by
        unfold Int.gcd
        rw [Int.natAbs_tmod, Nat.gcd_comm a.natAbs, Nat.gcd_rec b.natAbs a.natAbs, Nat.gcd_comm]
      exact Ev.eq (ih b (Int.tmod a b) (by omega) hb0 hb (by omega) (by omega)) (by rw [e])
theorem specGcd (n : Nat) : ∀ (a b : Int), b.natAbs ≤ n → 0 ≤ a → 0 ≤ b →
    Ev (fun k => spec_l01Gcd.l0 k a b) (Int.gcd a b : Int) := by
  induction n with
  | zero =>
    intro a b hn ha hb
    refine Ev.succ ?_
    have hb : b = 0 := by omega
    subst hb
    simp only [spec_l01Gcd.l0, gt_iff_lt, Int.lt_irrefl, if_false]
    refine Ev.const ?_
    congr 1
    simp only [Int.gcd_zero_right]
    omega
  | succ n ih =>
    intro a b hn ha hb
    refine Ev.succ ?_
    by_cases hz : b = 0
    · subst hz
      simp only [spec_l01Gcd.l0, gt_iff_lt, Int.lt_irrefl, if_false]
      refine Ev.const ?_
      congr 1
      simp only [Int.gcd_zero_right]
      omega
    · have hp : b > 0 := by omega
      simp only [spec_l01Gcd.l0, hz, hp, if_true, if_false]
      have h1 := tmod_lt (a := a) hz
      have h2 := Int.tmod_nonneg b ha
      have e : Int.gcd b (Int.tmod a b) = Int.gcd a b := by
        unfold Int.gcd
        rw [Int.natAbs_tmod, Nat.gcd_comm a.natAbs, Nat.gcd_rec b.natAbs a.natAbs, Nat.gcd_comm]
      exact Ev.eq (ih b (Int.tmod a b) (by omega) (by omega) (by omega)) (by rw [e])
theorem gcd_ev {a b : Int} (ha0 : -9223372036854775808 < a) (ha : a ≤ 9223372036854775807) (hb0 : -9223372036854775808 < b) (hb : b ≤ 9223372036854775807) :
    Ev (fun k => impl_gcd.f k a b) (Int.gcd a b : Int) := implGcd b.natAbs a b (Nat.le_refl _) ha0 ha hb0 hb
theorem specGcd_ev {a b : Int} (ha : 0 ≤ a) (hb : 0 ≤ b) : Ev (fun k => spec_l01Gcd.f k a b) (Int.gcd a b : Int) := specGcd b.natAbs a b (Nat.le_refl _) ha hb
end Go.Proofs.YtbfaadhblmfcjaaDoor.P

/- When a fraction is valid, as the program and as the reference ask it; no condition. -/
namespace Go.Proofs.YtbfaadhblmfcjaaDoor.P
open Go.RowKit Go.Proofs.YtbfaadhblmfcjaaDoorW.PrintWords Go.Proofs.YtbfaadhblmfcjaaDoorW.PrintLast Go.Proofs.YtbfaadhblmfcjaaDoorW.PrintMore
set_option linter.unusedSimpArgs false
set_option linter.unusedVariables false

/-- In lowest terms, and both parts not too great. -/
def okFrac (n d : Int) : Bool := decide (1 ≤ d ∧ d ≤ 1000000000000000000) && (decide (-1000000000000000000 ≤ n ∧ n ≤ 1000000000000000000) && decide ((Int.gcd n d : Int) = 1))
theorem gcd_max (n d : Int) : Int.gcd (if n > -n then n else -n) d = Int.gcd n d := by
  split
  · rfl
  · exact Int.neg_gcd
theorem specIs_ev (n d : Int) : Ev (fun k => spec_l01FIs.f k n d) (okFrac n d) := by
  unfold spec_l01FIs.f spec_l00Max.f okFrac
  simp only [in_form, Option.bind_some]
  by_cases h1 : 1 ≤ d ∧ d ≤ 1000000000000000000
  · by_cases h2 : -1000000000000000000 ≤ n ∧ n ≤ 1000000000000000000
    · simp only [h1, h2, and_self, decide_true, if_true, Bool.true_and]
      rw [w64 (by omega) (by omega)]
      have e : (if n > -n then some n else some (-n)) = some (if n > -n then n else -n) := by split <;> rfl
      rw [e]
      simp only [Option.bind_some]
      have h0 : 0 ≤ (if n > -n then n else -n) := by split <;> omega
      refine Ev.bind (specGcd_ev h0 (by omega)) (Ev.const ?_)
      rw [gcd_max]
      congr 1
    · simp only [h1, h2, and_self, decide_true, decide_false, if_true, Bool.false_eq_true, if_false, Bool.false_and, Bool.and_false]
      exact Ev.now _
  · simp only [h1, decide_false, Bool.false_eq_true, if_false, Bool.false_and]
    exact Ev.now _
theorem valid_ev (n d : Int) : Ev (fun k => impl_ValidFraction.f k n d) (okFrac n d) := by
  unfold impl_ValidFraction.f okFrac
  simp only [within_form, Option.bind_some]
  by_cases h1 : 1 ≤ d ∧ d ≤ 1000000000000000000
  · by_cases h2 : -1000000000000000000 ≤ n ∧ n ≤ 1000000000000000000
    · simp only [h1, h2, and_self, decide_true, if_true, Bool.true_and]
      refine Ev.bind (gcd_ev (by omega) (by omega) (by omega) (by omega)) (Ev.const ?_)
      congr 1
    · simp only [h1, h2, and_self, decide_true, decide_false, if_true, Bool.false_eq_true, if_false, Bool.false_and, Bool.and_false]
      exact Ev.now _
  · simp only [h1, decide_false, Bool.false_eq_true, if_false, Bool.false_and]
    exact Ev.now _
end Go.Proofs.YtbfaadhblmfcjaaDoor.P

/- When a fraction is valid, as the program and as the reference ask it, and how both spell it; no condition beyond 64 bits. -/
namespace Go.Proofs.YtbfaadhblmfcjaaDoor.P
open Go.RowKit Go.Proofs.YtbfaadhblmfcjaaDoorW.PrintWords Go.Proofs.YtbfaadhblmfcjaaDoorW.PrintLast Go.Proofs.YtbfaadhblmfcjaaDoorW.PrintMore
set_option linter.unusedSimpArgs false
set_option linter.unusedVariables false

/-- The spelling of a fraction. -/
def fracS (a b : Int) : ByteArray := if b = 1 then decS a else (decS a ++ (⟨#[47]⟩ : ByteArray)) ++ decS b
theorem slash_size {n : Int} (h : -9223372036854775808 ≤ n ∧ n ≤ 9223372036854775807) : (decS n ++ (⟨#[47]⟩ : ByteArray)).size ≤ 22 := by
  have h1 := decS_size h
  have e : (⟨#[47]⟩ : ByteArray).size = 1 := rfl
  rw [ByteArray.size_append, e]
  omega
theorem implFrac_form {a b : Int} (ha : -9223372036854775808 ≤ a ∧ a ≤ 9223372036854775807) (hb : -9223372036854775808 ≤ b ∧ b ≤ 9223372036854775807) : impl_fractionText.f a b = some (fracS a b) := by
  unfold impl_fractionText.f fracS
  have h1 := decS_size ha
  have h2 := decS_size hb
  have h3 := slash_size ha
  by_cases h : b = 1
  · rw [if_pos h, if_pos h, implDec_form ha]; rfl
  · rw [if_neg h, if_neg h, implDec_form ha]
    simp only [Option.bind_some]
    rw [if_pos (by omega), implDec_form hb]
    simp only [Option.bind_some]
    rw [if_pos (by omega)]
theorem specFrac_ev {a b : Int} (ha : -9223372036854775808 ≤ a ∧ a ≤ 9223372036854775807) (hb : -9223372036854775808 ≤ b ∧ b ≤ 9223372036854775807) : Ev (fun k => spec_l01FText.f k a b) (fracS a b) := by
  unfold spec_l01FText.f fracS
  have h1 := decS_size ha
  have h2 := decS_size hb
  have h3 := slash_size ha
  by_cases h : b = 1
  · simp only [if_pos h]
    exact Ev.bind (specDec_ev ha) (Ev.now _)
  · simp only [if_neg h]
    refine Ev.bind (specDec_ev ha) ?_
    simp only [if_pos (show (decS a).size + 1 ≤ 9223372036854775807 by omega)]
    refine Ev.bind (specDec_ev hb) ?_
    simp only [if_pos (show (decS a ++ (⟨#[47]⟩ : ByteArray)).size + (decS b).size ≤ 9223372036854775807 by omega)]
    exact Ev.now _
end Go.Proofs.YtbfaadhblmfcjaaDoor.P

/- Reading numbers: the program's readWide (Go's own parse and spelling) and the reference's reader both take just the spellings of the numbers in the range. The texts are at most 1048576 bytes. -/
namespace Go.Proofs.YtbfaadhblmfcjaaDoor.P
open Go.RowKit Go.Proofs.YtbfaadhblmfcjaaDoorW.PrintWords Go.Proofs.YtbfaadhblmfcjaaDoorW.PrintLast Go.Proofs.YtbfaadhblmfcjaaDoorW.PrintMore
set_option linter.unusedSimpArgs false
set_option linter.unusedVariables false
open Go.Lib (decDigits itoa)

theorem dig_range : ∀ (u : Nat), ∀ b ∈ decDigits u, 48 ≤ b.toNat ∧ b.toNat ≤ 57 := by
  intro u
  induction u using Nat.strongRecOn with
  | ind u ih =>
    intro b hb
    rw [decDigits] at hb
    split at hb
    · rename_i h
      rw [List.mem_singleton.mp hb, dig_byte u h]; omega
    · rename_i h
      rcases List.mem_append.mp hb with h1 | h1
      · exact ih (u / 10) (by omega) b h1
      · rw [List.mem_singleton.mp h1, dig_byte (u % 10) (by omega)]; omega
theorem dig_len (k : Nat) : ∀ u : Nat, u < 10 ^ (k + 1) → (decDigits u).length ≤ k + 1 := by
  induction k with
  | zero =>
    intro u hu
    rw [decDigits, dif_pos (by omega)]
    simp
  | succ k ih =>
    intro u hu
    rw [decDigits]
    split
    · simp
    · have hu' : u < 10 ^ (k + 1) * 10 := by rw [← Nat.pow_succ]; exact hu
      have := ih (u / 10) (by omega)
      rw [List.length_append, List.length_singleton]
      omega
theorem dig_pos (u : Nat) : 0 < (decDigits u).length := by
  have := dI_pos u
  unfold dI at this
  rwa [List.length_map] at this
theorem parse_digits : ∀ (u : Nat), u < 18446744073709551616 → ∀ t : List UInt8, Go.Lib.parseUint10 0 (decDigits u ++ t) = Go.Lib.parseUint10 u t := by
  intro u
  induction u using Nat.strongRecOn with
  | ind u ih =>
    intro hu t
    rw [decDigits]
    split
    · rename_i h
      rw [List.singleton_append]
      simp only [Go.Lib.parseUint10, dig_byte u h]
      rw [if_pos (by omega), if_neg (by omega), if_neg (by omega)]
      congr 1
      omega
    · rename_i h
      rw [List.append_assoc, ih (u / 10) (by omega) (by omega), List.singleton_append]
      simp only [Go.Lib.parseUint10, dig_byte (u % 10) (by omega)]
      rw [if_pos (by omega), if_neg (by omega), if_neg (by omega)]
      congr 1
      omega
theorem parse_mag (u : Nat) (hu : u < 18446744073709551616) : Go.Lib.parseMag (decDigits u) = .ok u := by
  unfold Go.Lib.parseMag
  rw [if_neg (fun h => by have := dig_pos u; rw [h] at this; exact absurd this (by decide))]
  have h := parse_digits u hu []
  rw [List.append_nil] at h
  rw [h]
  rfl
theorem parse_itoa {v : Int} (h : -9223372036854775808 ≤ v ∧ v ≤ 9223372036854775807) : Go.Lib.parseIntB 64 (itoa v) = .ok v := by
  rw [Go.Lib.parseIntB_64]
  by_cases hn : v < 0
  · obtain ⟨u, hu⟩ := Int.eq_ofNat_of_zero_le (show 0 ≤ -v by omega)
    obtain rfl : v = -(u : Int) := by omega
    rw [Go.Lib.itoa_neg u (by omega)]
    unfold Go.Lib.atoiAll
    have e : (45 : UInt8).toNat = 45 := rfl
    simp only [e, or_true, if_true, parse_mag u (by omega)]
    simp
    omega
  · obtain ⟨u, rfl⟩ := Int.eq_ofNat_of_zero_le (show 0 ≤ v by omega)
    rw [Go.Lib.itoa_nonneg]
    have hm := parse_mag u (by omega)
    cases hd : decDigits u with
    | nil => have := dig_pos u; rw [hd] at this; exact absurd this (by decide)
    | cons c r =>
      have hc := dig_range u c (by rw [hd]; exact List.mem_cons_self)
      rw [hd] at hm
      unfold Go.Lib.atoiAll
      simp only [show ¬ c.toNat = 43 by omega, show ¬ c.toNat = 45 by omega, or_self, if_false, hm]
      simp
      omega
theorem decS_list (n : Int) : (decS n).toList = itoa n := by unfold decS; exact mk_toList _
theorem wide_yes {s : ByteArray} {m v : Int} (hm : 0 ≤ m ∧ m ≤ 1000000000000000000) (hv : -m ≤ v ∧ v ≤ m) (h : bs s = itoa v) : wideV s m = (v, true) := by
  unfold wideV
  rw [show s.data.toList = itoa v from h, parse_itoa (by omega)]
  simp only
  rw [if_pos ⟨by rw [mk_toList, ByteArray.toList_eq]; exact h.symm, hv⟩]
theorem wide_no {s : ByteArray} {m : Int} (h : ∀ v, -m ≤ v ∧ v ≤ m → bs s ≠ itoa v) : wideV s m = (0, false) := by
  unfold wideV
  split
  · rename_i v hp
    rw [if_neg]
    rintro ⟨h1, h2⟩
    rw [mk_toList, ByteArray.toList_eq] at h1
    exact h v h2 h1.symm
  · rfl
def endB (s : ByteArray) (m : Int) : Bool := decide (-1000000000000000000 ≤ m ∧ m ≤ 1000000000000000000) && ((decS m).toList == s.toList)
theorem great_end (s rest : ByteArray) (n : Int) (h0 : 0 ≤ n ∧ n ≤ 1000000000000000009) : Ev (fun k => spec_l01Great.l0 k s rest n (rest.size : Int)) (if (rest.size : Int) < (s.size : Int) then -n else n, endB s (if (rest.size : Int) < (s.size : Int) then -n else n)) := by
  refine Ev.succ ?_
  simp only [spec_l01Great.l0, Int.lt_irrefl, if_false, in_form, Option.bind_some]
  have hw : wrap64 (-n) = -n := w64 (by omega) (by omega)
  by_cases hc : (rest.size : Int) < (s.size : Int)
  · simp only [if_pos hc, hw]
    by_cases hr : -1000000000000000000 ≤ -n ∧ -n ≤ 1000000000000000000
    · simp only [endB, hr, and_self, decide_true, if_true, Bool.true_and]
      exact Ev.bind (specDec_ev (by omega)) (Ev.now _)
    · simp only [endB, hr, decide_false, Bool.false_eq_true, if_false, Bool.false_and]
      exact Ev.now _
  · simp only [if_neg hc]
    by_cases hr : -1000000000000000000 ≤ n ∧ n ≤ 1000000000000000000
    · simp only [endB, hr, and_self, decide_true, if_true, Bool.true_and]
      exact Ev.bind (specDec_ev (by omega)) (Ev.now _)
    · simp only [endB, hr, decide_false, Bool.false_eq_true, if_false, Bool.false_and]
      exact Ev.now _
theorem great_loop (s rest : ByteArray) (hs : rest.size ≤ 1048576) (d : Nat) : ∀ (i : Nat) (n : Int), i + d = rest.size → 0 ≤ n ∧ n ≤ 1000000000000000009 → ∃ m b, Ev (fun k => spec_l01Great.l0 k s rest n (i : Int)) (m, b) ∧ (b = true → endB s m = true) := by
  induction d with
  | zero =>
    intro i n hi hn
    obtain rfl : i = rest.size := by omega
    exact ⟨_, _, great_end s rest n hn, fun h => h⟩
  | succ d ih =>
    intro i n hi hn
    have hlt : i < rest.size := by omega
    have hb := bt_range rest (i : Int)
    have e1 : wrap64 ((i : Int) + 1) = ((i + 1 : Nat) : Int) := by rw [w64 (by omega) (by omega)]; omega
    by_cases h1 : bt rest (i : Int) < 48
    · refine ⟨0, false, Ev.succ ?_, fun h => by cases h⟩
      simp only [spec_l01Great.l0, if_pos (show (i : Int) < (rest.size : Int) by omega), if_pos (show (0 : Int) ≤ (i : Int) by omega), if_pos h1]
      exact Ev.now _
    by_cases h2 : bt rest (i : Int) > 57
    · refine ⟨0, false, Ev.succ ?_, fun h => by cases h⟩
      simp only [spec_l01Great.l0, if_pos (show (i : Int) < (rest.size : Int) by omega), if_pos (show (0 : Int) ≤ (i : Int) by omega), if_neg h1, if_pos h2]
      exact Ev.now _
    by_cases h3 : n > 100000000000000000
    · refine ⟨0, false, Ev.succ ?_, fun h => by cases h⟩
      simp only [spec_l01Great.l0, if_pos (show (i : Int) < (rest.size : Int) by omega), if_pos (show (0 : Int) ≤ (i : Int) by omega), if_neg h1, if_neg h2, if_pos h3]
      exact Ev.now _
    have e2 : wrap64 (wrap64 (10 * n) + (bt rest (i : Int) - 48) % 256) = 10 * n + (bt rest (i : Int) - 48) := by
      rw [w64 (x := 10 * n) (by omega) (by omega), w64 (by omega) (by omega)]; omega
    obtain ⟨m, b, hm, hr⟩ := ih (i + 1) (10 * n + (bt rest (i : Int) - 48)) (by omega) (by omega)
    refine ⟨m, b, Ev.succ ?_, hr⟩
    simp only [spec_l01Great.l0, if_pos (show (i : Int) < (rest.size : Int) by omega), if_pos (show (0 : Int) ≤ (i : Int) by omega), if_neg h1, if_neg h2, if_neg h3, e1, e2]
    exact hm
theorem great_digits (s rest : ByteArray) (hs : rest.size ≤ 1048576) (q : Int × Bool) : ∀ (u : Nat), u ≤ 1000000000000000000 → ∀ t : List UInt8, bs rest = decDigits u ++ t →
    Ev (fun k => spec_l01Great.l0 k s rest (u : Int) ((decDigits u).length : Int)) q → Ev (fun k => spec_l01Great.l0 k s rest 0 0) q := by
  intro u
  induction u using Nat.strongRecOn with
  | ind u ih =>
    intro hu t ht h
    have hlen := bs_len rest
    have hstep : ∀ (p : List UInt8) (w d : Nat), bs rest = p ++ (UInt8.ofNat (48 + d) :: t) → d < 10 → w ≤ 100000000000000000 → Ev (fun k => spec_l01Great.l0 k s rest ((w * 10 + d : Nat) : Int) ((p.length + 1 : Nat) : Int)) q → Ev (fun k => spec_l01Great.l0 k s rest (w : Int) (p.length : Int)) q := by
      intro p w d hp hd hw hq
      have hl : p.length < rest.size := by rw [← hlen, hp, List.length_append, List.length_cons]; omega
      have hbt : bt rest (p.length : Int) = ((48 + d : Nat) : Int) := by
        rw [bt_nat rest p.length hl]
        congr 1
        simp only [hp]
        rw [List.getElem_append_right (Nat.le_refl _)]
        simp only [Nat.sub_self, List.getElem_cons_zero]
        exact dig_byte d hd
      have e1 : wrap64 ((p.length : Int) + 1) = ((p.length + 1 : Nat) : Int) := by rw [w64 (by omega) (by omega)]; omega
      have e2 : wrap64 (wrap64 (10 * (w : Int)) + (((48 + d : Nat) : Int) - 48) % 256) = ((w * 10 + d : Nat) : Int) := by
        rw [w64 (x := 10 * (w : Int)) (by omega) (by omega), w64 (by omega) (by omega)]; omega
      refine Ev.succ ?_
      simp only [spec_l01Great.l0, if_pos (show (p.length : Int) < (rest.size : Int) by omega), if_pos (show (0 : Int) ≤ (p.length : Int) by omega), hbt, if_neg (show ¬ ((48 + d : Nat) : Int) < 48 by omega), if_neg (show ¬ ((48 + d : Nat) : Int) > 57 by omega), if_neg (show ¬ (w : Int) > 100000000000000000 by omega), e1, e2]
      exact hq
    by_cases h10 : u < 10
    · have ed : decDigits u = [UInt8.ofNat (48 + u)] := by rw [decDigits, dif_pos h10]
      rw [ed] at ht h
      have := hstep [] 0 u (by rw [ht]; rfl) h10 (by omega) (by
        rw [Nat.zero_mul, Nat.zero_add]
        exact h)
      exact this
    · have ed : decDigits u = decDigits (u / 10) ++ [UInt8.ofNat (48 + u % 10)] := by rw [decDigits, dif_neg h10]
      rw [ed, List.append_assoc, List.singleton_append] at ht
      rw [ed, List.length_append, List.length_singleton] at h
      refine ih (u / 10) (by omega) (by omega) _ ht ?_
      refine hstep (decDigits (u / 10)) (u / 10) (u % 10) ht (by omega) (by omega) ?_
      rw [show u / 10 * 10 + u % 10 = u by omega]
      exact h
theorem extract_bs (s : ByteArray) (i : Nat) : bs (s.extract i s.size) = (bs s).drop i := by
  unfold bs
  rw [ByteArray.data_extract]
  simp [Array.toList_extract, List.take_of_length_le]
theorem great_yes {s : ByteArray} {v : Int} (hs : s.size ≤ 1048576) (hv : -1000000000000000000 ≤ v ∧ v ≤ 1000000000000000000) (h : bs s = itoa v) : Ev (fun k => spec_l01Great.f k s) (v, true) := by
  have hend : endB s v = true := by
    unfold endB
    rw [decide_eq_true hv, Bool.true_and, decS_list, ByteArray.toList_eq, beq_iff_eq]
    exact h.symm
  have hlen := bs_len s
  by_cases hn : v < 0
  · obtain ⟨u, hu⟩ := Int.eq_ofNat_of_zero_le (show 0 ≤ -v by omega)
    obtain rfl : v = -(u : Int) := by omega
    rw [Go.Lib.itoa_neg u (by omega)] at h
    have hl := dig_len 18 u (by omega)
    have hp := dig_pos u
    have hsz : s.size = (decDigits u).length + 1 := by rw [← hlen, h, List.length_cons]
    have hrest : bs (s.extract 1 s.size) = decDigits u := by rw [extract_bs, h]; rfl
    have hrl : (s.extract 1 s.size).size = (decDigits u).length := by rw [← bs_len, hrest]
    have hb0 : bt s 0 = 45 := by
      have := bt_nat s 0 (by omega)
      rw [show ((0 : Nat) : Int) = 0 from rfl] at this
      rw [this]
      simp only [h, List.getElem_cons_zero]
      rfl
    unfold spec_l01Great.f
    simp only [if_pos (show (s.size : Int) > 0 by omega), if_pos (show (0 : Int) < (s.size : Int) by omega), hb0, beq_self_eq_true]
    refine Ev.succ ?_
    simp only [spec_l01Great.j0, if_true, if_pos (show (1 : Int) ≤ (s.size : Int) by omega)]
    refine Ev.succ ?_
    simp only [spec_l01Great.j1, hrl, if_neg (show ¬ ((decDigits u).length : Int) < 1 by omega), decide_eq_false (show ¬ ((decDigits u).length : Int) > 19 by omega)]
    refine Ev.succ ?_
    simp only [spec_l01Great.j2, Bool.false_eq_true, if_false]
    refine great_digits s _ (by omega) _ u (by omega) [] (by rw [hrest, List.append_nil]) ?_
    have he := great_end s (s.extract 1 s.size) (u : Int) (by omega)
    rw [if_pos (by omega), hend, hrl] at he
    exact he
  · obtain ⟨u, rfl⟩ := Int.eq_ofNat_of_zero_le (show 0 ≤ v by omega)
    rw [Go.Lib.itoa_nonneg] at h
    have hl := dig_len 18 u (by omega)
    have hp := dig_pos u
    have hsz : s.size = (decDigits u).length := by rw [← hlen, h]
    have hb0 : (bt s 0 == 45) = false := by
      have := bt_nat s 0 (by omega)
      rw [show ((0 : Nat) : Int) = 0 from rfl] at this
      rw [this]
      have hd := dig_range u ((bs s)[0]'(by omega)) (by rw [← h]; exact List.getElem_mem _)
      exact beq_eq_false_iff_ne.mpr (by omega)
    unfold spec_l01Great.f
    simp only [if_pos (show (s.size : Int) > 0 by omega), if_pos (show (0 : Int) < (s.size : Int) by omega), hb0]
    refine Ev.succ ?_
    simp only [spec_l01Great.j0, Bool.false_eq_true, if_false]
    refine Ev.succ ?_
    simp only [spec_l01Great.j1, if_neg (show ¬ (s.size : Int) < 1 by omega), decide_eq_false (show ¬ (s.size : Int) > 19 by omega)]
    refine Ev.succ ?_
    simp only [spec_l01Great.j2, Bool.false_eq_true, if_false]
    refine great_digits s s (by omega) _ u (by omega) [] (by rw [h, List.append_nil]) ?_
    have he := great_end s s (u : Int) (by omega)
    rw [if_neg (by omega), hend] at he
    rw [← hsz]
    exact he
theorem great_no {s : ByteArray} (hs : s.size ≤ 1048576) (h : ∀ v, -1000000000000000000 ≤ v ∧ v ≤ 1000000000000000000 → bs s ≠ itoa v) : ∃ n, Ev (fun k => spec_l01Great.f k s) (n, false) := by
  have hend : ∀ m b, (b = true → endB s m = true) → b = false := by
    intro m b hb
    cases b with
    | false => rfl
    | true =>
      have he := hb rfl
      unfold endB at he
      rw [Bool.and_eq_true, decide_eq_true_eq, beq_iff_eq, decS_list, ByteArray.toList_eq] at he
      exact absurd he.2.symm (h m he.1)
  have hl0 : ∀ rest : ByteArray, rest.size ≤ 1048576 → ∃ n, Ev (fun k => spec_l01Great.l0 k s rest 0 0) (n, false) := by
    intro rest hr
    obtain ⟨m, b, hm, hb⟩ := great_loop s rest hr rest.size 0 0 (by omega) (by omega)
    obtain rfl := hend m b hb
    exact ⟨m, hm⟩
  have hj1 : ∀ rest : ByteArray, rest.size ≤ 1048576 → ∃ n, Ev (fun k => spec_l01Great.j1 k s rest) (n, false) := by
    intro rest hr
    by_cases h1 : (rest.size : Int) < 1
    · refine ⟨0, Ev.succ ?_⟩
      simp only [spec_l01Great.j1, if_pos h1]
      refine Ev.succ ?_
      simp only [spec_l01Great.j2, if_true]
      exact Ev.now _
    · by_cases h2 : (rest.size : Int) > 19
      · refine ⟨0, Ev.succ ?_⟩
        simp only [spec_l01Great.j1, if_neg h1, decide_eq_true h2]
        refine Ev.succ ?_
        simp only [spec_l01Great.j2, if_true]
        exact Ev.now _
      · obtain ⟨n, hn⟩ := hl0 rest hr
        refine ⟨n, Ev.succ ?_⟩
        simp only [spec_l01Great.j1, if_neg h1, decide_eq_false h2]
        refine Ev.succ ?_
        simp only [spec_l01Great.j2, Bool.false_eq_true, if_false]
        exact hn
  unfold spec_l01Great.f
  by_cases h0 : (s.size : Int) > 0
  · cases hb : bt s 0 == 45 with
    | true =>
      obtain ⟨n, hn⟩ := hj1 (s.extract 1 s.size) (by rw [ByteArray.size_extract]; omega)
      refine ⟨n, ?_⟩
      simp only [if_pos h0, if_pos (show (0 : Int) < (s.size : Int) by omega)]
      refine Ev.succ ?_
      simp only [spec_l01Great.j0, if_true, if_pos (show (1 : Int) ≤ (s.size : Int) by omega)]
      exact hn
    | false =>
      obtain ⟨n, hn⟩ := hj1 s hs
      refine ⟨n, ?_⟩
      simp only [if_pos h0, if_pos (show (0 : Int) < (s.size : Int) by omega)]
      refine Ev.succ ?_
      simp only [spec_l01Great.j0, Bool.false_eq_true, if_false]
      exact hn
  · obtain ⟨n, hn⟩ := hj1 s hs
    refine ⟨n, ?_⟩
    simp only [if_neg h0]
    refine Ev.succ ?_
    simp only [spec_l01Great.j0, Bool.false_eq_true, if_false]
    exact hn
end Go.Proofs.YtbfaadhblmfcjaaDoor.P

namespace Go.Proofs.YtbfaadhblmfcjaaDoor.Pure
open Go.RowKit Go.Proofs.YtbfaadhblmfcjaaDoorW.PrintWords Go.Proofs.YtbfaadhblmfcjaaDoorW.PrintLast Go.Proofs.YtbfaadhblmfcjaaDoorW.PrintMore
open Go.Proofs.YtbfaadhblmfcjaaDoor.P
set_option linter.unusedVariables false
set_option linter.unusedSimpArgs false

def wide18 (s : ByteArray) : Int × Bool := wideV s 1000000000000000000
theorem great_wide {s : ByteArray} (hs : s.size ≤ 1048576) : ∃ n, Ev (fun k => spec_l01Great.f k s) (n, (wide18 s).2) ∧ ((wide18 s).2 = true → n = (wide18 s).1 ∧ -1000000000000000000 ≤ n ∧ n ≤ 1000000000000000000) := by
  unfold wide18
  by_cases hv : ∃ v, (-1000000000000000000 ≤ v ∧ v ≤ 1000000000000000000) ∧ bs s = Go.Lib.itoa v
  · obtain ⟨v, hr, he⟩ := hv
    rw [wide_yes (by omega) hr he]
    exact ⟨v, great_yes hs hr he, fun _ => ⟨rfl, hr⟩⟩
  · rw [wide_no (fun v hr he => hv ⟨v, hr, he⟩)]
    obtain ⟨n, hn⟩ := great_no hs (fun v hr he => hv ⟨v, hr, he⟩)
    exact ⟨n, hn, fun h => by cases h⟩
theorem implWide_form {s : ByteArray} (hs : s.size ≤ 1048576) : impl_readWide.f s 1000000000000000000 = some (wide18 s) := by
  unfold impl_readWide.f
  rw [if_pos ⟨by omega, by omega, by omega⟩]
  rfl
/-- What both make of two numbers. -/
def fracV (s : ByteArray) (n : Int) (one : Bool) (d : Int) (two : Bool) : Int × Int × Bool :=
  if one = true ∧ two = true ∧ okFrac n d = true ∧ (fracS n d).toList = s.toList then (n, d, true) else (0, 0, false)
theorem okFrac_bounds {n d : Int} (h : okFrac n d = true) : (-9223372036854775808 ≤ n ∧ n ≤ 9223372036854775807) ∧ (-9223372036854775808 ≤ d ∧ d ≤ 9223372036854775807) := by
  unfold okFrac at h
  simp only [Bool.and_eq_true, decide_eq_true_eq] at h
  omega
theorem spec_end (s : ByteArray) (n : Int) (one : Bool) (d : Int) (two : Bool) : Ev (fun k => spec_l01FRead.j2 k s n one d two) (fracV s n one d two) := by
  refine Ev.succ ?_
  simp only [spec_l01FRead.j2]
  unfold fracV
  cases one with
  | false => simp only [Bool.false_eq_true, if_false, false_and]; exact Ev.now _
  | true =>
    cases two with
    | false => simp only [Bool.false_eq_true, if_false, false_and, and_false, if_true]; exact Ev.now _
    | true =>
      simp only [if_true, true_and]
      refine Ev.bind (specIs_ev n d) ?_
      cases hk : okFrac n d with
      | false => simp only [Bool.false_eq_true, if_false, false_and]; exact Ev.now _
      | true =>
        obtain ⟨h1, h2⟩ := okFrac_bounds hk
        simp only [if_true, true_and]
        refine Ev.bind (specFrac_ev h1 h2) ?_
        by_cases he : (fracS n d).toList = s.toList
        · simp only [if_pos he]; exact Ev.now _
        · simp only [if_neg he]; exact Ev.now _
theorem impl_end (s : ByteArray) (n : Int) (one : Bool) (d : Int) (two : Bool) : Ev (fun k => impl_ReadFraction.j0 k s n one d two) (fracV s n one d two) := by
  refine Ev.succ ?_
  simp only [impl_ReadFraction.j0]
  unfold fracV
  cases one with
  | false => simp only [Bool.false_eq_true, if_false, false_and]; exact Ev.now _
  | true =>
    cases two with
    | false => simp only [Bool.false_eq_true, if_false, false_and, and_false, if_true]; exact Ev.now _
    | true =>
      simp only [if_true, true_and]
      refine Ev.bind (valid_ev n d) ?_
      cases hk : okFrac n d with
      | false => simp only [Bool.false_eq_true, if_false, false_and]; exact Ev.now _
      | true =>
        obtain ⟨h1, h2⟩ := okFrac_bounds hk
        simp only [if_true, true_and, implFrac_form h1 h2, Option.bind_some]
        by_cases he : (fracS n d).toList = s.toList
        · simp only [if_pos he]; exact Ev.now _
        · simp only [if_neg he]; exact Ev.now _
theorem fracV_one (s : ByteArray) (n n' d d' : Int) (one two : Bool) (h1 : one = true → n = n') (h2 : two = true → d = d') : fracV s n one d two = fracV s n' one d' two := by
  unfold fracV
  cases one with
  | false => simp
  | true =>
    cases two with
    | false => simp
    | true => rw [h1 rfl, h2 rfl]
theorem extract_take (s : ByteArray) (i : Nat) : bs (s.extract 0 i) = (bs s).take i := by
  unfold bs
  rw [ByteArray.data_extract]
  simp [Array.toList_extract]
theorem slash_loop (s : ByteArray) (hs : s.size ≤ 1048576) (q : Int × Int × Bool) (e : Nat) (he : e ≤ s.size) (hend : Ev (fun k => spec_l01FRead.j1 k s (e : Int)) q) (hstop : e = s.size ∨ bt s (e : Int) = 47) (d : Nat) : ∀ i : Nat, i + d = e → (∀ j : Nat, i ≤ j → j < e → bt s (j : Int) ≠ 47) → Ev (fun k => spec_l01FRead.l0 k s (i : Int)) q := by
  induction d with
  | zero =>
    intro i hi hn
    obtain rfl : i = e := by omega
    refine Ev.succ ?_
    by_cases hlt : i < s.size
    · have h47 : bt s (i : Int) = 47 := by
        rcases hstop with h | h
        · omega
        · exact h
      simp only [spec_l01FRead.l0, if_pos (show (i : Int) < (s.size : Int) by omega), if_pos (show (0 : Int) ≤ (i : Int) by omega), h47, if_true]
      exact hend
    · simp only [spec_l01FRead.l0, if_neg (show ¬ (i : Int) < (s.size : Int) by omega)]
      exact hend
  | succ d ih =>
    intro i hi hn
    refine Ev.succ ?_
    have e1 : wrap64 ((i : Int) + 1) = ((i + 1 : Nat) : Int) := by rw [w64 (by omega) (by omega)]; omega
    simp only [spec_l01FRead.l0, if_pos (show (i : Int) < (s.size : Int) by omega), if_pos (show (0 : Int) ≤ (i : Int) by omega), if_neg (hn i (Nat.le_refl _) (by omega)), e1]
    exact ih (i + 1) (by omega) (fun j h1 h2 => hn j (by omega) h2)
theorem bt_eq47 (s : ByteArray) (i : Nat) (h : i < s.size) : bt s (i : Int) = 47 ↔ (bs s)[i]? = some (47 : UInt8) := by
  have hl := bs_len s
  rw [bt_nat s i h, List.getElem?_eq_getElem (by omega), Option.some.injEq]
  constructor
  · intro e
    exact UInt8.toNat_inj.mp (by show _ = 47; omega)
  · intro e
    rw [e]; rfl
theorem read_both {s : ByteArray} (hs : s.size ≤ 1048576) : ∃ v, Ev (fun k => spec_ReadFraction.f k s) v ∧ Ev (fun k => impl_ReadFraction.f k s) v := by
  have hl := bs_len s
  have hcut : strings_Cut.f s (⟨#[47]⟩ : ByteArray) = some (⟨(Go.Lib.cut (bs s) [47]).1.toArray⟩, ⟨(Go.Lib.cut (bs s) [47]).2.1.toArray⟩, (Go.Lib.cut (bs s) [47]).2.2) := by
    unfold strings_Cut.f
    rw [if_pos ⟨by omega, rfl⟩]
  unfold spec_ReadFraction.f impl_ReadFraction.f spec_l01FRead.f
  simp only [hcut, Option.bind_some]
  have hge := Go.Lib.indexByte_ge (bs s) 47
  by_cases hx : Go.Lib.indexByte (bs s) 47 = -1
  · have hc : Go.Lib.cut (bs s) [47] = (bs s, [], false) := by
      unfold Go.Lib.cut
      rw [Go.Lib.index_one, hx, if_neg (by decide)]
    have hnone := Go.Lib.indexByte_none hx
    rw [hc]
    have htop : (⟨(bs s).toArray⟩ : ByteArray) = s := bs_inj (by simp [bs])
    obtain ⟨n, hn1, hn2⟩ := great_wide hs
    have hj1 : Ev (fun k => spec_l01FRead.j1 k s (s.size : Int)) (fracV s n (wide18 s).2 1 true) := by
      refine Ev.succ ?_
      have e : s.extract 0 ((s.size : Nat) : Int).toNat = s := bs_inj (by rw [Int.toNat_natCast, extract_take, List.take_of_length_le (by omega)])
      simp only [spec_l01FRead.j1, if_pos (show (0 : Int) ≤ (s.size : Int) by omega), if_pos (show (s.size : Int) ≤ (s.size : Int) by omega), e, if_neg (show ¬ (s.size : Int) < (s.size : Int) by omega)]
      exact Ev.bind hn1 (spec_end s _ _ _ _)
    refine ⟨fracV s (wide18 s).1 (wide18 s).2 1 true, ?_, ?_⟩
    · have h := slash_loop s hs _ s.size (Nat.le_refl _) hj1 (.inl rfl) s.size 0 (by omega) (fun j _ h2 h47 => hnone j ((bt_eq47 s j h2).mp h47))
      rw [fracV_one s n (wide18 s).1 1 1 _ true (fun h => (hn2 h).1) (fun _ => rfl)] at h
      exact Ev.bind h (Ev.now _)
    · simp only [htop, implWide_form hs, Option.bind_some, implWide_form (show (⟨([] : List UInt8).toArray⟩ : ByteArray).size ≤ 1048576 by decide), Bool.false_eq_true, if_false]
      exact impl_end s _ _ _ _
  · obtain ⟨i, hi⟩ := Int.eq_ofNat_of_zero_le (show 0 ≤ Go.Lib.indexByte (bs s) 47 by omega)
    obtain ⟨hat, hbef⟩ := Go.Lib.indexByte_some hi
    have hlt : i < s.size := by
      have := (List.getElem?_eq_some_iff.mp hat).1
      omega
    have hc : Go.Lib.cut (bs s) [47] = ((bs s).take i, (bs s).drop (i + 1), true) := by
      unfold Go.Lib.cut
      rw [Go.Lib.index_one, hi, if_pos (by omega)]
      simp
    rw [hc]
    have htop : (⟨((bs s).take i).toArray⟩ : ByteArray) = s.extract 0 i := bs_inj (by rw [extract_take])
    have hbot : (⟨((bs s).drop (i + 1)).toArray⟩ : ByteArray) = s.extract (i + 1) s.size := bs_inj (by rw [extract_bs])
    have hz1 : (s.extract 0 i).size ≤ 1048576 := by rw [ByteArray.size_extract]; omega
    have hz2 : (s.extract (i + 1) s.size).size ≤ 1048576 := by rw [ByteArray.size_extract]; omega
    obtain ⟨n, hn1, hn2⟩ := great_wide hz1
    obtain ⟨m, hm1, hm2⟩ := great_wide hz2
    have e1 : wrap64 ((i : Int) + 1) = ((i + 1 : Nat) : Int) := by rw [w64 (by omega) (by omega)]; omega
    have hj1 : Ev (fun k => spec_l01FRead.j1 k s (i : Int)) (fracV s n (wide18 (s.extract 0 i)).2 m (wide18 (s.extract (i + 1) s.size)).2) := by
      refine Ev.succ ?_
      simp only [spec_l01FRead.j1, if_pos (show (0 : Int) ≤ (i : Int) by omega), if_pos (show (i : Int) ≤ (s.size : Int) by omega), Int.toNat_natCast, if_pos (show (i : Int) < (s.size : Int) by omega), e1, if_pos (show (0 : Int) ≤ ((i + 1 : Nat) : Int) by omega), if_pos (show ((i + 1 : Nat) : Int) ≤ (s.size : Int) by omega)]
      exact Ev.bind hn1 (Ev.bind hm1 (spec_end s _ _ _ _))
    refine ⟨fracV s (wide18 (s.extract 0 i)).1 (wide18 (s.extract 0 i)).2 (wide18 (s.extract (i + 1) s.size)).1 (wide18 (s.extract (i + 1) s.size)).2, ?_, ?_⟩
    · have h := slash_loop s hs _ i (by omega) hj1 (.inr ((bt_eq47 s i hlt).mpr hat)) i 0 (by omega) (fun j _ h2 h47 => hbef j h2 ((bt_eq47 s j (by omega)).mp h47))
      rw [fracV_one s n (wide18 (s.extract 0 i)).1 m (wide18 (s.extract (i + 1) s.size)).1 _ _ (fun h => (hn2 h).1) (fun h => (hm2 h).1)] at h
      exact Ev.bind h (Ev.now _)
    · simp only [htop, hbot, implWide_form hz1, implWide_form hz2, Option.bind_some, if_true]
      exact impl_end s _ _ _ _
theorem FnExactReadFraction : laws_FnExactReadFraction.Pure := by
  intro s hs
  apply Ev.rounds
  unfold laws_FnExactReadFraction.f
  by_cases hl : (s.size : Int) > 1048576
  · simp only [if_pos hl]
    exact Ev.now _
  · simp only [if_neg hl]
    obtain ⟨v, h1, h2⟩ := read_both (s := s) (by omega)
    refine Ev.bind h1 (Ev.bind h2 ?_)
    unfold laws_eqFraction.f
    simp only [if_true, Option.bind_some, bne_self_eq_false, Bool.false_eq_true, if_false]
    exact Ev.now _
end Go.Proofs.YtbfaadhblmfcjaaDoor.Pure
