/- The program's ReadRuns returns what the reference's returns, for all texts; no condition. -/
import Derived.Test.YtbfaadhblmfcjaaDoorP8
import Derived.Test.YtbfaadhblmfcjaaDoorExtTrim
import Derived.Test.YtbfaadhblmfcjaaDoorExtStrJoin
import Derived.Test.YtbfaadhblmfcjaaDoorP1
import Derived.Lib.ItoaLen
import Derived.Test.YtbfaadhblmfcjaaDoorBase
import Derived.Test.YtbfaadhblmfcjaaDoorP4
import Derived.Test.YtbfaadhblmfcjaaDoorP6
import Derived.Test.YtbfaadhblmfcjaaDoorExtWide
import Derived.Test.YtbfaadhblmfcjaaDoorForms
import Derived.Test.YtbfaadhblmfcjaaDoorExtSplit
import Derived.Test.YtbfaadhblmfcjaaDoorP0
import Derived.Test.YtbfaadhblmfcjaaDoorExtDecimal
import Derived.Test.YtbfaadhblmfcjaaDoorP5
import Derived.Test.YtbfaadhblmfcjaaDoorP12
import Derived.Test.YtbfaadhblmfcjaaDoorP13
import Derived.Test.YtbfaadhblmfcjaaDoorExtCut
import Derived.Test.YtbfaadhblmfcjaaDoorExtRepeat
/- When a text is a wave, as the program (it trims zeros and ones off) and as the reference (it looks at each byte) ask it. The texts are shorter than 2^62 bytes. -/
namespace Go.Proofs.YtbfaadhblmfcjaaDoor.P
open Go.RowKit Go.Proofs.YtbfaadhblmfcjaaDoorW.PrintWords Go.Proofs.YtbfaadhblmfcjaaDoorW.PrintLast Go.Proofs.YtbfaadhblmfcjaaDoorW.PrintMore

/-- A text's bytes. -/
abbrev bs (s : ByteArray) : List UInt8 := s.data.toList
theorem bs_len (s : ByteArray) : (bs s).length = s.size := by simp [bs]
theorem bt_nat (s : ByteArray) (i : Nat) (h : i < s.size) : bt s (i : Int) = (((bs s)[i]'(by rw [bs_len]; exact h)).toNat : Int) := by
  unfold bt bs
  rw [dif_pos (by simpa using h)]
  simp [ByteArray.getElem_eq_getElem_data]

theorem dropWhile_all {α : Type} (p : α → Bool) (l : List α) : (∀ x ∈ l.dropWhile p, p x = true) ↔ ∀ x ∈ l, p x = true := by
  induction l with
  | nil => simp
  | cons a l ih =>
    by_cases h : p a = true
    · simp [h, ih]
    · simp [h]
theorem dropWhile_nil {α : Type} (p : α → Bool) (l : List α) : l.dropWhile p = [] ↔ ∀ x ∈ l, p x = true := by
  induction l with
  | nil => simp
  | cons a l ih =>
    by_cases h : p a = true
    · simp [h, ih]
    · simp [h]
/-- Nothing is left exactly if each byte is of the cutset. -/
theorem trimS_nil (l cs : List UInt8) : Lib.trimS l cs = [] ↔ ∀ x ∈ l, cs.contains x = true := by
  unfold Lib.trimS Lib.trimRightS Lib.trimLeftS
  rw [dropWhile_nil]
  have h := dropWhile_all (cs.contains ·) l.reverse
  simp only [List.mem_reverse] at h ⊢
  exact h
theorem trim_beq (l cs : List UInt8) : (Lib.trimS l cs == []) = l.all (cs.contains ·) := by
  rw [Bool.eq_iff_iff, beq_iff_eq, trimS_nil, List.all_eq_true]
theorem mk_toList (l : List UInt8) : (⟨l.toArray⟩ : ByteArray).toList = l := by rw [ByteArray.toList_eq]

def isLevel (b : UInt8) : Bool := b.toNat == 48 || b.toNat == 49
def waveOk (s : ByteArray) : Bool := decide (s.size ≤ 400) && (bs s).all isLevel
theorem level_contains (b : UInt8) : ([48, 49] : List UInt8).contains b = isLevel b := by
  unfold isLevel
  rw [Bool.eq_iff_iff]
  simp only [List.contains_iff_mem, List.mem_cons, List.not_mem_nil, or_false, Bool.or_eq_true, beq_iff_eq, ← UInt8.toNat_inj]
  exact Iff.rfl
theorem isWave_form {s : ByteArray} (hs : s.size ≤ 9223372036854775807) : impl_IsWave.f s = some (waveOk s) := by
  unfold impl_IsWave.f strings_Trim.f waveOk
  by_cases h : (s.size : Int) ≤ 400
  · rw [if_pos h, if_pos ⟨hs, by decide, by decide⟩]
    simp only [Option.bind_some, mk_toList]
    rw [trim_beq]
    have e : (fun x => (⟨#[48, 49]⟩ : ByteArray).data.toList.contains x) = isLevel := funext level_contains
    rw [e, decide_eq_true (show s.size ≤ 400 by omega), Bool.true_and]
  · rw [if_neg h, decide_eq_false (show ¬ s.size ≤ 400 by omega), Bool.false_and]
end Go.Proofs.YtbfaadhblmfcjaaDoor.P

/- Texts put together with a text of one byte between: one more text at the end. -/
namespace Go.Proofs.YtbfaadhblmfcjaaDoor.P
open Go.RowKit Go.Proofs.YtbfaadhblmfcjaaDoorW.PrintWords Go.Proofs.YtbfaadhblmfcjaaDoorW.PrintLast Go.Proofs.YtbfaadhblmfcjaaDoorW.PrintMore
set_option linter.unusedVariables false
set_option linter.unusedSimpArgs false

theorem bs_inj {a b : ByteArray} (h : bs a = bs b) : a = b := Go.WideShapes.bytes_inj h
theorem bs_append (a b : ByteArray) : bs (a ++ b) = bs a ++ bs b := by simp [bs, ByteArray.data_append]
theorem nil_append (a : ByteArray) : (⟨#[]⟩ : ByteArray) ++ a = a := bs_inj (by rw [bs_append]; rfl)
theorem joinV_bs (l : List ByteArray) (sep : ByteArray) : bs (joinV l sep) = Go.Lib.join (l.map (·.data.toList)) sep.data.toList := by simp [joinV, bs]
theorem joinV_snoc (p : List ByteArray) (x sep : ByteArray) : joinV (p ++ [x]) sep = if p.length = 0 then x else (joinV p sep ++ sep) ++ x := by
  apply bs_inj
  cases p with
  | nil =>
    rw [if_pos (show ([] : List ByteArray).length = 0 from rfl), joinV_bs, List.nil_append, List.map_cons, List.map_nil, Go.Lib.join_one]
  | cons a r =>
    rw [if_neg (show ¬ (a :: r).length = 0 by simp), bs_append, bs_append, joinV_bs, joinV_bs, List.cons_append, List.map_cons, List.map_cons, Go.Lib.join_cons, Go.Lib.join_cons, List.map_append]
    simp [Go.Lib.joinTail]
/-- The first i texts. -/
def joinT (L : List ByteArray) (sep : ByteArray) (i : Nat) : ByteArray := joinV (L.take i) sep
theorem joinT_zero (L : List ByteArray) (sep : ByteArray) : joinT L sep 0 = ⟨#[]⟩ := rfl
theorem joinT_succ (L : List ByteArray) (sep : ByteArray) (i : Nat) (h : i < L.length) : joinT L sep (i + 1) = if i = 0 then L[i] else (joinT L sep i ++ sep) ++ L[i] := by
  unfold joinT
  rw [← List.take_append_getElem h, joinV_snoc, List.length_take, Nat.min_eq_left (by omega)]
theorem joinT_size (L : List ByteArray) (sep : ByteArray) (B : Nat) (hsep : sep.size = 1) (hB : ∀ x ∈ L, x.size ≤ B) (i : Nat) (h : i ≤ L.length) : (joinT L sep i).size ≤ (B + 1) * i := by
  induction i with
  | zero => rw [joinT_zero]; exact Nat.le_refl _
  | succ i ih =>
    have hx := hB _ (List.getElem_mem (show i < L.length by omega))
    have ih := ih (by omega)
    rw [joinT_succ L sep i (by omega), Nat.mul_succ]
    split
    · omega
    · rw [ByteArray.size_append, ByteArray.size_append, hsep]; omega
theorem joinT_pos (L : List ByteArray) (sep : ByteArray) (hB : ∀ x ∈ L, 0 < x.size) (i : Nat) (h : i < L.length) : 0 < (joinT L sep (i + 1)).size := by
  have hx := hB _ (List.getElem_mem h)
  rw [joinT_succ L sep i h]
  split
  · exact hx
  · rw [ByteArray.size_append, ByteArray.size_append]; omega
theorem joinT_all (L : List ByteArray) (sep : ByteArray) : joinT L sep L.length = joinV L sep := by
  unfold joinT
  rw [List.take_of_length_le (Nat.le_refl _)]
theorem toList_nil {s : ByteArray} : s.toList = ([] : List UInt8) ↔ s.size = 0 := by
  rw [ByteArray.toList_eq, ← List.length_eq_zero_iff]
  have := bs_len s
  unfold bs at this
  rw [this]
end Go.Proofs.YtbfaadhblmfcjaaDoor.P

/- The reference's decimal spelling of a number is Go's own; no condition beyond 64 bits. -/
namespace Go.Proofs.YtbfaadhblmfcjaaDoor.P
open Go.RowKit Go.Proofs.YtbfaadhblmfcjaaDoorW.PrintWords Go.Proofs.YtbfaadhblmfcjaaDoorW.PrintLast Go.Proofs.YtbfaadhblmfcjaaDoorW.PrintMore
set_option linter.unusedSimpArgs false
set_option linter.unusedVariables false
open Go.Lib (decDigits itoa nDigits)

theorem strOf_bytes (l : List UInt8) : strOfNums (l.map fun b => (b.toNat : Int)) = ⟨l.toArray⟩ := by
  unfold strOfNums
  congr 2
  rw [List.map_map]
  have : ((fun n : Int => UInt8.ofNat n.toNat) ∘ fun b : UInt8 => (b.toNat : Int)) = id := by
    funext b
    simp
  rw [this, List.map_id]
/-- The digits, as numbers. -/
def dI (u : Nat) : List Int := (decDigits u).map fun b => (b.toNat : Int)
theorem dig_byte (d : Nat) (h : d < 10) : (UInt8.ofNat (48 + d)).toNat = 48 + d := by
  rw [UInt8.toNat_ofNat']; omega
theorem dI_small {u : Nat} (h : u < 10) : dI u = [(48 + u : Int)] := by
  unfold dI
  rw [decDigits, dif_pos h, List.map_cons, List.map_nil, dig_byte u h]
  rfl
theorem dI_big {u : Nat} (h : ¬ u < 10) : dI u = dI (u / 10) ++ [((48 + u % 10 : Nat) : Int)] := by
  unfold dI
  rw [decDigits, dif_neg h, List.map_append, List.map_cons, List.map_nil, dig_byte (u % 10) (by omega)]
theorem dI_length (u : Nat) (h : u ≤ 9223372036854775808) : (dI u).length ≤ 21 := by
  unfold dI
  rw [List.length_map]
  by_cases h0 : u = 9223372036854775808
  · have e := Go.Lib.itoa_length_le (-(u : Int)) (by omega) (by omega)
    rw [Go.Lib.itoa_neg u (by omega), List.length_cons] at e
    omega
  · have e := Go.Lib.itoa_length_le (u : Int) (by omega) (by omega)
    rwa [Go.Lib.itoa_nonneg] at e
theorem dig_loop (x0 : Int) (sg : Int) (hsg : sg = 1 ∨ sg = -1) (r : ByteArray) : ∀ (w : Nat), 0 < w → w ≤ 9223372036854775808 → (sg = 1 → w ≤ 9223372036854775807) → ∀ acc : List Int, acc.length + (dI w).length ≤ 1000 →
    Ev (fun k => spec_l01Dec.l0 k x0 (acc ++ (dI w).reverse) 0) r → Ev (fun k => spec_l01Dec.l0 k x0 acc (sg * (w : Int))) r := by
  intro w
  induction w using Nat.strongRecOn with
  | ind w ih =>
    intro h0 h1 h1' acc hacc h
    have hm : Int.tmod (sg * (w : Int)) 10 = sg * ((w % 10 : Nat) : Int) := by
      rcases hsg with rfl | rfl
      · rw [Int.one_mul, Int.one_mul]; exact (Int.ofNat_tmod w 10).symm
      · rw [Int.neg_one_mul, Int.neg_one_mul, Int.neg_tmod]; congr 1
    have hd : Int.tdiv (sg * (w : Int)) 10 = sg * ((w / 10 : Nat) : Int) := by
      rcases hsg with rfl | rfl
      · rw [Int.one_mul, Int.one_mul]; exact (Int.ofNat_tdiv w 10).symm
      · rw [Int.neg_one_mul, Int.neg_one_mul, Int.neg_tdiv]; congr 1
    have hne : ¬ sg * (w : Int) = 0 := by rcases hsg with rfl | rfl <;> omega
    have hlt : w % 10 < 10 := Nat.mod_lt _ (by decide)
    have hdl : acc.length < 140737488355328 := by omega
    have hq : wrap64 (sg * ((w / 10 : Nat) : Int)) = sg * ((w / 10 : Nat) : Int) := by
      rcases hsg with rfl | rfl <;> exact w64 (by omega) (by omega)
    have hstep : Ev (fun k => spec_l01Dec.l0 k x0 (acc ++ [((48 + w % 10 : Nat) : Int)]) (sg * ((w / 10 : Nat) : Int))) r := by
      by_cases hs : w < 10
      · rw [dI_small hs, List.reverse_singleton] at h
        have e1 : w / 10 = 0 := by omega
        have e2 : w % 10 = w := by omega
        rw [e1, e2]
        have e3 : sg * ((0 : Nat) : Int) = 0 := by omega
        rw [e3]
        have e4 : ((48 + w : Nat) : Int) = 48 + (w : Int) := by omega
        rw [e4]
        exact h
      · rw [dI_big hs, List.reverse_append, List.reverse_singleton, ← List.append_assoc] at h
        refine ih (w / 10) (by omega) (by omega) (by omega) (by omega) _ ?_ h
        rw [dI_big hs, List.length_append, List.length_singleton] at hacc
        rw [List.length_append, List.length_singleton]
        omega
    refine Ev.succ ?_
    simp only [spec_l01Dec.l0, if_neg hne, hm, hd, hq, if_pos hdl]
    by_cases hneg : sg * ((w % 10 : Nat) : Int) < 0
    · have e5 : wrap64 (48 + wrap64 (-(sg * ((w % 10 : Nat) : Int)))) % 256 = ((48 + w % 10 : Nat) : Int) := by
        rcases hsg with rfl | rfl
        · omega
        · rw [w64 (x := -(-1 * ((w % 10 : Nat) : Int))) (by omega) (by omega), w64 (by omega) (by omega)]; omega
      simp only [if_pos hneg, e5]
      exact hstep
    · have e5 : wrap64 (48 + sg * ((w % 10 : Nat) : Int)) % 256 = ((48 + w % 10 : Nat) : Int) := by
        rcases hsg with rfl | rfl
        · rw [w64 (by omega) (by omega)]; omega
        · rw [w64 (by omega) (by omega)]; omega
      simp only [if_neg hneg, e5]
      exact hstep
theorem rev_loop (l : List Int) (hl : l.length ≤ 1000) (d : Nat) : ∀ i : Nat, i + 1 = d → d ≤ l.length → Ev (fun k => spec_l01Dec.l1 k l (l.drop d).reverse (i : Int)) (strOfNums l.reverse) := by
  induction d with
  | zero => intro i h; omega
  | succ d ih =>
    intro i hi hd
    obtain rfl : i = d := by omega
    refine Ev.succ ?_
    have hlt : i < l.length := by omega
    have e2 : (l.drop (i + 1)).reverse ++ [l[i]] = (l.drop i).reverse := by
      rw [List.drop_eq_getElem_cons hlt, List.reverse_cons]
    simp only [spec_l01Dec.l1, if_pos (show (i : Int) ≥ 0 by omega), if_pos (show (i : Int) < (l.length : Int) by omega), if_pos (show (l.drop (i + 1)).reverse.length < 140737488355328 by rw [List.length_reverse, List.length_drop]; omega), rd_at l i hlt, e2]
    cases i with
    | zero =>
      have e1 : wrap64 (((0 : Nat) : Int) - 1) = -1 := by rw [w64 (by omega) (by omega)]; omega
      rw [e1, List.drop_zero]
      refine Ev.succ ?_
      simp only [spec_l01Dec.l1, if_neg (show ¬ (-1 : Int) ≥ 0 by decide)]
      exact Ev.now _
    | succ j =>
      have e1 : wrap64 (((j + 1 : Nat) : Int) - 1) = (j : Int) := by rw [w64 (by omega) (by omega)]; omega
      rw [e1]
      exact ih j rfl (by omega)
theorem turn_ev (l : List Int) (hl : l.length ≤ 1000) (h0 : 0 < l.length) : Ev (fun k => spec_l01Dec.j1 k l) (strOfNums l.reverse) := by
  refine Ev.succ ?_
  have e1 : wrap64 ((l.length : Int) - 1) = ((l.length - 1 : Nat) : Int) := by rw [w64 (by omega) (by omega)]; omega
  simp only [spec_l01Dec.j1, e1]
  have h := rev_loop l hl l.length (l.length - 1) (by omega) (Nat.le_refl _)
  rw [List.drop_length, List.reverse_nil] at h
  exact h
theorem dI_pos (u : Nat) : 0 < (dI u).length := by
  by_cases h : u < 10
  · rw [dI_small h]; simp
  · rw [dI_big h, List.length_append]; simp
/-- The spelling. -/
def decS (n : Int) : ByteArray := ⟨(itoa n).toArray⟩
theorem specDec_ev {n : Int} (h : -9223372036854775808 ≤ n ∧ n ≤ 9223372036854775807) : Ev (fun k => spec_l01Dec.f k n) (decS n) := by
  unfold spec_l01Dec.f
  by_cases h0 : n = 0
  · subst h0
    have e : decS 0 = (⟨#[48]⟩ : ByteArray) := by
      have e2 := strOf_bytes (decDigits 0)
      have e3 := dI_small (u := 0) (by decide)
      unfold dI at e3
      rw [e3] at e2
      have e4 : itoa 0 = decDigits 0 := Go.Lib.itoa_nonneg 0
      unfold decS
      rw [e4, ← e2]
      rfl
    simp only [if_true]
    rw [e]
    exact Ev.now _
  · simp only [if_neg h0]
    by_cases hn : n < 0
    · obtain ⟨u, hu⟩ := Int.eq_ofNat_of_zero_le (show 0 ≤ -n by omega)
      obtain rfl : n = -(u : Int) := by omega
      have hl := dI_length u (by omega)
      have hlp := dI_pos u
      have hd := dig_loop (-(u : Int)) (-1) (.inr rfl) (decS (-(u : Int))) u (by omega) (by omega) (by omega) [] (by simp; omega)
      rw [Int.neg_one_mul] at hd
      refine hd ?_
      refine Ev.succ ?_
      simp only [spec_l01Dec.l0, if_true, if_pos hn, List.nil_append, if_pos (show (dI u).reverse.length < 140737488355328 by rw [List.length_reverse]; omega)]
      have ht := turn_ev ((dI u).reverse ++ [45]) (by rw [List.length_append, List.length_reverse]; simp; omega) (by simp)
      refine Ev.eq ht ?_
      rw [List.reverse_append, List.reverse_reverse, List.reverse_singleton, decS, Go.Lib.itoa_neg u (by omega), ← strOf_bytes]
      rfl
    · obtain ⟨u, rfl⟩ := Int.eq_ofNat_of_zero_le (show 0 ≤ n by omega)
      have hl := dI_length u (by omega)
      have hlp := dI_pos u
      have hd := dig_loop (u : Int) 1 (.inl rfl) (decS (u : Int)) u (by omega) (by omega) (by omega) [] (by simp; omega)
      rw [Int.one_mul] at hd
      refine hd ?_
      refine Ev.succ ?_
      simp only [spec_l01Dec.l0, if_true, if_neg hn, List.nil_append]
      have ht := turn_ev (dI u).reverse (by rw [List.length_reverse]; omega) (by rw [List.length_reverse]; exact hlp)
      refine Ev.eq ht ?_
      rw [List.reverse_reverse, decS, Go.Lib.itoa_nonneg, ← strOf_bytes]
      rfl
theorem decS_size {n : Int} (h : -9223372036854775808 ≤ n ∧ n ≤ 9223372036854775807) : (decS n).size ≤ 21 := by
  have := Go.Lib.itoa_length_le n h.1 h.2
  show (itoa n).toArray.size ≤ 21
  simpa using this
end Go.Proofs.YtbfaadhblmfcjaaDoor.P

/- Reading numbers: the program's readWide (Go's own parse and spelling) and the reference's reader both take just the spellings of the numbers in the range. The texts are at most 1048576 bytes. -/
namespace Go.Proofs.YtbfaadhblmfcjaaDoor.P
open Go.RowKit Go.Proofs.YtbfaadhblmfcjaaDoorW.PrintWords Go.Proofs.YtbfaadhblmfcjaaDoorW.PrintLast Go.Proofs.YtbfaadhblmfcjaaDoorW.PrintMore
set_option linter.unusedSimpArgs false
set_option linter.unusedVariables false
open Go.Lib (decDigits itoa)

theorem dig_range : ∀ (u : Nat), ∀ b ∈ decDigits u, 48 ≤ b.toNat ∧ b.toNat ≤ 57 := by
  intro u
  induction u using Nat.strongRecOn with
  | ind u ih =>
    intro b hb
    rw [decDigits] at hb
    split at hb
    · rename_i h
      rw [List.mem_singleton.mp hb, dig_byte u h]; omega
    · rename_i h
      rcases List.mem_append.mp hb with h1 | h1
      · exact ih (u / 10) (by omega) b h1
      · rw [List.mem_singleton.mp h1, dig_byte (u % 10) (by omega)]; omega
theorem dig_len (k : Nat) : ∀ u : Nat, u < 10 ^ (k + 1) → (decDigits u).length ≤ k + 1 := by
  induction k with
  | zero =>
    intro u hu
    rw [decDigits, dif_pos (by omega)]
    simp
  | succ k ih =>
    intro u hu
    rw [decDigits]
    split
    · simp
    · have hu' : u < 10 ^ (k + 1) * 10 := by rw [← Nat.pow_succ]; exact hu
      have := ih (u / 10) (by omega)
      rw [List.length_append, List.length_singleton]
      omega
theorem dig_pos (u : Nat) : 0 < (decDigits u).length := by
  have := dI_pos u
  unfold dI at this
  rwa [List.length_map] at this
theorem parse_digits : ∀ (u : Nat), u < 18446744073709551616 → ∀ t : List UInt8, Go.Lib.parseUint10 0 (decDigits u ++ t) = Go.Lib.parseUint10 u t := by
  intro u
  induction u using Nat.strongRecOn with
  | ind u ih =>
    intro hu t
    rw [decDigits]
    split
    · rename_i h
      rw [List.singleton_append]
      simp only [Go.Lib.parseUint10, dig_byte u h]
      rw [if_pos (by omega), if_neg (by omega), if_neg (by omega)]
      congr 1
      omega
    · rename_i h
      rw [List.append_assoc, ih (u / 10) (by omega) (by omega), List.singleton_append]
      simp only [Go.Lib.parseUint10, dig_byte (u % 10) (by omega)]
      rw [if_pos (by omega), if_neg (by omega), if_neg (by omega)]
      congr 1
      omega
theorem parse_mag (u : Nat) (hu : u < 18446744073709551616) : Go.Lib.parseMag (decDigits u) = .ok u := by
  unfold Go.Lib.parseMag
  rw [if_neg (fun h => by have := dig_pos u; rw [h] at this; exact absurd this (by decide))]
  have h := parse_digits u hu []
  rw [List.append_nil] at h
  rw [h]
  rfl
theorem parse_itoa {v : Int} (h : -9223372036854775808 ≤ v ∧ v ≤ 9223372036854775807) : Go.Lib.parseIntB 64 (itoa v) = .ok v := by
  rw [Go.Lib.parseIntB_64]
  by_cases hn : v < 0
  · obtain ⟨u, hu⟩ := Int.eq_ofNat_of_zero_le (show 0 ≤ -v by omega)
    obtain rfl : v = -(u : Int) := by omega
    rw [Go.Lib.itoa_neg u (by omega)]
    unfold Go.Lib.atoiAll
    have e : (45 : UInt8).toNat = 45 := rfl
    simp only [e, or_true, if_true, parse_mag u (by omega)]
    simp
    omega
  · obtain ⟨u, rfl⟩ := Int.eq_ofNat_of_zero_le (show 0 ≤ v by omega)
    rw [Go.Lib.itoa_nonneg]
    have hm := parse_mag u (by omega)
    cases hd : decDigits u with
    | nil => have := dig_pos u; rw [hd] at this; exact absurd this (by decide)
    | cons c r =>
      have hc := dig_range u c (by rw [hd]; exact List.mem_cons_self)
      rw [hd] at hm
      unfold Go.Lib.atoiAll
      simp only [show ¬ c.toNat = 43 by omega, show ¬ c.toNat = 45 by omega, or_self, if_false, hm]
      simp
      omega
theorem decS_list (n : Int) : (decS n).toList = itoa n := by unfold decS; exact mk_toList _
theorem wide_yes {s : ByteArray} {m v : Int} (hm : 0 ≤ m ∧ m ≤ 1000000000000000000) (hv : -m ≤ v ∧ v ≤ m) (h : bs s = itoa v) : wideV s m = (v, true) := by
  unfold wideV
  rw [show s.data.toList = itoa v from h, parse_itoa (by omega)]
  simp only
  rw [if_pos ⟨by rw [mk_toList, ByteArray.toList_eq]; exact h.symm, hv⟩]
theorem wide_no {s : ByteArray} {m : Int} (h : ∀ v, -m ≤ v ∧ v ≤ m → bs s ≠ itoa v) : wideV s m = (0, false) := by
  unfold wideV
  split
  · rename_i v hp
    rw [if_neg]
    rintro ⟨h1, h2⟩
    rw [mk_toList, ByteArray.toList_eq] at h1
    exact h v h2 h1.symm
  · rfl
def endB (s : ByteArray) (m : Int) : Bool := decide (-1000000000000000000 ≤ m ∧ m ≤ 1000000000000000000) && ((decS m).toList == s.toList)
theorem great_end (s rest : ByteArray) (n : Int) (h0 : 0 ≤ n ∧ n ≤ 1000000000000000009) : Ev (fun k => spec_l01Great.l0 k s rest n (rest.size : Int)) (if (rest.size : Int) < (s.size : Int) then -n else n, endB s (if (rest.size : Int) < (s.size : Int) then -n else n)) := by
  refine Ev.succ ?_
  simp only [spec_l01Great.l0, Int.lt_irrefl, if_false, in_form, Option.bind_some]
  have hw : wrap64 (-n) = -n := w64 (by omega) (by omega)
  by_cases hc : (rest.size : Int) < (s.size : Int)
  · simp only [if_pos hc, hw]
    by_cases hr : -1000000000000000000 ≤ -n ∧ -n ≤ 1000000000000000000
    · simp only [endB, hr, and_self, decide_true, if_true, Bool.true_and]
      exact Ev.bind (specDec_ev (by omega)) (Ev.now _)
    · simp only [endB, hr, decide_false, Bool.false_eq_true, if_false, Bool.false_and]
      exact Ev.now _
  · simp only [if_neg hc]
    by_cases hr : -1000000000000000000 ≤ n ∧ n ≤ 1000000000000000000
    · simp only [endB, hr, and_self, decide_true, if_true, Bool.true_and]
      exact Ev.bind (specDec_ev (by omega)) (Ev.now _)
    · simp only [endB, hr, decide_false, Bool.false_eq_true, if_false, Bool.false_and]
      exact Ev.now _
theorem great_loop (s rest : ByteArray) (hs : rest.size ≤ 1048576) (d : Nat) : ∀ (i : Nat) (n : Int), i + d = rest.size → 0 ≤ n ∧ n ≤ 1000000000000000009 → ∃ m b, Ev (fun k => spec_l01Great.l0 k s rest n (i : Int)) (m, b) ∧ (b = true → endB s m = true) := by
  induction d with
  | zero =>
    intro i n hi hn
    obtain rfl : i = rest.size := by omega
    exact ⟨_, _, great_end s rest n hn, fun h => h⟩
  | succ d ih =>
    intro i n hi hn
    have hlt : i < rest.size := by omega
    have hb := bt_range rest (i : Int)
    have e1 : wrap64 ((i : Int) + 1) = ((i + 1 : Nat) : Int) := by rw [w64 (by omega) (by omega)]; omega
    by_cases h1 : bt rest (i : Int) < 48
    · refine ⟨0, false, Ev.succ ?_, fun h => by cases h⟩
      simp only [spec_l01Great.l0, if_pos (show (i : Int) < (rest.size : Int) by omega), if_pos (show (0 : Int) ≤ (i : Int) by omega), if_pos h1]
      exact Ev.now _
    by_cases h2 : bt rest (i : Int) > 57
    · refine ⟨0, false, Ev.succ ?_, fun h => by cases h⟩
      simp only [spec_l01Great.l0, if_pos (show (i : Int) < (rest.size : Int) by omega), if_pos (show (0 : Int) ≤ (i : Int) by omega), if_neg h1, if_pos h2]
      exact Ev.now _
    by_cases h3 : n > 100000000000000000
    · refine ⟨0, false, Ev.succ ?_, fun h => by cases h⟩
      simp only [spec_l01Great.l0, if_pos (show (i : Int) < (rest.size : Int) by omega), if_pos (show (0 : Int) ≤ (i : Int) by omega), if_neg h1, if_neg h2, if_pos h3]
      exact Ev.now _
    have e2 : wrap64 (wrap64 (10 * n) + (bt rest (i : Int) - 48) % 256) = 10 * n + (bt rest (i : Int) - 48) := by
      rw [w64 (x := 10 * n) (by omega) (by omega), w64 (by omega) (by omega)]; omega
    obtain ⟨m, b, hm, hr⟩ := ih (i + 1) (10 * n + (bt rest (i : Int) - 48)) (by omega) (by omega)
    refine ⟨m, b, Ev.succ ?_, hr⟩
    simp only [spec_l01Great.l0, if_pos (show (i : Int) < (rest.size : Int) by omega), if_pos (show (0 : Int) ≤ (i : Int) by omega), if_neg h1, if_neg h2, if_neg h3, e1, e2]
    exact hm
theorem great_digits (s rest : ByteArray) (hs : rest.size ≤ 1048576) (q : Int × Bool) : ∀ (u : Nat), u ≤ 1000000000000000000 → ∀ t : List UInt8, bs rest = decDigits u ++ t →
    Ev (fun k => spec_l01Great.l0 k s rest (u : Int) ((decDigits u).length : Int)) q → Ev (fun k => spec_l01Great.l0 k s rest 0 0) q := by
  intro u
  induction u using Nat.strongRecOn with
  | ind u ih =>
    intro hu t ht h
    have hlen := bs_len rest
    have hstep : ∀ (p : List UInt8) (w d : Nat), bs rest = p ++ (UInt8.ofNat (48 + d) :: t) → d < 10 → w ≤ 100000000000000000 → Ev (fun k => spec_l01Great.l0 k s rest ((w * 10 + d : Nat) : Int) ((p.length + 1 : Nat) : Int)) q → Ev (fun k => spec_l01Great.l0 k s rest (w : Int) (p.length : Int)) q := by
      intro p w d hp hd hw hq
      have hl : p.length < rest.size := by rw [← hlen, hp, List.length_append, List.length_cons]; omega
      have hbt : bt rest (p.length : Int) = ((48 + d : Nat) : Int) := by
        rw [bt_nat rest p.length hl]
        congr 1
        simp only [hp]
        rw [List.getElem_append_right (Nat.le_refl _)]
        simp only [Nat.sub_self, List.getElem_cons_zero]
        exact dig_byte d hd
      have e1 : wrap64 ((p.length : Int) + 1) = ((p.length + 1 : Nat) : Int) := by rw [w64 (by omega) (by omega)]; omega
      have e2 : wrap64 (wrap64 (10 * (w : Int)) + (((48 + d : Nat) : Int) - 48) % 256) = ((w * 10 + d : Nat) : Int) := by
        rw [w64 (x := 10 * (w : Int)) (by omega) (by omega), w64 (by omega) (by omega)]; omega
      refine Ev.succ ?_
      simp only [spec_l01Great.l0, if_pos (show (p.length : Int) < (rest.size : Int) by omega), if_pos (show (0 : Int) ≤ (p.length : Int) by omega), hbt, if_neg (show ¬ ((48 + d : Nat) : Int) < 48 by omega), if_neg (show ¬ ((48 + d : Nat) : Int) > 57 by omega), if_neg (show ¬ (w : Int) > 100000000000000000 by omega), e1, e2]
      exact hq
    by_cases h10 : u < 10
    · have ed : decDigits u = [UInt8.ofNat (48 + u)] := by rw [decDigits, dif_pos h10]
      rw [ed] at ht h
      have := hstep [] 0 u (by rw [ht]; rfl) h10 (by omega) (by
        rw [Nat.zero_mul, Nat.zero_add]
        exact h)
      exact this
    · have ed : decDigits u = decDigits (u / 10) ++ [UInt8.ofNat (48 + u % 10)] := by rw [decDigits, dif_neg h10]
      rw [ed, List.append_assoc, List.singleton_append] at ht
      rw [ed, List.length_append, List.length_singleton] at h
      refine ih (u / 10) (by omega) (by omega) _ ht ?_
      refine hstep (decDigits (u / 10)) (u / 10) (u % 10) ht (by omega) (by omega) ?_
      rw [show u / 10 * 10 + u % 10 = u by omega]
      exact h
theorem extract_bs (s : ByteArray) (i : Nat) : bs (s.extract i s.size) = (bs s).drop i := by
  unfold bs
  rw [ByteArray.data_extract]
  simp [Array.toList_extract, List.take_of_length_le]
theorem great_yes {s : ByteArray} {v : Int} (hs : s.size ≤ 1048576) (hv : -1000000000000000000 ≤ v ∧ v ≤ 1000000000000000000) (h : bs s = itoa v) : Ev (fun k => spec_l01Great.f k s) (v, true) := by
  have hend : endB s v = true := by
    unfold endB
    rw [decide_eq_true hv, Bool.true_and, decS_list, ByteArray.toList_eq, beq_iff_eq]
    exact h.symm
  have hlen := bs_len s
  by_cases hn : v < 0
  · obtain ⟨u, hu⟩ := Int.eq_ofNat_of_zero_le (show 0 ≤ -v by omega)
    obtain rfl : v = -(u : Int) := by omega
    rw [Go.Lib.itoa_neg u (by omega)] at h
    have hl := dig_len 18 u (by omega)
    have hp := dig_pos u
    have hsz : s.size = (decDigits u).length + 1 := by rw [← hlen, h, List.length_cons]
    have hrest : bs (s.extract 1 s.size) = decDigits u := by rw [extract_bs, h]; rfl
    have hrl : (s.extract 1 s.size).size = (decDigits u).length := by rw [← bs_len, hrest]
    have hb0 : bt s 0 = 45 := by
      have := bt_nat s 0 (by omega)
      rw [show ((0 : Nat) : Int) = 0 from rfl] at this
      rw [this]
      simp only [h, List.getElem_cons_zero]
      rfl
    unfold spec_l01Great.f
    simp only [if_pos (show (s.size : Int) > 0 by omega), if_pos (show (0 : Int) < (s.size : Int) by omega), hb0, beq_self_eq_true]
    refine Ev.succ ?_
    simp only [spec_l01Great.j0, if_true, if_pos (show (1 : Int) ≤ (s.size : Int) by omega)]
    refine Ev.succ ?_
    simp only [spec_l01Great.j1, hrl, if_neg (show ¬ ((decDigits u).length : Int) < 1 by omega), decide_eq_false (show ¬ ((decDigits u).length : Int) > 19 by omega)]
    refine Ev.succ ?_
    simp only [spec_l01Great.j2, Bool.false_eq_true, if_false]
    refine great_digits s _ (by omega) _ u (by omega) [] (by rw [hrest, List.append_nil]) ?_
    have he := great_end s (s.extract 1 s.size) (u : Int) (by omega)
    rw [if_pos (by omega), hend, hrl] at he
    exact he
  · obtain ⟨u, rfl⟩ := Int.eq_ofNat_of_zero_le (show 0 ≤ v by omega)
    rw [Go.Lib.itoa_nonneg] at h
    have hl := dig_len 18 u (by omega)
    have hp := dig_pos u
    have hsz : s.size = (decDigits u).length := by rw [← hlen, h]
    have hb0 : (bt s 0 == 45) = false := by
      have := bt_nat s 0 (by omega)
      rw [show ((0 : Nat) : Int) = 0 from rfl] at this
      rw [this]
      have hd := dig_range u ((bs s)[0]'(by omega)) (by rw [← h]; exact List.getElem_mem _)
      exact beq_eq_false_iff_ne.mpr (by omega)
    unfold spec_l01Great.f
    simp only [if_pos (show (s.size : Int) > 0 by omega), if_pos (show (0 : Int) < (s.size : Int) by omega), hb0]
    refine Ev.succ ?_
    simp only [spec_l01Great.j0, Bool.false_eq_true, if_false]
    refine Ev.succ ?_
    simp only [spec_l01Great.j1, if_neg (show ¬ (s.size : Int) < 1 by omega), decide_eq_false (show ¬ (s.size : Int) > 19 by omega)]
    refine Ev.succ ?_
    simp only [spec_l01Great.j2, Bool.false_eq_true, if_false]
    refine great_digits s s (by omega) _ u (by omega) [] (by rw [h, List.append_nil]) ?_
    have he := great_end s s (u : Int) (by omega)
    rw [if_neg (by omega), hend] at he
    rw [← hsz]
    exact he
theorem great_no {s : ByteArray} (hs : s.size ≤ 1048576) (h : ∀ v, -1000000000000000000 ≤ v ∧ v ≤ 1000000000000000000 → bs s ≠ itoa v) : ∃ n, Ev (fun k => spec_l01Great.f k s) (n, false) := by
  have hend : ∀ m b, (b = true → endB s m = true) → b = false := by
    intro m b hb
    cases b with
    | false => rfl
    | true =>
      have he := hb rfl
      unfold endB at he
      rw [Bool.and_eq_true, decide_eq_true_eq, beq_iff_eq, decS_list, ByteArray.toList_eq] at he
      exact absurd he.2.symm (h m he.1)
  have hl0 : ∀ rest : ByteArray, rest.size ≤ 1048576 → ∃ n, Ev (fun k => spec_l01Great.l0 k s rest 0 0) (n, false) := by
    intro rest hr
    obtain ⟨m, b, hm, hb⟩ := great_loop s rest hr rest.size 0 0 (by omega) (by omega)
    obtain rfl := hend m b hb
    exact ⟨m, hm⟩
  have hj1 : ∀ rest : ByteArray, rest.size ≤ 1048576 → ∃ n, Ev (fun k => spec_l01Great.j1 k s rest) (n, false) := by
    intro rest hr
    by_cases h1 : (rest.size : Int) < 1
    · refine ⟨0, Ev.succ ?_⟩
      simp only [spec_l01Great.j1, if_pos h1]
      refine Ev.succ ?_
      simp only [spec_l01Great.j2, if_true]
      exact Ev.now _
    · by_cases h2 : (rest.size : Int) > 19
      · refine ⟨0, Ev.succ ?_⟩
        simp only [spec_l01Great.j1, if_neg h1, decide_eq_true h2]
        refine Ev.succ ?_
        simp only [spec_l01Great.j2, if_true]
        exact Ev.now _
      · obtain ⟨n, hn⟩ := hl0 rest hr
        refine ⟨n, Ev.succ ?_⟩
        simp only [spec_l01Great.j1, if_neg h1, decide_eq_false h2]
        refine Ev.succ ?_
        simp only [spec_l01Great.j2, Bool.false_eq_true, if_false]
        exact hn
  unfold spec_l01Great.f
  by_cases h0 : (s.size : Int) > 0
  · cases hb : bt s 0 == 45 with
    | true =>
      obtain ⟨n, hn⟩ := hj1 (s.extract 1 s.size) (by rw [ByteArray.size_extract]; omega)
      refine ⟨n, ?_⟩
      simp only [if_pos h0, if_pos (show (0 : Int) < (s.size : Int) by omega)]
      refine Ev.succ ?_
      simp only [spec_l01Great.j0, if_true, if_pos (show (1 : Int) ≤ (s.size : Int) by omega)]
      exact hn
    | false =>
      obtain ⟨n, hn⟩ := hj1 s hs
      refine ⟨n, ?_⟩
      simp only [if_pos h0, if_pos (show (0 : Int) < (s.size : Int) by omega)]
      refine Ev.succ ?_
      simp only [spec_l01Great.j0, Bool.false_eq_true, if_false]
      exact hn
  · obtain ⟨n, hn⟩ := hj1 s hs
    refine ⟨n, ?_⟩
    simp only [if_neg h0]
    refine Ev.succ ?_
    simp only [spec_l01Great.j0, Bool.false_eq_true, if_false]
    exact hn
/-- What both readers of numbers answer. -/
def numOf (s : ByteArray) : Int × Bool := wideV s 1000000000000000
theorem value_ev {s : ByteArray} (hs : s.size ≤ 1048576) : Ev (fun k => spec_l01Value.f k s) (numOf s) := by
  unfold spec_l01Value.f numOf
  by_cases hv : ∃ v, (-1000000000000000 ≤ v ∧ v ≤ 1000000000000000) ∧ bs s = itoa v
  · obtain ⟨v, hr, he⟩ := hv
    rw [wide_yes (by omega) hr he]
    refine Ev.bind (great_yes hs (by omega) he) ?_
    simp only [if_true, in_form, Option.bind_some, hr, and_self, decide_true]
    exact Ev.now _
  · rw [wide_no (fun v hr he => hv ⟨v, hr, he⟩)]
    by_cases hw : ∃ v, (-1000000000000000000 ≤ v ∧ v ≤ 1000000000000000000) ∧ bs s = itoa v
    · obtain ⟨v, hr, he⟩ := hw
      refine Ev.bind (great_yes hs hr he) ?_
      have hn : ¬ (-1000000000000000 ≤ v ∧ v ≤ 1000000000000000) := fun z => hv ⟨v, z, he⟩
      simp only [if_true, in_form, Option.bind_some, hn, decide_false, Bool.false_eq_true, if_false]
      exact Ev.now _
    · obtain ⟨n, hn⟩ := great_no hs (fun v hr he => hw ⟨v, hr, he⟩)
      refine Ev.bind hn ?_
      simp only [Bool.false_eq_true, if_false]
      exact Ev.now _
theorem implNum_form {s : ByteArray} (hs : s.size ≤ 1048576) : impl_ReadDecimal.f s = some (numOf s) := by
  unfold impl_ReadDecimal.f impl_readWide.f
  rw [if_pos ⟨by omega, by omega, by omega⟩]
  rfl
end Go.Proofs.YtbfaadhblmfcjaaDoor.P

/- The pieces of a text between the bytes of one value: as strings.Split tells them. -/
namespace Go.Proofs.YtbfaadhblmfcjaaDoor.P
open Go.RowKit Go.Proofs.YtbfaadhblmfcjaaDoorW.PrintWords Go.Proofs.YtbfaadhblmfcjaaDoorW.PrintLast Go.Proofs.YtbfaadhblmfcjaaDoorW.PrintMore
set_option linter.unusedVariables false
set_option linter.unusedSimpArgs false

/-- A byte ahead of the first piece. -/
def headP (x : UInt8) : List (List UInt8) → List (List UInt8)
  | [] => [[x]]
  | p :: ps => (x :: p) :: ps
def piecesL (c : UInt8) : List UInt8 → List (List UInt8)
  | [] => [[]]
  | x :: l => if x = c then [] :: piecesL c l else headP x (piecesL c l)
theorem piecesL_pos (c : UInt8) (l : List UInt8) : 0 < (piecesL c l).length := by
  cases l with
  | nil => exact Nat.zero_lt_one
  | cons x l =>
    rw [piecesL]
    split
    · simp
    · cases piecesL c l <;> simp [headP]
theorem headP_length (x : UInt8) (l : List (List UInt8)) (h : 0 < l.length) : (headP x l).length = l.length := by
  cases l with
  | nil => exact absurd h (by decide)
  | cons p ps => rfl
theorem piecesL_length (c : UInt8) (l : List UInt8) : (piecesL c l).length ≤ l.length + 1 := by
  induction l with
  | nil => exact Nat.le_refl _
  | cons x l ih =>
    rw [piecesL]
    split
    · simp; omega
    · rw [headP_length _ _ (piecesL_pos c l)]; simp; omega
theorem splitK_none (sep x : UInt8) (h : x ≠ sep) (k : Nat) (m : List UInt8) : Go.Lib.splitK [sep] 0 k (x :: m) = headP x (Go.Lib.splitK [sep] 0 k m) := by
  cases k with
  | zero => simp [Go.Lib.splitK, headP]
  | succ k =>
    have hg := Go.Lib.indexByte_ge m sep
    have hx : (x == sep) = false := by simpa using h
    unfold Go.Lib.splitK
    rw [Go.Lib.index_one, Go.Lib.index_one]
    by_cases h1 : Go.Lib.indexByte m sep = -1
    · have h2 : Go.Lib.indexByte (x :: m) sep = -1 := by simp [Go.Lib.indexByte, hx, h1]
      simp [h1, h2, headP]
    · have h2 : Go.Lib.indexByte (x :: m) sep = Go.Lib.indexByte m sep + 1 := by simp [Go.Lib.indexByte, hx, h1]
      obtain ⟨j, hj⟩ := Int.eq_ofNat_of_zero_le (show 0 ≤ Go.Lib.indexByte m sep by omega)
      have h3 : ((j : Int) == -1) = false := beq_eq_false_iff_ne.mpr (by omega)
      have h4 : ((j : Int) + 1 == -1) = false := beq_eq_false_iff_ne.mpr (by omega)
      have h5 : ((j : Int) + 1).toNat = j + 1 := by omega
      rw [h2, hj]
      have h6 : (x :: m).drop (j + 1 + [sep].length) = m.drop (j + [sep].length) := by simp
      simp only [h3, h4, h5, Bool.false_eq_true, if_false, Int.toNat_natCast, headP, h6, Nat.add_zero, List.take_succ_cons]
theorem splitK_at (sep : UInt8) (k : Nat) (m : List UInt8) : Go.Lib.splitK [sep] 0 (k + 1) (sep :: m) = [] :: Go.Lib.splitK [sep] 0 k m := by
  have h2 : Go.Lib.indexByte (sep :: m) sep = 0 := by simp [Go.Lib.indexByte]
  rw [Go.Lib.splitK, Go.Lib.index_one, h2]
  simp
theorem splitK_pieces (c : UInt8) (l : List UInt8) : Go.Lib.splitK [c] 0 (l.count c) l = piecesL c l := by
  induction l with
  | nil => rfl
  | cons x l ih =>
    rw [piecesL]
    by_cases h : x = c
    · subst h
      rw [List.count_cons_self, splitK_at, if_pos rfl, ih]
    · rw [List.count_cons_of_ne h, splitK_none _ _ h, if_neg h, ih]
/-- The pieces, as texts. -/
def piecesS (s : ByteArray) (c : UInt8) : List ByteArray := Go.Lib.splitB ⟨#[c]⟩ 0 (Go.Lib.countB s ⟨#[c]⟩) s
theorem pieces_bs (s : ByteArray) (c : UInt8) : (piecesS s c).map bs = piecesL c (bs s) := by
  have h := Go.Lib.splitB_data ⟨#[c]⟩ 0 (Go.Lib.countB s ⟨#[c]⟩) s
  have e : Go.Lib.countB s ⟨#[c]⟩ = (bs s).count c := Go.Lib.count_one c (bs s)
  unfold piecesS
  rw [e] at h ⊢
  rw [← splitK_pieces]
  exact h
theorem pieces_length (s : ByteArray) (c : UInt8) : (piecesS s c).length = (piecesL c (bs s)).length := by rw [← pieces_bs, List.length_map]
theorem split_form {s : ByteArray} (hs : s.size ≤ 1048576) (c : UInt8) : strings_Split.f s ⟨#[c]⟩ = some (piecesS s c) := by
  unfold strings_Split.f
  rw [if_pos ⟨hs, rfl⟩]
  rfl
/-- What is read already, ahead of the first piece. -/
def aheadP (p : List UInt8) : List (List UInt8) → List (List UInt8)
  | [] => [p]
  | q :: qs => (p ++ q) :: qs
theorem aheadP_head (p : List UInt8) (x : UInt8) (l : List (List UInt8)) (h : 0 < l.length) : aheadP p (headP x l) = aheadP (p ++ [x]) l := by
  cases l with
  | nil => exact absurd h (by decide)
  | cons q qs => simp [aheadP, headP]
theorem aheadP_nil (l : List (List UInt8)) (h : 0 < l.length) : aheadP [] l = l := by
  cases l with
  | nil => exact absurd h (by decide)
  | cons q qs => rfl
theorem extract_mid (s : ByteArray) (i j : Nat) : bs (s.extract i j) = ((bs s).drop i).take (j - i) := by
  unfold bs
  rw [ByteArray.data_extract]
  simp [Array.toList_extract]
  try rw [List.extract_eq_take_drop]
theorem piece_size (c : UInt8) (l : List UInt8) : ∀ p ∈ piecesL c l, p.length ≤ l.length := by
  induction l with
  | nil => intro p hp; simp [piecesL] at hp; rw [hp]; exact Nat.le_refl _
  | cons x l ih =>
    intro p hp
    rw [piecesL] at hp
    split at hp
    · rcases List.mem_cons.mp hp with rfl | h
      · simp
      · have := ih p h; simp; omega
    · cases hl : piecesL c l with
      | nil => have := piecesL_pos c l; rw [hl] at this; exact absurd this (by decide)
      | cons q qs =>
        rw [hl] at hp ih
        rcases List.mem_cons.mp hp with rfl | h
        · have := ih q List.mem_cons_self; simp; omega
        · have := ih p (List.mem_cons_of_mem _ h); simp; omega
end Go.Proofs.YtbfaadhblmfcjaaDoor.P

/- The text of runs of a wave, as the program and as the reference put it together, is one. The waves have at most 400 bytes. -/
namespace Go.Proofs.YtbfaadhblmfcjaaDoor.P
open Go.RowKit Go.Proofs.YtbfaadhblmfcjaaDoorW.PrintWords Go.Proofs.YtbfaadhblmfcjaaDoorW.PrintLast Go.Proofs.YtbfaadhblmfcjaaDoorW.PrintMore
set_option linter.unusedVariables false
set_option linter.unusedSimpArgs false

/-- The word of the run from a to b. -/
def wordS (s : ByteArray) (a b : Nat) : ByteArray := (s.extract a (a + 1) ++ (⟨#[120]⟩ : ByteArray)) ++ decS ((b - a : Nat) : Int)
def space : ByteArray := ⟨#[32]⟩
theorem one_size (s : ByteArray) (a : Nat) (h : a < s.size) : (s.extract a (a + 1)).size = 1 := by rw [ByteArray.size_extract]; omega
theorem two_size (s : ByteArray) (a : Nat) (h : a < s.size) : (s.extract a (a + 1) ++ (⟨#[120]⟩ : ByteArray)).size = 2 := by
  have e : (⟨#[120]⟩ : ByteArray).size = 1 := rfl
  rw [ByteArray.size_append, one_size s a h, e]
theorem word_size (s : ByteArray) (a b : Nat) (h : a < s.size) (hb : b ≤ 400) : 0 < (wordS s a b).size ∧ (wordS s a b).size ≤ 23 := by
  have h1 := decS_size (n := ((b - a : Nat) : Int)) (by omega)
  unfold wordS
  rw [ByteArray.size_append, two_size s a h]
  omega
theorem itoa_form {n : Int} (h : -9223372036854775808 ≤ n ∧ n ≤ 9223372036854775807) : strconv_Itoa.f n = some (decS n) := by
  unfold strconv_Itoa.f; rw [if_pos h]; rfl
theorem joinV_size (ws : List ByteArray) (h : ∀ x ∈ ws, 0 < x.size ∧ x.size ≤ 23) : (joinV ws space).size ≤ 24 * ws.length ∧ (ws.length ≠ 0 → 0 < (joinV ws space).size) := by
  have h1 := joinT_size ws space 23 rfl (fun x hx => (h x hx).2) ws.length (Nat.le_refl _)
  rw [joinT_all] at h1
  refine ⟨h1, fun h0 => ?_⟩
  have h2 := joinT_pos ws space (fun x hx => (h x hx).1) (ws.length - 1) (by omega)
  rw [show ws.length - 1 + 1 = ws.length by omega, joinT_all] at h2
  exact h2
theorem rf_word {s : ByteArray} (hs : s.size ≤ 400) {a j : Nat} (haj : a < j) (hj : j ≤ s.size) : (s.extract a (a + 1)).size + 1 ≤ 9223372036854775807 ∧ (s.extract a (a + 1) ++ (⟨#[120]⟩ : ByteArray)).size + (decS ((j - a : Nat) : Int)).size ≤ 9223372036854775807 := by
  have h1 := one_size s a (by omega)
  have h2 := two_size s a (by omega)
  have hd := decS_size (n := ((j - a : Nat) : Int)) (by omega)
  exact ⟨by omega, by omega⟩
theorem rf_int {s : ByteArray} (hs : s.size ≤ 400) {a j : Nat} (haj : a < j) (hj : j ≤ s.size) : (0 : Int) ≤ (a : Int) ∧ (a : Int) ≤ ((a + 1 : Nat) : Int) ∧ ((a + 1 : Nat) : Int) ≤ (s.size : Int) ∧ (a : Int) < (s.size : Int) ∧ (0 : Int) ≤ (j : Int) ∧ (j : Int) ≤ (s.size : Int) := by omega
theorem rf_wrap {s : ByteArray} (hs : s.size ≤ 400) {a j : Nat} (haj : a < j) (hj : j ≤ s.size) : wrap64 ((a : Int) + 1) = ((a + 1 : Nat) : Int) ∧ wrap64 ((j : Int) - (a : Int)) = ((j - a : Nat) : Int) ∧ wrap64 ((j : Int) + 1) = ((j + 1 : Nat) : Int) := by
  refine ⟨?_, ?_, ?_⟩ <;> rw [w64 (by omega) (by omega)] <;> omega
theorem rf_dec {s : ByteArray} (hs : s.size ≤ 400) {a j : Nat} (haj : a < j) (hj : j ≤ s.size) : -9223372036854775808 ≤ ((j - a : Nat) : Int) ∧ ((j - a : Nat) : Int) ≤ 9223372036854775807 := by omega
theorem rf_join {s : ByteArray} (hs : s.size ≤ 400) {a j : Nat} (haj : a < j) (hj : j ≤ s.size) {ws : List ByteArray} (hwl : ws.length ≤ a) (hws : ∀ x ∈ ws, 0 < x.size ∧ x.size ≤ 23) :
    (joinV ws space).size + 1 ≤ 9223372036854775807 ∧ (joinV ws space).size + (wordS s a j).size ≤ 9223372036854775807 ∧ (joinV ws space ++ (⟨#[32]⟩ : ByteArray)).size + (wordS s a j).size ≤ 9223372036854775807 ∧ ws.length < 8796093022208 := by
  have h1 := (joinV_size ws hws).1
  have h2 := word_size s a j (by omega) (by omega)
  have h3 : (joinV ws space ++ (⟨#[32]⟩ : ByteArray)).size = (joinV ws space).size + 1 := by rw [ByteArray.size_append]; rfl
  exact ⟨by omega, by omega, by omega, by omega⟩
theorem rf_more {s : ByteArray} (hs : s.size ≤ 400) {a j : Nat} (haj : a < j) (hj : j ≤ s.size) {ws : List ByteArray} (hwl : ws.length ≤ a) (hws : ∀ x ∈ ws, 0 < x.size ∧ x.size ≤ 23) : ∀ x ∈ ws ++ [wordS s a j], 0 < x.size ∧ x.size ≤ 23 := by
  intro x hx
  rcases List.mem_append.mp hx with h | h
  · exact hws x h
  · rw [List.mem_singleton.mp h]; exact word_size s a j (by omega) (by omega)
theorem rf_last {s : ByteArray} (hs : s.size ≤ 400) {a j : Nat} (haj : a < j) (hj : j ≤ s.size) {ws : List ByteArray} (hwl : ws.length ≤ a) (hws : ∀ x ∈ ws, 0 < x.size ∧ x.size ≤ 23) :
    strings_Join.f (ws ++ [wordS s a j]) (⟨#[32]⟩ : ByteArray) = some (joinV (ws ++ [wordS s a j]) space) ∧ ¬ (joinV (ws ++ [wordS s a j]) space).toList = ([] : List UInt8) := by
  obtain ⟨h1, h2⟩ := joinV_size _ (rf_more hs haj hj hwl hws)
  have h2 := h2 (by simp)
  rw [List.length_append, List.length_singleton] at h1
  constructor
  · unfold strings_Join.f
    rw [if_pos]
    · rfl
    · refine ⟨by rw [List.length_append, List.length_singleton]; omega, ?_⟩
      show (joinV (ws ++ [wordS s a j]) space).size ≤ _
      omega
  · rw [toList_nil]; omega
end Go.Proofs.YtbfaadhblmfcjaaDoor.P

/- Runs of a wave and their words: what the text of runs is, taken apart and put together. Plain lists; no condition but the wave's length. -/
namespace Go.Proofs.YtbfaadhblmfcjaaDoor.P
open Go.RowKit Go.Proofs.YtbfaadhblmfcjaaDoorW.PrintWords Go.Proofs.YtbfaadhblmfcjaaDoorW.PrintLast Go.Proofs.YtbfaadhblmfcjaaDoorW.PrintMore
set_option linter.unusedVariables false
set_option linter.unusedSimpArgs false

theorem aheadP_cons (p : List UInt8) (x : UInt8) (L : List (List UInt8)) (h : 0 < L.length) : headP x (aheadP p L) = aheadP (x :: p) L := by
  cases L with
  | nil => simp at h
  | cons q qs => rfl
theorem pieces_app (c : UInt8) (p l : List UInt8) (h : c ∉ p) : piecesL c (p ++ l) = aheadP p (piecesL c l) := by
  induction p with
  | nil => rw [List.nil_append, aheadP_nil _ (piecesL_pos _ _)]
  | cons x p ih =>
    have hx : ¬ x = c := fun e => h (by rw [e]; exact List.mem_cons_self)
    rw [List.cons_append, piecesL, if_neg hx, ih (fun z => h (List.mem_cons_of_mem _ z)), aheadP_cons _ _ _ (piecesL_pos _ _)]
theorem pieces_at (c : UInt8) (p l : List UInt8) (h : c ∉ p) : piecesL c (p ++ c :: l) = p :: piecesL c l := by
  rw [pieces_app c p _ h, piecesL, if_pos rfl]
  show (p ++ []) :: _ = _
  rw [List.append_nil]
theorem join_two (p q : List UInt8) (r : List (List UInt8)) (sep : List UInt8) : Go.Lib.join (p :: q :: r) sep = p ++ sep ++ Go.Lib.join (q :: r) sep := by
  rw [Go.Lib.join_cons, Go.Lib.join_cons]
  simp [Go.Lib.joinTail]
theorem pieces_join (c : UInt8) : ∀ ws : List (List UInt8), ws ≠ [] → (∀ p ∈ ws, c ∉ p) → piecesL c (Go.Lib.join ws [c]) = ws
  | [], h, _ => absurd rfl h
  | [p], _, h => by
    rw [Go.Lib.join_one]
    have := pieces_app c p [] (h p List.mem_cons_self)
    rw [List.append_nil] at this
    rw [this]
    show [p ++ []] = _
    rw [List.append_nil]
  | p :: q :: r, _, h => by
    rw [join_two, List.append_assoc, List.singleton_append, pieces_at c p _ (h p List.mem_cons_self), pieces_join c (q :: r) (by simp) (fun x hx => h x (List.mem_cons_of_mem _ hx))]
theorem join_pieces (c : UInt8) (l : List UInt8) : Go.Lib.join (piecesL c l) [c] = l := by
  induction l with
  | nil => rw [piecesL, Go.Lib.join_one]
  | cons x l ih =>
    rw [piecesL]
    have hp := piecesL_pos c l
    by_cases hx : x = c
    · rw [if_pos hx]
      cases hP : piecesL c l with
      | nil => rw [hP] at hp; simp at hp
      | cons q qs => rw [join_two, ← hP, ih, hx]; rfl
    · rw [if_neg hx]
      cases hP : piecesL c l with
      | nil => rw [hP] at hp; simp at hp
      | cons q qs =>
        rw [hP] at ih
        show Go.Lib.join ((x :: q) :: qs) [c] = _
        rw [Go.Lib.join_cons] at ih ⊢
        rw [List.cons_append, ih]

/-- The word of a run. -/
def wordL (c : UInt8) (n : Nat) : List UInt8 := c :: 120 :: Go.Lib.itoa (n : Int)
def lvU (c : UInt8) : Prop := c = 48 ∨ c = 49
theorem word_no (c : UInt8) (n : Nat) (hc : lvU c) : (32 : UInt8) ∉ wordL c n := by
  intro h
  unfold wordL at h
  rw [Go.Lib.itoa_nonneg] at h
  rcases List.mem_cons.mp h with h | h
  · rcases hc with rfl | rfl <;> exact absurd h (by decide)
  rcases List.mem_cons.mp h with h | h
  · exact absurd h (by decide)
  · have := dig_range n _ h
    simp at this
abbrev Runs := List (UInt8 × Nat)
def flatR (rs : Runs) : List UInt8 := (rs.map fun q => List.replicate q.2 q.1).flatten
def wordsR (rs : Runs) : List (List UInt8) := rs.map fun q => wordL q.1 q.2
theorem flatR_cons (c : UInt8) (n : Nat) (rs : Runs) : flatR ((c, n) :: rs) = List.replicate n c ++ flatR rs := rfl
/-- Runs of levels, each of one tick at least, none like the one before. -/
def chainR : Option UInt8 → Runs → Prop
  | _, [] => True
  | o, (c, n) :: rs => lvU c ∧ 1 ≤ n ∧ o ≠ some c ∧ chainR (some c) rs
theorem chain_lv : ∀ (o : Option UInt8) (rs : Runs), chainR o rs → ∀ x ∈ flatR rs, lvU x
  | _, [], _, x, hx => by cases hx
  | o, (c, n) :: rs, h, x, hx => by
    rw [flatR_cons, List.mem_append] at hx
    rcases hx with hx | hx
    · rw [List.eq_of_mem_replicate hx]; exact h.1
    · exact chain_lv (some c) rs h.2.2.2 x hx
theorem chain_no : ∀ (o : Option UInt8) (rs : Runs), chainR o rs → ∀ p ∈ wordsR rs, (32 : UInt8) ∉ p
  | _, [], _, p, hp => by cases hp
  | o, (c, n) :: rs, h, p, hp => by
    rcases List.mem_cons.mp hp with rfl | hp
    · exact word_no c n h.1
    · exact chain_no (some c) rs h.2.2.2 p hp
/-- Each wave has its runs. -/
theorem runs_exist : ∀ l : List UInt8, (∀ x ∈ l, lvU x) → ∃ rs, chainR none rs ∧ flatR rs = l
  | [], _ => ⟨[], trivial, rfl⟩
  | x :: l, h => by
    obtain ⟨rs, h1, h2⟩ := runs_exist l (fun y hy => h y (List.mem_cons_of_mem _ hy))
    have hx := h x List.mem_cons_self
    cases rs with
    | nil => exact ⟨[(x, 1)], ⟨hx, Nat.le_refl _, by simp, trivial⟩, by rw [flatR_cons, h2]; rfl⟩
    | cons q rs =>
      obtain ⟨c, n⟩ := q
      by_cases hc : c = x
      · subst hc
        exact ⟨(c, n + 1) :: rs, ⟨hx, by omega, by simp, h1.2.2.2⟩, by rw [← h2, flatR_cons, flatR_cons, List.replicate_succ]; rfl⟩
      · exact ⟨(x, 1) :: (c, n) :: rs, ⟨hx, Nat.le_refl _, by simp, h1.1, h1.2.1, by intro e; exact hc (Option.some.inj e).symm, h1.2.2.2⟩, by rw [flatR_cons, h2]; rfl⟩
/-- The words from a run's start a and a place j in it on. -/
def wordsL (l : List UInt8) : Nat → Nat → Nat → List (List UInt8)
  | 0, a, j => [wordL (l.getD a 0) (j - a)]
  | d + 1, a, j => if l.getD j 0 = l.getD a 0 then wordsL l d a (j + 1) else wordL (l.getD a 0) (j - a) :: wordsL l d j (j + 1)
theorem getD_rep (A B : List UInt8) (c : UInt8) (n k : Nat) (h : k < n) : (A ++ (List.replicate n c ++ B)).getD (A.length + k) 0 = c := by
  rw [List.getD_eq_getElem?_getD, List.getElem?_append_right (by omega), List.getElem?_append_left (by rw [List.length_replicate]; omega)]
  simp [List.getElem?_replicate, h]
theorem words_is : ∀ (rs : Runs) (o : Option UInt8) (A : List UInt8) (c : UInt8) (n : Nat), chainR o ((c, n) :: rs) → ∀ m, m + 1 ≤ n → ∀ l, l = A ++ (List.replicate n c ++ flatR rs) →
    wordsL l (m + (flatR rs).length) A.length (A.length + (n - m)) = wordL c n :: wordsR rs := by
  intro rs
  induction rs with
  | nil =>
    intro o A c n hch m
    induction m with
    | zero =>
      intro hm l hl
      have ha : l.getD A.length 0 = c := by
        have := getD_rep A (flatR []) c n 0 (by omega)
        rw [hl]; exact this
      show wordsL l 0 _ _ = _
      rw [wordsL, ha, Nat.sub_zero, Nat.add_sub_cancel_left]; rfl
    | succ m ih =>
      intro hm l hl
      have ha : l.getD A.length 0 = c := by
        have := getD_rep A (flatR []) c n 0 (by omega)
        rw [hl]; exact this
      have hj : l.getD (A.length + (n - (m + 1))) 0 = c := by rw [hl]; exact getD_rep A _ c n _ (by omega)
      have e : A.length + (n - (m + 1)) + 1 = A.length + (n - m) := by omega
      show wordsL l (m + 1) _ _ = _
      rw [wordsL, ha, hj, if_pos rfl, e]
      exact ih (by omega) l hl
  | cons q rs ihr =>
    obtain ⟨c2, n2⟩ := q
    intro o A c n hch m
    have hn2 : 1 ≤ n2 := hch.2.2.2.2.1
    have hne : c2 ≠ c := fun e => hch.2.2.2.2.2.1 (by rw [e])
    induction m with
    | zero =>
      intro hm l hl
      have ha : l.getD A.length 0 = c := by
        have := getD_rep A (flatR ((c2, n2) :: rs)) c n 0 (by omega)
        rw [hl]; exact this
      have hl2 : l = (A ++ List.replicate n c) ++ (List.replicate n2 c2 ++ flatR rs) := by rw [hl, flatR_cons, List.append_assoc]
      have hA2 : (A ++ List.replicate n c).length = A.length + n := by rw [List.length_append, List.length_replicate]
      have hj : l.getD (A.length + (n - 0)) 0 = c2 := by
        have := getD_rep (A ++ List.replicate n c) (flatR rs) c2 n2 0 (by omega)
        rw [← hl2, hA2] at this
        exact this
      have hlen : 0 + (flatR ((c2, n2) :: rs)).length = ((n2 - 1) + (flatR rs).length) + 1 := by rw [flatR_cons, List.length_append, List.length_replicate]; omega
      have h := ihr (some c) (A ++ List.replicate n c) c2 n2 hch.2.2.2 (n2 - 1) (by omega) l hl2
      rw [hA2] at h
      rw [hlen, wordsL, ha, hj, if_neg hne, Nat.sub_zero, Nat.add_sub_cancel_left]
      rw [show A.length + n + (n2 - (n2 - 1)) = A.length + n + 1 by omega] at h
      rw [h]; rfl
    | succ m ih =>
      intro hm l hl
      have ha : l.getD A.length 0 = c := by
        have := getD_rep A (flatR ((c2, n2) :: rs)) c n 0 (by omega)
        rw [hl]; exact this
      have hj : l.getD (A.length + (n - (m + 1))) 0 = c := by rw [hl]; exact getD_rep A _ c n _ (by omega)
      have e : A.length + (n - (m + 1)) + 1 = A.length + (n - m) := by omega
      rw [show m + 1 + (flatR ((c2, n2) :: rs)).length = (m + (flatR ((c2, n2) :: rs)).length) + 1 by omega, wordsL, ha, hj, if_pos rfl, e]
      exact ih (by omega) l hl
/-- The words of a wave's runs. -/
theorem words_of {rs : Runs} (h : chainR none rs) (hne : rs ≠ []) : wordsL (flatR rs) ((flatR rs).length - 1) 0 1 = wordsR rs := by
  cases rs with
  | nil => exact absurd rfl hne
  | cons q rs =>
    obtain ⟨c, n⟩ := q
    have hn := h.2.1
    have := words_is rs none [] c n h (n - 1) (by omega) (flatR ((c, n) :: rs)) rfl
    rw [show ([] : List UInt8).length + (n - (n - 1)) = 1 by simp; omega] at this
    rw [show (flatR ((c, n) :: rs)).length - 1 = n - 1 + (flatR rs).length by rw [flatR_cons, List.length_append, List.length_replicate]; omega]
    exact this
/-- The same, as texts. -/
def wordsF (s : ByteArray) : Nat → Nat → Nat → List ByteArray
  | 0, a, j => [wordS s a j]
  | d + 1, a, j => if bt s (j : Int) = bt s (a : Int) then wordsF s d a (j + 1) else wordS s a j :: wordsF s d j (j + 1)
theorem bs_getD (s : ByteArray) (i : Nat) (h : i < s.size) : (bs s).getD i 0 = (bs s)[i]'(by rw [bs_len]; exact h) := by
  rw [List.getD_eq_getElem?_getD, List.getElem?_eq_getElem (by rw [bs_len]; exact h)]; rfl
theorem word_bs (s : ByteArray) (a j : Nat) (ha : a < s.size) : bs (wordS s a j) = wordL ((bs s).getD a 0) (j - a) := by
  unfold wordS wordL
  rw [bs_append, bs_append, extract_mid, bs_getD s a ha]
  have e : a + 1 - a = 1 := by omega
  have hl : a < (bs s).length := by rw [bs_len]; exact ha
  have ed : bs (decS ((j - a : Nat) : Int)) = Go.Lib.itoa ((j - a : Nat) : Int) := by simp [bs, decS]
  rw [e, List.drop_eq_getElem_cons hl, ed]
  rfl
theorem wordsF_bs (s : ByteArray) (d : Nat) : ∀ a j, j + d = s.size → a < j → (wordsF s d a j).map bs = wordsL (bs s) d a j := by
  induction d with
  | zero =>
    intro a j h1 h2
    show [bs (wordS s a j)] = _
    rw [word_bs s a j (by omega)]; rfl
  | succ d ih =>
    intro a j h1 h2
    have ej : bt s (j : Int) = (((bs s).getD j 0).toNat : Int) := by rw [bs_getD s j (by omega)]; exact bt_nat s j (by omega)
    have ea : bt s (a : Int) = (((bs s).getD a 0).toNat : Int) := by rw [bs_getD s a (by omega)]; exact bt_nat s a (by omega)
    rw [wordsF, wordsL, ej, ea]
    by_cases hc : (bs s).getD j 0 = (bs s).getD a 0
    · rw [if_pos (by rw [hc]), if_pos hc]
      exact ih a (j + 1) (by omega) (by omega)
    · rw [if_neg (fun e => hc (UInt8.toNat_inj.mp (by omega))), if_neg hc, List.map_cons, word_bs s a j (by omega), ih j (j + 1) (by omega) (by omega)]
end Go.Proofs.YtbfaadhblmfcjaaDoor.P

/- What the text of runs of a wave is, and what reading runs answers on the reference's side. Waves of at most 400 bytes, texts of at most 1048576. -/
namespace Go.Proofs.YtbfaadhblmfcjaaDoor.P
open Go.RowKit Go.Proofs.YtbfaadhblmfcjaaDoorW.PrintWords Go.Proofs.YtbfaadhblmfcjaaDoorW.PrintLast Go.Proofs.YtbfaadhblmfcjaaDoorW.PrintMore
set_option linter.unusedVariables false
set_option linter.unusedSimpArgs false

theorem runs_told (s : ByteArray) (hs : s.size ≤ 400) (d : Nat) : ∀ (a j : Nat) (ws : List ByteArray), j + d = s.size → a < j → (ws.length = 0 ↔ a = 0) → ws.length ≤ a → (∀ x ∈ ws, 0 < x.size ∧ x.size ≤ 23) →
    Ev (fun k => impl_runsOf.l1 k s ws (a : Int) (j : Int)) (joinV (ws ++ wordsF s d a j) space) := by
  induction d with
  | zero =>
    intro a j ws hj haj h0 hwl hws
    obtain rfl : j = s.size := by clear h0; omega
    have hle : s.size ≤ s.size := Nat.le_refl _
    obtain ⟨w1, w2⟩ := rf_word hs haj hle
    obtain ⟨i1, i2, i3, i4, i5, i6⟩ := rf_int hs haj hle
    obtain ⟨e1, e2, e3⟩ := rf_wrap hs haj hle
    have hit := itoa_form (rf_dec hs haj hle)
    obtain ⟨j1, j2, j3, j4⟩ := rf_join hs haj hle hwl hws
    obtain ⟨hjn, hne⟩ := rf_last hs haj hle hwl hws
    have hb : (s.extract a (a + 1) ++ (⟨#[120]⟩ : ByteArray) ++ decS ((s.size - a : Nat) : Int)) = wordS s a s.size := rfl
    have hirr : ¬ (s.size : Int) < (s.size : Int) := Int.lt_irrefl _
    have hpl : ¬ ((ws.length + 1 : Nat) : Int) = 0 := by clear h0 j1 j2 j3 j4 w1 w2 e1 e2 e3 hit hjn hne hb; omega
    refine Ev.succ ?_
    simp only [impl_runsOf.l1, if_neg hirr, if_pos i1, e1, Int.toNat_natCast, if_pos i2, if_pos i3, if_pos w1, e2, hit, Option.bind_some, if_pos w2, hb, if_pos j4]
    refine Ev.succ ?_
    simp only [impl_runsOf.l0, if_neg hirr, List.length_append, List.length_singleton, if_neg hpl, hjn, Option.bind_some]
    exact Ev.now _
  | succ d ih =>
    intro a j ws hj haj h0 hwl hws
    have hlt : j < s.size := by clear h0; omega
    have hle : j ≤ s.size := Nat.le_of_lt hlt
    obtain ⟨w1, w2⟩ := rf_word hs haj hle
    obtain ⟨i1, i2, i3, i4, i5, i6⟩ := rf_int hs haj hle
    obtain ⟨e1, e2, e3⟩ := rf_wrap hs haj hle
    have hit := itoa_form (rf_dec hs haj hle)
    obtain ⟨j1, j2, j3, j4⟩ := rf_join hs haj hle hwl hws
    have hb : (s.extract a (a + 1) ++ (⟨#[120]⟩ : ByteArray) ++ decS ((j - a : Nat) : Int)) = wordS s a j := rfl
    have hjlt : (j : Int) < (s.size : Int) := by clear h0 j1 j2 j3 j4 w1 w2 e1 e2 e3 hit hb; omega
    rw [wordsF]
    by_cases hc : bt s (j : Int) = bt s (a : Int)
    · have hr2 := ih a (j + 1) ws (by clear h0 j1 j2 j3 j4 w1 w2 e1 e2 e3 hit hb; omega) (by clear h0 j1 j2 j3 j4 w1 w2 e1 e2 e3 hit hb; omega) h0 hwl hws
      refine Ev.succ ?_
      simp only [impl_runsOf.l1, if_pos hjlt, if_pos i5, if_pos i1, if_pos i4, if_pos hc, e3]
      exact hr2
    · have hr2 := ih j (j + 1) (ws ++ [wordS s a j]) (by clear h0 j1 j2 j3 j4 w1 w2 e1 e2 e3 hit hb; omega) (Nat.lt_succ_self j) (by rw [List.length_append, List.length_singleton]; clear h0 j1 j2 j3 j4 w1 w2 e1 e2 e3 hit hb; omega) (by rw [List.length_append, List.length_singleton]; clear h0 j1 j2 j3 j4 w1 w2 e1 e2 e3 hit hb; omega) (rf_more hs haj hle hwl hws)
      rw [List.append_assoc, List.singleton_append] at hr2
      rw [if_neg hc]
      refine Ev.succ ?_
      simp only [impl_runsOf.l1, if_pos hjlt, if_pos i5, if_pos i1, if_pos i4, if_neg hc, e1, Int.toNat_natCast, if_pos i2, if_pos i3, if_pos w1, e2, hit, Option.bind_some, if_pos w2, hb, if_pos j4]
      refine Ev.succ ?_
      simp only [impl_runsOf.l0, if_pos hjlt]
      refine Ev.succ ?_
      simp only [impl_runsOf.l1, if_pos hjlt, if_pos i5, if_true, e3]
      exact hr2
/-- The text of runs of a wave that has a tick. -/
theorem runsOf_is {s : ByteArray} {rs : Runs} (hs : s.size ≤ 400) (h : chainR none rs) (hne : rs ≠ []) (hf : flatR rs = bs s) (hpos : 0 < s.size) : ∃ t, Ev (fun k => impl_runsOf.f k s) t ∧ bs t = Go.Lib.join (wordsR rs) [32] := by
  have h0 := runs_told s hs (s.size - 1) 0 1 [] (by omega) (by omega) (by simp) (by simp) (fun x hx => by cases hx)
  refine ⟨joinV ([] ++ wordsF s (s.size - 1) 0 1) space, ?_, ?_⟩
  rotate_left
  · rw [joinV_bs, List.nil_append]
    have e := wordsF_bs s (s.size - 1) 0 1 (by omega) (by omega)
    have e2 := words_of h hne
    rw [hf, bs_len] at e2
    rw [e2] at e
    show Go.Lib.join ((wordsF s (s.size - 1) 0 1).map bs) [32] = _
    rw [e]
  · unfold impl_runsOf.f
    refine Ev.succ ?_
    have hlt : (0 : Int) < (s.size : Int) := by omega
    simp only [impl_runsOf.l0, if_pos hlt]
    refine Ev.succ ?_
    have e1 : wrap64 ((0 : Int) + 1) = ((1 : Nat) : Int) := by rw [w64 (by omega) (by omega)]; rfl
    simp only [impl_runsOf.l1, if_pos hlt, if_pos (show (0 : Int) ≤ 0 by omega), if_true, e1]
    exact h0
/-- Nothing is told of a wave without a tick. -/
theorem runsOf_none {s : ByteArray} (h : s.size = 0) : Ev (fun k => impl_runsOf.f k s) (⟨#[110, 111, 110, 101]⟩ : ByteArray) := by
  unfold impl_runsOf.f
  refine Ev.succ ?_
  simp only [impl_runsOf.l0, if_neg (show ¬ (0 : Int) < (s.size : Int) by omega), List.length_nil, if_pos (show ((0 : Nat) : Int) = 0 by rfl)]
  exact Ev.now _
theorem ev_one {α : Type} {g : Nat → Option α} {a b : α} (h1 : Ev g a) (h2 : Ev g b) : a = b := by
  obtain ⟨K1, h1⟩ := h1
  obtain ⟨K2, h2⟩ := h2
  have := (h1 (max K1 K2) (by omega)).symm.trans (h2 (max K1 K2) (by omega))
  exact Option.some.inj this

theorem num_yes {s : ByteArray} {v : Int} (hv : -1000000000000000 ≤ v ∧ v ≤ 1000000000000000) (h : bs s = Go.Lib.itoa v) : numOf s = (v, true) := wide_yes (by omega) hv h
theorem num_some {s : ByteArray} {v : Int} (h : numOf s = (v, true)) : bs s = Go.Lib.itoa v := by
  by_cases hv : ∃ v', (-1000000000000000 ≤ v' ∧ v' ≤ 1000000000000000) ∧ bs s = Go.Lib.itoa v'
  · obtain ⟨v', h1, h2⟩ := hv
    rw [num_yes h1 h2] at h
    rw [← (Prod.mk.inj h).1]; exact h2
  · have := wide_no (s := s) (m := 1000000000000000) (fun v hr he => hv ⟨v, hr, he⟩)
    unfold numOf at h
    rw [this] at h
    cases (Prod.mk.inj h).2
def nums (l : List UInt8) : List Int := l.map fun b => (b.toNat : Int)
theorem nums_app (a b : List UInt8) : nums (a ++ b) = nums a ++ nums b := List.map_append ..
theorem nums_len (a : List UInt8) : (nums a).length = a.length := List.length_map ..
theorem nums_snoc (a : List UInt8) (c : UInt8) : nums a ++ [(c.toNat : Int)] = nums (a ++ [c]) := (nums_app a [c]).symm
theorem nums_get (a : List UInt8) (i : Nat) (h : i < a.length) : rd (nums a) (i : Int) = (a[i].toNat : Int) := by
  rw [rd_at _ i (by rw [nums_len]; exact h)]
  simp [nums]
/-- A run is added tick by tick. -/
theorem add_run (W : List ByteArray) (t : ByteArray) (i : Nat) (ht : 0 < t.size) (r : ByteArray × Bool) (n : Nat) : ∀ A : List UInt8, A.length + n ≤ 1000000 → i ≤ 2000000 →
    Ev (fun k => spec_l01ReadRuns.l0 k (nums (A ++ List.replicate n ((bs t).getD 0 0))) W ((i + 1 : Nat) : Int)) r → Ev (fun k => spec_l01ReadRuns.l1 k (nums A) W (i : Int) t (n : Int)) r := by
  induction n with
  | zero =>
    intro A hA hi h
    refine Ev.succ ?_
    have e1 : wrap64 ((i : Int) + 1) = ((i + 1 : Nat) : Int) := by rw [w64 (by omega) (by omega)]; omega
    simp only [spec_l01ReadRuns.l1, if_neg (show ¬ ((0 : Nat) : Int) > 0 by omega), e1]
    rw [List.replicate_zero, List.append_nil] at h
    exact h
  | succ n ih =>
    intro A hA hi h
    refine Ev.succ ?_
    have e2 : wrap64 (((n + 1 : Nat) : Int) - 1) = (n : Int) := by rw [w64 (by omega) (by omega)]; omega
    have eb : bt t (0 : Int) = (((bs t).getD 0 0).toNat : Int) := by
      rw [bs_getD t 0 ht]; exact bt_nat t 0 ht
    have hl := nums_len A
    simp only [spec_l01ReadRuns.l1, if_pos (show ((n + 1 : Nat) : Int) > 0 by omega), if_pos (show (0 : Int) < (t.size : Int) by omega), if_pos (show (nums A).length < 140737488355328 by omega), e2, eb, nums_snoc]
    refine ih (A ++ [(bs t).getD 0 0]) (by rw [List.length_append, List.length_singleton]; omega) hi ?_
    rw [List.append_assoc, List.singleton_append, ← List.replicate_succ]
    exact h
theorem good_rest {t : ByteArray} {c : UInt8} {n : Nat} (h : bs t = wordL c n) : 3 ≤ t.size ∧ (bs t).getD 0 0 = c ∧ (bs t).getD 1 0 = 120 ∧ bs (t.extract 2 t.size) = Go.Lib.itoa (n : Int) := by
  have hl := bs_len t
  rw [h] at hl
  have hp : 0 < (Go.Lib.itoa (n : Int)).length := by rw [Go.Lib.itoa_nonneg]; exact dig_pos n
  unfold wordL at hl
  rw [List.length_cons, List.length_cons] at hl
  refine ⟨by omega, by rw [h]; rfl, by rw [h]; rfl, ?_⟩
  rw [extract_bs, h]; rfl
theorem spec_word {W : List ByteArray} {i : Nat} (hi : i < W.length) (hW : W.length ≤ 1048577) (hz : W[i].size ≤ 1048576) {A : List UInt8} {c : UInt8} {n : Nat} (h : bs W[i] = wordL c n) (hc : lvU c) (h1 : 1 ≤ n) (hn : A.length + n ≤ 400) (hlast : A.getLast? ≠ some c) (r : ByteArray × Bool)
    (hr : Ev (fun k => spec_l01ReadRuns.l0 k (nums (A ++ List.replicate n c)) W ((i + 1 : Nat) : Int)) r) : Ev (fun k => spec_l01ReadRuns.l0 k (nums A) W (i : Int)) r := by
  obtain ⟨g1, g2, g3, g4⟩ := good_rest h
  have er : rdOf ByteArray.empty W (i : Int) = W[i] := by simp [rdOf, List.getD_eq_getElem?_getD, List.getElem?_eq_getElem hi]
  have b0 : bt W[i] (0 : Int) = (c.toNat : Int) := by have := bt_nat W[i] 0 (by omega); rw [← bs_getD _ _ (by omega), g2] at this; exact this
  have b1 : bt W[i] (1 : Int) = 120 := by have := bt_nat W[i] 1 (by omega); rw [← bs_getD _ _ (by omega), g3] at this; exact this
  have hnum : numOf (W[i].extract 2 W[i].size) = ((n : Int), true) := num_yes (by omega) g4
  have hze : (W[i].extract 2 W[i].size).size ≤ 1048576 := by rw [ByteArray.size_extract]; omega
  have hval := value_ev hze
  rw [hnum] at hval
  have hlA := nums_len A
  have ew : wrap64 (400 - ((nums A).length : Int)) = 400 - (A.length : Int) := by rw [w64 (by omega) (by omega)]; omega
  have hj2 : Ev (fun k => spec_l01ReadRuns.j2 k (nums A) W (i : Int) W[i] (n : Int) false) r := by
    refine Ev.succ ?_
    simp only [spec_l01ReadRuns.j2, Bool.false_eq_true, if_false]
    refine add_run W W[i] i (by omega) r n A (by omega) (by omega) ?_
    rw [g2]; exact hr
  have hj1 : Ev (fun k => spec_l01ReadRuns.j1 k (nums A) W (i : Int) W[i] false) r := by
    refine Ev.succ ?_
    simp only [spec_l01ReadRuns.j1, Bool.false_eq_true, if_false, if_pos (show (2 : Int) ≤ (W[i].size : Int) by omega)]
    refine Ev.bind hval ?_
    simp only [if_true, ew, in_form, Option.bind_some, decide_eq_true (show 1 ≤ (n : Int) ∧ (n : Int) ≤ 400 - (A.length : Int) by omega)]
    by_cases hA : A.length = 0
    · simp only [if_neg (show ¬ ((nums A).length : Int) > 0 by omega)]
      exact hj2
    · have e3 : wrap64 (((nums A).length : Int) - 1) = ((A.length - 1 : Nat) : Int) := by rw [w64 (by omega) (by omega)]; omega
      have hg : rd (nums A) ((A.length - 1 : Nat) : Int) = ((A[A.length - 1]'(by omega)).toNat : Int) := nums_get A (A.length - 1) (by omega)
      have hx : (rd (nums A) ((A.length - 1 : Nat) : Int) == bt W[i] 0) = false := by
        rw [hg, b0]
        refine beq_eq_false_iff_ne.mpr (fun e => hlast ?_)
        rw [List.getLast?_eq_getElem?, List.getElem?_eq_getElem (by omega)]
        exact congrArg some (UInt8.toNat_inj.mp (by omega))
      simp only [if_pos (show ((nums A).length : Int) > 0 by omega), e3, if_pos (show (0 : Int) ≤ ((A.length - 1 : Nat) : Int) by omega), if_pos (show ((A.length - 1 : Nat) : Int) < ((nums A).length : Int) by omega), if_pos (show (0 : Int) < (W[i].size : Int) by omega), hx]
      exact hj2
  refine Ev.succ ?_
  simp only [spec_l01ReadRuns.l0, if_pos (show (i : Int) < (W.length : Int) by omega), if_pos (show (0 : Int) ≤ (i : Int) by omega), er, if_neg (show ¬ (W[i].size : Int) < 3 by omega), if_pos (show (0 : Int) < (W[i].size : Int) by omega), if_pos (show (1 : Int) < (W[i].size : Int) by omega), b0, b1, bne_self_eq_false]
  rcases hc with rfl | rfl
  · simp only [show (((48 : UInt8).toNat : Int)) = 48 from rfl, if_true]
    exact hj1
  · simp only [show (((49 : UInt8).toNat : Int)) = 49 from rfl, if_neg (show ¬ (49 : Int) = 48 by decide), if_true]
    exact hj1
end Go.Proofs.YtbfaadhblmfcjaaDoor.P

/- What reading a text of runs answers, piece by piece, on both sides. Texts of at most 1048576 bytes. -/
namespace Go.Proofs.YtbfaadhblmfcjaaDoor.P
open Go.RowKit Go.Proofs.YtbfaadhblmfcjaaDoorW.PrintWords Go.Proofs.YtbfaadhblmfcjaaDoorW.PrintLast Go.Proofs.YtbfaadhblmfcjaaDoorW.PrintMore
set_option linter.unusedVariables false
set_option linter.unusedSimpArgs false

theorem spec_step {W : List ByteArray} {i : Nat} (hi : i < W.length) (hW : W.length ≤ 1048577) (hz : W[i].size ≤ 1048576) {A : List UInt8} (hA : A.length ≤ 400) :
    (∃ c n, bs W[i] = wordL c n ∧ lvU c ∧ 1 ≤ n ∧ A.length + n ≤ 400 ∧ A.getLast? ≠ some c) ∨ Ev (fun k => spec_l01ReadRuns.l0 k (nums A) W (i : Int)) ((⟨#[]⟩ : ByteArray), false) := by
  have er : rdOf ByteArray.empty W (i : Int) = W[i] := by simp [rdOf, List.getD_eq_getElem?_getD, List.getElem?_eq_getElem hi]
  have hlA := nums_len A
  have hj : Ev (fun k => spec_l01ReadRuns.j1 k (nums A) W (i : Int) W[i] true) ((⟨#[]⟩ : ByteArray), false) := by
    refine Ev.succ ?_
    simp only [spec_l01ReadRuns.j1, if_true]
    exact Ev.now _
  by_cases h3 : W[i].size < 3
  · refine .inr (Ev.succ ?_)
    simp only [spec_l01ReadRuns.l0, if_pos (show (i : Int) < (W.length : Int) by omega), if_pos (show (0 : Int) ≤ (i : Int) by omega), er, if_pos (show (W[i].size : Int) < 3 by omega)]
    exact hj
  have b0 : bt W[i] (0 : Int) = (((bs W[i]).getD 0 0).toNat : Int) := by have := bt_nat W[i] 0 (by omega); rw [← bs_getD _ _ (by omega)] at this; exact this
  have b1 : bt W[i] (1 : Int) = (((bs W[i]).getD 1 0).toNat : Int) := by have := bt_nat W[i] 1 (by omega); rw [← bs_getD _ _ (by omega)] at this; exact this
  obtain ⟨x, y, q, hb⟩ : ∃ x y q, bs W[i] = x :: y :: q := by
    have hl := bs_len W[i]
    match hq : bs W[i], hl with
    | [], hl => simp at hl; omega
    | [x], hl => simp at hl; omega
    | x :: y :: q, _ => exact ⟨x, y, q, rfl⟩
  have hx : bt W[i] (0 : Int) = (x.toNat : Int) := by rw [b0, hb]; rfl
  have hy : bt W[i] (1 : Int) = (y.toNat : Int) := by rw [b1, hb]; rfl
  by_cases hc : lvU x
  · by_cases h120 : y = 120
    · have hze : (W[i].extract 2 W[i].size).size ≤ 1048576 := by rw [ByteArray.size_extract]; omega
      have hval := value_ev hze
      have hq : bs (W[i].extract 2 W[i].size) = q := by rw [extract_bs, hb]; rfl
      have ew : wrap64 (400 - ((nums A).length : Int)) = 400 - (A.length : Int) := by rw [w64 (by omega) (by omega)]; omega
      have hin : ∀ v : Int, Ev (fun k => spec_l01ReadRuns.j2 k (nums A) W (i : Int) W[i] v true) ((⟨#[]⟩ : ByteArray), false) := by
        intro v
        refine Ev.succ ?_
        simp only [spec_l01ReadRuns.j2, if_true]
        exact Ev.now _
      have hto : (∃ c n, bs W[i] = wordL c n ∧ lvU c ∧ 1 ≤ n ∧ A.length + n ≤ 400 ∧ A.getLast? ≠ some c) ∨ Ev (fun k => spec_l01ReadRuns.j1 k (nums A) W (i : Int) W[i] false) ((⟨#[]⟩ : ByteArray), false) := by
        cases hnum : numOf (W[i].extract 2 W[i].size) with
        | mk v b =>
          rw [hnum] at hval
          cases b with
          | false =>
            refine .inr (Ev.succ ?_)
            simp only [spec_l01ReadRuns.j1, Bool.false_eq_true, if_false, if_pos (show (2 : Int) ≤ (W[i].size : Int) by omega)]
            refine Ev.bind hval ?_
            simp only [Bool.false_eq_true, if_false]
            exact hin _
          | true =>
            by_cases hr : 1 ≤ v ∧ v ≤ 400 - (A.length : Int)
            · obtain ⟨n, rfl⟩ := Int.eq_ofNat_of_zero_le (show 0 ≤ v by omega)
              by_cases hl : A.getLast? = some x
              · refine .inr (Ev.succ ?_)
                simp only [spec_l01ReadRuns.j1, Bool.false_eq_true, if_false, if_pos (show (2 : Int) ≤ (W[i].size : Int) by omega)]
                refine Ev.bind hval ?_
                have hA0 : A.length ≠ 0 := fun e => by rw [List.length_eq_zero_iff.mp e] at hl; cases hl
                have e3 : wrap64 (((nums A).length : Int) - 1) = ((A.length - 1 : Nat) : Int) := by rw [w64 (by omega) (by omega)]; omega
                have hg : rd (nums A) ((A.length - 1 : Nat) : Int) = ((A[A.length - 1]'(by omega)).toNat : Int) := nums_get A (A.length - 1) (by omega)
                rw [List.getLast?_eq_getElem?, List.getElem?_eq_getElem (by omega)] at hl
                have hxx : (rd (nums A) ((A.length - 1 : Nat) : Int) == bt W[i] 0) = true := by
                  rw [hg, hx, Option.some.inj hl]; exact beq_self_eq_true _
                simp only [if_true, ew, in_form, Option.bind_some, decide_eq_true hr, if_pos (show ((nums A).length : Int) > 0 by omega), e3, if_pos (show (0 : Int) ≤ ((A.length - 1 : Nat) : Int) by omega), if_pos (show ((A.length - 1 : Nat) : Int) < ((nums A).length : Int) by omega), if_pos (show (0 : Int) < (W[i].size : Int) by omega), hxx]
                exact hin _
              · refine .inl ⟨x, n, ?_, hc, by omega, by omega, hl⟩
                have := num_some hnum
                rw [hq] at this
                rw [hb, h120, this]; rfl
            · refine .inr (Ev.succ ?_)
              simp only [spec_l01ReadRuns.j1, Bool.false_eq_true, if_false, if_pos (show (2 : Int) ≤ (W[i].size : Int) by omega)]
              refine Ev.bind hval ?_
              simp only [if_true, ew, in_form, Option.bind_some, decide_eq_false hr, Bool.false_eq_true, if_false]
              exact hin _
      rcases hto with h | h
      · exact .inl h
      · refine .inr (Ev.succ ?_)
        have hyb : (bt W[i] 1 != 120) = false := by rw [hy, h120]; rfl
        simp only [spec_l01ReadRuns.l0, if_pos (show (i : Int) < (W.length : Int) by omega), if_pos (show (0 : Int) ≤ (i : Int) by omega), er, if_neg (show ¬ (W[i].size : Int) < 3 by omega), if_pos (show (0 : Int) < (W[i].size : Int) by omega), if_pos (show (1 : Int) < (W[i].size : Int) by omega), hyb]
        rcases hc with rfl | rfl
        · rw [show (((48 : UInt8).toNat : Int)) = 48 from rfl] at hx
          simp only [hx, if_true]
          exact h
        · rw [show (((49 : UInt8).toNat : Int)) = 49 from rfl] at hx
          simp only [hx, if_neg (show ¬ (49 : Int) = 48 by decide), if_true]
          exact h
    · refine .inr (Ev.succ ?_)
      have hyb : (bt W[i] 1 != 120) = true := by
        rw [hy]
        refine bne_iff_ne.mpr (fun e => h120 (UInt8.toNat_inj.mp ?_))
        show _ = 120
        omega
      simp only [spec_l01ReadRuns.l0, if_pos (show (i : Int) < (W.length : Int) by omega), if_pos (show (0 : Int) ≤ (i : Int) by omega), er, if_neg (show ¬ (W[i].size : Int) < 3 by omega), if_pos (show (0 : Int) < (W[i].size : Int) by omega), if_pos (show (1 : Int) < (W[i].size : Int) by omega), hyb]
      rcases hc with rfl | rfl
      · rw [show (((48 : UInt8).toNat : Int)) = 48 from rfl] at hx
        simp only [hx, if_true]
        exact hj
      · rw [show (((49 : UInt8).toNat : Int)) = 49 from rfl] at hx
        simp only [hx, if_neg (show ¬ (49 : Int) = 48 by decide), if_true]
        exact hj
  · refine .inr (Ev.succ ?_)
    have n48 : ¬ bt W[i] 0 = 48 := fun e => hc (.inl (UInt8.toNat_inj.mp (by show _ = 48; omega)))
    have n49 : ¬ bt W[i] 0 = 49 := fun e => hc (.inr (UInt8.toNat_inj.mp (by show _ = 49; omega)))
    simp only [spec_l01ReadRuns.l0, if_pos (show (i : Int) < (W.length : Int) by omega), if_pos (show (0 : Int) ≤ (i : Int) by omega), er, if_neg (show ¬ (W[i].size : Int) < 3 by omega), if_pos (show (0 : Int) < (W[i].size : Int) by omega), if_neg n48, if_neg n49]
    exact hj
theorem last_rep (A : List UInt8) (c : UInt8) (n : Nat) (h : 1 ≤ n) : (A ++ List.replicate n c).getLast? = some c := by
  obtain ⟨m, rfl⟩ : ∃ m, n = m + 1 := ⟨n - 1, by omega⟩
  rw [List.replicate_succ', ← List.append_assoc, List.getLast?_append]
  simp
theorem spec_all {W : List ByteArray} (hW : W.length ≤ 1048577) (hz : ∀ w ∈ W, w.size ≤ 1048576) : ∀ (rs : Runs) (A : List UInt8) (i : Nat), chainR A.getLast? rs → (W.drop i).map bs = wordsR rs → A.length + (flatR rs).length ≤ 400 →
    Ev (fun k => spec_l01ReadRuns.l0 k (nums A) W (i : Int)) (strOfNums (nums (A ++ flatR rs)), true)
  | [], A, i, _, hd, _ => by
    have hl : W.length ≤ i := by
      have := congrArg List.length hd
      simp [wordsR] at this; omega
    refine Ev.succ ?_
    simp only [spec_l01ReadRuns.l0, if_neg (show ¬ (i : Int) < (W.length : Int) by omega)]
    show Ev _ (strOfNums (nums (A ++ [])), true)
    rw [List.append_nil]
    exact Ev.now _
  | (c, n) :: rs, A, i, hch, hd, hlen => by
    have hi : i < W.length := by
      have := congrArg List.length hd
      simp [wordsR] at this; omega
    rw [List.drop_eq_getElem_cons hi] at hd
    obtain ⟨hd1, hd2⟩ := List.cons.inj hd
    rw [flatR_cons, List.length_append, List.length_replicate] at hlen
    refine spec_word hi hW (hz _ (List.getElem_mem hi)) hd1 hch.1 hch.2.1 (by omega) hch.2.2.1 _ ?_
    have := spec_all hW hz rs (A ++ List.replicate n c) (i + 1) (by rw [last_rep A c n hch.2.1]; exact hch.2.2.2) hd2 (by rw [List.length_append, List.length_replicate]; omega)
    rw [List.append_assoc, ← flatR_cons] at this
    exact this
theorem spec_any {W : List ByteArray} (hW : W.length ≤ 1048577) (hz : ∀ w ∈ W, w.size ≤ 1048576) (d : Nat) : ∀ (A : List UInt8) (i : Nat), i + d = W.length → A.length ≤ 400 →
    ∃ r, Ev (fun k => spec_l01ReadRuns.l0 k (nums A) W (i : Int)) r ∧ (r = ((⟨#[]⟩ : ByteArray), false) ∨ ∃ rs, chainR A.getLast? rs ∧ (W.drop i).map bs = wordsR rs ∧ A.length + (flatR rs).length ≤ 400 ∧ r = (strOfNums (nums (A ++ flatR rs)), true)) := by
  induction d with
  | zero =>
    intro A i hi hA
    have hd : W.drop i = [] := List.drop_eq_nil_of_le (by omega)
    exact ⟨_, spec_all hW hz [] A i trivial (by rw [hd]; rfl) (by show A.length + 0 ≤ 400; omega), .inr ⟨[], trivial, by rw [hd]; rfl, by show A.length + 0 ≤ 400; omega, rfl⟩⟩
  | succ d ih =>
    intro A i hi hA
    have hlt : i < W.length := by omega
    rcases spec_step hlt hW (hz _ (List.getElem_mem hlt)) hA with ⟨c, n, h1, h2, h3, h4, h5⟩ | h
    · obtain ⟨r, hr, hor⟩ := ih (A ++ List.replicate n c) (i + 1) (by omega) (by rw [List.length_append, List.length_replicate]; omega)
      refine ⟨r, spec_word hlt hW (hz _ (List.getElem_mem hlt)) h1 h2 h3 h4 h5 r hr, ?_⟩
      rcases hor with h | ⟨rs, g1, g2, g3, g4⟩
      · exact .inl h
      · rw [last_rep A c n h3] at g1
        rw [List.length_append, List.length_replicate] at g3
        refine .inr ⟨(c, n) :: rs, ⟨h2, h3, h5, g1⟩, ?_, ?_, ?_⟩
        · rw [List.drop_eq_getElem_cons hlt, List.map_cons, g2, h1]; rfl
        · rw [flatR_cons, List.length_append, List.length_replicate]; omega
        · rw [g4, List.append_assoc, ← flatR_cons]
    · exact ⟨_, h, .inl rfl⟩

def mkT (l : List UInt8) : ByteArray := ⟨l.toArray⟩
theorem bs_mk (l : List UInt8) : bs (mkT l) = l := by simp [bs, mkT]
theorem mk_bs (s : ByteArray) : mkT (bs s) = s := bs_inj (bs_mk _)
theorem mk_app (w : ByteArray) (a b : List UInt8) : (w ++ mkT a) ++ mkT b = w ++ mkT (a ++ b) := bs_inj (by simp only [bs_append, bs_mk, List.append_assoc])
theorem mk_size (l : List UInt8) : (mkT l).size = l.length := by rw [← bs_len, bs_mk]
theorem str_nums (l : List UInt8) : strOfNums (nums l) = mkT l := strOf_bytes l
theorem cut_at (c : UInt8) (q : List UInt8) (h : c ≠ 120) : Go.Lib.cut (c :: 120 :: q) [120] = ([c], q, true) := by
  have h1 : Go.Lib.index (120 :: q) [120] = 0 := by simp [Go.Lib.index]
  have h2 : Go.Lib.index (c :: 120 :: q) [120] = 1 := by
    rw [Go.Lib.index, h1]
    have : ([120] : List UInt8).isPrefixOf (c :: 120 :: q) = false := by
      simp [List.isPrefixOf]; exact fun e => h e.symm
    rw [this]; rfl
  unfold Go.Lib.cut
  rw [h2]; rfl
theorem cut_len (l : List UInt8) : (Go.Lib.cut l [120]).2.1.length ≤ l.length := by
  unfold Go.Lib.cut
  split
  · show (l.drop _).length ≤ _
    rw [List.length_drop]; omega
  · simp
theorem impl_word {s : ByteArray} {W : List ByteArray} {i : Nat} (hi : i < W.length) (hW : W.length ≤ 1048577) (hz : W[i].size ≤ 1048576) {w : ByteArray} {c : UInt8} {n : Nat} (h : bs W[i] = wordL c n) (hc : lvU c) (h1 : 1 ≤ n) (hn : w.size + n ≤ 400) (r : ByteArray × Bool)
    (hr : Ev (fun k => impl_ReadRuns.l0 k s (w ++ mkT (List.replicate n c)) W (W.length : Int) ((i + 1 : Nat) : Int)) r) : Ev (fun k => impl_ReadRuns.l0 k s w W (W.length : Int) (i : Int)) r := by
  have er : rdOf ByteArray.empty W (i : Int) = W[i] := by simp [rdOf, List.getD_eq_getElem?_getD, List.getElem?_eq_getElem hi]
  have e1 : wrap64 ((i : Int) + 1) = ((i + 1 : Nat) : Int) := by rw [w64 (by omega) (by omega)]; omega
  have hne : c ≠ 120 := by rcases hc with rfl | rfl <;> decide
  have hcut : strings_Cut.f W[i] (⟨#[120]⟩ : ByteArray) = some (mkT [c], mkT (Go.Lib.itoa (n : Int)), true) := by
    unfold strings_Cut.f
    rw [if_pos ⟨by omega, rfl⟩]
    have : Go.Lib.cut W[i].data.toList (⟨#[120]⟩ : ByteArray).data.toList = ([c], Go.Lib.itoa (n : Int), true) := by
      show Go.Lib.cut (bs W[i]) [120] = _
      rw [h]; exact cut_at c _ hne
    rw [this]; rfl
  have hil : (Go.Lib.itoa (n : Int)).length ≤ 21 := by
    have := decS_size (n := (n : Int)) (by omega)
    have e : (decS (n : Int)).size = (Go.Lib.itoa (n : Int)).length := mk_size _
    omega
  have hnum : impl_ReadDecimal.f (mkT (Go.Lib.itoa (n : Int))) = some ((n : Int), true) := by
    rw [implNum_form (by rw [mk_size]; omega), num_yes (by omega) (bs_mk _)]
  have hrep : strings_Repeat.f (mkT [c]) (n : Int) = some (mkT (List.replicate n c)) := by
    unfold strings_Repeat.f
    rw [if_pos ⟨by omega, by omega, by rw [mk_size]; simp⟩, Int.toNat_natCast]
    have : Go.Lib.repeatL (mkT [c]).data.toList n = List.replicate n c := by
      have h2 := Go.Lib.repeatL_replicate c 1 n
      rw [Nat.mul_one] at h2
      exact h2
    rw [this]; rfl
  have hs1 : ((mkT [c]).size : Int) = 1 := by rw [mk_size]; rfl
  have hs2 : w.size + (mkT (List.replicate n c)).size ≤ 9223372036854775807 := by rw [mk_size, List.length_replicate]; omega
  refine Ev.succ ?_
  simp only [impl_ReadRuns.l0, if_pos (show (i : Int) < (W.length : Int) by omega), if_pos (show (0 : Int) ≤ (i : Int) by omega), er, hcut, Option.bind_some, hnum, if_true, within_form, decide_eq_true (show 1 ≤ (n : Int) ∧ (n : Int) ≤ 400 by omega), if_pos hs1, if_neg (show ¬ (w.size : Int) > 400 by omega), hrep, if_pos hs2, e1]
  exact hr
theorem impl_all {s : ByteArray} {W : List ByteArray} (hW : W.length ≤ 1048577) (hz : ∀ w ∈ W, w.size ≤ 1048576) (r : ByteArray × Bool) : ∀ (rs : Runs) (o : Option UInt8) (w : ByteArray) (i : Nat), i ≤ W.length → chainR o rs → (W.drop i).map bs = wordsR rs → w.size + (flatR rs).length ≤ 400 →
    Ev (fun k => impl_ReadRuns.l0 k s (w ++ mkT (flatR rs)) W (W.length : Int) (W.length : Int)) r → Ev (fun k => impl_ReadRuns.l0 k s w W (W.length : Int) (i : Int)) r
  | [], o, w, i, hi, _, hd, _, h => by
    have hl : W.length ≤ i := by
      have := congrArg List.length hd
      simp [wordsR] at this; omega
    obtain rfl : i = W.length := by omega
    have e : w ++ mkT (flatR []) = w := bs_inj (by rw [bs_append, bs_mk]; show _ ++ [] = _; rw [List.append_nil])
    rw [e] at h
    exact h
  | (c, n) :: rs, o, w, i, hi, hch, hd, hlen, h => by
    have hlt : i < W.length := by
      have := congrArg List.length hd
      simp [wordsR] at this; omega
    rw [List.drop_eq_getElem_cons hlt] at hd
    obtain ⟨hd1, hd2⟩ := List.cons.inj hd
    rw [flatR_cons, List.length_append, List.length_replicate] at hlen
    refine impl_word hlt hW (hz _ (List.getElem_mem hlt)) hd1 hch.1 hch.2.1 (by omega) _ ?_
    rw [flatR_cons, ← mk_app] at h
    exact impl_all hW hz r rs (some c) _ (i + 1) (by omega) hch.2.2.2 hd2 (by rw [ByteArray.size_append, mk_size, List.length_replicate]; omega) h
theorem wave_lv {s : ByteArray} (h : waveOk s = true) : s.size ≤ 400 ∧ ∀ x ∈ bs s, lvU x := by
  unfold waveOk at h
  rw [Bool.and_eq_true, decide_eq_true_eq, List.all_eq_true] at h
  refine ⟨h.1, fun x hx => ?_⟩
  have := h.2 x hx
  unfold isLevel at this
  rw [Bool.or_eq_true, beq_iff_eq, beq_iff_eq] at this
  rcases this with e | e
  · exact .inl (UInt8.toNat_inj.mp e)
  · exact .inr (UInt8.toNat_inj.mp e)
theorem lv_wave {s : ByteArray} (h1 : s.size ≤ 400) (h2 : ∀ x ∈ bs s, lvU x) : waveOk s = true := by
  unfold waveOk
  rw [decide_eq_true h1, Bool.true_and, List.all_eq_true]
  intro x hx
  rcases h2 x hx with rfl | rfl <;> rfl
/-- What the end of the program's loop answers. -/
theorem impl_end {s : ByteArray} {W : List ByteArray} (w : ByteArray) (hw : w.size ≤ 9223372036854775807) : (waveOk w = false → Ev (fun k => impl_ReadRuns.l0 k s w W (W.length : Int) (W.length : Int)) ((⟨#[]⟩ : ByteArray), false)) ∧
    (waveOk w = true → ∀ t, Ev (fun k => impl_runsOf.f k w) t → Ev (fun k => impl_ReadRuns.l0 k s w W (W.length : Int) (W.length : Int)) (if t.toList = s.toList then (w, true) else ((⟨#[]⟩ : ByteArray), false))) := by
  constructor
  · intro h
    refine Ev.succ ?_
    simp only [impl_ReadRuns.l0, Int.lt_irrefl, if_false, isWave_form hw, Option.bind_some, h, Bool.false_eq_true]
    exact Ev.now _
  · intro h t ht
    refine Ev.succ ?_
    simp only [impl_ReadRuns.l0, Int.lt_irrefl, if_false, isWave_form hw, Option.bind_some, h, if_true]
    refine Ev.bind ht ?_
    by_cases e : t.toList = s.toList
    · simp only [if_pos e]; exact Ev.now _
    · simp only [if_neg e]; exact Ev.now _
theorem impl_any {s : ByteArray} {W : List ByteArray} (hW : W.length ≤ 1048577) (hz : ∀ w ∈ W, w.size ≤ 1048576) (d : Nat) : ∀ (w : ByteArray) (i : Nat), i + d = W.length → w.size ≤ 800 →
    ∃ r, Ev (fun k => impl_ReadRuns.l0 k s w W (W.length : Int) (i : Int)) r ∧ (r = ((⟨#[]⟩ : ByteArray), false) ∨ ∃ w', r = (w', true) ∧ waveOk w' = true ∧ ∃ t, Ev (fun k => impl_runsOf.f k w') t ∧ t.toList = s.toList) := by
  induction d with
  | zero =>
    intro w i hi hw
    obtain rfl : i = W.length := by omega
    obtain ⟨h1, h2⟩ := impl_end (s := s) (W := W) w (by omega)
    cases hk : waveOk w with
    | false => exact ⟨_, h1 hk, .inl rfl⟩
    | true =>
      obtain ⟨h400, hlv⟩ := wave_lv hk
      obtain ⟨t, ht⟩ : ∃ t, Ev (fun k => impl_runsOf.f k w) t := by
        by_cases h0 : w.size = 0
        · exact ⟨_, runsOf_none h0⟩
        · obtain ⟨rs, g1, g2⟩ := runs_exist (bs w) hlv
          have hne : rs ≠ [] := by
            rintro rfl
            have := congrArg List.length g2
            rw [bs_len] at this
            exact h0 this.symm
          obtain ⟨t, ht, _⟩ := runsOf_is h400 g1 hne g2 (by omega)
          exact ⟨t, ht⟩
      refine ⟨_, h2 hk t ht, ?_⟩
      by_cases e : t.toList = s.toList
      · rw [if_pos e]; exact .inr ⟨w, rfl, hk, t, ht, e⟩
      · rw [if_neg e]; exact .inl rfl
  | succ d ih =>
    intro w i hi hw
    have hlt : i < W.length := by omega
    have hzi := hz _ (List.getElem_mem hlt)
    have er : rdOf ByteArray.empty W (i : Int) = W[i] := by simp [rdOf, List.getD_eq_getElem?_getD, List.getElem?_eq_getElem hlt]
    have e1 : wrap64 ((i : Int) + 1) = ((i + 1 : Nat) : Int) := by rw [w64 (by omega) (by omega)]; omega
    obtain ⟨p, q, b, hcut, hq⟩ : ∃ p q b, strings_Cut.f W[i] (⟨#[120]⟩ : ByteArray) = some (p, q, b) ∧ q.size ≤ 1048576 := by
      refine ⟨mkT (Go.Lib.cut (bs W[i]) [120]).1, mkT (Go.Lib.cut (bs W[i]) [120]).2.1, (Go.Lib.cut (bs W[i]) [120]).2.2, ?_, ?_⟩
      · unfold strings_Cut.f
        rw [if_pos ⟨by omega, rfl⟩]; rfl
      · rw [mk_size]
        have := cut_len (bs W[i])
        rw [bs_len] at this
        omega
    have hnum := implNum_form hq
    cases hn : numOf q with
    | mk v ok =>
      rw [hn] at hnum
      cases ok with
      | false =>
        refine ⟨_, Ev.succ ?_, .inl rfl⟩
        simp only [impl_ReadRuns.l0, if_pos (show (i : Int) < (W.length : Int) by omega), if_pos (show (0 : Int) ≤ (i : Int) by omega), er, hcut, Option.bind_some, hnum, Bool.false_eq_true, if_false]
        exact Ev.now _
      | true =>
        by_cases hr : 1 ≤ v ∧ v ≤ 400
        · by_cases hp : p.size = 1
          · by_cases hw4 : w.size ≤ 400
            · have hrep : strings_Repeat.f p v = some (mkT (Go.Lib.repeatL (bs p) v.toNat)) := by
                unfold strings_Repeat.f
                rw [if_pos ⟨by omega, by omega, by omega⟩]; rfl
              have hrs : (mkT (Go.Lib.repeatL (bs p) v.toNat)).size ≤ 400 := by
                rw [mk_size, Go.Lib.repeatL_length, bs_len, hp]; omega
              obtain ⟨r, h1, h2⟩ := ih (w ++ mkT (Go.Lib.repeatL (bs p) v.toNat)) (i + 1) (by omega) (by rw [ByteArray.size_append]; omega)
              refine ⟨r, Ev.succ ?_, h2⟩
              simp only [impl_ReadRuns.l0, if_pos (show (i : Int) < (W.length : Int) by omega), if_pos (show (0 : Int) ≤ (i : Int) by omega), er, hcut, Option.bind_some, hnum, if_true, within_form, decide_eq_true hr, if_pos (show (p.size : Int) = 1 by omega), if_neg (show ¬ (w.size : Int) > 400 by omega), hrep, if_pos (show w.size + (mkT (Go.Lib.repeatL (bs p) v.toNat)).size ≤ 9223372036854775807 by omega), e1]
              exact h1
            · refine ⟨_, Ev.succ ?_, .inl rfl⟩
              simp only [impl_ReadRuns.l0, if_pos (show (i : Int) < (W.length : Int) by omega), if_pos (show (0 : Int) ≤ (i : Int) by omega), er, hcut, Option.bind_some, hnum, if_true, within_form, decide_eq_true hr, if_pos (show (p.size : Int) = 1 by omega), if_pos (show (w.size : Int) > 400 by omega)]
              exact Ev.now _
          · refine ⟨_, Ev.succ ?_, .inl rfl⟩
            simp only [impl_ReadRuns.l0, if_pos (show (i : Int) < (W.length : Int) by omega), if_pos (show (0 : Int) ≤ (i : Int) by omega), er, hcut, Option.bind_some, hnum, if_true, within_form, decide_eq_true hr, if_neg (show ¬ (p.size : Int) = 1 by omega)]
            exact Ev.now _
        · refine ⟨_, Ev.succ ?_, .inl rfl⟩
          simp only [impl_ReadRuns.l0, if_pos (show (i : Int) < (W.length : Int) by omega), if_pos (show (0 : Int) ≤ (i : Int) by omega), er, hcut, Option.bind_some, hnum, if_true, within_form, decide_eq_false hr, Bool.false_eq_true, if_false]
          exact Ev.now _

theorem cutS_loop (s : ByteArray) (hs : s.size ≤ 1048576) (d : Nat) : ∀ (a i : Nat) (acc : List ByteArray), i + d = s.size → a ≤ i → acc.length ≤ i →
    Ev (fun k => spec_l01Cut.l0 k s 32 acc (a : Int) (i : Int)) (acc ++ (aheadP (bs (s.extract a i)) (piecesL 32 ((bs s).drop i))).map mkT) := by
  have hl := bs_len s
  induction d with
  | zero =>
    intro a i acc hi hai ha
    obtain rfl : i = s.size := by omega
    refine Ev.succ ?_
    have e1 : wrap64 ((s.size : Int) + 1) = ((s.size + 1 : Nat) : Int) := by rw [w64 (by omega) (by omega)]; omega
    rw [List.drop_eq_nil_of_le (by omega)]
    have er : (aheadP (bs (s.extract a s.size)) (piecesL 32 [])).map mkT = [s.extract a s.size] := by simp [piecesL, aheadP, mk_bs]
    rw [er]
    simp only [spec_l01Cut.l0, if_pos (show (s.size : Int) ≤ (s.size : Int) by omega), if_true, if_pos (show (0 : Int) ≤ (a : Int) by omega), if_pos (show (a : Int) ≤ (s.size : Int) by omega), if_pos (show acc.length < 8796093022208 by omega), Int.toNat_natCast, e1]
    refine Ev.succ ?_
    simp only [spec_l01Cut.l0, if_neg (show ¬ ((s.size + 1 : Nat) : Int) ≤ (s.size : Int) by omega)]
    exact Ev.now _
  | succ d ih =>
    intro a i acc hi hai ha
    have hlt : i < s.size := by omega
    have hbl : i < (bs s).length := by omega
    have e1 : wrap64 ((i : Int) + 1) = ((i + 1 : Nat) : Int) := by rw [w64 (by omega) (by omega)]; omega
    have hb := bt_nat s i hlt
    refine Ev.succ ?_
    simp only [spec_l01Cut.l0, if_pos (show (i : Int) ≤ (s.size : Int) by omega), if_neg (show ¬ (i : Int) = (s.size : Int) by omega), if_pos (show (0 : Int) ≤ (i : Int) by omega), if_pos (show (i : Int) < (s.size : Int) by omega), hb]
    rw [List.drop_eq_getElem_cons hbl, piecesL]
    by_cases hc : (bs s)[i] = (32 : UInt8)
    · rw [if_pos hc]
      have hcb : (((bs s)[i]).toNat : Int) = 32 := by rw [hc]; rfl
      have er : aheadP (bs (s.extract a i)) ([] :: piecesL 32 ((bs s).drop (i + 1))) = bs (s.extract a i) :: piecesL 32 ((bs s).drop (i + 1)) := by simp [aheadP]
      simp only [if_pos hcb, if_pos (show (0 : Int) ≤ (a : Int) by omega), if_pos (show (a : Int) ≤ (i : Int) by omega), if_pos (show acc.length < 8796093022208 by omega), Int.toNat_natCast, e1]
      have h := ih (i + 1) (i + 1) (acc ++ [s.extract a i]) (by omega) (Nat.le_refl _) (by rw [List.length_append, List.length_singleton]; omega)
      have e0 : bs (s.extract (i + 1) (i + 1)) = [] := by rw [extract_mid]; simp
      rw [e0, aheadP_nil _ (piecesL_pos _ _), List.append_assoc] at h
      rw [er, List.map_cons, mk_bs]
      exact h
    · rw [if_neg hc, aheadP_head _ _ _ (piecesL_pos _ _)]
      have hcb : ¬ (((bs s)[i]).toNat : Int) = 32 := by
        refine fun e => hc (UInt8.toNat_inj.mp ?_)
        show _ = 32
        omega
      have e0 : bs (s.extract a i) ++ [(bs s)[i]] = bs (s.extract a (i + 1)) := by
        rw [extract_mid, extract_mid, show i + 1 - a = (i - a) + 1 by omega]
        rw [List.take_add_one]
        congr 1
        rw [List.getElem?_drop, show a + (i - a) = i by omega, List.getElem?_eq_getElem hbl]
        rfl
      simp only [if_neg hcb, e1]
      rw [e0]
      exact ih a (i + 1) acc (by omega) (by omega) (by omega)
theorem cutS_ev {s : ByteArray} (hs : s.size ≤ 1048576) : Ev (fun k => spec_l01Cut.f k s 32) (piecesS s 32) := by
  have h := cutS_loop s hs s.size 0 0 [] (by omega) (Nat.le_refl _) (by simp)
  have e0 : bs (s.extract 0 0) = [] := by rw [extract_mid]; simp
  rw [e0, List.drop_zero, aheadP_nil _ (piecesL_pos _ _), List.nil_append] at h
  have e : (piecesL 32 (bs s)).map mkT = piecesS s 32 := by
    rw [← pieces_bs, List.map_map]
    have : (mkT ∘ bs) = id := funext mk_bs
    rw [this, List.map_id]
  rw [e] at h
  unfold spec_l01Cut.f
  exact h
end Go.Proofs.YtbfaadhblmfcjaaDoor.P

namespace Go.Proofs.YtbfaadhblmfcjaaDoor.Pure
open Go.RowKit Go.Proofs.YtbfaadhblmfcjaaDoorW.PrintWords Go.Proofs.YtbfaadhblmfcjaaDoorW.PrintLast Go.Proofs.YtbfaadhblmfcjaaDoorW.PrintMore
open Go.Proofs.YtbfaadhblmfcjaaDoor.P
set_option linter.unusedVariables false
set_option linter.unusedSimpArgs false

theorem read_both {s : ByteArray} (hs : s.size ≤ 1048576) : ∃ v, Ev (fun k => spec_ReadRuns.f k s) v ∧ Ev (fun k => impl_ReadRuns.f k s) v := by
  unfold spec_ReadRuns.f spec_l01ReadRuns.f impl_ReadRuns.f
  by_cases hn : s.toList = ([110, 111, 110, 101] : List UInt8)
  · simp only [if_pos hn]
    exact ⟨_, Ev.now _, Ev.now _⟩
  simp only [if_neg hn, split_form hs 32, Option.bind_some]
  have hl := bs_len s
  have hlen := pieces_length s 32
  have hle := piecesL_length 32 (bs s)
  have hpos := piecesL_pos 32 (bs s)
  have hW : (piecesS s 32).length ≤ 1048577 := by omega
  have hz : ∀ w ∈ piecesS s 32, w.size ≤ 1048576 := by
    intro w hw
    have hm : bs w ∈ piecesL 32 (bs s) := by rw [← pieces_bs]; exact List.mem_map_of_mem hw
    have := piece_size 32 (bs s) _ hm
    rw [bs_len] at this
    omega
  have hb := pieces_bs s 32
  obtain ⟨r1, h1, hor1⟩ := spec_any hW hz (piecesS s 32).length [] 0 (by omega) (by simp)
  obtain ⟨r2, h2, hor2⟩ := impl_any (s := s) hW hz (piecesS s 32).length ⟨#[]⟩ 0 (by omega) (by show (0 : Nat) ≤ 800; omega)
  have hsp : Ev (fun k => ((spec_l01Cut.f k s 32).bind fun t325 => spec_l01ReadRuns.l0 k [] t325 0).bind fun bt336 => some (bt336.1, bt336.2)) r1 :=
    Ev.bind (Ev.bind (cutS_ev hs) h1) (Ev.now _)
  suffices he : r1 = r2 by
    refine ⟨r1, hsp, ?_⟩
    rw [he]; exact h2
  rcases hor1 with rfl | ⟨rs, g1, g2, g3, rfl⟩
  · rcases hor2 with rfl | ⟨w', rfl, k1, t, k2, k3⟩
    · rfl
    · exfalso
      obtain ⟨h400, hlv⟩ := wave_lv k1
      by_cases h0 : w'.size = 0
      · have := ev_one k2 (runsOf_none h0)
        rw [this] at k3
        refine hn ?_
        rw [← k3]
        exact mk_toList [110, 111, 110, 101]
      · obtain ⟨rs, g1, g2⟩ := runs_exist (bs w') hlv
        have hne : rs ≠ [] := by
          rintro rfl
          have := congrArg List.length g2
          rw [bs_len] at this
          exact h0 this.symm
        obtain ⟨t', e1, e2⟩ := runsOf_is h400 g1 hne g2 (by omega)
        obtain rfl := ev_one k2 e1
        have hts : bs t = bs s := by rw [ByteArray.toList_eq, ByteArray.toList_eq] at k3; exact k3
        have hw : piecesL 32 (bs s) = wordsR rs := by
          rw [← hts, e2]
          refine pieces_join 32 _ ?_ (chain_no none rs g1)
          intro e
          exact hne (List.map_eq_nil_iff.mp e)
        have hf : ([] : List UInt8).length + (flatR rs).length ≤ 400 := by rw [g2, bs_len]; simpa using h400
        have := ev_one h1 (spec_all hW hz rs [] 0 g1 (by rw [List.drop_zero, hb, hw]) hf)
        cases (Prod.mk.inj this).2
  · rw [List.drop_zero, hb] at g2
    have g1' : chainR none rs := g1
    have hne : rs ≠ [] := by
      rintro rfl
      have := congrArg List.length g2
      rw [show (wordsR []).length = 0 from rfl] at this
      omega
    have hflat : (flatR rs).length ≤ 400 := by simpa using g3
    have hsz : (mkT (flatR rs)).size ≤ 400 := by rw [mk_size]; exact hflat
    have hwv : waveOk (mkT (flatR rs)) = true := lv_wave hsz (by rw [bs_mk]; exact chain_lv none rs g1')
    have hpos2 : 0 < (mkT (flatR rs)).size := by
      cases rs with
      | nil => exact absurd rfl hne
      | cons q rs =>
        obtain ⟨c, n⟩ := q
        have := g1'.2.1
        rw [mk_size, flatR_cons, List.length_append, List.length_replicate]; omega
    obtain ⟨t, e1, e2⟩ := runsOf_is hsz g1' hne (bs_mk _).symm hpos2
    have hts : bs t = bs s := by rw [e2, ← g2, join_pieces]
    have htl : t.toList = s.toList := by rw [ByteArray.toList_eq, ByteArray.toList_eq]; exact hts
    have e0 : (⟨#[]⟩ : ByteArray) ++ mkT (flatR rs) = mkT (flatR rs) := nil_append _
    have hend := (impl_end (s := s) (W := piecesS s 32) (mkT (flatR rs)) (by omega)).2 hwv t e1
    rw [if_pos htl] at hend
    have := impl_all (s := s) hW hz (mkT (flatR rs), true) rs none ⟨#[]⟩ 0 (by omega) g1' (by rw [List.drop_zero, hb]; exact g2) (by show 0 + _ ≤ 400; omega) (by rw [e0]; exact hend)
    have := ev_one h2 this
    rw [this, List.nil_append, str_nums]
theorem FnExactReadRuns : laws_FnExactReadRuns.Pure := by
  intro s hs
  apply Ev.rounds
  unfold laws_FnExactReadRuns.f
  by_cases hl : (s.size : Int) > 1048576
  · simp only [if_pos hl]
    exact Ev.now _
  · simp only [if_neg hl]
    obtain ⟨v, h1, h2⟩ := read_both (s := s) (by omega)
    refine Ev.bind h1 (Ev.bind h2 ?_)
    simp only [if_true, bne_self_eq_false, Bool.false_eq_true, if_false]
    exact Ev.now _
end Go.Proofs.YtbfaadhblmfcjaaDoor.Pure
