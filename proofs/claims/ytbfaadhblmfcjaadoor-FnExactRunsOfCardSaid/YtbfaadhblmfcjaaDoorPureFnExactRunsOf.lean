/- The program's RunsOf returns what the reference's returns, for all arguments; no condition. -/
import Derived.Test.YtbfaadhblmfcjaaDoorWMore
import Derived.OpenShut
import Derived.Laws.BitsAllLaws
import Derived.Test.YtbfaadhblmfcjaaDoorP4
import Derived.Test.YtbfaadhblmfcjaaDoorP8
import Derived.Test.YtbfaadhblmfcjaaDoorExtTrim
import Derived.Test.YtbfaadhblmfcjaaDoorExtStrJoin
import Derived.Test.YtbfaadhblmfcjaaDoorP1
import Derived.Lib.ItoaLen
import Derived.Test.YtbfaadhblmfcjaaDoorP5
import Derived.Test.YtbfaadhblmfcjaaDoorP7
import Derived.Test.YtbfaadhblmfcjaaDoorExtDecimal
import Derived.Test.YtbfaadhblmfcjaaDoorP9
/- Plain lemmas on whole numbers of 64 bits, on rounds, and on Go's shifts and bit operations at small numbers; no condition. -/
namespace Go.Proofs.YtbfaadhblmfcjaaDoor.P
open Go.RowKit Go.Proofs.YtbfaadhblmfcjaaDoorW.PrintWords Go.Proofs.YtbfaadhblmfcjaaDoorW.PrintLast Go.Proofs.YtbfaadhblmfcjaaDoorW.PrintMore

theorem w64 {x : Int} (h1 : -9223372036854775808 ≤ x) (h2 : x ≤ 9223372036854775807) : wrap64 x = x := by unfold wrap64; omega
theorem Ev.const {α : Type} {g : Option α} {r : α} (h : g = some r) : Ev (fun _ => g) r := ⟨0, fun _ _ => h⟩
/-- A loop by the number of rounds that it needs. -/
theorem Ev.eq {α : Type} {g : Nat → Option α} {r q : α} (h : Ev g r) (e : r = q) : Ev g q := e ▸ h
/-- One round more: the function's text at 'k + 1'. -/
theorem Ev.succ {α : Type} {g : Nat → Option α} {r : α} (h : Ev (fun k => g (k + 1)) r) : Ev g r := Ev.step (fun _ => rfl) h

theorem rd_at (xs : List Int) (i : Nat) (h : i < xs.length) : rd xs (i : Int) = xs[i] := by
  unfold rd
  simp [List.getD_eq_getElem?_getD, List.getElem?_eq_getElem h]
end Go.Proofs.YtbfaadhblmfcjaaDoor.P

/- When a text is a wave, as the program (it trims zeros and ones off) and as the reference (it looks at each byte) ask it. The texts are shorter than 2^62 bytes. -/
namespace Go.Proofs.YtbfaadhblmfcjaaDoor.P
open Go.RowKit Go.Proofs.YtbfaadhblmfcjaaDoorW.PrintWords Go.Proofs.YtbfaadhblmfcjaaDoorW.PrintLast Go.Proofs.YtbfaadhblmfcjaaDoorW.PrintMore

/-- A text's bytes. -/
abbrev bs (s : ByteArray) : List UInt8 := s.data.toList
theorem bs_len (s : ByteArray) : (bs s).length = s.size := by simp [bs]
theorem bt_nat (s : ByteArray) (i : Nat) (h : i < s.size) : bt s (i : Int) = (((bs s)[i]'(by rw [bs_len]; exact h)).toNat : Int) := by
  unfold bt bs
  rw [dif_pos (by simpa using h)]
  simp [ByteArray.getElem_eq_getElem_data]

theorem dropWhile_all {α : Type} (p : α → Bool) (l : List α) : (∀ x ∈ l.dropWhile p, p x = true) ↔ ∀ x ∈ l, p x = true := by
  induction l with
  | nil => simp
  | cons a l ih =>
    by_cases h : p a = true
    · simp [h, ih]
    · simp [h]
theorem dropWhile_nil {α : Type} (p : α → Bool) (l : List α) : l.dropWhile p = [] ↔ ∀ x ∈ l, p x = true := by
  induction l with
  | nil => simp
  | cons a l ih =>
    by_cases h : p a = true
    · simp [h, ih]
    · simp [h]
/-- Nothing is left exactly if each byte is of the cutset. -/
theorem trimS_nil (l cs : List UInt8) : Lib.trimS l cs = [] ↔ ∀ x ∈ l, cs.contains x = true := by
  unfold Lib.trimS Lib.trimRightS Lib.trimLeftS
  rw [dropWhile_nil]
  have h := dropWhile_all (cs.contains ·) l.reverse
  simp only [List.mem_reverse] at h ⊢
  exact h
theorem trim_beq (l cs : List UInt8) : (Lib.trimS l cs == []) = l.all (cs.contains ·) := by
  rw [Bool.eq_iff_iff, beq_iff_eq, trimS_nil, List.all_eq_true]
theorem mk_toList (l : List UInt8) : (⟨l.toArray⟩ : ByteArray).toList = l := by rw [ByteArray.toList_eq]

/-- All bytes from place i on are of some kind: a loop that looks at one after another. -/
theorem all_from (p : UInt8 → Bool) (l : List UInt8) (i : Nat) (h : i < l.length) : (l.drop i).all p = (p l[i] && (l.drop (i + 1)).all p) := by
  rw [List.drop_eq_getElem_cons h, List.all_cons]

def isLevel (b : UInt8) : Bool := b.toNat == 48 || b.toNat == 49
def waveOk (s : ByteArray) : Bool := decide (s.size ≤ 400) && (bs s).all isLevel
theorem level_contains (b : UInt8) : ([48, 49] : List UInt8).contains b = isLevel b := by
  unfold isLevel
  rw [Bool.eq_iff_iff]
  simp only [List.contains_iff_mem, List.mem_cons, List.not_mem_nil, or_false, Bool.or_eq_true, beq_iff_eq, ← UInt8.toNat_inj]
  exact Iff.rfl
theorem isWave_form {s : ByteArray} (hs : s.size ≤ 9223372036854775807) : impl_IsWave.f s = some (waveOk s) := by
  unfold impl_IsWave.f strings_Trim.f waveOk
  by_cases h : (s.size : Int) ≤ 400
  · rw [if_pos h, if_pos ⟨hs, by decide, by decide⟩]
    simp only [Option.bind_some, mk_toList]
    rw [trim_beq]
    have e : (fun x => (⟨#[48, 49]⟩ : ByteArray).data.toList.contains x) = isLevel := funext level_contains
    rw [e, decide_eq_true (show s.size ≤ 400 by omega), Bool.true_and]
  · rw [if_neg h, decide_eq_false (show ¬ s.size ≤ 400 by omega), Bool.false_and]
theorem specWave_loop (s : ByteArray) (hs : s.size < 4611686018427387904) (d : Nat) : ∀ i : Nat, i + d = s.size → Ev (fun k => spec_l01Wave.l0 k s (i : Int)) (decide (s.size ≤ 400) && ((bs s).drop i).all isLevel) := by
  induction d with
  | zero =>
    intro i hi
    refine Ev.succ ?_
    simp only [spec_l01Wave.l0, if_neg (show ¬ (i : Int) < (s.size : Int) by omega)]
    refine Ev.const (congrArg some ?_)
    rw [List.drop_eq_nil_of_le (by rw [bs_len]; omega), List.all_nil, Bool.and_true]
    exact decide_eq_decide.mpr (by omega)
  | succ d ih =>
    intro i hi
    refine Ev.succ ?_
    have hlt : i < s.size := by omega
    rw [all_from _ _ _ (by rw [bs_len]; exact hlt)]
    have hb := bt_nat s i hlt
    have e1 : wrap64 ((i : Int) + 1) = ((i + 1 : Nat) : Int) := by rw [w64 (by omega) (by omega)]; omega
    simp only [spec_l01Wave.l0, if_pos (show (i : Int) < (s.size : Int) by omega), if_pos (show (0 : Int) ≤ (i : Int) by omega), hb, e1]
    generalize hc : (bs s)[i]'(by rw [bs_len]; exact hlt) = c
    by_cases h0 : (c.toNat : Int) = 48
    · simp only [if_pos h0]
      have hk : isLevel c = true := by unfold isLevel; simp; omega
      rw [hk, Bool.true_and]
      exact ih (i + 1) (by omega)
    · simp only [if_neg h0]
      by_cases h1 : (c.toNat : Int) = 49
      · simp only [if_pos h1]
        have hk : isLevel c = true := by unfold isLevel; simp; omega
        rw [hk, Bool.true_and]
        exact ih (i + 1) (by omega)
      · simp only [if_neg h1]
        have hk : isLevel c = false := by unfold isLevel; simp; omega
        rw [hk, Bool.false_and, Bool.and_false]
        exact Ev.now _
theorem specWave_ev {s : ByteArray} (hs : s.size < 4611686018427387904) : Ev (fun k => spec_l01Wave.f k s) (waveOk s) := by
  have h := specWave_loop s hs s.size 0 (by omega)
  rw [List.drop_zero] at h
  exact h
end Go.Proofs.YtbfaadhblmfcjaaDoor.P

/- Texts put together with a text of one byte between: one more text at the end. -/
namespace Go.Proofs.YtbfaadhblmfcjaaDoor.P
open Go.RowKit Go.Proofs.YtbfaadhblmfcjaaDoorW.PrintWords Go.Proofs.YtbfaadhblmfcjaaDoorW.PrintLast Go.Proofs.YtbfaadhblmfcjaaDoorW.PrintMore
set_option linter.unusedVariables false
set_option linter.unusedSimpArgs false

theorem bs_inj {a b : ByteArray} (h : bs a = bs b) : a = b := Go.WideShapes.bytes_inj h
theorem bs_append (a b : ByteArray) : bs (a ++ b) = bs a ++ bs b := by simp [bs, ByteArray.data_append]
theorem nil_append (a : ByteArray) : (⟨#[]⟩ : ByteArray) ++ a = a := bs_inj (by rw [bs_append]; rfl)
theorem joinV_bs (l : List ByteArray) (sep : ByteArray) : bs (joinV l sep) = Go.Lib.join (l.map (·.data.toList)) sep.data.toList := by simp [joinV, bs]
theorem joinV_snoc (p : List ByteArray) (x sep : ByteArray) : joinV (p ++ [x]) sep = if p.length = 0 then x else (joinV p sep ++ sep) ++ x := by
  apply bs_inj
  cases p with
  | nil =>
    rw [if_pos (show ([] : List ByteArray).length = 0 from rfl), joinV_bs, List.nil_append, List.map_cons, List.map_nil, Go.Lib.join_one]
  | cons a r =>
    rw [if_neg (show ¬ (a :: r).length = 0 by simp), bs_append, bs_append, joinV_bs, joinV_bs, List.cons_append, List.map_cons, List.map_cons, Go.Lib.join_cons, Go.Lib.join_cons, List.map_append]
    simp [Go.Lib.joinTail]
/-- The first i texts. -/
def joinT (L : List ByteArray) (sep : ByteArray) (i : Nat) : ByteArray := joinV (L.take i) sep
theorem joinT_zero (L : List ByteArray) (sep : ByteArray) : joinT L sep 0 = ⟨#[]⟩ := rfl
theorem joinT_succ (L : List ByteArray) (sep : ByteArray) (i : Nat) (h : i < L.length) : joinT L sep (i + 1) = if i = 0 then L[i] else (joinT L sep i ++ sep) ++ L[i] := by
  unfold joinT
  rw [← List.take_append_getElem h, joinV_snoc, List.length_take, Nat.min_eq_left (by omega)]
theorem joinT_size (L : List ByteArray) (sep : ByteArray) (B : Nat) (hsep : sep.size = 1) (hB : ∀ x ∈ L, x.size ≤ B) (i : Nat) (h : i ≤ L.length) : (joinT L sep i).size ≤ (B + 1) * i := by
  induction i with
  | zero => rw [joinT_zero]; exact Nat.le_refl _
  | succ i ih =>
    have hx := hB _ (List.getElem_mem (show i < L.length by omega))
    have ih := ih (by omega)
    rw [joinT_succ L sep i (by omega), Nat.mul_succ]
    split
    · omega
    · rw [ByteArray.size_append, ByteArray.size_append, hsep]; omega
theorem joinT_pos (L : List ByteArray) (sep : ByteArray) (hB : ∀ x ∈ L, 0 < x.size) (i : Nat) (h : i < L.length) : 0 < (joinT L sep (i + 1)).size := by
  have hx := hB _ (List.getElem_mem h)
  rw [joinT_succ L sep i h]
  split
  · exact hx
  · rw [ByteArray.size_append, ByteArray.size_append]; omega
theorem joinT_all (L : List ByteArray) (sep : ByteArray) : joinT L sep L.length = joinV L sep := by
  unfold joinT
  rw [List.take_of_length_le (Nat.le_refl _)]
theorem toList_nil {s : ByteArray} : s.toList = ([] : List UInt8) ↔ s.size = 0 := by
  rw [ByteArray.toList_eq, ← List.length_eq_zero_iff]
  have := bs_len s
  unfold bs at this
  rw [this]
end Go.Proofs.YtbfaadhblmfcjaaDoor.P

/- The reference's decimal spelling of a number is Go's own; no condition beyond 64 bits. -/
namespace Go.Proofs.YtbfaadhblmfcjaaDoor.P
open Go.RowKit Go.Proofs.YtbfaadhblmfcjaaDoorW.PrintWords Go.Proofs.YtbfaadhblmfcjaaDoorW.PrintLast Go.Proofs.YtbfaadhblmfcjaaDoorW.PrintMore
set_option linter.unusedSimpArgs false
set_option linter.unusedVariables false
open Go.Lib (decDigits itoa nDigits)

theorem strOf_bytes (l : List UInt8) : strOfNums (l.map fun b => (b.toNat : Int)) = ⟨l.toArray⟩ := by
  unfold strOfNums
  congr 2
  rw [List.map_map]
  have : ((fun n : Int => UInt8.ofNat n.toNat) ∘ fun b : UInt8 => (b.toNat : Int)) = id := by
    funext b
    simp
  rw [this, List.map_id]
/-- The digits, as numbers. -/
def dI (u : Nat) : List Int := (decDigits u).map fun b => (b.toNat : Int)
theorem dig_byte (d : Nat) (h : d < 10) : (UInt8.ofNat (48 + d)).toNat = 48 + d := by
  rw [UInt8.toNat_ofNat']; omega
theorem dI_small {u : Nat} (h : u < 10) : dI u = [(48 + u : Int)] := by
  unfold dI
  rw [decDigits, dif_pos h, List.map_cons, List.map_nil, dig_byte u h]
  rfl
theorem dI_big {u : Nat} (h : ¬ u < 10) : dI u = dI (u / 10) ++ [((48 + u % 10 : Nat) : Int)] := by
  unfold dI
  rw [decDigits, dif_neg h, List.map_append, List.map_cons, List.map_nil, dig_byte (u % 10) (by omega)]
theorem dI_length (u : Nat) (h : u ≤ 9223372036854775808) : (dI u).length ≤ 21 := by
  unfold dI
  rw [List.length_map]
  by_cases h0 : u = 9223372036854775808
  · have e := Go.Lib.itoa_length_le (-(u : Int)) (by omega) (by omega)
    rw [Go.Lib.itoa_neg u (by omega), List.length_cons] at e
    omega
  · have e := Go.Lib.itoa_length_le (u : Int) (by omega) (by omega)
    rwa [Go.Lib.itoa_nonneg] at e
theorem dig_loop (x0 : Int) (sg : Int) (hsg : sg = 1 ∨ sg = -1) (r : ByteArray) : ∀ (w : Nat), 0 < w → w ≤ 9223372036854775808 → (sg = 1 → w ≤ 9223372036854775807) → ∀ acc : List Int, acc.length + (dI w).length ≤ 1000 →
    Ev (fun k => spec_l01Dec.l0 k x0 (acc ++ (dI w).reverse) 0) r → Ev (fun k => spec_l01Dec.l0 k x0 acc (sg * (w : Int))) r := by
  intro w
  induction w using Nat.strongRecOn with
  | ind w ih =>
    intro h0 h1 h1' acc hacc h
    have hm : Int.tmod (sg * (w : Int)) 10 = sg * ((w % 10 : Nat) : Int) := by
      rcases hsg with rfl | rfl
      · rw [Int.one_mul, Int.one_mul]; exact (Int.ofNat_tmod w 10).symm
      · rw [Int.neg_one_mul, Int.neg_one_mul, Int.neg_tmod]; congr 1
    have hd : Int.tdiv (sg * (w : Int)) 10 = sg * ((w / 10 : Nat) : Int) := by
      rcases hsg with rfl | rfl
      · rw [Int.one_mul, Int.one_mul]; exact (Int.ofNat_tdiv w 10).symm
      · rw [Int.neg_one_mul, Int.neg_one_mul, Int.neg_tdiv]; congr 1
    have hne : ¬ sg * (w : Int) = 0 := by rcases hsg with rfl | rfl <;> omega
    have hlt : w % 10 < 10 := Nat.mod_lt _ (by decide)
    have hdl : acc.length < 140737488355328 := by omega
    have hq : wrap64 (sg * ((w / 10 : Nat) : Int)) = sg * ((w / 10 : Nat) : Int) := by
      rcases hsg with rfl | rfl <;> exact w64 (by omega) (by omega)
    have hstep : Ev (fun k => spec_l01Dec.l0 k x0 (acc ++ [((48 + w % 10 : Nat) : Int)]) (sg * ((w / 10 : Nat) : Int))) r := by
      by_cases hs : w < 10
      · rw [dI_small hs, List.reverse_singleton] at h
        have e1 : w / 10 = 0 := by omega
        have e2 : w % 10 = w := by omega
        rw [e1, e2]
        have e3 : sg * ((0 : Nat) : Int) = 0 := by omega
        rw [e3]
        have e4 : ((48 + w : Nat) : Int) = 48 + (w : Int) := by omega
        rw [e4]
        exact h
      · rw [dI_big hs, List.reverse_append, List.reverse_singleton, ← List.append_assoc] at h
        refine ih (w / 10) (by omega) (by omega) (by omega) (by omega) _ ?_ h
        rw [dI_big hs, List.length_append, List.length_singleton] at hacc
        rw [List.length_append, List.length_singleton]
        omega
    refine Ev.succ ?_
    simp only [spec_l01Dec.l0, if_neg hne, hm, hd, hq, if_pos hdl]
    by_cases hneg : sg * ((w % 10 : Nat) : Int) < 0
    · have e5 : wrap64 (48 + wrap64 (-(sg * ((w % 10 : Nat) : Int)))) % 256 = ((48 + w % 10 : Nat) : Int) := by
        rcases hsg with rfl | rfl
        · omega
        · rw [w64 (x := -(-1 * ((w % 10 : Nat) : Int))) (by omega) (by omega), w64 (by omega) (by omega)]; omega
      simp only [if_pos hneg, e5]
      exact hstep
    · have e5 : wrap64 (48 + sg * ((w % 10 : Nat) : Int)) % 256 = ((48 + w % 10 : Nat) : Int) := by
        rcases hsg with rfl | rfl
        · rw [w64 (by omega) (by omega)]; omega
        · rw [w64 (by omega) (by omega)]; omega
      simp only [if_neg hneg, e5]
      exact hstep
theorem rev_loop (l : List Int) (hl : l.length ≤ 1000) (d : Nat) : ∀ i : Nat, i + 1 = d → d ≤ l.length → Ev (fun k => spec_l01Dec.l1 k l (l.drop d).reverse (i : Int)) (strOfNums l.reverse) := by
  induction d with
  | zero => intro i h; omega
  | succ d ih =>
    intro i hi hd
    obtain rfl : i = d := by omega
    refine Ev.succ ?_
    have hlt : i < l.length := by omega
    have e2 : (l.drop (i + 1)).reverse ++ [l[i]] = (l.drop i).reverse := by
      rw [List.drop_eq_getElem_cons hlt, List.reverse_cons]
    simp only [spec_l01Dec.l1, if_pos (show (i : Int) ≥ 0 by omega), if_pos (show (i : Int) < (l.length : Int) by omega), if_pos (show (l.drop (i + 1)).reverse.length < 140737488355328 by rw [List.length_reverse, List.length_drop]; omega), rd_at l i hlt, e2]
    cases i with
    | zero =>
      have e1 : wrap64 (((0 : Nat) : Int) - 1) = -1 := by rw [w64 (by omega) (by omega)]; omega
      rw [e1, List.drop_zero]
      refine Ev.succ ?_
      simp only [spec_l01Dec.l1, if_neg (show ¬ (-1 : Int) ≥ 0 by decide)]
      exact Ev.now _
    | succ j =>
      have e1 : wrap64 (((j + 1 : Nat) : Int) - 1) = (j : Int) := by rw [w64 (by omega) (by omega)]; omega
      rw [e1]
      exact ih j rfl (by omega)
theorem turn_ev (l : List Int) (hl : l.length ≤ 1000) (h0 : 0 < l.length) : Ev (fun k => spec_l01Dec.j1 k l) (strOfNums l.reverse) := by
  refine Ev.succ ?_
  have e1 : wrap64 ((l.length : Int) - 1) = ((l.length - 1 : Nat) : Int) := by rw [w64 (by omega) (by omega)]; omega
  simp only [spec_l01Dec.j1, e1]
  have h := rev_loop l hl l.length (l.length - 1) (by omega) (Nat.le_refl _)
  rw [List.drop_length, List.reverse_nil] at h
  exact h
theorem dI_pos (u : Nat) : 0 < (dI u).length := by
  by_cases h : u < 10
  · rw [dI_small h]; simp
  · rw [dI_big h, List.length_append]; simp
/-- The spelling. -/
def decS (n : Int) : ByteArray := ⟨(itoa n).toArray⟩
theorem specDec_ev {n : Int} (h : -9223372036854775808 ≤ n ∧ n ≤ 9223372036854775807) : Ev (fun k => spec_l01Dec.f k n) (decS n) := by
  unfold spec_l01Dec.f
  by_cases h0 : n = 0
  · subst h0
    have e : decS 0 = (⟨#[48]⟩ : ByteArray) := by
      have e2 := strOf_bytes (decDigits 0)
      have e3 := dI_small (u := 0) (by decide)
      unfold dI at e3
      rw [e3] at e2
      have e4 : itoa 0 = decDigits 0 := Go.Lib.itoa_nonneg 0
      unfold decS
      rw [e4, ← e2]
      rfl
    simp only [if_true]
    rw [e]
    exact Ev.now _
  · simp only [if_neg h0]
    by_cases hn : n < 0
    · obtain ⟨u, hu⟩ := Int.eq_ofNat_of_zero_le (show 0 ≤ -n by omega)
      obtain rfl : n = -(u : Int) := by omega
      have hl := dI_length u (by omega)
      have hlp := dI_pos u
      have hd := dig_loop (-(u : Int)) (-1) (.inr rfl) (decS (-(u : Int))) u (by omega) (by omega) (by omega) [] (by simp; omega)
      rw [Int.neg_one_mul] at hd
      refine hd ?_
      refine Ev.succ ?_
      simp only [spec_l01Dec.l0, if_true, if_pos hn, List.nil_append, if_pos (show (dI u).reverse.length < 140737488355328 by rw [List.length_reverse]; omega)]
      have ht := turn_ev ((dI u).reverse ++ [45]) (by rw [List.length_append, List.length_reverse]; simp; omega) (by simp)
      refine Ev.eq ht ?_
      rw [List.reverse_append, List.reverse_reverse, List.reverse_singleton, decS, Go.Lib.itoa_neg u (by omega), ← strOf_bytes]
      rfl
    · obtain ⟨u, rfl⟩ := Int.eq_ofNat_of_zero_le (show 0 ≤ n by omega)
      have hl := dI_length u (by omega)
      have hlp := dI_pos u
      have hd := dig_loop (u : Int) 1 (.inl rfl) (decS (u : Int)) u (by omega) (by omega) (by omega) [] (by simp; omega)
      rw [Int.one_mul] at hd
      refine hd ?_
      refine Ev.succ ?_
      simp only [spec_l01Dec.l0, if_true, if_neg hn, List.nil_append]
      have ht := turn_ev (dI u).reverse (by rw [List.length_reverse]; omega) (by rw [List.length_reverse]; exact hlp)
      refine Ev.eq ht ?_
      rw [List.reverse_reverse, decS, Go.Lib.itoa_nonneg, ← strOf_bytes]
      rfl
theorem decS_size {n : Int} (h : -9223372036854775808 ≤ n ∧ n ≤ 9223372036854775807) : (decS n).size ≤ 21 := by
  have := Go.Lib.itoa_length_le n h.1 h.2
  show (itoa n).toArray.size ≤ 21
  simpa using this
end Go.Proofs.YtbfaadhblmfcjaaDoor.P

/- The text of runs of a wave, as the program and as the reference put it together, is one. The waves have at most 400 bytes. -/
namespace Go.Proofs.YtbfaadhblmfcjaaDoor.P
open Go.RowKit Go.Proofs.YtbfaadhblmfcjaaDoorW.PrintWords Go.Proofs.YtbfaadhblmfcjaaDoorW.PrintLast Go.Proofs.YtbfaadhblmfcjaaDoorW.PrintMore
set_option linter.unusedVariables false
set_option linter.unusedSimpArgs false

/-- The word of the run from a to b. -/
def wordS (s : ByteArray) (a b : Nat) : ByteArray := (s.extract a (a + 1) ++ (⟨#[120]⟩ : ByteArray)) ++ decS ((b - a : Nat) : Int)
def space : ByteArray := ⟨#[32]⟩
theorem one_size (s : ByteArray) (a : Nat) (h : a < s.size) : (s.extract a (a + 1)).size = 1 := by rw [ByteArray.size_extract]; omega
theorem two_size (s : ByteArray) (a : Nat) (h : a < s.size) : (s.extract a (a + 1) ++ (⟨#[120]⟩ : ByteArray)).size = 2 := by
  have e : (⟨#[120]⟩ : ByteArray).size = 1 := rfl
  rw [ByteArray.size_append, one_size s a h, e]
theorem word_size (s : ByteArray) (a b : Nat) (h : a < s.size) (hb : b ≤ 400) : 0 < (wordS s a b).size ∧ (wordS s a b).size ≤ 23 := by
  have h1 := decS_size (n := ((b - a : Nat) : Int)) (by omega)
  unfold wordS
  rw [ByteArray.size_append, two_size s a h]
  omega
theorem itoa_form {n : Int} (h : -9223372036854775808 ≤ n ∧ n ≤ 9223372036854775807) : strconv_Itoa.f n = some (decS n) := by
  unfold strconv_Itoa.f; rw [if_pos h]; rfl
theorem joinV_size (ws : List ByteArray) (h : ∀ x ∈ ws, 0 < x.size ∧ x.size ≤ 23) : (joinV ws space).size ≤ 24 * ws.length ∧ (ws.length ≠ 0 → 0 < (joinV ws space).size) := by
  have h1 := joinT_size ws space 23 rfl (fun x hx => (h x hx).2) ws.length (Nat.le_refl _)
  rw [joinT_all] at h1
  refine ⟨h1, fun h0 => ?_⟩
  have h2 := joinT_pos ws space (fun x hx => (h x hx).1) (ws.length - 1) (by omega)
  rw [show ws.length - 1 + 1 = ws.length by omega, joinT_all] at h2
  exact h2
theorem rf_word {s : ByteArray} (hs : s.size ≤ 400) {a j : Nat} (haj : a < j) (hj : j ≤ s.size) : (s.extract a (a + 1)).size + 1 ≤ 9223372036854775807 ∧ (s.extract a (a + 1) ++ (⟨#[120]⟩ : ByteArray)).size + (decS ((j - a : Nat) : Int)).size ≤ 9223372036854775807 := by
  have h1 := one_size s a (by omega)
  have h2 := two_size s a (by omega)
  have hd := decS_size (n := ((j - a : Nat) : Int)) (by omega)
  exact ⟨by omega, by omega⟩
theorem rf_int {s : ByteArray} (hs : s.size ≤ 400) {a j : Nat} (haj : a < j) (hj : j ≤ s.size) : (0 : Int) ≤ (a : Int) ∧ (a : Int) ≤ ((a + 1 : Nat) : Int) ∧ ((a + 1 : Nat) : Int) ≤ (s.size : Int) ∧ (a : Int) < (s.size : Int) ∧ (0 : Int) ≤ (j : Int) ∧ (j : Int) ≤ (s.size : Int) := by omega
theorem rf_wrap {s : ByteArray} (hs : s.size ≤ 400) {a j : Nat} (haj : a < j) (hj : j ≤ s.size) : wrap64 ((a : Int) + 1) = ((a + 1 : Nat) : Int) ∧ wrap64 ((j : Int) - (a : Int)) = ((j - a : Nat) : Int) ∧ wrap64 ((j : Int) + 1) = ((j + 1 : Nat) : Int) := by
  refine ⟨?_, ?_, ?_⟩ <;> rw [w64 (by omega) (by omega)] <;> omega
theorem rf_dec {s : ByteArray} (hs : s.size ≤ 400) {a j : Nat} (haj : a < j) (hj : j ≤ s.size) : -9223372036854775808 ≤ ((j - a : Nat) : Int) ∧ ((j - a : Nat) : Int) ≤ 9223372036854775807 := by omega
theorem rf_join {s : ByteArray} (hs : s.size ≤ 400) {a j : Nat} (haj : a < j) (hj : j ≤ s.size) {ws : List ByteArray} (hwl : ws.length ≤ a) (hws : ∀ x ∈ ws, 0 < x.size ∧ x.size ≤ 23) :
    (joinV ws space).size + 1 ≤ 9223372036854775807 ∧ (joinV ws space).size + (wordS s a j).size ≤ 9223372036854775807 ∧ (joinV ws space ++ (⟨#[32]⟩ : ByteArray)).size + (wordS s a j).size ≤ 9223372036854775807 ∧ ws.length < 8796093022208 := by
  have h1 := (joinV_size ws hws).1
  have h2 := word_size s a j (by omega) (by omega)
  have h3 : (joinV ws space ++ (⟨#[32]⟩ : ByteArray)).size = (joinV ws space).size + 1 := by rw [ByteArray.size_append]; rfl
  exact ⟨by omega, by omega, by omega, by omega⟩
theorem rf_more {s : ByteArray} (hs : s.size ≤ 400) {a j : Nat} (haj : a < j) (hj : j ≤ s.size) {ws : List ByteArray} (hwl : ws.length ≤ a) (hws : ∀ x ∈ ws, 0 < x.size ∧ x.size ≤ 23) : ∀ x ∈ ws ++ [wordS s a j], 0 < x.size ∧ x.size ≤ 23 := by
  intro x hx
  rcases List.mem_append.mp hx with h | h
  · exact hws x h
  · rw [List.mem_singleton.mp h]; exact word_size s a j (by omega) (by omega)
theorem rf_last {s : ByteArray} (hs : s.size ≤ 400) {a j : Nat} (haj : a < j) (hj : j ≤ s.size) {ws : List ByteArray} (hwl : ws.length ≤ a) (hws : ∀ x ∈ ws, 0 < x.size ∧ x.size ≤ 23) :
    strings_Join.f (ws ++ [wordS s a j]) (⟨#[32]⟩ : ByteArray) = some (joinV (ws ++ [wordS s a j]) space) ∧ ¬ (joinV (ws ++ [wordS s a j]) space).toList = ([] : List UInt8) := by
  obtain ⟨h1, h2⟩ := joinV_size _ (rf_more hs haj hj hwl hws)
  have h2 := h2 (by simp)
  rw [List.length_append, List.length_singleton] at h1
  constructor
  · unfold strings_Join.f
    rw [if_pos]
    · rfl
    · refine ⟨by rw [List.length_append, List.length_singleton]; omega, ?_⟩
      show (joinV (ws ++ [wordS s a j]) space).size ≤ _
      omega
  · rw [toList_nil]; omega
/-- The run from a to b is told; from there on both go on alike. -/
theorem rf_told {s : ByteArray} (hs : s.size ≤ 400) {a j : Nat} (haj : a < j) (hj : j ≤ s.size) {ws : List ByteArray} (h0 : ws.length = 0 ↔ a = 0) (hwl : ws.length ≤ a) (hws : ∀ x ∈ ws, 0 < x.size ∧ x.size ≤ 23) (r : ByteArray)
    (h : Ev (fun k => spec_l01Runs.l0 k s (joinV (ws ++ [wordS s a j]) space) (j : Int) ((j + 1 : Nat) : Int)) r) : Ev (fun k => spec_l01Runs.j1 k s (joinV ws space) (a : Int) (j : Int) false) r := by
  obtain ⟨w1, w2⟩ := rf_word hs haj hj
  obtain ⟨i1, i2, i3, i4, i5, i6⟩ := rf_int hs haj hj
  obtain ⟨e1, e2, e3⟩ := rf_wrap hs haj hj
  have hd := rf_dec hs haj hj
  obtain ⟨j1, j2, j3, j4⟩ := rf_join hs haj hj hwl hws
  have hb : (s.extract a (a + 1) ++ (⟨#[120]⟩ : ByteArray) ++ decS ((j - a : Nat) : Int)) = wordS s a j := rfl
  by_cases ha : a = 0
  · have hw0 := h0.mpr ha
    have hpos : ¬ (a : Int) > 0 := by clear h0 j1 j2 j3 j4 w1 w2 e1 e2 e3 hd hw0; omega
    have ew : ws = [] := List.length_eq_zero_iff.mp hw0
    have hj0 : joinV (ws ++ [wordS s a j]) space = joinV ws space ++ wordS s a j := by
      rw [joinV_snoc, if_pos hw0, ew]
      show _ = (⟨#[]⟩ : ByteArray) ++ _
      rw [nil_append]
    rw [hj0] at h
    refine Ev.succ ?_
    simp only [spec_l01Runs.j1, Bool.false_eq_true, if_false, if_neg hpos, if_pos i1, e1, Int.toNat_natCast, if_pos i2, if_pos i3, if_pos w1, e2, e3]
    refine Ev.bind (specDec_ev hd) ?_
    simp only [if_pos w2, hb, if_pos j2]
    exact h
  · have hw0 : ¬ ws.length = 0 := fun z => ha (h0.mp z)
    have hpos : (a : Int) > 0 := by clear h0 j1 j2 j3 j4 w1 w2 e1 e2 e3 hd hw0; omega
    have hj0 : joinV (ws ++ [wordS s a j]) space = (joinV ws space ++ (⟨#[32]⟩ : ByteArray)) ++ wordS s a j := by
      rw [joinV_snoc, if_neg hw0]; rfl
    rw [hj0] at h
    refine Ev.succ ?_
    simp only [spec_l01Runs.j1, Bool.false_eq_true, if_false, if_pos hpos, if_pos j1, if_pos i1, e1, Int.toNat_natCast, if_pos i2, if_pos i3, if_pos w1, e2, e3]
    refine Ev.bind (specDec_ev hd) ?_
    simp only [if_pos w2, hb, if_pos j3]
    exact h
theorem runs_step (s : ByteArray) (hs : s.size ≤ 400) (d : Nat) : ∀ (a j : Nat) (ws : List ByteArray), j + d = s.size → a < j → (ws.length = 0 ↔ a = 0) → ws.length ≤ a → (∀ x ∈ ws, 0 < x.size ∧ x.size ≤ 23) →
    ∃ r, Ev (fun k => spec_l01Runs.l0 k s (joinV ws space) (a : Int) (j : Int)) r ∧ Ev (fun k => impl_runsOf.l1 k s ws (a : Int) (j : Int)) r := by
  induction d with
  | zero =>
    intro a j ws hj haj h0 hwl hws
    obtain rfl : j = s.size := by clear h0; omega
    have hle : s.size ≤ s.size := Nat.le_refl _
    obtain ⟨w1, w2⟩ := rf_word hs haj hle
    obtain ⟨i1, i2, i3, i4, i5, i6⟩ := rf_int hs haj hle
    obtain ⟨e1, e2, e3⟩ := rf_wrap hs haj hle
    have hit := itoa_form (rf_dec hs haj hle)
    obtain ⟨j1, j2, j3, j4⟩ := rf_join hs haj hle hwl hws
    obtain ⟨hjn, hne⟩ := rf_last hs haj hle hwl hws
    have hb : (s.extract a (a + 1) ++ (⟨#[120]⟩ : ByteArray) ++ decS ((s.size - a : Nat) : Int)) = wordS s a s.size := rfl
    have hirr : ¬ (s.size : Int) < (s.size : Int) := Int.lt_irrefl _
    have hgt : ¬ ((s.size + 1 : Nat) : Int) ≤ (s.size : Int) := by clear h0 j1 j2 j3 j4 w1 w2 e1 e2 e3 hit hjn hne hb; omega
    have hpl : ¬ ((ws.length + 1 : Nat) : Int) = 0 := by clear h0 j1 j2 j3 j4 w1 w2 e1 e2 e3 hit hjn hne hb; omega
    refine ⟨joinV (ws ++ [wordS s a s.size]) space, Ev.succ ?_, Ev.succ ?_⟩
    · simp only [spec_l01Runs.l0, if_pos i6, if_neg hirr]
      refine rf_told hs haj hle h0 hwl hws _ ?_
      refine Ev.succ ?_
      simp only [spec_l01Runs.l0, if_neg hgt, if_neg hne]
      exact Ev.now _
    · simp only [impl_runsOf.l1, if_neg hirr, if_pos i1, e1, Int.toNat_natCast, if_pos i2, if_pos i3, if_pos w1, e2, hit, Option.bind_some, if_pos w2, hb, if_pos j4]
      refine Ev.succ ?_
      simp only [impl_runsOf.l0, if_neg hirr, List.length_append, List.length_singleton, if_neg hpl, hjn, Option.bind_some]
      exact Ev.now _
  | succ d ih =>
    intro a j ws hj haj h0 hwl hws
    have hlt : j < s.size := by clear h0; omega
    have hle : j ≤ s.size := Nat.le_of_lt hlt
    obtain ⟨w1, w2⟩ := rf_word hs haj hle
    obtain ⟨i1, i2, i3, i4, i5, i6⟩ := rf_int hs haj hle
    obtain ⟨e1, e2, e3⟩ := rf_wrap hs haj hle
    have hit := itoa_form (rf_dec hs haj hle)
    obtain ⟨j1, j2, j3, j4⟩ := rf_join hs haj hle hwl hws
    have hb : (s.extract a (a + 1) ++ (⟨#[120]⟩ : ByteArray) ++ decS ((j - a : Nat) : Int)) = wordS s a j := rfl
    have hjlt : (j : Int) < (s.size : Int) := by clear h0 j1 j2 j3 j4 w1 w2 e1 e2 e3 hit hb; omega
    by_cases hc : bt s (j : Int) = bt s (a : Int)
    · obtain ⟨r, hr1, hr2⟩ := ih a (j + 1) ws (by clear h0 j1 j2 j3 j4 w1 w2 e1 e2 e3 hit hb; omega) (by clear h0 j1 j2 j3 j4 w1 w2 e1 e2 e3 hit hb; omega) h0 hwl hws
      refine ⟨r, Ev.succ ?_, Ev.succ ?_⟩
      · simp only [spec_l01Runs.l0, if_pos i6, if_pos hjlt, if_pos i5, if_pos i1, if_pos i4, hc, beq_self_eq_true]
        refine Ev.succ ?_
        simp only [spec_l01Runs.j1, if_true, e3]
        exact hr1
      · simp only [impl_runsOf.l1, if_pos hjlt, if_pos i5, if_pos i1, if_pos i4, if_pos hc, e3]
        exact hr2
    · have hcb : (bt s (j : Int) == bt s (a : Int)) = false := beq_eq_false_iff_ne.mpr hc
      obtain ⟨r, hr1, hr2⟩ := ih j (j + 1) (ws ++ [wordS s a j]) (by clear h0 j1 j2 j3 j4 w1 w2 e1 e2 e3 hit hb; omega) (Nat.lt_succ_self j) (by rw [List.length_append, List.length_singleton]; clear h0 j1 j2 j3 j4 w1 w2 e1 e2 e3 hit hb; omega) (by rw [List.length_append, List.length_singleton]; clear h0 j1 j2 j3 j4 w1 w2 e1 e2 e3 hit hb; omega) (rf_more hs haj hle hwl hws)
      refine ⟨r, Ev.succ ?_, Ev.succ ?_⟩
      · simp only [spec_l01Runs.l0, if_pos i6, if_pos hjlt, if_pos i5, if_pos i1, if_pos i4, hcb]
        exact rf_told hs haj hle h0 hwl hws _ hr1
      · simp only [impl_runsOf.l1, if_pos hjlt, if_pos i5, if_pos i1, if_pos i4, if_neg hc, e1, Int.toNat_natCast, if_pos i2, if_pos i3, if_pos w1, e2, hit, Option.bind_some, if_pos w2, hb, if_pos j4]
        refine Ev.succ ?_
        simp only [impl_runsOf.l0, if_pos hjlt]
        refine Ev.succ ?_
        simp only [impl_runsOf.l1, if_pos hjlt, if_pos i5, if_true, e3]
        exact hr2
theorem runs_both (s : ByteArray) (hs : s.size ≤ 400) : ∃ r, Ev (fun k => spec_l01Runs.f k s) r ∧ Ev (fun k => impl_runsOf.f k s) r := by
  unfold spec_l01Runs.f impl_runsOf.f
  by_cases h0 : s.size = 0
  · refine ⟨(⟨#[110, 111, 110, 101]⟩ : ByteArray), Ev.succ ?_, Ev.succ ?_⟩
    · have hz : (⟨#[]⟩ : ByteArray).toList = ([] : List UInt8) := by rw [toList_nil]; rfl
      simp only [spec_l01Runs.l0, if_neg (show ¬ (1 : Int) ≤ (s.size : Int) by omega), if_pos hz]
      exact Ev.now _
    · simp only [impl_runsOf.l0, if_neg (show ¬ (0 : Int) < (s.size : Int) by omega), List.length_nil, if_pos (show ((0 : Nat) : Int) = 0 from rfl)]
      exact Ev.now _
  · obtain ⟨r, h1, h2⟩ := runs_step s hs (s.size - 1) 0 1 [] (by omega) (by omega) (by simp) (by simp) (fun x h => by cases h)
    refine ⟨r, h1, Ev.succ ?_⟩
    have e1 : wrap64 ((0 : Int) + 1) = 1 := w64 (by omega) (by omega)
    simp only [impl_runsOf.l0, if_pos (show (0 : Int) < (s.size : Int) by omega)]
    refine Ev.succ ?_
    simp only [impl_runsOf.l1, if_pos (show (0 : Int) < (s.size : Int) by omega), if_pos (show (0 : Int) ≤ 0 by omega), if_true, e1]
    exact h2
end Go.Proofs.YtbfaadhblmfcjaaDoor.P

namespace Go.Proofs.YtbfaadhblmfcjaaDoor.Pure
open Go.RowKit Go.Proofs.YtbfaadhblmfcjaaDoorW.PrintWords Go.Proofs.YtbfaadhblmfcjaaDoorW.PrintLast Go.Proofs.YtbfaadhblmfcjaaDoorW.PrintMore
open Go.Proofs.YtbfaadhblmfcjaaDoor.P
set_option linter.unusedVariables false
set_option linter.unusedSimpArgs false

theorem FnExactRunsOf : laws_FnExactRunsOf.Pure := by
  intro s hs
  apply Ev.rounds
  unfold laws_FnExactRunsOf.f
  by_cases hl : (s.size : Int) > 1048576
  · simp only [if_pos hl]
    exact Ev.now _
  · simp only [if_neg hl]
    have hl' : s.size ≤ 1048576 := by omega
    by_cases hw : waveOk s = true
    · have h400 : s.size ≤ 400 := by unfold waveOk at hw; simp only [Bool.and_eq_true, decide_eq_true_eq] at hw; omega
      obtain ⟨r, h1, h2⟩ := runs_both s h400
      have hi : Ev (fun k => impl_RunsOf.f k s) (r, true) := by
        unfold impl_RunsOf.f
        rw [isWave_form (by omega)]
        simp only [Option.bind_some, hw, if_true]
        exact Ev.bind h2 (Ev.now _)
      have hp : Ev (fun k => spec_RunsOf.f k s) (r, true) := by
        unfold spec_RunsOf.f
        refine Ev.bind (specWave_ev (by omega)) ?_
        simp only [hw, if_true]
        exact Ev.bind h1 (Ev.now _)
      refine Ev.bind hp (Ev.bind hi ?_)
      simp only [if_true, bne_self_eq_false, Bool.false_eq_true, if_false]
      exact Ev.now _
    · have hi : Ev (fun k => impl_RunsOf.f k s) ((⟨#[]⟩ : ByteArray), false) := by
        unfold impl_RunsOf.f
        rw [isWave_form (by omega)]
        simp only [Option.bind_some, hw, if_false]
        exact Ev.now _
      have hp : Ev (fun k => spec_RunsOf.f k s) ((⟨#[]⟩ : ByteArray), false) := by
        unfold spec_RunsOf.f
        refine Ev.bind (specWave_ev (by omega)) ?_
        simp only [hw, if_false]
        exact Ev.now _
      refine Ev.bind hp (Ev.bind hi ?_)
      simp only [if_true, bne_self_eq_false, Bool.false_eq_true, if_false]
      exact Ev.now _
end Go.Proofs.YtbfaadhblmfcjaaDoor.Pure
