/- The program's ListText returns what the reference's returns, for all arguments; no condition. -/
import Derived.Test.YtbfaadhblmfcjaaDoorWMore
import Derived.OpenShut
import Derived.Laws.BitsAllLaws
import Derived.Test.YtbfaadhblmfcjaaDoorP1
import Derived.Test.YtbfaadhblmfcjaaDoorP0
import Derived.Test.YtbfaadhblmfcjaaDoorProg
import Derived.Ground.NamesProg
import Derived.Shelf.Strings.SlTrimAscii
import Derived.Test.YtbfaadhblmfcjaaDoorExtStrJoin
import Derived.Test.YtbfaadhblmfcjaaDoorExtDecimal
import Derived.Lib.ItoaLen
import Derived.Test.YtbfaadhblmfcjaaDoorP4
import Derived.Test.YtbfaadhblmfcjaaDoorP3
import Derived.Test.YtbfaadhblmfcjaaDoorP5
/- Plain lemmas on whole numbers of 64 bits, on rounds, and on Go's shifts and bit operations at small numbers; no condition. -/
namespace Go.Proofs.YtbfaadhblmfcjaaDoor.P
open Go.RowKit Go.Proofs.YtbfaadhblmfcjaaDoorW.PrintWords Go.Proofs.YtbfaadhblmfcjaaDoorW.PrintLast Go.Proofs.YtbfaadhblmfcjaaDoorW.PrintMore

theorem w64 {x : Int} (h1 : -9223372036854775808 ≤ x) (h2 : x ≤ 9223372036854775807) : wrap64 x = x := by unfold wrap64; omega
/-- A loop by the number of rounds that it needs. -/
theorem Ev.eq {α : Type} {g : Nat → Option α} {r q : α} (h : Ev g r) (e : r = q) : Ev g q := e ▸ h
/-- One round more: the function's text at 'k + 1'. -/
theorem Ev.succ {α : Type} {g : Nat → Option α} {r : α} (h : Ev (fun k => g (k + 1)) r) : Ev g r := Ev.step (fun _ => rfl) h

theorem rd_at (xs : List Int) (i : Nat) (h : i < xs.length) : rd xs (i : Int) = xs[i] := by
  unfold rd
  simp [List.getD_eq_getElem?_getD, List.getElem?_eq_getElem h]
end Go.Proofs.YtbfaadhblmfcjaaDoor.P

/- A law's copy of a list of whole numbers holds the same; lists of at most 1048576 numbers. -/
namespace Go.Proofs.YtbfaadhblmfcjaaDoor.P
open Go.RowKit Go.Proofs.YtbfaadhblmfcjaaDoorW.PrintWords Go.Proofs.YtbfaadhblmfcjaaDoorW.PrintLast Go.Proofs.YtbfaadhblmfcjaaDoorW.PrintMore
set_option linter.unusedVariables false
set_option linter.unusedSimpArgs false

theorem copy_loop (l : List Int) (hl : l.length ≤ 1048576) (d : Nat) : ∀ (i : Nat) (m : List Int), i + d = l.length → m.length = l.length → m.take i = l.take i → Ev (fun k => laws_toInt64S.l0 k l m (i : Int)) l := by
  induction d with
  | zero =>
    intro i m hi hm ht
    refine Ev.succ ?_
    simp only [laws_toInt64S.l0, if_neg (show ¬ (i : Int) < (l.length : Int) by omega)]
    rw [List.take_of_length_le (by omega), List.take_of_length_le (by omega)] at ht
    rw [ht]
    exact Ev.now _
  | succ d ih =>
    intro i m hi hm ht
    refine Ev.succ ?_
    have hlt : i < l.length := by omega
    have e1 : wrap64 ((i : Int) + 1) = ((i + 1 : Nat) : Int) := by rw [w64 (by omega) (by omega)]; omega
    have er : rd l (i : Int) = l[i] := rd_at l i hlt
    simp only [laws_toInt64S.l0, if_pos (show (i : Int) < (l.length : Int) by omega), if_pos (show (0 : Int) ≤ (i : Int) by omega), if_pos (show (i : Int) < (m.length : Int) by omega), er, Int.toNat_natCast, e1]
    refine ih (i + 1) (m.set i l[i]) (by omega) (by rw [List.length_set]; exact hm) ?_
    rw [← List.take_append_getElem hlt, ← List.take_append_getElem (show i < (m.set i l[i]).length by rw [List.length_set]; omega)]
    rw [List.take_set_of_le (Nat.le_refl i), ht, List.getElem_set_self]
theorem toInt64S_ev (l : List Int) (hl : l.length ≤ 1048576) : Ev (fun k => laws_toInt64S.f k l) l := by
  unfold laws_toInt64S.f
  simp only [Int.toNat_natCast, if_pos (show (0 : Int) ≤ (l.length : Int) by omega), if_pos (show l.length ≤ 35184372088832 by omega)]
  exact copy_loop l hl l.length 0 _ (by omega) (by simp) (by simp)
end Go.Proofs.YtbfaadhblmfcjaaDoor.P

/- When a text is a wave, as the program (it trims zeros and ones off) and as the reference (it looks at each byte) ask it. The texts are shorter than 2^62 bytes. -/
namespace Go.Proofs.YtbfaadhblmfcjaaDoor.P
open Go.RowKit Go.Proofs.YtbfaadhblmfcjaaDoorW.PrintWords Go.Proofs.YtbfaadhblmfcjaaDoorW.PrintLast Go.Proofs.YtbfaadhblmfcjaaDoorW.PrintMore

/-- A text's bytes. -/
abbrev bs (s : ByteArray) : List UInt8 := s.data.toList
theorem bs_len (s : ByteArray) : (bs s).length = s.size := by simp [bs]
end Go.Proofs.YtbfaadhblmfcjaaDoor.P

/- Texts put together with a text of one byte between: one more text at the end. -/
namespace Go.Proofs.YtbfaadhblmfcjaaDoor.P
open Go.RowKit Go.Proofs.YtbfaadhblmfcjaaDoorW.PrintWords Go.Proofs.YtbfaadhblmfcjaaDoorW.PrintLast Go.Proofs.YtbfaadhblmfcjaaDoorW.PrintMore
set_option linter.unusedVariables false
set_option linter.unusedSimpArgs false

theorem bs_inj {a b : ByteArray} (h : bs a = bs b) : a = b := Go.WideShapes.bytes_inj h
theorem bs_append (a b : ByteArray) : bs (a ++ b) = bs a ++ bs b := by simp [bs, ByteArray.data_append]
theorem nil_append (a : ByteArray) : (⟨#[]⟩ : ByteArray) ++ a = a := bs_inj (by rw [bs_append]; rfl)
theorem joinV_bs (l : List ByteArray) (sep : ByteArray) : bs (joinV l sep) = Go.Lib.join (l.map (·.data.toList)) sep.data.toList := by simp [joinV, bs]
theorem joinV_snoc (p : List ByteArray) (x sep : ByteArray) : joinV (p ++ [x]) sep = if p.length = 0 then x else (joinV p sep ++ sep) ++ x := by
  apply bs_inj
  cases p with
  | nil =>
    rw [if_pos (show ([] : List ByteArray).length = 0 from rfl), joinV_bs, List.nil_append, List.map_cons, List.map_nil, Go.Lib.join_one]
  | cons a r =>
    rw [if_neg (show ¬ (a :: r).length = 0 by simp), bs_append, bs_append, joinV_bs, joinV_bs, List.cons_append, List.map_cons, List.map_cons, Go.Lib.join_cons, Go.Lib.join_cons, List.map_append]
    simp [Go.Lib.joinTail]
/-- The first i texts. -/
def joinT (L : List ByteArray) (sep : ByteArray) (i : Nat) : ByteArray := joinV (L.take i) sep
theorem joinT_zero (L : List ByteArray) (sep : ByteArray) : joinT L sep 0 = ⟨#[]⟩ := rfl
theorem joinT_succ (L : List ByteArray) (sep : ByteArray) (i : Nat) (h : i < L.length) : joinT L sep (i + 1) = if i = 0 then L[i] else (joinT L sep i ++ sep) ++ L[i] := by
  unfold joinT
  rw [← List.take_append_getElem h, joinV_snoc, List.length_take, Nat.min_eq_left (by omega)]
theorem joinT_size (L : List ByteArray) (sep : ByteArray) (B : Nat) (hsep : sep.size = 1) (hB : ∀ x ∈ L, x.size ≤ B) (i : Nat) (h : i ≤ L.length) : (joinT L sep i).size ≤ (B + 1) * i := by
  induction i with
  | zero => rw [joinT_zero]; exact Nat.le_refl _
  | succ i ih =>
    have hx := hB _ (List.getElem_mem (show i < L.length by omega))
    have ih := ih (by omega)
    rw [joinT_succ L sep i (by omega), Nat.mul_succ]
    split
    · omega
    · rw [ByteArray.size_append, ByteArray.size_append, hsep]; omega
theorem joinT_pos (L : List ByteArray) (sep : ByteArray) (hB : ∀ x ∈ L, 0 < x.size) (i : Nat) (h : i < L.length) : 0 < (joinT L sep (i + 1)).size := by
  have hx := hB _ (List.getElem_mem h)
  rw [joinT_succ L sep i h]
  split
  · exact hx
  · rw [ByteArray.size_append, ByteArray.size_append]; omega
theorem joinT_all (L : List ByteArray) (sep : ByteArray) : joinT L sep L.length = joinV L sep := by
  unfold joinT
  rw [List.take_of_length_le (Nat.le_refl _)]
theorem toList_nil {s : ByteArray} : s.toList = ([] : List UInt8) ↔ s.size = 0 := by
  rw [ByteArray.toList_eq, ← List.length_eq_zero_iff]
  have := bs_len s
  unfold bs at this
  rw [this]
end Go.Proofs.YtbfaadhblmfcjaaDoor.P

/- The reference's decimal spelling of a number is Go's own; no condition beyond 64 bits. -/
namespace Go.Proofs.YtbfaadhblmfcjaaDoor.P
open Go.RowKit Go.Proofs.YtbfaadhblmfcjaaDoorW.PrintWords Go.Proofs.YtbfaadhblmfcjaaDoorW.PrintLast Go.Proofs.YtbfaadhblmfcjaaDoorW.PrintMore
set_option linter.unusedSimpArgs false
set_option linter.unusedVariables false
open Go.Lib (decDigits itoa nDigits)

theorem strOf_bytes (l : List UInt8) : strOfNums (l.map fun b => (b.toNat : Int)) = ⟨l.toArray⟩ := by
  unfold strOfNums
  congr 2
  rw [List.map_map]
  have : ((fun n : Int => UInt8.ofNat n.toNat) ∘ fun b : UInt8 => (b.toNat : Int)) = id := by
    funext b
    simp
  rw [this, List.map_id]
/-- The digits, as numbers. -/
def dI (u : Nat) : List Int := (decDigits u).map fun b => (b.toNat : Int)
theorem dig_byte (d : Nat) (h : d < 10) : (UInt8.ofNat (48 + d)).toNat = 48 + d := by
  rw [UInt8.toNat_ofNat']; omega
theorem dI_small {u : Nat} (h : u < 10) : dI u = [(48 + u : Int)] := by
  unfold dI
  rw [decDigits, dif_pos h, List.map_cons, List.map_nil, dig_byte u h]
  rfl
theorem dI_big {u : Nat} (h : ¬ u < 10) : dI u = dI (u / 10) ++ [((48 + u % 10 : Nat) : Int)] := by
  unfold dI
  rw [decDigits, dif_neg h, List.map_append, List.map_cons, List.map_nil, dig_byte (u % 10) (by omega)]
theorem dI_length (u : Nat) (h : u ≤ 9223372036854775808) : (dI u).length ≤ 21 := by
  unfold dI
  rw [List.length_map]
  by_cases h0 : u = 9223372036854775808
  · have e := Go.Lib.itoa_length_le (-(u : Int)) (by omega) (by omega)
    rw [Go.Lib.itoa_neg u (by omega), List.length_cons] at e
    omega
  · have e := Go.Lib.itoa_length_le (u : Int) (by omega) (by omega)
    rwa [Go.Lib.itoa_nonneg] at e
theorem dig_loop (x0 : Int) (sg : Int) (hsg : sg = 1 ∨ sg = -1) (r : ByteArray) : ∀ (w : Nat), 0 < w → w ≤ 9223372036854775808 → (sg = 1 → w ≤ 9223372036854775807) → ∀ acc : List Int, acc.length + (dI w).length ≤ 1000 →
    Ev (fun k => spec_l01Dec.l0 k x0 (acc ++ (dI w).reverse) 0) r → Ev (fun k => spec_l01Dec.l0 k x0 acc (sg * (w : Int))) r := by
  intro w
  induction w using Nat.strongRecOn with
  | ind w ih =>
    intro h0 h1 h1' acc hacc h
    have hm : Int.tmod (sg * (w : Int)) 10 = sg * ((w % 10 : Nat) : Int) := by
      rcases hsg with rfl | rfl
      · rw [Int.one_mul, Int.one_mul]; exact (Int.ofNat_tmod w 10).symm
      · rw [Int.neg_one_mul, Int.neg_one_mul, Int.neg_tmod]; congr 1
    have hd : Int.tdiv (sg * (w : Int)) 10 = sg * ((w / 10 : Nat) : Int) := by
      rcases hsg with rfl | rfl
      · rw [Int.one_mul, Int.one_mul]; exact (Int.ofNat_tdiv w 10).symm
      · rw [Int.neg_one_mul, Int.neg_one_mul, Int.neg_tdiv]; congr 1
    have hne : ¬ sg * (w : Int) = 0 := by rcases hsg with rfl | rfl <;> omega
    have hlt : w % 10 < 10 := Nat.mod_lt _ (by decide)
    have hdl : acc.length < 140737488355328 := by omega
    have hq : wrap64 (sg * ((w / 10 : Nat) : Int)) = sg * ((w / 10 : Nat) : Int) := by
      rcases hsg with rfl | rfl <;> exact w64 (by omega) (by omega)
    have hstep : Ev (fun k => spec_l01Dec.l0 k x0 (acc ++ [((48 + w % 10 : Nat) : Int)]) (sg * ((w / 10 : Nat) : Int))) r := by
      by_cases hs : w < 10
      · rw [dI_small hs, List.reverse_singleton] at h
        have e1 : w / 10 = 0 := by omega
        have e2 : w % 10 = w := by omega
        rw [e1, e2]
        have e3 : sg * ((0 : Nat) : Int) = 0 := by omega
        rw [e3]
        have e4 : ((48 + w : Nat) : Int) = 48 + (w : Int) := by omega
        rw [e4]
        exact h
      · rw [dI_big hs, List.reverse_append, List.reverse_singleton, ← List.append_assoc] at h
        refine ih (w / 10) (by omega) (by omega) (by omega) (by omega) _ ?_ h
        rw [dI_big hs, List.length_append, List.length_singleton] at hacc
        rw [List.length_append, List.length_singleton]
        omega
    refine Ev.succ ?_
    simp only [spec_l01Dec.l0, if_neg hne, hm, hd, hq, if_pos hdl]
    by_cases hneg : sg * ((w % 10 : Nat) : Int) < 0
    · have e5 : wrap64 (48 + wrap64 (-(sg * ((w % 10 : Nat) : Int)))) % 256 = ((48 + w % 10 : Nat) : Int) := by
        rcases hsg with rfl | rfl
        · omega
        · rw [w64 (x := -(-1 * ((w % 10 : Nat) : Int))) (by omega) (by omega), w64 (by omega) (by omega)]; omega
      simp only [if_pos hneg, e5]
      exact hstep
    · have e5 : wrap64 (48 + sg * ((w % 10 : Nat) : Int)) % 256 = ((48 + w % 10 : Nat) : Int) := by
        rcases hsg with rfl | rfl
        · rw [w64 (by omega) (by omega)]; omega
        · rw [w64 (by omega) (by omega)]; omega
      simp only [if_neg hneg, e5]
      exact hstep
theorem rev_loop (l : List Int) (hl : l.length ≤ 1000) (d : Nat) : ∀ i : Nat, i + 1 = d → d ≤ l.length → Ev (fun k => spec_l01Dec.l1 k l (l.drop d).reverse (i : Int)) (strOfNums l.reverse) := by
  induction d with
  | zero => intro i h; omega
  | succ d ih =>
    intro i hi hd
    obtain rfl : i = d := by omega
    refine Ev.succ ?_
    have hlt : i < l.length := by omega
    have e2 : (l.drop (i + 1)).reverse ++ [l[i]] = (l.drop i).reverse := by
      rw [List.drop_eq_getElem_cons hlt, List.reverse_cons]
    simp only [spec_l01Dec.l1, if_pos (show (i : Int) ≥ 0 by omega), if_pos (show (i : Int) < (l.length : Int) by omega), if_pos (show (l.drop (i + 1)).reverse.length < 140737488355328 by rw [List.length_reverse, List.length_drop]; omega), rd_at l i hlt, e2]
    cases i with
    | zero =>
      have e1 : wrap64 (((0 : Nat) : Int) - 1) = -1 := by rw [w64 (by omega) (by omega)]; omega
      rw [e1, List.drop_zero]
      refine Ev.succ ?_
      simp only [spec_l01Dec.l1, if_neg (show ¬ (-1 : Int) ≥ 0 by decide)]
      exact Ev.now _
    | succ j =>
      have e1 : wrap64 (((j + 1 : Nat) : Int) - 1) = (j : Int) := by rw [w64 (by omega) (by omega)]; omega
      rw [e1]
      exact ih j rfl (by omega)
theorem turn_ev (l : List Int) (hl : l.length ≤ 1000) (h0 : 0 < l.length) : Ev (fun k => spec_l01Dec.j1 k l) (strOfNums l.reverse) := by
  refine Ev.succ ?_
  have e1 : wrap64 ((l.length : Int) - 1) = ((l.length - 1 : Nat) : Int) := by rw [w64 (by omega) (by omega)]; omega
  simp only [spec_l01Dec.j1, e1]
  have h := rev_loop l hl l.length (l.length - 1) (by omega) (Nat.le_refl _)
  rw [List.drop_length, List.reverse_nil] at h
  exact h
theorem dI_pos (u : Nat) : 0 < (dI u).length := by
  by_cases h : u < 10
  · rw [dI_small h]; simp
  · rw [dI_big h, List.length_append]; simp
/-- The spelling. -/
def decS (n : Int) : ByteArray := ⟨(itoa n).toArray⟩
theorem implDec_form {n : Int} (h : -9223372036854775808 ≤ n ∧ n ≤ 9223372036854775807) : impl_Decimal.f n = some (decS n) := by
  unfold impl_Decimal.f; rw [if_pos h]; rfl
theorem specDec_ev {n : Int} (h : -9223372036854775808 ≤ n ∧ n ≤ 9223372036854775807) : Ev (fun k => spec_l01Dec.f k n) (decS n) := by
  unfold spec_l01Dec.f
  by_cases h0 : n = 0
  · subst h0
    have e : decS 0 = (⟨#[48]⟩ : ByteArray) := by
      have e2 := strOf_bytes (decDigits 0)
      have e3 := dI_small (u := 0) (by decide)
      unfold dI at e3
      rw [e3] at e2
      have e4 : itoa 0 = decDigits 0 := Go.Lib.itoa_nonneg 0
      unfold decS
      rw [e4, ← e2]
      rfl
    simp only [if_true]
    rw [e]
    exact Ev.now _
  · simp only [if_neg h0]
    by_cases hn : n < 0
    · obtain ⟨u, hu⟩ := Int.eq_ofNat_of_zero_le (show 0 ≤ -n by omega)
      obtain rfl : n = -(u : Int) := by omega
      have hl := dI_length u (by omega)
      have hlp := dI_pos u
      have hd := dig_loop (-(u : Int)) (-1) (.inr rfl) (decS (-(u : Int))) u (by omega) (by omega) (by omega) [] (by simp; omega)
      rw [Int.neg_one_mul] at hd
      refine hd ?_
      refine Ev.succ ?_
      simp only [spec_l01Dec.l0, if_true, if_pos hn, List.nil_append, if_pos (show (dI u).reverse.length < 140737488355328 by rw [List.length_reverse]; omega)]
      have ht := turn_ev ((dI u).reverse ++ [45]) (by rw [List.length_append, List.length_reverse]; simp; omega) (by simp)
      refine Ev.eq ht ?_
      rw [List.reverse_append, List.reverse_reverse, List.reverse_singleton, decS, Go.Lib.itoa_neg u (by omega), ← strOf_bytes]
      rfl
    · obtain ⟨u, rfl⟩ := Int.eq_ofNat_of_zero_le (show 0 ≤ n by omega)
      have hl := dI_length u (by omega)
      have hlp := dI_pos u
      have hd := dig_loop (u : Int) 1 (.inl rfl) (decS (u : Int)) u (by omega) (by omega) (by omega) [] (by simp; omega)
      rw [Int.one_mul] at hd
      refine hd ?_
      refine Ev.succ ?_
      simp only [spec_l01Dec.l0, if_true, if_neg hn, List.nil_append]
      have ht := turn_ev (dI u).reverse (by rw [List.length_reverse]; omega) (by rw [List.length_reverse]; exact hlp)
      refine Ev.eq ht ?_
      rw [List.reverse_reverse, decS, Go.Lib.itoa_nonneg, ← strOf_bytes]
      rfl
theorem decS_size {n : Int} (h : -9223372036854775808 ≤ n ∧ n ≤ 9223372036854775807) : (decS n).size ≤ 21 := by
  have := Go.Lib.itoa_length_le n h.1 h.2
  show (itoa n).toArray.size ≤ 21
  simpa using this
end Go.Proofs.YtbfaadhblmfcjaaDoor.P

/- Closed forms of the small tests that the program and the reference share; no condition. -/
namespace Go.Proofs.YtbfaadhblmfcjaaDoor.P
open Go.RowKit Go.Proofs.YtbfaadhblmfcjaaDoorW.PrintWords Go.Proofs.YtbfaadhblmfcjaaDoorW.PrintLast Go.Proofs.YtbfaadhblmfcjaaDoorW.PrintMore

theorem in_form (n lo hi : Int) : spec_l00In.f n lo hi = some (decide (lo ≤ n ∧ n ≤ hi)) := by
  unfold spec_l00In.f
  by_cases h : n ≥ lo
  · rw [if_pos h]; simp [h]
  · rw [if_neg h]; simp [h]
theorem within_form (n lo hi : Int) : impl_within.f n lo hi = some (decide (lo ≤ n ∧ n ≤ hi)) := by
  unfold impl_within.f
  by_cases h : n ≥ lo
  · rw [if_pos h]; simp [h]
  · rw [if_neg h]; simp [h]
end Go.Proofs.YtbfaadhblmfcjaaDoor.P

/- What the laws do with lists of whole numbers: two equal lists are told equal; marks that were written are found again. The lists hold fewer than 2^60 numbers. -/
namespace Go.Proofs.YtbfaadhblmfcjaaDoor.P
open Go.RowKit Go.Proofs.YtbfaadhblmfcjaaDoorW.PrintWords Go.Proofs.YtbfaadhblmfcjaaDoorW.PrintLast Go.Proofs.YtbfaadhblmfcjaaDoorW.PrintMore

theorem eqS_loop (l : List Int) (hl : l.length < 1152921504606846976) (d : Nat) : ∀ i : Nat, i + d = l.length → Ev (fun k => laws_eqInt64S.l0 k l l (i : Int)) true := by
  induction d with
  | zero =>
    intro i hi
    refine Ev.succ ?_
    simp only [laws_eqInt64S.l0, if_neg (show ¬ (i : Int) < (l.length : Int) by omega)]
    exact Ev.now _
  | succ d ih =>
    intro i hi
    refine Ev.succ ?_
    simp only [laws_eqInt64S.l0, if_pos (show (i : Int) < (l.length : Int) by omega), if_pos (show (0 : Int) ≤ (i : Int) by omega), if_true]
    rw [show (i : Int) + 1 = ((i + 1 : Nat) : Int) by omega, w64 (by omega) (by omega)]
    exact ih (i + 1) (by omega)
theorem eqS_ev {l : List Int} (hl : l.length < 1152921504606846976) : Ev (fun k => laws_eqInt64S.f k l l) true := by
  unfold laws_eqInt64S.f
  simp only [if_true]
  exact eqS_loop l hl l.length 0 (by omega)

end Go.Proofs.YtbfaadhblmfcjaaDoor.P

namespace Go.Proofs.YtbfaadhblmfcjaaDoor.Pure
open Go.RowKit Go.Proofs.YtbfaadhblmfcjaaDoorW.PrintWords Go.Proofs.YtbfaadhblmfcjaaDoorW.PrintLast Go.Proofs.YtbfaadhblmfcjaaDoorW.PrintMore
open Go.Proofs.YtbfaadhblmfcjaaDoor.P
set_option linter.unusedVariables false
set_option linter.unusedSimpArgs false

/-- A number that is not too great. -/
def inV (x : Int) : Prop := -1000000000000000 ≤ x ∧ x ≤ 1000000000000000
instance (x : Int) : Decidable (inV x) := by unfold inV; infer_instance
theorem list_loop (l : List Int) (hl : l.length ≤ 1048576) (d : Nat) : ∀ i : Nat, i + d = l.length → Ev (fun k => spec_l01List.l0 k l (i : Int)) ((l.drop i).all (fun x => decide (inV x)) && decide ((l.length : Int) ≤ 64)) := by
  induction d with
  | zero =>
    intro i hi
    refine Ev.succ ?_
    rw [List.drop_eq_nil_of_le (by omega), List.all_nil, Bool.true_and]
    simp only [spec_l01List.l0, if_neg (show ¬ (i : Int) < (l.length : Int) by omega)]
    exact Ev.now _
  | succ d ih =>
    intro i hi
    refine Ev.succ ?_
    have hlt : i < l.length := by omega
    have e1 : wrap64 ((i : Int) + 1) = ((i + 1 : Nat) : Int) := by rw [w64 (by omega) (by omega)]; omega
    rw [List.drop_eq_getElem_cons hlt, List.all_cons]
    simp only [spec_l01List.l0, if_pos (show (i : Int) < (l.length : Int) by omega), if_pos (show (0 : Int) ≤ (i : Int) by omega), rd_at l i hlt, in_form, Option.bind_some, e1]
    by_cases h : inV l[i]
    · have h' : -1000000000000000 ≤ l[i] ∧ l[i] ≤ 1000000000000000 := h
      simp only [h, h', and_self, decide_true, if_true, Bool.true_and]
      exact ih (i + 1) (by omega)
    · have h' : ¬ (-1000000000000000 ≤ l[i] ∧ l[i] ≤ 1000000000000000) := h
      simp only [h, h', decide_false, Bool.false_eq_true, if_false, Bool.false_and]
      exact Ev.now _
def comma : ByteArray := ⟨#[44]⟩
def listS (l : List Int) : ByteArray := if l.length = 0 then ⟨#[110, 111, 110, 101]⟩ else joinV (l.map decS) comma
theorem inV64 {x : Int} (h : inV x) : -9223372036854775808 ≤ x ∧ x ≤ 9223372036854775807 := by unfold inV at h; omega
theorem decS_pos (n : Int) : 0 < (decS n).size := by
  unfold decS
  show 0 < ((Go.Lib.itoa n).toArray).size
  rw [List.size_toArray]
  unfold Go.Lib.itoa
  split
  · simp
  · have := dI_pos n.toNat
    unfold dI at this
    rwa [List.length_map] at this
theorem text_sizes {l : List Int} (h : ∀ x ∈ l, inV x) (h64 : l.length ≤ 64) (i : Nat) (hi : i ≤ l.length) : (joinT (l.map decS) comma i).size ≤ 1408 := by
  have := joinT_size (l.map decS) comma 21 rfl (fun x hx => by
    obtain ⟨n, hn, rfl⟩ := List.mem_map.mp hx
    exact decS_size (inV64 (h n hn))) i (by rw [List.length_map]; exact hi)
  omega
theorem text_loop {l : List Int} (h : ∀ x ∈ l, inV x) (h64 : l.length ≤ 64) (d : Nat) : ∀ i : Nat, i + d = l.length → Ev (fun k => spec_l01Text.l0 k l (joinT (l.map decS) comma i) (i : Int)) (listS l) := by
  induction d with
  | zero =>
    intro i hi
    obtain rfl : i = l.length := by omega
    refine Ev.succ ?_
    simp only [spec_l01Text.l0, Int.lt_irrefl, if_false]
    unfold listS
    by_cases h0 : l.length = 0
    · rw [if_pos h0]
      rw [h0, joinT_zero]
      simp only [toList_nil]
      exact Ev.now _
    · obtain ⟨j, hj⟩ : ∃ j, l.length = j + 1 := ⟨l.length - 1, by omega⟩
      have hp := joinT_pos (l.map decS) comma (fun x hx => by
        obtain ⟨n, _, rfl⟩ := List.mem_map.mp hx
        exact decS_pos n) j (by rw [List.length_map]; omega)
      rw [if_neg h0]
      have hne : ¬ (joinT (l.map decS) comma l.length).toList = ([] : List UInt8) := by
        rw [toList_nil, hj]; omega
      simp only [if_neg hne]
      have e := joinT_all (l.map decS) comma
      rw [List.length_map] at e
      rw [e]
      exact Ev.now _
  | succ d ih =>
    intro i hi
    refine Ev.succ ?_
    have hlt : i < l.length := by omega
    have e1 : wrap64 ((i : Int) + 1) = ((i + 1 : Nat) : Int) := by rw [w64 (by omega) (by omega)]; omega
    have hx := inV64 (h _ (List.getElem_mem hlt))
    have hs := text_sizes h h64 i (by omega)
    have hd := decS_size hx
    have hsc : (joinT (l.map decS) comma i ++ (⟨#[44]⟩ : ByteArray)).size ≤ 1409 := by
      have e : (⟨#[44]⟩ : ByteArray).size = 1 := rfl
      rw [ByteArray.size_append, e]; omega
    have ih := ih (i + 1) (by omega)
    rw [joinT_succ _ _ _ (by rw [List.length_map]; exact hlt), List.getElem_map] at ih
    simp only [spec_l01Text.l0, if_pos (show (i : Int) < (l.length : Int) by omega), if_pos (show (0 : Int) ≤ (i : Int) by omega), rd_at l i hlt, e1]
    by_cases hi0 : i = 0
    · rw [if_pos hi0] at ih
      subst hi0
      simp only [show ¬ ((0 : Nat) : Int) > 0 by omega, if_false]
      refine Ev.bind (specDec_ev hx) ?_
      simp only [if_pos (show (joinT (l.map decS) comma 0).size + (decS l[0]).size ≤ 9223372036854775807 by omega)]
      rw [joinT_zero]
      simp only [nil_append]
      exact ih
    · rw [if_neg hi0] at ih
      simp only [if_pos (show (i : Int) > 0 by omega), if_pos (show (joinT (l.map decS) comma i).size + 1 ≤ 9223372036854775807 by omega)]
      refine Ev.bind (specDec_ev hx) ?_
      simp only [if_pos (show (joinT (l.map decS) comma i ++ (⟨#[44]⟩ : ByteArray)).size + (decS l[i]).size ≤ 9223372036854775807 by omega)]
      exact ih
/-- The list is one that is spelled. -/
def okL (l : List Int) : Bool := l.all (fun x => decide (inV x)) && decide ((l.length : Int) ≤ 64)
def listV (l : List Int) : ByteArray × Bool := if okL l = true then (listS l, true) else (⟨#[]⟩, false)
theorem specList_ev (l : List Int) (hl : l.length ≤ 1048576) : Ev (fun k => spec_ListText.f k l) (listV l) := by
  unfold spec_ListText.f listV
  have h1 := list_loop l hl l.length 0 (by omega)
  rw [List.drop_zero] at h1
  refine Ev.bind (a := okL l) h1 ?_
  by_cases hk : okL l = true
  · have h2 := hk
    unfold okL at h2
    rw [Bool.and_eq_true, List.all_eq_true, decide_eq_true_eq] at h2
    simp only [hk, if_true]
    have ht := text_loop (l := l) (fun x hx => of_decide_eq_true (h2.1 x hx)) (by omega) l.length 0 (by omega)
    rw [joinT_zero] at ht
    exact Ev.bind ht (Ev.now _)
  · simp only [hk, if_false]
    exact Ev.now _
theorem implList_loop (l : List Int) (hl : l.length ≤ 1048576) (d : Nat) : ∀ i : Nat, i + d = l.length → (∀ x ∈ l.take i, inV x) → (0 < i → l.length ≤ 64) →
    Ev (fun k => impl_ListText.l0 k l ((l.take i).map decS) l (l.length : Int) (i : Int)) (listV l) := by
  induction d with
  | zero =>
    intro i hi hx h64
    obtain rfl : i = l.length := by omega
    rw [List.take_of_length_le (Nat.le_refl _)] at hx ⊢
    have h64' : l.length ≤ 64 := by
      by_cases h0 : l.length = 0
      · omega
      · exact h64 (by omega)
    have hk : okL l = true := by
      unfold okL
      rw [Bool.and_eq_true, List.all_eq_true, decide_eq_true_eq]
      exact ⟨fun x h => decide_eq_true (hx x h), by omega⟩
    unfold listV listS
    rw [if_pos hk]
    refine Ev.succ ?_
    simp only [impl_ListText.l0, Int.lt_irrefl, if_false, List.length_map]
    by_cases h0 : l.length = 0
    · rw [if_pos h0]
      simp only [if_pos (show (l.length : Int) = 0 by omega)]
      exact Ev.now _
    · rw [if_neg h0]
      have hs := text_sizes hx h64' l.length (Nat.le_refl _)
      have e := joinT_all (l.map decS) comma
      rw [List.length_map] at e
      rw [e] at hs
      have hj : strings_Join.f (l.map decS) (⟨#[44]⟩ : ByteArray) = some (joinV (l.map decS) comma) := by
        unfold strings_Join.f
        rw [if_pos]
        · rfl
        · refine ⟨by rw [List.length_map]; omega, ?_⟩
          show (joinV (l.map decS) comma).size ≤ _
          omega
      simp only [if_neg (show ¬ (l.length : Int) = 0 by omega), hj, Option.bind_some]
      exact Ev.now _
  | succ d ih =>
    intro i hi hx h64
    refine Ev.succ ?_
    have hlt : i < l.length := by omega
    have e1 : wrap64 ((i : Int) + 1) = ((i + 1 : Nat) : Int) := by rw [w64 (by omega) (by omega)]; omega
    simp only [impl_ListText.l0, if_pos (show (i : Int) < (l.length : Int) by omega), if_pos (show (0 : Int) ≤ (i : Int) by omega), rd_at l i hlt, e1, within_form, Option.bind_some]
    by_cases h6 : (l.length : Int) > 64
    · have hk : ¬ okL l = true := by
        unfold okL
        rw [Bool.and_eq_true, decide_eq_true_eq]
        rintro ⟨_, h⟩
        omega
      unfold listV
      rw [if_neg hk]
      simp only [if_pos h6]
      exact Ev.now _
    · simp only [if_neg h6]
      by_cases hv : inV l[i]
      · have hv' : -1000000000000000 ≤ l[i] ∧ l[i] ≤ 1000000000000000 := hv
        simp only [hv', and_self, decide_true, if_true, implDec_form (inV64 hv), Option.bind_some, List.length_map, List.length_take, if_pos (show min i l.length < 8796093022208 by omega)]
        have ih := ih (i + 1) (by omega) (fun x hm => by
          rw [← List.take_append_getElem hlt, List.mem_append, List.mem_singleton] at hm
          rcases hm with hm | rfl
          · exact hx x hm
          · exact hv) (fun _ => by omega)
        rw [← List.take_append_getElem hlt, List.map_append, List.map_cons, List.map_nil] at ih
        exact ih
      · have hv' : ¬ (-1000000000000000 ≤ l[i] ∧ l[i] ≤ 1000000000000000) := hv
        have hk : ¬ okL l = true := by
          unfold okL
          rw [Bool.and_eq_true, List.all_eq_true]
          rintro ⟨h, _⟩
          exact hv (of_decide_eq_true (h _ (List.getElem_mem hlt)))
        unfold listV
        rw [if_neg hk]
        simp only [hv', decide_false, Bool.false_eq_true, if_false]
        exact Ev.now _
theorem FnExactListText : laws_FnExactListText.Pure := by
  intro l _ _ _
  apply Ev.rounds
  unfold laws_FnExactListText.f
  by_cases hl : (l.length : Int) > 1048576
  · simp only [if_pos hl]
    exact Ev.now _
  · have hl' : l.length ≤ 1048576 := by omega
    simp only [if_neg hl]
    have hi : Ev (fun k => impl_ListText.f k l) (listV l) := by
      unfold impl_ListText.f
      exact implList_loop l hl' l.length 0 (by omega) (fun x h => by rw [List.take_zero] at h; cases h) (fun h => by omega)
    refine Ev.bind (toInt64S_ev l hl') (Ev.bind (specList_ev l hl') (Ev.bind (toInt64S_ev l hl') (Ev.bind hi ?_)))
    simp only [if_true, bne_self_eq_false]
    refine Ev.succ ?_
    simp only [laws_FnExactListText.j0, Bool.false_eq_true, if_false]
    refine Ev.bind (toInt64S_ev l hl') (Ev.bind (eqS_ev (l := l) (by omega)) ?_)
    simp only [if_true]
    exact Ev.now _
end Go.Proofs.YtbfaadhblmfcjaaDoor.Pure
