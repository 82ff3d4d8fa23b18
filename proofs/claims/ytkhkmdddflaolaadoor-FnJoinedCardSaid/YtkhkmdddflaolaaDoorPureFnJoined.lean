/- The law FnJoined holds for all drawn waves: each tick of joined levels comes from both, the other levels of the other levels are the wave, a later wave is the wave from that tick on; no condition. -/
import Derived.Test.YtkhkmdddflaolaaDoorWMore
import Derived.OpenShut
import Derived.Laws.BitsAllLaws
import Derived.Test.YtkhkmdddflaolaaDoorP0
import Derived.Test.YtkhkmdddflaolaaDoorP2
import Derived.Test.YtkhkmdddflaolaaDoorExtTrim
import Derived.Test.YtkhkmdddflaolaaDoorP6
import Derived.Test.YtkhkmdddflaolaaDoorP10
import Derived.Test.YtkhkmdddflaolaaDoorP7
import Derived.Test.YtkhkmdddflaolaaDoorP11
import Derived.Test.YtkhkmdddflaolaaDoorExtNot
import Derived.Test.YtkhkmdddflaolaaDoorExtJoin
import Derived.Test.YtkhkmdddflaolaaDoorExtRepeat
import Derived.Test.YtkhkmdddflaolaaDoorWaveOf
/- Plain lemmas on whole numbers of 64 bits, on rounds, and on Go's shifts and bit operations at small numbers; no condition. -/
namespace Go.Proofs.YtkhkmdddflaolaaDoor.P
open Go.RowKit Go.Proofs.YtkhkmdddflaolaaDoorW.PrintWords Go.Proofs.YtkhkmdddflaolaaDoorW.PrintLast Go.Proofs.YtkhkmdddflaolaaDoorW.PrintMore

theorem w64 {x : Int} (h1 : -9223372036854775808 ≤ x) (h2 : x ≤ 9223372036854775807) : wrap64 x = x := by unfold wrap64; omega
theorem wu64 {x : Int} (h1 : 0 ≤ x) (h2 : x ≤ 18446744073709551615) : IntKind.u64.wrap x = x := by
  simp [IntKind.wrap, IntKind.bits, IntKind.signed]; omega

/-- One round more: the function's text at 'k + 1'. -/
theorem Ev.succ {α : Type} {g : Nat → Option α} {r : α} (h : Ev (fun k => g (k + 1)) r) : Ev g r := Ev.step (fun _ => rfl) h

theorem ofInt_i64 (a : Nat) (ha : a < 18446744073709551616) : (BitVec.ofInt 64 (a : Int)).toNat = a := by
  rw [BitVec.ofInt_natCast, BitVec.toNat_ofNat]; exact Nat.mod_eq_of_lt (by omega)
theorem rd_at (xs : List Int) (i : Nat) (h : i < xs.length) : rd xs (i : Int) = xs[i] := by
  unfold rd
  simp [List.getD_eq_getElem?_getD, List.getElem?_eq_getElem h]
end Go.Proofs.YtkhkmdddflaolaaDoor.P

/- When a text is a wave, as the program (it trims zeros and ones off) and as the reference (it looks at each byte) ask it. The texts are shorter than 2^62 bytes. -/
namespace Go.Proofs.YtkhkmdddflaolaaDoor.P
open Go.RowKit Go.Proofs.YtkhkmdddflaolaaDoorW.PrintWords Go.Proofs.YtkhkmdddflaolaaDoorW.PrintLast Go.Proofs.YtkhkmdddflaolaaDoorW.PrintMore

/-- A text's bytes. -/
abbrev bs (s : ByteArray) : List UInt8 := s.data.toList
theorem bs_len (s : ByteArray) : (bs s).length = s.size := by simp [bs]
theorem bt_nat (s : ByteArray) (i : Nat) (h : i < s.size) : bt s (i : Int) = (((bs s)[i]'(by rw [bs_len]; exact h)).toNat : Int) := by
  unfold bt bs
  rw [dif_pos (by simpa using h)]
  simp [ByteArray.getElem_eq_getElem_data]

theorem dropWhile_all {α : Type} (p : α → Bool) (l : List α) : (∀ x ∈ l.dropWhile p, p x = true) ↔ ∀ x ∈ l, p x = true := by
  induction l with
  | nil => simp
  | cons a l ih =>
    by_cases h : p a = true
    · simp [h, ih]
    · simp [h]
theorem dropWhile_nil {α : Type} (p : α → Bool) (l : List α) : l.dropWhile p = [] ↔ ∀ x ∈ l, p x = true := by
  induction l with
  | nil => simp
  | cons a l ih =>
    by_cases h : p a = true
    · simp [h, ih]
    · simp [h]
/-- Nothing is left exactly if each byte is of the cutset. -/
theorem trimS_nil (l cs : List UInt8) : Lib.trimS l cs = [] ↔ ∀ x ∈ l, cs.contains x = true := by
  unfold Lib.trimS Lib.trimRightS Lib.trimLeftS
  rw [dropWhile_nil]
  have h := dropWhile_all (cs.contains ·) l.reverse
  simp only [List.mem_reverse] at h ⊢
  exact h
theorem trim_beq (l cs : List UInt8) : (Lib.trimS l cs == []) = l.all (cs.contains ·) := by
  rw [Bool.eq_iff_iff, beq_iff_eq, trimS_nil, List.all_eq_true]
theorem mk_toList (l : List UInt8) : (⟨l.toArray⟩ : ByteArray).toList = l := by rw [ByteArray.toList_eq]

def isLevel (b : UInt8) : Bool := b.toNat == 48 || b.toNat == 49
def waveOk (s : ByteArray) : Bool := decide (s.size ≤ 400) && (bs s).all isLevel
theorem level_contains (b : UInt8) : ([48, 49] : List UInt8).contains b = isLevel b := by
  unfold isLevel
  rw [Bool.eq_iff_iff]
  simp only [List.contains_iff_mem, List.mem_cons, List.not_mem_nil, or_false, Bool.or_eq_true, beq_iff_eq, ← UInt8.toNat_inj]
  exact Iff.rfl
theorem isWave_form {s : ByteArray} (hs : s.size ≤ 9223372036854775807) : impl_IsWave.f s = some (waveOk s) := by
  unfold impl_IsWave.f strings_Trim.f waveOk
  by_cases h : (s.size : Int) ≤ 400
  · rw [if_pos h, if_pos ⟨hs, by decide, by decide⟩]
    simp only [Option.bind_some, mk_toList]
    rw [trim_beq]
    have e : (fun x => (⟨#[48, 49]⟩ : ByteArray).data.toList.contains x) = isLevel := funext level_contains
    rw [e, decide_eq_true (show s.size ≤ 400 by omega), Bool.true_and]
  · rw [if_neg h, decide_eq_false (show ¬ s.size ≤ 400 by omega), Bool.false_and]
end Go.Proofs.YtkhkmdddflaolaaDoor.P

/- What the reference draws: a wave of at most 40 ticks, and levels of so many ticks. The bytes are at most 1048576. -/
namespace Go.Proofs.YtkhkmdddflaolaaDoor.P
open Go.RowKit Go.Proofs.YtkhkmdddflaolaaDoorW.PrintWords Go.Proofs.YtkhkmdddflaolaaDoorW.PrintLast Go.Proofs.YtkhkmdddflaolaaDoorW.PrintMore
set_option linter.unusedVariables false
set_option linter.unusedSimpArgs false

theorem wu64_nonneg (x : Int) : 0 ≤ IntKind.u64.wrap x := by
  simp [IntKind.wrap, IntKind.bits, IntKind.signed]; omega
theorem and_u64 (a b : Nat) (ha : a < 18446744073709551616) (hb : b < 18446744073709551616) : Go.bits .and .u64 (a : Int) (b : Int) = ((a &&& b : Nat) : Int) := by
  have hx : a &&& b < 2 ^ 64 := Nat.and_lt_two_pow _ (by omega)
  show IntKind.u64.wrap ((BitVec.ofInt 64 (a : Int) &&& BitVec.ofInt 64 (b : Int)).toNat : Int) = _
  rw [BitVec.toNat_and, ofInt_i64 a (by omega), ofInt_i64 b (by omega)]
  exact wu64 (by omega) (by omega)
theorem bytes_rd {l : List Int} (hl : ∀ x ∈ l, (Lit.int .u8 x).wf = true) (i : Nat) (h : i < l.length) : 0 ≤ rd l (i : Int) ∧ rd l (i : Int) ≤ 255 := by
  rw [rd_at l i h]
  have := Go.bounds_u8 (hl _ (List.getElem_mem h))
  omega
theorem low8 (z : Int) : ∃ v, wrap64 (Go.bits .and .u64 ((IntKind.u64.wrap z) / 1099511627776) 255) = v ∧ 0 ≤ v ∧ v ≤ 255 := by
  have h0 := wu64_nonneg z
  have h1 : IntKind.u64.wrap z < 18446744073709551616 := by simp [IntKind.wrap, IntKind.bits, IntKind.signed]; omega
  obtain ⟨a, ha⟩ := Int.eq_ofNat_of_zero_le h0
  rw [ha] at h1 ⊢
  have e : (a : Int) / 1099511627776 = ((a / 1099511627776 : Nat) : Int) := by omega
  have h2 : a / 1099511627776 < 18446744073709551616 := by omega
  have h3 := and_u64 (a / 1099511627776) 255 h2 (by decide)
  have h4 : (a / 1099511627776) &&& 255 ≤ 255 := Nat.and_le_right
  rw [e, show (255 : Int) = ((255 : Nat) : Int) from rfl, h3, w64 (by omega) (by omega)]
  exact ⟨_, rfl, by omega, by omega⟩
theorem next_ok {l : List Int} (hl : ∀ x ∈ l, (Lit.int .u8 x).wf = true) (hn : l.length ≤ 1048576) (p : Nat) (hp : p ≤ 2000000) (s : Int) : ∃ v s', spec_l00Src_next.f l (p : Int) s = some (v, ((p + 1 : Nat) : Int), s') ∧ 0 ≤ v ∧ v ≤ 255 := by
  have e1 : wrap64 ((p : Int) + 1) = ((p + 1 : Nat) : Int) := by rw [w64 (by omega) (by omega)]; omega
  unfold spec_l00Src_next.f
  rw [e1]
  by_cases h : p < l.length
  · have hb := bytes_rd hl p h
    rw [if_pos (show (p : Int) < (l.length : Int) by omega), if_pos (show (0 : Int) ≤ (p : Int) by omega), if_pos (show ((p + 1 : Nat) : Int) ≤ (l.length : Int) by omega)]
    exact ⟨_, _, rfl, by rw [w64 (by omega) (by omega)]; omega, by rw [w64 (by omega) (by omega)]; omega⟩
  · obtain ⟨v, hv, h0, h1⟩ := low8 ((IntKind.u64.wrap (IntKind.u64.wrap (s * 6364136223846793005))) + 1442695040888963407)
    rw [if_neg (show ¬ (p : Int) < (l.length : Int) by omega), if_neg (show ¬ ((p + 1 : Nat) : Int) ≤ (l.length : Int) by omega), hv]
    exact ⟨_, _, rfl, h0, h1⟩
theorem pick_ok {l : List Int} (hl : ∀ x ∈ l, (Lit.int .u8 x).wf = true) (hn : l.length ≤ 1048576) (p : Nat) (hp : p ≤ 1999999) (s : Int) (a : Int) (h1 : 1 ≤ a) (h2 : a ≤ 200) : ∃ v s' p', spec_l00Src_pick.f l (p : Int) s a = some (v, ((p' : Nat) : Int), s') ∧ 0 ≤ v ∧ v < a ∧ p' ≤ p + 1 := by
  unfold spec_l00Src_pick.f
  by_cases h : a ≤ 1
  · rw [if_pos h]
    exact ⟨0, s, p, rfl, by omega, by omega, by omega⟩
  · obtain ⟨v, s', e, h3, h4⟩ := next_ok hl hn p (by omega) s
    rw [if_neg h, e]
    simp only [Option.bind_some]
    rw [if_neg (show ¬ a > 200 by omega), if_neg (show ¬ a = 0 by omega)]
    exact ⟨_, _, p + 1, rfl, Int.tmod_nonneg a h3, Int.tmod_lt_of_pos v (by omega), Nat.le_refl _⟩
theorem one_ok {l : List Int} (hl : ∀ x ∈ l, (Lit.int .u8 x).wf = true) (hn : l.length ≤ 1048576) (p : Nat) (hp : p ≤ 1999999) (s : Int) (a : Int) (h1 : 1 ≤ a) (h2 : a ≤ 200) : ∃ v s' p', spec_l00Src_one.f l (p : Int) s a = some (v, ((p' : Nat) : Int), s') ∧ p' ≤ p + 1 := by
  obtain ⟨v, s', p', e, _, _, h⟩ := pick_ok hl hn p hp s a h1 h2
  unfold spec_l00Src_one.f
  rw [e]
  exact ⟨_, s', p', rfl, h⟩
def isLv (x : Int) : Prop := x = 48 ∨ x = 49
theorem waveOk_str {l : List Int} (h : ∀ x ∈ l, isLv x) (hl : l.length ≤ 400) : waveOk (strOfNums l) = true := by
  unfold waveOk bs
  rw [strOfNums_size, strOfNums_data, decide_eq_true hl, Bool.true_and, List.all_eq_true]
  intro b hb
  obtain ⟨x, hx, rfl⟩ := List.mem_map.mp hb
  rcases h x hx with rfl | rfl <;> decide
theorem snoc_lv {l : List Int} (h : ∀ x ∈ l, isLv x) {y : Int} (hy : isLv y) : ∀ x ∈ l ++ [y], isLv x := by
  intro x hx
  rcases List.mem_append.mp hx with h1 | h1
  · exact h x h1
  · rw [List.mem_singleton.mp h1]; exact hy
theorem lv_pick {v : Int} (h0 : 0 ≤ v) (h1 : v < 2) : isLv ((wrap64 (48 + v)) % 256) := by
  rw [w64 (by omega) (by omega)]
  unfold isLv; omega
theorem lv_not {x : Int} (h : isLv x) : isLv ((97 - x) % 256) := by
  unfold isLv at *; omega
theorem good_loop {q : List Int} (hq : ∀ x ∈ q, (Lit.int .u8 x).wf = true) (hn : q.length ≤ 1048576) (a : Int) (h1 : 1 ≤ a) (h2 : a ≤ 200) (d : Nat) : ∀ (acc : List Int) (lev : Int) (p : Nat) (s : Int), p + 2 * d ≤ 1000 → acc.length + d ≤ 400 → (∀ x ∈ acc, isLv x) → isLv lev →
    ∃ l p' s', Ev (fun k => spec_l01DrawGood.l0 k acc lev a (d : Int) q (p : Int) s) (strOfNums l, p', s') ∧ l.length = acc.length + d ∧ ∀ x ∈ l, isLv x := by
  induction d with
  | zero =>
    intro acc lev p s _ _ ha _
    refine ⟨acc, (p : Int), s, Ev.succ ?_, rfl, ha⟩
    simp only [spec_l01DrawGood.l0, if_neg (show ¬ ((0 : Nat) : Int) > 0 by omega)]
    exact Ev.now _
  | succ d ih =>
    intro acc lev p s hp hc ha hv
    have e2 : wrap64 (((d + 1 : Nat) : Int) - 1) = (d : Int) := by rw [w64 (by omega) (by omega)]; omega
    obtain ⟨b, s1, p1, e, hp1⟩ := one_ok hq hn p (by omega) s a h1 h2
    cases b with
    | true =>
      obtain ⟨v, s2, p2, e3, v0, v1, hp2⟩ := pick_ok hq hn p1 (by omega) s1 2 (by omega) (by omega)
      obtain ⟨l, p3, s3, hl, hlen, hlv⟩ := ih (acc ++ [(wrap64 (48 + v)) % 256]) ((wrap64 (48 + v)) % 256) p2 s2 (by omega) (by rw [List.length_append, List.length_singleton]; omega) (snoc_lv ha (lv_pick v0 v1)) (lv_pick v0 v1)
      refine ⟨l, p3, s3, Ev.succ ?_, by rw [hlen, List.length_append, List.length_singleton]; omega, hlv⟩
      simp only [spec_l01DrawGood.l0, if_pos (show ((d + 1 : Nat) : Int) > 0 by omega), e, Option.bind_some, if_true, e3, if_pos (show acc.length < 140737488355328 by omega), e2]
      exact hl
    | false =>
      obtain ⟨l, p3, s3, hl, hlen, hlv⟩ := ih (acc ++ [lev]) lev p1 s1 (by omega) (by rw [List.length_append, List.length_singleton]; omega) (snoc_lv ha hv) hv
      refine ⟨l, p3, s3, Ev.succ ?_, by rw [hlen, List.length_append, List.length_singleton]; omega, hlv⟩
      simp only [spec_l01DrawGood.l0, if_pos (show ((d + 1 : Nat) : Int) > 0 by omega), e, Option.bind_some, Bool.false_eq_true, if_false, if_pos (show acc.length < 140737488355328 by omega), e2]
      exact hl
theorem good_ev {q : List Int} (hq : ∀ x ∈ q, (Lit.int .u8 x).wf = true) (hn : q.length ≤ 1048576) : ∃ s, Ev (fun k => spec_B10Wave.f k q) s ∧ waveOk s = true ∧ s.size ≤ 200 := by
  obtain ⟨v1, s1, p1, e1, a1, b1, c1⟩ := pick_ok hq hn 0 (by omega) 0 2 (by omega) (by omega)
  obtain ⟨v2, s2, p2, e2, a2, b2, c2⟩ := pick_ok hq hn p1 (by omega) s1 5 (by omega) (by omega)
  obtain ⟨v3, s3, p3, e3, a3, b3, c3⟩ := pick_ok hq hn p2 (by omega) s2 41 (by omega) (by omega)
  obtain ⟨d, rfl⟩ := Int.eq_ofNat_of_zero_le a3
  have ew : wrap64 (1 + v2) = 1 + v2 := w64 (by omega) (by omega)
  obtain ⟨l, p', s', hl, hlen, hlv⟩ := good_loop hq hn (1 + v2) (by omega) (by omega) d [] ((wrap64 (48 + v1)) % 256) p3 s3 (by omega) (by simp; omega) (fun x h => by cases h) (lv_pick a1 b1)
  have hlen' : l.length = d := by rw [hlen]; simp
  refine ⟨strOfNums l, ?_, waveOk_str hlv (by omega), by rw [strOfNums_size]; omega⟩
  have e41 : wrap64 (40 + 1) = 41 := by rw [w64 (by omega) (by omega)]; rfl
  rw [show ((0 : Nat) : Int) = 0 from rfl] at e1
  unfold spec_B10Wave.f spec_l00From.f spec_l01DrawGood.f
  simp only [Option.bind_some, e1, e2, e41, e3, ew]
  exact Ev.bind hl (Ev.now _)
theorem lev_loop {q : List Int} (hq : ∀ x ∈ q, (Lit.int .u8 x).wf = true) (hn : q.length ≤ 1048576) (d : Nat) : ∀ (acc : List Int) (lev : Int) (p : Nat) (s : Int), p + 2 * d ≤ 1000 → acc.length + d ≤ 400 → (∀ x ∈ acc, isLv x) → isLv lev →
    ∃ l p' s', Ev (fun k => spec_l07DrawLevels.l0 k (d : Int) acc lev q (p : Int) s) (strOfNums l, p', s') ∧ l.length = acc.length + d ∧ ∀ x ∈ l, isLv x := by
  induction d with
  | zero =>
    intro acc lev p s _ _ ha _
    refine ⟨acc, (p : Int), s, Ev.succ ?_, rfl, ha⟩
    simp only [spec_l07DrawLevels.l0, if_neg (show ¬ ((0 : Nat) : Int) > 0 by omega)]
    exact Ev.now _
  | succ d ih =>
    intro acc lev p s hp hc ha hv
    have e2 : wrap64 (((d + 1 : Nat) : Int) - 1) = (d : Int) := by rw [w64 (by omega) (by omega)]; omega
    obtain ⟨b, s1, p1, e, hp1⟩ := one_ok hq hn p (by omega) s 6 (by omega) (by omega)
    cases b with
    | true =>
      obtain ⟨l, p3, s3, hl, hlen, hlv⟩ := ih (acc ++ [(97 - lev) % 256]) ((97 - lev) % 256) p1 s1 (by omega) (by rw [List.length_append, List.length_singleton]; omega) (snoc_lv ha (lv_not hv)) (lv_not hv)
      refine ⟨l, p3, s3, Ev.succ ?_, by rw [hlen, List.length_append, List.length_singleton]; omega, hlv⟩
      simp only [spec_l07DrawLevels.l0, if_pos (show ((d + 1 : Nat) : Int) > 0 by omega), e, Option.bind_some, if_true, if_pos (show acc.length < 140737488355328 by omega), e2]
      exact hl
    | false =>
      obtain ⟨l, p3, s3, hl, hlen, hlv⟩ := ih (acc ++ [lev]) lev p1 s1 (by omega) (by rw [List.length_append, List.length_singleton]; omega) (snoc_lv ha hv) hv
      refine ⟨l, p3, s3, Ev.succ ?_, by rw [hlen, List.length_append, List.length_singleton]; omega, hlv⟩
      simp only [spec_l07DrawLevels.l0, if_pos (show ((d + 1 : Nat) : Int) > 0 by omega), e, Option.bind_some, Bool.false_eq_true, if_false, if_pos (show acc.length < 140737488355328 by omega), e2]
      exact hl
theorem lev_ev {q : List Int} (hq : ∀ x ∈ q, (Lit.int .u8 x).wf = true) (hn : q.length ≤ 1048576) (n : Nat) (h400 : n ≤ 400) : ∃ s, Ev (fun k => spec_B10Levels.f k q (n : Int)) s ∧ waveOk s = true ∧ s.size = n := by
  obtain ⟨v1, s1, p1, e1, a1, b1, c1⟩ := pick_ok hq hn 0 (by omega) 0 2 (by omega) (by omega)
  obtain ⟨l, p', s', hl, hlen, hlv⟩ := lev_loop hq hn n [] ((wrap64 (48 + v1)) % 256) p1 s1 (by omega) (by simp; omega) (fun x h => by cases h) (lv_pick a1 b1)
  have hlen' : l.length = n := by rw [hlen]; simp
  refine ⟨strOfNums l, ?_, waveOk_str hlv (by omega), by rw [strOfNums_size]; exact hlen'⟩
  rw [show ((0 : Nat) : Int) = 0 from rfl] at e1
  unfold spec_B10Levels.f spec_l00From.f spec_l07DrawLevels.f
  simp only [Option.bind_some, e1]
  exact Ev.bind hl (Ev.now _)
theorem at10_form (l : List Int) (hl : ∀ x ∈ l, (Lit.int .u8 x).wf = true) (i n : Int) (hi : 0 ≤ i) (hi2 : i ≤ 10) (hn : 2 ≤ n) (hn2 : n ≤ 1000) : ∃ r, laws_b10At.f l i n = some r ∧ 0 ≤ r ∧ r < n := by
  unfold laws_b10At.f
  rw [if_neg (show ¬ n ≤ 1 by omega)]
  by_cases h2 : i < (l.length : Int)
  · rw [if_pos h2, if_pos hi, if_neg (show ¬ n = 0 by omega)]
    obtain ⟨j, rfl⟩ := Int.eq_ofNat_of_zero_le hi
    have hj : j < l.length := by omega
    have hx := bytes_rd hl j hj
    rw [w64 (by omega) (by omega)]
    exact ⟨_, rfl, Int.tmod_nonneg _ hx.1, Int.tmod_lt_of_pos _ (by omega)⟩
  · rw [if_neg h2, if_neg (show ¬ n = 0 by omega), w64 (x := i * 37) (by omega) (by omega), w64 (by omega) (by omega)]
    exact ⟨_, rfl, Int.tmod_nonneg _ (by omega), Int.tmod_lt_of_pos _ (by omega)⟩
end Go.Proofs.YtkhkmdddflaolaaDoor.P

/- Closed forms of the small tests that the program and the reference share; no condition. -/
namespace Go.Proofs.YtkhkmdddflaolaaDoor.P
open Go.RowKit Go.Proofs.YtkhkmdddflaolaaDoorW.PrintWords Go.Proofs.YtkhkmdddflaolaaDoorW.PrintLast Go.Proofs.YtkhkmdddflaolaaDoorW.PrintMore

theorem within_form (n lo hi : Int) : impl_within.f n lo hi = some (decide (lo ≤ n ∧ n ≤ hi)) := by
  unfold impl_within.f
  by_cases h : n ≥ lo
  · rw [if_pos h]; simp [h]
  · rw [if_neg h]; simp [h]
end Go.Proofs.YtkhkmdddflaolaaDoor.P

namespace Go.Proofs.YtkhkmdddflaolaaDoor.Pure
open Go.RowKit Go.Proofs.YtkhkmdddflaolaaDoorW.PrintWords Go.Proofs.YtkhkmdddflaolaaDoorW.PrintLast Go.Proofs.YtkhkmdddflaolaaDoorW.PrintMore
set_option linter.unusedVariables false
set_option linter.unusedSimpArgs false
open Go.Proofs.YtkhkmdddflaolaaDoor.P

theorem level_of {s : ByteArray} (h : waveOk s = true) (i : Nat) (hi : i < s.size) : bt s (i : Int) = 48 ∨ bt s (i : Int) = 49 := by
  unfold waveOk at h
  rw [Bool.and_eq_true, List.all_eq_true] at h
  have := h.2 _ (List.getElem_mem (l := bs s) (n := i) (by rw [bs_len]; exact hi))
  rw [bt_nat s i hi]
  unfold isLevel at this
  rw [Bool.or_eq_true, beq_iff_eq, beq_iff_eq] at this
  omega
theorem wave_size {s : ByteArray} (h : waveOk s = true) : s.size ≤ 400 := by
  unfold waveOk at h
  rw [Bool.and_eq_true, decide_eq_true_eq] at h
  exact h.1
theorem ba_ext {s t : ByteArray} (h : s.data.toList = t.data.toList) : s = t := ByteArray.ext (Array.ext' h)
def delayL (s : ByteArray) (n : Nat) : Nat → List Int
  | 0 => []
  | i + 1 => delayL s n i ++ [if n ≤ i then bt s ((i - n : Nat) : Int) else 48]
theorem delayL_length (s : ByteArray) (n i : Nat) : (delayL s n i).length = i := by
  induction i with
  | zero => rfl
  | succ i ih => simp [delayL, ih]
theorem delay_take (s : ByteArray) (n : Nat) (i : Nat) : i ≤ s.size → (List.replicate n (48 : UInt8) ++ bs s).take i = (delayL s n i).map fun x => UInt8.ofNat x.toNat := by
  induction i with
  | zero => intro _; simp [delayL]
  | succ i ih =>
    intro hi
    have hb : (bs s).length = s.size := bs_len s
    have hlt : i < (List.replicate n (48 : UInt8) ++ bs s).length := by rw [List.length_append, List.length_replicate]; omega
    rw [← List.take_append_getElem hlt, ih (by omega), delayL, List.map_append]
    congr 1
    simp only [List.map_cons, List.map_nil, List.cons.injEq, and_true]
    by_cases hc : n ≤ i
    · rw [if_pos hc, List.getElem_append_right (by rw [List.length_replicate]; exact hc)]
      rw [bt_nat s (i - n) (by omega)]
      simp only [List.length_replicate, Int.toNat_natCast, UInt8.ofNat_toNat]
    · rw [if_neg hc, List.getElem_append_left (by rw [List.length_replicate]; omega), List.getElem_replicate]
      rfl
theorem delay_bytes (s : ByteArray) (n : Nat) : ((⟨(Lib.repeatL (⟨#[48]⟩ : ByteArray).data.toList n).toArray⟩ : ByteArray) ++ s).extract 0 s.size = strOfNums (delayL s n s.size) := by
  apply ba_ext
  rw [strOfNums_data, ← delay_take s n s.size (Nat.le_refl _)]
  have h : Lib.repeatL (⟨#[48]⟩ : ByteArray).data.toList n = List.replicate n (48 : UInt8) := by
    have := Lib.repeatL_replicate (48 : UInt8) 1 n
    rw [Nat.mul_one] at this
    exact this
  rw [h]
  simp [bs, List.take_append]

def repS (s : ByteArray) (n : Nat) : ByteArray := ⟨(Lib.repeatL s.data.toList n).toArray⟩
theorem levels_get (bit : Nat → Bool) (n : Nat) : ∀ j, j < n → (levels bit n)[j]? = some (if bit j = true then 49 else 48) := by
  induction n with
  | zero => intro j h; omega
  | succ n ih =>
    intro j h
    rw [levels]
    by_cases hj : j < n
    · rw [List.getElem?_append_left (by rw [levels_length]; exact hj), ih j hj]
    · obtain rfl : j = n := by omega
      rw [List.getElem?_append_right (by rw [levels_length]; exact Nat.le_refl _), levels_length, Nat.sub_self]
      rfl
theorem waveStr_size (bit : Nat → Bool) (n : Nat) : (waveStr bit n).size = n := by
  unfold waveStr
  rw [strOfNums_size, levels_length]
theorem str_bt (l : List Int) (j : Nat) (h : j < l.length) (h0 : 0 ≤ l[j]) (h1 : l[j] ≤ 255) : bt (strOfNums l) (j : Int) = l[j] := by
  have hs : (strOfNums l).size = l.length := strOfNums_size l
  unfold bt
  rw [Int.toNat_natCast, dif_pos (by omega)]
  have e : (strOfNums l)[j]'(by omega) = UInt8.ofNat (l[j]).toNat := by
    show (strOfNums l).data[j]'_ = _
    simp [strOfNums]
  rw [e, UInt8.toNat_ofNat_of_lt' (show (l[j]).toNat < 256 by omega)]
  omega
theorem wave_bt (bit : Nat → Bool) (n j : Nat) (h : j < n) : bt (waveStr bit n) (j : Int) = if bit j = true then 49 else 48 := by
  have hl : j < (levels bit n).length := by rw [levels_length]; exact h
  have e2 := levels_get bit n j h
  rw [List.getElem?_eq_getElem hl] at e2
  have e3 := Option.some.inj e2
  unfold waveStr
  rw [str_bt _ j hl (by rw [e3]; split <;> omega) (by rw [e3]; split <;> omega), e3]
theorem delayL_get (s : ByteArray) (n i : Nat) : ∀ j, j < i → (delayL s n i)[j]? = some (if n ≤ j then bt s ((j - n : Nat) : Int) else 48) := by
  induction i with
  | zero => intro j h; omega
  | succ i ih =>
    intro j h
    rw [delayL]
    by_cases hj : j < i
    · rw [List.getElem?_append_left (by rw [delayL_length]; exact hj), ih j hj]
    · obtain rfl : j = i := by omega
      rw [List.getElem?_append_right (by rw [delayL_length]; exact Nat.le_refl _), delayL_length, Nat.sub_self]
      rfl
theorem delay_bt {s : ByteArray} (hw : waveOk s = true) (n j : Nat) (h : j < s.size) : bt (strOfNums (delayL s n s.size)) (j : Int) = if n ≤ j then bt s ((j - n : Nat) : Int) else 48 := by
  have hl : j < (delayL s n s.size).length := by rw [delayL_length]; exact h
  have e2 := delayL_get s n s.size j h
  rw [List.getElem?_eq_getElem hl] at e2
  have e3 := Option.some.inj e2
  have hb : 0 ≤ (delayL s n s.size)[j] ∧ (delayL s n s.size)[j] ≤ 255 := by
    rw [e3]
    split
    · rcases level_of hw (j - n) (by omega) with e | e <;> rw [e] <;> omega
    · omega
  rw [str_bt _ j hl hb.1 hb.2, e3]
theorem waveOk_wave (bit : Nat → Bool) (n : Nat) (hn : n ≤ 400) : waveOk (waveStr bit n) = true := by
  unfold waveStr
  refine waveOk_str ?_ (by rw [levels_length]; exact hn)
  intro x hx
  obtain ⟨j, hj, rfl⟩ := List.mem_iff_getElem.mp hx
  have hj' : j < n := by rw [levels_length] at hj; exact hj
  have e2 := levels_get bit n j hj'
  rw [List.getElem?_eq_getElem hj] at e2
  rw [Option.some.inj e2]
  unfold isLv; split <;> omega
theorem bt_ext {s t : ByteArray} (h : s.size = t.size) (hb : ∀ j : Nat, j < s.size → bt s (j : Int) = bt t (j : Int)) : s = t := by
  apply ba_ext
  refine List.ext_getElem (by rw [bs_len, bs_len]; exact h) (fun j h1 h2 => ?_)
  rw [bs_len] at h1 h2
  have := hb j h1
  rw [bt_nat s j h1, bt_nat t j h2] at this
  have h3 : ((bs s)[j]'(by rw [bs_len]; exact h1)).toNat = ((bs t)[j]'(by rw [bs_len]; exact h2)).toNat := by omega
  exact UInt8.toNat_inj.mp h3
theorem not_val {s : ByteArray} (hw : waveOk s = true) : impl_NotWave.f s = some (waveStr (notBit s) s.size, true) := by
  have h4 := wave_size hw
  unfold impl_NotWave.f
  simp only [isWave_form (show s.size ≤ 9223372036854775807 by omega), Option.bind_some, hw, if_true, if_pos (show s.size ≤ 1000000 by omega)]
theorem not_not {s : ByteArray} (hw : waveOk s = true) : waveStr (notBit (waveStr (notBit s) s.size)) (waveStr (notBit s) s.size).size = s := by
  refine bt_ext (by rw [waveStr_size, waveStr_size]) (fun j hj => ?_)
  rw [waveStr_size, waveStr_size] at hj
  rw [waveStr_size, wave_bt _ _ j hj, notBit, wave_bt _ _ j hj, notBit]
  rcases level_of hw j hj with e | e <;> rw [e] <;> decide
theorem join_val {op : Int} {s t : ByteArray} (hw : waveOk s = true) (hu : waveOk t = true) (ho : 0 ≤ op ∧ op ≤ 3) (hst : s.size = t.size) : impl_JoinWaves.f op s t = some (waveStr (joinBit op s t) s.size, true) := by
  have h4 := wave_size hw
  have h5 := wave_size hu
  unfold impl_JoinWaves.f
  simp only [isWave_form (show s.size ≤ 9223372036854775807 by omega), isWave_form (show t.size ≤ 9223372036854775807 by omega), Option.bind_some, hw, hu, if_true]
  rw [if_pos ⟨hst, ho⟩, if_pos (by omega)]
theorem delay_val {s : ByteArray} (hw : waveOk s = true) (m : Nat) (hm : m ≤ 400) : impl_DelayWave.f s (m : Int) = some (strOfNums (delayL s m s.size), true) := by
  have h4 := wave_size hw
  have h1 : 0 ≤ (m : Int) ∧ (m : Int) ≤ 400 := by omega
  have hrep : strings_Repeat.f (⟨#[48]⟩ : ByteArray) (m : Int) = some ⟨(Lib.repeatL (⟨#[48]⟩ : ByteArray).data.toList m).toArray⟩ := by
    unfold strings_Repeat.f
    rw [if_pos ⟨h1.1, by omega, by decide⟩, Int.toNat_natCast]
  have hrs : (⟨(Lib.repeatL (⟨#[48]⟩ : ByteArray).data.toList m).toArray⟩ : ByteArray).size = m := by
    rw [show (⟨(Lib.repeatL (⟨#[48]⟩ : ByteArray).data.toList m).toArray⟩ : ByteArray).size = (Lib.repeatL (⟨#[48]⟩ : ByteArray).data.toList m).length by simp [ByteArray.size], Lib.repeatL_length]
    simp
  unfold impl_DelayWave.f
  simp only [isWave_form (show s.size ≤ 9223372036854775807 by omega), impl_isTicks.f, within_form, Option.bind_some, hw, if_true, h1, and_self, decide_true, hrep, hrs]
  rw [if_pos (by omega), if_pos (by omega), if_pos (by rw [ByteArray.size_append, hrs]; omega), Int.toNat_natCast, delay_bytes]
theorem rep_val {s : ByteArray} (hw : waveOk s = true) (h40 : s.size ≤ 200) : impl_RepeatWave.f s 2 = some (s ++ s, true) := by
  have e : wrap64 ((s.size : Int) * 2) = ((s.size * 2 : Nat) : Int) := by rw [w64 (by omega) (by omega)]; omega
  have e2 : repS s 2 = s ++ s := by
    apply ba_ext
    simp [repS, Lib.repeatL]
  unfold impl_RepeatWave.f
  simp only [isWave_form (show s.size ≤ 9223372036854775807 by omega), impl_isTicks.f, within_form, Option.bind_some, hw, if_true, e, show (0 : Int) ≤ 2 ∧ (2 : Int) ≤ 400 by omega, and_self, decide_true, if_neg (show ¬ ((s.size * 2 : Nat) : Int) > 400 by omega)]
  unfold strings_Repeat.f
  rw [if_pos ⟨by omega, by omega, by omega⟩, Option.bind_some, ← e2]
  rfl
theorem joined_loop {s t : ByteArray} (hw : waveOk s = true) (hu : waveOk t = true) (op : Int) (ho : 0 ≤ op ∧ op ≤ 3) (hst : s.size = t.size) (m : Nat) (hm : m < 12) (d : Nat) : ∀ i : Nat, i + d = s.size →
    Ev (fun k => laws_FnJoined.l0 k s (s.size : Int) t op (m : Int) (waveStr (joinBit op s t) s.size) (waveStr (notBit s) s.size) (strOfNums (delayL s m s.size)) (i : Int)) true := by
  have h4 := wave_size hw
  have z1 : (waveStr (joinBit op s t) s.size).size = s.size := waveStr_size _ _
  have z2 : (waveStr (notBit s) s.size).size = s.size := waveStr_size _ _
  have z3 : (strOfNums (delayL s m s.size)).size = s.size := by rw [strOfNums_size, delayL_length]
  induction d with
  | zero =>
    intro i hi
    refine Ev.succ ?_
    simp only [laws_FnJoined.l0, if_neg (show ¬ (i : Int) < (s.size : Int) by omega)]
    exact Ev.now _
  | succ d ih =>
    intro i hi
    refine Ev.succ ?_
    have hlt : i < s.size := by omega
    have e1 : wrap64 ((i : Int) + 1) = ((i + 1 : Nat) : Int) := by rw [w64 (by omega) (by omega)]; omega
    have hnx := ih (i + 1) (by omega)
    have b1 := wave_bt (joinBit op s t) s.size i hlt
    have b2 := wave_bt (notBit s) s.size i hlt
    have b3 := delay_bt hw m i hlt
    have ec : (bt (waveStr (joinBit op s t) s.size) (i : Int) == 49) = joinBit op s t i := by rw [b1]; cases joinBit op s t i <;> rfl
    have ex : (bt (waveStr (notBit s) s.size) (i : Int) == 49) = notBit s i := by rw [b2]; cases notBit s i <;> rfl
    have hop : op = 0 ∨ op = 1 ∨ op = 2 ∨ op = 3 := by omega
    have hlater : (if (i : Int) < (m : Int) then (if bt (strOfNums (delayL s m s.size)) (i : Int) = 48 then True else False) else True) := by
      rw [b3]
      split
      · rw [if_neg (show ¬ m ≤ i by omega), if_pos rfl]; trivial
      · trivial
    rcases level_of hw i hlt with es | es
    · have en : notBit s i = true := by unfold notBit; rw [es]; rfl
      have h49 : ¬ bt s (i : Int) = 49 := by rw [es]; decide
      have hj : joinBit op s t i = rdOf false ([false, (bt t (i : Int) == 49), ((bt s (i : Int) == 49) != (bt t (i : Int) == 49)), false] : List Bool) op := by
        unfold joinBit rdOf
        rcases hop with rfl | rfl | rfl | rfl <;> simp [es]
      simp only [laws_FnJoined.l0, if_pos (show (i : Int) < (s.size : Int) by omega), if_pos (show (0 : Int) ≤ (i : Int) by omega), if_pos (show (i : Int) < (t.size : Int) by omega), if_neg h49, Option.bind_some, if_pos ho.1, List.length_cons, List.length_nil, if_pos (show op < ((0 + 1 + 1 + 1 + 1 : Nat) : Int) by omega), z1, z2, z3, ec, ex, hj, en, bne_self_eq_false, Bool.false_eq_true, if_false, show (bt s (i : Int) == 49) = false by rw [es]; rfl, show (true == false) = false from rfl, e1]
      by_cases hc : m ≤ i
      · have e2 : wrap64 ((i : Int) - (m : Int)) = ((i - m : Nat) : Int) := by rw [w64 (by omega) (by omega)]; omega
        simp only [if_neg (show ¬ (i : Int) < (m : Int) by omega), if_pos (show (i : Int) ≥ (m : Int) by omega), e2, if_pos (show (0 : Int) ≤ ((i - m : Nat) : Int) by omega), if_pos (show ((i - m : Nat) : Int) < (s.size : Int) by omega), b3, if_pos hc, if_true]
        exact hnx
      · simp only [if_pos (show (i : Int) < (m : Int) by omega), if_neg (show ¬ (i : Int) ≥ (m : Int) by omega), b3, if_neg hc, if_true]
        exact hnx
    · have en : notBit s i = false := by unfold notBit; rw [es]; rfl
      have hj : joinBit op s t i = rdOf false ([(bt t (i : Int) == 49), true, ((bt s (i : Int) == 49) != (bt t (i : Int) == 49)), !(bt t (i : Int) == 49)] : List Bool) op := by
        unfold joinBit rdOf
        rcases hop with rfl | rfl | rfl | rfl <;> simp [es]
      simp only [laws_FnJoined.l0, if_pos (show (i : Int) < (s.size : Int) by omega), if_pos (show (0 : Int) ≤ (i : Int) by omega), if_pos (show (i : Int) < (t.size : Int) by omega), if_pos es, Option.bind_some, if_pos ho.1, List.length_cons, List.length_nil, if_pos (show op < ((0 + 1 + 1 + 1 + 1 : Nat) : Int) by omega), z1, z2, z3, ec, ex, hj, en, bne_self_eq_false, Bool.false_eq_true, if_false, show (bt s (i : Int) == 49) = true by rw [es]; rfl, show (false == true) = false from rfl, e1]
      by_cases hc : m ≤ i
      · have e2 : wrap64 ((i : Int) - (m : Int)) = ((i - m : Nat) : Int) := by rw [w64 (by omega) (by omega)]; omega
        simp only [if_neg (show ¬ (i : Int) < (m : Int) by omega), if_pos (show (i : Int) ≥ (m : Int) by omega), e2, if_pos (show (0 : Int) ≤ ((i - m : Nat) : Int) by omega), if_pos (show ((i - m : Nat) : Int) < (s.size : Int) by omega), b3, if_pos hc, if_true]
        exact hnx
      · simp only [if_pos (show (i : Int) < (m : Int) by omega), if_neg (show ¬ (i : Int) ≥ (m : Int) by omega), b3, if_neg hc, if_true]
        exact hnx
theorem FnJoined : laws_FnJoined.Pure := by
  intro q r _ _ hq _ _ hr
  apply Ev.rounds
  unfold laws_FnJoined.f laws_b10Long.f
  by_cases h1 : (q.length : Int) > 1048576
  · simp only [if_pos h1, Option.bind_some, if_true]; exact Ev.now _
  by_cases h2 : (r.length : Int) > 1048576
  · simp only [if_neg h1, h2, decide_true, Option.bind_some, if_true]; exact Ev.now _
  simp only [if_neg h1, h2, decide_false, Option.bind_some, Bool.false_eq_true, if_false]
  obtain ⟨s, hs, hw, h40⟩ := good_ev hq (by omega)
  have h4 := wave_size hw
  obtain ⟨t, ht, hu, hst⟩ := lev_ev hr (by omega) s.size h4
  obtain ⟨op, ho, ho0, ho1⟩ := at10_form r hr 0 4 (by omega) (by omega) (by omega) (by omega)
  obtain ⟨by_, hb, hb0, hb1⟩ := at10_form r hr 1 12 (by omega) (by omega) (by omega) (by omega)
  obtain ⟨m, rfl⟩ := Int.eq_ofNat_of_zero_le hb0
  have hwx : waveOk (waveStr (notBit s) s.size) = true := waveOk_wave _ _ h4
  have hnn := not_not hw
  rw [waveStr_size] at hnn
  refine Ev.bind hs (Ev.bind ht ?_)
  simp only [ho, hb, Option.bind_some, join_val hw hu (show 0 ≤ op ∧ op ≤ 3 by omega) hst.symm, not_val hw, not_val hwx, delay_val hw m (by omega), rep_val hw h40, hnn, if_true, waveStr_size, strOfNums_size, delayL_length]
  simp only [if_pos (show s.size + s.size ≤ 9223372036854775807 by omega)]
  exact joined_loop hw hu op (by omega) hst.symm m (by omega) s.size 0 (by omega)
end Go.Proofs.YtkhkmdddflaolaaDoor.Pure
