/- The law FnRings holds for all drawn counters: the rings have no state in common, each state reaches one of them behind its tail and not sooner, and steps lead where they lead one after another; no condition. -/
import Derived.Test.YtomepieklgplgaaP0
import Derived.Deep.QuietTactic
import Derived.BigQuiet
import Derived.Lib.Hide
import Derived.Shelf.Abstract
import Derived.Test.YtomepieklgplgaaP6
import Derived.Test.YtomepieklgplgaaExtValid
import Derived.Test.YtomepieklgplgaaBase
import Derived.Test.YtomepieklgplgaaStates
import Derived.Test.YtomepieklgplgaaP1
import Derived.Test.YtomepieklgplgaaForms
import Derived.Test.YtomepieklgplgaaP16
import Derived.Test.YtomepieklgplgaaP2
import Derived.Test.YtomepieklgplgaaExtRep
import Derived.Test.YtomepieklgplgaaP3
import Derived.Laws.CopyOwn
import Derived.Deep.RegionLaw
import Derived.Test.YtomepieklgplgaaExtGrow
import Derived.Test.YtomepieklgplgaaP4
import Derived.Test.YtomepieklgplgaaP7
import Derived.Test.YtomepieklgplgaaP5
import Derived.Test.YtomepieklgplgaaP8
/- The counter that a function value tells, state after state: the program's counterBy, for every function value that only reads. -/
namespace Go.Proofs.Ytomepieklgplgaa.P
open Go.RowKit Go.Proofs.YtomepieklgplgaaW.PrintWords Go.Proofs.YtomepieklgplgaaW.PrintLast Go.Proofs.YtomepieklgplgaaW.PrintMore
set_option linter.unusedVariables false
set_option linter.unusedSimpArgs false

def mapN (f : Int → Int) : Nat → List Int
  | 0 => []
  | i + 1 => mapN f i ++ [f (i : Int)]
theorem mapN_length (f : Int → Int) (n : Nat) : (mapN f n).length = n := by
  induction n with
  | zero => rfl
  | succ n ih => simp [mapN, ih]

end Go.Proofs.Ytomepieklgplgaa.P

/- What the program's BinaryCounter answers, for all arguments: the contract of the Go function; no condition. -/
namespace Go.Proofs.Ytomepieklgplgaa.P
open Go.RowKit Go.Proofs.YtomepieklgplgaaW.PrintWords Go.Proofs.YtomepieklgplgaaW.PrintLast Go.Proofs.YtomepieklgplgaaW.PrintMore
set_option linter.unusedVariables false
set_option linter.unusedSimpArgs false

def binOk (n m : Int) : Prop := (1 ≤ n ∧ n ≤ 8) ∧ 1 ≤ m ∧ m ≤ 2 ^ n.toNat
instance (n m : Int) : Decidable (binOk n m) := by unfold binOk; infer_instance
def binF (m x : Int) : Int := if x + 1 < m then x + 1 else 0
def impl_BinaryCounter.f (a0 : Int) (a1 : Int) : Option (Int × List Int × Bool) :=
  if binOk a0 a1 then some (a0, mapN (binF a1) (2 ^ a0.toNat), true) else some (0, [], false)

end Go.Proofs.Ytomepieklgplgaa.P

/- Lists told place by place; no condition. -/
namespace Go.Proofs.Ytomepieklgplgaa.P
open Go.RowKit Go.Proofs.YtomepieklgplgaaW.PrintWords Go.Proofs.YtomepieklgplgaaW.PrintLast Go.Proofs.YtomepieklgplgaaW.PrintMore

theorem mapN_get (f : Int → Int) (n : Nat) : ∀ j, j < n → (mapN f n)[j]? = some (f (j : Int)) := by
  induction n with
  | zero => intro j h; omega
  | succ n ih =>
    intro j h
    rw [mapN]
    by_cases hj : j < n
    · rw [List.getElem?_append_left (by rw [mapN_length]; exact hj), ih j hj]
    · obtain rfl : j = n := by omega
      rw [List.getElem?_append_right (by rw [mapN_length]; exact Nat.le_refl _), mapN_length, Nat.sub_self]
      rfl
theorem mapN_eq {f : Int → Int} {n : Nat} {l : List Int} (hl : l.length = n) (h : ∀ j, j < n → l[j]? = some (f (j : Int))) : l = mapN f n := by
  apply List.ext_getElem?
  intro j
  by_cases hj : j < n
  · rw [h j hj, mapN_get f n j hj]
  · rw [List.getElem?_eq_none (by omega), List.getElem?_eq_none (by rw [mapN_length]; omega)]
theorem getElem?_set' (l : List Int) (i : Nat) (v : Int) (j : Nat) (hi : i < l.length) : (l.set i v)[j]? = if j = i then some v else l[j]? := by
  by_cases h : j = i
  · rw [if_pos h, h, List.getElem?_set_self hi]
  · rw [if_neg h, List.getElem?_set_ne (Ne.symm h)]
end Go.Proofs.Ytomepieklgplgaa.P

/- A counter that is whole; the states that it runs through; no condition beyond lists of at most 1048576 numbers. -/
namespace Go.Proofs.Ytomepieklgplgaa.P
open Go.RowKit Go.Proofs.YtomepieklgplgaaW.PrintWords Go.Proofs.YtomepieklgplgaaW.PrintLast Go.Proofs.YtomepieklgplgaaW.PrintMore

/-- A counter of n bits, whole. -/
def okC (n : Int) (l : List Int) : Prop := (1 ≤ n ∧ n ≤ 8) ∧ (l.length : Int) = 2 ^ n.toNat ∧ ∀ x ∈ l, isSt n x
instance (n : Int) (l : List Int) : Decidable (okC n l) := by unfold okC; infer_instance
/-- The state after i steps. -/
def outX (l : List Int) (x : Int) : Nat → Int
  | 0 => x
  | i + 1 => rd l (outX l x i)
theorem okC_form (n : Int) (l : List Int) : impl_ValidCounter.f n l = some (decide (okC n l)) := by
  unfold impl_ValidCounter.f
  by_cases h1 : 1 ≤ n ∧ n ≤ 8
  · by_cases h2 : (l.length : Int) = 2 ^ n.toNat
    · have h3 : l.length = 2 ^ n.toNat := by exact_mod_cast h2
      rw [if_pos ⟨h1.1, h1.2, h3⟩]
      congr 1
      rw [Bool.eq_iff_iff, decide_eq_true_eq]
      simp only [Bool.not_eq_true', List.any_eq_false]
      exact ⟨fun h => ⟨h1, h2, fun x hx => by simpa [isStB] using h x hx⟩, fun h x hx => by simpa [isStB] using h.2.2 x hx⟩
    · have h3 : ¬ l.length = 2 ^ n.toNat := fun z => h2 (by exact_mod_cast z)
      rw [if_neg (fun z => h3 z.2.2), decide_eq_false (fun z => h2 z.2.1)]
  · rw [if_neg (fun z => h1 ⟨z.1, z.2.1⟩), decide_eq_false (fun z => h1 z.1)]
theorem isState_form (n : Int) (l : List Int) (x : Int) : impl_Counter_isState.f n l x = some (decide (okC n l ∧ isSt n x)) := by
  unfold impl_Counter_isState.f
  simp only [okC_form, Option.bind_some, isStateOf_form]
  by_cases h : okC n l
  · simp [h]
  · simp [h]
theorem outX_st {n : Int} {l : List Int} {x : Int} (hok : okC n l) (hx : isSt n x) (i : Nat) : isSt n (outX l x i) := by
  induction i with
  | zero => exact hx
  | succ i ih =>
    obtain ⟨h1, h2, h3⟩ := hok
    obtain ⟨y, hy⟩ : ∃ y : Nat, outX l x i = (y : Int) := Int.eq_ofNat_of_zero_le ih.2.1
    have hlt : y < l.length := by have := ih.2.2; omega
    rw [outX, hy, rd_at l y hlt]
    exact h3 _ (List.getElem_mem hlt)

end Go.Proofs.Ytomepieklgplgaa.P

/- The program's BinaryCounter returns what the reference's returns, for all arguments; no condition. -/
namespace Go.Proofs.Ytomepieklgplgaa.Pure
open Go.RowKit Go.Proofs.YtomepieklgplgaaW.PrintWords Go.Proofs.YtomepieklgplgaaW.PrintLast Go.Proofs.YtomepieklgplgaaW.PrintMore
open Go.Proofs.Ytomepieklgplgaa.P

theorem bin_loop (n : Int) (M N : Nat) (hM : M ≤ N) (hN : N ≤ 256) (d : Nat) : ∀ (i : Nat) (L : List Int), i + 1 + d = M → L.length = N → (∀ j, j < N → L[j]? = some (if j < i then (j : Int) + 1 else 0)) →
    Ev (fun k => spec_BinaryCounter.l0 k (M : Int) (i : Int) n L) (n, mapN (binF (M : Int)) N, true) := by
  induction d with
  | zero =>
    intro i L hi hL hg
    refine Ev.succ ?_
    have e1 : wrap64 ((i : Int) + 1) = (i : Int) + 1 := w64 (by omega) (by omega)
    simp only [spec_BinaryCounter.l0, e1, if_neg (show ¬ (i : Int) + 1 < (M : Int) by omega)]
    rw [mapN_eq (f := binF (M : Int)) hL (fun j hj => by
      rw [hg j hj, binF]
      congr 1
      by_cases h : j < i
      · rw [if_pos h, if_pos (by omega)]
      · rw [if_neg h, if_neg (by omega)])]
    exact Ev.now _
  | succ d ih =>
    intro i L hi hL hg
    refine Ev.succ ?_
    have e1 : wrap64 ((i : Int) + 1) = ((i + 1 : Nat) : Int) := by rw [w64 (by omega) (by omega)]; omega
    simp only [spec_BinaryCounter.l0, e1, if_pos (show ((i + 1 : Nat) : Int) < (M : Int) by omega), if_pos (show (0 : Int) ≤ (i : Int) by omega), if_pos (show (i : Int) < (L.length : Int) by omega), Int.toNat_natCast]
    refine ih (i + 1) _ (by omega) (by rw [List.length_set]; exact hL) (fun j hj => ?_)
    rw [getElem?_set' L i _ j (by omega)]
    by_cases h : j = i
    · rw [if_pos h, if_pos (by omega), h]; congr 1
    · rw [if_neg h, hg j hj]
      by_cases h2 : j < i
      · rw [if_pos h2, if_pos (by omega)]
      · rw [if_neg h2, if_neg (by omega)]
theorem binary_both (n m : Int) : ∃ b l q, l.length ≤ 256 ∧ Ev (fun k => spec_BinaryCounter.f k n m) (b, l, q) ∧ impl_BinaryCounter.f n m = some (b, l, q) := by
  unfold spec_BinaryCounter.f impl_BinaryCounter.f spec_l02Bits.f
  simp only [in_form, Option.bind_some]
  by_cases h1 : 1 ≤ n ∧ n ≤ 8
  · have hp := pow_256 h1
    obtain ⟨N, hN⟩ : ∃ N : Nat, N = 2 ^ n.toNat := ⟨_, rfl⟩
    have hNI : (2 : Int) ^ n.toNat = (N : Int) := by rw [hN]; exact_mod_cast rfl
    have hN8 : N ≤ 256 := by omega
    simp only [h1, and_self, decide_true, if_true, size_form (show 0 ≤ n ∧ n ≤ 62 by omega), Option.bind_some]
    by_cases h2 : 1 ≤ m ∧ m ≤ 2 ^ n.toNat
    · obtain ⟨M, rfl⟩ := Int.eq_ofNat_of_zero_le (show 0 ≤ m by omega)
      have hM : M ≤ N := by omega
      refine ⟨n, mapN (binF (M : Int)) N, true, by rw [mapN_length]; exact hN8, ?_, by rw [if_pos ⟨h1, h2⟩, ← hN]⟩
      simp only [h2, and_self, decide_true, Bool.not_true]
      refine Ev.succ ?_
      simp only [spec_BinaryCounter.j0, Bool.false_eq_true, if_false, size_form (show 0 ≤ n ∧ n ≤ 62 by omega), Option.bind_some, hNI, Int.toNat_natCast, if_pos (show (0 : Int) ≤ (N : Int) by omega), if_pos (show N ≤ 35184372088832 by omega)]
      exact bin_loop n M N hM hN8 (M - 1) 0 _ (by omega) (by simp) (fun j hj => by simp [hj])
    · refine ⟨0, [], false, by simp, ?_, by rw [if_neg (fun z => h2 z.2)]⟩
      simp only [h2, decide_false, Bool.not_false]
      refine Ev.succ ?_
      simp only [spec_BinaryCounter.j0, if_true]
      exact Ev.now _
  · refine ⟨0, [], false, by simp, ?_, by rw [if_neg (fun z => h1 z.1)]⟩
    simp only [h1, decide_false, Bool.false_eq_true, if_false]
    refine Ev.succ ?_
    simp only [spec_BinaryCounter.j0, if_true]
    exact Ev.now _
end Go.Proofs.Ytomepieklgplgaa.Pure

/- The program's MostChanged returns what the reference's returns, for all arguments; no condition. -/
namespace Go.Proofs.Ytomepieklgplgaa.Pure
open Go.RowKit Go.Proofs.YtomepieklgplgaaW.PrintWords Go.Proofs.YtomepieklgplgaaW.PrintLast Go.Proofs.YtomepieklgplgaaW.PrintMore
open Go.Proofs.Ytomepieklgplgaa.P

theorem ones_all : ∀ v : Fin 256, spec_l02Ones.l0 9 (v.val : Int) 0 = bits_OnesCount64.f (IntKind.u64.wrap (v.val : Int)) := by decide +kernel
theorem ones_ev (v : Nat) (h : v < 256) : ∃ p, Ev (fun k => spec_l02Ones.f k (v : Int)) p ∧ bits_OnesCount64.f (IntKind.u64.wrap (v : Int)) = some p := by
  have e := ones_all ⟨v, h⟩
  obtain ⟨p, hp⟩ : ∃ p, bits_OnesCount64.f (IntKind.u64.wrap (v : Int)) = some p := ⟨_, rfl⟩
  exact ⟨p, Ev.of (fun k => spec_l02Ones.mono (v : Int) k) (k := 9) (e.trans hp), hp⟩
end Go.Proofs.Ytomepieklgplgaa.Pure

/- The reference's drawn counters are whole: spec.R8Counter, for every text of bytes of at most 48 bytes. -/
namespace Go.Proofs.Ytomepieklgplgaa.P
open Go.RowKit Go.Proofs.YtomepieklgplgaaW.PrintWords Go.Proofs.YtomepieklgplgaaW.PrintLast Go.Proofs.YtomepieklgplgaaW.PrintMore
set_option linter.unusedVariables false

theorem pow_cast (b : Nat) : (2 : Int) ^ b = ((2 ^ b : Nat) : Int) := (Int.natCast_pow 2 b).symm
theorem bytes_rd {l : List Int} (hl : ∀ x ∈ l, (Lit.int .u8 x).wf = true) (i : Nat) (h : i < l.length) : 0 ≤ rd l (i : Int) ∧ rd l (i : Int) ≤ 255 := by
  rw [rd_at l i h]
  have := Go.bounds_u8 (hl _ (List.getElem_mem h))
  omega
theorem low8 (z : Int) : ∃ v, wrap64 (Go.bits .and .u64 ((IntKind.u64.wrap z) / 1099511627776) 255) = v ∧ 0 ≤ v ∧ v ≤ 255 := by
  have h0 := wu64_nonneg z
  have h1 : IntKind.u64.wrap z < 18446744073709551616 := by simp [IntKind.wrap, IntKind.bits, IntKind.signed]; omega
  obtain ⟨a, ha⟩ := Int.eq_ofNat_of_zero_le h0
  rw [ha] at h1 ⊢
  have e : (a : Int) / 1099511627776 = ((a / 1099511627776 : Nat) : Int) := by omega
  have h2 : a / 1099511627776 < 18446744073709551616 := by omega
  have h3 := and_u64 (a / 1099511627776) 255 h2 (by decide)
  have h4 : (a / 1099511627776) &&& 255 ≤ 255 := Nat.and_le_right
  rw [e, show (255 : Int) = ((255 : Nat) : Int) from rfl, h3, w64 (by omega) (by omega)]
  exact ⟨_, rfl, by omega, by omega⟩
theorem next_ok {l : List Int} (hl : ∀ x ∈ l, (Lit.int .u8 x).wf = true) (hn : l.length ≤ 1000000) (p : Nat) (hp : p ≤ 1000000) (s : Int) : ∃ v s', spec_l00Src_next.f l (p : Int) s = some (v, ((p + 1 : Nat) : Int), s') ∧ 0 ≤ v ∧ v ≤ 255 := by
  have e1 : wrap64 ((p : Int) + 1) = ((p + 1 : Nat) : Int) := by rw [w64 (by omega) (by omega)]; omega
  unfold spec_l00Src_next.f
  rw [e1]
  by_cases h : p < l.length
  · have hb := bytes_rd hl p h
    rw [if_pos (show (p : Int) < (l.length : Int) by omega), if_pos (show (0 : Int) ≤ (p : Int) by omega), if_pos (show ((p + 1 : Nat) : Int) ≤ (l.length : Int) by omega)]
    exact ⟨_, _, rfl, by rw [w64 (by omega) (by omega)]; omega, by rw [w64 (by omega) (by omega)]; omega⟩
  · obtain ⟨v, hv, h0, h1⟩ := low8 ((IntKind.u64.wrap (IntKind.u64.wrap (s * 6364136223846793005))) + 1442695040888963407)
    rw [if_neg (show ¬ (p : Int) < (l.length : Int) by omega), if_neg (show ¬ ((p + 1 : Nat) : Int) ≤ (l.length : Int) by omega), hv]
    exact ⟨_, _, rfl, h0, h1⟩
theorem pick_ok {l : List Int} (hl : ∀ x ∈ l, (Lit.int .u8 x).wf = true) (hn : l.length ≤ 1000000) (p : Nat) (hp : p ≤ 999999) (s : Int) (a : Int) (h1 : 1 ≤ a) (h2 : a ≤ 200) : ∃ v s' p', spec_l00Src_pick.f l (p : Int) s a = some (v, ((p' : Nat) : Int), s') ∧ 0 ≤ v ∧ v < a ∧ p' ≤ p + 1 := by
  unfold spec_l00Src_pick.f
  by_cases h : a ≤ 1
  · rw [if_pos h]
    exact ⟨0, s, p, rfl, by omega, by omega, by omega⟩
  · obtain ⟨v, s', e, h3, h4⟩ := next_ok hl hn p (by omega) s
    rw [if_neg h, e]
    simp only [Option.bind_some]
    rw [if_neg (show ¬ a > 200 by omega), if_neg (show ¬ a = 0 by omega)]
    exact ⟨_, _, p + 1, rfl, Int.tmod_nonneg a h3, Int.tmod_lt_of_pos v (by omega), Nat.le_refl _⟩
theorem shift_in : ∀ (b : Fin 4) (x : Fin 16), Go.bits .and .i64 (shr .i64 (x.val : Int) (IntKind.u64.wrap (wrap64 ((b.val + 1 : Nat) - 1)))) 1 = 0 ∨ Go.bits .and .i64 (shr .i64 (x.val : Int) (IntKind.u64.wrap (wrap64 ((b.val + 1 : Nat) - 1)))) 1 = 1 := by decide +kernel
theorem shift_new : ∀ (b : Fin 4) (x : Fin 16) (i : Fin 2), 0 ≤ Go.bits .or .i64 (Go.bits .and .i64 (wrap64 ((x.val : Int) * 2)) (wrap64 (2 ^ (b.val + 1) - 1))) (i.val : Int) ∧ Go.bits .or .i64 (Go.bits .and .i64 (wrap64 ((x.val : Int) * 2)) (wrap64 (2 ^ (b.val + 1) - 1))) (i.val : Int) < 2 ^ (b.val + 1) := by decide +kernel
theorem ones_tab : ∀ v : Fin 256, (bits_OnesCount64.f (IntKind.u64.wrap (v.val : Int))).all (fun p => decide (0 ≤ p)) = true := by decide +kernel
theorem okC_mk {n : Int} (h1 : 1 ≤ n ∧ n ≤ 8) {l : List Int} {N : Nat} (hN : (N : Int) = 2 ^ n.toNat) (hl : l.length = N) (h : ∀ x ∈ l, 0 ≤ x ∧ x < (N : Int)) : okC n l :=
  ⟨h1, by rw [hl, hN], fun x hx => ⟨h1, (h x hx).1, by rw [← hN]; exact (h x hx).2⟩⟩
theorem shift_loop (b : Nat) (hb1 : 1 ≤ b) (hb4 : b ≤ 4) (kind taps : Nat) (hk : kind ≤ 2) (ht : taps < 16) (d : Nat) : ∀ (i : Nat) (acc : List Int), i + d = 2 ^ b → acc.length = i → (∀ x ∈ acc, 0 ≤ x ∧ x < ((2 ^ b : Nat) : Int)) →
    ∃ l, Ev (fun k => spec_l02Shift.l0 k (b : Int) (kind : Int) (taps : Int) (i : Int) (b : Int) acc) ((b : Int), l) ∧ l.length = 2 ^ b ∧ ∀ x ∈ l, 0 ≤ x ∧ x < ((2 ^ b : Nat) : Int) := by
  have hN : (2 : Nat) ^ b ≤ 2 ^ 4 := Nat.pow_le_pow_right (by decide) hb4
  have hsz : spec_l02Size.f (b : Int) = some ((2 ^ b : Nat) : Int) := by rw [size_form (by omega), Int.toNat_natCast, pow_cast]
  induction d with
  | zero =>
    intro i acc hi ha hx
    refine ⟨acc, Ev.succ ?_, by omega, hx⟩
    simp only [spec_l02Shift.l0, hsz, Option.bind_some, if_neg (show ¬ (i : Int) < ((2 ^ b : Nat) : Int) by omega)]
    exact Ev.now _
  | succ d ih =>
    intro i acc hi ha hx
    have hi16 : i < 16 := by omega
    have e1 : wrap64 ((i : Int) + 1) = ((i + 1 : Nat) : Int) := by rw [w64 (by omega) (by omega)]; omega
    have hu := wu64_nonneg (wrap64 ((b : Int) - 1))
    have hin := shift_in ⟨b - 1, by omega⟩ ⟨i, hi16⟩
    rw [show ((⟨b - 1, by omega⟩ : Fin 4).val + 1 : Nat) = b by show b - 1 + 1 = b; omega] at hin
    have hnew : ∀ c : Int, (c = 0 ∨ c = 1) → 0 ≤ Go.bits .or .i64 (Go.bits .and .i64 (wrap64 ((i : Int) * 2)) (wrap64 (((2 ^ b : Nat) : Int) - 1))) c ∧ Go.bits .or .i64 (Go.bits .and .i64 (wrap64 ((i : Int) * 2)) (wrap64 (((2 ^ b : Nat) : Int) - 1))) c < ((2 ^ b : Nat) : Int) := by
      intro c hc
      have h0 := shift_new ⟨b - 1, by omega⟩ ⟨i, hi16⟩ 0
      have h1 := shift_new ⟨b - 1, by omega⟩ ⟨i, hi16⟩ 1
      have eb : ((⟨b - 1, by omega⟩ : Fin 4).val + 1 : Nat) = b := by show b - 1 + 1 = b; omega
      rw [eb] at h0 h1
      have ep : ((2 : Int) ^ b) = ((2 ^ b : Nat) : Int) := pow_cast b
      rw [ep] at h0 h1
      rcases hc with rfl | rfl
      · exact h0
      · exact h1
    have hstep : ∀ c : Int, (c = 0 ∨ c = 1) → ∃ l, Ev (fun k => spec_l02Shift.l0 k (b : Int) (kind : Int) (taps : Int) ((i + 1 : Nat) : Int) (b : Int) (acc ++ [Go.bits .or .i64 (Go.bits .and .i64 (wrap64 ((i : Int) * 2)) (wrap64 (((2 ^ b : Nat) : Int) - 1))) c])) ((b : Int), l) ∧ l.length = 2 ^ b ∧ ∀ x ∈ l, 0 ≤ x ∧ x < ((2 ^ b : Nat) : Int) := by
      intro c hc
      refine ih (i + 1) _ (by omega) (by rw [List.length_append, ha]; rfl) (fun x hxm => ?_)
      rcases List.mem_append.mp hxm with h | h
      · exact hx x h
      · rw [List.mem_singleton.mp h]; exact hnew c hc
    have hj : ∀ c : Int, (c = 0 ∨ c = 1) → ∃ l, Ev (fun k => spec_l02Shift.j1 k (b : Int) (kind : Int) (taps : Int) (i : Int) c (b : Int) acc) ((b : Int), l) ∧ l.length = 2 ^ b ∧ ∀ x ∈ l, 0 ≤ x ∧ x < ((2 ^ b : Nat) : Int) := by
      intro c hc
      by_cases h2 : kind = 2
      · have hand := and_i64 i taps (by omega) (by omega)
        have hlt : i &&& taps < 256 := Nat.lt_of_le_of_lt Nat.and_le_left (by omega)
        obtain ⟨p, hp1, hp2⟩ := Pure.ones_ev (i &&& taps) hlt
        have hp0 : 0 ≤ p := by
          have := ones_tab ⟨i &&& taps, hlt⟩
          simp only [hp2, Option.all_some, decide_eq_true_eq] at this
          exact this
        have hm : Int.tmod p 2 = 0 ∨ Int.tmod p 2 = 1 := by
          have q1 := Int.tmod_nonneg 2 hp0
          have q2 := Int.tmod_lt_of_pos p (show (0 : Int) < 2 by decide)
          omega
        obtain ⟨l, hl, hr⟩ := hstep _ hm
        refine ⟨l, Ev.succ ?_, hr⟩
        simp only [spec_l02Shift.j1, h2, hand]
        rw [h2] at hl
        simp only [if_pos (show ((2 : Nat) : Int) = 2 from rfl)]
        refine Ev.bind hp1 ?_
        simp only [hsz, Option.bind_some, e1, if_pos (show acc.length < 17592186044416 by omega)]
        exact hl
      · obtain ⟨l, hl, hr⟩ := hstep c hc
        refine ⟨l, Ev.succ ?_, hr⟩
        simp only [spec_l02Shift.j1, if_neg (show ¬ (kind : Int) = 2 by omega), hsz, Option.bind_some, e1, if_pos (show acc.length < 17592186044416 by omega)]
        exact hl
    obtain ⟨c, hc, hce⟩ : ∃ c : Int, (c = 0 ∨ c = 1) ∧ c = Go.bits .and .i64 (shr .i64 (i : Int) (IntKind.u64.wrap (wrap64 ((b : Int) - 1)))) 1 := ⟨_, hin, rfl⟩
    by_cases hk1 : kind = 1
    · have e2 : wrap64 (1 - c) = 1 - c := w64 (by omega) (by omega)
      obtain ⟨l, hl, hr⟩ := hj (1 - c) (by omega)
      refine ⟨l, Ev.succ ?_, hr⟩
      simp only [spec_l02Shift.l0, hsz, Option.bind_some, if_pos (show (i : Int) < ((2 ^ b : Nat) : Int) by omega), if_pos hu, if_pos (show (kind : Int) = 1 by omega), ← hce, e2]
      exact hl
    · obtain ⟨l, hl, hr⟩ := hj c hc
      refine ⟨l, Ev.succ ?_, hr⟩
      simp only [spec_l02Shift.l0, hsz, Option.bind_some, if_pos (show (i : Int) < ((2 ^ b : Nat) : Int) by omega), if_pos hu, if_neg (show ¬ (kind : Int) = 1 by omega), ← hce]
      exact hl
theorem shift_ok (b : Nat) (hb1 : 1 ≤ b) (hb4 : b ≤ 4) (kind taps : Nat) (hk : kind ≤ 2) (ht : taps < 16) : ∃ l, Ev (fun k => spec_l02Shift.f k (b : Int) (kind : Int) (taps : Int)) ((b : Int), l) ∧ okC (b : Int) l := by
  obtain ⟨l, h1, h2, h3⟩ := shift_loop b hb1 hb4 kind taps hk ht (2 ^ b) 0 [] (by omega) rfl (fun x h => by cases h)
  exact ⟨l, h1, okC_mk (by omega) (by rw [Int.toNat_natCast, pow_cast]) h2 h3⟩
theorem draw_loop {q : List Int} (hq : ∀ x ∈ q, (Lit.int .u8 x).wf = true) (hn : q.length ≤ 1000000) (b : Nat) (hb1 : 1 ≤ b) (hb4 : b ≤ 4) (d : Nat) : ∀ (i p : Nat) (s : Int) (acc : List Int), i + d = 2 ^ b → p ≤ 100 + i → acc.length = i → (∀ x ∈ acc, 0 ≤ x ∧ x < ((2 ^ b : Nat) : Int)) →
    ∃ l p' s', Ev (fun k => spec_l02DrawOk.l0 k (b : Int) (i : Int) q (p : Int) s (b : Int) acc) ((b : Int), l, p', s') ∧ l.length = 2 ^ b ∧ ∀ x ∈ l, 0 ≤ x ∧ x < ((2 ^ b : Nat) : Int) := by
  have hN : (2 : Nat) ^ b ≤ 2 ^ 4 := Nat.pow_le_pow_right (by decide) hb4
  have hN1 : 1 ≤ (2 : Nat) ^ b := Nat.one_le_two_pow
  have hsz : spec_l02Size.f (b : Int) = some ((2 ^ b : Nat) : Int) := by rw [size_form (by omega), Int.toNat_natCast, pow_cast]
  induction d with
  | zero =>
    intro i p s acc hi hp ha hx
    refine ⟨acc, (p : Int), s, Ev.succ ?_, by omega, hx⟩
    simp only [spec_l02DrawOk.l0, hsz, Option.bind_some, if_neg (show ¬ (i : Int) < ((2 ^ b : Nat) : Int) by omega)]
    exact Ev.now _
  | succ d ih =>
    intro i p s acc hi hp ha hx
    have e1 : wrap64 ((i : Int) + 1) = ((i + 1 : Nat) : Int) := by rw [w64 (by omega) (by omega)]; omega
    obtain ⟨v, s', p', e, h0, h1, h2⟩ := pick_ok hq hn p (by omega) s ((2 ^ b : Nat) : Int) (by omega) (by omega)
    obtain ⟨l, p2, s2, hl, hr⟩ := ih (i + 1) p' s' (acc ++ [v]) (by omega) (by omega) (by rw [List.length_append, ha]; rfl) (fun x hxm => by
      rcases List.mem_append.mp hxm with h | h
      · exact hx x h
      · rw [List.mem_singleton.mp h]; exact ⟨h0, h1⟩)
    refine ⟨l, p2, s2, Ev.succ ?_, hr⟩
    simp only [spec_l02DrawOk.l0, hsz, Option.bind_some, if_pos (show (i : Int) < ((2 ^ b : Nat) : Int) by omega), e, if_pos (show acc.length < 17592186044416 by omega), e1]
    exact hl
theorem binF_ok (M N : Nat) (hM : M ≤ N) (hN : 1 ≤ N) (j : Nat) (hj : j < N) : 0 ≤ binF (M : Int) (j : Int) ∧ binF (M : Int) (j : Int) < (N : Int) := by
  unfold binF; split <;> omega
theorem r8_ok {q : List Int} (hq : ∀ x ∈ q, (Lit.int .u8 x).wf = true) (hn : q.length ≤ 48) : ∃ n l, Ev (fun k => spec_R8Counter.f k q) (n, l) ∧ okC n l := by
  have hn' : q.length ≤ 1000000 := by omega
  obtain ⟨v1, s1, p1, e1, a1, b1, c1⟩ := pick_ok hq hn' 0 (by omega) 0 4 (by omega) (by omega)
  obtain ⟨v2, s2, p2, e2, a2, b2, c2⟩ := pick_ok hq hn' p1 (by omega) s1 6 (by omega) (by omega)
  obtain ⟨b, hb, hb1, hb4⟩ : ∃ b : Nat, wrap64 (1 + v1) = (b : Int) ∧ 1 ≤ b ∧ b ≤ 4 := ⟨(1 + v1).toNat, by rw [w64 (by omega) (by omega)]; omega, by omega, by omega⟩
  have hN : (2 : Nat) ^ b ≤ 2 ^ 4 := Nat.pow_le_pow_right (by decide) hb4
  have hN2 : (2 : Nat) ^ 1 ≤ 2 ^ b := Nat.pow_le_pow_right (by decide) hb1
  have hp2 : (2 : Int) ^ b = ((2 ^ b : Nat) : Int) := pow_cast b
  have hsz : spec_l02Size.f (b : Int) = some ((2 ^ b : Nat) : Int) := by rw [size_form (by omega), Int.toNat_natCast, hp2]
  have hgo : ∀ (p : Nat) (s : Int), p ≤ 100 → ∃ l p' s', Ev (fun k => spec_l02DrawOk.j0 k (b : Int) q (p : Int) s) ((b : Int), l, p', s') ∧ okC (b : Int) l := by
    intro p s hp
    obtain ⟨l, p', s', h1, h2, h3⟩ := draw_loop hq hn' b hb1 hb4 (2 ^ b) 0 p s [] (by omega) (by omega) rfl (fun x h => by cases h)
    refine ⟨l, p', s', Ev.succ ?_, okC_mk (by omega) (by rw [Int.toNat_natCast, hp2]) h2 h3⟩
    simp only [spec_l02DrawOk.j0]
    exact h1
  suffices hS : ∃ l p' s', Ev (fun k => spec_l02DrawOk.f k q 0 0) ((b : Int), l, p', s') ∧ okC (b : Int) l by
    obtain ⟨l, p', s', h1, h2⟩ := hS
    refine ⟨(b : Int), l, ?_, h2⟩
    unfold spec_R8Counter.f spec_l00From.f
    simp only [Option.bind_some]
    exact Ev.bind h1 (Ev.now _)
  unfold spec_l02DrawOk.f
  rw [show ((0 : Nat) : Int) = 0 from rfl] at e1
  simp only [e1, Option.bind_some, e2, hb, hsz]
  by_cases h0 : v2 = 0
  · obtain ⟨v3, s3, p3, e3, a3, b3, c3⟩ := pick_ok hq hn' p2 (by omega) s2 ((2 ^ b : Nat) : Int) (by omega) (by omega)
    simp only [if_pos h0, e3, Option.bind_some]
    obtain ⟨m, hm, hm1, hm2⟩ : ∃ m : Nat, wrap64 (1 + v3) = (m : Int) ∧ 1 ≤ m ∧ m ≤ 2 ^ b := ⟨(1 + v3).toNat, by rw [w64 (by omega) (by omega)]; omega, by omega, by omega⟩
    obtain ⟨x, y, z, _, hs, hi⟩ := Pure.binary_both (b : Int) (m : Int)
    unfold impl_BinaryCounter.f at hi
    have hbo : binOk (b : Int) (m : Int) := by unfold binOk; rw [Int.toNat_natCast, hp2]; omega
    rw [if_pos hbo, Int.toNat_natCast] at hi
    cases hi
    refine ⟨mapN (binF (m : Int)) (2 ^ b), ((p3 : Nat) : Int), s3, Ev.bind (by rw [hm]; exact hs) ?_, ?_⟩
    · simp only [if_true]
      exact Ev.now _
    · refine okC_mk (N := 2 ^ b) (by omega) (by rw [Int.toNat_natCast, hp2]) (mapN_length _ _) (fun x hx => ?_)
      obtain ⟨j, hj, e⟩ := List.mem_iff_getElem.mp hx
      rw [mapN_length] at hj
      have e' := mapN_get (binF (m : Int)) (2 ^ b) j hj
      rw [List.getElem?_eq_getElem (by rw [mapN_length]; exact hj), e] at e'
      rw [Option.some.inj e']
      exact binF_ok m (2 ^ b) hm2 (by omega) j hj
  · simp only [if_neg h0]
    by_cases h1 : v2 = 1
    · obtain ⟨v3, s3, p3, e3, a3, b3, c3⟩ := pick_ok hq hn' p2 (by omega) s2 2 (by omega) (by omega)
      simp only [if_pos h1, e3, Option.bind_some]
      obtain ⟨kd, rfl⟩ := Int.eq_ofNat_of_zero_le a3
      obtain ⟨l, hl, hok⟩ := shift_ok b hb1 hb4 kd 0 (by omega) (by omega)
      exact ⟨l, ((p3 : Nat) : Int), s3, Ev.bind hl (Ev.now _), hok⟩
    · simp only [if_neg h1]
      by_cases h2 : v2 = 2
      · have ew : wrap64 (((2 ^ b : Nat) : Int) - 1) = ((2 ^ b : Nat) : Int) - 1 := w64 (by omega) (by omega)
        obtain ⟨v3, s3, p3, e3, a3, b3, c3⟩ := pick_ok hq hn' p2 (by omega) s2 (((2 ^ b : Nat) : Int) - 1) (by omega) (by omega)
        simp only [if_pos h2, ew, e3, Option.bind_some]
        obtain ⟨tp, htp, htl⟩ : ∃ t : Nat, wrap64 (1 + v3) = (t : Int) ∧ t < 16 := ⟨(1 + v3).toNat, by rw [w64 (by omega) (by omega)]; omega, by omega⟩
        obtain ⟨l, hl, hok⟩ := shift_ok b hb1 hb4 2 tp (by omega) htl
        refine ⟨l, ((p3 : Nat) : Int), s3, Ev.bind (a := ((b : Int), l)) ?_ (Ev.now _), hok⟩
        rw [htp]
        exact hl
      · simp only [if_neg h2]
        exact hgo p2 s2 (by omega)
end Go.Proofs.Ytomepieklgplgaa.P

/- The ring that a state of a whole counter reaches, and the steps to it: the program's loops and the reference's come to the same. -/
namespace Go.Proofs.Ytomepieklgplgaa.P
open Go.RowKit Go.Proofs.YtomepieklgplgaaW.PrintWords Go.Proofs.YtomepieklgplgaaW.PrintLast Go.Proofs.YtomepieklgplgaaW.PrintMore

/-- The states before step i. -/
def pathX (l : List Int) (x : Int) : Nat → List Int
  | 0 => []
  | i + 1 => pathX l x i ++ [outX l x i]
theorem pathX_length (l : List Int) (x : Int) (i : Nat) : (pathX l x i).length = i := by
  induction i with
  | zero => rfl
  | succ i ih => simp [pathX, ih]
/-- The first step, from i on, at which a state comes again. -/
def turnX (l : List Int) (x : Int) : Nat → Nat → Nat
  | 0, i => i
  | k + 1, i => if outX l x i ∈ pathX l x i then i else turnX l x k (i + 1)
def ringT (l : List Int) (x : Int) : Nat := turnX l x (l.length + 1) 0
def tailOf (l : List Int) (x : Int) : Nat := (pathX l x (ringT l x)).idxOf (outX l x (ringT l x))
def rawRing (l : List Int) (x : Int) : List Int := (pathX l x (ringT l x)).drop (tailOf l x)
def leastOf (r : List Int) : Int := r.tail.foldl mn (r.headD 0)

theorem outX_lt {n : Int} {l : List Int} {x : Int} (hok : okC n l) (hx : isSt n x) (i : Nat) : 0 ≤ outX l x i ∧ outX l x i < (l.length : Int) := by
  have h := outX_st hok hx i
  exact ⟨h.2.1, by have := h.2.2; have := hok.2.1; omega⟩
theorem turnX_spec (l : List Int) (x : Int) (k : Nat) : ∀ i, i ≤ turnX l x k i ∧ turnX l x k i ≤ i + k ∧ (∀ j, i ≤ j → j < turnX l x k i → outX l x j ∉ pathX l x j) ∧ (turnX l x k i < i + k → outX l x (turnX l x k i) ∈ pathX l x (turnX l x k i)) := by
  induction k with
  | zero => intro i; exact ⟨Nat.le_refl _, Nat.le_refl _, fun j h1 h2 => absurd h2 (by simp only [turnX]; omega), fun h => absurd h (by simp only [turnX]; omega)⟩
  | succ k ih =>
    intro i
    by_cases hc : outX l x i ∈ pathX l x i
    · have e : turnX l x (k + 1) i = i := by rw [turnX, if_pos hc]
      rw [e]
      exact ⟨Nat.le_refl _, by omega, fun j h1 h2 => by omega, fun _ => hc⟩
    · have e : turnX l x (k + 1) i = turnX l x k (i + 1) := by rw [turnX, if_neg hc]
      rw [e]
      obtain ⟨h1, h2, h3, h4⟩ := ih (i + 1)
      refine ⟨by omega, by omega, fun j g1 g2 => ?_, fun h => h4 (by omega)⟩
      by_cases hj : j = i
      · rw [hj]; exact hc
      · exact h3 j (by omega) g2
theorem nodup_bound (N : Nat) : ∀ p : List Int, p.Nodup → (∀ y ∈ p, 0 ≤ y ∧ y < (N : Int)) → p.length ≤ N := by
  induction N with
  | zero =>
    intro p _ h
    cases p with
    | nil => exact Nat.le_refl _
    | cons a p => have := h a List.mem_cons_self; omega
  | succ N ih =>
    intro p hp h
    have h2 := ih (p.erase (N : Int)) (hp.erase _) (fun y hy => by
      have hy1 := List.mem_of_mem_erase hy
      have hy2 : y ≠ (N : Int) := fun e => by rw [e] at hy; exact (List.Nodup.not_mem_erase hp) hy
      have := h y hy1
      omega)
    have h3 : p.length - 1 ≤ (p.erase (N : Int)).length := by
      rw [List.length_erase]; split <;> omega
    omega
theorem pathX_mem {l : List Int} {x : Int} {i : Nat} {y : Int} : y ∈ pathX l x i ↔ ∃ j, j < i ∧ y = outX l x j := by
  induction i with
  | zero => simp [pathX]
  | succ i ih =>
    rw [pathX, List.mem_append, List.mem_singleton, ih]
    constructor
    · rintro (⟨j, h1, h2⟩ | h)
      · exact ⟨j, by omega, h2⟩
      · exact ⟨i, by omega, h⟩
    · rintro ⟨j, h1, h2⟩
      by_cases h : j = i
      · exact .inr (by rw [h2, h])
      · exact .inl ⟨j, by omega, h2⟩
theorem pathX_nodup {l : List Int} {x : Int} {i : Nat} (h : ∀ j, j < i → outX l x j ∉ pathX l x j) : (pathX l x i).Nodup := by
  induction i with
  | zero => exact List.nodup_nil
  | succ i ih =>
    rw [pathX, List.nodup_append]
    refine ⟨ih (fun j hj => h j (by omega)), by simp, fun a ha b hb => ?_⟩
    rw [List.mem_singleton] at hb
    rintro rfl
    rw [hb] at ha
    exact h i (by omega) ha
/-- Where the run turns. -/
theorem ringT_spec {n : Int} {l : List Int} {x : Int} (hok : okC n l) (hx : isSt n x) : ringT l x ≤ l.length ∧ (∀ j, j < ringT l x → outX l x j ∉ pathX l x j) ∧ outX l x (ringT l x) ∈ pathX l x (ringT l x) := by
  obtain ⟨_, h2, h3, h4⟩ := turnX_spec l x (l.length + 1) 0
  have hd := pathX_nodup (l := l) (x := x) (i := ringT l x) (fun j hj => h3 j (by omega) hj)
  have hb := nodup_bound l.length _ hd (fun y hy => by
    obtain ⟨j, _, rfl⟩ := pathX_mem.mp hy
    exact outX_lt hok hx j)
  rw [pathX_length] at hb
  exact ⟨hb, fun j hj => h3 j (by omega) hj, h4 (by show ringT l x < _; omega)⟩

theorem mn_le (a b : Int) : mn a b ≤ a ∧ mn a b ≤ b ∧ (mn a b = a ∨ mn a b = b) := by
  unfold mn; split <;> omega
theorem fold_mn (l : List Int) : ∀ a, (l.foldl mn a = a ∨ l.foldl mn a ∈ l) ∧ l.foldl mn a ≤ a ∧ ∀ y ∈ l, l.foldl mn a ≤ y := by
  induction l with
  | nil => intro a; exact ⟨.inl rfl, Int.le_refl _, fun y hy => by cases hy⟩
  | cons b l ih =>
    intro a
    obtain ⟨h1, h2, h3⟩ := ih (mn a b)
    obtain ⟨m1, m2, m3⟩ := mn_le a b
    rw [List.foldl_cons]
    refine ⟨?_, by omega, fun y hy => ?_⟩
    · rcases h1 with h | h
      · rcases m3 with m | m
        · exact .inl (by omega)
        · exact .inr (by rw [h, m]; exact List.mem_cons_self)
      · exact .inr (List.mem_cons_of_mem _ h)
    · rcases List.mem_cons.mp hy with rfl | hy
      · omega
      · exact h3 y hy
theorem least_spec {r : List Int} (h : r ≠ []) : leastOf r ∈ r ∧ ∀ y ∈ r, leastOf r ≤ y := by
  cases r with
  | nil => exact absurd rfl h
  | cons a l =>
    obtain ⟨h1, h2, h3⟩ := fold_mn l a
    show l.foldl mn a ∈ a :: l ∧ ∀ y ∈ a :: l, l.foldl mn a ≤ y
    refine ⟨?_, fun y hy => ?_⟩
    · rcases h1 with h | h
      · rw [h]; exact List.mem_cons_self
      · exact List.mem_cons_of_mem _ h
    · rcases List.mem_cons.mp hy with rfl | hy
      · exact h2
      · exact h3 y hy
theorem least_snoc {p : List Int} (h : p ≠ []) (a : Int) : leastOf (p ++ [a]) = mn (leastOf p) a := by
  cases p with
  | nil => exact absurd rfl h
  | cons b l =>
    show (l ++ [a]).foldl mn b = mn (l.foldl mn b) a
    rw [List.foldl_append]; rfl
def leastIx (r : List Int) : Nat := r.idxOf (leastOf r)
/-- The ring, from its least state on. -/
def turned (r : List Int) : List Int := r.drop (leastIx r) ++ r.take (leastIx r)
def ringOf (l : List Int) (x : Int) : List Int := turned (rawRing l x)
theorem leastIx_lt {r : List Int} (h : r ≠ []) : leastIx r < r.length := List.idxOf_lt_length_of_mem (least_spec h).1
theorem min_loop (r : List Int) (hr : r.length ≤ 1048576) (d : Nat) : ∀ i : Nat, 1 ≤ i → i + d = r.length → Ev (fun k => slices_Min_int64_int64.l0 k r (leastOf (r.take i)) (i : Int)) (leastOf r) := by
  induction d with
  | zero =>
    intro i h1 hi
    refine Ev.succ ?_
    simp only [slices_Min_int64_int64.l0, if_neg (show ¬ (i : Int) < (r.length : Int) by omega)]
    exact Ev.const (by rw [List.take_of_length_le (by omega)])
  | succ d ih =>
    intro i h1 hi
    refine Ev.succ ?_
    have hlt : i < r.length := by omega
    have e1 : wrap64 ((i : Int) + 1) = ((i + 1 : Nat) : Int) := by rw [w64 (by omega) (by omega)]; omega
    have hne : r.take i ≠ [] := fun z => by have := congrArg List.length z; rw [List.length_take, List.length_nil] at this; omega
    simp only [slices_Min_int64_int64.l0, if_pos (show (i : Int) < (r.length : Int) by omega), if_pos (show (0 : Int) ≤ (i : Int) by omega), rd_at r i hlt, e1]
    rw [← least_snoc hne, List.take_append_getElem hlt]
    exact ih (i + 1) (by omega) (by omega)
theorem min_ev {r : List Int} (hr : r.length ≤ 1048576) (h : r ≠ []) : Ev (fun k => slices_Min_int64_int64.f k r) (leastOf r) := by
  have hp : 0 < r.length := List.length_pos_iff.mpr h
  unfold slices_Min_int64_int64.f
  simp only [if_neg (show ¬ (r.length : Int) < 1 by omega), if_pos (show (0 : Int) < (r.length : Int) by omega)]
  have h1 := min_loop r hr (r.length - 1) 1 (Nat.le_refl 1) (by omega)
  have e : leastOf (r.take 1) = rd r 0 := by
    cases r with
    | nil => exact absurd rfl h
    | cons a l => rfl
  rw [e] at h1
  exact h1
theorem idxOf_le (l : List Int) : ∀ (i : Nat) (h : i < l.length), l.idxOf l[i] ≤ i := by
  induction l with
  | nil => intro i h; exact absurd h (by simp)
  | cons a l ih =>
    intro i h
    cases i with
    | zero => simp
    | succ i =>
      have h2 := ih i (by simpa using h)
      simp only [List.getElem_cons_succ, List.idxOf_cons]
      cases (a == l[i]'(by simpa using h)) <;> simp <;> omega
theorem index_loop (r : List Int) (hr : r.length ≤ 1048576) (v : Int) (hv : v ∈ r) (d : Nat) : ∀ i : Nat, i + d = r.idxOf v → Ev (fun k => slices_Index_int64_int64.l0 k r v (r.length : Int) (i : Int)) ((r.idxOf v : Nat) : Int) := by
  have hlt := List.idxOf_lt_length_of_mem hv
  induction d with
  | zero =>
    intro i hi
    refine Ev.succ ?_
    have hi' : i = r.idxOf v := by omega
    have hil : i < r.length := by omega
    have hg : v = r[i] := by subst hi'; exact (List.getElem_idxOf hlt).symm
    simp only [slices_Index_int64_int64.l0, if_pos (show (i : Int) < (r.length : Int) by omega), if_pos (show (0 : Int) ≤ (i : Int) by omega), rd_at r i hil, if_pos hg]
    exact Ev.const (by rw [hi'])
  | succ d ih =>
    intro i hi
    refine Ev.succ ?_
    have hil : i < r.length := by omega
    have e1 : wrap64 ((i : Int) + 1) = ((i + 1 : Nat) : Int) := by rw [w64 (by omega) (by omega)]; omega
    have hg : ¬ v = r[i] := fun z => by
      have : r.idxOf v ≤ i := by rw [z]; exact idxOf_le r i hil
      omega
    simp only [slices_Index_int64_int64.l0, if_pos (show (i : Int) < (r.length : Int) by omega), if_pos (show (0 : Int) ≤ (i : Int) by omega), rd_at r i hil, if_neg hg, e1]
    exact ih (i + 1) (by omega)
theorem index_ev {r : List Int} (hr : r.length ≤ 1048576) {v : Int} (hv : v ∈ r) : Ev (fun k => slices_Index_int64_int64.f k r v) ((r.idxOf v : Nat) : Int) := index_loop r hr v hv (r.idxOf v) 0 (by omega)
theorem concat_ev {a b : List Int} (ha : a.length ≤ 400000) (hb : b.length ≤ 400000) : Ev (fun k => slices_Concat_int64_int64.f k [a, b]) (a ++ b) := by
  have r0 : rd_L2 [a, b] 0 = a := rfl
  have r1 : rd_L2 [a, b] 1 = b := rfl
  have e0 : wrap64 (0 + 1) = 1 := w64 (by omega) (by omega)
  have e1 : wrap64 (1 + 1) = 2 := w64 (by omega) (by omega)
  have s0 : wrap64 (0 + (a.length : Int)) = (a.length : Int) := by rw [w64 (by omega) (by omega)]; omega
  have s1 : wrap64 ((a.length : Int) + (b.length : Int)) = (a.length : Int) + (b.length : Int) := w64 (by omega) (by omega)
  have hl : ([a, b].length : Int) = 2 := rfl
  unfold slices_Concat_int64_int64.f
  refine Ev.succ ?_
  simp only [slices_Concat_int64_int64.l0, hl, if_pos (show (0 : Int) < 2 by decide), if_pos (show (0 : Int) ≤ 0 by decide), r0, s0, if_neg (show ¬ (a.length : Int) < 0 by omega), e0]
  refine Ev.succ ?_
  simp only [slices_Concat_int64_int64.l0, hl, if_pos (show (1 : Int) < 2 by decide), if_pos (show (0 : Int) ≤ 1 by decide), r1, s1, if_neg (show ¬ (a.length : Int) + (b.length : Int) < 0 by omega), e1]
  refine Ev.succ ?_
  have hg : slices_Grow_int64_int64.f ([] : List Int) ((a.length : Int) + (b.length : Int)) = some [] := by
    unfold slices_Grow_int64_int64.f
    rw [if_pos ⟨rfl, by omega, by omega⟩]
  simp only [slices_Concat_int64_int64.l0, if_neg (show ¬ (2 : Int) < 2 by decide), hg, Option.bind_some, hl]
  refine Ev.succ ?_
  simp only [slices_Concat_int64_int64.l1, hl, if_pos (show (0 : Int) < 2 by decide), if_pos (show (0 : Int) ≤ 0 by decide), r0, e0, if_pos (show ([] : List Int).length + a.length < 17592186044416 by rw [List.length_nil]; omega), List.nil_append]
  refine Ev.succ ?_
  simp only [slices_Concat_int64_int64.l1, hl, if_pos (show (1 : Int) < 2 by decide), if_pos (show (0 : Int) ≤ 1 by decide), r1, e1, if_pos (show a.length + b.length < 17592186044416 by omega)]
  refine Ev.succ ?_
  simp only [slices_Concat_int64_int64.l1, if_neg (show ¬ (2 : Int) < 2 by decide)]
  exact Ev.now _
end Go.Proofs.Ytomepieklgplgaa.P

/- The loops of the program's ringFrom and of the reference's l02Ring come to the ring and the tail of a state; all rings of a counter, likewise. For whole counters. -/
namespace Go.Proofs.Ytomepieklgplgaa.P
open Go.RowKit Go.Proofs.YtomepieklgplgaaW.PrintWords Go.Proofs.YtomepieklgplgaaW.PrintLast Go.Proofs.YtomepieklgplgaaW.PrintMore
set_option linter.unusedVariables false

theorem rd_set_self (l : List Int) (i : Nat) (v : Int) (h : i < l.length) : rd (l.set i v) (i : Int) = v := by
  rw [rd_at _ _ (by rw [List.length_set]; exact h), List.getElem_set_self]
theorem rd_set_ne (l : List Int) (i j : Nat) (v : Int) (h : j < l.length) (hne : i ≠ j) : rd (l.set i v) (j : Int) = rd l (j : Int) := by
  rw [rd_at _ _ (by rw [List.length_set]; exact h), rd_at _ _ h, List.getElem_set_ne hne]
/-- What is noted of the states: their places, d more. -/
def seenOk (d : Int) (l seen p : List Int) : Prop := seen.length = l.length ∧ ∀ y : Nat, y < l.length → rd seen (y : Int) = if (y : Int) ∈ p then (p.idxOf (y : Int) : Int) + d else d - 1
theorem seenOk_set {d : Int} {l seen p : List Int} (h : seenOk d l seen p) {x : Nat} (hx : x < l.length) (hn : (x : Int) ∉ p) : seenOk d l (seen.set x ((p.length : Int) + d)) (p ++ [(x : Int)]) := by
  refine ⟨by rw [List.length_set]; exact h.1, fun y hy => ?_⟩
  have hs : seen.length = l.length := h.1
  by_cases e : x = y
  · subst e
    rw [rd_set_self _ _ _ (by omega), if_pos (by simp), List.idxOf_append, if_neg hn]
    simp
  · rw [rd_set_ne _ _ _ _ (by omega) e, h.2 y hy]
    have e' : ¬ (y : Int) = (x : Int) := by omega
    by_cases hp : (y : Int) ∈ p
    · rw [if_pos hp, if_pos (List.mem_append_left _ hp), List.idxOf_append, if_pos hp]
    · rw [if_neg hp, if_neg (by simp [hp, e'])]
theorem seenOk_start (d : Int) (l : List Int) : seenOk d l (List.replicate l.length (d - 1)) [] := by
  refine ⟨by simp, fun y hy => ?_⟩
  rw [rd_at _ _ (by simpa using hy)]
  simp
theorem outX_nat {n : Int} {l : List Int} {x : Int} (hok : okC n l) (hx : isSt n x) (i : Nat) : ∃ y : Nat, outX l x i = (y : Int) ∧ y < l.length := by
  have h := outX_lt hok hx i
  obtain ⟨y, hy⟩ := Int.eq_ofNat_of_zero_le h.1
  exact ⟨y, hy, by omega⟩
theorem okC_len {n : Int} {l : List Int} (hok : okC n l) : 2 ≤ l.length ∧ l.length ≤ 256 := by
  have := pow_256 hok.1
  have := hok.2.1
  omega
theorem ringT_pos {n : Int} {l : List Int} {x : Int} (hok : okC n l) (hx : isSt n x) : 0 < ringT l x ∧ ringT l x ≤ 256 := by
  obtain ⟨h1, _, h3⟩ := ringT_spec hok hx
  have := okC_len hok
  refine ⟨?_, by omega⟩
  obtain ⟨j, hj, _⟩ := pathX_mem.mp h3
  omega
theorem tailOf_lt {n : Int} {l : List Int} {x : Int} (hok : okC n l) (hx : isSt n x) : tailOf l x < ringT l x := by
  have h := List.idxOf_lt_length_of_mem (ringT_spec hok hx).2.2
  rwa [pathX_length] at h
theorem rawRing_length (l : List Int) (x : Int) : (rawRing l x).length = ringT l x - tailOf l x := by
  rw [rawRing, List.length_drop, pathX_length]
theorem rawRing_ne {n : Int} {l : List Int} {x : Int} (hok : okC n l) (hx : isSt n x) : rawRing l x ≠ [] := by
  intro h
  have h1 := congrArg List.length h
  rw [rawRing_length, List.length_nil] at h1
  have := tailOf_lt hok hx
  omega
theorem implRing_loop {n : Int} {l : List Int} {x : Int} (hok : okC n l) (hx : isSt n x) (d : Nat) : ∀ (i : Nat) (seen : List Int), i + d = ringT l x → seenOk 0 l seen (pathX l x i) →
    Ev (fun k => impl_Counter_ringFrom.l0 k (outX l x i) seen (pathX l x i) (outX l x i) n l) (ringOf l x, (tailOf l x : Int)) := by
  have h256 := ringT_pos hok hx
  have hT := ringT_spec hok hx
  induction d with
  | zero =>
    intro i seen hi hs
    obtain rfl : i = ringT l x := by omega
    obtain ⟨y, hy, hyl⟩ := outX_nat hok hx (ringT l x)
    have hm := hT.2.2
    have hrd : rd seen (y : Int) = (tailOf l x : Int) := by
      rw [hs.2 y hyl, ← hy, if_pos hm, Int.add_zero]; rfl
    have hlt := tailOf_lt hok hx
    have hne := rawRing_ne hok hx
    have hrl : (rawRing l x).length ≤ 1048576 := by rw [rawRing_length]; omega
    have hil := leastIx_lt hne
    refine Ev.succ ?_
    have hsl : seen.length = l.length := hs.1
    simp only [impl_Counter_ringFrom.l0, hy, pathX_length, if_pos (show (0 : Int) ≤ (y : Int) by omega), if_pos (show (y : Int) < (seen.length : Int) by omega), hrd, if_neg (show ¬ (tailOf l x : Int) < 0 by omega), if_neg (show ¬ ((ringT l x : Nat) : Int) = 0 by omega), if_pos (show (0 : Int) ≤ (tailOf l x : Int) by omega), if_pos (show (tailOf l x : Int) ≤ ((ringT l x : Nat) : Int) by omega), Option.bind_some, Int.toNat_natCast]
    refine Ev.bind (min_ev hrl hne) (Ev.bind (index_ev hrl (least_spec hne).1) ?_)
    show Ev (fun k => if (0 : Int) ≤ ((leastIx (rawRing l x) : Nat) : Int) then (if ((leastIx (rawRing l x) : Nat) : Int) ≤ ((rawRing l x).length : Int) then ((slices_Concat_int64_int64.f k [(rawRing l x).drop ((leastIx (rawRing l x) : Nat) : Int).toNat, (rawRing l x).take ((leastIx (rawRing l x) : Nat) : Int).toNat]).bind fun t321 => some (t321, (tailOf l x : Int))) else none) else none) _
    simp only [Int.toNat_natCast, if_pos (show (0 : Int) ≤ ((leastIx (rawRing l x) : Nat) : Int) by omega), if_pos (show ((leastIx (rawRing l x) : Nat) : Int) ≤ ((rawRing l x).length : Int) by omega)]
    refine Ev.bind (concat_ev (by rw [List.length_drop, rawRing_length]; omega) (by rw [List.length_take, rawRing_length]; omega)) ?_
    exact Ev.now _
  | succ d ih =>
    intro i seen hi hs
    obtain ⟨y, hy, hyl⟩ := outX_nat hok hx i
    have hm := hT.2.1 i (by omega)
    have hrd : rd seen (y : Int) = -1 := by
      rw [hs.2 y hyl, ← hy, if_neg hm]; rfl
    have hsl : seen.length = l.length := hs.1
    refine Ev.succ ?_
    rw [hy] at hm
    have hs2 := seenOk_set hs hyl hm
    rw [pathX_length, Int.add_zero] at hs2
    have e1 : pathX l x i ++ [(y : Int)] = pathX l x (i + 1) := by rw [pathX, hy]
    have e2 : rd l (y : Int) = outX l x (i + 1) := by rw [outX, hy]
    rw [e1] at hs2
    simp only [impl_Counter_ringFrom.l0, hy, pathX_length, if_pos (show (0 : Int) ≤ (y : Int) by omega), if_pos (show (y : Int) < (seen.length : Int) by omega), hrd, if_pos (show (-1 : Int) < 0 by decide), if_pos (show i < 17592186044416 by omega), if_pos (show (y : Int) < (l.length : Int) by omega), Int.toNat_natCast, e1, e2]
    exact ih (i + 1) _ (by omega) hs2
theorem implRing_ev {n : Int} {l : List Int} {x : Int} (hok : okC n l) (hx : isSt n x) : Ev (fun k => impl_Counter_ringFrom.f k n l x) (ringOf l x, (tailOf l x : Int)) := by
  have hl := okC_len hok
  unfold impl_Counter_ringFrom.f
  have hr : slices_Repeat_int_int.f [(-1 : Int)] (l.length : Int) = some (List.replicate l.length (-1)) := by
    unfold slices_Repeat_int_int.f
    rw [if_pos ⟨rfl, by omega, by omega⟩]
    rfl
  simp only [hr, Option.bind_some]
  exact implRing_loop hok hx (ringT l x) 0 _ (by omega) (seenOk_start 0 l)
theorem turned_length (r : List Int) : (turned r).length = r.length := by
  unfold turned
  rw [List.length_append, List.length_drop, List.length_take]
  omega
theorem ringOf_length (l : List Int) (x : Int) : (ringOf l x).length = ringT l x - tailOf l x := by rw [ringOf, turned_length, rawRing_length]
theorem ringOf_pos {n : Int} {l : List Int} {x : Int} (hok : okC n l) (hx : isSt n x) : 0 < (ringOf l x).length ∧ (ringOf l x).length ≤ 256 := by
  have := tailOf_lt hok hx
  have := ringT_pos hok hx
  rw [ringOf_length]; omega
/-- The rings whose least state is below i. -/
def ringsUp (l : List Int) : Nat → List (List Int)
  | 0 => []
  | i + 1 => ringsUp l i ++ if tailOf l (i : Int) = 0 ∧ rd (ringOf l (i : Int)) 0 = (i : Int) then [ringOf l (i : Int)] else []
theorem ringsUp_length (l : List Int) (i : Nat) : (ringsUp l i).length ≤ i := by
  induction i with
  | zero => exact Nat.le_refl _
  | succ i ih => rw [ringsUp, List.length_append]; split <;> simp <;> omega
theorem isSt_nat {n : Int} {l : List Int} (hok : okC n l) {i : Nat} (hi : i < l.length) : isSt n (i : Int) := ⟨hok.1, by omega, by have := hok.2.1; omega⟩
theorem implRings_loop {n : Int} {l : List Int} (hok : okC n l) (d : Nat) : ∀ i : Nat, i + d = l.length → Ev (fun k => impl_Counter_rings.l0 k (ringsUp l i) (l.length : Int) (i : Int) n l) (ringsUp l l.length) := by
  have hl := okC_len hok
  induction d with
  | zero =>
    intro i hi
    obtain rfl : i = l.length := by omega
    refine Ev.succ ?_
    simp only [impl_Counter_rings.l0, Int.lt_irrefl, if_false]
    exact Ev.now _
  | succ d ih =>
    intro i hi
    refine Ev.succ ?_
    have hst := isSt_nat hok (show i < l.length by omega)
    have hp := ringOf_pos hok hst
    have e1 : wrap64 ((i : Int) + 1) = ((i + 1 : Nat) : Int) := by rw [w64 (by omega) (by omega)]; omega
    have hr := ringsUp_length l i
    have h1 := ih (i + 1) (by omega)
    simp only [impl_Counter_rings.l0, if_pos (show (i : Int) < (l.length : Int) by omega), e1]
    refine Ev.bind (implRing_ev hok hst) ?_
    rw [ringsUp] at h1
    by_cases ht : tailOf l (i : Int) = 0
    · by_cases hh : rd (ringOf l (i : Int)) 0 = (i : Int)
      · rw [if_pos ⟨ht, hh⟩] at h1
        simp only [ht, hh, Int.natCast_zero, if_true, if_pos (show (0 : Int) < ((ringOf l (i : Int)).length : Int) by omega), if_pos (show (ringsUp l i).length < 5864062014805 by omega)]
        exact h1
      · rw [if_neg (fun z => hh z.2), List.append_nil] at h1
        simp only [ht, hh, Int.natCast_zero, if_true, if_false, if_pos (show (0 : Int) < ((ringOf l (i : Int)).length : Int) by omega)]
        exact h1
    · rw [if_neg (fun z => ht z.1), List.append_nil] at h1
      simp only [if_neg (show ¬ (tailOf l (i : Int) : Int) = 0 by omega)]
      exact h1
theorem implRings_ev {n : Int} {l : List Int} (hok : okC n l) : Ev (fun k => impl_Counter_rings.f k n l) (ringsUp l l.length) := implRings_loop hok l.length 0 (by omega)
end Go.Proofs.Ytomepieklgplgaa.P

/- The state after so many steps, as the program and as the reference reckon it. For whole counters. -/
namespace Go.Proofs.Ytomepieklgplgaa.P
open Go.RowKit Go.Proofs.YtomepieklgplgaaW.PrintWords Go.Proofs.YtomepieklgplgaaW.PrintLast Go.Proofs.YtomepieklgplgaaW.PrintMore
set_option linter.unusedVariables false

theorem outX_add (l : List Int) (x : Int) (i j : Nat) : outX l (outX l x i) j = outX l x (i + j) := by
  induction j with
  | zero => rfl
  | succ j ih => rw [outX, ih, ← Nat.add_assoc, outX]
theorem implAfter_loop {n : Int} {l : List Int} {x : Int} (hok : okC n l) (hx : isSt n x) (s : Nat) (hs : s ≤ 1000000000) (d : Nat) : ∀ i : Nat, i + d = s → Ev (fun k => impl_StateAfter.l0 k (outX l x i) (s : Int) (i : Int) n l) (outX l x s, true) := by
  induction d with
  | zero =>
    intro i hi
    obtain rfl : i = s := by omega
    refine Ev.succ ?_
    simp only [impl_StateAfter.l0, Int.lt_irrefl, if_false]
    exact Ev.now _
  | succ d ih =>
    intro i hi
    refine Ev.succ ?_
    have h := outX_lt hok hx i
    have e1 : wrap64 ((i : Int) + 1) = ((i + 1 : Nat) : Int) := by rw [w64 (by omega) (by omega)]; omega
    simp only [impl_StateAfter.l0, if_pos (show (i : Int) < (s : Int) by omega), if_pos h.1, if_pos h.2, e1]
    exact ih (i + 1) (by omega)
/-- How many steps are gone in truth. -/
def stepsOf (l : List Int) (x : Int) (s : Nat) : Nat := if s ≤ tailOf l x then s else tailOf l x + (s - tailOf l x) % (ringOf l x).length
theorem implAfter_ev {n : Int} {l : List Int} {x s : Int} : Ev (fun k => impl_StateAfter.f k n l x s) (if okC n l ∧ isSt n x ∧ 0 ≤ s ∧ s ≤ 1000000000 then (outX l x (stepsOf l x s.toNat), true) else (0, false)) := by
  unfold impl_StateAfter.f
  simp only [isState_form, within_form, Option.bind_some]
  by_cases hs : okC n l ∧ isSt n x
  · obtain ⟨hok, hx⟩ := hs
    simp only [hok, hx, true_and, decide_true, if_true]
    refine Ev.succ ?_
    by_cases hb : 0 ≤ s ∧ s ≤ 1000000000
    · obtain ⟨m, rfl⟩ := Int.eq_ofNat_of_zero_le hb.1
      have hp := ringOf_pos hok hx
      have ht := tailOf_lt hok hx
      have hT := ringT_pos hok hx
      simp only [impl_StateAfter.j0, hb, and_self, decide_true, Bool.not_true, Bool.false_eq_true, if_false, if_true, Int.toNat_natCast]
      refine Ev.bind (implRing_ev hok hx) ?_
      by_cases hc : m ≤ tailOf l x
      · simp only [if_neg (show ¬ (m : Int) > (tailOf l x : Int) by omega), stepsOf, if_pos hc]
        refine Ev.succ ?_
        simp only [impl_StateAfter.j1]
        exact implAfter_loop hok hx m (by omega) m 0 (by omega)
      · have e2 : Int.tmod (wrap64 ((m : Int) - (tailOf l x : Int))) ((ringOf l x).length : Int) = (((m - tailOf l x) % (ringOf l x).length : Nat) : Int) := by
          rw [w64 (by omega) (by omega), show (m : Int) - (tailOf l x : Int) = ((m - tailOf l x : Nat) : Int) by omega]
          exact (Int.ofNat_tmod _ _).symm
        have hm := Nat.mod_lt (m - tailOf l x) hp.1
        have e3 : wrap64 ((tailOf l x : Int) + (((m - tailOf l x) % (ringOf l x).length : Nat) : Int)) = ((tailOf l x + (m - tailOf l x) % (ringOf l x).length : Nat) : Int) := by
          rw [w64 (by omega) (by omega)]; omega
        simp only [if_pos (show (m : Int) > (tailOf l x : Int) by omega), if_neg (show ¬ ((ringOf l x).length : Int) = 0 by omega), e2, e3, stepsOf, if_neg hc]
        refine Ev.succ ?_
        simp only [impl_StateAfter.j1]
        have hle : tailOf l x + (m - tailOf l x) % (ringOf l x).length ≤ 1000000000 := by omega
        exact implAfter_loop hok hx (tailOf l x + (m - tailOf l x) % (ringOf l x).length) hle (tailOf l x + (m - tailOf l x) % (ringOf l x).length) 0 (Nat.zero_add _)
    · simp only [impl_StateAfter.j0, hb, decide_false, Bool.not_false, if_true, if_false]
      exact Ev.now _
  · have hn : ¬ (okC n l ∧ isSt n x ∧ 0 ≤ s ∧ s ≤ 1000000000) := fun z => hs ⟨z.1, z.2.1⟩
    rw [if_neg hn]
    simp only [hs, decide_false, Bool.false_eq_true, if_false]
    refine Ev.succ ?_
    simp only [impl_StateAfter.j0, if_true]
    exact Ev.now _
end Go.Proofs.Ytomepieklgplgaa.P

/- What a ring is: it holds the states behind the tail, each one's next state at the next place, and each once. For whole counters. -/
namespace Go.Proofs.Ytomepieklgplgaa.P
open Go.RowKit Go.Proofs.YtomepieklgplgaaW.PrintWords Go.Proofs.YtomepieklgplgaaW.PrintLast Go.Proofs.YtomepieklgplgaaW.PrintMore
set_option linter.unusedVariables false

/-- How many states the ring has. -/
def per (l : List Int) (x : Int) : Nat := ringT l x - tailOf l x
theorem pathX_get (l : List Int) (x : Int) (i : Nat) : ∀ j, j < i → (pathX l x i)[j]? = some (outX l x j) := by
  induction i with
  | zero => intro j h; omega
  | succ i ih =>
    intro j h
    rw [pathX]
    by_cases hj : j < i
    · rw [List.getElem?_append_left (by rw [pathX_length]; exact hj), ih j hj]
    · obtain rfl : j = i := by omega
      rw [List.getElem?_append_right (by rw [pathX_length]; exact Nat.le_refl _), pathX_length, Nat.sub_self]
      rfl
theorem outX_turn {n : Int} {l : List Int} {x : Int} (hok : okC n l) (hx : isSt n x) : outX l x (ringT l x) = outX l x (tailOf l x) := by
  have h := (ringT_spec hok hx).2.2
  have hlt : tailOf l x < (pathX l x (ringT l x)).length := List.idxOf_lt_length_of_mem h
  have e : (pathX l x (ringT l x))[tailOf l x]? = some (outX l x (ringT l x)) := by
    rw [List.getElem?_eq_getElem hlt]
    congr 1
    exact List.getElem_idxOf hlt
  rw [pathX_get l x _ _ (tailOf_lt hok hx)] at e
  exact (Option.some.inj e).symm
theorem outX_per {n : Int} {l : List Int} {x : Int} (hok : okC n l) (hx : isSt n x) (m : Nat) : outX l x (tailOf l x + m + per l x) = outX l x (tailOf l x + m) := by
  have ht := tailOf_lt hok hx
  have e : tailOf l x + m + per l x = ringT l x + m := by unfold per; omega
  rw [e, ← outX_add, outX_turn hok hx, outX_add]
theorem outX_mod {n : Int} {l : List Int} {x : Int} (hok : okC n l) (hx : isSt n x) (m : Nat) : outX l x (tailOf l x + m) = outX l x (tailOf l x + m % per l x) := by
  have hp : 0 < per l x := by have := tailOf_lt hok hx; unfold per; omega
  induction m using Nat.strongRecOn with
  | ind m ih =>
    by_cases h : m < per l x
    · rw [Nat.mod_eq_of_lt h]
    · have e := outX_per hok hx (m - per l x)
      rw [show tailOf l x + (m - per l x) + per l x = tailOf l x + m by omega] at e
      rw [e, ih (m - per l x) (by omega), ← Nat.mod_eq_sub_mod (by omega)]
theorem outX_inj {n : Int} {l : List Int} {x : Int} (hok : okC n l) (hx : isSt n x) {i j : Nat} (hi : i < ringT l x) (hj : j < ringT l x) (h : outX l x i = outX l x j) : i = j := by
  obtain ⟨_, h2, _⟩ := ringT_spec hok hx
  by_cases h1 : i < j
  · exact absurd (pathX_mem.mpr ⟨i, h1, h.symm⟩) (h2 j hj)
  · by_cases h3 : j < i
    · exact absurd (pathX_mem.mpr ⟨j, h3, h⟩) (h2 i hi)
    · omega
theorem ring_len (l : List Int) (x : Int) : (ringOf l x).length = per l x := ringOf_length l x
theorem per_pos {n : Int} {l : List Int} {x : Int} (hok : okC n l) (hx : isSt n x) : 0 < per l x ∧ per l x ≤ 256 := by
  have := tailOf_lt hok hx
  have := ringT_pos hok hx
  unfold per; omega
/-- Where the ring begins. -/
def offX (l : List Int) (x : Int) : Nat := tailOf l x + leastIx (rawRing l x)
theorem rawRing_get (l : List Int) (x : Int) (j : Nat) (h : j < per l x) : (rawRing l x)[j]? = some (outX l x (tailOf l x + j)) := by
  rw [rawRing, List.getElem?_drop, pathX_get]
  unfold per at h; omega
theorem ring_get {n : Int} {l : List Int} {x : Int} (hok : okC n l) (hx : isSt n x) (j : Nat) (h : j < per l x) : (ringOf l x)[j]? = some (outX l x (offX l x + j)) := by
  have hk := leastIx_lt (rawRing_ne hok hx)
  have hr : (rawRing l x).length = per l x := rawRing_length l x
  rw [ringOf, turned, offX]
  by_cases hj : j < per l x - leastIx (rawRing l x)
  · rw [List.getElem?_append_left (by rw [List.length_drop]; omega), List.getElem?_drop, rawRing_get _ _ _ (by omega), Nat.add_assoc]
  · rw [List.getElem?_append_right (by rw [List.length_drop]; omega), List.length_drop, List.getElem?_take_of_lt (by omega), rawRing_get _ _ _ (by omega)]
    congr 1
    have e := outX_per hok hx (leastIx (rawRing l x) + j - per l x)
    rw [show tailOf l x + (leastIx (rawRing l x) + j - per l x) + per l x = tailOf l x + leastIx (rawRing l x) + j by omega] at e
    rw [e]
    congr 1
    omega
theorem ring_rd {n : Int} {l : List Int} {x : Int} (hok : okC n l) (hx : isSt n x) (j : Nat) (h : j < per l x) : rd (ringOf l x) (j : Int) = outX l x (offX l x + j) := by
  have hl : j < (ringOf l x).length := by rw [ring_len]; exact h
  rw [rd_at _ _ hl]
  have := ring_get hok hx j h
  rw [List.getElem?_eq_getElem hl] at this
  exact Option.some.inj this
/-- The state at the next place is the next state. -/
theorem ring_next {n : Int} {l : List Int} {x : Int} (hok : okC n l) (hx : isSt n x) (j : Nat) (h : j < per l x) : rd l (rd (ringOf l x) (j : Int)) = rd (ringOf l x) (((j + 1) % per l x : Nat) : Int) := by
  have hp := per_pos hok hx
  rw [ring_rd hok hx j h, ring_rd hok hx _ (Nat.mod_lt _ hp.1)]
  show outX l x (offX l x + j + 1) = _
  by_cases hj : j + 1 < per l x
  · rw [Nat.mod_eq_of_lt hj]; rfl
  · obtain hj' : j + 1 = per l x := by omega
    rw [hj', Nat.mod_self, Nat.add_zero]
    have e := outX_per hok hx (leastIx (rawRing l x))
    rw [show tailOf l x + leastIx (rawRing l x) + per l x = offX l x + j + 1 by unfold offX; omega] at e
    exact e
end Go.Proofs.Ytomepieklgplgaa.P

/- Rings of a whole counter: which states lie on them, that no two have a state in common, and that each state comes to one. -/
namespace Go.Proofs.Ytomepieklgplgaa.P
open Go.RowKit Go.Proofs.YtomepieklgplgaaW.PrintWords Go.Proofs.YtomepieklgplgaaW.PrintLast Go.Proofs.YtomepieklgplgaaW.PrintMore
set_option linter.unusedVariables false

theorem outX_again {l : List Int} {y : Int} {m : Nat} (h : outX l y m = y) (q : Nat) : outX l y (q * m) = y := by
  induction q with
  | zero => rw [Nat.zero_mul]; rfl
  | succ q ih => rw [Nat.succ_mul, ← outX_add, ih, h]
theorem cyc_of {n : Int} {l : List Int} {y : Int} (hok : okC n l) (hy : isSt n y) {m : Nat} (hm : 1 ≤ m) (h : outX l y m = y) : tailOf l y = 0 := by
  by_cases ht : tailOf l y = 0
  · exact ht
  · exfalso
    have hp := per_pos hok hy
    have e1 : outX l y (tailOf l y - 1) = outX l y (tailOf l y + (m - 1)) := by
      rw [show tailOf l y + (m - 1) = m + (tailOf l y - 1) by omega, ← outX_add, h]
    rw [outX_mod hok hy] at e1
    have hlt := Nat.mod_lt (m - 1) hp.1
    have htl := tailOf_lt hok hy
    have := outX_inj hok hy (by omega) (by unfold per at hlt ⊢; omega) e1
    omega
theorem cyc_turn {n : Int} {l : List Int} {y : Int} (hok : okC n l) (hy : isSt n y) (h : tailOf l y = 0) : outX l y (ringT l y) = y := by
  have e := outX_turn hok hy
  rw [h] at e
  exact e
/-- A state that is met behind the tail is met again; one that is met ahead of its end is not. -/
theorem cyc_iff {n : Int} {l : List Int} {x : Int} (hok : okC n l) (hx : isSt n x) (j : Nat) : tailOf l (outX l x j) = 0 ↔ tailOf l x ≤ j := by
  have hy := outX_st hok hx j
  have hp := per_pos hok hx
  constructor
  · intro h
    by_cases hj : tailOf l x ≤ j
    · exact hj
    · exfalso
      have e := outX_again (cyc_turn hok hy h) (tailOf l x)
      have hT := ringT_pos hok hy
      have hm : tailOf l x ≤ tailOf l x * ringT l (outX l x j) := Nat.le_mul_of_pos_right _ hT.1
      rw [outX_add, show j + tailOf l x * ringT l (outX l x j) = tailOf l x + (j + tailOf l x * ringT l (outX l x j) - tailOf l x) by omega, outX_mod hok hx] at e
      have hlt := Nat.mod_lt (j + tailOf l x * ringT l (outX l x j) - tailOf l x) hp.1
      have htl := tailOf_lt hok hx
      have := outX_inj hok hx (by unfold per at hlt ⊢; omega) (by omega) e
      omega
  · intro h
    refine cyc_of hok hy hp.1 ?_
    rw [outX_add]
    have e := outX_per hok hx (j - tailOf l x)
    rw [show tailOf l x + (j - tailOf l x) = j by omega] at e
    exact e
/-- y is met on the way from a. -/
def onX (l : List Int) (a y : Int) : Prop := ∃ j, y = outX l a j
theorem onX_trans {l : List Int} {a b c : Int} (h : onX l a b) (k : onX l b c) : onX l a c := by
  obtain ⟨i, rfl⟩ := h; obtain ⟨j, rfl⟩ := k; exact ⟨i + j, outX_add _ _ _ _⟩
theorem onX_refl (l : List Int) (a : Int) : onX l a a := ⟨0, rfl⟩
theorem onX_cyc {n : Int} {l : List Int} {a y : Int} (hok : okC n l) (ha : isSt n a) (hc : tailOf l a = 0) (h : onX l a y) : tailOf l y = 0 := by
  obtain ⟨j, rfl⟩ := h; exact (cyc_iff hok ha j).mpr (by omega)
theorem onX_symm {n : Int} {l : List Int} {a y : Int} (hok : okC n l) (ha : isSt n a) (hc : tailOf l a = 0) (h : onX l a y) : onX l y a := by
  obtain ⟨j, rfl⟩ := h
  have hT := ringT_pos hok ha
  have e := outX_again (cyc_turn hok ha hc) (j + 1)
  have hm : j + 1 ≤ (j + 1) * ringT l a := Nat.le_mul_of_pos_right _ hT.1
  exact ⟨(j + 1) * ringT l a - j, by rw [outX_add, show j + ((j + 1) * ringT l a - j) = (j + 1) * ringT l a by omega, e]⟩
theorem ring_mem {n : Int} {l : List Int} {x y : Int} (hok : okC n l) (hx : isSt n x) : y ∈ ringOf l x ↔ ∃ j, tailOf l x ≤ j ∧ y = outX l x j := by
  have hp := per_pos hok hx
  constructor
  · intro h
    obtain ⟨j, hj, e⟩ := List.mem_iff_getElem.mp h
    have hj' : j < per l x := by rw [← ring_len l x]; exact hj
    have e2 := ring_get hok hx j hj'
    rw [List.getElem?_eq_getElem hj, e] at e2
    exact ⟨offX l x + j, by unfold offX; omega, Option.some.inj e2⟩
  · rintro ⟨j, hj, rfl⟩
    have e := outX_mod hok hx (j - tailOf l x)
    rw [show tailOf l x + (j - tailOf l x) = j by omega] at e
    have hlt := Nat.mod_lt (j - tailOf l x) hp.1
    have hraw : outX l x j ∈ rawRing l x := by
      rw [e]
      exact List.mem_of_getElem? (rawRing_get l x _ hlt)
    rw [ringOf, turned, List.mem_append]
    rw [← List.take_append_drop (leastIx (rawRing l x)) (rawRing l x), List.mem_append] at hraw
    exact hraw.symm
theorem ring_mem_cyc {n : Int} {l : List Int} {x y : Int} (hok : okC n l) (hx : isSt n x) (hc : tailOf l x = 0) : y ∈ ringOf l x ↔ onX l x y := by
  rw [ring_mem hok hx, hc]
  exact ⟨fun ⟨j, _, h⟩ => ⟨j, h⟩, fun ⟨j, h⟩ => ⟨j, Nat.zero_le _, h⟩⟩
theorem ring_head {n : Int} {l : List Int} {x : Int} (hok : okC n l) (hx : isSt n x) : rd (ringOf l x) 0 ∈ ringOf l x ∧ ∀ y ∈ ringOf l x, rd (ringOf l x) 0 ≤ y := by
  have hp := ringOf_pos hok hx
  have hne := rawRing_ne hok hx
  have hls := least_spec hne
  have hk := leastIx_lt hne
  have e0 : rd (ringOf l x) 0 = leastOf (rawRing l x) := by
    have := rd_at (ringOf l x) 0 hp.1
    rw [show ((0 : Nat) : Int) = 0 from rfl] at this
    rw [this]
    have e : (ringOf l x)[0]? = some (leastOf (rawRing l x)) := by
      rw [ringOf, turned, List.getElem?_append_left (by rw [List.length_drop]; omega), List.getElem?_drop, Nat.add_zero, List.getElem?_eq_getElem hk]
      congr 1
      exact List.getElem_idxOf hk
    rw [List.getElem?_eq_getElem hp.1] at e
    exact Option.some.inj e
  have hm : ∀ y, y ∈ ringOf l x ↔ y ∈ rawRing l x := by
    intro y
    rw [ringOf, turned, List.mem_append]
    constructor
    · rintro (h | h)
      · exact List.mem_of_mem_drop h
      · exact List.mem_of_mem_take h
    · intro h
      rw [← List.take_append_drop (leastIx (rawRing l x)) (rawRing l x), List.mem_append] at h
      exact h.symm
  rw [e0]
  exact ⟨(hm _).mpr hls.1, fun y hy => hls.2 y ((hm y).mp hy)⟩
/-- The least state of a ring. -/
def loX (l : List Int) (a : Int) : Prop := tailOf l a = 0 ∧ rd (ringOf l a) 0 = a
instance (l : List Int) (a : Int) : Decidable (loX l a) := by unfold loX; infer_instance
theorem loX_le {n : Int} {l : List Int} {a y : Int} (hok : okC n l) (ha : isSt n a) (h : loX l a) (hy : onX l a y) : a ≤ y := by
  have := (ring_head hok ha).2 y ((ring_mem_cyc hok ha h.1).mpr hy)
  rwa [h.2] at this
theorem loX_eq {n : Int} {l : List Int} {a b y : Int} (hok : okC n l) (ha : isSt n a) (hb : isSt n b) (h : loX l a) (k : loX l b) (h1 : onX l a y) (h2 : onX l b y) : a = b := by
  have e1 := loX_le hok ha h (onX_trans h1 (onX_symm hok hb k.1 h2))
  have e2 := loX_le hok hb k (onX_trans h2 (onX_symm hok ha h.1 h1))
  omega
/-- The least state of the ring that x comes to. -/
def lowOf (l : List Int) (x : Int) : Int := rd (ringOf l x) 0
theorem lowOf_spec {n : Int} {l : List Int} {x : Int} (hok : okC n l) (hx : isSt n x) : isSt n (lowOf l x) ∧ loX l (lowOf l x) ∧ ∃ j, tailOf l x ≤ j ∧ lowOf l x = outX l x j := by
  obtain ⟨h1, h2⟩ := ring_head hok hx
  obtain ⟨j, hj, e⟩ := (ring_mem hok hx).mp h1
  have hst : isSt n (lowOf l x) := by unfold lowOf; rw [e]; exact outX_st hok hx j
  have hc : tailOf l (lowOf l x) = 0 := by unfold lowOf; rw [e]; exact (cyc_iff hok hx j).mpr hj
  refine ⟨hst, ⟨hc, ?_⟩, j, hj, e⟩
  obtain ⟨k1, k2⟩ := ring_head hok hst
  have hself : lowOf l x ∈ ringOf l (lowOf l x) := (ring_mem_cyc hok hst hc).mpr (onX_refl _ _)
  have hle := k2 _ hself
  obtain ⟨i, hi⟩ := (ring_mem_cyc hok hst hc).mp k1
  have hge : lowOf l x ≤ rd (ringOf l (lowOf l x)) 0 := by
    refine h2 _ ((ring_mem hok hx).mpr ⟨j + i, by omega, ?_⟩)
    rw [hi]
    show outX l (rd (ringOf l x) 0) i = _
    rw [e, outX_add]
  omega
theorem lowOf_on {n : Int} {l : List Int} {x : Int} (hok : okC n l) (hx : isSt n x) : onX l x (lowOf l x) := by
  obtain ⟨_, _, j, _, e⟩ := lowOf_spec hok hx; exact ⟨j, e⟩
theorem ringsUp_mem (l : List Int) (i : Nat) (r : List Int) : r ∈ ringsUp l i ↔ ∃ a : Nat, a < i ∧ loX l (a : Int) ∧ r = ringOf l (a : Int) := by
  induction i with
  | zero => simp [ringsUp]
  | succ i ih =>
    rw [ringsUp, List.mem_append, ih]
    constructor
    · rintro (⟨a, h1, h2⟩ | h)
      · exact ⟨a, by omega, h2⟩
      · split at h
        · rename_i hc
          exact ⟨i, by omega, hc, List.mem_singleton.mp h⟩
        · cases h
    · rintro ⟨a, h1, h2, h3⟩
      by_cases ha : a = i
      · subst ha
        refine .inr ?_
        rw [if_pos (show tailOf l (a : Int) = 0 ∧ rd (ringOf l (a : Int)) 0 = (a : Int) from h2), h3]
        exact List.mem_singleton.mpr rfl
      · exact .inl ⟨a, by omega, h2, h3⟩
theorem ringsUp_pos {n : Int} {l : List Int} (hok : okC n l) : 0 < (ringsUp l l.length).length := by
  have h0 := isSt_nat hok (show 0 < l.length by have := okC_len hok; omega)
  obtain ⟨h1, h2, _⟩ := lowOf_spec hok h0
  obtain ⟨a, ha⟩ := Int.eq_ofNat_of_zero_le h1.2.1
  have hlt : a < l.length := by have := h1.2.2; have := hok.2.1; omega
  rw [ha] at h2
  exact List.length_pos_of_mem ((ringsUp_mem l l.length _).mpr ⟨a, hlt, h2, rfl⟩)
end Go.Proofs.Ytomepieklgplgaa.P

namespace Go.Proofs.Ytomepieklgplgaa.Pure
open Go.RowKit Go.Proofs.YtomepieklgplgaaW.PrintWords Go.Proofs.YtomepieklgplgaaW.PrintLast Go.Proofs.YtomepieklgplgaaW.PrintMore
set_option linter.unusedVariables false
set_option linter.unusedSimpArgs false
open Go.Proofs.Ytomepieklgplgaa.P

theorem at8_form (l : List Int) (hl : ∀ x ∈ l, (Lit.int .u8 x).wf = true) (i n : Int) (hi : 0 ≤ i) (hn : 1 ≤ n) (hn2 : n ≤ 1000) : ∃ r, laws_r8At.f l i n = some r ∧ 0 ≤ r ∧ r < n := by
  unfold laws_r8At.f
  by_cases h1 : n ≤ 1
  · exact ⟨0, by rw [if_pos h1], by omega, by omega⟩
  rw [if_neg h1]
  by_cases h2 : i ≥ (l.length : Int)
  · exact ⟨0, by rw [if_pos h2], by omega, by omega⟩
  rw [if_neg h2, if_pos hi, if_pos (by omega), if_neg (by omega)]
  obtain ⟨j, rfl⟩ := Int.eq_ofNat_of_zero_le hi
  have hj : j < l.length := by omega
  have hx := Go.bounds_u8 (hl l[j] (List.getElem_mem hj))
  have e : rd l ((j : Nat) : Int) = l[j] := rd_at l j hj
  refine ⟨_, rfl, ?_, ?_⟩
  · rw [e, w64 (by omega) (by omega)]; exact Int.tmod_nonneg _ (by omega)
  · rw [e, w64 (by omega) (by omega)]; exact Int.tmod_lt_of_pos _ (by omega)
/-- What is noted: the states of P. -/
def sOk (l : List Int) (seen : List Bool) (P : Int → Prop) : Prop := seen.length = l.length ∧ ∀ y : Nat, y < l.length → (rdOf false seen (y : Int) = true ↔ P (y : Int))
theorem sOk_start (l : List Int) : sOk l (List.replicate l.length false) (fun _ => False) := by
  refine ⟨by simp, fun y hy => ?_⟩
  unfold rdOf
  simp [List.getD_eq_getElem?_getD, List.getElem?_replicate, hy]
theorem sOk_set {l : List Int} {seen : List Bool} {P : Int → Prop} (h : sOk l seen P) {x : Nat} (hx : x < l.length) : sOk l (seen.set x true) (fun y => P y ∨ y = (x : Int)) := by
  refine ⟨by rw [List.length_set]; exact h.1, fun y hy => ?_⟩
  have h2 := h.2 y hy
  have hl := h.1
  unfold rdOf at h2 ⊢
  rw [Int.toNat_natCast] at h2 ⊢
  rw [List.getD_eq_getElem?_getD] at h2 ⊢
  by_cases e : x = y
  · subst e
    rw [List.getElem?_set_self (by omega)]
    simp
  · rw [List.getElem?_set_ne e, h2]
    have e' : ¬ (y : Int) = (x : Int) := by omega
    simp [e']
theorem sOk_iff {l : List Int} {seen : List Bool} {P Q : Int → Prop} (h : sOk l seen P) (hpq : ∀ y, P y ↔ Q y) : sOk l seen Q :=
  ⟨h.1, fun y hy => (h.2 y hy).trans (hpq _)⟩
theorem ring_nodup {n : Int} {l : List Int} {x : Int} (hok : okC n l) (hx : isSt n x) : (ringOf l x).Nodup := by
  have h1 : (rawRing l x).Nodup := (pathX_nodup (ringT_spec hok hx).2.1).sublist (List.drop_sublist _ _)
  rw [ringOf, turned]
  refine (List.perm_append_comm.nodup_iff).mp ?_
  rw [List.take_append_drop]
  exact h1
theorem rings_sorted {n : Int} {l : List Int} (hok : okC n l) (i : Nat) : (ringsUp l i).Pairwise (fun r s => rd r 0 < rd s 0) := by
  induction i with
  | zero => exact List.Pairwise.nil
  | succ i ih =>
    rw [ringsUp, List.pairwise_append]
    refine ⟨ih, ?_, fun r hr s hs => ?_⟩
    · split <;> simp
    · obtain ⟨a, h1, h2, rfl⟩ := (ringsUp_mem l i r).mp hr
      split at hs
      · rename_i hc
        rw [List.mem_singleton.mp hs, hc.2, h2.2]
        omega
      · cases hs
/-- The ring at a place of the list. -/
theorem rings_at {n : Int} {l : List Int} (hok : okC n l) (i : Nat) (hi : i < (ringsUp l l.length).length) : ∃ a : Nat, a < l.length ∧ loX l (a : Int) ∧ (ringsUp l l.length)[i] = ringOf l (a : Int) :=
  (ringsUp_mem l l.length _).mp (List.getElem_mem hi)
theorem rings_lt {n : Int} {l : List Int} (hok : okC n l) {i j : Nat} (hij : i < j) (hj : j < (ringsUp l l.length).length) : rd ((ringsUp l l.length)[i]) 0 < rd ((ringsUp l l.length)[j]) 0 :=
  List.pairwise_iff_getElem.mp (rings_sorted hok l.length) i j (by omega) hj hij
/-- No two have a state in common. -/
theorem rings_apart {n : Int} {l : List Int} (hok : okC n l) {i : Nat} (hi : i < (ringsUp l l.length).length) {y : Int} (hy : y ∈ (ringsUp l l.length)[i]) : ¬ ∃ r ∈ (ringsUp l l.length).take i, y ∈ r := by
  rintro ⟨r, hr, hyr⟩
  obtain ⟨j, hj, e⟩ := List.mem_iff_getElem.mp hr
  rw [List.getElem_take] at e
  rw [List.length_take] at hj
  have hlt := rings_lt hok (show j < i by omega) hi
  obtain ⟨a, ha, hla, ea⟩ := rings_at hok i hi
  obtain ⟨b, hb, hlb, eb⟩ := rings_at hok j (by omega)
  rw [e] at eb hlt
  rw [ea] at hy hlt
  rw [eb] at hyr hlt
  have hsa := isSt_nat hok ha
  have hsb := isSt_nat hok hb
  have h1 := (ring_mem_cyc hok hsa hla.1).mp hy
  have h2 := (ring_mem_cyc hok hsb hlb.1).mp hyr
  have h3 := loX_eq hok hsa hsb hla hlb h1 h2
  rw [h3] at hlt
  omega
theorem rings_cyc {n : Int} {l : List Int} (hok : okC n l) {y : Int} (hy : isSt n y) : (∃ r ∈ ringsUp l l.length, y ∈ r) ↔ tailOf l y = 0 := by
  constructor
  · rintro ⟨r, hr, hyr⟩
    obtain ⟨a, ha, hla, rfl⟩ := (ringsUp_mem l l.length r).mp hr
    have hsa := isSt_nat hok ha
    exact onX_cyc hok hsa hla.1 ((ring_mem_cyc hok hsa hla.1).mp hyr)
  · intro h
    obtain ⟨h1, h2, _⟩ := lowOf_spec hok hy
    obtain ⟨a, ha⟩ := Int.eq_ofNat_of_zero_le h1.2.1
    have hlt : a < l.length := by have := h1.2.2; have := hok.2.1; omega
    have h3 := onX_symm hok hy h (lowOf_on hok hy)
    rw [ha] at h1 h2 h3
    exact ⟨ringOf l (a : Int), (ringsUp_mem l l.length _).mpr ⟨a, hlt, h2, rfl⟩, (ring_mem_cyc hok h1 h2.1).mpr h3⟩
theorem rdL_at (R : List (List Int)) (i : Nat) (h : i < R.length) : rd_L2 R (i : Int) = R[i] := by
  unfold rd_L2
  simp [List.getD_eq_getElem?_getD, List.getElem?_eq_getElem h]
theorem take_more {R : List (List Int)} {i : Nat} (h : i < R.length) (y : Int) : ((∃ r ∈ R.take i, y ∈ r) ∨ y ∈ R[i]) ↔ ∃ r ∈ R.take (i + 1), y ∈ r := by
  rw [← List.take_append_getElem h]
  constructor
  · rintro (⟨r, hr, hy⟩ | hy)
    · exact ⟨r, List.mem_append_left _ hr, hy⟩
    · exact ⟨_, List.mem_append_right _ (List.mem_singleton.mpr rfl), hy⟩
  · rintro ⟨r, hr, hy⟩
    rcases List.mem_append.mp hr with hr | hr
    · exact .inl ⟨r, hr, hy⟩
    · rw [List.mem_singleton.mp hr] at hy; exact .inr hy
theorem nodup_two {r : List Int} (h : r.Nodup) {i j : Nat} (hij : i < j) (hj : j < r.length) (e : r[i]'(by omega) = r[j]) : False :=
  (List.pairwise_iff_getElem.mp h) i j (by omega) hj hij e
/-- One ring's states are asked, one after another. -/
theorem ring_round {n : Int} {l : List Int} (hok : okC n l) (q : List Int) (i : Nat) (hi : i < (ringsUp l l.length).length)
    (hnext : ∀ seen, sOk l seen (fun y => ∃ r ∈ (ringsUp l l.length).take (i + 1), y ∈ r) → Ev (fun k => laws_FnRings.l0 k q (l.length : Int) (ringsUp l l.length) seen ((i + 1 : Nat) : Int) n l) true)
    (d : Nat) : ∀ (j : Nat) (seen : List Bool), j + d = ((ringsUp l l.length)[i]).length → sOk l seen (fun y => (∃ r ∈ (ringsUp l l.length).take i, y ∈ r) ∨ y ∈ ((ringsUp l l.length)[i]).take j) →
    Ev (fun k => laws_FnRings.l1 k q (l.length : Int) (ringsUp l l.length) seen (i : Int) (j : Int) n l) true := by
  have h256 := okC_len hok
  have hRl := ringsUp_length l l.length
  obtain ⟨a, ha, hla, ea⟩ := rings_at hok i hi
  have hsa := isSt_nat hok ha
  have hp := per_pos hok hsa
  have hlen : ((ringsUp l l.length)[i]).length = per l (a : Int) := by rw [ea]; exact ring_len _ _
  have er := rdL_at (ringsUp l l.length) i hi
  have ew : wrap64 ((i : Int) + 1) = ((i + 1 : Nat) : Int) := by rw [w64 (by omega) (by omega)]; omega
  induction d with
  | zero =>
    intro j seen hj hs
    have ejl : ((ringsUp l l.length)[i]).take j = (ringsUp l l.length)[i] := List.take_of_length_le (by omega)
    have hn := hnext seen (sOk_iff hs (fun y => by rw [ejl]; exact take_more hi y))
    refine Ev.succ ?_
    simp only [laws_FnRings.l1, if_pos (show (0 : Int) ≤ (i : Int) by omega), if_pos (show (i : Int) < ((ringsUp l l.length).length : Int) by omega), er, if_neg (show ¬ (j : Int) < (((ringsUp l l.length)[i]).length : Int) by omega), ew]
    by_cases h0 : i = 0
    · simp only [if_neg (show ¬ (i : Int) > 0 by omega)]
      exact hn
    · have ew2 : wrap64 ((i : Int) - 1) = ((i - 1 : Nat) : Int) := by rw [w64 (by omega) (by omega)]; omega
      have er2 := rdL_at (ringsUp l l.length) (i - 1) (by omega)
      have hlt := rings_lt hok (show i - 1 < i by omega) hi
      obtain ⟨b, hb, hlb, eb⟩ := rings_at hok (i - 1) (by omega)
      have hp2 := ringOf_pos hok (isSt_nat hok hb)
      have hlen2 : 0 < (((ringsUp l l.length)[i - 1]).length : Int) := by rw [eb]; omega
      simp only [if_pos (show (i : Int) > 0 by omega), ew2, er2, if_pos (show (0 : Int) < (((ringsUp l l.length)[i]).length : Int) by omega), if_pos (show (0 : Int) ≤ ((i - 1 : Nat) : Int) by omega), if_pos (show ((i - 1 : Nat) : Int) < ((ringsUp l l.length).length : Int) by omega), if_pos hlen2, if_neg (show ¬ rd ((ringsUp l l.length)[i]) 0 ≤ rd ((ringsUp l l.length)[i - 1]) 0 by omega)]
      exact hn
  | succ d ih =>
    intro j seen hj hs
    have hjl : j < ((ringsUp l l.length)[i]).length := by omega
    have hjp : j < per l (a : Int) := by omega
    have e1 : wrap64 ((j : Int) + 1) = ((j + 1 : Nat) : Int) := by rw [w64 (by omega) (by omega)]; omega
    have et : Int.tmod (((j + 1 : Nat) : Int)) (((ringsUp l l.length)[i]).length : Int) = (((j + 1) % per l (a : Int) : Nat) : Int) := by
      rw [hlen]; exact (Int.ofNat_tmod _ _).symm
    have hml := Nat.mod_lt (j + 1) hp.1
    have hrd := ring_rd hok hsa j hjp
    have hnx := ring_next hok hsa j hjp
    have hhd := (ring_head hok hsa).2
    obtain ⟨y, hy, hyl⟩ := outX_nat hok hsa (offX l (a : Int) + j)
    rw [hy] at hrd
    rw [← ea] at hrd hnx hhd
    have hyr : rd ((ringsUp l l.length)[i]) (j : Int) = ((ringsUp l l.length)[i])[j] := rd_at _ j hjl
    have hmem : (y : Int) ∈ (ringsUp l l.length)[i] := by rw [← hrd, hyr]; exact List.getElem_mem hjl
    have hle := hhd _ hmem
    rw [hrd] at hnx
    have hnew : ¬ rdOf false seen (y : Int) = true := by
      rw [hs.2 y hyl]
      rintro (h | h)
      · exact rings_apart hok hi hmem h
      · have hnd : ((ringsUp l l.length)[i]).Nodup := by rw [ea]; exact ring_nodup hok hsa
        obtain ⟨m, hm, e⟩ := List.mem_iff_getElem.mp h
        rw [List.getElem_take] at e
        rw [List.length_take] at hm
        have h3 : ((ringsUp l l.length)[i])[m]'(by omega) = ((ringsUp l l.length)[i])[j] := by rw [e, ← hrd, hyr]
        exact nodup_two hnd (show m < j by omega) hjl h3
    have hs2 := sOk_iff (sOk_set hs hyl) (Q := fun z => (∃ r ∈ (ringsUp l l.length).take i, z ∈ r) ∨ z ∈ ((ringsUp l l.length)[i]).take (j + 1)) (fun z => by
      rw [← List.take_append_getElem hjl, List.mem_append, List.mem_singleton, ← hyr, hrd, or_assoc])
    have hsl : seen.length = l.length := hs.1
    refine Ev.succ ?_
    simp only [laws_FnRings.l1, if_pos (show (0 : Int) ≤ (i : Int) by omega), if_pos (show (i : Int) < ((ringsUp l l.length).length : Int) by omega), er, if_pos (show (j : Int) < (((ringsUp l l.length)[i]).length : Int) by omega), if_pos (show (0 : Int) ≤ (j : Int) by omega), hrd, if_neg (show ¬ (y : Int) < 0 by omega), if_neg (show ¬ (y : Int) ≥ (l.length : Int) by omega), if_pos (show (0 : Int) ≤ (y : Int) by omega), if_pos (show (y : Int) < (seen.length : Int) by omega), if_neg hnew, if_pos (show (y : Int) < (l.length : Int) by omega), if_neg (show ¬ (((ringsUp l l.length)[i]).length : Int) = 0 by omega), e1, et, if_pos (show (0 : Int) ≤ (((j + 1) % per l (a : Int) : Nat) : Int) by omega), if_pos (show (((j + 1) % per l (a : Int) : Nat) : Int) < (((ringsUp l l.length)[i]).length : Int) by omega), if_pos hnx, if_pos (show (0 : Int) < (((ringsUp l l.length)[i]).length : Int) by omega), if_neg (show ¬ (y : Int) < rd ((ringsUp l l.length)[i]) 0 by omega), Int.toNat_natCast]
    exact ih (j + 1) _ (by omega) hs2
theorem rings_round {n : Int} {l : List Int} (hok : okC n l) (q : List Int)
    (hend : ∀ seen, sOk l seen (fun y => ∃ r ∈ ringsUp l l.length, y ∈ r) → Ev (fun k => laws_FnRings.l2 k q (l.length : Int) seen 0 n l) true)
    (d : Nat) : ∀ (i : Nat) (seen : List Bool), i + d = (ringsUp l l.length).length → sOk l seen (fun y => ∃ r ∈ (ringsUp l l.length).take i, y ∈ r) →
    Ev (fun k => laws_FnRings.l0 k q (l.length : Int) (ringsUp l l.length) seen (i : Int) n l) true := by
  induction d with
  | zero =>
    intro i seen hi hs
    refine Ev.succ ?_
    simp only [laws_FnRings.l0, if_neg (show ¬ (i : Int) < ((ringsUp l l.length).length : Int) by omega)]
    exact hend seen (sOk_iff hs (fun y => by rw [List.take_of_length_le (by omega)]))
  | succ d ih =>
    intro i seen hi hs
    refine Ev.succ ?_
    simp only [laws_FnRings.l0, if_pos (show (i : Int) < ((ringsUp l l.length).length : Int) by omega)]
    exact ring_round hok q i (by omega) (fun seen hs => ih (i + 1) seen (by omega) hs) _ 0 seen (Nat.zero_add _) (sOk_iff hs (fun y => by simp))
theorem implTail_ev {n : Int} {l : List Int} {x : Int} (hok : okC n l) (hx : isSt n x) : Ev (fun k => impl_TailOf.f k n l x) ((tailOf l x : Int), true) := by
  unfold impl_TailOf.f
  simp only [isState_form, hok, hx, and_self, decide_true, Option.bind_some, if_true]
  exact Ev.bind (implRing_ev hok hx) (Ev.now _)
theorem tail_lt {n : Int} {l : List Int} {x : Int} (hok : okC n l) (hx : isSt n x) : tailOf l x < l.length := by
  have h1 := tailOf_lt hok hx
  have h2 := (ringT_spec hok hx).1
  omega
/-- The way of one state to its ring. -/
theorem tail_round {n : Int} {l : List Int} (hok : okC n l) (q : List Int) (seen : List Bool) (hs : sOk l seen (fun y => tailOf l y = 0)) {x : Int} (hx : isSt n x) (p : Int)
    (hnext : Ev (fun k => laws_FnRings.l2 k q (l.length : Int) seen (wrap64 (p + 1)) n l) true) (d : Nat) : ∀ s : Nat, s + d = tailOf l x →
    Ev (fun k => laws_FnRings.l3 k q (l.length : Int) seen p (tailOf l x : Int) true (outX l x s) (s : Int) n l) true := by
  have h256 := okC_len hok
  have htl := tail_lt hok hx
  have hsl : seen.length = l.length := hs.1
  induction d with
  | zero =>
    intro s hd
    obtain rfl : s = tailOf l x := by omega
    obtain ⟨y, hy, hyl⟩ := outX_nat hok hx (tailOf l x)
    have hc := (cyc_iff hok hx (tailOf l x)).mpr (Nat.le_refl _)
    have hr : rdOf false seen (y : Int) = true := (hs.2 y hyl).mpr (by rw [← hy]; exact hc)
    refine Ev.succ ?_
    simp only [laws_FnRings.l3, hy, if_pos (show ((tailOf l x : Nat) : Int) < (l.length : Int) by omega), if_pos (show (0 : Int) ≤ (y : Int) by omega), if_pos (show (y : Int) < (seen.length : Int) by omega), hr, if_true]
    exact hnext
  | succ d ih =>
    intro s hd
    obtain ⟨y, hy, hyl⟩ := outX_nat hok hx s
    have hr : ¬ rdOf false seen (y : Int) = true := fun h => by
      have h1 := (hs.2 y hyl).mp h
      rw [← hy] at h1
      have := (cyc_iff hok hx s).mp h1
      omega
    have e1 : wrap64 ((s : Int) + 1) = ((s + 1 : Nat) : Int) := by rw [w64 (by omega) (by omega)]; omega
    have e2 : rd l (y : Int) = outX l x (s + 1) := by rw [outX, hy]
    refine Ev.succ ?_
    simp only [laws_FnRings.l3, hy, if_pos (show (s : Int) < (l.length : Int) by omega), if_pos (show (0 : Int) ≤ (y : Int) by omega), if_pos (show (y : Int) < (seen.length : Int) by omega), if_neg hr, if_pos (show (y : Int) < (l.length : Int) by omega), e1, e2]
    exact ih (s + 1) (by omega)
theorem steps_le {n : Int} {l : List Int} {x : Int} (hok : okC n l) (hx : isSt n x) (s : Nat) : outX l x (stepsOf l x s) = outX l x s ∧ (tailOf l x ≤ s → tailOf l x ≤ stepsOf l x s) := by
  unfold stepsOf
  by_cases hc : s ≤ tailOf l x
  · rw [if_pos hc]; exact ⟨rfl, fun h => h⟩
  · rw [if_neg hc]
    refine ⟨?_, fun _ => by omega⟩
    have h := outX_mod hok hx (s - tailOf l x)
    rw [show tailOf l x + (s - tailOf l x) = s by omega] at h
    rw [ring_len, h]
/-- Steps one after another, and many at once. -/
theorem step_round {n : Int} {l : List Int} (hok : okC n l) (seen : List Bool) (hs : sOk l seen (fun y => tailOf l y = 0)) {x : Int} (hx : isSt n x) (m : Nat) (hm : m ≤ 200) (d : Nat) : ∀ i : Nat, i + d = m →
    Ev (fun k => laws_FnRings.l4 k (l.length : Int) seen x (m : Int) (outX l x i) (i : Int) n l) true := by
  have h256 := okC_len hok
  have htl := tail_lt hok hx
  have hsl : seen.length = l.length := hs.1
  induction d with
  | zero =>
    intro i hd
    obtain rfl : i = m := by omega
    have h1 := implAfter_ev (n := n) (l := l) (x := x) (s := (i : Int))
    rw [if_pos ⟨hok, hx, by omega, by omega⟩, Int.toNat_natCast, (steps_le hok hx i).1] at h1
    have h2 := implAfter_ev (n := n) (l := l) (x := x) (s := 1000000000)
    rw [if_pos ⟨hok, hx, by omega, by omega⟩] at h2
    have h3 := (steps_le hok hx ((1000000000 : Int).toNat)).2 (by have e : (1000000000 : Int).toNat = 1000000000 := rfl; omega)
    have hc := (cyc_iff hok hx _).mpr h3
    obtain ⟨y, hy, hyl⟩ := outX_nat hok hx (stepsOf l x ((1000000000 : Int).toNat))
    rw [hy] at h2 hc
    have hr : rdOf false seen (y : Int) = true := (hs.2 y hyl).mpr hc
    refine Ev.succ ?_
    simp only [laws_FnRings.l4, Int.lt_irrefl, if_false]
    refine Ev.bind h1 (Ev.bind h2 ?_)
    simp only [if_true, if_pos (show (y : Int) ≥ 0 by omega), if_pos (show (y : Int) < (l.length : Int) by omega), if_pos (show (0 : Int) ≤ (y : Int) by omega), if_pos (show (y : Int) < (seen.length : Int) by omega), hr]
    exact Ev.now _
  | succ d ih =>
    intro i hd
    have h := outX_lt hok hx i
    have e1 : wrap64 ((i : Int) + 1) = ((i + 1 : Nat) : Int) := by rw [w64 (by omega) (by omega)]; omega
    refine Ev.succ ?_
    simp only [laws_FnRings.l4, if_pos (show (i : Int) < (m : Int) by omega), if_pos h.1, if_pos h.2, e1]
    exact ih (i + 1) (by omega)
theorem tails_round {n : Int} {l : List Int} (hok : okC n l) (q : List Int) (hq : ∀ x ∈ q, (Lit.int .u8 x).wf = true) (seen : List Bool) (hs : sOk l seen (fun y => tailOf l y = 0)) (d : Nat) : ∀ i : Nat, i + d = l.length →
    Ev (fun k => laws_FnRings.l2 k q (l.length : Int) seen (i : Int) n l) true := by
  have h256 := okC_len hok
  induction d with
  | zero =>
    intro i hi
    obtain ⟨x, hx, hx0, hx1⟩ := at8_form q hq 0 (l.length : Int) (by omega) (by omega) (by omega)
    obtain ⟨m, hm, hm0, hm1⟩ := at8_form q hq 1 200 (by omega) (by omega) (by omega)
    obtain ⟨m', rfl⟩ := Int.eq_ofNat_of_zero_le hm0
    have hst : isSt n x := ⟨hok.1, hx0, by have := hok.2.1; omega⟩
    refine Ev.succ ?_
    simp only [laws_FnRings.l2, if_neg (show ¬ (i : Int) < (l.length : Int) by omega), hx, hm, Option.bind_some]
    exact step_round hok seen hs hst m' (by omega) m' 0 (Nat.zero_add _)
  | succ d ih =>
    intro i hi
    have hst := isSt_nat hok (show i < l.length by omega)
    have e1 : wrap64 ((i : Int) + 1) = ((i + 1 : Nat) : Int) := by rw [w64 (by omega) (by omega)]; omega
    refine Ev.succ ?_
    simp only [laws_FnRings.l2, if_pos (show (i : Int) < (l.length : Int) by omega)]
    refine Ev.bind (implTail_ev hok hst) ?_
    exact tail_round hok q seen hs hst (i : Int) (by rw [e1]; exact ih (i + 1) (by omega)) (tailOf l (i : Int)) 0 (Nat.zero_add _)
theorem FnRings : laws_FnRings.Pure := by
  intro c q _ _ hc8 _ _ hq
  apply Ev.rounds
  unfold laws_FnRings.f laws_r8Long.f
  by_cases h48 : (c.length : Int) > 48
  · simp only [if_pos h48, Option.bind_some, if_true]
    exact Ev.now _
  by_cases h48' : (q.length : Int) > 48
  · simp only [if_neg h48, decide_eq_true h48', Option.bind_some, if_true]
    exact Ev.now _
  simp only [if_neg h48, decide_eq_false h48', Option.bind_some, Bool.false_eq_true, if_false]
  obtain ⟨n, l, hr8, hok⟩ := r8_ok hc8 (by omega)
  refine Ev.bind hr8 ?_
  have h256 := okC_len hok
  have hrings : Ev (fun k => impl_RingsOf.f k n l) (ringsUp l l.length, true) := by
    unfold impl_RingsOf.f
    simp only [okC_form, hok, decide_true, Option.bind_some, if_true]
    exact Ev.bind (implRings_ev hok) (Ev.now _)
  refine Ev.bind hrings ?_
  have hpos := ringsUp_pos hok
  simp only [if_true, if_neg (show ¬ ((ringsUp l l.length).length : Int) = 0 by omega), okC_form, hok, decide_true, Option.bind_some, Bool.not_true]
  refine Ev.succ ?_
  simp only [laws_FnRings.j0, Bool.false_eq_true, if_false, if_pos (show (0 : Int) ≤ (l.length : Int) by omega), Int.toNat_natCast, if_pos (show l.length ≤ 281474976710656 by omega)]
  refine rings_round hok q (fun seen hs => ?_) (ringsUp l l.length).length 0 _ (Nat.zero_add _) (sOk_iff (sOk_start l) (fun y => by simp))
  have hs2 : sOk l seen (fun y => tailOf l y = 0) := ⟨hs.1, fun y hy => (hs.2 y hy).trans (rings_cyc hok (isSt_nat hok hy))⟩
  exact tails_round hok q hq seen hs2 l.length 0 (Nat.zero_add _)
end Go.Proofs.Ytomepieklgplgaa.Pure
