/- What the program's ValidCounter answers, for all counters: the contract of the Go function. -/
import Derived.Test.YtomepieklgplgaaP2
import Derived.Test.YtomepieklgplgaaBase
import Derived.Test.YtomepieklgplgaaStates
import Derived.Deep.QuietTactic
import Derived.BigQuiet
import Derived.Lib.Hide
import Derived.Shelf.Abstract
namespace Go.Proofs.Ytomepieklgplgaa.P
open Go.RowKit Go.Proofs.YtomepieklgplgaaW.PrintWords Go.Proofs.YtomepieklgplgaaW.PrintLast Go.Proofs.YtomepieklgplgaaW.PrintMore
set_option linter.unusedVariables false
set_option linter.unusedSimpArgs false

/-- The bit: some number is no state of n bits. -/
def isStB (n x : Int) : Bool := decide (isSt n x)
def impl_ValidCounter.f (a0_0 : Int) (l0_1 : List Int) : Option (Bool) :=
  if 1 ≤ a0_0 ∧ a0_0 ≤ 8 ∧ l0_1.length = 2 ^ a0_0.toNat then some (!(l0_1.any fun x => !isStB a0_0 x)) else some false

theorem stateOf_form (n x : Int) : impl_isStateOf.f n x = some (isStB n x) := isStateOf_form n x

set_option maxHeartbeats 1600000 in
theorem valid_step (n x : Int) (g : Nat) (W : World) (c0 : W.cell? ⟨g, 0, none⟩ = some (.int .i64 n)) :
    Calls Try.prog 51 #[.int .i64 x, .pointer (some ⟨g, 0, none⟩)] W fun e W' => e = .returned (.bool (!isStB n x)) ∧ ∃ m, W' = W.drewN m := by
  have HS := Aside0.mk (stateOf_form n x)
  go_enter Try.func51, Try.ntmps51
  go_wp2_with (first | (go_at_call 52; refine (impl_isStateOf.calls n x _ _ HS.out).mono ?_; rintro e w' ⟨rfl, ⟨nd, rfl⟩⟩))
  go_ret
  exact ⟨rfl, _, rfl⟩

set_option maxHeartbeats 1600000 in
/-- slices.IndexFunc over the counter's closure: it tells whether some number is no state. -/
theorem valid_index (n : Int) (g : Nat) (A : Option Addr) (c : Nat) (l : List Int) (W : World) (c0 : W.cell? ⟨g, 0, none⟩ = some (.int .i64 n)) (hr : Kd.C (Kd.int .i64) W A l.length l) (hc : l.length ≤ c) (hL : l.length ≤ 256) :
    Calls Try.prog 86 #[.slice A l.length c, .func (.func 51) #[] #[.pointer (some ⟨g, 0, none⟩)]] W fun e W' => (∃ r : Int, e = .returned (.int .i64 r) ∧ (0 ≤ r ↔ (l.any fun x => !isStB n x) = true)) ∧ ∃ m, W' = W.drewN m := by
  have HR := Aside0.mk hr
  have HC0 := Aside0.mk c0
  have eg : ∀ args w, (callFunc 51 args).run Try.prog w = .ok (.enter 51 args) w := enters_of Try.func51 (by kernel_rfl) rfl
  clear hr c0
  go_enter Try.func86, Try.ntmps86
  go_wp2
  go_loopg [8] l.length (fun gk v8 w' => ∃ i : Nat, v8 = .int .i64 (i : Int) ∧ i + gk = l.length ∧ Aside0 ((l.take i).any (fun x => !isStB n x) = false) ∧ ∃ m, w' = W.drewN m)
  case atStart => exact ⟨0, rfl, by omega, ⟨by simp⟩, 0, rfl⟩
  case round =>
    obtain ⟨i, rfl, hi, HA, m, rfl⟩ := hrel
    by_cases hlt : i < l.length
    · obtain ⟨k1, rfl⟩ : ∃ m, gk = m + 1 := ⟨gk - 1, by omega⟩
      have hlti : decide ((i : Int) < (l.length : Int)) = true := decide_eq_true (by omega)
      have p1 : (0 : Int) ≤ (i : Int) := by omega
      have q1 : (i : Int) < (l.length : Int) := by omega
      obtain ⟨ad, e321, hx⟩ := Kd.at_int HR.out (i : Int) p1 q1
      cases e321
      rw [Int.toNat_natCast] at hx
      have er : rd l (i : Int) = l[i] := rd_at l i hlt
      have HE := Aside0.mk er
      clear er
      cases hb : isStB n (rd l (i : Int)) with
      | true =>
        have cS := valid_step n (rd l (i : Int)) g (W.drewN m) HC0.out
        rw [hb] at cS
        simp only [Bool.not_true, Bool.not_false] at cS
        have HB := Aside0.mk hb
        clear hb
        go_wp2_with (first | (go_at_fn 51; refine cS.mono ?_; rintro e W' ⟨rfl, m2, rfl⟩))
        go_roundg k1
        case measure => omega
        case rel =>
          refine ⟨i + 1, by go_num, by omega, ⟨?_⟩, m + m2, rfl⟩
          rw [← List.take_append_getElem hlt, List.any_append, HA.out, List.any_cons, List.any_nil, ← HE.out, HB.out]
          rfl
      | false =>
        have cS := valid_step n (rd l (i : Int)) g (W.drewN m) HC0.out
        rw [hb] at cS
        simp only [Bool.not_true, Bool.not_false] at cS
        have HB := Aside0.mk hb
        clear hb
        go_wp2_with (first | (go_at_fn 51; refine cS.mono ?_; rintro e W' ⟨rfl, m2, rfl⟩))
        go_ret
        refine ⟨⟨(i : Int), rfl, ?_⟩, m + m2, rfl⟩
        refine ⟨fun _ => ?_, fun _ => p1⟩
        rw [List.any_eq_true]
        exact ⟨l[i], List.getElem_mem hlt, by rw [← HE.out, HB.out]; rfl⟩
    · have hge : decide ((i : Int) < (l.length : Int)) = false := decide_eq_false (by omega)
      go_wp2
      go_ret
      refine ⟨⟨-1, rfl, ?_⟩, m, rfl⟩
      have := HA.out
      rw [List.take_of_length_le (by omega)] at this
      rw [this]
      decide

set_option maxHeartbeats 1600000 in
theorem valid_contains (n : Int) (g : Nat) (A : Option Addr) (c : Nat) (l : List Int) (W : World) (c0 : W.cell? ⟨g, 0, none⟩ = some (.int .i64 n)) (hr : Kd.C (Kd.int .i64) W A l.length l) (hc : l.length ≤ c) (hL : l.length ≤ 256) :
    Calls Try.prog 50 #[.slice A l.length c, .func (.func 51) #[] #[.pointer (some ⟨g, 0, none⟩)]] W fun e W' => e = .returned (.bool (l.any fun x => !isStB n x)) ∧ ∃ m, W' = W.drewN m := by
  have HR := Aside0.mk hr
  have HC0 := Aside0.mk c0
  clear hr c0
  go_enter Try.func50, Try.ntmps50
  go_wp2_with (first | (go_at_call 86; refine (valid_index n g A c l _ HC0.out HR.out hc hL).mono ?_; rintro e W' ⟨⟨r, rfl, hr⟩, m2, rfl⟩; have HX := Aside0.mk hr; clear hr))
  go_ret
  refine ⟨?_, _, rfl⟩
  have e : (l.any fun x => !isStB n x) = decide (0 ≤ r) := by rw [Bool.eq_iff_iff, decide_eq_true_eq]; exact HX.out.symm
  rw [e]; rfl

set_option maxHeartbeats 1600000 in
theorem valid_yes (n : Int) (A : Option Addr) (c : Nat) (l : List Int) (w : World) (hr : Kd.C (Kd.int .i64) w A l.length l) (hc : l.length ≤ c) (h1 : 1 ≤ n) (h8 : n ≤ 8) (hl : (l.length : Int) = 2 ^ n.toNat) :
    Calls Try.prog 18 #[.agg #[.int .i64 n, .slice A l.length c]] w fun e w' => e = .returned (.bool (!(l.any fun x => !isStB n x))) ∧ Below w.heap.size w w' := by
  have hbits : impl_isBits.f n = some true := by rw [isBits_form, decide_eq_true ⟨h1, h8⟩]
  have hsh : shl .i64 1 n = (l.length : Int) := by rw [shl1 (by omega) (by omega), hl]
  have HT := Aside0.mk hbits
  have HR := Aside0.mk ((Kd.C_alloc hr (.cells #[.int .i64 n, .slice A l.length c] 26)))
  have h0 := blk_new w (.cells #[.int .i64 n, .slice A l.length c] 26)
  have c0 : (w.alloc (.cells #[.int .i64 n, .slice A l.length c] 26)).cell? ⟨w.heap.size, 0, none⟩ = some (.int .i64 n) := (blk_cell h0 0).trans rfl
  have c1 : (w.alloc (.cells #[.int .i64 n, .slice A l.length c] 26)).cell? ⟨w.heap.size, 1, none⟩ = some (.slice A l.length c) := (blk_cell h0 1).trans rfl
  have cc : ∀ k, ((w.alloc (.cells #[.int .i64 n, .slice A l.length c] 26)).drewN k).cell? ⟨w.heap.size, 0, none⟩ = some (.int .i64 n) := fun _ => c0
  have CC := Aside0.mk cc
  clear cc
  have p1 : (0 : Int) ≤ n := by omega
  have hsw : IntKind.i64.wrap (2 ^ n.toNat) = (l.length : Int) := by rw [← hl, i64_w]; have := (pow_256 ⟨h1, h8⟩).2; exact w64 (by omega) (by omega)
  have hL : l.length ≤ 256 := by have := (pow_256 ⟨h1, h8⟩).2; omega
  clear hbits hr h0 hl
  go_enter Try.func18, Try.ntmps18
  go_wp2
  go_quiet (first | (go_at_call 49; refine (impl_isBits.calls n true _ HT.out).mono ?_; rintro e w' ⟨rfl, ⟨nd, rfl⟩⟩; exact ⟨rfl, _, World.drewN_drewN _ _ _⟩) | (go_at_call 50; refine (valid_contains n w.heap.size A c l _ (CC.out _) (Kd.C_drewN HR.out _) hc hL).mono ?_; rintro e w' ⟨rfl, ⟨nd, rfl⟩⟩; exact ⟨rfl, _, World.drewN_drewN _ _ _⟩))
  go_wp2
  go_ret
  exact ⟨rfl, by repeat (first | (with_reducible first | exact Below.refl _ _ | apply below_alloc | apply pw_below_drewN | apply below_drew1) | exact Below.refl _ _)⟩

set_option maxHeartbeats 1600000 in
theorem valid_no1 (n : Int) (A : Option Addr) (c : Nat) (l : List Int) (w : World) (hr : Kd.C (Kd.int .i64) w A l.length l) (hc : l.length ≤ c) (hb : ¬ (1 ≤ n ∧ n ≤ 8)) :
    Calls Try.prog 18 #[.agg #[.int .i64 n, .slice A l.length c]] w fun e w' => e = .returned (.bool false) ∧ Below w.heap.size w w' := by
  have hbits : impl_isBits.f n = some false := by rw [isBits_form, decide_eq_false hb]
  have HT := Aside0.mk hbits
  have HR := Aside0.mk ((Kd.C_alloc hr (.cells #[.int .i64 n, .slice A l.length c] 26)))
  have h0 := blk_new w (.cells #[.int .i64 n, .slice A l.length c] 26)
  have c0 : (w.alloc (.cells #[.int .i64 n, .slice A l.length c] 26)).cell? ⟨w.heap.size, 0, none⟩ = some (.int .i64 n) := (blk_cell h0 0).trans rfl
  have c1 : (w.alloc (.cells #[.int .i64 n, .slice A l.length c] 26)).cell? ⟨w.heap.size, 1, none⟩ = some (.slice A l.length c) := (blk_cell h0 1).trans rfl
  clear hbits hr h0
  go_enter Try.func18, Try.ntmps18
  go_wp2
  go_quiet (first | (go_at_call 49; refine (impl_isBits.calls n false _ HT.out).mono ?_; rintro e w' ⟨rfl, ⟨nd, rfl⟩⟩; exact ⟨rfl, _, World.drewN_drewN _ _ _⟩))
  go_wp2
  go_ret
  exact ⟨rfl, by repeat (first | (with_reducible first | exact Below.refl _ _ | apply below_alloc | apply pw_below_drewN | apply below_drew1) | exact Below.refl _ _)⟩

set_option maxHeartbeats 1600000 in
theorem valid_no2 (n : Int) (A : Option Addr) (c : Nat) (l : List Int) (w : World) (hr : Kd.C (Kd.int .i64) w A l.length l) (hc : l.length ≤ c) (h1 : 1 ≤ n) (h8 : n ≤ 8) (hl : ¬ (l.length : Int) = 2 ^ n.toNat) :
    Calls Try.prog 18 #[.agg #[.int .i64 n, .slice A l.length c]] w fun e w' => e = .returned (.bool false) ∧ Below w.heap.size w w' := by
  have hbits : impl_isBits.f n = some true := by rw [isBits_form, decide_eq_true ⟨h1, h8⟩]
  have HT := Aside0.mk hbits
  have HR := Aside0.mk ((Kd.C_alloc hr (.cells #[.int .i64 n, .slice A l.length c] 26)))
  have h0 := blk_new w (.cells #[.int .i64 n, .slice A l.length c] 26)
  have c0 : (w.alloc (.cells #[.int .i64 n, .slice A l.length c] 26)).cell? ⟨w.heap.size, 0, none⟩ = some (.int .i64 n) := (blk_cell h0 0).trans rfl
  have c1 : (w.alloc (.cells #[.int .i64 n, .slice A l.length c] 26)).cell? ⟨w.heap.size, 1, none⟩ = some (.slice A l.length c) := (blk_cell h0 1).trans rfl
  have cc : ∀ k, ((w.alloc (.cells #[.int .i64 n, .slice A l.length c] 26)).drewN k).cell? ⟨w.heap.size, 0, none⟩ = some (.int .i64 n) := fun _ => c0
  have CC := Aside0.mk cc
  clear cc
  have p1 : (0 : Int) ≤ n := by omega
  have hsw : IntKind.i64.wrap (2 ^ n.toNat) = 2 ^ n.toNat := by rw [i64_w]; have := pow_256 ⟨h1, h8⟩; exact w64 (by omega) (by omega)
  have hne : ((l.length : Int) == 2 ^ n.toNat) = false := beq_eq_false_iff_ne.mpr hl
  clear hbits hr h0 hl
  go_enter Try.func18, Try.ntmps18
  go_wp2
  go_quiet (first | (go_at_call 49; refine (impl_isBits.calls n true _ HT.out).mono ?_; rintro e w' ⟨rfl, ⟨nd, rfl⟩⟩; exact ⟨rfl, _, World.drewN_drewN _ _ _⟩))
  go_wp2
  go_ret
  exact ⟨rfl, by repeat (first | (with_reducible first | exact Below.refl _ _ | apply below_alloc | apply pw_below_drewN | apply below_drew1) | exact Below.refl _ _)⟩

theorem impl_ValidCounter.calls (a0_0 : Int) (A0_1 : Option Addr) (c0_1 : Nat) (l0_1 : List Int) (r : Bool) (w : World) (hr0_1 : Kd.C (Kd.int .i64) w A0_1 l0_1.length l0_1) (hc0_1 : l0_1.length ≤ c0_1) (h : impl_ValidCounter.f a0_0 l0_1 = some r) :
    Calls Try.prog 18 #[.agg #[.int .i64 a0_0, .slice A0_1 l0_1.length c0_1]] w fun e w' => e = .returned (.bool r) ∧ Below w.heap.size w w' := by
  unfold impl_ValidCounter.f at h
  split at h
  · rename_i hc
    obtain rfl := Option.some.inj h
    have hl : (l0_1.length : Int) = 2 ^ a0_0.toNat := by rw [hc.2.2]; exact_mod_cast rfl
    exact valid_yes a0_0 A0_1 c0_1 l0_1 w hr0_1 hc0_1 hc.1 hc.2.1 hl
  · rename_i hc
    obtain rfl := Option.some.inj h
    by_cases hb : 1 ≤ a0_0 ∧ a0_0 ≤ 8
    · have hl : ¬ (l0_1.length : Int) = 2 ^ a0_0.toNat := fun z => hc ⟨hb.1, hb.2, by exact_mod_cast z⟩
      exact valid_no2 a0_0 A0_1 c0_1 l0_1 w hr0_1 hc0_1 hb.1 hb.2 hl
    · exact valid_no1 a0_0 A0_1 c0_1 l0_1 w hr0_1 hc0_1 hb
end Go.Proofs.Ytomepieklgplgaa.P
