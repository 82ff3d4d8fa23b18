/- What the program's OutputOf answers, for all arguments: the contract of the Go function; no condition. -/
import Derived.Test.YtomepieklgplgaaP3
import Derived.Test.YtomepieklgplgaaP7
import Derived.Test.YtomepieklgplgaaWaveOf
import Derived.Test.YtomepieklgplgaaOkC
import Derived.Deep.QuietTactic
import Derived.BigQuiet
import Derived.Lib.Hide
import Derived.Test.YtomepieklgplgaaBase
import Derived.Test.YtomepieklgplgaaForms
import Derived.Test.YtomepieklgplgaaStates
namespace Go.Proofs.Ytomepieklgplgaa.P
open Go.RowKit Go.Proofs.YtomepieklgplgaaW.PrintWords Go.Proofs.YtomepieklgplgaaW.PrintLast Go.Proofs.YtomepieklgplgaaW.PrintMore
set_option linter.unusedVariables false
set_option linter.unusedSimpArgs false

def outBit (l : List Int) (x b : Int) (i : Nat) : Bool := Go.bits .and .i64 (shr .i64 (outX l x i) b) 1 == 1
def outOk (n : Int) (l : List Int) (x b t : Int) : Prop := okC n l ∧ isSt n x ∧ (0 ≤ b ∧ b ≤ n - 1) ∧ (0 ≤ t ∧ t ≤ 400)
instance (n : Int) (l : List Int) (x b t : Int) : Decidable (outOk n l x b t) := by unfold outOk; infer_instance
def impl_OutputOf.f (a0_0 : Int) (l0_1 : List Int) (a1 : Int) (a2 : Int) (a3 : Int) : Option (ByteArray × Bool) :=
  if outOk a0_0 l0_1 a1 a2 a3 then some (waveStr (outBit l0_1 a1 a2) a3.toNat, true) else some (⟨#[]⟩, false)

set_option maxHeartbeats 1600000 in
theorem isTicks_calls (t : Int) (w : World) : Calls Try.prog 72 #[.int .i64 t] w fun e w' => e = .returned (.bool (decide (0 ≤ t ∧ t ≤ 400))) ∧ ∃ m, w' = w.drewN m := by
  have HT := Aside0.mk (within_form t 0 400)
  go_enter Try.func72, Try.ntmps72
  go_wp2_with (first | (go_at_call 55; refine (impl_within.calls t 0 400 _ _ HT.out).mono ?_; rintro e w' ⟨rfl, ⟨nd, rfl⟩⟩))
  go_ret
  exact ⟨by rw [Bool.decide_and]; rfl, _, rfl⟩

set_option maxHeartbeats 1600000 in
theorem out_step (i : Int) (n x b : Int) (A : Option Addr) (c : Nat) (l : List Int) (bx bb bc : Nat) (W : World) (h0 : W.heap[bx]? = some (.cells #[.int .i64 x] 2 (0, 0))) (h1 : W.heap[bb]? = some (.cells #[.int .i64 b] 2 (0, 0)))
    (h2 : W.heap[bc]? = some (.cells #[.int .i64 n, .slice A l.length c] 26 (0, 0))) (hr : Kd.C (Kd.int .i64) W A l.length l) (k1 : 0 ≤ x) (k2 : x < (l.length : Int)) (k3 : 0 ≤ b) :
    Calls Try.prog 74 #[.int .i64 i, .pointer (some ⟨bx, 0, none⟩), .pointer (some ⟨bb, 0, none⟩), .pointer (some ⟨bc, 0, none⟩)] W fun e W' => e = .returned (.bool (Go.bits .and .i64 (shr .i64 x b) 1 == 1)) ∧ W'.heap[bx]? = some (.cells #[.int .i64 (rd l x)] 2 (0, 0)) ∧ KeepBut W W' bx none ∧ ∀ w0 : World, w0.heap.size ≤ bx → Below w0.heap.size w0 W → Below w0.heap.size w0 W' := by
  have HP := Aside0.mk h0
  have HK := Aside0.mk (KeepBut.refl W bx none)
  have c0 : W.cell? ⟨bx, 0, none⟩ = some (.int .i64 x) := (blk_cell h0 0).trans rfl
  have c1 : W.cell? ⟨bb, 0, none⟩ = some (.int .i64 b) := (blk_cell h1 0).trans rfl
  have c2 : W.cell? ⟨bc, 1, none⟩ = some (.slice A l.length c) := (blk_cell h2 1).trans rfl
  have f2 : W.frozen? ⟨bx, 0, none⟩ = false := blk_frozen h0 0
  obtain ⟨ad, e321, hx⟩ := Kd.at_int hr x k1 k2
  cases e321
  clear h0 h1 h2 hr
  go_enter Try.func74, Try.ntmps74
  go_wp2
  go_ret
  refine ⟨rfl, ?_, by repeat (first | exact HK.out | apply KeepBut.set_ | apply keep_drewN | apply keep_drew), fun w0 hle hb => by repeat (first | exact hb | apply pw_below_drewN | apply below_drew1 | refine below_set ?_ hle)⟩
  (with_reducible repeat (first | refine blk_drewN ?_ _ | refine blk_drew ?_ | refine blk_alloc ?_ _))
  exact blk_put (cs := #[.int .i64 x]) HP.out 0 _ rfl

theorem out_boxes (n x b : Int) (v : Value) (w : World) : ∃ W2, W2 = ((w.alloc (.cells #[.int .i64 n, v] 26)).alloc (.cells #[.int .i64 x] 2)).alloc (.cells #[.int .i64 b] 2) ∧ W2.heap.size = w.heap.size + 3 ∧
    W2.heap[w.heap.size]? = some (.cells #[.int .i64 n, v] 26 (0, 0)) ∧ W2.heap[w.heap.size + 1]? = some (.cells #[.int .i64 x] 2 (0, 0)) ∧ W2.heap[w.heap.size + 1 + 1]? = some (.cells #[.int .i64 b] 2 (0, 0)) ∧ Below w.heap.size w W2 := by
  obtain ⟨W2, hW2⟩ : ∃ W2, W2 = ((w.alloc (.cells #[.int .i64 n, v] 26)).alloc (.cells #[.int .i64 x] 2)).alloc (.cells #[.int .i64 b] 2) := ⟨_, rfl⟩
  refine ⟨W2, hW2, by rw [hW2]; simp, ?_, ?_, ?_, ?_⟩
  · rw [hW2]; exact blk_alloc (blk_alloc (blk_new _ _) _) _
  · rw [hW2]; refine blk_alloc ?_ _; have := blk_new (w.alloc (.cells #[.int .i64 n, v] 26)) (.cells #[.int .i64 x] 2); simpa using this
  · rw [hW2]; have := blk_new ((w.alloc (.cells #[.int .i64 n, v] 26)).alloc (.cells #[.int .i64 x] 2)) (.cells #[.int .i64 b] 2); simpa using this
  · rw [hW2]; exact (((Below.refl _ _).alloc (Nat.le_refl _) _).alloc (by simp) _).alloc (by simp; omega) _
theorem out_cells {n x b : Int} {v : Value} {w W2 w1 : World} (h : Below W2.heap.size W2 w1) (h0 : W2.heap[w.heap.size]? = some (.cells #[.int .i64 n, v] 26 (0, 0))) (h1 : W2.heap[w.heap.size + 1]? = some (.cells #[.int .i64 x] 2 (0, 0))) (h2 : W2.heap[w.heap.size + 1 + 1]? = some (.cells #[.int .i64 b] 2 (0, 0))) :
    w1.cell? ⟨w.heap.size, 0, none⟩ = some (.int .i64 n) ∧ w1.cell? ⟨w.heap.size, 1, none⟩ = some v ∧ w1.cell? ⟨w.heap.size + 1, 0, none⟩ = some (.int .i64 x) ∧ w1.cell? ⟨w.heap.size + 1 + 1, 0, none⟩ = some (.int .i64 b) :=
  ⟨(blk_cell (blk_below h0 h) 0).trans rfl, (blk_cell (blk_below h0 h) 1).trans rfl, (blk_cell (blk_below h1 h) 0).trans rfl, (blk_cell (blk_below h2 h) 0).trans rfl⟩

theorem out_wave (n x b : Int) (A : Option Addr) (c : Nat) (l : List Int) (t : Nat) (bx bb bc : Nat) (W : World) (h0 : W.heap[bx]? = some (.cells #[.int .i64 x] 2 (0, 0))) (h1 : W.heap[bb]? = some (.cells #[.int .i64 b] 2 (0, 0)))
    (h2 : W.heap[bc]? = some (.cells #[.int .i64 n, .slice A l.length c] 26 (0, 0))) (hr : Kd.C (Kd.int .i64) W A l.length l) (n1 : bb ≠ bx) (n2 : bc ≠ bx) (hok : outOk n l x b (t : Int)) (w : World) (hw : w.heap.size ≤ bx) (hr0 : Kd.C (Kd.int .i64) w A l.length l) (hB : Below w.heap.size w W) :
    Calls Try.prog 73 #[.int .i64 (t : Int), .func (.func 74) #[] #[.pointer (some ⟨bx, 0, none⟩), .pointer (some ⟨bb, 0, none⟩), .pointer (some ⟨bc, 0, none⟩)]] W fun e W' => e = .returned (.string (waveStr (outBit l x b) t)) ∧ Below w.heap.size w W' :=
  (waveOf_any 74 #[.pointer (some ⟨bx, 0, none⟩), .pointer (some ⟨bb, 0, none⟩), .pointer (some ⟨bc, 0, none⟩)] (enters_of Try.func74 (by kernel_rfl) rfl) t (by have := hok.2.2.2; omega) (outBit l x b)
    (fun i W' => Below w.heap.size w W' ∧ W'.heap[bx]? = some (.cells #[.int .i64 (outX l x i)] 2 (0, 0)) ∧ W'.heap[bb]? = some (.cells #[.int .i64 b] 2 (0, 0)) ∧ W'.heap[bc]? = some (.cells #[.int .i64 n, .slice A l.length c] 26 (0, 0))) bx W (blk_lt h0)
    ⟨hB, h0, h1, h2⟩
    (fun i W1 W2 hI hsz hb => ⟨hI.1.trans (hb.mono (by have := hB.size; omega)), (hb.block _ (blk_lt h0)).trans hI.2.1, (hb.block _ (blk_lt h1)).trans hI.2.2.1, (hb.block _ (blk_lt h2)).trans hI.2.2.2⟩)
    (fun i W1 hi hI hsz => by
      have hst := outX_st hok.1 hok.2.1 i
      refine (out_step (i : Int) n (outX l x i) b A c l bx bb bc W1 hI.2.1 hI.2.2.1 hI.2.2.2 (Kd.C_below hr0 hI.1) hst.2.1 (by have := hst.2.2; have := hok.1.2.1; omega) hok.2.2.1.1).mono fun e W' h => ?_
      obtain ⟨rfl, hp, hk, hbl⟩ := h
      exact ⟨rfl, ⟨hbl w hw hI.1, hp, hk.blk hI.2.2.1 n1 (by simp), hk.blk hI.2.2.2 n2 (by simp)⟩, hk⟩)).mono fun e W' h => ⟨h.1, h.2.1⟩


set_option maxHeartbeats 3200000 in
theorem out_no1 (n x b : Int) (A : Option Addr) (c : Nat) (l : List Int) (t : Int) (w : World) (hr : Kd.C (Kd.int .i64) w A l.length l) (hc : l.length ≤ c) (hs : ¬ (okC n l ∧ isSt n x)) :
    Calls Try.prog 33 #[.agg #[.int .i64 n, .slice A l.length c], .int .i64 x, .int .i64 b, .int .i64 t] w fun e w' => e = .returned (.tuple #[.string ⟨#[]⟩, .bool false]) ∧ Below w.heap.size w w' := by
  obtain ⟨W2, hW2, hsz, h0, h1, h2, hb⟩ := out_boxes n x b (.slice A l.length c) w
  have HS := Aside0.mk ((isState_form n l x).trans (congrArg some (decide_eq_false hs)))
  clear hs
  subst hW2
  have HB := Aside0.mk hb
  have H0 := Aside0.mk h0
  have H1 := Aside0.mk h1
  have H2 := Aside0.mk h2
  have HR0 := Aside0.mk hr
  have HR := Aside0.mk (Kd.C_below hr hb)
  have HC := Aside0.mk hc
  obtain ⟨c0, c1, c2, c3⟩ := out_cells (Below.refl _ _) h0 h1 h2
  clear hsz h0 h1 h2 hb hr hc
  go_enter Try.func33, Try.ntmps33
  go_wp2_with (first | (go_at_call 53; refine (impl_Counter_isState.calls n A c l x false _ HR.out HC.out HS.out).mono ?_; rintro e w1 ⟨rfl, hb1⟩; have HB1 := Aside0.mk hb1; obtain ⟨d0, d1, d2, d3⟩ := out_cells hb1 H0.out H1.out H2.out; have D0 := Aside0.mk (blk_below H0.out hb1); have D1 := Aside0.mk (blk_below H1.out hb1); have D2 := Aside0.mk (blk_below H2.out hb1); have DR := Aside0.mk (Kd.C_below HR.out hb1); clear hb1 c0 c1 c2 c3) | go_in)
  go_ret2
  exact ⟨rfl, by repeat (first | (with_reducible first | exact below_step HB.out HB1.out | apply pw_below_drewN) | exact below_step HB.out HB1.out)⟩

set_option maxHeartbeats 3200000 in
theorem out_no2 (n x b : Int) (A : Option Addr) (c : Nat) (l : List Int) (t : Int) (w : World) (hr : Kd.C (Kd.int .i64) w A l.length l) (hc : l.length ≤ c) (hs : okC n l ∧ isSt n x) (hbit : ¬ (0 ≤ b ∧ b ≤ n - 1)) :
    Calls Try.prog 33 #[.agg #[.int .i64 n, .slice A l.length c], .int .i64 x, .int .i64 b, .int .i64 t] w fun e w' => e = .returned (.tuple #[.string ⟨#[]⟩, .bool false]) ∧ Below w.heap.size w w' := by
  obtain ⟨W2, hW2, hsz, h0, h1, h2, hb⟩ := out_boxes n x b (.slice A l.length c) w
  have HS := Aside0.mk ((isState_form n l x).trans (congrArg some (decide_eq_true hs)))
  have hn8 := hs.1.1
  have hwr : wrap64 (n - 1) = n - 1 := w64 (by omega) (by omega)
  have HW := Aside0.mk ((within_form b 0 (n - 1)).trans (congrArg some (decide_eq_false hbit)))
  clear hs hbit
  subst hW2
  have HB := Aside0.mk hb
  have H0 := Aside0.mk h0
  have H1 := Aside0.mk h1
  have H2 := Aside0.mk h2
  have HR0 := Aside0.mk hr
  have HR := Aside0.mk (Kd.C_below hr hb)
  have HC := Aside0.mk hc
  obtain ⟨c0, c1, c2, c3⟩ := out_cells (Below.refl _ _) h0 h1 h2
  clear hsz h0 h1 h2 hb hr hc
  go_enter Try.func33, Try.ntmps33
  go_wp2_with (first | (go_at_call 53; refine (impl_Counter_isState.calls n A c l x true _ HR.out HC.out HS.out).mono ?_; rintro e w1 ⟨rfl, hb1⟩; have HB1 := Aside0.mk hb1; obtain ⟨d0, d1, d2, d3⟩ := out_cells hb1 H0.out H1.out H2.out; have D0 := Aside0.mk (blk_below H0.out hb1); have D1 := Aside0.mk (blk_below H1.out hb1); have D2 := Aside0.mk (blk_below H2.out hb1); have DR := Aside0.mk (Kd.C_below HR.out hb1); clear hb1 c0 c1 c2 c3) | (go_at_call 55; refine (impl_within.calls b 0 (n - 1) false _ HW.out).mono ?_; rintro e w2 ⟨rfl, ⟨nd, rfl⟩⟩) | go_in)
  go_ret2
  exact ⟨rfl, by repeat (first | (with_reducible first | exact below_step HB.out HB1.out | apply pw_below_drewN) | exact below_step HB.out HB1.out)⟩

set_option maxHeartbeats 3200000 in
theorem out_no3 (n x b : Int) (A : Option Addr) (c : Nat) (l : List Int) (t : Int) (w : World) (hr : Kd.C (Kd.int .i64) w A l.length l) (hc : l.length ≤ c) (hs : okC n l ∧ isSt n x) (hbit : 0 ≤ b ∧ b ≤ n - 1) (ht : ¬ (0 ≤ t ∧ t ≤ 400)) :
    Calls Try.prog 33 #[.agg #[.int .i64 n, .slice A l.length c], .int .i64 x, .int .i64 b, .int .i64 t] w fun e w' => e = .returned (.tuple #[.string ⟨#[]⟩, .bool false]) ∧ Below w.heap.size w w' := by
  obtain ⟨W2, hW2, hsz, h0, h1, h2, hb⟩ := out_boxes n x b (.slice A l.length c) w
  have HS := Aside0.mk ((isState_form n l x).trans (congrArg some (decide_eq_true hs)))
  have hn8 := hs.1.1
  have hwr : wrap64 (n - 1) = n - 1 := w64 (by omega) (by omega)
  have HW := Aside0.mk ((within_form b 0 (n - 1)).trans (congrArg some (decide_eq_true hbit)))
  have htk : decide (0 ≤ t ∧ t ≤ 400) = false := decide_eq_false ht
  clear hs hbit ht
  subst hW2
  have HB := Aside0.mk hb
  have H0 := Aside0.mk h0
  have H1 := Aside0.mk h1
  have H2 := Aside0.mk h2
  have HR0 := Aside0.mk hr
  have HR := Aside0.mk (Kd.C_below hr hb)
  have HC := Aside0.mk hc
  obtain ⟨c0, c1, c2, c3⟩ := out_cells (Below.refl _ _) h0 h1 h2
  clear hsz h0 h1 h2 hb hr hc
  go_enter Try.func33, Try.ntmps33
  go_wp2_with (first | (go_at_call 53; refine (impl_Counter_isState.calls n A c l x true _ HR.out HC.out HS.out).mono ?_; rintro e w1 ⟨rfl, hb1⟩; have HB1 := Aside0.mk hb1; obtain ⟨d0, d1, d2, d3⟩ := out_cells hb1 H0.out H1.out H2.out; have D0 := Aside0.mk (blk_below H0.out hb1); have D1 := Aside0.mk (blk_below H1.out hb1); have D2 := Aside0.mk (blk_below H2.out hb1); have DR := Aside0.mk (Kd.C_below HR.out hb1); clear hb1 c0 c1 c2 c3) | (go_at_call 55; refine (impl_within.calls b 0 (n - 1) true _ HW.out).mono ?_; rintro e w2 ⟨rfl, ⟨nd, rfl⟩⟩) | (go_at_call 72; refine (isTicks_calls t _).mono ?_; rintro e w3 ⟨rfl, ⟨ne, rfl⟩⟩; rw [htk]) | go_in)
  go_ret2
  exact ⟨rfl, by repeat (first | (with_reducible first | exact below_step HB.out HB1.out | apply pw_below_drewN) | exact below_step HB.out HB1.out)⟩

set_option maxHeartbeats 3200000 in
theorem out_yes (n x b : Int) (A : Option Addr) (c : Nat) (l : List Int) (t : Nat) (w : World) (hr : Kd.C (Kd.int .i64) w A l.length l) (hc : l.length ≤ c) (hk : outOk n l x b (t : Int)) :
    Calls Try.prog 33 #[.agg #[.int .i64 n, .slice A l.length c], .int .i64 x, .int .i64 b, .int .i64 (t : Int)] w fun e w' => e = .returned (.tuple #[.string (waveStr (outBit l x b) t), .bool true]) ∧ Below w.heap.size w w' := by
  obtain ⟨W2, hW2, hsz, h0, h1, h2, hb⟩ := out_boxes n x b (.slice A l.length c) w
  have HK := Aside0.mk hk
  obtain ⟨hs1, hs2, hbit, ht⟩ := hk
  have hs := And.intro hs1 hs2
  have HS := Aside0.mk ((isState_form n l x).trans (congrArg some (decide_eq_true hs)))
  have hn8 := hs.1.1
  have hwr : wrap64 (n - 1) = n - 1 := w64 (by omega) (by omega)
  have HW := Aside0.mk ((within_form b 0 (n - 1)).trans (congrArg some (decide_eq_true hbit)))
  have htk : decide (0 ≤ (t : Int) ∧ (t : Int) ≤ 400) = true := decide_eq_true ht
  clear hs hs1 hs2 hbit ht
  subst hW2
  have HB := Aside0.mk hb
  have H0 := Aside0.mk h0
  have H1 := Aside0.mk h1
  have H2 := Aside0.mk h2
  have HR0 := Aside0.mk hr
  have HR := Aside0.mk (Kd.C_below hr hb)
  have HC := Aside0.mk hc
  obtain ⟨c0, c1, c2, c3⟩ := out_cells (Below.refl _ _) h0 h1 h2
  clear hsz h0 h1 h2 hb hr hc
  go_enter Try.func33, Try.ntmps33
  go_wp2_with (first | (go_at_call 53; refine (impl_Counter_isState.calls n A c l x true _ HR.out HC.out HS.out).mono ?_; rintro e w1 ⟨rfl, hb1⟩; have HB1 := Aside0.mk hb1; obtain ⟨d0, d1, d2, d3⟩ := out_cells hb1 H0.out H1.out H2.out; have D0 := Aside0.mk (blk_below H0.out hb1); have D1 := Aside0.mk (blk_below H1.out hb1); have D2 := Aside0.mk (blk_below H2.out hb1); have DR := Aside0.mk (Kd.C_below HR.out hb1); have CW := Aside0.mk (fun k => out_wave n x b A c l t (w.heap.size + 1) (w.heap.size + 1 + 1) w.heap.size (w1.drewN k) D1.out D2.out D0.out (Kd.C_drewN DR.out k) (by omega) (by omega) HK.out w (by omega) HR0.out (pw_below_drewN (below_step HB.out HB1.out) k)); clear hb1 c0 c1 c2 c3) | (go_at_call 55; refine (impl_within.calls b 0 (n - 1) true _ HW.out).mono ?_; rintro e w2 ⟨rfl, ⟨nd, rfl⟩⟩) | (go_at_call 72; refine (isTicks_calls (t : Int) _).mono ?_; rintro e w3 ⟨rfl, ⟨ne, rfl⟩⟩; rw [htk]) | (go_at_call 73; refine (CW.out _).mono ?_; rintro e w4 ⟨rfl, hb4⟩; have HB4 := Aside0.mk hb4; clear hb4) | go_in)
  go_ret2
  exact ⟨rfl, HB4.out⟩

theorem impl_OutputOf.calls (a0_0 : Int) (A0_1 : Option Addr) (c0_1 : Nat) (l0_1 : List Int) (a1 : Int) (a2 : Int) (a3 : Int) (r1 : ByteArray) (r2 : Bool) (w : World) (hr0_1 : Kd.C (Kd.int .i64) w A0_1 l0_1.length l0_1) (hc0_1 : l0_1.length ≤ c0_1) (h : impl_OutputOf.f a0_0 l0_1 a1 a2 a3 = some (r1, r2)) :
    Calls Try.prog 33 #[.agg #[.int .i64 a0_0, .slice A0_1 l0_1.length c0_1], .int .i64 a1, .int .i64 a2, .int .i64 a3] w fun e w' => e = .returned (.tuple #[.string r1, .bool r2]) ∧ Below w.heap.size w w' := by
  unfold impl_OutputOf.f at h
  split at h
  · rename_i hok
    obtain ⟨t, rfl⟩ := Int.eq_ofNat_of_zero_le hok.2.2.2.1
    rw [Int.toNat_natCast] at h
    obtain ⟨rfl, rfl⟩ := Prod.mk.inj (Option.some.inj h)
    exact out_yes a0_0 a1 a2 A0_1 c0_1 l0_1 t w hr0_1 hc0_1 hok
  · rename_i hok
    obtain ⟨rfl, rfl⟩ := Prod.mk.inj (Option.some.inj h)
    by_cases hs : okC a0_0 l0_1 ∧ isSt a0_0 a1
    · by_cases hb : 0 ≤ a2 ∧ a2 ≤ a0_0 - 1
      · exact out_no3 a0_0 a1 a2 A0_1 c0_1 l0_1 a3 w hr0_1 hc0_1 hs hb (fun z => hok ⟨hs.1, hs.2, hb, z⟩)
      · exact out_no2 a0_0 a1 a2 A0_1 c0_1 l0_1 a3 w hr0_1 hc0_1 hs hb
    · exact out_no1 a0_0 a1 a2 A0_1 c0_1 l0_1 a3 w hr0_1 hc0_1 hs
end Go.Proofs.Ytomepieklgplgaa.P
