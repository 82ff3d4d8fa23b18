/- What the program's WaveFrom answers, for all lists and ticks: the contract of the Go function; no condition. -/
import Derived.Test.YtkhkmdddflaolaaP2
import Derived.Test.YtkhkmdddflaolaaP3
import Derived.Test.YtkhkmdddflaolaaP4
import Derived.Test.YtkhkmdddflaolaaP5
import Derived.Test.YtkhkmdddflaolaaSets
import Derived.Test.YtkhkmdddflaolaaWLast
import Derived.Test.YtkhkmdddflaolaaP1
import Derived.Deep.QuietTactic
import Derived.BigQuiet
import Derived.Lib.Hide
import Derived.Test.YtkhkmdddflaolaaBase
import Derived.Test.YtkhkmdddflaolaaForms
import Derived.Test.YtkhkmdddflaolaaFromLaw
import Derived.Test.YtkhkmdddflaolaaWaveOf
namespace Go.Proofs.Ytkhkmdddflaolaa.P
open Go.RowKit Go.Proofs.YtkhkmdddflaolaaW.PrintWords Go.Proofs.YtkhkmdddflaolaaW.PrintLast Go.Proofs.YtkhkmdddflaolaaW.PrintMore
set_option linter.unusedVariables false
set_option linter.unusedSimpArgs false

theorem isTicks_form (n : Int) : impl_isTicks.f n = some (decide (0 ≤ n ∧ n ≤ 400)) := by
  unfold impl_isTicks.f
  rw [within_form]; rfl
def impl_WaveFrom.f (l0 : List Int) (l1 : List Int) (a2 : Int) : Option (ByteArray × Bool) :=
  if l0.length ≤ 1048576 ∧ l1.length ≤ 1048576 then
    (if (0 ≤ a2 ∧ a2 ≤ 400) ∧ setB l0 (a2 - 1) = true ∧ setB l1 (a2 - 1) = true then
      (if collect (upAt l0 l1) a2.toNat = l0 ∧ collect (downAt l0 l1) a2.toNat = l1 then some (waveStr (fun i => levU l0 l1 (i + 1)) a2.toNat, true) else some (⟨#[]⟩, false))
    else some (⟨#[]⟩, false))
  else none

set_option maxHeartbeats 3200000 in
/-- One tick: what the closure does. -/
theorem from_step (i : Nat) (hi : i ≤ 400) (u d : List Int) (A0 A1 : Option Addr) (c0 c1 : Nat) (lv : Bool) (bu bl bd : Nat) (W : World) (h0 : W.heap[bu]? = some (.cells #[.slice A0 u.length c0] 27 (0, 0))) (h1 : W.heap[bl]? = some (.cells #[.bool lv] 4 (0, 0)))
    (h2 : W.heap[bd]? = some (.cells #[.slice A1 d.length c1] 27 (0, 0))) (hr0 : Kd.C (Kd.int .i64) W A0 u.length u) (hc0 : u.length ≤ c0) (hr1 : Kd.C (Kd.int .i64) W A1 d.length d) (hc1 : d.length ≤ c1) (hu : u.length ≤ 1048576) (hd : d.length ≤ 1048576) :
    Calls Try.prog 27 #[.int .i64 (i : Int), .pointer (some ⟨bu, 0, none⟩), .pointer (some ⟨bl, 0, none⟩), .pointer (some ⟨bd, 0, none⟩)] W fun e W' => e = .returned (.bool (if (i : Int) ∈ u then true else if (i : Int) ∈ d then false else lv)) ∧ W'.heap[bl]? = some (.cells #[.bool (if (i : Int) ∈ u then true else if (i : Int) ∈ d then false else lv)] 4 (0, 0)) ∧ KeepBut W W' bl none ∧ ∀ w0 : World, w0.heap.size ≤ bl → Below w0.heap.size w0 W → Below w0.heap.size w0 W' := by
  have HP := Aside0.mk h1
  have HK := Aside0.mk (KeepBut.refl W bl none)
  have HR0 := Aside0.mk hr0
  have HR1 := Aside0.mk hr1
  obtain ⟨k1, q1⟩ := contains_ev (l := u) (x := (i : Int)) hu
  obtain ⟨k2, q2⟩ := contains_ev (l := d) (x := (i : Int)) hd
  have Q1 := Aside0.mk (q1 k1 (Nat.le_refl _))
  have Q2 := Aside0.mk (q2 k2 (Nat.le_refl _))
  have e0 : W.cell? ⟨bu, 0, none⟩ = some (.slice A0 u.length c0) := (blk_cell h0 0).trans rfl
  have e1 : W.cell? ⟨bl, 0, none⟩ = some (.bool lv) := (blk_cell h1 0).trans rfl
  have e2 : W.cell? ⟨bd, 0, none⟩ = some (.slice A1 d.length c1) := (blk_cell h2 0).trans rfl
  have f1 : W.frozen? ⟨bl, 0, none⟩ = false := blk_frozen h1 0
  clear h0 h1 h2 hr0 hr1 q1 q2
  by_cases hm : (i : Int) ∈ u
  · have Q3 := Aside0.mk (Q1.out.trans (congrArg some (decide_eq_true hm)))
    simp only [if_pos hm]
    clear Q1
    have Q1 := Q3
    clear hm Q3
    go_enter Try.func27, Try.ntmps27
    go_wp2_with (first | (go_at_call 28; (with_reducible refine (slices_Contains_int64_int64.calls k1 _ _ u (i : Int) _ _ ?sA hc0 Q1.out).mono ?_); (case sA => first | exact HR0.out | exact Kd.C_drewN HR0.out _); rintro e w' ⟨rfl, ⟨nd, rfl⟩⟩) | (go_at_call 28; (with_reducible refine (slices_Contains_int64_int64.calls k2 _ _ d (i : Int) _ _ ?sA hc1 Q2.out).mono ?_); (case sA => first | exact HR1.out | exact Kd.C_drewN HR1.out _); rintro e w' ⟨rfl, ⟨nd, rfl⟩⟩))
    go_ret
    refine ⟨rfl, (by
      (with_reducible repeat (first | refine blk_drewN ?_ _ | refine blk_drew ?_ | refine blk_alloc ?_ _))
      refine blk_put (cs := #[.bool lv]) ?_ 0 _ rfl
      (with_reducible repeat (first | refine blk_drewN ?_ _ | refine blk_drew ?_ | refine blk_alloc ?_ _))
      exact HP.out), by repeat (first | exact HK.out | apply KeepBut.set_ | apply keep_drewN | apply keep_drew), fun w0 hle hb => by repeat (first | exact hb | apply pw_below_drewN | apply below_drew1 | refine below_set ?_ hle)⟩
  · have Q3 := Aside0.mk (Q1.out.trans (congrArg some (decide_eq_false hm)))
    simp only [if_neg hm]
    clear Q1
    have Q1 := Q3
    clear hm Q3
    by_cases hn : (i : Int) ∈ d
    · have Q3 := Aside0.mk (Q2.out.trans (congrArg some (decide_eq_true hn)))
      simp only [if_pos hn]
      clear Q2
      have Q2 := Q3
      clear hn Q3
      go_enter Try.func27, Try.ntmps27
      go_wp2_with (first | (go_at_call 28; (with_reducible refine (slices_Contains_int64_int64.calls k1 _ _ u (i : Int) _ _ ?sA hc0 Q1.out).mono ?_); (case sA => first | exact HR0.out | exact Kd.C_drewN HR0.out _); rintro e w' ⟨rfl, ⟨nd, rfl⟩⟩) | (go_at_call 28; (with_reducible refine (slices_Contains_int64_int64.calls k2 _ _ d (i : Int) _ _ ?sA hc1 Q2.out).mono ?_); (case sA => first | exact HR1.out | exact Kd.C_drewN HR1.out _); rintro e w' ⟨rfl, ⟨nd, rfl⟩⟩))
      go_ret
      refine ⟨rfl, (by
        (with_reducible repeat (first | refine blk_drewN ?_ _ | refine blk_drew ?_ | refine blk_alloc ?_ _))
        refine blk_put (cs := #[.bool lv]) ?_ 0 _ rfl
        (with_reducible repeat (first | refine blk_drewN ?_ _ | refine blk_drew ?_ | refine blk_alloc ?_ _))
        exact HP.out), by repeat (first | exact HK.out | apply KeepBut.set_ | apply keep_drewN | apply keep_drew), fun w0 hle hb => by repeat (first | exact hb | apply pw_below_drewN | apply below_drew1 | refine below_set ?_ hle)⟩
    · have Q3 := Aside0.mk (Q2.out.trans (congrArg some (decide_eq_false hn)))
      simp only [if_neg hn]
      clear Q2
      have Q2 := Q3
      clear hn Q3
      go_enter Try.func27, Try.ntmps27
      go_wp2_with (first | (go_at_call 28; (with_reducible refine (slices_Contains_int64_int64.calls k1 _ _ u (i : Int) _ _ ?sA hc0 Q1.out).mono ?_); (case sA => first | exact HR0.out | exact Kd.C_drewN HR0.out _); rintro e w' ⟨rfl, ⟨nd, rfl⟩⟩) | (go_at_call 28; (with_reducible refine (slices_Contains_int64_int64.calls k2 _ _ d (i : Int) _ _ ?sA hc1 Q2.out).mono ?_); (case sA => first | exact HR1.out | exact Kd.C_drewN HR1.out _); rintro e w' ⟨rfl, ⟨nd, rfl⟩⟩))
      go_ret
      refine ⟨rfl, (by
        (with_reducible repeat (first | refine blk_drewN ?_ _ | refine blk_drew ?_ | refine blk_alloc ?_ _))
        exact HP.out), by repeat (first | exact HK.out | apply KeepBut.set_ | apply keep_drewN | apply keep_drew), fun w0 hle hb => by repeat (first | exact hb | apply pw_below_drewN | apply below_drew1 | refine below_set ?_ hle)⟩

set_option maxHeartbeats 1600000 in
theorem from_wave (u d : List Int) (A0 A1 : Option Addr) (c0 c1 : Nat) (n : Nat) (hn : n ≤ 400) (bu bl bd : Nat) (W : World) (h0 : W.heap[bu]? = some (.cells #[.slice A0 u.length c0] 27 (0, 0))) (h1 : W.heap[bl]? = some (.cells #[.bool false] 4 (0, 0)))
    (h2 : W.heap[bd]? = some (.cells #[.slice A1 d.length c1] 27 (0, 0))) (hc0 : u.length ≤ c0) (hc1 : d.length ≤ c1) (hu : u.length ≤ 1048576) (hd : d.length ≤ 1048576) (n1 : bu ≠ bl) (n2 : bd ≠ bl) (w : World) (hw : w.heap.size ≤ bl) (hr0 : Kd.C (Kd.int .i64) w A0 u.length u) (hr1 : Kd.C (Kd.int .i64) w A1 d.length d) (hB : Below w.heap.size w W) :
    Calls Try.prog 17 #[.int .i64 (n : Int), .func (.func 27) #[] #[.pointer (some ⟨bu, 0, none⟩), .pointer (some ⟨bl, 0, none⟩), .pointer (some ⟨bd, 0, none⟩)]] W fun e W' => e = .returned (.string (waveStr (fun i => levU u d (i + 1)) n)) ∧ Below w.heap.size w W' ∧ W'.heap[bu]? = some (.cells #[.slice A0 u.length c0] 27 (0, 0)) ∧ W'.heap[bd]? = some (.cells #[.slice A1 d.length c1] 27 (0, 0)) :=
  (waveOf_any 27 #[.pointer (some ⟨bu, 0, none⟩), .pointer (some ⟨bl, 0, none⟩), .pointer (some ⟨bd, 0, none⟩)] (enters_of Try.func27 (by kernel_rfl) rfl) n (by omega) (fun i => levU u d (i + 1))
    (fun i W' => Below w.heap.size w W' ∧ W'.heap[bu]? = some (.cells #[.slice A0 u.length c0] 27 (0, 0)) ∧ W'.heap[bl]? = some (.cells #[.bool (levU u d i)] 4 (0, 0)) ∧ W'.heap[bd]? = some (.cells #[.slice A1 d.length c1] 27 (0, 0))) bl W (blk_lt h1)
    ⟨hB, h0, h1, h2⟩
    (fun i W1 W2 hI hsz hb => ⟨hI.1.trans (hb.mono (by have := hB.size; omega)), (hb.block _ (blk_lt h0)).trans hI.2.1, (hb.block _ (blk_lt h1)).trans hI.2.2.1, (hb.block _ (blk_lt h2)).trans hI.2.2.2⟩)
    (fun i W1 hi hI hsz => by
      refine (from_step i (by omega) u d A0 A1 c0 c1 (levU u d i) bu bl bd W1 hI.2.1 hI.2.2.1 hI.2.2.2 (Kd.C_below hr0 hI.1) hc0 (Kd.C_below hr1 hI.1) hc1 hu hd).mono fun e W' h => ?_
      obtain ⟨rfl, hp, hk, hbl⟩ := h
      exact ⟨rfl, ⟨hbl w hw hI.1, hk.blk hI.2.1 n1 (by simp), hp, hk.blk hI.2.2.2 n2 (by simp)⟩, hk⟩)).mono fun e W' h => ⟨h.1, h.2.1, h.2.2.1, h.2.2.2.2⟩

set_option maxHeartbeats 3200000 in
theorem from_no1 (u d : List Int) (A0 A1 : Option Addr) (c0 c1 : Nat) (n : Int) (w : World) (hr0 : Kd.C (Kd.int .i64) w A0 u.length u) (hc0 : u.length ≤ c0) (hr1 : Kd.C (Kd.int .i64) w A1 d.length d) (hc1 : d.length ≤ c1) (hu : u.length ≤ 1048576) (hd : d.length ≤ 1048576) (ht : ¬ (0 ≤ n ∧ n ≤ 400)) :
    Calls Try.prog 13 #[.slice A0 u.length c0, .slice A1 d.length c1, .int .i64 n] w fun e w' => e = .returned (.tuple #[.string ⟨#[]⟩, .bool false]) ∧ Below w.heap.size w w' := by
  have QT := Aside0.mk ((isTicks_form n).trans (congrArg some (decide_eq_false ht)))
  clear ht
  have HB := Aside0.mk ((((Below.refl w.heap.size w).alloc (Nat.le_refl _) (.cells #[.slice A0 u.length c0] 27)).alloc (by simp) (.cells #[.slice A1 d.length c1] 27)))
  have h0 : ((w.alloc (.cells #[.slice A0 u.length c0] 27)).alloc (.cells #[.slice A1 d.length c1] 27)).heap[w.heap.size]? = some (.cells #[.slice A0 u.length c0] 27 (0, 0)) := blk_alloc (blk_new _ _) _
  have h1 : ((w.alloc (.cells #[.slice A0 u.length c0] 27)).alloc (.cells #[.slice A1 d.length c1] 27)).heap[w.heap.size + 1]? = some (.cells #[.slice A1 d.length c1] 27 (0, 0)) := by have := blk_new (w.alloc (.cells #[.slice A0 u.length c0] 27)) (.cells #[.slice A1 d.length c1] 27); simpa using this
  have H0 := Aside0.mk h0
  have H1 := Aside0.mk h1
  have HR0 := Aside0.mk (Kd.C_alloc (Kd.C_alloc hr0 (.cells #[.slice A0 u.length c0] 27)) (.cells #[.slice A1 d.length c1] 27))
  have HR1 := Aside0.mk (Kd.C_alloc (Kd.C_alloc hr1 (.cells #[.slice A0 u.length c0] 27)) (.cells #[.slice A1 d.length c1] 27))
  have c2 : ((w.alloc (.cells #[.slice A0 u.length c0] 27)).alloc (.cells #[.slice A1 d.length c1] 27)).cell? ⟨w.heap.size, 0, none⟩ = some (.slice A0 u.length c0) := (blk_cell h0 0).trans rfl
  have c3 : ((w.alloc (.cells #[.slice A0 u.length c0] 27)).alloc (.cells #[.slice A1 d.length c1] 27)).cell? ⟨w.heap.size + 1, 0, none⟩ = some (.slice A1 d.length c1) := (blk_cell h1 0).trans rfl
  clear h0 h1 hr0 hr1
  go_enter Try.func13, Try.ntmps13
  go_wp2_with (first | (go_at_call 22; (with_reducible refine (impl_isTicks.calls n _ _ QT.out).mono ?_); rintro e w' ⟨rfl, ⟨nd, rfl⟩⟩))
  go_ret2
  exact ⟨rfl, by repeat (first | (with_reducible first | exact HB.out | apply below_alloc | apply pw_below_drewN | apply below_drew1) | exact HB.out)⟩

set_option maxHeartbeats 3200000 in
theorem from_no2 (u d : List Int) (A0 A1 : Option Addr) (c0 c1 : Nat) (n : Int) (w : World) (hr0 : Kd.C (Kd.int .i64) w A0 u.length u) (hc0 : u.length ≤ c0) (hr1 : Kd.C (Kd.int .i64) w A1 d.length d) (hc1 : d.length ≤ c1) (hu : u.length ≤ 1048576) (hd : d.length ≤ 1048576) (ht : 0 ≤ n ∧ n ≤ 400) (hs : setB u (n - 1) = false) :
    Calls Try.prog 13 #[.slice A0 u.length c0, .slice A1 d.length c1, .int .i64 n] w fun e w' => e = .returned (.tuple #[.string ⟨#[]⟩, .bool false]) ∧ Below w.heap.size w w' := by
  have htk : 0 ≤ n ∧ n ≤ 400 := ht
  have QT := Aside0.mk ((isTicks_form n).trans (congrArg some (decide_eq_true htk)))
  have hwr : wrap64 (n - 1) = n - 1 := w64 (by omega) (by omega)
  obtain ⟨k1, q1⟩ := isSet_ev (l := u) (hi := n - 1) hu
  have QU := Aside0.mk ((q1 k1 (Nat.le_refl _)).trans (congrArg some hs))
  clear q1 hs ht htk
  have HB := Aside0.mk ((((Below.refl w.heap.size w).alloc (Nat.le_refl _) (.cells #[.slice A0 u.length c0] 27)).alloc (by simp) (.cells #[.slice A1 d.length c1] 27)))
  have h0 : ((w.alloc (.cells #[.slice A0 u.length c0] 27)).alloc (.cells #[.slice A1 d.length c1] 27)).heap[w.heap.size]? = some (.cells #[.slice A0 u.length c0] 27 (0, 0)) := blk_alloc (blk_new _ _) _
  have h1 : ((w.alloc (.cells #[.slice A0 u.length c0] 27)).alloc (.cells #[.slice A1 d.length c1] 27)).heap[w.heap.size + 1]? = some (.cells #[.slice A1 d.length c1] 27 (0, 0)) := by have := blk_new (w.alloc (.cells #[.slice A0 u.length c0] 27)) (.cells #[.slice A1 d.length c1] 27); simpa using this
  have H0 := Aside0.mk h0
  have H1 := Aside0.mk h1
  have HR0 := Aside0.mk (Kd.C_alloc (Kd.C_alloc hr0 (.cells #[.slice A0 u.length c0] 27)) (.cells #[.slice A1 d.length c1] 27))
  have HR1 := Aside0.mk (Kd.C_alloc (Kd.C_alloc hr1 (.cells #[.slice A0 u.length c0] 27)) (.cells #[.slice A1 d.length c1] 27))
  have c2 : ((w.alloc (.cells #[.slice A0 u.length c0] 27)).alloc (.cells #[.slice A1 d.length c1] 27)).cell? ⟨w.heap.size, 0, none⟩ = some (.slice A0 u.length c0) := (blk_cell h0 0).trans rfl
  have c3 : ((w.alloc (.cells #[.slice A0 u.length c0] 27)).alloc (.cells #[.slice A1 d.length c1] 27)).cell? ⟨w.heap.size + 1, 0, none⟩ = some (.slice A1 d.length c1) := (blk_cell h1 0).trans rfl
  clear h0 h1 hr0 hr1
  go_enter Try.func13, Try.ntmps13
  go_wp2_with (first | (go_at_call 22; (with_reducible refine (impl_isTicks.calls n _ _ QT.out).mono ?_); rintro e w' ⟨rfl, ⟨nd, rfl⟩⟩) | (go_at_call 26; (with_reducible refine (impl_isSet.calls k1 _ _ u 0 _ _ _ ?sA hc0 QU.out).mono ?_); (case sA => first | exact HR0.out | exact Kd.C_drewN HR0.out _); rintro e w' ⟨rfl, ⟨nd, rfl⟩⟩))
  go_ret2
  exact ⟨rfl, by repeat (first | (with_reducible first | exact HB.out | apply below_alloc | apply pw_below_drewN | apply below_drew1) | exact HB.out)⟩

set_option maxHeartbeats 3200000 in
theorem from_no3 (u d : List Int) (A0 A1 : Option Addr) (c0 c1 : Nat) (n : Int) (w : World) (hr0 : Kd.C (Kd.int .i64) w A0 u.length u) (hc0 : u.length ≤ c0) (hr1 : Kd.C (Kd.int .i64) w A1 d.length d) (hc1 : d.length ≤ c1) (hu : u.length ≤ 1048576) (hd : d.length ≤ 1048576) (ht : 0 ≤ n ∧ n ≤ 400) (hs : setB u (n - 1) = true) (hs2 : setB d (n - 1) = false) :
    Calls Try.prog 13 #[.slice A0 u.length c0, .slice A1 d.length c1, .int .i64 n] w fun e w' => e = .returned (.tuple #[.string ⟨#[]⟩, .bool false]) ∧ Below w.heap.size w w' := by
  have htk : 0 ≤ n ∧ n ≤ 400 := ht
  have QT := Aside0.mk ((isTicks_form n).trans (congrArg some (decide_eq_true htk)))
  have hwr : wrap64 (n - 1) = n - 1 := w64 (by omega) (by omega)
  obtain ⟨k1, q1⟩ := isSet_ev (l := u) (hi := n - 1) hu
  have QU := Aside0.mk ((q1 k1 (Nat.le_refl _)).trans (congrArg some hs))
  obtain ⟨k2, q2⟩ := isSet_ev (l := d) (hi := n - 1) hd
  have QD := Aside0.mk ((q2 k2 (Nat.le_refl _)).trans (congrArg some hs2))
  clear q1 q2 hs2 hs ht htk
  have HB := Aside0.mk ((((Below.refl w.heap.size w).alloc (Nat.le_refl _) (.cells #[.slice A0 u.length c0] 27)).alloc (by simp) (.cells #[.slice A1 d.length c1] 27)))
  have h0 : ((w.alloc (.cells #[.slice A0 u.length c0] 27)).alloc (.cells #[.slice A1 d.length c1] 27)).heap[w.heap.size]? = some (.cells #[.slice A0 u.length c0] 27 (0, 0)) := blk_alloc (blk_new _ _) _
  have h1 : ((w.alloc (.cells #[.slice A0 u.length c0] 27)).alloc (.cells #[.slice A1 d.length c1] 27)).heap[w.heap.size + 1]? = some (.cells #[.slice A1 d.length c1] 27 (0, 0)) := by have := blk_new (w.alloc (.cells #[.slice A0 u.length c0] 27)) (.cells #[.slice A1 d.length c1] 27); simpa using this
  have H0 := Aside0.mk h0
  have H1 := Aside0.mk h1
  have HR0 := Aside0.mk (Kd.C_alloc (Kd.C_alloc hr0 (.cells #[.slice A0 u.length c0] 27)) (.cells #[.slice A1 d.length c1] 27))
  have HR1 := Aside0.mk (Kd.C_alloc (Kd.C_alloc hr1 (.cells #[.slice A0 u.length c0] 27)) (.cells #[.slice A1 d.length c1] 27))
  have c2 : ((w.alloc (.cells #[.slice A0 u.length c0] 27)).alloc (.cells #[.slice A1 d.length c1] 27)).cell? ⟨w.heap.size, 0, none⟩ = some (.slice A0 u.length c0) := (blk_cell h0 0).trans rfl
  have c3 : ((w.alloc (.cells #[.slice A0 u.length c0] 27)).alloc (.cells #[.slice A1 d.length c1] 27)).cell? ⟨w.heap.size + 1, 0, none⟩ = some (.slice A1 d.length c1) := (blk_cell h1 0).trans rfl
  clear h0 h1 hr0 hr1
  go_enter Try.func13, Try.ntmps13
  go_wp2_with (first | (go_at_call 22; (with_reducible refine (impl_isTicks.calls n _ _ QT.out).mono ?_); rintro e w' ⟨rfl, ⟨nd, rfl⟩⟩) | (go_at_call 26; (with_reducible refine (impl_isSet.calls k1 _ _ u 0 _ _ _ ?sA hc0 QU.out).mono ?_); (case sA => first | exact HR0.out | exact Kd.C_drewN HR0.out _); rintro e w' ⟨rfl, ⟨nd, rfl⟩⟩) | (go_at_call 26; (with_reducible refine (impl_isSet.calls k2 _ _ d 0 _ _ _ ?sA hc1 QD.out).mono ?_); (case sA => first | exact HR1.out | exact Kd.C_drewN HR1.out _); rintro e w' ⟨rfl, ⟨nd, rfl⟩⟩))
  go_ret2
  exact ⟨rfl, by repeat (first | (with_reducible first | exact HB.out | apply below_alloc | apply pw_below_drewN | apply below_drew1) | exact HB.out)⟩

theorem new_blk (W : World) (o : Obj) (g : Nat) (h : g = W.heap.size) : (W.alloc o).heap[g]? = some o := by subst h; exact blk_new _ _

set_option maxHeartbeats 3200000 in
set_option maxRecDepth 100000 in
theorem from_eq0 (u d : List Int) (A0 A1 : Option Addr) (c0 c1 : Nat) (m : Nat) (w : World) (hr0 : Kd.C (Kd.int .i64) w A0 u.length u) (hc0 : u.length ≤ c0) (hr1 : Kd.C (Kd.int .i64) w A1 d.length d) (hc1 : d.length ≤ c1) (hu : u.length ≤ 1048576) (hd : d.length ≤ 1048576) (ht : 0 ≤ (m : Int) ∧ (m : Int) ≤ 400) (hs : setB u ((m : Int) - 1) = true) (hs2 : setB d ((m : Int) - 1) = true) (hq1 : (collect (upAt u d) m = u) = False) :
    Calls Try.prog 13 #[.slice A0 u.length c0, .slice A1 d.length c1, .int .i64 (m : Int)] w fun e w' => e = .returned (.tuple #[.string ⟨#[]⟩, .bool false]) ∧ Below w.heap.size w w' := by
  have hm : m ≤ 400 := by omega
  have HM := Aside0.mk hm
  obtain ⟨k3, q3⟩ := ups_ev u d m hm
  have QA := Aside0.mk (q3 k3 (Nat.le_refl _))
  obtain ⟨k4, q4⟩ := downs_ev u d m hm
  have QB := Aside0.mk (q4 k4 (Nat.le_refl _))
  have hla : (collect (upAt u d) m).length ≤ 1048576 := by have := collect_length (upAt u d) m; omega
  have hlb : (collect (downAt u d) m).length ≤ 1048576 := by have := collect_length (downAt u d) m; omega
  obtain ⟨k5, q5⟩ := equal_ev (a := collect (upAt u d) m) (b := u) hla
  have QE := Aside0.mk ((q5 k5 (Nat.le_refl _)).trans (congrArg some (show decide (collect (upAt u d) m = u) = false by simp [hq1])))
  obtain ⟨k6, q6⟩ := equal_ev (a := collect (downAt u d) m) (b := d) hlb
  clear q3 q4 q5 q6 hla hlb hm hq1
  obtain ⟨n, hn⟩ : ∃ n : Int, n = (m : Int) := ⟨_, rfl⟩
  rw [← hn] at ht hs hs2 ⊢
  have htk : 0 ≤ n ∧ n ≤ 400 := ht
  have QT := Aside0.mk ((isTicks_form n).trans (congrArg some (decide_eq_true htk)))
  have hwr : wrap64 (n - 1) = n - 1 := w64 (by omega) (by omega)
  obtain ⟨k1, q1⟩ := isSet_ev (l := u) (hi := n - 1) hu
  have QU := Aside0.mk ((q1 k1 (Nat.le_refl _)).trans (congrArg some hs))
  obtain ⟨k2, q2⟩ := isSet_ev (l := d) (hi := n - 1) hd
  have QD := Aside0.mk ((q2 k2 (Nat.le_refl _)).trans (congrArg some hs2))
  clear q1 q2 hs2 hs ht htk
  have HW0 := Aside0.mk hr0
  have HW1 := Aside0.mk hr1
  have HB := Aside0.mk ((((Below.refl w.heap.size w).alloc (Nat.le_refl _) (.cells #[.slice A0 u.length c0] 27)).alloc (by simp) (.cells #[.slice A1 d.length c1] 27)))
  have h0 : ((w.alloc (.cells #[.slice A0 u.length c0] 27)).alloc (.cells #[.slice A1 d.length c1] 27)).heap[w.heap.size]? = some (.cells #[.slice A0 u.length c0] 27 (0, 0)) := blk_alloc (blk_new _ _) _
  have h1 : ((w.alloc (.cells #[.slice A0 u.length c0] 27)).alloc (.cells #[.slice A1 d.length c1] 27)).heap[w.heap.size + 1]? = some (.cells #[.slice A1 d.length c1] 27 (0, 0)) := by have := blk_new (w.alloc (.cells #[.slice A0 u.length c0] 27)) (.cells #[.slice A1 d.length c1] 27); simpa using this
  have H0 := Aside0.mk h0
  have H1 := Aside0.mk h1
  have HR0 := Aside0.mk (Kd.C_alloc (Kd.C_alloc hr0 (.cells #[.slice A0 u.length c0] 27)) (.cells #[.slice A1 d.length c1] 27))
  have HR1 := Aside0.mk (Kd.C_alloc (Kd.C_alloc hr1 (.cells #[.slice A0 u.length c0] 27)) (.cells #[.slice A1 d.length c1] 27))
  have c2 : ((w.alloc (.cells #[.slice A0 u.length c0] 27)).alloc (.cells #[.slice A1 d.length c1] 27)).cell? ⟨w.heap.size, 0, none⟩ = some (.slice A0 u.length c0) := (blk_cell h0 0).trans rfl
  have c3 : ((w.alloc (.cells #[.slice A0 u.length c0] 27)).alloc (.cells #[.slice A1 d.length c1] 27)).cell? ⟨w.heap.size + 1, 0, none⟩ = some (.slice A1 d.length c1) := (blk_cell h1 0).trans rfl
  clear h0 h1 hr0 hr1
  subst hn
  obtain ⟨s, hS⟩ : ∃ s, s = waveStr (fun i => levU u d (i + 1)) m := ⟨_, rfl⟩
  rw [← hS] at QA QB
  have HSX := Aside0.mk hS
  clear hS
  go_enter Try.func13, Try.ntmps13
  go_wp2_with (first | (go_at_call 22; (with_reducible refine (impl_isTicks.calls (m : Int) _ _ QT.out).mono ?_); rintro e w' ⟨rfl, ⟨nd, rfl⟩⟩) | (go_at_call 26; (with_reducible refine (impl_isSet.calls k1 _ _ u 0 _ _ _ ?sA hc0 QU.out).mono ?_); (case sA => first | exact HR0.out | exact Kd.C_drewN HR0.out _); rintro e w' ⟨rfl, ⟨nd, rfl⟩⟩) | (go_at_call 26; (with_reducible refine (impl_isSet.calls k2 _ _ d 0 _ _ _ ?sA hc1 QD.out).mono ?_); (case sA => first | exact HR1.out | exact Kd.C_drewN HR1.out _); rintro e w' ⟨rfl, ⟨nd, rfl⟩⟩) | (go_at_call 17; (with_reducible refine (from_wave u d A0 A1 c0 c1 m ?gn w.heap.size (w.heap.size + 1 + 1) (w.heap.size + 1) _ ?g0 ?g1 ?g2 hc0 hc1 hu hd (by omega) (by omega) w (by omega) HW0.out HW1.out ?gB).mono ?_); (case gn => exact HM.out); (case g0 => exact blk_alloc (blk_drewN H0.out _) _); (case g2 => exact blk_alloc (blk_drewN H1.out _) _); (case g1 => exact new_blk _ _ _ (by simp)); (case gB => exact below_alloc (pw_below_drewN HB.out _) _); rintro e w4 ⟨rfl, hb4, hg0, hg1⟩; have HB4 := Aside0.mk hb4; have G0 := Aside0.mk hg0; have G1 := Aside0.mk hg1; clear hb4 hg0 hg1))
  try go_wp2
  rw [← HSX.out]
  clear HSX
  have n0_ := Aside0.mk (blk_drew G0.out)
  have n1_ := Aside0.mk (blk_drew G1.out)
  have n2_ := Aside0.mk (below_drew1 HB4.out)
  clear G0 G1 HB4
  have G0 := n0_
  have G1 := n1_
  have HB4 := n2_
  clear n0_ n1_ n2_
  refine start_ (n := 12) (S := fun w' => w'.cell? ⟨w.heap.size, 0, none⟩ = some (.slice A0 u.length c0) ∧ w'.cell? ⟨w.heap.size + 1, 0, none⟩ = some (.slice A1 d.length c1)) (ds := []) #[false, false, false, false, false, false, false, false, false, false, false, false] (by kernel_rfl) rfl rfl ⟨(blk_cell G0.out 0).trans rfl, (blk_cell G1.out 0).trans rfl⟩ (fun hHeld => ?_)
  generalize w4.drew = w5 at G0 G1 HB4 hHeld ⊢
  refine take_ (i := 0) (N := some 30) (v := ?_) (a' := ?_) #[true, false, false, false, false, false, false, false, false, false, false, false] rfl rfl (by kernel_rfl) (fun _ _ _ h => h) (Or.inl ⟨by rfl, ?_⟩) hHeld ?_ ?_
  rotate_left
  · rintro w' ⟨s0, s1⟩
    go_simp
    with_reducible rfl
  rotate_left
  · simp only [Act.put, List.setIfInBounds_toArray, List.set_cons_zero, List.set_cons_succ, i64_w, i32_w]
    rfl
  refine take_ (i := 2) (N := some 32) (v := ?_) (a' := ?_) #[true, false, true, false, false, false, false, false, false, false, false, false] rfl rfl (by kernel_rfl) (fun _ _ _ h => h) (Or.inl ⟨by rfl, ?_⟩) hHeld ?_ ?_
  rotate_left
  · rintro w' ⟨s0, s1⟩
    go_simp
    with_reducible rfl
  rotate_left
  · simp only [Act.put, List.setIfInBounds_toArray, List.set_cons_zero, List.set_cons_succ, i64_w, i32_w]
    rfl
  refine one_ (i := 1) (N := some 31) #[true, true, true, false, false, false, false, false, false, false, false, false] rfl rfl (by kernel_rfl) (by decide) (fun K hK => ?_)
  refine goes_ Try.func30 (by kernel_rfl) rfl #[.string s, .int .u8 49] (by rfl) rfl rfl (by (try simp only [List.map_toArray, List.map_cons, List.map_nil]); first | done | rfl) ?_
  with_reducible refine (impl_changesTo.calls k3 s 49 (collect (upAt u d) m) _ QA.out).mono ?_
  rintro e w6 ⟨v_, rfl, ho0, hb⟩
  refine ⟨_, rfl, ?_⟩
  have n0_ := Aside0.mk (blk_below G0.out hb)
  have n1_ := Aside0.mk (blk_below G1.out hb)
  have n2_ := Aside0.mk (below_step HB4.out hb)
  have HO1 := Aside0.mk ho0
  clear G0 G1 HB4
  have G0 := n0_
  have G1 := n1_
  have HB4 := n2_
  clear n0_ n1_ n2_ hb ho0
  obtain ⟨Ao1, co1, eo⟩ := Kd.R_slice HO1.out
  subst eo
  refine hK.out _ _ ⟨(blk_cell G0.out 0).trans rfl, (blk_cell G1.out 0).trans rfl⟩ (fun hHeld => ?_)
  clear hK K
  refine norm_ (a' := ?_) ?_ ?_
  rotate_left
  · show Act.put _ (some 31) _ = _
    simp only [Act.put, List.setIfInBounds_toArray, List.set_cons_zero, List.set_cons_succ, i64_w, i32_w]
    rfl
  refine one_ (i := 3) (N := some 33) #[true, true, true, true, false, false, false, false, false, false, false, false] rfl rfl (by kernel_rfl) (by decide) (fun K hK => ?_)
  refine goes_ Try.func29 (by kernel_rfl) rfl #[.slice Ao1 (collect (upAt u d) m).length co1, .slice A0 u.length c0] (by rfl) rfl rfl (by (try simp only [List.map_toArray, List.map_cons, List.map_nil]); first | done | rfl) ?_
  with_reducible refine (slices_Equal_int64_int64.calls k5 _ _ (collect (upAt u d) m) _ _ u _ _ ?side1 ?side2 ?side3 ?side4 QE.out).mono ?_
  (case side1 => exact (Kd.R_reads' HO1.out).2.2)
  (case side2 => exact (Kd.R_reads' HO1.out).2.1)
  (case side3 => exact Kd.C_below HW0.out HB4.out)
  (case side4 => exact hc0)
  rintro e w7 ⟨rfl, ⟨nd_, rfl⟩⟩
  refine ⟨_, rfl, ?_⟩
  have n0_ := Aside0.mk (blk_drewN G0.out nd_)
  have n1_ := Aside0.mk (blk_drewN G1.out nd_)
  have n2_ := Aside0.mk (pw_below_drewN HB4.out nd_)
  clear G0 G1 HB4
  have G0 := n0_
  have G1 := n1_
  have HB4 := n2_
  clear n0_ n1_ n2_
  refine hK.out _ _ ⟨(blk_cell G0.out 0).trans rfl, (blk_cell G1.out 0).trans rfl⟩ (fun hHeld => ?_)
  clear hK K
  refine norm_ (a' := ?_) ?_ ?_
  rotate_left
  · show Act.put _ (some 33) _ = _
    simp only [Act.put, List.setIfInBounds_toArray, List.set_cons_zero, List.set_cons_succ, i64_w, i32_w]
    rfl
  refine pure_ (i := 4) (N := some 34) (v := ?_) (a' := ?_) #[true, true, true, true, true, false, false, false, false, false, false, false] rfl rfl (by kernel_rfl) (fun _ _ _ h => h) (Or.inl ⟨by rfl, ?_⟩) ?_ ?_
  rotate_left
  · intro w'
    go_simp
    with_reducible rfl
  rotate_left
  · simp only [Act.put, List.setIfInBounds_toArray, List.set_cons_zero, List.set_cons_succ, i64_w, i32_w]
    rfl
  refine pure_ (i := 5) (N := some 35) (v := ?_) (a' := ?_) #[true, true, true, true, true, true, false, false, false, false, false, false] rfl rfl (by kernel_rfl) (fun _ _ _ h => h) (Or.inl ⟨by rfl, ?_⟩) ?_ ?_
  rotate_left
  · intro w'
    go_simp
    with_reducible rfl
  rotate_left
  · simp only [Act.put, List.setIfInBounds_toArray, List.set_cons_zero, List.set_cons_succ, i64_w, i32_w]
    rfl
  refine pure_ (i := 6) (N := some 36) (v := undef) (a' := ?_) #[true, true, true, true, true, true, true, false, false, false, false, false] rfl rfl (by kernel_rfl) (fun _ _ _ h => h) (Or.inr ⟨by rfl, rfl⟩) ?_ ?_
  rotate_left
  · simp only [Act.put, List.setIfInBounds_toArray, List.set_cons_zero, List.set_cons_succ, i64_w, i32_w]
    rfl
  refine pure_ (i := 7) (N := some 37) (v := undef) (a' := ?_) #[true, true, true, true, true, true, true, true, false, false, false, false] rfl rfl (by kernel_rfl) (fun _ _ _ h => h) (Or.inr ⟨by rfl, rfl⟩) ?_ ?_
  rotate_left
  · simp only [Act.put, List.setIfInBounds_toArray, List.set_cons_zero, List.set_cons_succ, i64_w, i32_w]
    rfl
  refine pure_ (i := 8) (N := some 38) (v := undef) (a' := ?_) #[true, true, true, true, true, true, true, true, true, false, false, false] rfl rfl (by kernel_rfl) (fun _ _ _ h => h) (Or.inr ⟨by rfl, rfl⟩) ?_ ?_
  rotate_left
  · simp only [Act.put, List.setIfInBounds_toArray, List.set_cons_zero, List.set_cons_succ, i64_w, i32_w]
    rfl
  refine pure_ (i := 9) (N := some 39) (v := undef) (a' := ?_) #[true, true, true, true, true, true, true, true, true, true, false, false] rfl rfl (by kernel_rfl) (fun _ _ _ h => h) (Or.inr ⟨by rfl, rfl⟩) ?_ ?_
  rotate_left
  · simp only [Act.put, List.setIfInBounds_toArray, List.set_cons_zero, List.set_cons_succ, i64_w, i32_w]
    rfl
  refine pure_ (i := 10) (N := some 40) (v := undef) (a' := ?_) #[true, true, true, true, true, true, true, true, true, true, true, false] rfl rfl (by kernel_rfl) (fun _ _ _ h => h) (Or.inr ⟨by rfl, rfl⟩) ?_ ?_
  rotate_left
  · simp only [Act.put, List.setIfInBounds_toArray, List.set_cons_zero, List.set_cons_succ, i64_w, i32_w]
    rfl
  refine pure_ (i := 11) (N := some 41) (v := ?_) (a' := ?_) #[true, true, true, true, true, true, true, true, true, true, true, true] rfl rfl (by kernel_rfl) (fun _ _ _ h => h) (Or.inl ⟨by rfl, ?_⟩) ?_ ?_
  rotate_left
  · intro w'
    go_simp
    with_reducible rfl
  rotate_left
  · simp only [Act.put, List.setIfInBounds_toArray, List.set_cons_zero, List.set_cons_succ, i64_w, i32_w]
    rfl
  refine done_ (by kernel_rfl) ?_
  try go_wp2
  go_ret2
  exact ⟨rfl, by repeat (first | (with_reducible first | exact HB4.out | apply below_alloc | apply pw_below_drewN | apply below_drew1) | exact HB4.out)⟩

set_option maxHeartbeats 3200000 in
set_option maxRecDepth 100000 in
theorem from_eq1 (u d : List Int) (A0 A1 : Option Addr) (c0 c1 : Nat) (m : Nat) (w : World) (hr0 : Kd.C (Kd.int .i64) w A0 u.length u) (hc0 : u.length ≤ c0) (hr1 : Kd.C (Kd.int .i64) w A1 d.length d) (hc1 : d.length ≤ c1) (hu : u.length ≤ 1048576) (hd : d.length ≤ 1048576) (ht : 0 ≤ (m : Int) ∧ (m : Int) ≤ 400) (hs : setB u ((m : Int) - 1) = true) (hs2 : setB d ((m : Int) - 1) = true) (hq1 : (collect (upAt u d) m = u) = True) (hq2 : (collect (downAt u d) m = d) = False) :
    Calls Try.prog 13 #[.slice A0 u.length c0, .slice A1 d.length c1, .int .i64 (m : Int)] w fun e w' => e = .returned (.tuple #[.string ⟨#[]⟩, .bool false]) ∧ Below w.heap.size w w' := by
  have hm : m ≤ 400 := by omega
  have HM := Aside0.mk hm
  obtain ⟨k3, q3⟩ := ups_ev u d m hm
  have QA := Aside0.mk (q3 k3 (Nat.le_refl _))
  obtain ⟨k4, q4⟩ := downs_ev u d m hm
  have QB := Aside0.mk (q4 k4 (Nat.le_refl _))
  have hla : (collect (upAt u d) m).length ≤ 1048576 := by have := collect_length (upAt u d) m; omega
  have hlb : (collect (downAt u d) m).length ≤ 1048576 := by have := collect_length (downAt u d) m; omega
  obtain ⟨k5, q5⟩ := equal_ev (a := collect (upAt u d) m) (b := u) hla
  have QE := Aside0.mk ((q5 k5 (Nat.le_refl _)).trans (congrArg some (show decide (collect (upAt u d) m = u) = true by simp [hq1])))
  obtain ⟨k6, q6⟩ := equal_ev (a := collect (downAt u d) m) (b := d) hlb
  have QF := Aside0.mk ((q6 k6 (Nat.le_refl _)).trans (congrArg some (show decide (collect (downAt u d) m = d) = false by simp [hq2])))
  clear q3 q4 q5 q6 hla hlb hm hq1 hq2
  obtain ⟨n, hn⟩ : ∃ n : Int, n = (m : Int) := ⟨_, rfl⟩
  rw [← hn] at ht hs hs2 ⊢
  have htk : 0 ≤ n ∧ n ≤ 400 := ht
  have QT := Aside0.mk ((isTicks_form n).trans (congrArg some (decide_eq_true htk)))
  have hwr : wrap64 (n - 1) = n - 1 := w64 (by omega) (by omega)
  obtain ⟨k1, q1⟩ := isSet_ev (l := u) (hi := n - 1) hu
  have QU := Aside0.mk ((q1 k1 (Nat.le_refl _)).trans (congrArg some hs))
  obtain ⟨k2, q2⟩ := isSet_ev (l := d) (hi := n - 1) hd
  have QD := Aside0.mk ((q2 k2 (Nat.le_refl _)).trans (congrArg some hs2))
  clear q1 q2 hs2 hs ht htk
  have HW0 := Aside0.mk hr0
  have HW1 := Aside0.mk hr1
  have HB := Aside0.mk ((((Below.refl w.heap.size w).alloc (Nat.le_refl _) (.cells #[.slice A0 u.length c0] 27)).alloc (by simp) (.cells #[.slice A1 d.length c1] 27)))
  have h0 : ((w.alloc (.cells #[.slice A0 u.length c0] 27)).alloc (.cells #[.slice A1 d.length c1] 27)).heap[w.heap.size]? = some (.cells #[.slice A0 u.length c0] 27 (0, 0)) := blk_alloc (blk_new _ _) _
  have h1 : ((w.alloc (.cells #[.slice A0 u.length c0] 27)).alloc (.cells #[.slice A1 d.length c1] 27)).heap[w.heap.size + 1]? = some (.cells #[.slice A1 d.length c1] 27 (0, 0)) := by have := blk_new (w.alloc (.cells #[.slice A0 u.length c0] 27)) (.cells #[.slice A1 d.length c1] 27); simpa using this
  have H0 := Aside0.mk h0
  have H1 := Aside0.mk h1
  have HR0 := Aside0.mk (Kd.C_alloc (Kd.C_alloc hr0 (.cells #[.slice A0 u.length c0] 27)) (.cells #[.slice A1 d.length c1] 27))
  have HR1 := Aside0.mk (Kd.C_alloc (Kd.C_alloc hr1 (.cells #[.slice A0 u.length c0] 27)) (.cells #[.slice A1 d.length c1] 27))
  have c2 : ((w.alloc (.cells #[.slice A0 u.length c0] 27)).alloc (.cells #[.slice A1 d.length c1] 27)).cell? ⟨w.heap.size, 0, none⟩ = some (.slice A0 u.length c0) := (blk_cell h0 0).trans rfl
  have c3 : ((w.alloc (.cells #[.slice A0 u.length c0] 27)).alloc (.cells #[.slice A1 d.length c1] 27)).cell? ⟨w.heap.size + 1, 0, none⟩ = some (.slice A1 d.length c1) := (blk_cell h1 0).trans rfl
  clear h0 h1 hr0 hr1
  subst hn
  obtain ⟨s, hS⟩ : ∃ s, s = waveStr (fun i => levU u d (i + 1)) m := ⟨_, rfl⟩
  rw [← hS] at QA QB
  have HSX := Aside0.mk hS
  clear hS
  go_enter Try.func13, Try.ntmps13
  go_wp2_with (first | (go_at_call 22; (with_reducible refine (impl_isTicks.calls (m : Int) _ _ QT.out).mono ?_); rintro e w' ⟨rfl, ⟨nd, rfl⟩⟩) | (go_at_call 26; (with_reducible refine (impl_isSet.calls k1 _ _ u 0 _ _ _ ?sA hc0 QU.out).mono ?_); (case sA => first | exact HR0.out | exact Kd.C_drewN HR0.out _); rintro e w' ⟨rfl, ⟨nd, rfl⟩⟩) | (go_at_call 26; (with_reducible refine (impl_isSet.calls k2 _ _ d 0 _ _ _ ?sA hc1 QD.out).mono ?_); (case sA => first | exact HR1.out | exact Kd.C_drewN HR1.out _); rintro e w' ⟨rfl, ⟨nd, rfl⟩⟩) | (go_at_call 17; (with_reducible refine (from_wave u d A0 A1 c0 c1 m ?gn w.heap.size (w.heap.size + 1 + 1) (w.heap.size + 1) _ ?g0 ?g1 ?g2 hc0 hc1 hu hd (by omega) (by omega) w (by omega) HW0.out HW1.out ?gB).mono ?_); (case gn => exact HM.out); (case g0 => exact blk_alloc (blk_drewN H0.out _) _); (case g2 => exact blk_alloc (blk_drewN H1.out _) _); (case g1 => exact new_blk _ _ _ (by simp)); (case gB => exact below_alloc (pw_below_drewN HB.out _) _); rintro e w4 ⟨rfl, hb4, hg0, hg1⟩; have HB4 := Aside0.mk hb4; have G0 := Aside0.mk hg0; have G1 := Aside0.mk hg1; clear hb4 hg0 hg1))
  try go_wp2
  rw [← HSX.out]
  clear HSX
  have n0_ := Aside0.mk (blk_drew G0.out)
  have n1_ := Aside0.mk (blk_drew G1.out)
  have n2_ := Aside0.mk (below_drew1 HB4.out)
  clear G0 G1 HB4
  have G0 := n0_
  have G1 := n1_
  have HB4 := n2_
  clear n0_ n1_ n2_
  refine start_ (n := 12) (S := fun w' => w'.cell? ⟨w.heap.size, 0, none⟩ = some (.slice A0 u.length c0) ∧ w'.cell? ⟨w.heap.size + 1, 0, none⟩ = some (.slice A1 d.length c1)) (ds := []) #[false, false, false, false, false, false, false, false, false, false, false, false] (by kernel_rfl) rfl rfl ⟨(blk_cell G0.out 0).trans rfl, (blk_cell G1.out 0).trans rfl⟩ (fun hHeld => ?_)
  generalize w4.drew = w5 at G0 G1 HB4 hHeld ⊢
  refine take_ (i := 0) (N := some 30) (v := ?_) (a' := ?_) #[true, false, false, false, false, false, false, false, false, false, false, false] rfl rfl (by kernel_rfl) (fun _ _ _ h => h) (Or.inl ⟨by rfl, ?_⟩) hHeld ?_ ?_
  rotate_left
  · rintro w' ⟨s0, s1⟩
    go_simp
    with_reducible rfl
  rotate_left
  · simp only [Act.put, List.setIfInBounds_toArray, List.set_cons_zero, List.set_cons_succ, i64_w, i32_w]
    rfl
  refine take_ (i := 2) (N := some 32) (v := ?_) (a' := ?_) #[true, false, true, false, false, false, false, false, false, false, false, false] rfl rfl (by kernel_rfl) (fun _ _ _ h => h) (Or.inl ⟨by rfl, ?_⟩) hHeld ?_ ?_
  rotate_left
  · rintro w' ⟨s0, s1⟩
    go_simp
    with_reducible rfl
  rotate_left
  · simp only [Act.put, List.setIfInBounds_toArray, List.set_cons_zero, List.set_cons_succ, i64_w, i32_w]
    rfl
  refine one_ (i := 1) (N := some 31) #[true, true, true, false, false, false, false, false, false, false, false, false] rfl rfl (by kernel_rfl) (by decide) (fun K hK => ?_)
  refine goes_ Try.func30 (by kernel_rfl) rfl #[.string s, .int .u8 49] (by rfl) rfl rfl (by (try simp only [List.map_toArray, List.map_cons, List.map_nil]); first | done | rfl) ?_
  with_reducible refine (impl_changesTo.calls k3 s 49 (collect (upAt u d) m) _ QA.out).mono ?_
  rintro e w6 ⟨v_, rfl, ho0, hb⟩
  refine ⟨_, rfl, ?_⟩
  have n0_ := Aside0.mk (blk_below G0.out hb)
  have n1_ := Aside0.mk (blk_below G1.out hb)
  have n2_ := Aside0.mk (below_step HB4.out hb)
  have HO1 := Aside0.mk ho0
  clear G0 G1 HB4
  have G0 := n0_
  have G1 := n1_
  have HB4 := n2_
  clear n0_ n1_ n2_ hb ho0
  obtain ⟨Ao1, co1, eo⟩ := Kd.R_slice HO1.out
  subst eo
  refine hK.out _ _ ⟨(blk_cell G0.out 0).trans rfl, (blk_cell G1.out 0).trans rfl⟩ (fun hHeld => ?_)
  clear hK K
  refine norm_ (a' := ?_) ?_ ?_
  rotate_left
  · show Act.put _ (some 31) _ = _
    simp only [Act.put, List.setIfInBounds_toArray, List.set_cons_zero, List.set_cons_succ, i64_w, i32_w]
    rfl
  refine one_ (i := 3) (N := some 33) #[true, true, true, true, false, false, false, false, false, false, false, false] rfl rfl (by kernel_rfl) (by decide) (fun K hK => ?_)
  refine goes_ Try.func29 (by kernel_rfl) rfl #[.slice Ao1 (collect (upAt u d) m).length co1, .slice A0 u.length c0] (by rfl) rfl rfl (by (try simp only [List.map_toArray, List.map_cons, List.map_nil]); first | done | rfl) ?_
  with_reducible refine (slices_Equal_int64_int64.calls k5 _ _ (collect (upAt u d) m) _ _ u _ _ ?side1 ?side2 ?side3 ?side4 QE.out).mono ?_
  (case side1 => exact (Kd.R_reads' HO1.out).2.2)
  (case side2 => exact (Kd.R_reads' HO1.out).2.1)
  (case side3 => exact Kd.C_below HW0.out HB4.out)
  (case side4 => exact hc0)
  rintro e w7 ⟨rfl, ⟨nd_, rfl⟩⟩
  refine ⟨_, rfl, ?_⟩
  have n0_ := Aside0.mk (blk_drewN G0.out nd_)
  have n1_ := Aside0.mk (blk_drewN G1.out nd_)
  have n2_ := Aside0.mk (pw_below_drewN HB4.out nd_)
  clear G0 G1 HB4
  have G0 := n0_
  have G1 := n1_
  have HB4 := n2_
  clear n0_ n1_ n2_
  refine hK.out _ _ ⟨(blk_cell G0.out 0).trans rfl, (blk_cell G1.out 0).trans rfl⟩ (fun hHeld => ?_)
  clear hK K
  refine norm_ (a' := ?_) ?_ ?_
  rotate_left
  · show Act.put _ (some 33) _ = _
    simp only [Act.put, List.setIfInBounds_toArray, List.set_cons_zero, List.set_cons_succ, i64_w, i32_w]
    rfl
  refine pure_ (i := 4) (N := some 34) (v := ?_) (a' := ?_) #[true, true, true, true, true, false, false, false, false, false, false, false] rfl rfl (by kernel_rfl) (fun _ _ _ h => h) (Or.inl ⟨by rfl, ?_⟩) ?_ ?_
  rotate_left
  · intro w'
    go_simp
    with_reducible rfl
  rotate_left
  · simp only [Act.put, List.setIfInBounds_toArray, List.set_cons_zero, List.set_cons_succ, i64_w, i32_w]
    rfl
  refine pure_ (i := 5) (N := some 35) (v := ?_) (a' := ?_) #[true, true, true, true, true, true, false, false, false, false, false, false] rfl rfl (by kernel_rfl) (fun _ _ _ h => h) (Or.inl ⟨by rfl, ?_⟩) ?_ ?_
  rotate_left
  · intro w'
    go_simp
    with_reducible rfl
  rotate_left
  · simp only [Act.put, List.setIfInBounds_toArray, List.set_cons_zero, List.set_cons_succ, i64_w, i32_w]
    rfl
  refine take_ (i := 6) (N := some 36) (v := ?_) (a' := ?_) #[true, true, true, true, true, true, true, false, false, false, false, false] rfl rfl (by kernel_rfl) (fun _ _ _ h => h) (Or.inl ⟨by rfl, ?_⟩) hHeld ?_ ?_
  rotate_left
  · rintro w' ⟨s0, s1⟩
    go_simp
    with_reducible rfl
  rotate_left
  · simp only [Act.put, List.setIfInBounds_toArray, List.set_cons_zero, List.set_cons_succ, i64_w, i32_w]
    rfl
  refine take_ (i := 8) (N := some 38) (v := ?_) (a' := ?_) #[true, true, true, true, true, true, true, false, true, false, false, false] rfl rfl (by kernel_rfl) (fun _ _ _ h => h) (Or.inl ⟨by rfl, ?_⟩) hHeld ?_ ?_
  rotate_left
  · rintro w' ⟨s0, s1⟩
    go_simp
    with_reducible rfl
  rotate_left
  · simp only [Act.put, List.setIfInBounds_toArray, List.set_cons_zero, List.set_cons_succ, i64_w, i32_w]
    rfl
  refine one_ (i := 7) (N := some 37) #[true, true, true, true, true, true, true, true, true, false, false, false] rfl rfl (by kernel_rfl) (by decide) (fun K hK => ?_)
  refine goes_ Try.func30 (by kernel_rfl) rfl #[.string s, .int .u8 48] (by rfl) rfl rfl (by (try simp only [List.map_toArray, List.map_cons, List.map_nil]); first | done | rfl) ?_
  with_reducible refine (impl_changesTo.calls k4 s 48 (collect (downAt u d) m) _ QB.out).mono ?_
  rintro e w8 ⟨v_, rfl, ho0, hb⟩
  refine ⟨_, rfl, ?_⟩
  have n0_ := Aside0.mk (blk_below G0.out hb)
  have n1_ := Aside0.mk (blk_below G1.out hb)
  have n2_ := Aside0.mk (below_step HB4.out hb)
  have HO2 := Aside0.mk ho0
  clear G0 G1 HB4
  have G0 := n0_
  have G1 := n1_
  have HB4 := n2_
  clear n0_ n1_ n2_ hb ho0
  obtain ⟨Ao2, co2, eo⟩ := Kd.R_slice HO2.out
  subst eo
  refine hK.out _ _ ⟨(blk_cell G0.out 0).trans rfl, (blk_cell G1.out 0).trans rfl⟩ (fun hHeld => ?_)
  clear hK K
  refine norm_ (a' := ?_) ?_ ?_
  rotate_left
  · show Act.put _ (some 37) _ = _
    simp only [Act.put, List.setIfInBounds_toArray, List.set_cons_zero, List.set_cons_succ, i64_w, i32_w]
    rfl
  refine one_ (i := 9) (N := some 39) #[true, true, true, true, true, true, true, true, true, true, false, false] rfl rfl (by kernel_rfl) (by decide) (fun K hK => ?_)
  refine goes_ Try.func29 (by kernel_rfl) rfl #[.slice Ao2 (collect (downAt u d) m).length co2, .slice A1 d.length c1] (by rfl) rfl rfl (by (try simp only [List.map_toArray, List.map_cons, List.map_nil]); first | done | rfl) ?_
  with_reducible refine (slices_Equal_int64_int64.calls k6 _ _ (collect (downAt u d) m) _ _ d _ _ ?side1 ?side2 ?side3 ?side4 QF.out).mono ?_
  (case side1 => exact (Kd.R_reads' HO2.out).2.2)
  (case side2 => exact (Kd.R_reads' HO2.out).2.1)
  (case side3 => exact Kd.C_below HW1.out HB4.out)
  (case side4 => exact hc1)
  rintro e w9 ⟨rfl, ⟨nd_, rfl⟩⟩
  refine ⟨_, rfl, ?_⟩
  have n0_ := Aside0.mk (blk_drewN G0.out nd_)
  have n1_ := Aside0.mk (blk_drewN G1.out nd_)
  have n2_ := Aside0.mk (pw_below_drewN HB4.out nd_)
  clear G0 G1 HB4
  have G0 := n0_
  have G1 := n1_
  have HB4 := n2_
  clear n0_ n1_ n2_
  refine hK.out _ _ ⟨(blk_cell G0.out 0).trans rfl, (blk_cell G1.out 0).trans rfl⟩ (fun hHeld => ?_)
  clear hK K
  refine norm_ (a' := ?_) ?_ ?_
  rotate_left
  · show Act.put _ (some 39) _ = _
    simp only [Act.put, List.setIfInBounds_toArray, List.set_cons_zero, List.set_cons_succ, i64_w, i32_w]
    rfl
  refine pure_ (i := 10) (N := some 40) (v := ?_) (a' := ?_) #[true, true, true, true, true, true, true, true, true, true, true, false] rfl rfl (by kernel_rfl) (fun _ _ _ h => h) (Or.inl ⟨by rfl, ?_⟩) ?_ ?_
  rotate_left
  · intro w'
    go_simp
    with_reducible rfl
  rotate_left
  · simp only [Act.put, List.setIfInBounds_toArray, List.set_cons_zero, List.set_cons_succ, i64_w, i32_w]
    rfl
  refine pure_ (i := 11) (N := some 41) (v := ?_) (a' := ?_) #[true, true, true, true, true, true, true, true, true, true, true, true] rfl rfl (by kernel_rfl) (fun _ _ _ h => h) (Or.inl ⟨by rfl, ?_⟩) ?_ ?_
  rotate_left
  · intro w'
    go_simp
    with_reducible rfl
  rotate_left
  · simp only [Act.put, List.setIfInBounds_toArray, List.set_cons_zero, List.set_cons_succ, i64_w, i32_w]
    rfl
  refine done_ (by kernel_rfl) ?_
  try go_wp2
  go_ret2
  exact ⟨rfl, by repeat (first | (with_reducible first | exact HB4.out | apply below_alloc | apply pw_below_drewN | apply below_drew1) | exact HB4.out)⟩

set_option maxHeartbeats 3200000 in
set_option maxRecDepth 100000 in
theorem from_eq2 (u d : List Int) (A0 A1 : Option Addr) (c0 c1 : Nat) (m : Nat) (w : World) (hr0 : Kd.C (Kd.int .i64) w A0 u.length u) (hc0 : u.length ≤ c0) (hr1 : Kd.C (Kd.int .i64) w A1 d.length d) (hc1 : d.length ≤ c1) (hu : u.length ≤ 1048576) (hd : d.length ≤ 1048576) (ht : 0 ≤ (m : Int) ∧ (m : Int) ≤ 400) (hs : setB u ((m : Int) - 1) = true) (hs2 : setB d ((m : Int) - 1) = true) (hq1 : (collect (upAt u d) m = u) = True) (hq2 : (collect (downAt u d) m = d) = True) :
    Calls Try.prog 13 #[.slice A0 u.length c0, .slice A1 d.length c1, .int .i64 (m : Int)] w fun e w' => e = .returned (.tuple #[.string (waveStr (fun i => levU u d (i + 1)) m), .bool true]) ∧ Below w.heap.size w w' := by
  have hm : m ≤ 400 := by omega
  have HM := Aside0.mk hm
  obtain ⟨k3, q3⟩ := ups_ev u d m hm
  have QA := Aside0.mk (q3 k3 (Nat.le_refl _))
  obtain ⟨k4, q4⟩ := downs_ev u d m hm
  have QB := Aside0.mk (q4 k4 (Nat.le_refl _))
  have hla : (collect (upAt u d) m).length ≤ 1048576 := by have := collect_length (upAt u d) m; omega
  have hlb : (collect (downAt u d) m).length ≤ 1048576 := by have := collect_length (downAt u d) m; omega
  obtain ⟨k5, q5⟩ := equal_ev (a := collect (upAt u d) m) (b := u) hla
  have QE := Aside0.mk ((q5 k5 (Nat.le_refl _)).trans (congrArg some (show decide (collect (upAt u d) m = u) = true by simp [hq1])))
  obtain ⟨k6, q6⟩ := equal_ev (a := collect (downAt u d) m) (b := d) hlb
  have QF := Aside0.mk ((q6 k6 (Nat.le_refl _)).trans (congrArg some (show decide (collect (downAt u d) m = d) = true by simp [hq2])))
  clear q3 q4 q5 q6 hla hlb hm hq1 hq2
  obtain ⟨n, hn⟩ : ∃ n : Int, n = (m : Int) := ⟨_, rfl⟩
  rw [← hn] at ht hs hs2 ⊢
  have htk : 0 ≤ n ∧ n ≤ 400 := ht
  have QT := Aside0.mk ((isTicks_form n).trans (congrArg some (decide_eq_true htk)))
  have hwr : wrap64 (n - 1) = n - 1 := w64 (by omega) (by omega)
  obtain ⟨k1, q1⟩ := isSet_ev (l := u) (hi := n - 1) hu
  have QU := Aside0.mk ((q1 k1 (Nat.le_refl _)).trans (congrArg some hs))
  obtain ⟨k2, q2⟩ := isSet_ev (l := d) (hi := n - 1) hd
  have QD := Aside0.mk ((q2 k2 (Nat.le_refl _)).trans (congrArg some hs2))
  clear q1 q2 hs2 hs ht htk
  have HW0 := Aside0.mk hr0
  have HW1 := Aside0.mk hr1
  have HB := Aside0.mk ((((Below.refl w.heap.size w).alloc (Nat.le_refl _) (.cells #[.slice A0 u.length c0] 27)).alloc (by simp) (.cells #[.slice A1 d.length c1] 27)))
  have h0 : ((w.alloc (.cells #[.slice A0 u.length c0] 27)).alloc (.cells #[.slice A1 d.length c1] 27)).heap[w.heap.size]? = some (.cells #[.slice A0 u.length c0] 27 (0, 0)) := blk_alloc (blk_new _ _) _
  have h1 : ((w.alloc (.cells #[.slice A0 u.length c0] 27)).alloc (.cells #[.slice A1 d.length c1] 27)).heap[w.heap.size + 1]? = some (.cells #[.slice A1 d.length c1] 27 (0, 0)) := by have := blk_new (w.alloc (.cells #[.slice A0 u.length c0] 27)) (.cells #[.slice A1 d.length c1] 27); simpa using this
  have H0 := Aside0.mk h0
  have H1 := Aside0.mk h1
  have HR0 := Aside0.mk (Kd.C_alloc (Kd.C_alloc hr0 (.cells #[.slice A0 u.length c0] 27)) (.cells #[.slice A1 d.length c1] 27))
  have HR1 := Aside0.mk (Kd.C_alloc (Kd.C_alloc hr1 (.cells #[.slice A0 u.length c0] 27)) (.cells #[.slice A1 d.length c1] 27))
  have c2 : ((w.alloc (.cells #[.slice A0 u.length c0] 27)).alloc (.cells #[.slice A1 d.length c1] 27)).cell? ⟨w.heap.size, 0, none⟩ = some (.slice A0 u.length c0) := (blk_cell h0 0).trans rfl
  have c3 : ((w.alloc (.cells #[.slice A0 u.length c0] 27)).alloc (.cells #[.slice A1 d.length c1] 27)).cell? ⟨w.heap.size + 1, 0, none⟩ = some (.slice A1 d.length c1) := (blk_cell h1 0).trans rfl
  clear h0 h1 hr0 hr1
  subst hn
  obtain ⟨s, hS⟩ : ∃ s, s = waveStr (fun i => levU u d (i + 1)) m := ⟨_, rfl⟩
  rw [← hS] at QA QB ⊢
  have HSX := Aside0.mk hS
  clear hS
  go_enter Try.func13, Try.ntmps13
  go_wp2_with (first | (go_at_call 22; (with_reducible refine (impl_isTicks.calls (m : Int) _ _ QT.out).mono ?_); rintro e w' ⟨rfl, ⟨nd, rfl⟩⟩) | (go_at_call 26; (with_reducible refine (impl_isSet.calls k1 _ _ u 0 _ _ _ ?sA hc0 QU.out).mono ?_); (case sA => first | exact HR0.out | exact Kd.C_drewN HR0.out _); rintro e w' ⟨rfl, ⟨nd, rfl⟩⟩) | (go_at_call 26; (with_reducible refine (impl_isSet.calls k2 _ _ d 0 _ _ _ ?sA hc1 QD.out).mono ?_); (case sA => first | exact HR1.out | exact Kd.C_drewN HR1.out _); rintro e w' ⟨rfl, ⟨nd, rfl⟩⟩) | (go_at_call 17; (with_reducible refine (from_wave u d A0 A1 c0 c1 m ?gn w.heap.size (w.heap.size + 1 + 1) (w.heap.size + 1) _ ?g0 ?g1 ?g2 hc0 hc1 hu hd (by omega) (by omega) w (by omega) HW0.out HW1.out ?gB).mono ?_); (case gn => exact HM.out); (case g0 => exact blk_alloc (blk_drewN H0.out _) _); (case g2 => exact blk_alloc (blk_drewN H1.out _) _); (case g1 => exact new_blk _ _ _ (by simp)); (case gB => exact below_alloc (pw_below_drewN HB.out _) _); rintro e w4 ⟨rfl, hb4, hg0, hg1⟩; have HB4 := Aside0.mk hb4; have G0 := Aside0.mk hg0; have G1 := Aside0.mk hg1; clear hb4 hg0 hg1))
  try go_wp2
  rw [← HSX.out]
  clear HSX
  have n0_ := Aside0.mk (blk_drew G0.out)
  have n1_ := Aside0.mk (blk_drew G1.out)
  have n2_ := Aside0.mk (below_drew1 HB4.out)
  clear G0 G1 HB4
  have G0 := n0_
  have G1 := n1_
  have HB4 := n2_
  clear n0_ n1_ n2_
  refine start_ (n := 12) (S := fun w' => w'.cell? ⟨w.heap.size, 0, none⟩ = some (.slice A0 u.length c0) ∧ w'.cell? ⟨w.heap.size + 1, 0, none⟩ = some (.slice A1 d.length c1)) (ds := []) #[false, false, false, false, false, false, false, false, false, false, false, false] (by kernel_rfl) rfl rfl ⟨(blk_cell G0.out 0).trans rfl, (blk_cell G1.out 0).trans rfl⟩ (fun hHeld => ?_)
  generalize w4.drew = w5 at G0 G1 HB4 hHeld ⊢
  refine take_ (i := 0) (N := some 30) (v := ?_) (a' := ?_) #[true, false, false, false, false, false, false, false, false, false, false, false] rfl rfl (by kernel_rfl) (fun _ _ _ h => h) (Or.inl ⟨by rfl, ?_⟩) hHeld ?_ ?_
  rotate_left
  · rintro w' ⟨s0, s1⟩
    go_simp
    with_reducible rfl
  rotate_left
  · simp only [Act.put, List.setIfInBounds_toArray, List.set_cons_zero, List.set_cons_succ, i64_w, i32_w]
    rfl
  refine take_ (i := 2) (N := some 32) (v := ?_) (a' := ?_) #[true, false, true, false, false, false, false, false, false, false, false, false] rfl rfl (by kernel_rfl) (fun _ _ _ h => h) (Or.inl ⟨by rfl, ?_⟩) hHeld ?_ ?_
  rotate_left
  · rintro w' ⟨s0, s1⟩
    go_simp
    with_reducible rfl
  rotate_left
  · simp only [Act.put, List.setIfInBounds_toArray, List.set_cons_zero, List.set_cons_succ, i64_w, i32_w]
    rfl
  refine one_ (i := 1) (N := some 31) #[true, true, true, false, false, false, false, false, false, false, false, false] rfl rfl (by kernel_rfl) (by decide) (fun K hK => ?_)
  refine goes_ Try.func30 (by kernel_rfl) rfl #[.string s, .int .u8 49] (by rfl) rfl rfl (by (try simp only [List.map_toArray, List.map_cons, List.map_nil]); first | done | rfl) ?_
  with_reducible refine (impl_changesTo.calls k3 s 49 (collect (upAt u d) m) _ QA.out).mono ?_
  rintro e w6 ⟨v_, rfl, ho0, hb⟩
  refine ⟨_, rfl, ?_⟩
  have n0_ := Aside0.mk (blk_below G0.out hb)
  have n1_ := Aside0.mk (blk_below G1.out hb)
  have n2_ := Aside0.mk (below_step HB4.out hb)
  have HO1 := Aside0.mk ho0
  clear G0 G1 HB4
  have G0 := n0_
  have G1 := n1_
  have HB4 := n2_
  clear n0_ n1_ n2_ hb ho0
  obtain ⟨Ao1, co1, eo⟩ := Kd.R_slice HO1.out
  subst eo
  refine hK.out _ _ ⟨(blk_cell G0.out 0).trans rfl, (blk_cell G1.out 0).trans rfl⟩ (fun hHeld => ?_)
  clear hK K
  refine norm_ (a' := ?_) ?_ ?_
  rotate_left
  · show Act.put _ (some 31) _ = _
    simp only [Act.put, List.setIfInBounds_toArray, List.set_cons_zero, List.set_cons_succ, i64_w, i32_w]
    rfl
  refine one_ (i := 3) (N := some 33) #[true, true, true, true, false, false, false, false, false, false, false, false] rfl rfl (by kernel_rfl) (by decide) (fun K hK => ?_)
  refine goes_ Try.func29 (by kernel_rfl) rfl #[.slice Ao1 (collect (upAt u d) m).length co1, .slice A0 u.length c0] (by rfl) rfl rfl (by (try simp only [List.map_toArray, List.map_cons, List.map_nil]); first | done | rfl) ?_
  with_reducible refine (slices_Equal_int64_int64.calls k5 _ _ (collect (upAt u d) m) _ _ u _ _ ?side1 ?side2 ?side3 ?side4 QE.out).mono ?_
  (case side1 => exact (Kd.R_reads' HO1.out).2.2)
  (case side2 => exact (Kd.R_reads' HO1.out).2.1)
  (case side3 => exact Kd.C_below HW0.out HB4.out)
  (case side4 => exact hc0)
  rintro e w7 ⟨rfl, ⟨nd_, rfl⟩⟩
  refine ⟨_, rfl, ?_⟩
  have n0_ := Aside0.mk (blk_drewN G0.out nd_)
  have n1_ := Aside0.mk (blk_drewN G1.out nd_)
  have n2_ := Aside0.mk (pw_below_drewN HB4.out nd_)
  clear G0 G1 HB4
  have G0 := n0_
  have G1 := n1_
  have HB4 := n2_
  clear n0_ n1_ n2_
  refine hK.out _ _ ⟨(blk_cell G0.out 0).trans rfl, (blk_cell G1.out 0).trans rfl⟩ (fun hHeld => ?_)
  clear hK K
  refine norm_ (a' := ?_) ?_ ?_
  rotate_left
  · show Act.put _ (some 33) _ = _
    simp only [Act.put, List.setIfInBounds_toArray, List.set_cons_zero, List.set_cons_succ, i64_w, i32_w]
    rfl
  refine pure_ (i := 4) (N := some 34) (v := ?_) (a' := ?_) #[true, true, true, true, true, false, false, false, false, false, false, false] rfl rfl (by kernel_rfl) (fun _ _ _ h => h) (Or.inl ⟨by rfl, ?_⟩) ?_ ?_
  rotate_left
  · intro w'
    go_simp
    with_reducible rfl
  rotate_left
  · simp only [Act.put, List.setIfInBounds_toArray, List.set_cons_zero, List.set_cons_succ, i64_w, i32_w]
    rfl
  refine pure_ (i := 5) (N := some 35) (v := ?_) (a' := ?_) #[true, true, true, true, true, true, false, false, false, false, false, false] rfl rfl (by kernel_rfl) (fun _ _ _ h => h) (Or.inl ⟨by rfl, ?_⟩) ?_ ?_
  rotate_left
  · intro w'
    go_simp
    with_reducible rfl
  rotate_left
  · simp only [Act.put, List.setIfInBounds_toArray, List.set_cons_zero, List.set_cons_succ, i64_w, i32_w]
    rfl
  refine take_ (i := 6) (N := some 36) (v := ?_) (a' := ?_) #[true, true, true, true, true, true, true, false, false, false, false, false] rfl rfl (by kernel_rfl) (fun _ _ _ h => h) (Or.inl ⟨by rfl, ?_⟩) hHeld ?_ ?_
  rotate_left
  · rintro w' ⟨s0, s1⟩
    go_simp
    with_reducible rfl
  rotate_left
  · simp only [Act.put, List.setIfInBounds_toArray, List.set_cons_zero, List.set_cons_succ, i64_w, i32_w]
    rfl
  refine take_ (i := 8) (N := some 38) (v := ?_) (a' := ?_) #[true, true, true, true, true, true, true, false, true, false, false, false] rfl rfl (by kernel_rfl) (fun _ _ _ h => h) (Or.inl ⟨by rfl, ?_⟩) hHeld ?_ ?_
  rotate_left
  · rintro w' ⟨s0, s1⟩
    go_simp
    with_reducible rfl
  rotate_left
  · simp only [Act.put, List.setIfInBounds_toArray, List.set_cons_zero, List.set_cons_succ, i64_w, i32_w]
    rfl
  refine one_ (i := 7) (N := some 37) #[true, true, true, true, true, true, true, true, true, false, false, false] rfl rfl (by kernel_rfl) (by decide) (fun K hK => ?_)
  refine goes_ Try.func30 (by kernel_rfl) rfl #[.string s, .int .u8 48] (by rfl) rfl rfl (by (try simp only [List.map_toArray, List.map_cons, List.map_nil]); first | done | rfl) ?_
  with_reducible refine (impl_changesTo.calls k4 s 48 (collect (downAt u d) m) _ QB.out).mono ?_
  rintro e w8 ⟨v_, rfl, ho0, hb⟩
  refine ⟨_, rfl, ?_⟩
  have n0_ := Aside0.mk (blk_below G0.out hb)
  have n1_ := Aside0.mk (blk_below G1.out hb)
  have n2_ := Aside0.mk (below_step HB4.out hb)
  have HO2 := Aside0.mk ho0
  clear G0 G1 HB4
  have G0 := n0_
  have G1 := n1_
  have HB4 := n2_
  clear n0_ n1_ n2_ hb ho0
  obtain ⟨Ao2, co2, eo⟩ := Kd.R_slice HO2.out
  subst eo
  refine hK.out _ _ ⟨(blk_cell G0.out 0).trans rfl, (blk_cell G1.out 0).trans rfl⟩ (fun hHeld => ?_)
  clear hK K
  refine norm_ (a' := ?_) ?_ ?_
  rotate_left
  · show Act.put _ (some 37) _ = _
    simp only [Act.put, List.setIfInBounds_toArray, List.set_cons_zero, List.set_cons_succ, i64_w, i32_w]
    rfl
  refine one_ (i := 9) (N := some 39) #[true, true, true, true, true, true, true, true, true, true, false, false] rfl rfl (by kernel_rfl) (by decide) (fun K hK => ?_)
  refine goes_ Try.func29 (by kernel_rfl) rfl #[.slice Ao2 (collect (downAt u d) m).length co2, .slice A1 d.length c1] (by rfl) rfl rfl (by (try simp only [List.map_toArray, List.map_cons, List.map_nil]); first | done | rfl) ?_
  with_reducible refine (slices_Equal_int64_int64.calls k6 _ _ (collect (downAt u d) m) _ _ d _ _ ?side1 ?side2 ?side3 ?side4 QF.out).mono ?_
  (case side1 => exact (Kd.R_reads' HO2.out).2.2)
  (case side2 => exact (Kd.R_reads' HO2.out).2.1)
  (case side3 => exact Kd.C_below HW1.out HB4.out)
  (case side4 => exact hc1)
  rintro e w9 ⟨rfl, ⟨nd_, rfl⟩⟩
  refine ⟨_, rfl, ?_⟩
  have n0_ := Aside0.mk (blk_drewN G0.out nd_)
  have n1_ := Aside0.mk (blk_drewN G1.out nd_)
  have n2_ := Aside0.mk (pw_below_drewN HB4.out nd_)
  clear G0 G1 HB4
  have G0 := n0_
  have G1 := n1_
  have HB4 := n2_
  clear n0_ n1_ n2_
  refine hK.out _ _ ⟨(blk_cell G0.out 0).trans rfl, (blk_cell G1.out 0).trans rfl⟩ (fun hHeld => ?_)
  clear hK K
  refine norm_ (a' := ?_) ?_ ?_
  rotate_left
  · show Act.put _ (some 39) _ = _
    simp only [Act.put, List.setIfInBounds_toArray, List.set_cons_zero, List.set_cons_succ, i64_w, i32_w]
    rfl
  refine pure_ (i := 10) (N := some 40) (v := ?_) (a' := ?_) #[true, true, true, true, true, true, true, true, true, true, true, false] rfl rfl (by kernel_rfl) (fun _ _ _ h => h) (Or.inl ⟨by rfl, ?_⟩) ?_ ?_
  rotate_left
  · intro w'
    go_simp
    with_reducible rfl
  rotate_left
  · simp only [Act.put, List.setIfInBounds_toArray, List.set_cons_zero, List.set_cons_succ, i64_w, i32_w]
    rfl
  refine pure_ (i := 11) (N := some 41) (v := ?_) (a' := ?_) #[true, true, true, true, true, true, true, true, true, true, true, true] rfl rfl (by kernel_rfl) (fun _ _ _ h => h) (Or.inl ⟨by rfl, ?_⟩) ?_ ?_
  rotate_left
  · intro w'
    go_simp
    with_reducible rfl
  rotate_left
  · simp only [Act.put, List.setIfInBounds_toArray, List.set_cons_zero, List.set_cons_succ, i64_w, i32_w]
    rfl
  refine done_ (by kernel_rfl) ?_
  try go_wp2
  go_ret2
  exact ⟨rfl, by repeat (first | (with_reducible first | exact HB4.out | apply below_alloc | apply pw_below_drewN | apply below_drew1) | exact HB4.out)⟩

theorem impl_WaveFrom.calls (A0 : Option Addr) (c0 : Nat) (l0 : List Int) (A1 : Option Addr) (c1 : Nat) (l1 : List Int) (a2 : Int) (r1 : ByteArray) (r2 : Bool) (w : World) (hr0 : Kd.C (Kd.int .i64) w A0 l0.length l0) (hc0 : l0.length ≤ c0) (hr1 : Kd.C (Kd.int .i64) w A1 l1.length l1) (hc1 : l1.length ≤ c1) (h : impl_WaveFrom.f l0 l1 a2 = some (r1, r2)) :
    Calls Try.prog 13 #[.slice A0 l0.length c0, .slice A1 l1.length c1, .int .i64 a2] w fun e w' => e = .returned (.tuple #[.string r1, .bool r2]) ∧ Below w.heap.size w w' := by
  unfold impl_WaveFrom.f at h
  split at h
  · rename_i hl
    obtain ⟨hu, hd⟩ := hl
    split at h
    · rename_i hok
      obtain ⟨ht, hs, hs2⟩ := hok
      obtain ⟨m, rfl⟩ := Int.eq_ofNat_of_zero_le ht.1
      rw [Int.toNat_natCast] at h
      by_cases h1 : collect (upAt l0 l1) m = l0
      · by_cases h2 : collect (downAt l0 l1) m = l1
        · rw [if_pos ⟨h1, h2⟩] at h
          obtain ⟨rfl, rfl⟩ := Prod.mk.inj (Option.some.inj h)
          exact from_eq2 l0 l1 A0 A1 c0 c1 m w hr0 hc0 hr1 hc1 hu hd ht hs hs2 (eq_true h1) (eq_true h2)
        · rw [if_neg (fun z => h2 z.2)] at h
          obtain ⟨rfl, rfl⟩ := Prod.mk.inj (Option.some.inj h)
          exact from_eq1 l0 l1 A0 A1 c0 c1 m w hr0 hc0 hr1 hc1 hu hd ht hs hs2 (eq_true h1) (eq_false h2)
      · rw [if_neg (fun z => h1 z.1)] at h
        obtain ⟨rfl, rfl⟩ := Prod.mk.inj (Option.some.inj h)
        exact from_eq0 l0 l1 A0 A1 c0 c1 m w hr0 hc0 hr1 hc1 hu hd ht hs hs2 (eq_false h1)
    · rename_i hok
      obtain ⟨rfl, rfl⟩ := Prod.mk.inj (Option.some.inj h)
      by_cases ht : 0 ≤ a2 ∧ a2 ≤ 400
      · cases hs : setB l0 (a2 - 1) with
        | false => exact from_no2 l0 l1 A0 A1 c0 c1 a2 w hr0 hc0 hr1 hc1 hu hd ht hs
        | true =>
          cases hs2 : setB l1 (a2 - 1) with
          | false => exact from_no3 l0 l1 A0 A1 c0 c1 a2 w hr0 hc0 hr1 hc1 hu hd ht hs hs2
          | true => exact absurd ⟨ht, hs, hs2⟩ hok
      · exact from_no1 l0 l1 A0 A1 c0 c1 a2 w hr0 hc0 hr1 hc1 hu hd ht
  · cases h

end Go.Proofs.Ytkhkmdddflaolaa.P
