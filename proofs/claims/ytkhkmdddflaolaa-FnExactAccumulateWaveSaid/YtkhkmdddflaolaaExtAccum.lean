/- What the program's AccumulateWave answers, for all arguments: the contract of the Go function; no condition. -/
import Derived.Test.YtkhkmdddflaolaaWaveOf
import Derived.Deep.QuietTactic
import Derived.BigQuiet
import Derived.Lib.Hide
namespace Go.Proofs.Ytkhkmdddflaolaa.P
open Go.RowKit Go.Proofs.YtkhkmdddflaolaaW.PrintWords Go.Proofs.YtkhkmdddflaolaaW.PrintLast Go.Proofs.YtkhkmdddflaolaaW.PrintMore
set_option linter.unusedVariables false
set_option linter.unusedSimpArgs false

def accOk (a0 a1 a2 a3 : Int) : Prop := (1 ≤ a1 ∧ a1 ≤ 1000) ∧ (1 ≤ a0 ∧ a0 ≤ a1) ∧ (0 ≤ a2 ∧ a2 ≤ a1 - 1) ∧ (0 ≤ a3 ∧ a3 ≤ 400)
instance (a0 a1 a2 a3 : Int) : Decidable (accOk a0 a1 a2 a3) := by unfold accOk; infer_instance
/-- The phase at tick i. -/
def accPh (a0 a1 a2 : Int) : Nat → Int
  | 0 => a2
  | i + 1 => (accPh a0 a1 a2 i + a0) % a1
theorem accPh_bd (a0 a1 a2 : Int) (h1 : 0 < a1) (h2 : 0 ≤ a2) (h3 : a2 < a1) (i : Nat) : 0 ≤ accPh a0 a1 a2 i ∧ accPh a0 a1 a2 i < a1 := by
  cases i with
  | zero => exact ⟨h2, h3⟩
  | succ i => exact ⟨Int.emod_nonneg _ (by omega), Int.emod_lt_of_pos _ h1⟩
def accBit (a0 a1 a2 : Int) (i : Nat) : Bool := decide (a1 ≤ accPh a0 a1 a2 i + a0)
def impl_AccumulateWave.f (a0 : Int) (a1 : Int) (a2 : Int) (a3 : Int) : Option (ByteArray × Bool) :=
  if accOk a0 a1 a2 a3 then some (waveStr (accBit a0 a1 a2) a3.toNat, true) else some (⟨#[]⟩, false)

set_option maxHeartbeats 1600000 in
theorem acc_step (i : Int) (s m p : Int) (bs bm bp : Nat) (W : World) (h0 : W.heap[bs]? = some (.cells #[.int .i64 s] 2 (0, 0))) (h1 : W.heap[bm]? = some (.cells #[.int .i64 m] 2 (0, 0))) (h2 : W.heap[bp]? = some (.cells #[.int .i64 p] 2 (0, 0)))
    (n1 : bs ≠ bp) (n2 : bm ≠ bp) (k1 : 1 ≤ m) (k2 : m ≤ 1000) (k3 : 1 ≤ s) (k4 : s ≤ 1000) (k5 : 0 ≤ p) (k6 : p ≤ 1000) :
    Calls Try.prog 23 #[.int .i64 i, .pointer (some ⟨bp, 0, none⟩), .pointer (some ⟨bs, 0, none⟩), .pointer (some ⟨bm, 0, none⟩)] W fun e W' => e = .returned (.bool (decide (m ≤ p + s))) ∧ W'.heap[bp]? = some (.cells #[.int .i64 ((p + s) % m)] 2 (0, 0)) ∧ KeepBut W W' bp none ∧ ∀ w0 : World, w0.heap.size ≤ bp → Below w0.heap.size w0 W → Below w0.heap.size w0 W' := by
  have HP := Aside0.mk h2
  have HK := Aside0.mk (KeepBut.refl W bp none)
  have c0 : W.cell? ⟨bs, 0, none⟩ = some (.int .i64 s) := (blk_cell h0 0).trans rfl
  have c1 : W.cell? ⟨bm, 0, none⟩ = some (.int .i64 m) := (blk_cell h1 0).trans rfl
  have c2 : W.cell? ⟨bp, 0, none⟩ = some (.int .i64 p) := (blk_cell h2 0).trans rfl
  have f2 : W.frozen? ⟨bp, 0, none⟩ = false := blk_frozen h2 0
  have hz : ¬ m = 0 := by omega
  have hz2 : (m == 0) = false := beq_eq_false_iff_ne.mpr hz
  clear h0 h1 h2
  go_enter Try.func23, Try.ntmps23
  go_wp2
  go_ret
  refine ⟨rfl, ?_, by repeat (first | exact HK.out | apply KeepBut.set_ | apply keep_drewN | apply keep_drew), fun w0 hle hb => by repeat (first | exact hb | apply pw_below_drewN | apply below_drew1 | refine below_set ?_ hle)⟩
  (with_reducible repeat (first | refine blk_drewN ?_ _ | refine blk_drew ?_ | refine blk_alloc ?_ _))
  refine blk_put (cs := #[.int .i64 (p + s)]) ?_ 0 _ rfl
  (with_reducible repeat (first | refine blk_drewN ?_ _ | refine blk_drew ?_ | refine blk_alloc ?_ _))
  exact blk_put (cs := #[.int .i64 p]) HP.out 0 _ rfl

set_option maxHeartbeats 1600000 in
theorem acc_no (a0 a1 a2 a3 : Int) (w : World) (h : ¬ accOk a0 a1 a2 a3) :
    Calls Try.prog 10 #[.int .i64 a0, .int .i64 a1, .int .i64 a2, .int .i64 a3] w fun e w' => e = .returned (.tuple #[.string ⟨#[]⟩, .bool false]) ∧ Below w.heap.size w w' := by
  have HB := Aside0.mk (Below.refl w.heap.size w)
  unfold accOk at h
  by_cases h1 : 1 ≤ a1 ∧ a1 ≤ 1000
  · have hw : wrap64 (a1 - 1) = a1 - 1 := w64 (by omega) (by omega)
    by_cases h2 : 1 ≤ a0 ∧ a0 ≤ a1
    · by_cases h3 : 0 ≤ a2 ∧ a2 ≤ a1 - 1
      · by_cases h4 : 0 ≤ a3
        · have h5 : ¬ a3 ≤ 400 := fun z => h ⟨h1, h2, h3, h4, z⟩
          obtain ⟨h11, h12⟩ := h1; obtain ⟨h21, h22⟩ := h2; obtain ⟨h31, h32⟩ := h3
          clear h
          go_enter Try.func10, Try.ntmps10
          go_wp2
          go_ret2
          exact ⟨rfl, by repeat (first | (with_reducible first | exact HB.out | apply below_alloc | apply pw_below_drewN | apply below_drew1) | exact HB.out)⟩
        · obtain ⟨h11, h12⟩ := h1; obtain ⟨h21, h22⟩ := h2; obtain ⟨h31, h32⟩ := h3
          clear h
          go_enter Try.func10, Try.ntmps10
          go_wp2
          go_ret2
          exact ⟨rfl, by repeat (first | (with_reducible first | exact HB.out | apply below_alloc | apply pw_below_drewN | apply below_drew1) | exact HB.out)⟩
      · by_cases h4 : 0 ≤ a2
        · have h5 : ¬ a2 ≤ a1 - 1 := fun z => h3 ⟨h4, z⟩
          obtain ⟨h11, h12⟩ := h1; obtain ⟨h21, h22⟩ := h2
          clear h h3
          go_enter Try.func10, Try.ntmps10
          go_wp2
          go_ret2
          exact ⟨rfl, by repeat (first | (with_reducible first | exact HB.out | apply below_alloc | apply pw_below_drewN | apply below_drew1) | exact HB.out)⟩
        · obtain ⟨h11, h12⟩ := h1; obtain ⟨h21, h22⟩ := h2
          clear h h3
          go_enter Try.func10, Try.ntmps10
          go_wp2
          go_ret2
          exact ⟨rfl, by repeat (first | (with_reducible first | exact HB.out | apply below_alloc | apply pw_below_drewN | apply below_drew1) | exact HB.out)⟩
    · by_cases h4 : 1 ≤ a0
      · have h5 : ¬ a0 ≤ a1 := fun z => h2 ⟨h4, z⟩
        obtain ⟨h11, h12⟩ := h1
        clear h h2
        go_enter Try.func10, Try.ntmps10
        go_wp2
        go_ret2
        exact ⟨rfl, by repeat (first | (with_reducible first | exact HB.out | apply below_alloc | apply pw_below_drewN | apply below_drew1) | exact HB.out)⟩
      · obtain ⟨h11, h12⟩ := h1
        clear h h2
        go_enter Try.func10, Try.ntmps10
        go_wp2
        go_ret2
        exact ⟨rfl, by repeat (first | (with_reducible first | exact HB.out | apply below_alloc | apply pw_below_drewN | apply below_drew1) | exact HB.out)⟩
  · by_cases h4 : 1 ≤ a1
    · have h5 : ¬ a1 ≤ 1000 := fun z => h1 ⟨h4, z⟩
      clear h h1
      go_enter Try.func10, Try.ntmps10
      go_wp2
      go_ret2
      exact ⟨rfl, by repeat (first | (with_reducible first | exact HB.out | apply below_alloc | apply pw_below_drewN | apply below_drew1) | exact HB.out)⟩
    · clear h h1
      go_enter Try.func10, Try.ntmps10
      go_wp2
      go_ret2
      exact ⟨rfl, by repeat (first | (with_reducible first | exact HB.out | apply below_alloc | apply pw_below_drewN | apply below_drew1) | exact HB.out)⟩

set_option maxHeartbeats 1600000 in
theorem acc_yes (a0 a1 a2 : Int) (n : Nat) (w : World) (h : accOk a0 a1 a2 (n : Int)) :
    Calls Try.prog 10 #[.int .i64 a0, .int .i64 a1, .int .i64 a2, .int .i64 (n : Int)] w fun e w' => e = .returned (.tuple #[.string (waveStr (accBit a0 a1 a2) n), .bool true]) ∧ Below w.heap.size w w' := by
  obtain ⟨⟨h11, h12⟩, ⟨h21, h22⟩, ⟨h31, h32⟩, h41, h42⟩ := h
  obtain ⟨W2, hW2⟩ : ∃ W2, W2 = ((w.alloc (.cells #[.int .i64 a0] 2)).alloc (.cells #[.int .i64 a1] 2)).alloc (.cells #[.int .i64 a2] 2) := ⟨_, rfl⟩
  have hs : W2.heap.size = w.heap.size + 3 := by rw [hW2]; simp
  have hc0 : W2.heap[w.heap.size]? = some (.cells #[.int .i64 a0] 2 (0, 0)) := by
    rw [hW2]; exact blk_alloc (blk_alloc (blk_new _ _) _) _
  have hc1 : W2.heap[w.heap.size + 1]? = some (.cells #[.int .i64 a1] 2 (0, 0)) := by
    rw [hW2]; refine blk_alloc ?_ _; have := blk_new (w.alloc (.cells #[.int .i64 a0] 2)) (.cells #[.int .i64 a1] 2); simpa using this
  have hc2 : W2.heap[w.heap.size + 2]? = some (.cells #[.int .i64 a2] 2 (0, 0)) := by
    rw [hW2]; have := blk_new ((w.alloc (.cells #[.int .i64 a0] 2)).alloc (.cells #[.int .i64 a1] 2)) (.cells #[.int .i64 a2] 2); simpa using this
  have hb0 : Below w.heap.size w W2 := by rw [hW2]; exact (((Below.refl _ _).alloc (Nat.le_refl _) _).alloc (by simp) _).alloc (by simp; omega) _
  have hC := waveOf_any 23 #[.pointer (some ⟨w.heap.size + 2, 0, none⟩), .pointer (some ⟨w.heap.size, 0, none⟩), .pointer (some ⟨w.heap.size + 1, 0, none⟩)] (enters_of Try.func23 (by kernel_rfl) rfl) n (by omega) (accBit a0 a1 a2)
    (fun i W => Below w.heap.size w W ∧ W.heap[w.heap.size]? = some (.cells #[.int .i64 a0] 2 (0, 0)) ∧ W.heap[w.heap.size + 1]? = some (.cells #[.int .i64 a1] 2 (0, 0)) ∧ W.heap[w.heap.size + 2]? = some (.cells #[.int .i64 (accPh a0 a1 a2 i)] 2 (0, 0))) (w.heap.size + 2) W2 (by omega)
    ⟨hb0, hc0, hc1, hc2⟩
    (fun i W W' hI hsz hb => ⟨hI.1.trans (hb.mono (by omega)), (hb.block _ (by omega)).trans hI.2.1, (hb.block _ (by omega)).trans hI.2.2.1, (hb.block _ (by omega)).trans hI.2.2.2⟩)
    (fun i W hi hI hsz => by
      have hbd := accPh_bd a0 a1 a2 (by omega) h31 (by omega) i
      refine (acc_step (i : Int) a0 a1 (accPh a0 a1 a2 i) w.heap.size (w.heap.size + 1) (w.heap.size + 2) W hI.2.1 hI.2.2.1 hI.2.2.2 (by omega) (by omega) h11 h12 h21 (by omega) hbd.1 (by omega)).mono fun e W' h => ?_
      obtain ⟨rfl, hp, hk, hbl⟩ := h
      exact ⟨rfl, ⟨hbl w (by omega) hI.1, hk.blk hI.2.1 (by omega) (by simp), hk.blk hI.2.2.1 (by omega) (by simp), hp⟩, hk⟩)
  subst hW2
  have HC := Aside0.mk hC
  clear hC hc0 hc1 hc2 hb0 hs
  go_enter Try.func10, Try.ntmps10
  go_wp2_with (first | (go_at_call 17; refine HC.out.mono ?_; rintro e w' ⟨rfl, hb, _⟩) | go_in)
  go_ret2
  exact ⟨rfl, hb⟩

theorem impl_AccumulateWave.calls (a0 : Int) (a1 : Int) (a2 : Int) (a3 : Int) (r1 : ByteArray) (r2 : Bool) (w : World) (h : impl_AccumulateWave.f a0 a1 a2 a3 = some (r1, r2)) :
    Calls Try.prog 10 #[.int .i64 a0, .int .i64 a1, .int .i64 a2, .int .i64 a3] w fun e w' => e = .returned (.tuple #[.string r1, .bool r2]) ∧ Below w.heap.size w w' := by
  unfold impl_AccumulateWave.f at h
  by_cases hok : accOk a0 a1 a2 a3
  · rw [if_pos hok] at h
    obtain ⟨n, rfl⟩ := Int.eq_ofNat_of_zero_le hok.2.2.2.1
    rw [Int.toNat_natCast] at h
    obtain ⟨rfl, rfl⟩ := Prod.mk.inj (Option.some.inj h)
    exact acc_yes a0 a1 a2 n w hok
  · rw [if_neg hok] at h
    obtain ⟨rfl, rfl⟩ := Prod.mk.inj (Option.some.inj h)
    exact acc_no a0 a1 a2 a3 w hok
end Go.Proofs.Ytkhkmdddflaolaa.P
