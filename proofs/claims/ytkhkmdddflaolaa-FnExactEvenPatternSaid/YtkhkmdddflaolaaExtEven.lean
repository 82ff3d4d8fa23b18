/- What the program's EvenPattern answers, for all arguments: the contract of the Go function; no condition. -/
import Derived.Test.YtkhkmdddflaolaaWaveOf
import Derived.Deep.QuietTactic
import Derived.BigQuiet
import Derived.Lib.Hide
namespace Go.Proofs.Ytkhkmdddflaolaa.P
open Go.RowKit Go.Proofs.YtkhkmdddflaolaaW.PrintWords Go.Proofs.YtkhkmdddflaolaaW.PrintLast Go.Proofs.YtkhkmdddflaolaaW.PrintMore
set_option linter.unusedVariables false
set_option linter.unusedSimpArgs false

def evenOk (a0 a1 : Int) : Prop := 1 ≤ a0 ∧ a0 ≤ 64 ∧ 0 ≤ a1 ∧ a1 ≤ a0
instance (a0 a1 : Int) : Decidable (evenOk a0 a1) := by unfold evenOk; infer_instance
def evenBit (a0 a1 : Int) (i : Nat) : Bool := decide ((i : Int) * a1 / a0 < ((i : Int) + 1) * a1 / a0)
def impl_EvenPattern.f (a0 : Int) (a1 : Int) : Option (ByteArray × Bool) :=
  if evenOk a0 a1 then some (waveStr (evenBit a0 a1) a0.toNat, true) else some (⟨#[]⟩, false)

set_option maxHeartbeats 1600000 in
theorem even_step (a0 a1 : Int) (i : Nat) (b0 b1 : Nat) (W : World) (h0 : W.cell? ⟨b0, 0, none⟩ = some (.int .i64 a0)) (h1 : W.cell? ⟨b1, 0, none⟩ = some (.int .i64 a1))
    (k1 : 1 ≤ a0) (k2 : a0 ≤ 64) (k3 : 0 ≤ a1) (k4 : a1 ≤ 64) (hi : i < 64) :
    Calls Try.prog 18 #[.int .i64 (i : Int), .pointer (some ⟨b1, 0, none⟩), .pointer (some ⟨b0, 0, none⟩)] W fun e W' => e = .returned (.bool (evenBit a0 a1 i)) ∧ ∃ n, W' = W.drewN n := by
  have hm1 : 0 ≤ ((i : Int) + 1) * a1 := Int.mul_nonneg (by omega) k3
  have hm2 : 0 ≤ (i : Int) * a1 := Int.mul_nonneg (by omega) k3
  have hm3 : ((i : Int) + 1) * a1 ≤ 64 * 64 := Int.mul_le_mul (by omega) k4 k3 (by omega)
  have hm4 : (i : Int) * a1 ≤ 64 * 64 := Int.mul_le_mul (by omega) k4 k3 (by omega)
  have hz : ¬ a0 = 0 := by omega
  have hd1 : 0 ≤ ((i : Int) + 1) * a1 / a0 := Int.ediv_nonneg hm1 (by omega)
  have hd2 : 0 ≤ (i : Int) * a1 / a0 := Int.ediv_nonneg hm2 (by omega)
  have hd3 : ((i : Int) + 1) * a1 / a0 ≤ ((i : Int) + 1) * a1 := Int.ediv_le_self _ hm1
  have hd4 : (i : Int) * a1 / a0 ≤ (i : Int) * a1 := Int.ediv_le_self _ hm2
  go_enter Try.func18, Try.ntmps18
  go_wp2
  go_quiet (fail)
  go_wp2
  go_ret
  exact ⟨rfl, _, rfl⟩

set_option maxHeartbeats 1600000 in
theorem even_no (a0 a1 : Int) (w : World) (h : ¬ evenOk a0 a1) :
    Calls Try.prog 8 #[.int .i64 a0, .int .i64 a1] w fun e w' => e = .returned (.tuple #[.string ⟨#[]⟩, .bool false]) ∧ Below w.heap.size w w' := by
  have HB := Aside0.mk (Below.refl w.heap.size w)
  unfold evenOk at h
  by_cases h1 : 1 ≤ a0
  · by_cases h2 : a0 ≤ 64
    · by_cases h3 : 0 ≤ a1
      · have h4 : ¬ a1 ≤ a0 := by omega
        clear h
        go_enter Try.func8, Try.ntmps8
        go_wp2
        go_ret2
        exact ⟨rfl, by repeat (first | (with_reducible first | exact HB.out | apply below_alloc | apply pw_below_drewN | apply below_drew1) | exact HB.out)⟩
      · clear h
        go_enter Try.func8, Try.ntmps8
        go_wp2
        go_ret2
        exact ⟨rfl, by repeat (first | (with_reducible first | exact HB.out | apply below_alloc | apply pw_below_drewN | apply below_drew1) | exact HB.out)⟩
    · clear h
      go_enter Try.func8, Try.ntmps8
      go_wp2
      go_ret2
      exact ⟨rfl, by repeat (first | (with_reducible first | exact HB.out | apply below_alloc | apply pw_below_drewN | apply below_drew1) | exact HB.out)⟩
  · clear h
    go_enter Try.func8, Try.ntmps8
    go_wp2
    go_ret2
    exact ⟨rfl, by repeat (first | (with_reducible first | exact HB.out | apply below_alloc | apply pw_below_drewN | apply below_drew1) | exact HB.out)⟩

set_option maxHeartbeats 1600000 in
theorem even_yes (n : Nat) (a1 : Int) (w : World) (k1 : 1 ≤ n) (k2 : n ≤ 64) (k3 : 0 ≤ a1) (k4 : a1 ≤ (n : Int)) :
    Calls Try.prog 8 #[.int .i64 (n : Int), .int .i64 a1] w fun e w' => e = .returned (.tuple #[.string (waveStr (evenBit (n : Int) a1) n), .bool true]) ∧ Below w.heap.size w w' := by
  obtain ⟨W2, hW2⟩ : ∃ W2, W2 = (w.alloc (.cells #[.int .i64 (n : Int)] 2)).alloc (.cells #[.int .i64 a1] 2) := ⟨_, rfl⟩
  have hs : W2.heap.size = w.heap.size + 2 := by rw [hW2]; simp
  have hc0 : W2.cell? ⟨w.heap.size, 0, none⟩ = some (.int .i64 (n : Int)) := by
    rw [hW2, World.cell?_alloc_past _ _ _ (by simp), World.cell?_alloc_at _ _ _ _ rfl]; rfl
  have hc1 : W2.cell? ⟨w.heap.size + 1, 0, none⟩ = some (.int .i64 a1) := by
    rw [hW2, World.cell?_alloc_at _ _ _ _ (by simp)]; rfl
  have hb0 : Below w.heap.size w W2 := by rw [hW2]; exact ((Below.refl _ _).alloc (Nat.le_refl _) _).alloc (by simp) _
  have hC := waveOf_any 18 #[.pointer (some ⟨w.heap.size + 1, 0, none⟩), .pointer (some ⟨w.heap.size, 0, none⟩)] (enters_of Try.func18 (by kernel_rfl) rfl) n (by omega) (evenBit (n : Int) a1)
    (fun _ W => Below w.heap.size w W ∧ W.cell? ⟨w.heap.size, 0, none⟩ = some (.int .i64 (n : Int)) ∧ W.cell? ⟨w.heap.size + 1, 0, none⟩ = some (.int .i64 a1)) w.heap.size W2 (by omega)
    ⟨hb0, hc0, hc1⟩
    (fun i W W' hI hsz hb => ⟨hI.1.trans (hb.mono (by omega)), (hb.cell (p := ⟨w.heap.size, 0, none⟩) (by show w.heap.size < W2.heap.size; omega)).trans hI.2.1, (hb.cell (p := ⟨w.heap.size + 1, 0, none⟩) (by show w.heap.size + 1 < W2.heap.size; omega)).trans hI.2.2⟩)
    (fun i W hi hI hsz => (even_step (n : Int) a1 i w.heap.size (w.heap.size + 1) W hI.2.1 hI.2.2 (by omega) (by omega) k3 (by omega) (by omega)).mono fun e W' h => by
      obtain ⟨rfl, q, rfl⟩ := h
      exact ⟨rfl, ⟨pw_below_drewN hI.1 q, hI.2.1, hI.2.2⟩, keep_drewN (KeepBut.refl _ _ _) q⟩)
  subst hW2
  have HC := Aside0.mk hC
  clear hC hc0 hc1 hb0 hs
  have hk1 : decide ((1 : Int) ≤ (n : Int)) = true := decide_eq_true (by omega)
  have hk2 : decide ((n : Int) ≤ 64) = true := decide_eq_true (by omega)
  have hk3 : decide ((0 : Int) ≤ a1) = true := decide_eq_true k3
  have hk4 : decide (a1 ≤ (n : Int)) = true := decide_eq_true k4
  go_enter Try.func8, Try.ntmps8
  go_wp2_with (first | (go_at_call 17; refine HC.out.mono ?_; rintro e w' ⟨rfl, hb, _⟩) | go_in)
  go_ret2
  exact ⟨rfl, hb⟩

theorem impl_EvenPattern.calls (a0 : Int) (a1 : Int) (r1 : ByteArray) (r2 : Bool) (w : World) (h : impl_EvenPattern.f a0 a1 = some (r1, r2)) :
    Calls Try.prog 8 #[.int .i64 a0, .int .i64 a1] w fun e w' => e = .returned (.tuple #[.string r1, .bool r2]) ∧ Below w.heap.size w w' := by
  unfold impl_EvenPattern.f at h
  by_cases hok : evenOk a0 a1
  · rw [if_pos hok] at h
    obtain ⟨h1, h2, h3, h4⟩ := hok
    obtain ⟨n, rfl⟩ := Int.eq_ofNat_of_zero_le (show 0 ≤ a0 by omega)
    rw [Int.toNat_natCast] at h
    obtain ⟨rfl, rfl⟩ := Prod.mk.inj (Option.some.inj h)
    exact even_yes n a1 w (by omega) (by omega) h3 h4
  · rw [if_neg hok] at h
    obtain ⟨rfl, rfl⟩ := Prod.mk.inj (Option.some.inj h)
    exact even_no a0 a1 w hok
end Go.Proofs.Ytkhkmdddflaolaa.P
