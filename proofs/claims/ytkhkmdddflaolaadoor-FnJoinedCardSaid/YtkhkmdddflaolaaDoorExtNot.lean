/- What the program's NotWave answers, for all texts up to a million bytes: the contract of the Go function. -/
import Derived.Test.YtkhkmdddflaolaaDoorP2
import Derived.Test.YtkhkmdddflaolaaDoorWaveOf
import Derived.Deep.QuietTactic
import Derived.BigQuiet
import Derived.Lib.Hide
namespace Go.Proofs.YtkhkmdddflaolaaDoor.P
open Go.RowKit Go.Proofs.YtkhkmdddflaolaaDoorW.PrintWords Go.Proofs.YtkhkmdddflaolaaDoorW.PrintLast Go.Proofs.YtkhkmdddflaolaaDoorW.PrintMore
set_option linter.unusedVariables false
set_option linter.unusedSimpArgs false

def notBit (s : ByteArray) (i : Nat) : Bool := bt s (i : Int) == 48
def impl_NotWave.f (a0 : ByteArray) : Option (ByteArray × Bool) :=
  (impl_IsWave.f a0).bind fun t => (if t = true then (if a0.size ≤ 1000000 then some (waveStr (notBit a0) a0.size, true) else none) else some (⟨#[]⟩, false))

set_option maxHeartbeats 1600000 in
theorem not_step (s : ByteArray) (i : Nat) (hi : i < s.size) (b : Nat) (W : World) (h0 : W.heap[b]? = some (.cells #[.string s] 9 (0, 0))) (hs : s.size ≤ 1000000) :
    Calls Tryd.prog 48 #[.int .i64 (i : Int), .pointer (some ⟨b, 0, none⟩)] W fun e W' => e = .returned (.bool (notBit s i)) ∧ W' = W := by
  have c0 : W.cell? ⟨b, 0, none⟩ = some (.string s) := (blk_cell h0 0).trans rfl
  have HX := Aside0.mk (show ((s[i]'hi).toNat : Int) = bt s (i : Int) from bt_at s (i : Int) hi)
  have p1 : (0 : Int) ≤ (i : Int) := by omega
  have p2 : (i : Int) < (s.size : Int) := by omega
  clear h0
  go_enter Tryd.func48, Tryd.ntmps48
  go_wp2
  go_ret
  exact ⟨by rw [notBit, ← HX.out]; rfl, rfl⟩

theorem not_wave (s : ByteArray) (b : Nat) (W : World) (h0 : W.heap[b]? = some (.cells #[.string s] 9 (0, 0))) (hs : s.size ≤ 1000000) :
    Calls Tryd.prog 47 #[.int .i64 (s.size : Int), .func (.func 48) #[] #[.pointer (some ⟨b, 0, none⟩)]] W fun e W' => e = .returned (.string (waveStr (notBit s) s.size)) ∧ Below W.heap.size W W' :=
  waveOf_any 48 #[.pointer (some ⟨b, 0, none⟩)] (enters_of Tryd.func48 (by kernel_rfl) rfl) s.size hs (notBit s)
    (fun _ W' => Below W.heap.size W W') b W (blk_lt h0) (Below.refl _ _)
    (fun i W1 W2 hI hsz hb => hI.trans hb)
    (fun i W1 hi hI hsz => (not_step s i hi b W1 (blk_below h0 hI) hs).mono fun e W' h => by
      obtain ⟨rfl, rfl⟩ := h
      exact ⟨rfl, hI, KeepBut.refl _ _ _⟩)

set_option maxHeartbeats 1600000 in
theorem not_yes (s : ByteArray) (w : World) (hs : s.size ≤ 1000000) (ht : impl_IsWave.f s = some true) :
    Calls Tryd.prog 20 #[.string s] w fun e w' => e = .returned (.tuple #[.string (waveStr (notBit s) s.size), .bool true]) ∧ Below w.heap.size w w' := by
  have HT := Aside0.mk ht
  clear ht
  go_enter Tryd.func20, Tryd.ntmps20
  go_wp2_with (first | (go_at_call 16; refine (impl_IsWave.calls s true _ HT.out).mono ?_; rintro e w1 ⟨rfl, hb1⟩; have HB1 := Aside0.mk hb1; have HK := Aside0.mk (blk_below (blk_new w (.cells #[.string s] 9)) hb1); have c1 : w1.cell? ⟨w.heap.size, 0, none⟩ = some (.string s) := (blk_cell HK.out 0).trans rfl; clear hb1) | (go_at_call 47; refine (not_wave s w.heap.size _ HK.out hs).mono ?_; rintro e w2 ⟨rfl, hb2⟩; have HB2 := Aside0.mk hb2; clear hb2))
  go_ret2
  exact ⟨rfl, below_step (below_step ((Below.refl _ _).alloc (Nat.le_refl _) _) HB1.out) HB2.out⟩
set_option maxHeartbeats 1600000 in
theorem not_no (s : ByteArray) (w : World) (ht : impl_IsWave.f s = some false) :
    Calls Tryd.prog 20 #[.string s] w fun e w' => e = .returned (.tuple #[.string ⟨#[]⟩, .bool false]) ∧ Below w.heap.size w w' := by
  have HT := Aside0.mk ht
  clear ht
  go_enter Tryd.func20, Tryd.ntmps20
  go_wp2_with (first | (go_at_call 16; refine (impl_IsWave.calls s false _ HT.out).mono ?_; rintro e w1 ⟨rfl, hb1⟩; have HB1 := Aside0.mk hb1; clear hb1))
  go_ret2
  exact ⟨rfl, below_step ((Below.refl _ _).alloc (Nat.le_refl _) _) HB1.out⟩

theorem impl_NotWave.calls (a0 : ByteArray) (r1 : ByteArray) (r2 : Bool) (w : World) (h : impl_NotWave.f a0 = some (r1, r2)) :
    Calls Tryd.prog 20 #[.string a0] w fun e w' => e = .returned (.tuple #[.string r1, .bool r2]) ∧ Below w.heap.size w w' := by
  unfold impl_NotWave.f at h
  obtain ⟨t, ht, h⟩ := Option.bind_eq_some_iff.mp h
  cases t with
  | true =>
    simp only [if_true] at h
    split at h
    · rename_i hs
      obtain ⟨rfl, rfl⟩ := Prod.mk.inj (Option.some.inj h)
      exact not_yes a0 w hs ht
    · cases h
  | false =>
    simp only [Bool.false_eq_true, if_false] at h
    obtain ⟨rfl, rfl⟩ := Prod.mk.inj (Option.some.inj h)
    exact not_no a0 w ht
end Go.Proofs.YtkhkmdddflaolaaDoor.P
