/- What the program's JoinWaves answers, for all arguments whose first wave is at most a million bytes: the contract of the Go function. -/
import Derived.Test.YtkhkmdddflaolaaDoorP2
import Derived.Test.YtkhkmdddflaolaaDoorWaveOf
import Derived.Deep.QuietTactic
import Derived.BigQuiet
import Derived.Lib.Hide
namespace Go.Proofs.YtkhkmdddflaolaaDoor.P
open Go.RowKit Go.Proofs.YtkhkmdddflaolaaDoorW.PrintWords Go.Proofs.YtkhkmdddflaolaaDoorW.PrintLast Go.Proofs.YtkhkmdddflaolaaDoorW.PrintMore
set_option linter.unusedVariables false
set_option linter.unusedSimpArgs false

def joinBit (op : Int) (a b : ByteArray) (i : Nat) : Bool :=
  if op = 0 then (bt a (i : Int) == 49) && (bt b (i : Int) == 49) else if op = 1 then (bt a (i : Int) == 49) || (bt b (i : Int) == 49) else if op = 2 then (bt a (i : Int) == 49) != (bt b (i : Int) == 49) else (bt a (i : Int) == 49) && !(bt b (i : Int) == 49)
def impl_JoinWaves.f (a0 : Int) (a1 : ByteArray) (a2 : ByteArray) : Option (ByteArray × Bool) :=
  (impl_IsWave.f a1).bind fun t => (if t = true then ((impl_IsWave.f a2).bind fun u => (if u = true then (if a1.size = a2.size ∧ 0 ≤ a0 ∧ a0 ≤ 3 then (if a1.size ≤ 1000000 then some (waveStr (joinBit a0 a1 a2) a1.size, true) else none) else some (⟨#[]⟩, false)) else some (⟨#[]⟩, false))) else some (⟨#[]⟩, false))

set_option maxHeartbeats 3200000 in
theorem join_step (op : Int) (s t : ByteArray) (i : Nat) (hi : i < s.size) (hj : i < t.size) (b0 b1 b2 : Nat) (W : World) (c0 : W.cell? ⟨b0, 0, none⟩ = some (.int .i64 op)) (c1 : W.cell? ⟨b1, 0, none⟩ = some (.string s)) (c2 : W.cell? ⟨b2, 0, none⟩ = some (.string t)) (hs : s.size ≤ 1000000) (ho : op = 0 ∨ op = 1 ∨ op = 2 ∨ op = 3) :
    Calls Tryd.prog 53 #[.int .i64 (i : Int), .pointer (some ⟨b1, 0, none⟩), .pointer (some ⟨b2, 0, none⟩), .pointer (some ⟨b0, 0, none⟩)] W fun e W' => e = .returned (.bool (joinBit op s t i)) ∧ ∃ n, W' = W.drewN n := by
  have HX := Aside0.mk (show ((s[i]'hi).toNat : Int) = bt s (i : Int) from bt_at s (i : Int) hi)
  have HY := Aside0.mk (show ((t[i]'hj).toNat : Int) = bt t (i : Int) from bt_at t (i : Int) hj)
  have p1 : (0 : Int) ≤ (i : Int) := by omega
  have p2 : (i : Int) < (s.size : Int) := by omega
  have p3 : (i : Int) < (t.size : Int) := by omega
  rcases ho with rfl | rfl | rfl | rfl
  all_goals
    go_enter Tryd.func53, Tryd.ntmps53
    go_wp2
    try (go_quiet (fail))
    try go_wp2
    all_goals
      go_ret
      refine ⟨?_, _, rfl⟩
      rw [joinBit, ← HX.out, ← HY.out]
      first | (simp [*]; done) | (simp [*]; cases (((s[i]'hi).toNat : Int) == 49) <;> cases (((t[i]'hj).toNat : Int) == 49) <;> rfl)

theorem join_wave (op : Int) (s t : ByteArray) (b0 b1 b2 : Nat) (W : World) (h0 : W.heap[b0]? = some (.cells #[.int .i64 op] 2 (0, 0))) (h1 : W.heap[b1]? = some (.cells #[.string s] 9 (0, 0))) (h2 : W.heap[b2]? = some (.cells #[.string t] 9 (0, 0))) (hs : s.size ≤ 1000000) (hst : s.size = t.size) (ho : op = 0 ∨ op = 1 ∨ op = 2 ∨ op = 3) :
    Calls Tryd.prog 47 #[.int .i64 (s.size : Int), .func (.func 53) #[] #[.pointer (some ⟨b1, 0, none⟩), .pointer (some ⟨b2, 0, none⟩), .pointer (some ⟨b0, 0, none⟩)]] W fun e W' => e = .returned (.string (waveStr (joinBit op s t) s.size)) ∧ Below W.heap.size W W' :=
  waveOf_any 53 #[.pointer (some ⟨b1, 0, none⟩), .pointer (some ⟨b2, 0, none⟩), .pointer (some ⟨b0, 0, none⟩)] (enters_of Tryd.func53 (by kernel_rfl) rfl) s.size hs (joinBit op s t)
    (fun _ W' => Below W.heap.size W W') b0 W (blk_lt h0) (Below.refl _ _)
    (fun i W1 W2 hI hsz hb => hI.trans hb)
    (fun i W1 hi hI hsz => (join_step op s t i hi (by omega) b0 b1 b2 W1 ((blk_cell (blk_below h0 hI) 0).trans rfl) ((blk_cell (blk_below h1 hI) 0).trans rfl) ((blk_cell (blk_below h2 hI) 0).trans rfl) hs ho).mono fun e W' h => by
      obtain ⟨rfl, n, rfl⟩ := h
      exact ⟨rfl, pw_below_drewN hI n, keep_drewN (KeepBut.refl _ _ _) n⟩)
theorem join_wave2 (op : Int) (s t : ByteArray) (b0 b1 b2 : Nat) (W : World) (h0 : W.heap[b0]? = some (.cells #[.int .i64 op] 2 (0, 0))) (h1 : W.heap[b1]? = some (.cells #[.string s] 9 (0, 0))) (h2 : W.heap[b2]? = some (.cells #[.string t] 9 (0, 0))) (hs : s.size ≤ 1000000) (hst : s.size = t.size) (ho : op = 0 ∨ op = 1 ∨ op = 2 ∨ op = 3) :
    Calls Tryd.prog 47 #[.int .i64 (t.size : Int), .func (.func 53) #[] #[.pointer (some ⟨b1, 0, none⟩), .pointer (some ⟨b2, 0, none⟩), .pointer (some ⟨b0, 0, none⟩)]] W fun e W' => e = .returned (.string (waveStr (joinBit op s t) s.size)) ∧ Below W.heap.size W W' := by
  rw [← hst]
  exact join_wave op s t b0 b1 b2 W h0 h1 h2 hs hst ho

theorem join_boxes (op : Int) (s t : ByteArray) (w : World) : ∃ W2, W2 = ((w.alloc (.cells #[.int .i64 op] 2)).alloc (.cells #[.string s] 9)).alloc (.cells #[.string t] 9) ∧ W2.heap.size = w.heap.size + 3 ∧
    W2.heap[w.heap.size]? = some (.cells #[.int .i64 op] 2 (0, 0)) ∧ W2.heap[w.heap.size + 1]? = some (.cells #[.string s] 9 (0, 0)) ∧ W2.heap[w.heap.size + 1 + 1]? = some (.cells #[.string t] 9 (0, 0)) ∧ Below w.heap.size w W2 := by
  obtain ⟨W2, hW2⟩ : ∃ W2, W2 = ((w.alloc (.cells #[.int .i64 op] 2)).alloc (.cells #[.string s] 9)).alloc (.cells #[.string t] 9) := ⟨_, rfl⟩
  refine ⟨W2, hW2, by rw [hW2]; simp, ?_, ?_, ?_, ?_⟩
  · rw [hW2]; exact blk_alloc (blk_alloc (blk_new _ _) _) _
  · rw [hW2]; refine blk_alloc ?_ _; have := blk_new (w.alloc (.cells #[.int .i64 op] 2)) (.cells #[.string s] 9); simpa using this
  · rw [hW2]; have := blk_new ((w.alloc (.cells #[.int .i64 op] 2)).alloc (.cells #[.string s] 9)) (.cells #[.string t] 9); simpa using this
  · rw [hW2]; exact (((Below.refl _ _).alloc (Nat.le_refl _) _).alloc (by simp) _).alloc (by simp; omega) _

theorem join_cells {op : Int} {s t : ByteArray} {w W2 w1 : World} (h : Below W2.heap.size W2 w1) (h0 : W2.heap[w.heap.size]? = some (.cells #[.int .i64 op] 2 (0, 0))) (h1 : W2.heap[w.heap.size + 1]? = some (.cells #[.string s] 9 (0, 0))) (h2 : W2.heap[w.heap.size + 1 + 1]? = some (.cells #[.string t] 9 (0, 0))) :
    w1.cell? ⟨w.heap.size, 0, none⟩ = some (.int .i64 op) ∧ w1.cell? ⟨w.heap.size + 1, 0, none⟩ = some (.string s) ∧ w1.cell? ⟨w.heap.size + 1 + 1, 0, none⟩ = some (.string t) :=
  ⟨(blk_cell (blk_below h0 h) 0).trans rfl, (blk_cell (blk_below h1 h) 0).trans rfl, (blk_cell (blk_below h2 h) 0).trans rfl⟩

set_option maxHeartbeats 3200000 in
theorem join_yes (op : Int) (s t : ByteArray) (w : World) (hs : s.size ≤ 1000000) (ht : impl_IsWave.f s = some true) (hu : impl_IsWave.f t = some true) (hst : s.size = t.size) (k1 : 0 ≤ op) (k2 : op ≤ 3) :
    Calls Tryd.prog 24 #[.int .i64 op, .string s, .string t] w fun e w' => e = .returned (.tuple #[.string (waveStr (joinBit op s t) s.size), .bool true]) ∧ Below w.heap.size w w' := by
  obtain ⟨W2, hW2, hsz, h0, h1, h2, hb⟩ := join_boxes op s t w
  have HT := Aside0.mk ht
  clear ht
  have HU := Aside0.mk hu
  clear hu
  have HO : Aside0 (op = 0 ∨ op = 1 ∨ op = 2 ∨ op = 3) := ⟨by omega⟩
  have q1 : decide (op ≤ 3) = true := decide_eq_true k2
  have q2 : decide (op ≥ 0) = true := decide_eq_true k1
  subst hW2
  have HB := Aside0.mk hb
  have H0 := Aside0.mk h0
  have H1 := Aside0.mk h1
  have H2 := Aside0.mk h2
  obtain ⟨c0, c1, c2⟩ := join_cells (Below.refl _ _) h0 h1 h2
  clear hsz h0 h1 h2 hb
  go_enter Tryd.func24, Tryd.ntmps24
  go_wp2_with (first | (go_at_call 16; have := c0; clear this; refine (impl_IsWave.calls s true _ HT.out).mono ?_; rintro e w1 ⟨rfl, hb1⟩; have HB1 := Aside0.mk hb1; obtain ⟨d0, d1, d2⟩ := join_cells hb1 H0.out H1.out H2.out; have D0 := Aside0.mk (blk_below H0.out hb1); have D1 := Aside0.mk (blk_below H1.out hb1); have D2 := Aside0.mk (blk_below H2.out hb1); clear hb1 c0 c1 c2) | (go_at_call 16; refine (impl_IsWave.calls t true _ HU.out).mono ?_; rintro e w2 ⟨rfl, hb2⟩; have HB2 := Aside0.mk hb2; obtain ⟨e0, e1, e2⟩ := join_cells (Below.trans (Below.refl _ _) hb2) D0.out D1.out D2.out; have E0 := Aside0.mk (blk_below D0.out hb2); have E1 := Aside0.mk (blk_below D1.out hb2); have E2 := Aside0.mk (blk_below D2.out hb2); clear hb2 d0 d1 d2) | (go_at_call 47; refine (join_wave2 op s t w.heap.size (w.heap.size + 1) (w.heap.size + 1 + 1) _ E0.out E1.out E2.out hs hst HO.out).mono ?_; rintro e w3 ⟨rfl, hb3⟩; have HB3 := Aside0.mk hb3; clear hb3) | go_in)
  go_ret2
  have z1 := below_step HB.out HB1.out
  have z2 := below_step z1 HB2.out
  have z3 := below_step z2 HB3.out
  exact ⟨by rw [hst]; rfl, z3⟩

set_option maxHeartbeats 3200000 in
theorem join_no1 (op : Int) (s t : ByteArray) (w : World) (ht : impl_IsWave.f s = some false) :
    Calls Tryd.prog 24 #[.int .i64 op, .string s, .string t] w fun e w' => e = .returned (.tuple #[.string ⟨#[]⟩, .bool false]) ∧ Below w.heap.size w w' := by
  obtain ⟨W2, hW2, hsz, h0, h1, h2, hb⟩ := join_boxes op s t w
  have HT := Aside0.mk ht
  clear ht
  subst hW2
  have HB := Aside0.mk hb
  have H0 := Aside0.mk h0
  have H1 := Aside0.mk h1
  have H2 := Aside0.mk h2
  obtain ⟨c0, c1, c2⟩ := join_cells (Below.refl _ _) h0 h1 h2
  clear hsz h0 h1 h2 hb
  go_enter Tryd.func24, Tryd.ntmps24
  go_wp2_with (first | (go_at_call 16; have := c0; clear this; refine (impl_IsWave.calls s false _ HT.out).mono ?_; rintro e w1 ⟨rfl, hb1⟩; have HB1 := Aside0.mk hb1; obtain ⟨d0, d1, d2⟩ := join_cells hb1 H0.out H1.out H2.out; have D0 := Aside0.mk (blk_below H0.out hb1); have D1 := Aside0.mk (blk_below H1.out hb1); have D2 := Aside0.mk (blk_below H2.out hb1); clear hb1 c0 c1 c2) | go_in)
  go_ret2
  exact ⟨rfl, below_step HB.out HB1.out⟩

set_option maxHeartbeats 3200000 in
theorem join_no2 (op : Int) (s t : ByteArray) (w : World) (ht : impl_IsWave.f s = some true) (hu : impl_IsWave.f t = some false) :
    Calls Tryd.prog 24 #[.int .i64 op, .string s, .string t] w fun e w' => e = .returned (.tuple #[.string ⟨#[]⟩, .bool false]) ∧ Below w.heap.size w w' := by
  obtain ⟨W2, hW2, hsz, h0, h1, h2, hb⟩ := join_boxes op s t w
  have HT := Aside0.mk ht
  clear ht
  have HU := Aside0.mk hu
  clear hu
  subst hW2
  have HB := Aside0.mk hb
  have H0 := Aside0.mk h0
  have H1 := Aside0.mk h1
  have H2 := Aside0.mk h2
  obtain ⟨c0, c1, c2⟩ := join_cells (Below.refl _ _) h0 h1 h2
  clear hsz h0 h1 h2 hb
  go_enter Tryd.func24, Tryd.ntmps24
  go_wp2_with (first | (go_at_call 16; have := c0; clear this; refine (impl_IsWave.calls s true _ HT.out).mono ?_; rintro e w1 ⟨rfl, hb1⟩; have HB1 := Aside0.mk hb1; obtain ⟨d0, d1, d2⟩ := join_cells hb1 H0.out H1.out H2.out; have D0 := Aside0.mk (blk_below H0.out hb1); have D1 := Aside0.mk (blk_below H1.out hb1); have D2 := Aside0.mk (blk_below H2.out hb1); clear hb1 c0 c1 c2) | (go_at_call 16; refine (impl_IsWave.calls t false _ HU.out).mono ?_; rintro e w2 ⟨rfl, hb2⟩; have HB2 := Aside0.mk hb2; obtain ⟨e0, e1, e2⟩ := join_cells (Below.trans (Below.refl _ _) hb2) D0.out D1.out D2.out; have E0 := Aside0.mk (blk_below D0.out hb2); have E1 := Aside0.mk (blk_below D1.out hb2); have E2 := Aside0.mk (blk_below D2.out hb2); clear hb2 d0 d1 d2) | go_in)
  go_ret2
  have z1 := below_step HB.out HB1.out
  have z2 := below_step z1 HB2.out
  exact ⟨rfl, z2⟩

set_option maxHeartbeats 3200000 in
theorem join_no3 (op : Int) (s t : ByteArray) (w : World) (ht : impl_IsWave.f s = some true) (hu : impl_IsWave.f t = some true) (hst : ¬ s.size = t.size) :
    Calls Tryd.prog 24 #[.int .i64 op, .string s, .string t] w fun e w' => e = .returned (.tuple #[.string ⟨#[]⟩, .bool false]) ∧ Below w.heap.size w w' := by
  obtain ⟨W2, hW2, hsz, h0, h1, h2, hb⟩ := join_boxes op s t w
  have HT := Aside0.mk ht
  clear ht
  have HU := Aside0.mk hu
  clear hu
  subst hW2
  have HB := Aside0.mk hb
  have H0 := Aside0.mk h0
  have H1 := Aside0.mk h1
  have H2 := Aside0.mk h2
  obtain ⟨c0, c1, c2⟩ := join_cells (Below.refl _ _) h0 h1 h2
  clear hsz h0 h1 h2 hb
  go_enter Tryd.func24, Tryd.ntmps24
  go_wp2_with (first | (go_at_call 16; have := c0; clear this; refine (impl_IsWave.calls s true _ HT.out).mono ?_; rintro e w1 ⟨rfl, hb1⟩; have HB1 := Aside0.mk hb1; obtain ⟨d0, d1, d2⟩ := join_cells hb1 H0.out H1.out H2.out; have D0 := Aside0.mk (blk_below H0.out hb1); have D1 := Aside0.mk (blk_below H1.out hb1); have D2 := Aside0.mk (blk_below H2.out hb1); clear hb1 c0 c1 c2) | (go_at_call 16; refine (impl_IsWave.calls t true _ HU.out).mono ?_; rintro e w2 ⟨rfl, hb2⟩; have HB2 := Aside0.mk hb2; obtain ⟨e0, e1, e2⟩ := join_cells (Below.trans (Below.refl _ _) hb2) D0.out D1.out D2.out; have E0 := Aside0.mk (blk_below D0.out hb2); have E1 := Aside0.mk (blk_below D1.out hb2); have E2 := Aside0.mk (blk_below D2.out hb2); clear hb2 d0 d1 d2) | go_in)
  go_ret2
  have z1 := below_step HB.out HB1.out
  have z2 := below_step z1 HB2.out
  exact ⟨rfl, z2⟩

set_option maxHeartbeats 3200000 in
theorem join_no4 (op : Int) (s t : ByteArray) (w : World) (ht : impl_IsWave.f s = some true) (hu : impl_IsWave.f t = some true) (hst : s.size = t.size) (k1 : ¬ 0 ≤ op) :
    Calls Tryd.prog 24 #[.int .i64 op, .string s, .string t] w fun e w' => e = .returned (.tuple #[.string ⟨#[]⟩, .bool false]) ∧ Below w.heap.size w w' := by
  obtain ⟨W2, hW2, hsz, h0, h1, h2, hb⟩ := join_boxes op s t w
  have HT := Aside0.mk ht
  clear ht
  have HU := Aside0.mk hu
  clear hu
  subst hW2
  have HB := Aside0.mk hb
  have H0 := Aside0.mk h0
  have H1 := Aside0.mk h1
  have H2 := Aside0.mk h2
  obtain ⟨c0, c1, c2⟩ := join_cells (Below.refl _ _) h0 h1 h2
  clear hsz h0 h1 h2 hb
  go_enter Tryd.func24, Tryd.ntmps24
  go_wp2_with (first | (go_at_call 16; have := c0; clear this; refine (impl_IsWave.calls s true _ HT.out).mono ?_; rintro e w1 ⟨rfl, hb1⟩; have HB1 := Aside0.mk hb1; obtain ⟨d0, d1, d2⟩ := join_cells hb1 H0.out H1.out H2.out; have D0 := Aside0.mk (blk_below H0.out hb1); have D1 := Aside0.mk (blk_below H1.out hb1); have D2 := Aside0.mk (blk_below H2.out hb1); clear hb1 c0 c1 c2) | (go_at_call 16; refine (impl_IsWave.calls t true _ HU.out).mono ?_; rintro e w2 ⟨rfl, hb2⟩; have HB2 := Aside0.mk hb2; obtain ⟨e0, e1, e2⟩ := join_cells (Below.trans (Below.refl _ _) hb2) D0.out D1.out D2.out; have E0 := Aside0.mk (blk_below D0.out hb2); have E1 := Aside0.mk (blk_below D1.out hb2); have E2 := Aside0.mk (blk_below D2.out hb2); clear hb2 d0 d1 d2) | go_in)
  go_ret2
  have z1 := below_step HB.out HB1.out
  have z2 := below_step z1 HB2.out
  exact ⟨rfl, z2⟩

set_option maxHeartbeats 3200000 in
theorem join_no5 (op : Int) (s t : ByteArray) (w : World) (ht : impl_IsWave.f s = some true) (hu : impl_IsWave.f t = some true) (hst : s.size = t.size) (k1 : 0 ≤ op) (k2 : ¬ op ≤ 3) :
    Calls Tryd.prog 24 #[.int .i64 op, .string s, .string t] w fun e w' => e = .returned (.tuple #[.string ⟨#[]⟩, .bool false]) ∧ Below w.heap.size w w' := by
  obtain ⟨W2, hW2, hsz, h0, h1, h2, hb⟩ := join_boxes op s t w
  have HT := Aside0.mk ht
  clear ht
  have HU := Aside0.mk hu
  clear hu
  have q1 : decide (op ≤ 3) = false := decide_eq_false k2
  subst hW2
  have HB := Aside0.mk hb
  have H0 := Aside0.mk h0
  have H1 := Aside0.mk h1
  have H2 := Aside0.mk h2
  obtain ⟨c0, c1, c2⟩ := join_cells (Below.refl _ _) h0 h1 h2
  clear hsz h0 h1 h2 hb
  go_enter Tryd.func24, Tryd.ntmps24
  go_wp2_with (first | (go_at_call 16; have := c0; clear this; refine (impl_IsWave.calls s true _ HT.out).mono ?_; rintro e w1 ⟨rfl, hb1⟩; have HB1 := Aside0.mk hb1; obtain ⟨d0, d1, d2⟩ := join_cells hb1 H0.out H1.out H2.out; have D0 := Aside0.mk (blk_below H0.out hb1); have D1 := Aside0.mk (blk_below H1.out hb1); have D2 := Aside0.mk (blk_below H2.out hb1); clear hb1 c0 c1 c2) | (go_at_call 16; refine (impl_IsWave.calls t true _ HU.out).mono ?_; rintro e w2 ⟨rfl, hb2⟩; have HB2 := Aside0.mk hb2; obtain ⟨e0, e1, e2⟩ := join_cells (Below.trans (Below.refl _ _) hb2) D0.out D1.out D2.out; have E0 := Aside0.mk (blk_below D0.out hb2); have E1 := Aside0.mk (blk_below D1.out hb2); have E2 := Aside0.mk (blk_below D2.out hb2); clear hb2 d0 d1 d2) | go_in)
  go_ret2
  have z1 := below_step HB.out HB1.out
  have z2 := below_step z1 HB2.out
  exact ⟨rfl, z2⟩

theorem impl_JoinWaves.calls (a0 : Int) (a1 : ByteArray) (a2 : ByteArray) (r1 : ByteArray) (r2 : Bool) (w : World) (h : impl_JoinWaves.f a0 a1 a2 = some (r1, r2)) :
    Calls Tryd.prog 24 #[.int .i64 a0, .string a1, .string a2] w fun e w' => e = .returned (.tuple #[.string r1, .bool r2]) ∧ Below w.heap.size w w' := by
  unfold impl_JoinWaves.f at h
  obtain ⟨t, ht, h⟩ := Option.bind_eq_some_iff.mp h
  cases t with
  | true =>
    simp only [if_true] at h
    obtain ⟨u, hu, h⟩ := Option.bind_eq_some_iff.mp h
    cases u with
    | true =>
      simp only [if_true] at h
      split at h
      · rename_i hok
        split at h
        · rename_i hs
          obtain ⟨rfl, rfl⟩ := Prod.mk.inj (Option.some.inj h)
          exact join_yes a0 a1 a2 w hs ht hu hok.1 hok.2.1 hok.2.2
        · cases h
      · rename_i hok
        obtain ⟨rfl, rfl⟩ := Prod.mk.inj (Option.some.inj h)
        by_cases h1 : a1.size = a2.size
        · by_cases h2 : 0 ≤ a0
          · exact join_no5 a0 a1 a2 w ht hu h1 h2 (fun z => hok ⟨h1, h2, z⟩)
          · exact join_no4 a0 a1 a2 w ht hu h1 h2
        · exact join_no3 a0 a1 a2 w ht hu h1
    | false =>
      simp only [Bool.false_eq_true, if_false] at h
      obtain ⟨rfl, rfl⟩ := Prod.mk.inj (Option.some.inj h)
      exact join_no2 a0 a1 a2 w ht hu
  | false =>
    simp only [Bool.false_eq_true, if_false] at h
    obtain ⟨rfl, rfl⟩ := Prod.mk.inj (Option.some.inj h)
    exact join_no1 a0 a1 a2 w ht
end Go.Proofs.YtkhkmdddflaolaaDoor.P
