/- What the program's BinaryCounter answers, for all arguments: the contract of the Go function; no condition. -/
import Derived.Test.YtomepieklgplgaaP3
import Derived.Test.YtomepieklgplgaaExtCounterBy
namespace Go.Proofs.Ytomepieklgplgaa.P
open Go.RowKit Go.Proofs.YtomepieklgplgaaW.PrintWords Go.Proofs.YtomepieklgplgaaW.PrintLast Go.Proofs.YtomepieklgplgaaW.PrintMore
set_option linter.unusedVariables false
set_option linter.unusedSimpArgs false

def binOk (n m : Int) : Prop := (1 ≤ n ∧ n ≤ 8) ∧ 1 ≤ m ∧ m ≤ 2 ^ n.toNat
instance (n m : Int) : Decidable (binOk n m) := by unfold binOk; infer_instance
def binF (m x : Int) : Int := if x + 1 < m then x + 1 else 0
def impl_BinaryCounter.f (a0 : Int) (a1 : Int) : Option (Int × List Int × Bool) :=
  if binOk a0 a1 then some (a0, mapN (binF a1) (2 ^ a0.toNat), true) else some (0, [], false)

set_option maxHeartbeats 1600000 in
theorem bin_step (i : Nat) (hi : i < 256) (m : Int) (b : Nat) (W : World) (c0 : W.cell? ⟨b, 0, none⟩ = some (.int .i64 m)) :
    Calls Try.prog 64 #[.int .i64 (i : Int), .pointer (some ⟨b, 0, none⟩)] W fun e W' => e = .returned (.int .i64 (binF m (i : Int))) ∧ ∃ q, W' = W.drewN q := by
  have e1 : wrap64 ((i : Int) + 1) = (i : Int) + 1 := w64 (by omega) (by omega)
  by_cases h : (i : Int) + 1 < m
  · have hd : decide ((i : Int) + 1 < m) = true := decide_eq_true h
    have hf : binF m (i : Int) = (i : Int) + 1 := if_pos h
    rw [hf]
    clear h hf
    go_enter Try.func64, Try.ntmps64
    go_wp2
    go_ret
    exact ⟨rfl, 0, rfl⟩
  · have hd : decide ((i : Int) + 1 < m) = false := decide_eq_false h
    have hf : binF m (i : Int) = 0 := if_neg h
    rw [hf]
    clear h hf
    go_enter Try.func64, Try.ntmps64
    go_wp2
    go_ret
    exact ⟨rfl, 0, rfl⟩

set_option maxHeartbeats 3200000 in
theorem bin_yes (n m : Int) (h1 : 1 ≤ n) (h8 : n ≤ 8) (k1 : 1 ≤ m) (k2 : m ≤ 2 ^ n.toNat) (w : World) :
    Calls Try.prog 27 #[.int .i64 n, .int .i64 m] w fun e w' => ∃ v, e = .returned (.tuple #[.agg #[.int .i64 n, v], .bool true]) ∧ Kd.R (Kd.int .i64) 2 w' w.heap.size (fun _ => True) v (mapN (binF m) (2 ^ n.toNat)) ∧ Below w.heap.size w w' := by
  have hp := (pow_256 ⟨h1, h8⟩).2
  have HT := Aside0.mk ((isBits_form n).trans (congrArg some (decide_eq_true ⟨h1, h8⟩)))
  have HW := Aside0.mk ((within_form m 1 (2 ^ n.toNat)).trans (congrArg some (decide_eq_true ⟨k1, k2⟩)))
  have hsw : IntKind.i64.wrap (2 ^ n.toNat) = 2 ^ n.toNat := by rw [i64_w]; have := (pow_256 ⟨h1, h8⟩).1; exact w64 (by omega) (by omega)
  have p1 : (0 : Int) ≤ n := by omega
  have h0 := blk_alloc (blk_new w (.cells #[.int .i64 m] 2)) (.cells #[.int .i64 0, .slice none 0 0] 26)
  have c0 : ((w.alloc (.cells #[.int .i64 m] 2)).alloc (.cells #[.int .i64 0, .slice none 0 0] 26)).cell? ⟨w.heap.size, 0, none⟩ = some (.int .i64 m) := (blk_cell h0 0).trans rfl
  have h2 := blk_new (w.alloc (.cells #[.int .i64 m] 2)) (.cells #[.int .i64 0, .slice none 0 0] 26)
  have hsz : (w.alloc (.cells #[.int .i64 m] 2)).heap.size = w.heap.size + 1 := by simp
  rw [hsz] at h2
  have hB : Below w.heap.size w ((w.alloc (.cells #[.int .i64 m] 2)).alloc (.cells #[.int .i64 0, .slice none 0 0] 26)) := ((Below.refl _ _).alloc (Nat.le_refl _) _).alloc (by simp) _
  have hN : ((2 ^ n.toNat : Nat) : Int) = 2 ^ n.toNat := by exact_mod_cast rfl
  have hN8 : 2 ^ n.toNat ≤ 256 := by omega
  have CW := Aside0.mk (fun q => counterBy_yes 64 #[.pointer (some ⟨w.heap.size, 0, none⟩)] (enters_of Try.func64 (by kernel_rfl) rfl) n (binF m) (2 ^ n.toNat) h1 h8 hN (((w.alloc (.cells #[.int .i64 m] 2)).alloc (.cells #[.int .i64 0, .slice none 0 0] 26)).drewN q)
    (fun i W hi hb => bin_step i (by omega) m w.heap.size W ((blk_cell (blk_below (blk_drewN h0 q) hb) 0).trans rfl)))
  have H2 := Aside0.mk h2
  have HB := Aside0.mk hB
  have hu26 := Try.underlying26
  clear hp h0 h2 hsz hB hN hN8
  go_enter Try.func27, Try.ntmps27
  go_wp2
  go_quiet (first | (go_at_call 49; refine (impl_isBits.calls n true _ HT.out).mono ?_; rintro e w' ⟨rfl, ⟨nd, rfl⟩⟩; exact ⟨rfl, _, World.drewN_drewN _ _ _⟩) | (go_at_call 55; refine (impl_within.calls m 1 (2 ^ n.toNat) true _ HW.out).mono ?_; rintro e w' ⟨rfl, ⟨nd, rfl⟩⟩; exact ⟨rfl, _, World.drewN_drewN _ _ _⟩))
  go_wp2_with (first | (go_at_call 63; refine (CW.out _).mono ?_; rintro e w1 ⟨v, rfl, hv, hb1⟩; have HV := Aside0.mk hv; have HB1 := Aside0.mk hb1; have H3 := Aside0.mk (blk_below (blk_drewN H2.out _) hb1); obtain ⟨Ao, co, rfl⟩ := Kd.R_slice hv; have hg0 := (blk_cell H3.out 0).trans rfl; have hg1 := (blk_cell H3.out 1).trans rfl; have hf0 := blk_frozen H3.out 0; have hf1 := blk_frozen H3.out 1; clear hv hb1))
  refine bodyPost_ret (results_ct rfl _ _ (w.heap.size + 1) 26 #[.int .i64 n, .slice Ao (mapN (binF m) (2 ^ n.toNat)).length co] (0, 0) _ rfl (by refine blk_put (cs := #[.int .i64 n, .slice none 0 0]) ?_ 1 _ rfl; refine blk_put (cs := #[.int .i64 0, .slice none 0 0]) ?_ 0 _ rfl; exact H3.out) Try.underlying26 rfl (by kernel_rfl)) rfl ?_
  refine ⟨_, rfl, ?_, ?_⟩
  · exact Kd.R_mono (Kd.R_far (p := ⟨w.heap.size + 1, 1, none⟩) (Kd.R_far (p := ⟨w.heap.size + 1, 0, none⟩) (Kd.R_types (Kd.R_lower HV.out (below_size (pw_below_drewN HB.out _))) H3.out (by decide)) (fun _ hk => hk.2) (.int .i64 n)) (fun _ hk => hk.2) (.slice Ao (mapN (binF m) (2 ^ n.toNat)).length co)) (fun _ hk => trivial)
  · exact below_set (below_set (below_step (pw_below_drewN HB.out _) HB1.out) (by show w.heap.size ≤ w.heap.size + 1; omega)) (by show w.heap.size ≤ w.heap.size + 1; omega)

set_option maxHeartbeats 3200000 in
theorem bin_no1 (n m : Int) (hn : ¬ (1 ≤ n ∧ n ≤ 8)) (w : World) :
    Calls Try.prog 27 #[.int .i64 n, .int .i64 m] w fun e w' => e = .returned (.tuple #[.agg #[.int .i64 0, .slice none 0 0], .bool false]) ∧ Below w.heap.size w w' := by
  have h0 := blk_alloc (blk_new w (.cells #[.int .i64 m] 2)) (.cells #[.int .i64 0, .slice none 0 0] 26)
  have c0 : ((w.alloc (.cells #[.int .i64 m] 2)).alloc (.cells #[.int .i64 0, .slice none 0 0] 26)).cell? ⟨w.heap.size, 0, none⟩ = some (.int .i64 m) := (blk_cell h0 0).trans rfl
  have h2 := blk_new (w.alloc (.cells #[.int .i64 m] 2)) (.cells #[.int .i64 0, .slice none 0 0] 26)
  have hsz : (w.alloc (.cells #[.int .i64 m] 2)).heap.size = w.heap.size + 1 := by simp
  rw [hsz] at h2
  have hB : Below w.heap.size w ((w.alloc (.cells #[.int .i64 m] 2)).alloc (.cells #[.int .i64 0, .slice none 0 0] 26)) := ((Below.refl _ _).alloc (Nat.le_refl _) _).alloc (by simp) _
  have hg0 := (blk_cell h2 0).trans rfl
  have hg1 := (blk_cell h2 1).trans rfl
  have hf0 := blk_frozen h2 0
  have hf1 := blk_frozen h2 1
  have H2 := Aside0.mk h2
  have HB := Aside0.mk hB
  have hu26 := Try.underlying26
  have HT := Aside0.mk ((isBits_form n).trans (congrArg some (decide_eq_false hn)))
  clear h0 h2 hsz hB hn
  go_enter Try.func27, Try.ntmps27
  go_wp2
  go_quiet (first | (go_at_call 49; refine (impl_isBits.calls n false _ HT.out).mono ?_; rintro e w' ⟨rfl, ⟨nd, rfl⟩⟩; exact ⟨rfl, _, World.drewN_drewN _ _ _⟩))
  go_wp2
  refine bodyPost_ret (results_ct rfl _ _ (w.heap.size + 1) 26 #[.int .i64 0, .slice none 0 0] (0, 0) _ rfl (by refine blk_put (cs := #[.int .i64 0, .slice none 0 0]) ?_ 1 _ rfl; refine blk_put (cs := #[.int .i64 0, .slice none 0 0]) ?_ 0 _ rfl; exact blk_drewN H2.out _) Try.underlying26 rfl (by kernel_rfl)) rfl ?_
  exact ⟨rfl, below_set (below_set (pw_below_drewN HB.out _) (by show w.heap.size ≤ w.heap.size + 1; omega)) (by show w.heap.size ≤ w.heap.size + 1; omega)⟩

set_option maxHeartbeats 3200000 in
theorem bin_no2 (n m : Int) (h1 : 1 ≤ n) (h8 : n ≤ 8) (hm : ¬ (1 ≤ m ∧ m ≤ 2 ^ n.toNat)) (w : World) :
    Calls Try.prog 27 #[.int .i64 n, .int .i64 m] w fun e w' => e = .returned (.tuple #[.agg #[.int .i64 0, .slice none 0 0], .bool false]) ∧ Below w.heap.size w w' := by
  have h0 := blk_alloc (blk_new w (.cells #[.int .i64 m] 2)) (.cells #[.int .i64 0, .slice none 0 0] 26)
  have c0 : ((w.alloc (.cells #[.int .i64 m] 2)).alloc (.cells #[.int .i64 0, .slice none 0 0] 26)).cell? ⟨w.heap.size, 0, none⟩ = some (.int .i64 m) := (blk_cell h0 0).trans rfl
  have h2 := blk_new (w.alloc (.cells #[.int .i64 m] 2)) (.cells #[.int .i64 0, .slice none 0 0] 26)
  have hsz : (w.alloc (.cells #[.int .i64 m] 2)).heap.size = w.heap.size + 1 := by simp
  rw [hsz] at h2
  have hB : Below w.heap.size w ((w.alloc (.cells #[.int .i64 m] 2)).alloc (.cells #[.int .i64 0, .slice none 0 0] 26)) := ((Below.refl _ _).alloc (Nat.le_refl _) _).alloc (by simp) _
  have hg0 := (blk_cell h2 0).trans rfl
  have hg1 := (blk_cell h2 1).trans rfl
  have hf0 := blk_frozen h2 0
  have hf1 := blk_frozen h2 1
  have H2 := Aside0.mk h2
  have HB := Aside0.mk hB
  have hu26 := Try.underlying26
  have HT := Aside0.mk ((isBits_form n).trans (congrArg some (decide_eq_true ⟨h1, h8⟩)))
  have HW := Aside0.mk ((within_form m 1 (2 ^ n.toNat)).trans (congrArg some (decide_eq_false hm)))
  have hsw : IntKind.i64.wrap (2 ^ n.toNat) = 2 ^ n.toNat := by rw [i64_w]; have := pow_256 ⟨h1, h8⟩; exact w64 (by omega) (by omega)
  have p1 : (0 : Int) ≤ n := by omega
  clear h0 h2 hsz hB hm
  go_enter Try.func27, Try.ntmps27
  go_wp2
  go_quiet (first | (go_at_call 49; refine (impl_isBits.calls n true _ HT.out).mono ?_; rintro e w' ⟨rfl, ⟨nd, rfl⟩⟩; exact ⟨rfl, _, World.drewN_drewN _ _ _⟩) | (go_at_call 55; refine (impl_within.calls m 1 (2 ^ n.toNat) false _ HW.out).mono ?_; rintro e w' ⟨rfl, ⟨nd, rfl⟩⟩; exact ⟨rfl, _, World.drewN_drewN _ _ _⟩))
  go_wp2
  refine bodyPost_ret (results_ct rfl _ _ (w.heap.size + 1) 26 #[.int .i64 0, .slice none 0 0] (0, 0) _ rfl (by refine blk_put (cs := #[.int .i64 0, .slice none 0 0]) ?_ 1 _ rfl; refine blk_put (cs := #[.int .i64 0, .slice none 0 0]) ?_ 0 _ rfl; exact blk_drewN H2.out _) Try.underlying26 rfl (by kernel_rfl)) rfl ?_
  exact ⟨rfl, below_set (below_set (pw_below_drewN HB.out _) (by show w.heap.size ≤ w.heap.size + 1; omega)) (by show w.heap.size ≤ w.heap.size + 1; omega)⟩

theorem impl_BinaryCounter.calls (a0 : Int) (a1 : Int) (r1 : Int) (r2 : List Int) (r3 : Bool) (w : World) (h : impl_BinaryCounter.f a0 a1 = some (r1, r2, r3)) :
    Calls Try.prog 27 #[.int .i64 a0, .int .i64 a1] w fun e w' => ∃ v1_ : Value, e = .returned (.tuple #[.agg #[.int .i64 r1, v1_], .bool r3]) ∧ Kd.R (Kd.int .i64) 2 w' w.heap.size (fun _ => True) v1_ r2 ∧ Below w.heap.size w w' := by
  unfold impl_BinaryCounter.f at h
  split at h
  · rename_i hok
    obtain ⟨rfl, h2⟩ := Prod.mk.inj (Option.some.inj h)
    obtain ⟨rfl, rfl⟩ := Prod.mk.inj h2
    exact bin_yes a0 a1 hok.1.1 hok.1.2 hok.2.1 hok.2.2 w
  · rename_i hok
    obtain ⟨rfl, h2⟩ := Prod.mk.inj (Option.some.inj h)
    obtain ⟨rfl, rfl⟩ := Prod.mk.inj h2
    by_cases hn : 1 ≤ a0 ∧ a0 ≤ 8
    · exact (bin_no2 a0 a1 hn.1 hn.2 (fun z => hok ⟨hn, z⟩) w).mono fun e w' h => ⟨_, h.1, Kd.R_nil _ _ _ _ _, h.2⟩
    · exact (bin_no1 a0 a1 hn w).mono fun e w' h => ⟨_, h.1, Kd.R_nil _ _ _ _ _, h.2⟩
end Go.Proofs.Ytomepieklgplgaa.P
