/- What the program's ReflectedCounter answers, for all arguments: the contract of the Go function; no condition. -/
import Derived.Test.YtomepieklgplgaaP16
import Derived.Test.YtomepieklgplgaaExtCounterBy
import Derived.Test.YtomepieklgplgaaGray
namespace Go.Proofs.Ytomepieklgplgaa.P
open Go.RowKit Go.Proofs.YtomepieklgplgaaW.PrintWords Go.Proofs.YtomepieklgplgaaW.PrintLast Go.Proofs.YtomepieklgplgaaW.PrintMore
set_option linter.unusedVariables false
set_option linter.unusedSimpArgs false

/-- The code word behind x. -/
def refF (n x : Int) : Int := ((grayC ((grayD 8 x.toNat + 1) % 2 ^ n.toNat) : Nat) : Int)
def impl_ReflectedCounter.f (a0 : Int) : Option (Int × List Int × Bool) :=
  if 1 ≤ a0 ∧ a0 ≤ 8 then some (a0, mapN (refF a0) (2 ^ a0.toNat), true) else some (0, [], false)

set_option maxHeartbeats 3200000 in
theorem ref_step (i : Nat) (hi : i < 256) (n : Int) (h1 : 1 ≤ n) (h8 : n ≤ 8) (b : Nat) (W : World) (c0 : W.cell? ⟨b, 0, none⟩ = some (.int .i64 n)) :
    Calls Try.prog 68 #[.int .i64 (i : Int), .pointer (some ⟨b, 0, none⟩)] W fun e W' => e = .returned (.int .i64 (refF n (i : Int))) ∧ ∃ q, W' = W.drewN q := by
  obtain ⟨K, hK⟩ := fromReflected_ev hi
  obtain ⟨d, hd⟩ : ∃ d, d = grayD 8 i := ⟨_, rfl⟩
  have hd8 : d < 256 := by rw [hd]; exact grayD_lt hi
  obtain ⟨N, hN⟩ : ∃ N : Nat, N = 2 ^ n.toNat := ⟨_, rfl⟩
  have hNI : (N : Int) = 2 ^ n.toNat := by rw [hN]; exact_mod_cast rfl
  have hp := pow_256 ⟨h1, h8⟩
  have hN2 : 2 ≤ N ∧ N ≤ 256 := by omega
  have hq : (d + 1) % N < N := Nat.mod_lt _ (by omega)
  have hf : refF n (i : Int) = ((grayC ((d + 1) % N) : Nat) : Int) := by rw [refF, Int.toNat_natCast, hd, hN]
  have HR := Aside0.mk (hK K (Nat.le_refl _))
  rw [← hd] at HR
  have HC := Aside0.mk (reflected_form (x := (d + 1) % N) (by omega))
  rw [hf]
  have hsw : IntKind.i64.wrap (2 ^ n.toNat) = (N : Int) := by rw [← hNI, i64_w]; exact w64 (by omega) (by omega)
  have e1 : IntKind.i64.wrap ((d : Int) + 1) = ((d + 1 : Nat) : Int) := by rw [i64_w, w64 (by omega) (by omega)]; omega
  have e2 : Int.tmod ((d + 1 : Nat) : Int) (N : Int) = (((d + 1) % N : Nat) : Int) := by
    rw [Int.tmod_eq_emod_of_nonneg (by omega)]; exact (Int.natCast_emod _ _).symm
  have e3 : IntKind.i64.wrap (((d + 1) % N : Nat) : Int) = (((d + 1) % N : Nat) : Int) := by rw [i64_w]; exact w64 (by omega) (by omega)
  have hz : ((N : Int) == 0) = false := beq_eq_false_iff_ne.mpr (by omega)
  have hz2 : ¬ N = 0 := by omega
  have p1 : (0 : Int) ≤ n := by omega
  clear hK hd hN hNI hp hf hN2 hq
  go_enter Try.func68, Try.ntmps68
  go_wp2
  go_quiet (first | (go_at_call 70; refine (impl_fromReflected.calls K (i : Int) (d : Int) _ HR.out).mono ?_; rintro e w' ⟨rfl, ⟨nd, rfl⟩⟩; exact ⟨rfl, _, World.drewN_drewN _ _ _⟩) | (go_at_call 69; refine (impl_reflected.calls (((d + 1) % N : Nat) : Int) _ _ HC.out).mono ?_; rintro e w' ⟨rfl, ⟨nd, rfl⟩⟩; exact ⟨rfl, _, World.drewN_drewN _ _ _⟩))
  go_wp2
  go_ret
  exact ⟨rfl, _, rfl⟩

set_option maxHeartbeats 3200000 in
theorem ref_yes (n : Int) (h1 : 1 ≤ n) (h8 : n ≤ 8) (w : World) :
    Calls Try.prog 31 #[.int .i64 n] w fun e w' => ∃ v, e = .returned (.tuple #[.agg #[.int .i64 n, v], .bool true]) ∧ Kd.R (Kd.int .i64) 2 w' w.heap.size (fun _ => True) v (mapN (refF n) (2 ^ n.toNat)) ∧ Below w.heap.size w w' := by
  have hp := (pow_256 ⟨h1, h8⟩).2
  have h0 := blk_alloc (blk_new w (.cells #[.int .i64 n] 2)) (.cells #[.int .i64 0, .slice none 0 0] 26)
  have c0 : ((w.alloc (.cells #[.int .i64 n] 2)).alloc (.cells #[.int .i64 0, .slice none 0 0] 26)).cell? ⟨w.heap.size, 0, none⟩ = some (.int .i64 n) := (blk_cell h0 0).trans rfl
  have h2 := blk_new (w.alloc (.cells #[.int .i64 n] 2)) (.cells #[.int .i64 0, .slice none 0 0] 26)
  have hsz : (w.alloc (.cells #[.int .i64 n] 2)).heap.size = w.heap.size + 1 := by simp
  rw [hsz] at h2
  have hB : Below w.heap.size w ((w.alloc (.cells #[.int .i64 n] 2)).alloc (.cells #[.int .i64 0, .slice none 0 0] 26)) := ((Below.refl _ _).alloc (Nat.le_refl _) _).alloc (by simp) _
  have H2 := Aside0.mk h2
  have HB := Aside0.mk hB
  have hu26 := Try.underlying26
  have hN : ((2 ^ n.toNat : Nat) : Int) = 2 ^ n.toNat := by exact_mod_cast rfl
  have hN8 : 2 ^ n.toNat ≤ 256 := by omega
  have CW := Aside0.mk (counterBy_yes 68 #[.pointer (some ⟨w.heap.size, 0, none⟩)] (enters_of Try.func68 (by kernel_rfl) rfl) n (refF n) (2 ^ n.toNat) h1 h8 hN ((w.alloc (.cells #[.int .i64 n] 2)).alloc (.cells #[.int .i64 0, .slice none 0 0] 26))
    (fun i W hi hb => ref_step i (by omega) n h1 h8 w.heap.size W ((blk_cell (blk_below h0 hb) 0).trans rfl)))
  clear hp h0 h2 hsz hB hN hN8
  go_enter Try.func31, Try.ntmps31
  go_wp2_with (first | (go_at_call 63; refine CW.out.mono ?_; rintro e w1 ⟨v, rfl, hv, hb1⟩; have HV := Aside0.mk hv; have HB1 := Aside0.mk hb1; have H3 := Aside0.mk (blk_below H2.out hb1); obtain ⟨Ao, co, rfl⟩ := Kd.R_slice hv; have hg0 := (blk_cell H3.out 0).trans rfl; have hg1 := (blk_cell H3.out 1).trans rfl; have hf0 := blk_frozen H3.out 0; have hf1 := blk_frozen H3.out 1; clear hv hb1))
  refine bodyPost_ret (results_ct rfl _ _ (w.heap.size + 1) 26 #[.int .i64 n, .slice Ao (mapN (refF n) (2 ^ n.toNat)).length co] (0, 0) _ rfl (by refine blk_put (cs := #[.int .i64 n, .slice none 0 0]) ?_ 1 _ rfl; refine blk_put (cs := #[.int .i64 0, .slice none 0 0]) ?_ 0 _ rfl; exact H3.out) Try.underlying26 rfl (by kernel_rfl)) rfl ?_
  refine ⟨_, rfl, ?_, ?_⟩
  · exact Kd.R_mono (Kd.R_far (p := ⟨w.heap.size + 1, 1, none⟩) (Kd.R_far (p := ⟨w.heap.size + 1, 0, none⟩) (Kd.R_types (Kd.R_lower HV.out (below_size HB.out)) H3.out (by decide)) (fun _ hk => hk.2) (.int .i64 n)) (fun _ hk => hk.2) (.slice Ao (mapN (refF n) (2 ^ n.toNat)).length co)) (fun _ hk => trivial)
  · exact below_set (below_set (below_step HB.out HB1.out) (by show w.heap.size ≤ w.heap.size + 1; omega)) (by show w.heap.size ≤ w.heap.size + 1; omega)

set_option maxHeartbeats 3200000 in
theorem ref_no (n : Int) (hn : ¬ (1 ≤ n ∧ n ≤ 8)) (w : World) :
    Calls Try.prog 31 #[.int .i64 n] w fun e w' => e = .returned (.tuple #[.agg #[.int .i64 0, .slice none 0 0], .bool false]) ∧ Below w.heap.size w w' := by
  have h0 := blk_alloc (blk_new w (.cells #[.int .i64 n] 2)) (.cells #[.int .i64 0, .slice none 0 0] 26)
  have c0 : ((w.alloc (.cells #[.int .i64 n] 2)).alloc (.cells #[.int .i64 0, .slice none 0 0] 26)).cell? ⟨w.heap.size, 0, none⟩ = some (.int .i64 n) := (blk_cell h0 0).trans rfl
  have h2 := blk_new (w.alloc (.cells #[.int .i64 n] 2)) (.cells #[.int .i64 0, .slice none 0 0] 26)
  have hsz : (w.alloc (.cells #[.int .i64 n] 2)).heap.size = w.heap.size + 1 := by simp
  rw [hsz] at h2
  have hB : Below w.heap.size w ((w.alloc (.cells #[.int .i64 n] 2)).alloc (.cells #[.int .i64 0, .slice none 0 0] 26)) := ((Below.refl _ _).alloc (Nat.le_refl _) _).alloc (by simp) _
  have H2 := Aside0.mk h2
  have HB := Aside0.mk hB
  have hu26 := Try.underlying26
  have CW := Aside0.mk (counterBy_no 68 #[.pointer (some ⟨w.heap.size, 0, none⟩)] n hn ((w.alloc (.cells #[.int .i64 n] 2)).alloc (.cells #[.int .i64 0, .slice none 0 0] 26)))
  clear h0 h2 hsz hB
  go_enter Try.func31, Try.ntmps31
  go_wp2_with (first | (go_at_call 63; refine CW.out.mono ?_; rintro e w1 ⟨rfl, hb1⟩; have HB1 := Aside0.mk hb1; have H3 := Aside0.mk (blk_below H2.out hb1); have hg0 := (blk_cell H3.out 0).trans rfl; have hg1 := (blk_cell H3.out 1).trans rfl; have hf0 := blk_frozen H3.out 0; have hf1 := blk_frozen H3.out 1; clear hb1))
  refine bodyPost_ret (results_ct rfl _ _ (w.heap.size + 1) 26 #[.int .i64 0, .slice none 0 0] (0, 0) _ rfl (by refine blk_put (cs := #[.int .i64 0, .slice none 0 0]) ?_ 1 _ rfl; refine blk_put (cs := #[.int .i64 0, .slice none 0 0]) ?_ 0 _ rfl; exact H3.out) Try.underlying26 rfl (by kernel_rfl)) rfl ?_
  exact ⟨rfl, below_set (below_set (below_step HB.out HB1.out) (by show w.heap.size ≤ w.heap.size + 1; omega)) (by show w.heap.size ≤ w.heap.size + 1; omega)⟩

theorem impl_ReflectedCounter.calls (a0 : Int) (r1 : Int) (r2 : List Int) (r3 : Bool) (w : World) (h : impl_ReflectedCounter.f a0 = some (r1, r2, r3)) :
    Calls Try.prog 31 #[.int .i64 a0] w fun e w' => ∃ v1_ : Value, e = .returned (.tuple #[.agg #[.int .i64 r1, v1_], .bool r3]) ∧ Kd.R (Kd.int .i64) 2 w' w.heap.size (fun _ => True) v1_ r2 ∧ Below w.heap.size w w' := by
  unfold impl_ReflectedCounter.f at h
  split at h
  · rename_i hok
    obtain ⟨rfl, h2⟩ := Prod.mk.inj (Option.some.inj h)
    obtain ⟨rfl, rfl⟩ := Prod.mk.inj h2
    exact ref_yes a0 hok.1 hok.2 w
  · rename_i hok
    obtain ⟨rfl, h2⟩ := Prod.mk.inj (Option.some.inj h)
    obtain ⟨rfl, rfl⟩ := Prod.mk.inj h2
    exact (ref_no a0 hok w).mono fun e w' h => ⟨_, h.1, Kd.R_nil _ _ _ _ _, h.2⟩
end Go.Proofs.Ytomepieklgplgaa.P
