/- The counter that a function value tells, state after state: the program's counterBy, for every function value that only reads. -/
import Derived.Test.YtomepieklgplgaaP0
import Derived.Test.YtomepieklgplgaaP3
import Derived.Test.YtomepieklgplgaaOkC
import Derived.Deep.QuietTactic
import Derived.BigQuiet
import Derived.Lib.Hide
import Derived.Shelf.Abstract
namespace Go.Proofs.Ytomepieklgplgaa.P
open Go.RowKit Go.Proofs.YtomepieklgplgaaW.PrintWords Go.Proofs.YtomepieklgplgaaW.PrintLast Go.Proofs.YtomepieklgplgaaW.PrintMore
set_option linter.unusedVariables false
set_option linter.unusedSimpArgs false

def mapN (f : Int → Int) : Nat → List Int
  | 0 => []
  | i + 1 => mapN f i ++ [f (i : Int)]
theorem mapN_length (f : Int → Int) (n : Nat) : (mapN f n).length = n := by
  induction n with
  | zero => rfl
  | succ n ih => simp [mapN, ih]

def counterBy_T : Bool × List (List Nat × List Nat) := (true, [([], []), ([0], [0]), ([], []), ([], []), ([2, 3], [2, 3]), ([4], [4]), ([1, 5, 4], [1, 5]), ([0, 1, 2, 3, 4, 5, 6], []), ([7, 6, 6, 0, 1, 2, 3, 4, 5, 6], [6, 7])])
def counterBy_B : List Nat := [0, 1, 0, 0, 12, 28, 63, 127, 255]
theorem counterBy_tab : rtab .any (opsOf Try.f63 7) = counterBy_T := by kernel_rfl
theorem counterBy_bits : waitsOk counterBy_T.2 counterBy_B = true := by kernel_rfl

set_option maxHeartbeats 8000000 in
set_option maxRecDepth 100000 in
theorem counterBy_yes (g : Nat) (lb : Array Value) (eg : ∀ args w, (callFunc g args).run Try.prog w = .ok (.enter g args) w) (n : Int) (f : Int → Int) (N : Nat) (h1 : 1 ≤ n) (h8 : n ≤ 8) (hN : (N : Int) = 2 ^ n.toNat) (w : World)
    (hstep : ∀ (i : Nat) (W : World), i < N → Below w.heap.size w W → Calls Try.prog g (#[.int .i64 (i : Int)] ++ lb) W fun e W' => e = .returned (.int .i64 (f (i : Int))) ∧ ∃ m, W' = W.drewN m) :
    Calls Try.prog 63 #[.int .i64 n, .func (.func g) #[] lb] w fun e w' => ∃ v, e = .returned (.tuple #[.agg #[.int .i64 n, v], .bool true]) ∧ Kd.R (Kd.int .i64) 2 w' w.heap.size (fun _ => True) v (mapN f N) ∧ Below w.heap.size w w' := by
  have HSP := Aside0.mk hstep
  have HT := Aside0.mk ((isBits_form n).trans (congrArg some (decide_eq_true ⟨h1, h8⟩)))
  have hp := (pow_256 ⟨h1, h8⟩).2
  have hN8 : N ≤ 256 := by omega
  have hsw : IntKind.i64.wrap (2 ^ n.toNat) = (N : Int) := by rw [← hN, i64_w]; exact w64 (by omega) (by omega)
  have p1 : (0 : Int) ≤ n := by omega
  clear hstep hp hN
  go_enter Try.func63, Try.ntmps63
  go_wp2_with (first | (go_at_call 49; refine (impl_isBits.calls n true _ HT.out).mono ?_; rintro e w' ⟨rfl, ⟨nd, rfl⟩⟩))
  go_loopg [16] N (fun gk v16 w' => ∃ (i : Nat) (u : Value), v16 = .int .i64 (i : Int) ∧ i + gk = N ∧ Aside0 (Below w.heap.size w w') ∧ Aside0 (w'.heap[w.heap.size]? = some (.cells #[.int .i64 0, .slice none 0 0] 26 (0, 0))) ∧ Aside0 (w'.heap[w.heap.size + 1]? = some (.cells #[.int .i64 n, u] 26 (0, 0))) ∧ Aside0 (Kd.R (Kd.int .i64) 2 w' w.heap.size (fun _ => True) u (mapN f i)))
  case atStart =>
    refine ⟨0, .slice none 0 0, rfl, by omega, ⟨?_⟩, ⟨?_⟩, ⟨?_⟩, ⟨Kd.R_nil _ _ _ _ _⟩⟩
    · exact ((pw_below_drewN ((Below.refl _ _).alloc (Nat.le_refl _) _) _).alloc (by simp [World.drewN]) _)
    · exact blk_alloc (blk_drewN (blk_new _ _) _) _
    · have := blk_new ((w.alloc (.cells #[.int .i64 0, .slice none 0 0] 26)).drewN nd) (.cells #[.int .i64 n, .slice none 0 0] 26)
      simpa [World.drewN] using this
  case round =>
    obtain ⟨i, u, rfl, hi, HB, HG, HC, HO⟩ := hrel
    have HL := Aside0.mk (mapN_length f i)
    by_cases hlt : i < N
    · obtain ⟨k1, rfl⟩ : ∃ m, gk = m + 1 := ⟨gk - 1, by omega⟩
      have hlti : decide ((i : Int) < ((k1 + 1 + i : Nat) : Int)) = true := decide_eq_true (by omega)
      go_wp2
      have HO1 := Aside0.mk (Kd.R_drew HO.out)
      have HG1 := Aside0.mk (blk_drew HG.out)
      have HC1 := Aside0.mk (blk_drew HC.out)
      have HB1 := Aside0.mk (below_drew1 HB.out)
      refine start_ (n := 9) (S := fun w' => w'.cell? ⟨w.heap.size + 1, 1, none⟩ = some u) (ds := [8]) #[false, false, false, false, false, false, false, false, false] (by kernel_rfl) rfl rfl ((blk_cell HC1.out 1).trans rfl) (fun hHeld => ?_); refine with_tabW counterBy_tab counterBy_bits (fun HT_ HW_ => ?_)
      generalize wr.drew = w58 at HO1 HG1 HC1 HB1 hHeld ⊢
      refine pure_ (i := 0) (N := some 19) (v := ?_) (a' := ?_) #[true, false, false, false, false, false, false, false, false] rfl rfl (any_of HT_.out (by kernel_rfl)) (fun _ _ _ h => h) (Or.inl ⟨by rfl, ?_⟩) ?_ ?_
      rotate_left
      · intro w'
        go_simp
        with_reducible rfl
      rotate_left
      · simp only [Act.put, List.setIfInBounds_toArray, List.set_cons_zero, List.set_cons_succ, i64_w, i32_w]
        rfl
      refine pure_ (i := 2) (N := some 21) (v := ?_) (a' := ?_) #[true, false, true, false, false, false, false, false, false] rfl rfl (any_of HT_.out (by kernel_rfl)) (fun _ _ _ h => h) (Or.inl ⟨by rfl, ?_⟩) ?_ ?_
      rotate_left
      · intro w'
        go_simp
        with_reducible rfl
      rotate_left
      · simp only [Act.put, List.setIfInBounds_toArray, List.set_cons_zero, List.set_cons_succ, i64_w, i32_w]
        rfl
      refine pure_ (i := 3) (N := some 22) (v := ?_) (a' := ?_) #[true, false, true, true, false, false, false, false, false] rfl rfl (any_of HT_.out (by kernel_rfl)) (fun _ _ _ h => h) (Or.inl ⟨by rfl, ?_⟩) ?_ ?_
      rotate_left
      · intro w'
        go_simp
        with_reducible rfl
      rotate_left
      · simp only [Act.put, List.setIfInBounds_toArray, List.set_cons_zero, List.set_cons_succ, i64_w, i32_w]
        rfl
      refine take_ (i := 1) (N := some 20) (v := ?_) (a' := ?_) #[true, true, true, true, false, false, false, false, false] rfl rfl (take_ofW HT_.out HW_.out (by kernel_rfl)) (fun _ _ _ h => h) (Or.inl ⟨by rfl, ?_⟩) hHeld ?_ ?_
      rotate_left
      · rintro w' s0
        go_simp
        with_reducible rfl
      rotate_left
      · simp only [Act.put, List.setIfInBounds_toArray, List.set_cons_zero, List.set_cons_succ, i64_w, i32_w]
        rfl
      refine one_ (i := 4) (N := some 23) #[true, true, true, true, true, false, false, false, false] rfl rfl (one_of HT_.out (by kernel_rfl)) (by decide) (fun K hK => ?_)
      refine call_ g (#[.int .i64 (i : Int)] ++ lb) (by rfl) rfl (by unfold execOp; simp [resolve, Deferred.ofValue, invoke, Act.eval, eg]) ?_
      refine (HSP.out i _ hlt HB1.out).mono ?_
      rintro e w' ⟨rfl, ⟨nd2, rfl⟩⟩
      refine ⟨_, rfl, ?_⟩
      refine hK.out _ _ ((blk_cell HC1.out 1).trans rfl) (fun hHeld => ?_)
      clear hK K
      refine norm_ (a' := ?_) ?_ ?_
      rotate_left
      · show Act.put _ (some 23) _ = _
        simp only [Act.put, List.setIfInBounds_toArray, List.set_cons_zero, List.set_cons_succ, i64_w, i32_w]
        rfl
      refine one_ (i := 5) (N := some 24) #[true, true, true, true, true, true, false, false, false] rfl rfl (one_of HT_.out (by kernel_rfl)) (by decide) (fun K hK => ?_)
      refine value_ (w1 := ?_) (v := ?_) (by rfl) rfl ?_ ?_
      rotate_left 2
      · go_simp
        constructor
        · rfl
        · rfl
      refine hK.out _ _ ((blk_cell (blk_alloc HC1.out _) 1).trans rfl) (fun hHeld => ?_)
      clear hK K
      refine norm_ (a' := ?_) ?_ ?_
      rotate_left
      · show Act.put _ (some 24) _ = _
        simp only [Act.put, List.setIfInBounds_toArray, List.set_cons_zero, List.set_cons_succ, i64_w, i32_w]
        rfl
      refine one_ (i := 6) (N := some 25) #[true, true, true, true, true, true, true, false, false] rfl rfl (one_of HT_.out (by kernel_rfl)) (by decide) (fun K hK => ?_)
      refine Kd.R_append_step (Kd.int .i64) (w0 := w) w.heap.size (by rfl) (.tmp 20) (.tmp 24) 24 2 (.int .i64 0) 8 rfl Try.underlying24 info2 rfl (by decide) (by omega) u (mapN f i) (f (i : Int)) [.int .i64 (f (i : Int))] (fun _ => True) (fun _ => False) rfl rfl ?aP (fun _ hk => hk.elim) ?aF ?aO ?aB ?aS ?aL ?_
      (case aP => exact rfl)
      (case aF => exact (fun _ _ => trivial))
      (case aO => exact (by (with_reducible repeat (first | apply Kd.R_alloc | apply Kd.R_drewN | apply Kd.R_drew)); exact HO1.out))
      (case aB => exact (by repeat (first | (with_reducible first | exact HB1.out | apply below_alloc | apply pw_below_drewN | apply below_drew1) | exact HB1.out)))
      (case aS => exact (below_size (by repeat (first | (with_reducible first | exact HB1.out | apply below_alloc | apply pw_below_drewN | apply below_drew1) | exact HB1.out))))
      (case aL => have := HL.out; omega)
      intro v506 w60 ho hb hg hat
      obtain ⟨y, hy⟩ : ∃ y_, y_ = mapN f i ++ [f (i : Int)] := ⟨_, rfl⟩
      rw [← hy] at ho
      have HY := Aside0.mk hy
      clear hy
      have HG2 := Aside0.mk (blk_grown (g := w.heap.size) (o := .cells #[.int .i64 0, .slice none 0 0] 26 (0, 0)) (by (with_reducible repeat (first | refine blk_drewN ?_ _ | refine blk_drew ?_ | refine blk_alloc ?_ _)); exact HG1.out) hg (Kd.R_ne HO1.out HG1.out (by decide)))
      have HC2 := Aside0.mk (blk_grown (g := w.heap.size + 1) (o := .cells #[.int .i64 n, u] 26 (0, 0)) (by (with_reducible repeat (first | refine blk_drewN ?_ _ | refine blk_drew ?_ | refine blk_alloc ?_ _)); exact HC1.out) hg (Kd.R_ne HO1.out HC1.out (by decide)))
      have HB2 := Aside0.mk hb
      have HO2 := Aside0.mk ho
      clear ho hb hg hat
      obtain ⟨Ao, co, rfl⟩ := Kd.R_slice HO2.out
      refine hK.out _ _ ((blk_cell HC2.out 1).trans rfl) (fun hHeld => ?_)
      clear hK K
      refine norm_ (a' := ?_) ?_ ?_
      rotate_left
      · show Act.put _ (some 25) _ = _
        simp only [Act.put, List.setIfInBounds_toArray, List.set_cons_zero, List.set_cons_succ, i64_w, i32_w]
        rfl
      refine pure_ (i := 7) (N := some 26) (v := ?_) (a' := ?_) #[true, true, true, true, true, true, true, true, false] rfl rfl (any_of HT_.out (by kernel_rfl)) (fun _ _ _ h => h) (Or.inl ⟨by rfl, ?_⟩) ?_ ?_
      rotate_left
      · intro w'
        go_simp
        with_reducible rfl
      rotate_left
      · simp only [Act.put, List.setIfInBounds_toArray, List.set_cons_zero, List.set_cons_succ, i64_w, i32_w]
        rfl
      refine last_ (i := 8) (N := none) #[true, true, true, true, true, true, true, true, true] rfl rfl (one_of HT_.out (by kernel_rfl)) (by decide) (fun K hK => ?_)
      have hs62 : w60.cell? ⟨w.heap.size + 1, 1, none⟩ = some u := (blk_cell HC2.out 1).trans rfl
      have hfs62 := blk_frozen HC2.out 1
      refine skip_ (w1 := ?_) (by rfl) rfl ?_ ?_
      rotate_left
      · go_simp
        rfl
      refine hK.out _ _ ?_
      clear hK K
      refine done_ (done_of HT_.out (by kernel_rfl)) ?_
      go_wp2
      go_roundg k1
      case measure => omega
      case rel =>
        refine ⟨i + 1, .slice Ao y.length co, by go_num, by omega, ⟨?_⟩, ⟨?_⟩, ⟨?_⟩, ⟨?_⟩⟩
        · exact below_set HB2.out (by show w.heap.size ≤ w.heap.size + 1; omega)
        · exact blk_far HG2.out (by show w.heap.size ≠ w.heap.size + 1; omega) _
        · exact blk_put HC2.out 1 _ rfl
        · rw [mapN, ← HY.out]; exact Kd.R_mono (Kd.R_far (p := ⟨w.heap.size + 1, 1, none⟩) (Kd.R_types HO2.out HC2.out (by decide)) (fun _ hk => hk.2) (.slice Ao y.length co)) (fun _ hk => trivial)
    · obtain rfl : i = N := by omega
      have hge : decide ((i : Int) < (i : Int)) = false := decide_eq_false (by omega)
      obtain ⟨Ao, co, rfl⟩ := Kd.R_slice HO.out
      have hc0 := (blk_cell HC.out 0).trans rfl
      have hc1 := (blk_cell HC.out 1).trans rfl
      have hg0 := (blk_cell HG.out 0).trans rfl
      have hg1 := (blk_cell HG.out 1).trans rfl
      have hf0 := blk_frozen HG.out 0
      have hf1 := blk_frozen HG.out 1
      have hu26 := Try.underlying26
      go_wp2
      refine bodyPost_ret (results_ct rfl _ _ w.heap.size 26 #[.int .i64 n, .slice Ao (mapN f i).length co] (0, 0) _ rfl (by refine blk_put (cs := #[.int .i64 n, .slice none 0 0]) ?_ 1 _ rfl; refine blk_put (cs := #[.int .i64 0, .slice none 0 0]) ?_ 0 _ rfl; exact HG.out) Try.underlying26 rfl (by kernel_rfl)) rfl ?_
      refine ⟨_, rfl, ?_, ?_⟩
      · exact Kd.R_mono (Kd.R_far (p := ⟨w.heap.size, 1, none⟩) (Kd.R_far (p := ⟨w.heap.size, 0, none⟩) (Kd.R_types HO.out HG.out (by decide)) (fun _ hk => hk.2) (.int .i64 n)) (fun _ hk => hk.2) (.slice Ao (mapN f i).length co)) (fun _ hk => trivial)
      · exact below_set (below_set HB.out (Nat.le_refl _)) (Nat.le_refl _)

set_option maxHeartbeats 8000000 in
set_option maxRecDepth 100000 in
theorem counterBy_no (g : Nat) (lb : Array Value) (n : Int) (hn : ¬ (1 ≤ n ∧ n ≤ 8)) (w : World) :
    Calls Try.prog 63 #[.int .i64 n, .func (.func g) #[] lb] w fun e w' => e = .returned (.tuple #[.agg #[.int .i64 0, .slice none 0 0], .bool false]) ∧ Below w.heap.size w w' := by
  have HT := Aside0.mk ((isBits_form n).trans (congrArg some (decide_eq_false hn)))
  have hG := blk_new w (.cells #[.int .i64 0, .slice none 0 0] 26)
  have HG := Aside0.mk hG
  have hg0 := (blk_cell hG 0).trans rfl
  have hg1 := (blk_cell hG 1).trans rfl
  have hf0 := blk_frozen hG 0
  have hf1 := blk_frozen hG 1
  have hu26 := Try.underlying26
  clear hG
  go_enter Try.func63, Try.ntmps63
  go_wp2_with (first | (go_at_call 49; refine (impl_isBits.calls n false _ HT.out).mono ?_; rintro e w' ⟨rfl, ⟨nd, rfl⟩⟩))
  refine bodyPost_ret (results_ct rfl _ _ w.heap.size 26 #[.int .i64 0, .slice none 0 0] (0, 0) _ rfl (by refine blk_put (cs := #[.int .i64 0, .slice none 0 0]) ?_ 1 _ rfl; refine blk_put (cs := #[.int .i64 0, .slice none 0 0]) ?_ 0 _ rfl; exact blk_drewN HG.out _) Try.underlying26 rfl (by kernel_rfl)) rfl ?_
  exact ⟨rfl, by repeat (first | (with_reducible first | exact Below.refl _ _ | apply below_alloc | apply pw_below_drewN | apply below_drew1 | refine below_set ?_ (Nat.le_refl _)) | exact Below.refl _ _ | refine below_set ?_ (Nat.le_refl _))⟩
end Go.Proofs.Ytomepieklgplgaa.P
