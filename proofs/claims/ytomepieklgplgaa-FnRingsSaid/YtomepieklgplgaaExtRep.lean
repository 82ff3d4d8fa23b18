/- slices.Repeat of one number: the contract of the Go function, for at most a thousand copies. -/
import Derived.Test.YtomepieklgplgaaP21
import Derived.Test.YtomepieklgplgaaBase
import Derived.Laws.CopyOwn
import Derived.Deep.RegionLaw
import Derived.Deep.QuietTactic
import Derived.BigQuiet
import Derived.Lib.Hide
namespace Go.Proofs.Ytomepieklgplgaa.P
open Go.RowKit Go.Proofs.YtomepieklgplgaaW.PrintWords Go.Proofs.YtomepieklgplgaaW.PrintLast Go.Proofs.YtomepieklgplgaaW.PrintMore
set_option linter.unusedVariables false
set_option linter.unusedSimpArgs false

def slices_Repeat_int_int.f (l0 : List Int) (a1 : Int) : Option (List Int) :=
  if l0.length = 1 ∧ 1 ≤ a1 ∧ a1 ≤ 1000 then some (List.replicate a1.toNat (rd l0 0)) else none

theorem and_u64 (a b : Nat) (ha : a < 18446744073709551616) (hb : b < 18446744073709551616) : Go.bits .and .u64 (a : Int) (b : Int) = ((a &&& b : Nat) : Int) := by
  have hx : a &&& b < 2 ^ 64 := Nat.and_lt_two_pow _ (by omega)
  show IntKind.u64.wrap ((BitVec.ofInt 64 (a : Int) &&& BitVec.ofInt 64 (b : Int)).toNat : Int) = _
  rw [BitVec.toNat_and, ofInt_i64 a (by omega), ofInt_i64 b (by omega)]
  exact wu64 (by omega) (by omega)
theorem mul_one (n : Nat) (hn : n ≤ 1000) : bits_Mul.f 1 (n : Int) = some (0, (n : Int)) := by
  unfold bits_Mul.f bits_Mul64.f
  have e1 : Go.bits .and .u64 1 4294967295 = 1 := by
    have := and_u64 1 4294967295 (by decide) (by decide)
    exact this
  have e2 : Go.bits .and .u64 (n : Int) 4294967295 = (n : Int) := by
    have := and_u64 n 4294967295 (by omega) (by decide)
    rw [show ((4294967295 : Nat) : Int) = 4294967295 from rfl] at this
    rw [this, show (4294967295 : Nat) = 2 ^ 32 - 1 from rfl, Nat.and_two_pow_sub_one_eq_mod]
    congr 1
    omega
  have e3 : (1 : Int) / 4294967296 = 0 := by decide
  have e4 : (n : Int) / 4294967296 = 0 := by omega
  have e5 : Go.bits .and .u64 0 4294967295 = 0 := by
    have := and_u64 0 4294967295 (by decide) (by decide)
    exact this
  simp only [e1, e2, e3, e4, Option.bind_some, Int.zero_mul, Int.mul_zero, Int.one_mul]
  have w0 : IntKind.u64.wrap 0 = 0 := wu64 (by decide) (by decide)
  have wn : IntKind.u64.wrap (n : Int) = (n : Int) := wu64 (by omega) (by omega)
  simp only [w0, wn, Int.add_zero, Int.zero_add, e4, e5, Int.zero_ediv]

theorem rep_cells {W : World} {g m q : Nat} {v : Int} {rest : List Value} (h : W.heap[g]? = some (.cells (List.replicate m (Value.int .i64 v) ++ rest).toArray 3 (0, 0))) (hq : q ≤ m) {j : Nat} {u : Value} (hj : (List.replicate q (Value.int .i64 v))[j]? = some u) :
    W.cell? ((⟨g, 0, none⟩ : Addr).add j) = some u := by
  have hl : j < q := by
    have := (List.getElem?_eq_some_iff.mp hj).1
    rwa [List.length_replicate] at this
  rw [List.getElem?_replicate, if_pos hl] at hj
  have e : (⟨g, 0, none⟩ : Addr).add j = ⟨g, j, none⟩ := by simp [Addr.add]; omega
  rw [e, blk_cell h j, ← hj]
  simp [List.getElem?_append_left (show j < (List.replicate m (Value.int .i64 v)).length by rw [List.length_replicate]; omega), List.getElem?_replicate, show j < m by omega]
theorem rep_splice (v : Int) {m N q : Nat} (hm : m ≤ N) (hq : m + q ≤ N) : splice (List.replicate m (Value.int .i64 v) ++ List.replicate (N - m) (Value.int .i64 0)) m (List.replicate q (Value.int .i64 v)) = List.replicate (m + q) (Value.int .i64 v) ++ List.replicate (N - (m + q)) (Value.int .i64 0) := by
  unfold splice
  rw [List.take_append_of_le_length (by simp), List.take_of_length_le (by simp), List.length_replicate, List.drop_append, List.drop_of_length_le (by simp), List.nil_append, List.length_replicate, List.drop_replicate, ← List.append_assoc, List.replicate_append_replicate, show N - m - (m + q - m) = N - (m + q) by omega]
def rep_T : Bool × List (List Nat × List Nat) := (true, [([], []), ([], []), ([], []), ([1, 2], [1, 2]), ([], []), ([], []), ([4, 5], [4, 5]), ([3, 6], [3, 6]), ([0, 7], [0, 7]), ([8, 7, 0, 1, 2, 3, 4, 5, 6, 7, 8], [0, 2, 5, 8])])
def rep_B : List Nat := [0, 0, 0, 6, 0, 0, 48, 126, 255, 511]
theorem rep_tab : rtab .any (opsOf Try.f87 9) = rep_T := by kernel_rfl
theorem rep_bits : waitsOk rep_T.2 rep_B = true := by kernel_rfl

set_option maxHeartbeats 8000000 in
set_option maxRecDepth 100000 in
theorem rep_walk (v : Int) (ad : Addr) (c : Nat) (hc : 1 ≤ c) (N : Nat) (h1 : 1 ≤ N) (hN : N ≤ 1000) (w : World) (hv : w.cell? ad = some (.int .i64 v)) :
    Calls Try.prog 87 #[.slice (some ad) 1 c, .int .i64 (N : Int)] w fun e w' => ∃ v0_ : Value, e = .returned v0_ ∧ Kd.R (Kd.int .i64) 3 w' w.heap.size (fun _ => True) v0_ (List.replicate N v) ∧ Below w.heap.size w w' := by
  have HM := Aside0.mk (mul_one N hN)
  have hmk := run_make_row' (P := Try.prog) 86 3 (.int .i64 0) 8 Try.underlying86 (by kernel_rfl) rfl .i64 .i64 N (by omega) (by omega)
  have w1 : IntKind.u64.wrap 1 = 1 := wu64 (by decide) (by decide)
  have wn : IntKind.u64.wrap (N : Int) = (N : Int) := wu64 (by omega) (by omega)
  have hneg : decide ((N : Int) < 0) = false := decide_eq_false (by omega)
  have hbig : decide (9223372036854775807 < (N : Int)) = false := decide_eq_false (by omega)
  have hinf : (Try.prog.info? 3).map (·.size) = some 1 := by kernel_rfl
  obtain ⟨ti, hti, htis⟩ := Option.map_eq_some_iff.mp hinf
  have MK := Aside0.mk (fun q => (show ((w.drewN q).alloc (.cells (madeCells #[Value.int .i64 0] N) 3)).heap[w.heap.size]? = some (.cells (List.replicate N (Value.int .i64 0)).toArray 3 (0, 0)) from by
    have e : madeCells #[Value.int .i64 0] N = (List.replicate N (Value.int .i64 0)).toArray := by rw [← toList_madeCells_one]
    rw [e]
    exact blk_new (w.drewN q) _))
  have MB := Aside0.mk (fun q => (show Below w.heap.size w ((w.drewN q).alloc (.cells (madeCells #[Value.int .i64 0] N) 3)) from (pw_below_drewN (Below.refl _ _) q).alloc (Nat.le_refl _) _))
  have MV := Aside0.mk (fun q => (show ∀ (j : Nat) (u : Value), [Value.int .i64 v][j]? = some u → ((w.drewN q).alloc (.cells (madeCells #[Value.int .i64 0] N) 3)).cell? (ad.add j) = some u from by
    intro j u hj
    cases j with
    | zero =>
      obtain rfl : Value.int .i64 v = u := by simpa using hj
      exact ((MB.out q).cell (p := ad.add 0) (World.block_lt_of_cell? _ _ hv)).trans hv
    | succ j => simp at hj))
  clear hneg hbig
  go_enter Try.func87, Try.ntmps87
  go_wp2_with (first | (go_at_call 93; refine (bits_Mul.calls 1 (N : Int) 0 (N : Int) _ HM.out).mono ?_; rintro e w1 ⟨rfl, ⟨nd, rfl⟩⟩) | ((with_reducible refine gate_builtin (b := .copy) (xs := #[.tmp 31, .tmp 32]) rfl ?_); refine wpList_copy_splice (P := Try.prog) rfl (.tmp 31) (.tmp 32) 86 86 rfl 3 Try.underlying86 hinf (some ⟨w.heap.size, 0, none⟩) (some ad) N N 1 c rfl rfl w.heap.size 0 (List.replicate N (.int .i64 0)) 3 ?hg [.int .i64 v] ?hn ?hpos ?hfit ?h1 w.heap.size w ?hb ?hBg ?_; (case hg => exact MK.out _); (case hn => exact (Nat.min_eq_left h1).symm); (case hpos => exact fun _ => ⟨rfl, ad, rfl, MV.out _⟩); (case hfit => (rw [List.length_replicate]; exact h1)); (case h1 => (intro z hz; rw [List.mem_singleton] at hz; subst hz; rfl)); (case hb => exact MB.out _); (case hBg => exact Nat.le_refl _); intro w4 hg4 hb4; have HG := Aside0.mk hg4; have HB := Aside0.mk hb4; clear hg4 hb4))
  clear hmk
  have e0 : splice (List.replicate N (Value.int .i64 0)) 0 [Value.int .i64 v] = List.replicate 1 (Value.int .i64 v) ++ List.replicate (N - 1) (Value.int .i64 0) := by
    simp [splice]
  rw [e0] at HG
  clear e0 MK MB MV
  go_loopg [8] (N - 1) (fun gk v8 w' => ∃ m : Nat, v8 = .int .i64 (m : Int) ∧ 1 ≤ m ∧ m ≤ N ∧ gk = N - m ∧ Aside0 (w'.heap[w.heap.size]? = some (.cells (List.replicate m (Value.int .i64 v) ++ List.replicate (N - m) (Value.int .i64 0)).toArray 3 (0, 0))) ∧ Aside0 (Below w.heap.size w w'))
  case atStart => exact ⟨1, rfl, Nat.le_refl _, h1, rfl, ⟨HG.out⟩, HB⟩
  case round =>
    clear HG HB
    obtain ⟨m, rfl, hm1, hmN, hgk, HG, HB⟩ := hrel
    by_cases hlt : m < N
    · obtain ⟨q, hq⟩ : ∃ q, q = min m (N - m) := ⟨_, rfl⟩
      have hcf := cut_from (P := Try.prog) 86 3 .i64 Try.underlying86 hti 1 htis (some ⟨w.heap.size, 0, none⟩) N N (m : Int) (by omega) (by omega)
      have hct := cut_to (P := Try.prog) 86 3 .i64 Try.underlying86 hti (some ⟨w.heap.size, 0, none⟩) N N (m : Int) (by omega) (by omega) (Nat.le_refl _)
      rw [Int.toNat_natCast, if_neg (by omega)] at hcf
      rw [Int.toNat_natCast] at hct
      have hltd : decide (m < N) = true := decide_eq_true hlt
      have p0 : (0 : Int) ≤ (m : Int) := by omega
      have p1 : (m : Int) ≤ (N : Int) := by omega
      have hcl : (List.replicate m (Value.int .i64 v) ++ List.replicate (N - m) (Value.int .i64 0)).length = N := by rw [List.length_append, List.length_replicate, List.length_replicate]; omega
      have HL := Aside0.mk hcl
      have HQ := Aside0.mk hq
      clear hcl hq
      go_wp2
      have HB1 := Aside0.mk (below_drew1 HB.out)
      have HG1 := Aside0.mk (blk_drew HG.out)
      refine start_ (n := 10) (S := fun w' => True) (ds := []) #[false, false, false, false, false, false, false, false, false, false] (by kernel_rfl) rfl rfl trivial (fun hHeld => ?_); refine with_tabW rep_tab rep_bits (fun HT_ HW_ => ?_)
      generalize wr.drew = w58 at HB1 HG1 hHeld ⊢
      refine pure_ (i := 0) (N := some 38) (v := ?_) (a' := ?_) #[true, false, false, false, false, false, false, false, false, false] rfl rfl (any_of HT_.out (by kernel_rfl)) (fun _ _ _ h => h) (Or.inl ⟨by rfl, ?_⟩) ?_ ?_
      rotate_left
      · intro w'
        go_simp
        with_reducible rfl
      rotate_left
      · simp only [Act.put, List.setIfInBounds_toArray, List.set_cons_zero, List.set_cons_succ, i64_w, i32_w]
        rfl
      refine pure_ (i := 1) (N := some 39) (v := ?_) (a' := ?_) #[true, true, false, false, false, false, false, false, false, false] rfl rfl (any_of HT_.out (by kernel_rfl)) (fun _ _ _ h => h) (Or.inl ⟨by rfl, ?_⟩) ?_ ?_
      rotate_left
      · intro w'
        go_simp
        with_reducible rfl
      rotate_left
      · simp only [Act.put, List.setIfInBounds_toArray, List.set_cons_zero, List.set_cons_succ, i64_w, i32_w]
        rfl
      refine pure_ (i := 2) (N := some 40) (v := ?_) (a' := ?_) #[true, true, true, false, false, false, false, false, false, false] rfl rfl (any_of HT_.out (by kernel_rfl)) (fun _ _ _ h => h) (Or.inl ⟨by rfl, ?_⟩) ?_ ?_
      rotate_left
      · intro w'
        go_simp
        with_reducible rfl
      rotate_left
      · simp only [Act.put, List.setIfInBounds_toArray, List.set_cons_zero, List.set_cons_succ, i64_w, i32_w]
        rfl
      refine pure_ (i := 4) (N := some 42) (v := ?_) (a' := ?_) #[true, true, true, false, true, false, false, false, false, false] rfl rfl (any_of HT_.out (by kernel_rfl)) (fun _ _ _ h => h) (Or.inl ⟨by rfl, ?_⟩) ?_ ?_
      rotate_left
      · intro w'
        go_simp
        with_reducible rfl
      rotate_left
      · simp only [Act.put, List.setIfInBounds_toArray, List.set_cons_zero, List.set_cons_succ, i64_w, i32_w]
        rfl
      refine pure_ (i := 5) (N := some 43) (v := ?_) (a' := ?_) #[true, true, true, false, true, true, false, false, false, false] rfl rfl (any_of HT_.out (by kernel_rfl)) (fun _ _ _ h => h) (Or.inl ⟨by rfl, ?_⟩) ?_ ?_
      rotate_left
      · intro w'
        go_simp
        with_reducible rfl
      rotate_left
      · simp only [Act.put, List.setIfInBounds_toArray, List.set_cons_zero, List.set_cons_succ, i64_w, i32_w]
        rfl
      refine pure_ (i := 3) (N := some 41) (v := ?_) (a' := ?_) #[true, true, true, true, true, true, false, false, false, false] rfl rfl (any_of HT_.out (by kernel_rfl)) (fun _ _ _ h => h) (Or.inl ⟨by rfl, ?_⟩) ?_ ?_
      rotate_left
      · intro w'
        go_simp
        with_reducible rfl
      rotate_left
      · simp only [Act.put, List.setIfInBounds_toArray, List.set_cons_zero, List.set_cons_succ, i64_w, i32_w]
        rfl
      refine pure_ (i := 6) (N := some 44) (v := ?_) (a' := ?_) #[true, true, true, true, true, true, true, false, false, false] rfl rfl (any_of HT_.out (by kernel_rfl)) (fun _ _ _ h => h) (Or.inl ⟨by rfl, ?_⟩) ?_ ?_
      rotate_left
      · intro w'
        go_simp
        with_reducible rfl
      rotate_left
      · simp only [Act.put, List.setIfInBounds_toArray, List.set_cons_zero, List.set_cons_succ, i64_w, i32_w]
        rfl
      refine one_ (i := 7) (N := some 45) #[true, true, true, true, true, true, true, true, false, false] rfl rfl (one_of HT_.out (by kernel_rfl)) (by decide) (fun K hK => ?_)
      refine step_copy_splice (P := Try.prog) rfl (.tmp 41) (.tmp 44) 86 86 rfl 3 Try.underlying86 hinf (some ⟨w.heap.size, m, none⟩) (some ⟨w.heap.size, 0, none⟩) (N - m) (N - m) m N rfl rfl w.heap.size m (List.replicate m (Value.int .i64 v) ++ List.replicate (N - m) (Value.int .i64 0)) 3 ?hg (List.replicate q (.int .i64 v)) ?hn ?hpos ?hfit ?h1 w.heap.size w ?hb (Nat.le_refl _) ?_
      (case hg => exact HG1.out)
      (case hn => (rw [List.length_replicate, HQ.out]))
      (case hpos => exact fun _ => ⟨rfl, ⟨w.heap.size, 0, none⟩, rfl, fun j u hj => rep_cells HG1.out (by have := HQ.out; omega) hj⟩)
      (case hfit => (have h1_ := HL.out; have h2_ := HQ.out; rw [List.length_replicate]; omega))
      (case h1 => (intro z hz; rw [List.eq_of_mem_replicate hz]; rfl))
      (case hb => exact HB1.out)
      intro w5 hg5 hb5
      have HG5 := Aside0.mk hg5
      have HB5 := Aside0.mk hb5
      clear hg5 hb5
      refine hK.out _ _ trivial (fun hHeld => ?_)
      clear hK K
      rw [List.length_replicate, show goInt q = Value.int .i64 (q : Int) from rfl]
      refine norm_ (a' := ?_) ?_ ?_
      rotate_left
      · show Act.put _ (some 45) _ = _
        simp only [Act.put, List.setIfInBounds_toArray, List.set_cons_zero, List.set_cons_succ, i64_w, i32_w]
        rfl
      have hadd : IntKind.i64.wrap ((m : Int) + (q : Int)) = ((m + q : Nat) : Int) := by have := HQ.out; rw [i64_w, w64 (by omega) (by omega)]; omega
      refine pure_ (i := 8) (N := some 46) (v := ?_) (a' := ?_) #[true, true, true, true, true, true, true, true, true, false] rfl rfl (any_of HT_.out (by kernel_rfl)) (fun _ _ _ h => h) (Or.inl ⟨by rfl, ?_⟩) ?_ ?_
      rotate_left
      · intro w'
        go_simp
        with_reducible rfl
      rotate_left
      · simp only [Act.put, List.setIfInBounds_toArray, List.set_cons_zero, List.set_cons_succ, i64_w, i32_w]
        rfl
      refine pure_ (i := 9) (N := some 8) (v := ?_) (a' := ?_) #[true, true, true, true, true, true, true, true, true, true] rfl rfl (any_of HT_.out (by kernel_rfl)) (fun _ _ _ h => h) (Or.inl ⟨by rfl, ?_⟩) ?_ ?_
      rotate_left
      · intro w'
        go_simp
        with_reducible rfl
      rotate_left
      · simp only [Act.put, List.setIfInBounds_toArray, List.set_cons_zero, List.set_cons_succ, i64_w, i32_w]
        rfl
      refine done_ (done_of HT_.out (by kernel_rfl)) ?_
      clear hadd
      go_wp2
      go_roundg (N - (m + q))
      case measure => have := HQ.out; omega
      case rel =>
        have hq := HQ.out
        refine ⟨m + q, rfl, by omega, by omega, rfl, ⟨?_⟩, HB5⟩
        rw [← rep_splice v hmN (by omega)]
        exact HG5.out
    · have hge : decide (m < N) = false := decide_eq_false hlt
      obtain rfl : m = N := by omega
      go_wp2
      go_ret
      refine ⟨_, rfl, Kd.R_of_own ⟨by simp [encs], .inr ⟨w.heap.size, m, _, by simp, Nat.le_refl _, HG.out, by simp, ?_, by simp, by simp [encs]⟩⟩ (fun _ _ => trivial), HB.out⟩
      exact Nat.le_trans hN (by decide)

theorem slices_Repeat_int_int.calls (A0 : Option Addr) (c0 : Nat) (l0 : List Int) (a1 : Int) (r : List Int) (w : World) (hr0 : Kd.C (Kd.int .i64) w A0 l0.length l0) (hc0 : l0.length ≤ c0) (h : slices_Repeat_int_int.f l0 a1 = some r) :
    Calls Try.prog 87 #[.slice A0 l0.length c0, .int .i64 a1] w fun e w' => ∃ v0_ : Value, e = .returned (v0_) ∧ Kd.R (Kd.int .i64) 3 w' w.heap.size (fun _ => True) v0_ r ∧ Below w.heap.size w w' := by
  unfold slices_Repeat_int_int.f at h
  split at h
  · rename_i hc
    obtain ⟨hl, h1, h2⟩ := hc
    obtain rfl := Option.some.inj h
    obtain ⟨ad, e, hx⟩ := Kd.at_int hr0 0 (Int.le_refl 0) (by omega)
    subst e
    obtain ⟨n, rfl⟩ := Int.eq_ofNat_of_zero_le (show 0 ≤ a1 by omega)
    have hx' : w.cell? ad = some (.int .i64 (rd l0 0)) := by
      have e : ad.add (0 : Int).toNat = ad := by simp [Addr.add]
      rwa [e] at hx
    rw [hl] at hc0 ⊢
    rw [Int.toNat_natCast]
    exact rep_walk (rd l0 0) ad c0 hc0 n (by omega) (by omega) w hx'
  · cases h
end Go.Proofs.Ytomepieklgplgaa.P
