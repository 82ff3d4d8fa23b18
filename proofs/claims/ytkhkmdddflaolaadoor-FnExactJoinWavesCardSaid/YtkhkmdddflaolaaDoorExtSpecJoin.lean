/- What the reference's join of two waves answers where both are as long and at most a million bytes, for the four operations: the contract of the Go function. -/
import Derived.Test.YtkhkmdddflaolaaDoorExtJoin
namespace Go.Proofs.YtkhkmdddflaolaaDoor.P
open Go.RowKit Go.Proofs.YtkhkmdddflaolaaDoorW.PrintWords Go.Proofs.YtkhkmdddflaolaaDoorW.PrintLast Go.Proofs.YtkhkmdddflaolaaDoorW.PrintMore
set_option linter.unusedVariables false
set_option linter.unusedSimpArgs false

def spec_l01Join.f (a0 : Int) (a1 : ByteArray) (a2 : ByteArray) : Option (ByteArray) :=
  if a1.size = a2.size ∧ a1.size ≤ 1000000 ∧ (0 ≤ a0 ∧ a0 ≤ 3) then some (waveStr (joinBit a0 a1 a2) a1.size) else none

set_option maxHeartbeats 16000000 in
set_option maxRecDepth 100000 in
theorem specJoin_walk (op : Int) (s t : ByteArray) (n : Nat) (hsn : s.size = n) (htn : t.size = n) (hn : n ≤ 1000000) (ho : op = 0 ∨ op = 1 ∨ op = 2 ∨ op = 3) (w : World) :
    Calls Tryd.prog 51 #[.int .i64 op, .string s, .string t] w fun e w' => e = .returned (.string (waveStr (joinBit op s t) n)) ∧ Below w.heap.size w w' := by
  have HO := Aside0.mk ho
  clear ho
  go_enter Tryd.func51, Tryd.ntmps51
  go_wp2_with (first | ((with_reducible refine gate_dst (N := 13) rfl ?_); refine Kd.R_lit (Kd.int .u8) w.heap.size 5 ?hg (N := 13) ?hd (xs := ([] : List Int)) (inner := []) (ok := fun _ => True) (okp := fun _ => True) ?hr ?hp (fun _ hk => hk) trivial (Below.refl _ _) (Nat.le_refl _) (by simp) ?_; (case hd => rfl); (case hg => rfl); (case hr => first | (go_simp; done) | (go_simp; rfl)); (case hp => exact (Reps.none _ _)); intro v119 w5 ho6 hb hg_ hnew_; have HB := Aside0.mk hb; have HR := Aside0.mk ho6; clear hg_ hnew_ hb ho6))
  go_loopg [7, 8] n (fun gk v7 v8 w' => ∃ i : Nat, v8 = .int .i64 (i : Int) ∧ i + gk = n ∧ Aside0 (Kd.R (Kd.int .u8) 5 w' w.heap.size (fun _ => True) v7 (levels (joinBit op s t) i)) ∧ Aside0 (Below w.heap.size w w'))
  case atStart => exact ⟨0, rfl, by omega, HR, HB⟩
  case round =>
    clear HR HB
    obtain ⟨i, rfl, hi, HR, HB⟩ := hrel
    by_cases hlt : i < n
    · obtain ⟨k1, rfl⟩ : ∃ m, gk = m + 1 := ⟨gk - 1, by omega⟩
      have hll := levels_length (joinBit op s t) i
      have HL := Aside0.mk hll
      clear hll
      have hlti : decide ((i : Int) < (n : Int)) = true := decide_eq_true (by omega)
      have his : i < s.size := by omega
      have hit : i < t.size := by omega
      have HX := Aside0.mk (show ((s[i]'his).toNat : Int) = bt s (i : Int) from bt_at s (i : Int) his)
      have HY := Aside0.mk (show ((t[i]'hit).toNat : Int) = bt t (i : Int) from bt_at t (i : Int) hit)
      have p1 : (0 : Int) ≤ (i : Int) := by omega
      have p2 : (i : Int) < (s.size : Int) := by omega
      have p3 : (i : Int) < (t.size : Int) := by omega
      by_cases hx : ((s[i]'his).toNat : Int) = 49
      · by_cases hy : ((t[i]'hit).toNat : Int) = 49
        · rcases HO.out with rfl | rfl | rfl | rfl
          · have HJ := Aside0.mk (show joinBit 0 s t i = true by rw [joinBit, ← HX.out, ← HY.out]; simp [hx, hy])
            go_wp2_with (first | ((with_reducible refine gate_builtin (b := .append) (xs := #[.tmp 52, .tmp 54]) rfl ?_); at_builtin; refine Kd.R_append (Kd.int .u8) (w0 := w) w.heap.size rfl (.tmp 52) (.tmp 54) 36 5 (.int .u8 0) 1 rfl Tryd.underlying36 info_u8 rfl (by decide) (by omega) u7 (levels (joinBit 0 s t) i) 49 [.int .u8 49] (fun _ => True) (fun _ => False) rfl rfl ?aP (fun _ hk => hk.elim) ?aF ?aO ?aB ?aS ?aL ?_; (case aP => exact rfl); (case aB => exact (by repeat (first | (with_reducible first | exact HB.out | apply below_alloc | apply pw_below_drewN | apply below_drew1) | exact HB.out))); (case aF => exact (fun _ _ => trivial)); (case aO => exact (by (with_reducible repeat (first | apply Kd.R_alloc | apply Kd.R_drewN | apply Kd.R_drew)); exact HR.out)); (case aS => exact (below_size (by repeat (first | (with_reducible first | exact HB.out | apply below_alloc | apply pw_below_drewN | apply below_drew1) | exact HB.out)))); (case aL => have := HL.out; omega); intro v122 w10 ho hb hg hat; have HR2 := Aside0.mk ho; have HB2 := Aside0.mk hb; clear ho hb hg hat))
            go_roundg k1
            case measure => omega
            case rel => exact ⟨i + 1, by go_num, by omega, ⟨by rw [levels, HJ.out]; exact HR2.out⟩, HB2⟩
          · have HJ := Aside0.mk (show joinBit 1 s t i = true by rw [joinBit, ← HX.out, ← HY.out]; simp [hx, hy])
            go_wp2_with (first | ((with_reducible refine gate_builtin (b := .append) (xs := #[.tmp 52, .tmp 54]) rfl ?_); at_builtin; refine Kd.R_append (Kd.int .u8) (w0 := w) w.heap.size rfl (.tmp 52) (.tmp 54) 36 5 (.int .u8 0) 1 rfl Tryd.underlying36 info_u8 rfl (by decide) (by omega) u7 (levels (joinBit 1 s t) i) 49 [.int .u8 49] (fun _ => True) (fun _ => False) rfl rfl ?aP (fun _ hk => hk.elim) ?aF ?aO ?aB ?aS ?aL ?_; (case aP => exact rfl); (case aB => exact (by repeat (first | (with_reducible first | exact HB.out | apply below_alloc | apply pw_below_drewN | apply below_drew1) | exact HB.out))); (case aF => exact (fun _ _ => trivial)); (case aO => exact (by (with_reducible repeat (first | apply Kd.R_alloc | apply Kd.R_drewN | apply Kd.R_drew)); exact HR.out)); (case aS => exact (below_size (by repeat (first | (with_reducible first | exact HB.out | apply below_alloc | apply pw_below_drewN | apply below_drew1) | exact HB.out)))); (case aL => have := HL.out; omega); intro v122 w10 ho hb hg hat; have HR2 := Aside0.mk ho; have HB2 := Aside0.mk hb; clear ho hb hg hat))
            go_roundg k1
            case measure => omega
            case rel => exact ⟨i + 1, by go_num, by omega, ⟨by rw [levels, HJ.out]; exact HR2.out⟩, HB2⟩
          · have HJ := Aside0.mk (show joinBit 2 s t i = false by rw [joinBit, ← HX.out, ← HY.out]; simp [hx, hy])
            go_wp2_with (first | ((with_reducible refine gate_builtin (b := .append) (xs := #[.tmp 52, .tmp 54]) rfl ?_); at_builtin; refine Kd.R_append (Kd.int .u8) (w0 := w) w.heap.size rfl (.tmp 52) (.tmp 54) 36 5 (.int .u8 0) 1 rfl Tryd.underlying36 info_u8 rfl (by decide) (by omega) u7 (levels (joinBit 2 s t) i) 48 [.int .u8 48] (fun _ => True) (fun _ => False) rfl rfl ?aP (fun _ hk => hk.elim) ?aF ?aO ?aB ?aS ?aL ?_; (case aP => exact rfl); (case aB => exact (by repeat (first | (with_reducible first | exact HB.out | apply below_alloc | apply pw_below_drewN | apply below_drew1) | exact HB.out))); (case aF => exact (fun _ _ => trivial)); (case aO => exact (by (with_reducible repeat (first | apply Kd.R_alloc | apply Kd.R_drewN | apply Kd.R_drew)); exact HR.out)); (case aS => exact (below_size (by repeat (first | (with_reducible first | exact HB.out | apply below_alloc | apply pw_below_drewN | apply below_drew1) | exact HB.out)))); (case aL => have := HL.out; omega); intro v122 w10 ho hb hg hat; have HR2 := Aside0.mk ho; have HB2 := Aside0.mk hb; clear ho hb hg hat))
            go_roundg k1
            case measure => omega
            case rel => exact ⟨i + 1, by go_num, by omega, ⟨by rw [levels, HJ.out]; exact HR2.out⟩, HB2⟩
          · have HJ := Aside0.mk (show joinBit 3 s t i = false by rw [joinBit, ← HX.out, ← HY.out]; simp [hx, hy])
            go_wp2_with (first | ((with_reducible refine gate_builtin (b := .append) (xs := #[.tmp 52, .tmp 54]) rfl ?_); at_builtin; refine Kd.R_append (Kd.int .u8) (w0 := w) w.heap.size rfl (.tmp 52) (.tmp 54) 36 5 (.int .u8 0) 1 rfl Tryd.underlying36 info_u8 rfl (by decide) (by omega) u7 (levels (joinBit 3 s t) i) 48 [.int .u8 48] (fun _ => True) (fun _ => False) rfl rfl ?aP (fun _ hk => hk.elim) ?aF ?aO ?aB ?aS ?aL ?_; (case aP => exact rfl); (case aB => exact (by repeat (first | (with_reducible first | exact HB.out | apply below_alloc | apply pw_below_drewN | apply below_drew1) | exact HB.out))); (case aF => exact (fun _ _ => trivial)); (case aO => exact (by (with_reducible repeat (first | apply Kd.R_alloc | apply Kd.R_drewN | apply Kd.R_drew)); exact HR.out)); (case aS => exact (below_size (by repeat (first | (with_reducible first | exact HB.out | apply below_alloc | apply pw_below_drewN | apply below_drew1) | exact HB.out)))); (case aL => have := HL.out; omega); intro v122 w10 ho hb hg hat; have HR2 := Aside0.mk ho; have HB2 := Aside0.mk hb; clear ho hb hg hat))
            go_roundg k1
            case measure => omega
            case rel => exact ⟨i + 1, by go_num, by omega, ⟨by rw [levels, HJ.out]; exact HR2.out⟩, HB2⟩
        · have hyb : (((t[i]'hit).toNat : Int) == 49) = false := beq_eq_false_iff_ne.mpr hy
          rcases HO.out with rfl | rfl | rfl | rfl
          · have HJ := Aside0.mk (show joinBit 0 s t i = false by rw [joinBit, ← HX.out, ← HY.out]; simp [hx, hy])
            go_wp2_with (first | ((with_reducible refine gate_builtin (b := .append) (xs := #[.tmp 52, .tmp 54]) rfl ?_); at_builtin; refine Kd.R_append (Kd.int .u8) (w0 := w) w.heap.size rfl (.tmp 52) (.tmp 54) 36 5 (.int .u8 0) 1 rfl Tryd.underlying36 info_u8 rfl (by decide) (by omega) u7 (levels (joinBit 0 s t) i) 48 [.int .u8 48] (fun _ => True) (fun _ => False) rfl rfl ?aP (fun _ hk => hk.elim) ?aF ?aO ?aB ?aS ?aL ?_; (case aP => exact rfl); (case aB => exact (by repeat (first | (with_reducible first | exact HB.out | apply below_alloc | apply pw_below_drewN | apply below_drew1) | exact HB.out))); (case aF => exact (fun _ _ => trivial)); (case aO => exact (by (with_reducible repeat (first | apply Kd.R_alloc | apply Kd.R_drewN | apply Kd.R_drew)); exact HR.out)); (case aS => exact (below_size (by repeat (first | (with_reducible first | exact HB.out | apply below_alloc | apply pw_below_drewN | apply below_drew1) | exact HB.out)))); (case aL => have := HL.out; omega); intro v122 w10 ho hb hg hat; have HR2 := Aside0.mk ho; have HB2 := Aside0.mk hb; clear ho hb hg hat))
            go_roundg k1
            case measure => omega
            case rel => exact ⟨i + 1, by go_num, by omega, ⟨by rw [levels, HJ.out]; exact HR2.out⟩, HB2⟩
          · have HJ := Aside0.mk (show joinBit 1 s t i = true by rw [joinBit, ← HX.out, ← HY.out]; simp [hx, hy])
            go_wp2_with (first | ((with_reducible refine gate_builtin (b := .append) (xs := #[.tmp 52, .tmp 54]) rfl ?_); at_builtin; refine Kd.R_append (Kd.int .u8) (w0 := w) w.heap.size rfl (.tmp 52) (.tmp 54) 36 5 (.int .u8 0) 1 rfl Tryd.underlying36 info_u8 rfl (by decide) (by omega) u7 (levels (joinBit 1 s t) i) 49 [.int .u8 49] (fun _ => True) (fun _ => False) rfl rfl ?aP (fun _ hk => hk.elim) ?aF ?aO ?aB ?aS ?aL ?_; (case aP => exact rfl); (case aB => exact (by repeat (first | (with_reducible first | exact HB.out | apply below_alloc | apply pw_below_drewN | apply below_drew1) | exact HB.out))); (case aF => exact (fun _ _ => trivial)); (case aO => exact (by (with_reducible repeat (first | apply Kd.R_alloc | apply Kd.R_drewN | apply Kd.R_drew)); exact HR.out)); (case aS => exact (below_size (by repeat (first | (with_reducible first | exact HB.out | apply below_alloc | apply pw_below_drewN | apply below_drew1) | exact HB.out)))); (case aL => have := HL.out; omega); intro v122 w10 ho hb hg hat; have HR2 := Aside0.mk ho; have HB2 := Aside0.mk hb; clear ho hb hg hat))
            go_roundg k1
            case measure => omega
            case rel => exact ⟨i + 1, by go_num, by omega, ⟨by rw [levels, HJ.out]; exact HR2.out⟩, HB2⟩
          · have HJ := Aside0.mk (show joinBit 2 s t i = true by rw [joinBit, ← HX.out, ← HY.out]; simp [hx, hy])
            go_wp2_with (first | ((with_reducible refine gate_builtin (b := .append) (xs := #[.tmp 52, .tmp 54]) rfl ?_); at_builtin; refine Kd.R_append (Kd.int .u8) (w0 := w) w.heap.size rfl (.tmp 52) (.tmp 54) 36 5 (.int .u8 0) 1 rfl Tryd.underlying36 info_u8 rfl (by decide) (by omega) u7 (levels (joinBit 2 s t) i) 49 [.int .u8 49] (fun _ => True) (fun _ => False) rfl rfl ?aP (fun _ hk => hk.elim) ?aF ?aO ?aB ?aS ?aL ?_; (case aP => exact rfl); (case aB => exact (by repeat (first | (with_reducible first | exact HB.out | apply below_alloc | apply pw_below_drewN | apply below_drew1) | exact HB.out))); (case aF => exact (fun _ _ => trivial)); (case aO => exact (by (with_reducible repeat (first | apply Kd.R_alloc | apply Kd.R_drewN | apply Kd.R_drew)); exact HR.out)); (case aS => exact (below_size (by repeat (first | (with_reducible first | exact HB.out | apply below_alloc | apply pw_below_drewN | apply below_drew1) | exact HB.out)))); (case aL => have := HL.out; omega); intro v122 w10 ho hb hg hat; have HR2 := Aside0.mk ho; have HB2 := Aside0.mk hb; clear ho hb hg hat))
            go_roundg k1
            case measure => omega
            case rel => exact ⟨i + 1, by go_num, by omega, ⟨by rw [levels, HJ.out]; exact HR2.out⟩, HB2⟩
          · have HJ := Aside0.mk (show joinBit 3 s t i = true by rw [joinBit, ← HX.out, ← HY.out]; simp [hx, hy])
            go_wp2_with (first | ((with_reducible refine gate_builtin (b := .append) (xs := #[.tmp 52, .tmp 54]) rfl ?_); at_builtin; refine Kd.R_append (Kd.int .u8) (w0 := w) w.heap.size rfl (.tmp 52) (.tmp 54) 36 5 (.int .u8 0) 1 rfl Tryd.underlying36 info_u8 rfl (by decide) (by omega) u7 (levels (joinBit 3 s t) i) 49 [.int .u8 49] (fun _ => True) (fun _ => False) rfl rfl ?aP (fun _ hk => hk.elim) ?aF ?aO ?aB ?aS ?aL ?_; (case aP => exact rfl); (case aB => exact (by repeat (first | (with_reducible first | exact HB.out | apply below_alloc | apply pw_below_drewN | apply below_drew1) | exact HB.out))); (case aF => exact (fun _ _ => trivial)); (case aO => exact (by (with_reducible repeat (first | apply Kd.R_alloc | apply Kd.R_drewN | apply Kd.R_drew)); exact HR.out)); (case aS => exact (below_size (by repeat (first | (with_reducible first | exact HB.out | apply below_alloc | apply pw_below_drewN | apply below_drew1) | exact HB.out)))); (case aL => have := HL.out; omega); intro v122 w10 ho hb hg hat; have HR2 := Aside0.mk ho; have HB2 := Aside0.mk hb; clear ho hb hg hat))
            go_roundg k1
            case measure => omega
            case rel => exact ⟨i + 1, by go_num, by omega, ⟨by rw [levels, HJ.out]; exact HR2.out⟩, HB2⟩
      · by_cases hy : ((t[i]'hit).toNat : Int) = 49
        · have hxb : (((s[i]'his).toNat : Int) == 49) = false := beq_eq_false_iff_ne.mpr hx
          rcases HO.out with rfl | rfl | rfl | rfl
          · have HJ := Aside0.mk (show joinBit 0 s t i = false by rw [joinBit, ← HX.out, ← HY.out]; simp [hx, hy])
            go_wp2_with (first | ((with_reducible refine gate_builtin (b := .append) (xs := #[.tmp 52, .tmp 54]) rfl ?_); at_builtin; refine Kd.R_append (Kd.int .u8) (w0 := w) w.heap.size rfl (.tmp 52) (.tmp 54) 36 5 (.int .u8 0) 1 rfl Tryd.underlying36 info_u8 rfl (by decide) (by omega) u7 (levels (joinBit 0 s t) i) 48 [.int .u8 48] (fun _ => True) (fun _ => False) rfl rfl ?aP (fun _ hk => hk.elim) ?aF ?aO ?aB ?aS ?aL ?_; (case aP => exact rfl); (case aB => exact (by repeat (first | (with_reducible first | exact HB.out | apply below_alloc | apply pw_below_drewN | apply below_drew1) | exact HB.out))); (case aF => exact (fun _ _ => trivial)); (case aO => exact (by (with_reducible repeat (first | apply Kd.R_alloc | apply Kd.R_drewN | apply Kd.R_drew)); exact HR.out)); (case aS => exact (below_size (by repeat (first | (with_reducible first | exact HB.out | apply below_alloc | apply pw_below_drewN | apply below_drew1) | exact HB.out)))); (case aL => have := HL.out; omega); intro v122 w10 ho hb hg hat; have HR2 := Aside0.mk ho; have HB2 := Aside0.mk hb; clear ho hb hg hat))
            go_roundg k1
            case measure => omega
            case rel => exact ⟨i + 1, by go_num, by omega, ⟨by rw [levels, HJ.out]; exact HR2.out⟩, HB2⟩
          · have HJ := Aside0.mk (show joinBit 1 s t i = true by rw [joinBit, ← HX.out, ← HY.out]; simp [hx, hy])
            go_wp2_with (first | ((with_reducible refine gate_builtin (b := .append) (xs := #[.tmp 52, .tmp 54]) rfl ?_); at_builtin; refine Kd.R_append (Kd.int .u8) (w0 := w) w.heap.size rfl (.tmp 52) (.tmp 54) 36 5 (.int .u8 0) 1 rfl Tryd.underlying36 info_u8 rfl (by decide) (by omega) u7 (levels (joinBit 1 s t) i) 49 [.int .u8 49] (fun _ => True) (fun _ => False) rfl rfl ?aP (fun _ hk => hk.elim) ?aF ?aO ?aB ?aS ?aL ?_; (case aP => exact rfl); (case aB => exact (by repeat (first | (with_reducible first | exact HB.out | apply below_alloc | apply pw_below_drewN | apply below_drew1) | exact HB.out))); (case aF => exact (fun _ _ => trivial)); (case aO => exact (by (with_reducible repeat (first | apply Kd.R_alloc | apply Kd.R_drewN | apply Kd.R_drew)); exact HR.out)); (case aS => exact (below_size (by repeat (first | (with_reducible first | exact HB.out | apply below_alloc | apply pw_below_drewN | apply below_drew1) | exact HB.out)))); (case aL => have := HL.out; omega); intro v122 w10 ho hb hg hat; have HR2 := Aside0.mk ho; have HB2 := Aside0.mk hb; clear ho hb hg hat))
            go_roundg k1
            case measure => omega
            case rel => exact ⟨i + 1, by go_num, by omega, ⟨by rw [levels, HJ.out]; exact HR2.out⟩, HB2⟩
          · have HJ := Aside0.mk (show joinBit 2 s t i = true by rw [joinBit, ← HX.out, ← HY.out]; simp [hx, hy])
            go_wp2_with (first | ((with_reducible refine gate_builtin (b := .append) (xs := #[.tmp 52, .tmp 54]) rfl ?_); at_builtin; refine Kd.R_append (Kd.int .u8) (w0 := w) w.heap.size rfl (.tmp 52) (.tmp 54) 36 5 (.int .u8 0) 1 rfl Tryd.underlying36 info_u8 rfl (by decide) (by omega) u7 (levels (joinBit 2 s t) i) 49 [.int .u8 49] (fun _ => True) (fun _ => False) rfl rfl ?aP (fun _ hk => hk.elim) ?aF ?aO ?aB ?aS ?aL ?_; (case aP => exact rfl); (case aB => exact (by repeat (first | (with_reducible first | exact HB.out | apply below_alloc | apply pw_below_drewN | apply below_drew1) | exact HB.out))); (case aF => exact (fun _ _ => trivial)); (case aO => exact (by (with_reducible repeat (first | apply Kd.R_alloc | apply Kd.R_drewN | apply Kd.R_drew)); exact HR.out)); (case aS => exact (below_size (by repeat (first | (with_reducible first | exact HB.out | apply below_alloc | apply pw_below_drewN | apply below_drew1) | exact HB.out)))); (case aL => have := HL.out; omega); intro v122 w10 ho hb hg hat; have HR2 := Aside0.mk ho; have HB2 := Aside0.mk hb; clear ho hb hg hat))
            go_roundg k1
            case measure => omega
            case rel => exact ⟨i + 1, by go_num, by omega, ⟨by rw [levels, HJ.out]; exact HR2.out⟩, HB2⟩
          · have HJ := Aside0.mk (show joinBit 3 s t i = false by rw [joinBit, ← HX.out, ← HY.out]; simp [hx, hy])
            go_wp2_with (first | ((with_reducible refine gate_builtin (b := .append) (xs := #[.tmp 52, .tmp 54]) rfl ?_); at_builtin; refine Kd.R_append (Kd.int .u8) (w0 := w) w.heap.size rfl (.tmp 52) (.tmp 54) 36 5 (.int .u8 0) 1 rfl Tryd.underlying36 info_u8 rfl (by decide) (by omega) u7 (levels (joinBit 3 s t) i) 48 [.int .u8 48] (fun _ => True) (fun _ => False) rfl rfl ?aP (fun _ hk => hk.elim) ?aF ?aO ?aB ?aS ?aL ?_; (case aP => exact rfl); (case aB => exact (by repeat (first | (with_reducible first | exact HB.out | apply below_alloc | apply pw_below_drewN | apply below_drew1) | exact HB.out))); (case aF => exact (fun _ _ => trivial)); (case aO => exact (by (with_reducible repeat (first | apply Kd.R_alloc | apply Kd.R_drewN | apply Kd.R_drew)); exact HR.out)); (case aS => exact (below_size (by repeat (first | (with_reducible first | exact HB.out | apply below_alloc | apply pw_below_drewN | apply below_drew1) | exact HB.out)))); (case aL => have := HL.out; omega); intro v122 w10 ho hb hg hat; have HR2 := Aside0.mk ho; have HB2 := Aside0.mk hb; clear ho hb hg hat))
            go_roundg k1
            case measure => omega
            case rel => exact ⟨i + 1, by go_num, by omega, ⟨by rw [levels, HJ.out]; exact HR2.out⟩, HB2⟩
        · have hxb : (((s[i]'his).toNat : Int) == 49) = false := beq_eq_false_iff_ne.mpr hx
          have hyb : (((t[i]'hit).toNat : Int) == 49) = false := beq_eq_false_iff_ne.mpr hy
          rcases HO.out with rfl | rfl | rfl | rfl
          · have HJ := Aside0.mk (show joinBit 0 s t i = false by rw [joinBit, ← HX.out, ← HY.out]; simp [hx, hy, hxb, hyb])
            go_wp2_with (first | ((with_reducible refine gate_builtin (b := .append) (xs := #[.tmp 52, .tmp 54]) rfl ?_); at_builtin; refine Kd.R_append (Kd.int .u8) (w0 := w) w.heap.size rfl (.tmp 52) (.tmp 54) 36 5 (.int .u8 0) 1 rfl Tryd.underlying36 info_u8 rfl (by decide) (by omega) u7 (levels (joinBit 0 s t) i) 48 [.int .u8 48] (fun _ => True) (fun _ => False) rfl rfl ?aP (fun _ hk => hk.elim) ?aF ?aO ?aB ?aS ?aL ?_; (case aP => exact rfl); (case aB => exact (by repeat (first | (with_reducible first | exact HB.out | apply below_alloc | apply pw_below_drewN | apply below_drew1) | exact HB.out))); (case aF => exact (fun _ _ => trivial)); (case aO => exact (by (with_reducible repeat (first | apply Kd.R_alloc | apply Kd.R_drewN | apply Kd.R_drew)); exact HR.out)); (case aS => exact (below_size (by repeat (first | (with_reducible first | exact HB.out | apply below_alloc | apply pw_below_drewN | apply below_drew1) | exact HB.out)))); (case aL => have := HL.out; omega); intro v122 w10 ho hb hg hat; have HR2 := Aside0.mk ho; have HB2 := Aside0.mk hb; clear ho hb hg hat))
            go_roundg k1
            case measure => omega
            case rel => exact ⟨i + 1, by go_num, by omega, ⟨by rw [levels, HJ.out]; exact HR2.out⟩, HB2⟩
          · have HJ := Aside0.mk (show joinBit 1 s t i = false by rw [joinBit, ← HX.out, ← HY.out]; simp [hx, hy, hxb, hyb])
            go_wp2_with (first | ((with_reducible refine gate_builtin (b := .append) (xs := #[.tmp 52, .tmp 54]) rfl ?_); at_builtin; refine Kd.R_append (Kd.int .u8) (w0 := w) w.heap.size rfl (.tmp 52) (.tmp 54) 36 5 (.int .u8 0) 1 rfl Tryd.underlying36 info_u8 rfl (by decide) (by omega) u7 (levels (joinBit 1 s t) i) 48 [.int .u8 48] (fun _ => True) (fun _ => False) rfl rfl ?aP (fun _ hk => hk.elim) ?aF ?aO ?aB ?aS ?aL ?_; (case aP => exact rfl); (case aB => exact (by repeat (first | (with_reducible first | exact HB.out | apply below_alloc | apply pw_below_drewN | apply below_drew1) | exact HB.out))); (case aF => exact (fun _ _ => trivial)); (case aO => exact (by (with_reducible repeat (first | apply Kd.R_alloc | apply Kd.R_drewN | apply Kd.R_drew)); exact HR.out)); (case aS => exact (below_size (by repeat (first | (with_reducible first | exact HB.out | apply below_alloc | apply pw_below_drewN | apply below_drew1) | exact HB.out)))); (case aL => have := HL.out; omega); intro v122 w10 ho hb hg hat; have HR2 := Aside0.mk ho; have HB2 := Aside0.mk hb; clear ho hb hg hat))
            go_roundg k1
            case measure => omega
            case rel => exact ⟨i + 1, by go_num, by omega, ⟨by rw [levels, HJ.out]; exact HR2.out⟩, HB2⟩
          · have HJ := Aside0.mk (show joinBit 2 s t i = false by rw [joinBit, ← HX.out, ← HY.out]; simp [hx, hy, hxb, hyb])
            go_wp2_with (first | ((with_reducible refine gate_builtin (b := .append) (xs := #[.tmp 52, .tmp 54]) rfl ?_); at_builtin; refine Kd.R_append (Kd.int .u8) (w0 := w) w.heap.size rfl (.tmp 52) (.tmp 54) 36 5 (.int .u8 0) 1 rfl Tryd.underlying36 info_u8 rfl (by decide) (by omega) u7 (levels (joinBit 2 s t) i) 48 [.int .u8 48] (fun _ => True) (fun _ => False) rfl rfl ?aP (fun _ hk => hk.elim) ?aF ?aO ?aB ?aS ?aL ?_; (case aP => exact rfl); (case aB => exact (by repeat (first | (with_reducible first | exact HB.out | apply below_alloc | apply pw_below_drewN | apply below_drew1) | exact HB.out))); (case aF => exact (fun _ _ => trivial)); (case aO => exact (by (with_reducible repeat (first | apply Kd.R_alloc | apply Kd.R_drewN | apply Kd.R_drew)); exact HR.out)); (case aS => exact (below_size (by repeat (first | (with_reducible first | exact HB.out | apply below_alloc | apply pw_below_drewN | apply below_drew1) | exact HB.out)))); (case aL => have := HL.out; omega); intro v122 w10 ho hb hg hat; have HR2 := Aside0.mk ho; have HB2 := Aside0.mk hb; clear ho hb hg hat))
            go_roundg k1
            case measure => omega
            case rel => exact ⟨i + 1, by go_num, by omega, ⟨by rw [levels, HJ.out]; exact HR2.out⟩, HB2⟩
          · have HJ := Aside0.mk (show joinBit 3 s t i = false by rw [joinBit, ← HX.out, ← HY.out]; simp [hx, hy, hxb, hyb])
            go_wp2_with (first | ((with_reducible refine gate_builtin (b := .append) (xs := #[.tmp 52, .tmp 54]) rfl ?_); at_builtin; refine Kd.R_append (Kd.int .u8) (w0 := w) w.heap.size rfl (.tmp 52) (.tmp 54) 36 5 (.int .u8 0) 1 rfl Tryd.underlying36 info_u8 rfl (by decide) (by omega) u7 (levels (joinBit 3 s t) i) 48 [.int .u8 48] (fun _ => True) (fun _ => False) rfl rfl ?aP (fun _ hk => hk.elim) ?aF ?aO ?aB ?aS ?aL ?_; (case aP => exact rfl); (case aB => exact (by repeat (first | (with_reducible first | exact HB.out | apply below_alloc | apply pw_below_drewN | apply below_drew1) | exact HB.out))); (case aF => exact (fun _ _ => trivial)); (case aO => exact (by (with_reducible repeat (first | apply Kd.R_alloc | apply Kd.R_drewN | apply Kd.R_drew)); exact HR.out)); (case aS => exact (below_size (by repeat (first | (with_reducible first | exact HB.out | apply below_alloc | apply pw_below_drewN | apply below_drew1) | exact HB.out)))); (case aL => have := HL.out; omega); intro v122 w10 ho hb hg hat; have HR2 := Aside0.mk ho; have HB2 := Aside0.mk hb; clear ho hb hg hat))
            go_roundg k1
            case measure => omega
            case rel => exact ⟨i + 1, by go_num, by omega, ⟨by rw [levels, HJ.out]; exact HR2.out⟩, HB2⟩
    · have hge : decide ((i : Int) < (n : Int)) = false := decide_eq_false (by omega)
      obtain rfl : i = n := by omega
      have hcv := own_string (P := Tryd.prog) Tryd.underlying36 Tryd.underlying5 Tryd.underlying9 (Kd.own_of_R HR.out)
      go_wp2
      go_ret
      exact ⟨rfl, HB.out⟩

theorem spec_l01Join.calls (a0 : Int) (a1 : ByteArray) (a2 : ByteArray) (r : ByteArray) (w : World) (h : spec_l01Join.f a0 a1 a2 = some r) :
    Calls Tryd.prog 51 #[.int .i64 a0, .string a1, .string a2] w fun e w' => e = .returned (.string r) ∧ Below w.heap.size w w' := by
  unfold spec_l01Join.f at h
  split at h
  · rename_i hok
    obtain rfl := Option.some.inj h
    exact specJoin_walk a0 a1 a2 a1.size rfl hok.1.symm hok.2.1 (by omega) w
  · cases h
end Go.Proofs.YtkhkmdddflaolaaDoor.P
