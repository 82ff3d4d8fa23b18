/- The wave whose levels a function value tells: the program's waveOf, for every function value that keeps what it needs from tick to tick. The ticks are at most a million. -/
import Derived.Test.YtkhkmdddflaolaaDoorP0
import Derived.Test.YtkhkmdddflaolaaDoorWMore
import Derived.OpenShut
import Derived.Laws.BitsAllLaws
import Derived.Shelf.Abstract
namespace Go.Proofs.YtkhkmdddflaolaaDoor.P
open Go.RowKit Go.Proofs.YtkhkmdddflaolaaDoorW.PrintWords Go.Proofs.YtkhkmdddflaolaaDoorW.PrintLast Go.Proofs.YtkhkmdddflaolaaDoorW.PrintMore
set_option linter.unusedVariables false
set_option linter.unusedSimpArgs false

/-- The levels of n ticks, in bytes. -/
def levels (bit : Nat → Bool) : Nat → List Int
  | 0 => []
  | n + 1 => levels bit n ++ [if bit n = true then 49 else 48]
theorem levels_length (bit : Nat → Bool) (n : Nat) : (levels bit n).length = n := by
  induction n with
  | zero => rfl
  | succ n ih => simp [levels, ih]
def waveStr (bit : Nat → Bool) (n : Nat) : ByteArray := strOfNums (levels bit n)

theorem info_u8 : (Tryd.prog.info? 5).map (fun i => (i.zero, i.size, i.bytes)) = some (some (.int .u8 0), 1, 1) := by kernel_rfl
set_option maxHeartbeats 8000000 in
set_option maxRecDepth 100000 in
theorem waveOf_any (g : Nat) (lb : Array Value) (eg : ∀ args w, (callFunc g args).run Tryd.prog w = .ok (.enter g args) w) (n : Nat) (hn : n ≤ 1000000) (bit : Nat → Bool) (I : Nat → World → Prop) (gB : Nat) (w : World) (hgB : gB < w.heap.size)
    (hI0 : I 0 w) (hstab : ∀ i W W', I i W → w.heap.size ≤ W.heap.size → Below w.heap.size W W' → I i W')
    (hstep : ∀ (i : Nat) (W : World), i < n → I i W → w.heap.size ≤ W.heap.size → Calls Tryd.prog g (#[.int .i64 (i : Int)] ++ lb) W fun e W' => e = .returned (.bool (bit i)) ∧ I (i + 1) W' ∧ KeepBut W W' gB none) :
    Calls Tryd.prog 47 #[.int .i64 (n : Int), .func (.func g) #[] lb] w fun e w' => e = .returned (.string (waveStr bit n)) ∧ I n w' := by
  have HI := Aside0.mk hI0
  have HST := Aside0.mk hstab
  have HSP := Aside0.mk hstep
  have HGB := Aside0.mk hgB
  clear hI0 hstab hstep hgB
  go_enter Tryd.func47, Tryd.ntmps47
  go_wp2_with (first | ((with_reducible refine gate_dst (N := 7) rfl ?_); refine Kd.R_lit (Kd.int .u8) w.heap.size 5 ?hg (N := 7) ?hd (xs := ([] : List Int)) (inner := []) (ok := fun k_ => w.heap.size ≤ k_) (okp := fun _ => False) ?hr ?hp (fun _ hk => hk.elim) (Nat.le_refl _) (Below.refl _ _) (Nat.le_refl _) (by simp) ?_; (case hd => rfl); (case hg => rfl); (case hr => first | (go_simp; done) | (go_simp; rfl)); (case hp => exact (Reps.none _ _)); intro v119 w5 ho6 hb hg_ hnew_; have HS := Aside0.mk hb.size; have HI5 := Aside0.mk (HST.out 0 w w5 HI.out (Nat.le_refl _) hb); have HO := Aside0.mk ho6; clear hg_ hnew_ hb ho6))
  go_loopg [5, 9] n (fun gk v5 v9 w' => ∃ i : Nat, v9 = .int .i64 (i : Int) ∧ i + gk = n ∧ Aside0 (I i w') ∧ Aside0 (Kd.R (Kd.int .u8) 5 w' w.heap.size (fun k_ => w.heap.size ≤ k_) v5 (levels bit i)) ∧ Aside0 (w.heap.size ≤ w'.heap.size))
  case atStart => exact ⟨0, rfl, by omega, HI5, HO, HS⟩
  case round =>
    clear HI HI5 HO HS
    obtain ⟨i, rfl, hi, HI, HO, HS⟩ := hrel
    by_cases hlt : i < n
    · obtain ⟨k1, rfl⟩ : ∃ m, gk = m + 1 := ⟨gk - 1, by omega⟩
      have hll := levels_length bit i
      have HL := Aside0.mk hll
      clear hll
      have hlti : decide ((i : Int) < (n : Int)) = true := decide_eq_true (by omega)
      cases hb : bit i with
      | true =>
        have HB := Aside0.mk hb
        clear hb
        have cS := HSP.out i wr hlt HI.out HS.out
        rw [HB.out] at cS
        go_wp2_with (first | (go_at_fn g; refine cS.mono ?_; rintro e W' ⟨rfl, hI', hK⟩; have HI' := Aside0.mk hI'; have HS' := Aside0.mk (Nat.le_trans HS.out hK.1); have HO' := Aside0.mk (Kd.R_keep HO.out hK (fun k_ hk => by have := HGB.out; omega)); clear hI' hK) | ((with_reducible refine gate_builtin (b := .append) (xs := #[.tmp 15, .tmp 16]) rfl ?_); at_builtin; refine Kd.R_append (Kd.int .u8) (w0 := W') w.heap.size rfl (.tmp 15) (.tmp 16) 36 5 (.int .u8 0) 1 rfl Tryd.underlying36 info_u8 rfl (by decide) (by omega) u5 (levels bit i) 49 [.int .u8 49] (fun k_ => w.heap.size ≤ k_) (fun _ => False) rfl rfl ?aP (fun _ hk => hk.elim) ?aF ?aO ?aB ?aS ?aL ?_; (case aP => exact rfl); (case aB => exact (Below.refl _ _)); (case aF => exact (fun _ h => Nat.le_trans HS'.out h)); (case aO => exact HO'.out); (case aS => exact HS'.out); (case aL => have := HL.out; omega); intro v122 w10 ho hb hg hat; have HO2 := Aside0.mk ho; have HI2 := Aside0.mk (HST.out _ _ _ HI'.out HS'.out hb); have HS2 := Aside0.mk (Nat.le_trans HS'.out hb.size); clear ho hb hg hat))
        go_roundg k1
        case measure => omega
        case rel => exact ⟨i + 1, by go_num, by omega, HI2, ⟨by rw [levels, HB.out, if_pos rfl]; exact HO2.out⟩, HS2⟩
      | false =>
        have HB := Aside0.mk hb
        clear hb
        have cS := HSP.out i wr hlt HI.out HS.out
        rw [HB.out] at cS
        go_wp2_with (first | (go_at_fn g; refine cS.mono ?_; rintro e W' ⟨rfl, hI', hK⟩; have HI' := Aside0.mk hI'; have HS' := Aside0.mk (Nat.le_trans HS.out hK.1); have HO' := Aside0.mk (Kd.R_keep HO.out hK (fun k_ hk => by have := HGB.out; omega)); clear hI' hK) | ((with_reducible refine gate_builtin (b := .append) (xs := #[.tmp 18, .tmp 19]) rfl ?_); at_builtin; refine Kd.R_append (Kd.int .u8) (w0 := W') w.heap.size rfl (.tmp 18) (.tmp 19) 36 5 (.int .u8 0) 1 rfl Tryd.underlying36 info_u8 rfl (by decide) (by omega) u5 (levels bit i) 48 [.int .u8 48] (fun k_ => w.heap.size ≤ k_) (fun _ => False) rfl rfl ?aP (fun _ hk => hk.elim) ?aF ?aO ?aB ?aS ?aL ?_; (case aP => exact rfl); (case aB => exact (Below.refl _ _)); (case aF => exact (fun _ h => Nat.le_trans HS'.out h)); (case aO => exact HO'.out); (case aS => exact HS'.out); (case aL => have := HL.out; omega); intro v122 w10 ho hb hg hat; have HO2 := Aside0.mk ho; have HI2 := Aside0.mk (HST.out _ _ _ HI'.out HS'.out hb); have HS2 := Aside0.mk (Nat.le_trans HS'.out hb.size); clear ho hb hg hat))
        go_roundg k1
        case measure => omega
        case rel => exact ⟨i + 1, by go_num, by omega, HI2, ⟨by rw [levels, HB.out]; exact HO2.out⟩, HS2⟩
    · have hge : decide ((i : Int) < (n : Int)) = false := decide_eq_false (by omega)
      obtain rfl : i = n := by omega
      have hcv := own_string (P := Tryd.prog) Tryd.underlying36 Tryd.underlying5 Tryd.underlying9 (Kd.own_of_R HO.out)
      go_wp2
      go_ret
      exact ⟨rfl, HI.out⟩
end Go.Proofs.YtkhkmdddflaolaaDoor.P
