-- Written by this session's own program wip/drive.py (it drives print.py of the kit; contracts of its own beside).
import Derived.Test.YtomepieklgplgaaP0
import Derived.Test.YtomepieklgplgaaP12
import Derived.Test.YtomepieklgplgaaP14
import Derived.Test.YtomepieklgplgaaP15
import Derived.Test.YtomepieklgplgaaP16
import Derived.Test.YtomepieklgplgaaP17
import Derived.Test.YtomepieklgplgaaExtOutput
import Derived.Test.YtomepieklgplgaaExtValid
namespace Go.Proofs.Ytomepieklgplgaa.P
open Go.RowKit Go.Proofs.YtomepieklgplgaaW.PrintWords Go.Proofs.YtomepieklgplgaaW.PrintLast Go.Proofs.YtomepieklgplgaaW.PrintMore
attribute [local go_sem] max2_int min2_int max_two min_two max_three min_three max_four min_four   -- for this text's walks alone
set_option linter.unusedVariables false
set_option linter.unusedSimpArgs false

/-! ### laws_FnMended: function 13 -/
mutual
def laws_FnMended.j0 : Nat → List Int → Int → List (List Int) → Bool → Int → List Int → Option (Bool)
  | 0, _, _, _, _, _, _ => none
  | k + 1, x1, x6, x7, x40, x638000, x638001 => if x40 = true then (some false) else ((laws_r8At.f x1 0 (x7.length : Int)).bind fun t642 => (if 0 ≤ t642 then (if t642 < (x7.length : Int) then ((laws_r8At.f x1 1 ((rd_L1 x7 t642).length : Int)).bind fun t644 => (if 0 ≤ t644 then (if t644 < ((rd_L1 x7 t642).length : Int) then ((impl_MendCounter.f k x638000 x638001 (rd (rd_L1 x7 t642) t644)).bind fun bt646 => (if bt646.2.2 = true then ((impl_ValidCounter.f bt646.1 bt646.2.1).bind fun t652 => (if t652 = true then (if bt646.1 = x638000 then ((impl_IsSelfStarting.f k bt646.1 bt646.2.1 (rd (rd_L1 x7 t642) t644)).bind fun t653 => (laws_FnMended.j1 k x1 x6 x7 (!t653) x638000 x638001 bt646.1 bt646.2.1)) else (laws_FnMended.j1 k x1 x6 x7 true x638000 x638001 bt646.1 bt646.2.1)) else (laws_FnMended.j1 k x1 x6 x7 true x638000 x638001 bt646.1 bt646.2.1))) else (laws_FnMended.j1 k x1 x6 x7 true x638000 x638001 bt646.1 bt646.2.1))) else (none)) else (none))) else (none)) else (none)))
def laws_FnMended.j1 : Nat → List Int → Int → List (List Int) → Bool → Int → List Int → Int → List Int → Option (Bool)
  | 0, _, _, _, _, _, _, _, _ => none
  | k + 1, x1, x6, x7, x80, x638000, x638001, x652000, x652001 => if x80 = true then (some false) else (laws_FnMended.l0 k x1 x6 x7 0 0 x638000 x638001 x652000 x652001)
def laws_FnMended.l0 : Nat → List Int → Int → List (List Int) → Int → Int → Int → List Int → Int → List Int → Option (Bool)
  | 0, _, _, _, _, _, _, _, _, _ => none
  | k + 1, x1, x6, x7, x13, x14, x638000, x638001, x652000, x652001 => if x14 < x6 then (if 0 ≤ x14 then (if x14 < (x652001.length : Int) then (if x14 < (x638001.length : Int) then (if (rd x652001 x14) = (rd x638001 x14) then (laws_FnMended.l0 k x1 x6 x7 x13 (wrap64 (x14 + 1)) x638000 x638001 x652000 x652001) else (laws_FnMended.l0 k x1 x6 x7 (wrap64 (x13 + 1)) (wrap64 (x14 + 1)) x638000 x638001 x652000 x652001)) else (none)) else (none)) else (none)) else ((laws_r8At.f x1 2 x638000).bind fun t656 => ((laws_r8At.f x1 3 x6).bind fun t657 => ((impl_OutputOf.f x638000 x638001 t657 t656 30).bind fun bt658 => (if bt658.2 = true then (if (bt658.1.size : Int) = 30 then (laws_FnMended.j3 k t656 t657 bt658.1 (x13 != (wrap64 ((x7.length : Int) - 1))) x638000 x638001) else (laws_FnMended.j3 k t656 t657 bt658.1 true x638000 x638001)) else (laws_FnMended.j3 k t656 t657 bt658.1 true x638000 x638001)))))
def laws_FnMended.j3 : Nat → Int → Int → ByteArray → Bool → Int → List Int → Option (Bool)
  | 0, _, _, _, _, _, _ => none
  | k + 1, x15, x16, x17, x126, x638000, x638001 => if x126 = true then (some false) else (laws_FnMended.l1 k x15 x17 x16 0 x638000 x638001)
def laws_FnMended.l1 : Nat → Int → ByteArray → Int → Int → Int → List Int → Option (Bool)
  | 0, _, _, _, _, _, _ => none
  | k + 1, x15, x17, x19, x20, x638000, x638001 => if x20 < 30 then (if 0 ≤ x20 then (if x20 < (x17.size : Int) then (if 0 ≤ (IntKind.u64.wrap (x15)) then (if (wrap64 ((wrap64 (bt x17 x20)) - 48)) = (Go.bits .and .i64 (shr .i64 x19 (IntKind.u64.wrap (x15))) 1) then (if 0 ≤ x19 then (if x19 < (x638001.length : Int) then (laws_FnMended.l1 k x15 x17 (rd x638001 x19) (wrap64 (x20 + 1)) x638000 x638001) else (none)) else (none)) else (some false)) else (none)) else (none)) else (none)) else (some true)
end
def laws_FnMended.f (k : Nat) (l0 : List Int) (l1 : List Int) : Option (Bool) := (laws_r8Long.f l0 l1).bind fun t632 => (if t632 = true then (some true) else ((spec_R8Counter.f k l0).bind fun bt633 => ((impl_RingsOf.f k bt633.1 bt633.2).bind fun bt638 => (if bt638.2 = true then (laws_FnMended.j0 k l1 (bt633.2.length : Int) bt638.1 ((bt638.1.length : Int) == 0) bt633.1 bt633.2) else (laws_FnMended.j0 k l1 (bt633.2.length : Int) bt638.1 true bt633.1 bt633.2)))))
theorem laws_FnMended.mono_l : ∀ k, (∀ y0 y1 y2 y3 y4 y5, LeO (laws_FnMended.j0 k y0 y1 y2 y3 y4 y5) (laws_FnMended.j0 (k + 1) y0 y1 y2 y3 y4 y5)) ∧ (∀ y0 y1 y2 y3 y4 y5 y6 y7, LeO (laws_FnMended.j1 k y0 y1 y2 y3 y4 y5 y6 y7) (laws_FnMended.j1 (k + 1) y0 y1 y2 y3 y4 y5 y6 y7)) ∧ (∀ y0 y1 y2 y3 y4 y5 y6 y7 y8, LeO (laws_FnMended.l0 k y0 y1 y2 y3 y4 y5 y6 y7 y8) (laws_FnMended.l0 (k + 1) y0 y1 y2 y3 y4 y5 y6 y7 y8)) ∧ (∀ y0 y1 y2 y3 y4 y5, LeO (laws_FnMended.j3 k y0 y1 y2 y3 y4 y5) (laws_FnMended.j3 (k + 1) y0 y1 y2 y3 y4 y5)) ∧ (∀ y0 y1 y2 y3 y4 y5, LeO (laws_FnMended.l1 k y0 y1 y2 y3 y4 y5) (laws_FnMended.l1 (k + 1) y0 y1 y2 y3 y4 y5))
  | 0 => ⟨fun _ _ _ _ _ _ r h => by simp [laws_FnMended.j0] at h, fun _ _ _ _ _ _ _ _ r h => by simp [laws_FnMended.j1] at h, fun _ _ _ _ _ _ _ _ _ r h => by simp [laws_FnMended.l0] at h, fun _ _ _ _ _ _ r h => by simp [laws_FnMended.j3] at h, fun _ _ _ _ _ _ r h => by simp [laws_FnMended.l1] at h⟩
  | k + 1 => by
    obtain ⟨ih0, ih1, ih2, ih3, ih4⟩ := laws_FnMended.mono_l k
    refine ⟨?_, ?_, ?_, ?_, ?_⟩
    · intro y0 y1 y2 y3 y4 y5
      unfold laws_FnMended.j0
      repeat' first
      | (with_reducible exact ih0 _ _ _ _ _ _)
      | (with_reducible exact ih1 _ _ _ _ _ _ _ _)
      | (with_reducible exact ih2 _ _ _ _ _ _ _ _ _)
      | (with_reducible exact ih3 _ _ _ _ _ _)
      | (with_reducible exact ih4 _ _ _ _ _ _)
      | (with_reducible exact impl_IsSelfStarting.mono _ _ _ _)
      | (with_reducible exact impl_MendCounter.mono _ _ _ _)
      | (with_reducible exact impl_RingsOf.mono _ _ _)
      | (with_reducible exact spec_R8Counter.mono _ _)
      | (with_reducible exact LeO.refl _)
      | (with_reducible exact LeO.none _)
      | (with_reducible refine LeO.ite ?_ ?_)
      | (with_reducible refine LeO.bind ?_ (fun _ => ?_))
      | exact ih0 _ _ _ _ _ _
      | exact ih1 _ _ _ _ _ _ _ _
      | exact ih2 _ _ _ _ _ _ _ _ _
      | exact ih3 _ _ _ _ _ _
      | exact ih4 _ _ _ _ _ _
      | exact impl_IsSelfStarting.mono _ _ _ _
      | exact impl_MendCounter.mono _ _ _ _
      | exact impl_RingsOf.mono _ _ _
      | exact spec_R8Counter.mono _ _
      | exact LeO.none _
      | refine LeO.ite ?_ ?_
      | refine LeO.bind ?_ (fun _ => ?_)
    · intro y0 y1 y2 y3 y4 y5 y6 y7
      unfold laws_FnMended.j1
      repeat' first
      | (with_reducible exact ih0 _ _ _ _ _ _)
      | (with_reducible exact ih1 _ _ _ _ _ _ _ _)
      | (with_reducible exact ih2 _ _ _ _ _ _ _ _ _)
      | (with_reducible exact ih3 _ _ _ _ _ _)
      | (with_reducible exact ih4 _ _ _ _ _ _)
      | (with_reducible exact impl_IsSelfStarting.mono _ _ _ _)
      | (with_reducible exact impl_MendCounter.mono _ _ _ _)
      | (with_reducible exact impl_RingsOf.mono _ _ _)
      | (with_reducible exact spec_R8Counter.mono _ _)
      | (with_reducible exact LeO.refl _)
      | (with_reducible exact LeO.none _)
      | (with_reducible refine LeO.ite ?_ ?_)
      | (with_reducible refine LeO.bind ?_ (fun _ => ?_))
      | exact ih0 _ _ _ _ _ _
      | exact ih1 _ _ _ _ _ _ _ _
      | exact ih2 _ _ _ _ _ _ _ _ _
      | exact ih3 _ _ _ _ _ _
      | exact ih4 _ _ _ _ _ _
      | exact impl_IsSelfStarting.mono _ _ _ _
      | exact impl_MendCounter.mono _ _ _ _
      | exact impl_RingsOf.mono _ _ _
      | exact spec_R8Counter.mono _ _
      | exact LeO.none _
      | refine LeO.ite ?_ ?_
      | refine LeO.bind ?_ (fun _ => ?_)
    · intro y0 y1 y2 y3 y4 y5 y6 y7 y8
      unfold laws_FnMended.l0
      repeat' first
      | (with_reducible exact ih0 _ _ _ _ _ _)
      | (with_reducible exact ih1 _ _ _ _ _ _ _ _)
      | (with_reducible exact ih2 _ _ _ _ _ _ _ _ _)
      | (with_reducible exact ih3 _ _ _ _ _ _)
      | (with_reducible exact ih4 _ _ _ _ _ _)
      | (with_reducible exact impl_IsSelfStarting.mono _ _ _ _)
      | (with_reducible exact impl_MendCounter.mono _ _ _ _)
      | (with_reducible exact impl_RingsOf.mono _ _ _)
      | (with_reducible exact spec_R8Counter.mono _ _)
      | (with_reducible exact LeO.refl _)
      | (with_reducible exact LeO.none _)
      | (with_reducible refine LeO.ite ?_ ?_)
      | (with_reducible refine LeO.bind ?_ (fun _ => ?_))
      | exact ih0 _ _ _ _ _ _
      | exact ih1 _ _ _ _ _ _ _ _
      | exact ih2 _ _ _ _ _ _ _ _ _
      | exact ih3 _ _ _ _ _ _
      | exact ih4 _ _ _ _ _ _
      | exact impl_IsSelfStarting.mono _ _ _ _
      | exact impl_MendCounter.mono _ _ _ _
      | exact impl_RingsOf.mono _ _ _
      | exact spec_R8Counter.mono _ _
      | exact LeO.none _
      | refine LeO.ite ?_ ?_
      | refine LeO.bind ?_ (fun _ => ?_)
    · intro y0 y1 y2 y3 y4 y5
      unfold laws_FnMended.j3
      repeat' first
      | (with_reducible exact ih0 _ _ _ _ _ _)
      | (with_reducible exact ih1 _ _ _ _ _ _ _ _)
      | (with_reducible exact ih2 _ _ _ _ _ _ _ _ _)
      | (with_reducible exact ih3 _ _ _ _ _ _)
      | (with_reducible exact ih4 _ _ _ _ _ _)
      | (with_reducible exact impl_IsSelfStarting.mono _ _ _ _)
      | (with_reducible exact impl_MendCounter.mono _ _ _ _)
      | (with_reducible exact impl_RingsOf.mono _ _ _)
      | (with_reducible exact spec_R8Counter.mono _ _)
      | (with_reducible exact LeO.refl _)
      | (with_reducible exact LeO.none _)
      | (with_reducible refine LeO.ite ?_ ?_)
      | (with_reducible refine LeO.bind ?_ (fun _ => ?_))
      | exact ih0 _ _ _ _ _ _
      | exact ih1 _ _ _ _ _ _ _ _
      | exact ih2 _ _ _ _ _ _ _ _ _
      | exact ih3 _ _ _ _ _ _
      | exact ih4 _ _ _ _ _ _
      | exact impl_IsSelfStarting.mono _ _ _ _
      | exact impl_MendCounter.mono _ _ _ _
      | exact impl_RingsOf.mono _ _ _
      | exact spec_R8Counter.mono _ _
      | exact LeO.none _
      | refine LeO.ite ?_ ?_
      | refine LeO.bind ?_ (fun _ => ?_)
    · intro y0 y1 y2 y3 y4 y5
      unfold laws_FnMended.l1
      repeat' first
      | (with_reducible exact ih0 _ _ _ _ _ _)
      | (with_reducible exact ih1 _ _ _ _ _ _ _ _)
      | (with_reducible exact ih2 _ _ _ _ _ _ _ _ _)
      | (with_reducible exact ih3 _ _ _ _ _ _)
      | (with_reducible exact ih4 _ _ _ _ _ _)
      | (with_reducible exact impl_IsSelfStarting.mono _ _ _ _)
      | (with_reducible exact impl_MendCounter.mono _ _ _ _)
      | (with_reducible exact impl_RingsOf.mono _ _ _)
      | (with_reducible exact spec_R8Counter.mono _ _)
      | (with_reducible exact LeO.refl _)
      | (with_reducible exact LeO.none _)
      | (with_reducible refine LeO.ite ?_ ?_)
      | (with_reducible refine LeO.bind ?_ (fun _ => ?_))
      | exact ih0 _ _ _ _ _ _
      | exact ih1 _ _ _ _ _ _ _ _
      | exact ih2 _ _ _ _ _ _ _ _ _
      | exact ih3 _ _ _ _ _ _
      | exact ih4 _ _ _ _ _ _
      | exact impl_IsSelfStarting.mono _ _ _ _
      | exact impl_MendCounter.mono _ _ _ _
      | exact impl_RingsOf.mono _ _ _
      | exact spec_R8Counter.mono _ _
      | exact LeO.none _
      | refine LeO.ite ?_ ?_
      | refine LeO.bind ?_ (fun _ => ?_)
theorem laws_FnMended.mono : ∀ a0 a1 k, LeO (laws_FnMended.f k a0 a1) (laws_FnMended.f (k + 1) a0 a1) := by
  intro a0 a1 k
  obtain ⟨ih0, ih1, ih2, ih3, ih4⟩ := laws_FnMended.mono_l k
  unfold laws_FnMended.f
  repeat' first
      | (with_reducible exact ih0 _ _ _ _ _ _)
      | (with_reducible exact ih1 _ _ _ _ _ _ _ _)
      | (with_reducible exact ih2 _ _ _ _ _ _ _ _ _)
      | (with_reducible exact ih3 _ _ _ _ _ _)
      | (with_reducible exact ih4 _ _ _ _ _ _)
      | (with_reducible exact impl_IsSelfStarting.mono _ _ _ _)
      | (with_reducible exact impl_MendCounter.mono _ _ _ _)
      | (with_reducible exact impl_RingsOf.mono _ _ _)
      | (with_reducible exact spec_R8Counter.mono _ _)
      | (with_reducible exact LeO.refl _)
      | (with_reducible exact LeO.none _)
      | (with_reducible refine LeO.ite ?_ ?_)
      | (with_reducible refine LeO.bind ?_ (fun _ => ?_))
      | exact ih0 _ _ _ _ _ _
      | exact ih1 _ _ _ _ _ _ _ _
      | exact ih2 _ _ _ _ _ _ _ _ _
      | exact ih3 _ _ _ _ _ _
      | exact ih4 _ _ _ _ _ _
      | exact impl_IsSelfStarting.mono _ _ _ _
      | exact impl_MendCounter.mono _ _ _ _
      | exact impl_RingsOf.mono _ _ _
      | exact spec_R8Counter.mono _ _
      | exact LeO.none _
      | refine LeO.ite ?_ ?_
      | refine LeO.bind ?_ (fun _ => ?_)
set_option maxHeartbeats 8000000 in
set_option maxRecDepth 100000 in
theorem laws_FnMended.calls (k : Nat) (A0 : Option Addr) (c0 : Nat) (l0 : List Int) (A1 : Option Addr) (c1 : Nat) (l1 : List Int) (r : Bool) (w : World) (hr0 : Kd.C (Kd.int .u8) w A0 l0.length l0) (hc0 : l0.length ≤ c0) (hr1 : Kd.C (Kd.int .u8) w A1 l1.length l1) (hc1 : l1.length ≤ c1) (h : laws_FnMended.f k l0 l1 = some r) :
    Calls Try.prog 13 #[.slice A0 l0.length c0, .slice A1 l1.length c1] w fun e w' => e = .returned (.bool r) ∧ Below w.heap.size w w' := by
  have hu26 := Try.underlying26
  have HR0 := Aside0.mk hr0
  have HC0 := Aside0.mk hc0
  clear hr0 hc0
  have HR1 := Aside0.mk hr1
  have HC1 := Aside0.mk hc1
  clear hr1 hc1
  have HB := Aside0.mk (Below.refl w.heap.size w)
  have H : ((laws_r8Long.f l0 l1).bind fun t632 => (if t632 = true then (some true) else ((spec_R8Counter.f k l0).bind fun bt633 => ((impl_RingsOf.f k bt633.1 bt633.2).bind fun bt638 => (if bt638.2 = true then (laws_FnMended.j0 k l1 (bt633.2.length : Int) bt638.1 ((bt638.1.length : Int) == 0) bt633.1 bt633.2) else (laws_FnMended.j0 k l1 (bt633.2.length : Int) bt638.1 true bt633.1 bt633.2)))))) = some r := h
  clear h
  replace H := Option.bind_eq_some_iff.mp H
  obtain ⟨t632, A30, H⟩ := H
  replace H : (if t632 = true then (some true) else ((spec_R8Counter.f k l0).bind fun bt633 => ((impl_RingsOf.f k bt633.1 bt633.2).bind fun bt638 => (if bt638.2 = true then (laws_FnMended.j0 k l1 (bt633.2.length : Int) bt638.1 ((bt638.1.length : Int) == 0) bt633.1 bt633.2) else (laws_FnMended.j0 k l1 (bt633.2.length : Int) bt638.1 true bt633.1 bt633.2))))) = some r := H
  have A3 := Aside0.mk A30
  clear A30
  by_cases c4 : t632 = true
  · subst c4
    have H1 : (some true) = some r := by rw [if_pos rfl] at H; exact H
    clear H
    have H := H1
    clear H1
    obtain rfl := Option.some.inj H
    go_enter Try.func13, Try.ntmps13
    go_wp2_with (first | (go_at_call 15; (with_reducible refine (laws_r8Long.calls _ _ l0 _ _ l1 true _ ?side1 ?side2 ?side3 ?side4 A3.out).mono ?_); (case side1 => repeat (first | exact HR0.out | (with_reducible refine Kd.C_alloc ?_ _) | (with_reducible refine Kd.C_drewN ?_ _) | (with_reducible refine Kd.C_drew ?_))); (case side2 => exact HC0.out); (case side3 => repeat (first | exact HR1.out | (with_reducible refine Kd.C_alloc ?_ _) | (with_reducible refine Kd.C_drewN ?_ _) | (with_reducible refine Kd.C_drew ?_))); (case side4 => exact HC1.out); rintro e w' ⟨rfl, ⟨nd, rfl⟩⟩; (try first | exact ⟨rfl, _, World.drewN_drewN _ _ _⟩ | exact ⟨rfl, _, Eq.trans (World.drewN_drewN _ _ _) (congrArg (World.drewN _) (Nat.add_assoc _ _ _))⟩)))
    repeat (go_quiet (first | (go_at_call 15; (with_reducible refine (laws_r8Long.calls _ _ l0 _ _ l1 true _ ?side1 ?side2 ?side3 ?side4 A3.out).mono ?_); (case side1 => repeat (first | exact HR0.out | (with_reducible refine Kd.C_alloc ?_ _) | (with_reducible refine Kd.C_drewN ?_ _) | (with_reducible refine Kd.C_drew ?_))); (case side2 => exact HC0.out); (case side3 => repeat (first | exact HR1.out | (with_reducible refine Kd.C_alloc ?_ _) | (with_reducible refine Kd.C_drewN ?_ _) | (with_reducible refine Kd.C_drew ?_))); (case side4 => exact HC1.out); rintro e w' ⟨rfl, ⟨nd, rfl⟩⟩; (try first | exact ⟨rfl, _, World.drewN_drewN _ _ _⟩ | exact ⟨rfl, _, Eq.trans (World.drewN_drewN _ _ _) (congrArg (World.drewN _) (Nat.add_assoc _ _ _))⟩))); try go_wp2_with (first | (go_at_call 15; (with_reducible refine (laws_r8Long.calls _ _ l0 _ _ l1 true _ ?side1 ?side2 ?side3 ?side4 A3.out).mono ?_); (case side1 => repeat (first | exact HR0.out | (with_reducible refine Kd.C_alloc ?_ _) | (with_reducible refine Kd.C_drewN ?_ _) | (with_reducible refine Kd.C_drew ?_))); (case side2 => exact HC0.out); (case side3 => repeat (first | exact HR1.out | (with_reducible refine Kd.C_alloc ?_ _) | (with_reducible refine Kd.C_drewN ?_ _) | (with_reducible refine Kd.C_drew ?_))); (case side4 => exact HC1.out); rintro e w' ⟨rfl, ⟨nd, rfl⟩⟩; (try first | exact ⟨rfl, _, World.drewN_drewN _ _ _⟩ | exact ⟨rfl, _, Eq.trans (World.drewN_drewN _ _ _) (congrArg (World.drewN _) (Nat.add_assoc _ _ _))⟩))))
    go_ret
    exact ⟨by first | rfl | (simp [errW_none, errW_some] <;> rfl) | (simp [*, errW_none, errW_some] <;> rfl), by repeat (first | (with_reducible first | exact HB.out | apply below_alloc | apply pw_below_drewN | apply below_drew1) | exact HB.out)⟩
  · replace c4 := Bool.eq_false_iff.mpr c4
    subst c4
    have H1 : ((spec_R8Counter.f k l0).bind fun bt633 => ((impl_RingsOf.f k bt633.1 bt633.2).bind fun bt638 => (if bt638.2 = true then (laws_FnMended.j0 k l1 (bt633.2.length : Int) bt638.1 ((bt638.1.length : Int) == 0) bt633.1 bt633.2) else (laws_FnMended.j0 k l1 (bt633.2.length : Int) bt638.1 true bt633.1 bt633.2)))) = some r := by rw [if_neg (show ¬ (false = true) by decide)] at H; exact H
    clear H
    have H := H1
    clear H1
    replace H := Option.bind_eq_some_iff.mp H
    obtain ⟨⟨t633, t634⟩, A50, H⟩ := H
    replace H : ((impl_RingsOf.f k t633 t634).bind fun bt638 => (if bt638.2 = true then (laws_FnMended.j0 k l1 (t634.length : Int) bt638.1 ((bt638.1.length : Int) == 0) t633 t634) else (laws_FnMended.j0 k l1 (t634.length : Int) bt638.1 true t633 t634))) = some r := H
    have A5 := Aside0.mk A50
    clear A50
    replace H := Option.bind_eq_some_iff.mp H
    obtain ⟨⟨t638, t641⟩, A60, H⟩ := H
    replace H : (if t641 = true then (laws_FnMended.j0 k l1 (t634.length : Int) t638 ((t638.length : Int) == 0) t633 t634) else (laws_FnMended.j0 k l1 (t634.length : Int) t638 true t633 t634)) = some r := H
    have A6 := Aside0.mk A60
    clear A60
    have HC7 := Aside0.mk H
    clear H
    go_enter Try.func13, Try.ntmps13
    go_upto_region 6 with (first | (go_at_call 15; (with_reducible refine (laws_r8Long.calls _ _ l0 _ _ l1 false _ ?side1 ?side2 ?side3 ?side4 A3.out).mono ?_); (case side1 => repeat (first | exact HR0.out | (with_reducible refine Kd.C_alloc ?_ _) | (with_reducible refine Kd.C_drewN ?_ _) | (with_reducible refine Kd.C_drew ?_))); (case side2 => exact HC0.out); (case side3 => repeat (first | exact HR1.out | (with_reducible refine Kd.C_alloc ?_ _) | (with_reducible refine Kd.C_drewN ?_ _) | (with_reducible refine Kd.C_drew ?_))); (case side4 => exact HC1.out); rintro e w' ⟨rfl, ⟨nd, rfl⟩⟩; (try first | exact ⟨rfl, _, World.drewN_drewN _ _ _⟩ | exact ⟨rfl, _, Eq.trans (World.drewN_drewN _ _ _) (congrArg (World.drewN _) (Nat.add_assoc _ _ _))⟩)) | (go_at_call 16; (with_reducible refine (spec_R8Counter.calls k _ _ l0 t633 t634 _ ?side1 ?side2 A5.out).mono ?_); (case side1 => repeat (first | exact HR0.out | (with_reducible refine Kd.C_alloc ?_ _) | (with_reducible refine Kd.C_drewN ?_ _) | (with_reducible refine Kd.C_drew ?_))); (case side2 => exact HC0.out); rintro e w8 ⟨v635, rfl, ho0, hb⟩; have n0_ := Aside0.mk (Kd.R_lower ho0 (below_size (by repeat (first | (with_reducible first | exact HB.out | apply below_alloc | apply pw_below_drewN | apply below_drew1) | exact HB.out)))); have n1_ := Aside0.mk (below_step (by repeat (first | (with_reducible first | exact HB.out | apply below_alloc | apply pw_below_drewN | apply below_drew1) | exact HB.out)) hb); clear HB; have HO636 := n0_; have HB := n1_; clear n0_ n1_; (try clear hb); (try clear hb2); (try clear hk); (try clear hi); (try clear ho0)) | ((with_reducible refine gate_dst (N := 5) rfl ?_); (try (refine gate_guard (by rfl) ?_; dsimp only)); refine box_event ?hg (N := 5) ?hd (cs := #[.int .i64 0, .slice none 0 0]) (t := 26) ?hr ?_; (case hd => rfl); (case hg => rfl); (case hr => first | (go_simp; done) | (go_simp; rfl)); intro gb637 hg w9 hbox hb; have n0_ := Aside0.mk (Kd.R_below (by (with_reducible repeat (first | apply Kd.R_alloc | apply Kd.R_drewN | apply Kd.R_drew)); exact HO636.out) hb); have n1_ := Aside0.mk (below_step (by repeat (first | (with_reducible first | exact HB.out | apply below_alloc | apply pw_below_drewN | apply below_drew1) | exact HB.out)) hb); have n2_ := Aside0.mk (hbox); have n3_ := Aside0.mk ((by rw [hg]; exact (below_size (by repeat (first | (with_reducible first | exact HB.out | apply below_alloc | apply pw_below_drewN | apply below_drew1) | exact HB.out))) : w.heap.size ≤ gb637)); have n4_ := Aside0.mk ((by rw [hg]; exact (below_size (by repeat (first | (with_reducible first | exact HB.out | apply below_alloc | apply pw_below_drewN | apply below_drew1) | exact HB.out))) : w.heap.size ≤ gb637)); clear HO636; clear HB; have HO636 := n0_; have HB := n1_; have BK637 := n2_; have GW637 := n3_; have GE637 := n4_; clear n0_ n1_ n2_ n3_ n4_; clear hb hbox hg; have hcz10_0 : w9.cell? ⟨gb637, 0, none⟩ = some (.int .i64 0) := (blk_cell BK637.out 0).trans rfl; have hcz10_1 : w9.cell? ⟨gb637, 1, none⟩ = some (.slice none 0 0) := (blk_cell BK637.out 1).trans rfl; have hfz10_0 := blk_frozen BK637.out 0; have hfz10_1 := blk_frozen BK637.out 1; obtain ⟨Ao11, co11, eo11⟩ := Kd.R_slice HO636.out; subst eo11) | (go_at_call 17; (with_reducible refine (impl_RingsOf.calls k t633 _ _ t634 t638 t641 _ ?side1 ?side2 A6.out).mono ?_); (case side1 => refine (Kd.R_reads' (e := 2) (base := w.heap.size) (ok := fun k_ => True) (n := t634.length) (c := co11) ?_).2.2; exact (by (with_reducible repeat (first | apply Kd.R_alloc | apply Kd.R_drewN | apply Kd.R_drew)); exact (Kd.R_mono (Kd.R_far (p := ⟨gb637, 1, none⟩) (Kd.R_far (p := ⟨gb637, 0, none⟩) (Kd.R_types HO636.out BK637.out (by decide)) (fun _ hk => hk.2) (.int .i64 t633)) (fun _ hk => hk.2) (.slice Ao11 t634.length co11)) (fun _ h_ => h_.1)))); (case side2 => exact (Kd.R_reads' HO636.out).2.1); rintro e w12 ⟨v639, rfl, ho0, hb⟩; have n0_ := Aside0.mk (Kd.R_below (by (with_reducible repeat (first | apply Kd.R_alloc | apply Kd.R_drewN | apply Kd.R_drew)); exact (Kd.R_mono (Kd.R_far (p := ⟨gb637, 1, none⟩) (Kd.R_far (p := ⟨gb637, 0, none⟩) (Kd.R_types HO636.out BK637.out (by decide)) (fun _ hk => hk.2) (.int .i64 t633)) (fun _ hk => hk.2) (.slice Ao11 t634.length co11)) (fun _ h_ => h_.1))) hb); have n1_ := Aside0.mk (Kd.S_lower (Kd.S_new' ho0 (Kd.R_lt (by (with_reducible repeat (first | apply Kd.R_alloc | apply Kd.R_drewN | apply Kd.R_drew)); exact (Kd.R_mono (Kd.R_far (p := ⟨gb637, 1, none⟩) (Kd.R_far (p := ⟨gb637, 0, none⟩) (Kd.R_types HO636.out BK637.out (by decide)) (fun _ hk => hk.2) (.int .i64 t633)) (fun _ hk => hk.2) (.slice Ao11 t634.length co11)) (fun _ h_ => h_.1))))) (below_size (by repeat (first | (with_reducible first | exact HB.out | apply below_alloc | apply pw_below_drewN | apply below_drew1 | refine below_set ?_ GE637.out) | exact HB.out)))); have n2_ := Aside0.mk (blk_below (g := gb637) (o := .cells #[.int .i64 t633, .slice Ao11 t634.length co11] 26 (0, 0)) (by (with_reducible repeat (first | refine blk_drewN ?_ _ | refine blk_drew ?_ | refine blk_alloc ?_ _)); refine blk_put (cs := #[.int .i64 t633, .slice none 0 0]) ?_ 1 _ rfl; (with_reducible repeat (first | refine blk_drewN ?_ _ | refine blk_drew ?_ | refine blk_alloc ?_ _)); refine blk_put (cs := #[.int .i64 0, .slice none 0 0]) ?_ 0 _ rfl; (with_reducible repeat (first | refine blk_drewN ?_ _ | refine blk_drew ?_ | refine blk_alloc ?_ _)); exact BK637.out) hb); have n3_ := Aside0.mk (below_step (by repeat (first | (with_reducible first | exact HB.out | apply below_alloc | apply pw_below_drewN | apply below_drew1 | refine below_set ?_ GE637.out) | exact HB.out)) hb); clear HO636; clear BK637; clear HB; have HO636 := n0_; have HO640 := n1_; have BK637 := n2_; have HB := n3_; clear n0_ n1_ n2_ n3_; (try clear hb); (try clear hb2); (try clear hk); (try clear hi); (try clear ho0)))
    repeat (go_quiet (first | (go_at_call 15; (with_reducible refine (laws_r8Long.calls _ _ l0 _ _ l1 false _ ?side1 ?side2 ?side3 ?side4 A3.out).mono ?_); (case side1 => repeat (first | exact HR0.out | (with_reducible refine Kd.C_alloc ?_ _) | (with_reducible refine Kd.C_drewN ?_ _) | (with_reducible refine Kd.C_drew ?_))); (case side2 => exact HC0.out); (case side3 => repeat (first | exact HR1.out | (with_reducible refine Kd.C_alloc ?_ _) | (with_reducible refine Kd.C_drewN ?_ _) | (with_reducible refine Kd.C_drew ?_))); (case side4 => exact HC1.out); rintro e w' ⟨rfl, ⟨nd, rfl⟩⟩; (try first | exact ⟨rfl, _, World.drewN_drewN _ _ _⟩ | exact ⟨rfl, _, Eq.trans (World.drewN_drewN _ _ _) (congrArg (World.drewN _) (Nat.add_assoc _ _ _))⟩)) | (go_at_call 16; (with_reducible refine (spec_R8Counter.calls k _ _ l0 t633 t634 _ ?side1 ?side2 A5.out).mono ?_); (case side1 => repeat (first | exact HR0.out | (with_reducible refine Kd.C_alloc ?_ _) | (with_reducible refine Kd.C_drewN ?_ _) | (with_reducible refine Kd.C_drew ?_))); (case side2 => exact HC0.out); rintro e w8 ⟨v635, rfl, ho0, hb⟩; have n0_ := Aside0.mk (Kd.R_lower ho0 (below_size (by repeat (first | (with_reducible first | exact HB.out | apply below_alloc | apply pw_below_drewN | apply below_drew1) | exact HB.out)))); have n1_ := Aside0.mk (below_step (by repeat (first | (with_reducible first | exact HB.out | apply below_alloc | apply pw_below_drewN | apply below_drew1) | exact HB.out)) hb); clear HB; have HO636 := n0_; have HB := n1_; clear n0_ n1_; (try clear hb); (try clear hb2); (try clear hk); (try clear hi); (try clear ho0)) | ((with_reducible refine gate_dst (N := 5) rfl ?_); (try (refine gate_guard (by rfl) ?_; dsimp only)); refine box_event ?hg (N := 5) ?hd (cs := #[.int .i64 0, .slice none 0 0]) (t := 26) ?hr ?_; (case hd => rfl); (case hg => rfl); (case hr => first | (go_simp; done) | (go_simp; rfl)); intro gb637 hg w9 hbox hb; have n0_ := Aside0.mk (Kd.R_below (by (with_reducible repeat (first | apply Kd.R_alloc | apply Kd.R_drewN | apply Kd.R_drew)); exact HO636.out) hb); have n1_ := Aside0.mk (below_step (by repeat (first | (with_reducible first | exact HB.out | apply below_alloc | apply pw_below_drewN | apply below_drew1) | exact HB.out)) hb); have n2_ := Aside0.mk (hbox); have n3_ := Aside0.mk ((by rw [hg]; exact (below_size (by repeat (first | (with_reducible first | exact HB.out | apply below_alloc | apply pw_below_drewN | apply below_drew1) | exact HB.out))) : w.heap.size ≤ gb637)); have n4_ := Aside0.mk ((by rw [hg]; exact (below_size (by repeat (first | (with_reducible first | exact HB.out | apply below_alloc | apply pw_below_drewN | apply below_drew1) | exact HB.out))) : w.heap.size ≤ gb637)); clear HO636; clear HB; have HO636 := n0_; have HB := n1_; have BK637 := n2_; have GW637 := n3_; have GE637 := n4_; clear n0_ n1_ n2_ n3_ n4_; clear hb hbox hg; have hcz10_0 : w9.cell? ⟨gb637, 0, none⟩ = some (.int .i64 0) := (blk_cell BK637.out 0).trans rfl; have hcz10_1 : w9.cell? ⟨gb637, 1, none⟩ = some (.slice none 0 0) := (blk_cell BK637.out 1).trans rfl; have hfz10_0 := blk_frozen BK637.out 0; have hfz10_1 := blk_frozen BK637.out 1; obtain ⟨Ao11, co11, eo11⟩ := Kd.R_slice HO636.out; subst eo11) | (go_at_call 17; (with_reducible refine (impl_RingsOf.calls k t633 _ _ t634 t638 t641 _ ?side1 ?side2 A6.out).mono ?_); (case side1 => refine (Kd.R_reads' (e := 2) (base := w.heap.size) (ok := fun k_ => True) (n := t634.length) (c := co11) ?_).2.2; exact (by (with_reducible repeat (first | apply Kd.R_alloc | apply Kd.R_drewN | apply Kd.R_drew)); exact (Kd.R_mono (Kd.R_far (p := ⟨gb637, 1, none⟩) (Kd.R_far (p := ⟨gb637, 0, none⟩) (Kd.R_types HO636.out BK637.out (by decide)) (fun _ hk => hk.2) (.int .i64 t633)) (fun _ hk => hk.2) (.slice Ao11 t634.length co11)) (fun _ h_ => h_.1)))); (case side2 => exact (Kd.R_reads' HO636.out).2.1); rintro e w12 ⟨v639, rfl, ho0, hb⟩; have n0_ := Aside0.mk (Kd.R_below (by (with_reducible repeat (first | apply Kd.R_alloc | apply Kd.R_drewN | apply Kd.R_drew)); exact (Kd.R_mono (Kd.R_far (p := ⟨gb637, 1, none⟩) (Kd.R_far (p := ⟨gb637, 0, none⟩) (Kd.R_types HO636.out BK637.out (by decide)) (fun _ hk => hk.2) (.int .i64 t633)) (fun _ hk => hk.2) (.slice Ao11 t634.length co11)) (fun _ h_ => h_.1))) hb); have n1_ := Aside0.mk (Kd.S_lower (Kd.S_new' ho0 (Kd.R_lt (by (with_reducible repeat (first | apply Kd.R_alloc | apply Kd.R_drewN | apply Kd.R_drew)); exact (Kd.R_mono (Kd.R_far (p := ⟨gb637, 1, none⟩) (Kd.R_far (p := ⟨gb637, 0, none⟩) (Kd.R_types HO636.out BK637.out (by decide)) (fun _ hk => hk.2) (.int .i64 t633)) (fun _ hk => hk.2) (.slice Ao11 t634.length co11)) (fun _ h_ => h_.1))))) (below_size (by repeat (first | (with_reducible first | exact HB.out | apply below_alloc | apply pw_below_drewN | apply below_drew1 | refine below_set ?_ GE637.out) | exact HB.out)))); have n2_ := Aside0.mk (blk_below (g := gb637) (o := .cells #[.int .i64 t633, .slice Ao11 t634.length co11] 26 (0, 0)) (by (with_reducible repeat (first | refine blk_drewN ?_ _ | refine blk_drew ?_ | refine blk_alloc ?_ _)); refine blk_put (cs := #[.int .i64 t633, .slice none 0 0]) ?_ 1 _ rfl; (with_reducible repeat (first | refine blk_drewN ?_ _ | refine blk_drew ?_ | refine blk_alloc ?_ _)); refine blk_put (cs := #[.int .i64 0, .slice none 0 0]) ?_ 0 _ rfl; (with_reducible repeat (first | refine blk_drewN ?_ _ | refine blk_drew ?_ | refine blk_alloc ?_ _)); exact BK637.out) hb); have n3_ := Aside0.mk (below_step (by repeat (first | (with_reducible first | exact HB.out | apply below_alloc | apply pw_below_drewN | apply below_drew1 | refine below_set ?_ GE637.out) | exact HB.out)) hb); clear HO636; clear BK637; clear HB; have HO636 := n0_; have HO640 := n1_; have BK637 := n2_; have HB := n3_; clear n0_ n1_ n2_ n3_; (try clear hb); (try clear hb2); (try clear hk); (try clear hi); (try clear ho0))); go_upto_region 6 with (first | (go_at_call 15; (with_reducible refine (laws_r8Long.calls _ _ l0 _ _ l1 false _ ?side1 ?side2 ?side3 ?side4 A3.out).mono ?_); (case side1 => repeat (first | exact HR0.out | (with_reducible refine Kd.C_alloc ?_ _) | (with_reducible refine Kd.C_drewN ?_ _) | (with_reducible refine Kd.C_drew ?_))); (case side2 => exact HC0.out); (case side3 => repeat (first | exact HR1.out | (with_reducible refine Kd.C_alloc ?_ _) | (with_reducible refine Kd.C_drewN ?_ _) | (with_reducible refine Kd.C_drew ?_))); (case side4 => exact HC1.out); rintro e w' ⟨rfl, ⟨nd, rfl⟩⟩; (try first | exact ⟨rfl, _, World.drewN_drewN _ _ _⟩ | exact ⟨rfl, _, Eq.trans (World.drewN_drewN _ _ _) (congrArg (World.drewN _) (Nat.add_assoc _ _ _))⟩)) | (go_at_call 16; (with_reducible refine (spec_R8Counter.calls k _ _ l0 t633 t634 _ ?side1 ?side2 A5.out).mono ?_); (case side1 => repeat (first | exact HR0.out | (with_reducible refine Kd.C_alloc ?_ _) | (with_reducible refine Kd.C_drewN ?_ _) | (with_reducible refine Kd.C_drew ?_))); (case side2 => exact HC0.out); rintro e w8 ⟨v635, rfl, ho0, hb⟩; have n0_ := Aside0.mk (Kd.R_lower ho0 (below_size (by repeat (first | (with_reducible first | exact HB.out | apply below_alloc | apply pw_below_drewN | apply below_drew1) | exact HB.out)))); have n1_ := Aside0.mk (below_step (by repeat (first | (with_reducible first | exact HB.out | apply below_alloc | apply pw_below_drewN | apply below_drew1) | exact HB.out)) hb); clear HB; have HO636 := n0_; have HB := n1_; clear n0_ n1_; (try clear hb); (try clear hb2); (try clear hk); (try clear hi); (try clear ho0)) | ((with_reducible refine gate_dst (N := 5) rfl ?_); (try (refine gate_guard (by rfl) ?_; dsimp only)); refine box_event ?hg (N := 5) ?hd (cs := #[.int .i64 0, .slice none 0 0]) (t := 26) ?hr ?_; (case hd => rfl); (case hg => rfl); (case hr => first | (go_simp; done) | (go_simp; rfl)); intro gb637 hg w9 hbox hb; have n0_ := Aside0.mk (Kd.R_below (by (with_reducible repeat (first | apply Kd.R_alloc | apply Kd.R_drewN | apply Kd.R_drew)); exact HO636.out) hb); have n1_ := Aside0.mk (below_step (by repeat (first | (with_reducible first | exact HB.out | apply below_alloc | apply pw_below_drewN | apply below_drew1) | exact HB.out)) hb); have n2_ := Aside0.mk (hbox); have n3_ := Aside0.mk ((by rw [hg]; exact (below_size (by repeat (first | (with_reducible first | exact HB.out | apply below_alloc | apply pw_below_drewN | apply below_drew1) | exact HB.out))) : w.heap.size ≤ gb637)); have n4_ := Aside0.mk ((by rw [hg]; exact (below_size (by repeat (first | (with_reducible first | exact HB.out | apply below_alloc | apply pw_below_drewN | apply below_drew1) | exact HB.out))) : w.heap.size ≤ gb637)); clear HO636; clear HB; have HO636 := n0_; have HB := n1_; have BK637 := n2_; have GW637 := n3_; have GE637 := n4_; clear n0_ n1_ n2_ n3_ n4_; clear hb hbox hg; have hcz10_0 : w9.cell? ⟨gb637, 0, none⟩ = some (.int .i64 0) := (blk_cell BK637.out 0).trans rfl; have hcz10_1 : w9.cell? ⟨gb637, 1, none⟩ = some (.slice none 0 0) := (blk_cell BK637.out 1).trans rfl; have hfz10_0 := blk_frozen BK637.out 0; have hfz10_1 := blk_frozen BK637.out 1; obtain ⟨Ao11, co11, eo11⟩ := Kd.R_slice HO636.out; subst eo11) | (go_at_call 17; (with_reducible refine (impl_RingsOf.calls k t633 _ _ t634 t638 t641 _ ?side1 ?side2 A6.out).mono ?_); (case side1 => refine (Kd.R_reads' (e := 2) (base := w.heap.size) (ok := fun k_ => True) (n := t634.length) (c := co11) ?_).2.2; exact (by (with_reducible repeat (first | apply Kd.R_alloc | apply Kd.R_drewN | apply Kd.R_drew)); exact (Kd.R_mono (Kd.R_far (p := ⟨gb637, 1, none⟩) (Kd.R_far (p := ⟨gb637, 0, none⟩) (Kd.R_types HO636.out BK637.out (by decide)) (fun _ hk => hk.2) (.int .i64 t633)) (fun _ hk => hk.2) (.slice Ao11 t634.length co11)) (fun _ h_ => h_.1)))); (case side2 => exact (Kd.R_reads' HO636.out).2.1); rintro e w12 ⟨v639, rfl, ho0, hb⟩; have n0_ := Aside0.mk (Kd.R_below (by (with_reducible repeat (first | apply Kd.R_alloc | apply Kd.R_drewN | apply Kd.R_drew)); exact (Kd.R_mono (Kd.R_far (p := ⟨gb637, 1, none⟩) (Kd.R_far (p := ⟨gb637, 0, none⟩) (Kd.R_types HO636.out BK637.out (by decide)) (fun _ hk => hk.2) (.int .i64 t633)) (fun _ hk => hk.2) (.slice Ao11 t634.length co11)) (fun _ h_ => h_.1))) hb); have n1_ := Aside0.mk (Kd.S_lower (Kd.S_new' ho0 (Kd.R_lt (by (with_reducible repeat (first | apply Kd.R_alloc | apply Kd.R_drewN | apply Kd.R_drew)); exact (Kd.R_mono (Kd.R_far (p := ⟨gb637, 1, none⟩) (Kd.R_far (p := ⟨gb637, 0, none⟩) (Kd.R_types HO636.out BK637.out (by decide)) (fun _ hk => hk.2) (.int .i64 t633)) (fun _ hk => hk.2) (.slice Ao11 t634.length co11)) (fun _ h_ => h_.1))))) (below_size (by repeat (first | (with_reducible first | exact HB.out | apply below_alloc | apply pw_below_drewN | apply below_drew1 | refine below_set ?_ GE637.out) | exact HB.out)))); have n2_ := Aside0.mk (blk_below (g := gb637) (o := .cells #[.int .i64 t633, .slice Ao11 t634.length co11] 26 (0, 0)) (by (with_reducible repeat (first | refine blk_drewN ?_ _ | refine blk_drew ?_ | refine blk_alloc ?_ _)); refine blk_put (cs := #[.int .i64 t633, .slice none 0 0]) ?_ 1 _ rfl; (with_reducible repeat (first | refine blk_drewN ?_ _ | refine blk_drew ?_ | refine blk_alloc ?_ _)); refine blk_put (cs := #[.int .i64 0, .slice none 0 0]) ?_ 0 _ rfl; (with_reducible repeat (first | refine blk_drewN ?_ _ | refine blk_drew ?_ | refine blk_alloc ?_ _)); exact BK637.out) hb); have n3_ := Aside0.mk (below_step (by repeat (first | (with_reducible first | exact HB.out | apply below_alloc | apply pw_below_drewN | apply below_drew1 | refine below_set ?_ GE637.out) | exact HB.out)) hb); clear HO636; clear BK637; clear HB; have HO636 := n0_; have HO640 := n1_; have BK637 := n2_; have HB := n3_; clear n0_ n1_ n2_ n3_; (try clear hb); (try clear hb2); (try clear hk); (try clear hi); (try clear ho0))))
    (try simp only [Act.put, List.setIfInBounds_toArray, List.set_cons_zero, List.set_cons_succ])
    go_cut [40] (fun v40 wc => ∃ (kq : Nat) (x40_6 : Bool), v40 = .bool x40_6 ∧ Aside0 (laws_FnMended.j0 kq l1 (t634.length : Int) t638 x40_6 t633 t634 = some r) ∧ Aside0 (kq ≤ k) ∧ Aside0 (Kd.S (Kd.slice 2 (Kd.int .i64)) 24 wc w.heap.size (fun k_ => some k_ ≠ ((.slice Ao11 t634.length co11) : Value).ownBlock) v639 t638) ∧ Aside0 (Kd.R (Kd.int .i64) 2 wc w.heap.size (fun _ => True) (.slice Ao11 t634.length co11) t634) ∧ Aside0 (wc.heap[gb637]? = some (.cells #[.int .i64 t633, (.slice Ao11 t634.length co11)] 26 (0, 0))) ∧ Aside0 (Below w.heap.size w wc))
    case first =>
      have H := HC7.out
      clear HC7
      by_cases c13 : t641 = true
      · subst c13
        have H1 : (laws_FnMended.j0 k l1 (t634.length : Int) t638 ((t638.length : Int) == 0) t633 t634) = some r := by rw [if_pos rfl] at H; exact H
        clear H
        have H := H1
        clear H1
        have H' := Aside0.mk H
        clear H
        obtain ⟨Ao14, co14, eo14⟩ := Kd.S_slice HO640.out
        subst eo14
        go_wp2
        repeat (go_quiet (fail); try go_wp2)
        go_meet
        case rel => exact ⟨_, (((t638.length : Int) == 0)), (by first | rfl | (simp; done) | (simp [*]; done)), H', ⟨by first | omega | exact Nat.le_refl _⟩, ⟨by (with_reducible repeat (first | apply Kd.S_alloc | apply Kd.S_drewN | apply Kd.S_drew)); exact Kd.S_mono HO640.out (fun _ hk => hk.2)⟩, ⟨by (with_reducible repeat (first | apply Kd.R_alloc | apply Kd.R_drewN | apply Kd.R_drew)); exact HO636.out⟩, ⟨by (with_reducible repeat (first | refine blk_drewN ?_ _ | refine blk_drew ?_ | refine blk_alloc ?_ _)); exact BK637.out⟩, ⟨by repeat (first | (with_reducible first | exact HB.out | apply below_alloc | apply pw_below_drewN | apply below_drew1 | refine below_set ?_ GE637.out) | exact HB.out)⟩⟩
      · replace c13 := Bool.eq_false_iff.mpr c13
        subst c13
        have H1 : (laws_FnMended.j0 k l1 (t634.length : Int) t638 true t633 t634) = some r := by rw [if_neg (show ¬ (false = true) by decide)] at H; exact H
        clear H
        have H := H1
        clear H1
        have H' := Aside0.mk H
        clear H
        go_wp2
        repeat (go_quiet (fail); try go_wp2)
        go_meet
        case rel => exact ⟨_, (true), (by first | rfl | (simp; done) | (simp [*]; done)), H', ⟨by first | omega | exact Nat.le_refl _⟩, ⟨by (with_reducible repeat (first | apply Kd.S_alloc | apply Kd.S_drewN | apply Kd.S_drew)); exact Kd.S_mono HO640.out (fun _ hk => hk.2)⟩, ⟨by (with_reducible repeat (first | apply Kd.R_alloc | apply Kd.R_drewN | apply Kd.R_drew)); exact HO636.out⟩, ⟨by (with_reducible repeat (first | refine blk_drewN ?_ _ | refine blk_drew ?_ | refine blk_alloc ?_ _)); exact BK637.out⟩, ⟨by repeat (first | (with_reducible first | exact HB.out | apply below_alloc | apply pw_below_drewN | apply below_drew1 | refine below_set ?_ GE637.out) | exact HB.out)⟩⟩
    case rest =>
      clear HC7
      try clear c1
      try clear p2
      try clear c4
      try clear c13
      try clear hcz10_0
      try clear hcz10_1
      try clear hfz10_0
      try clear hfz10_1
      obtain ⟨kq, x40_6, rfl, HA, HJ6, HO_7, HO_638001, BK637, HB⟩ := hcut
      cases kq with
      | zero => exact absurd HA.out (by simp [laws_FnMended.j0])
      | succ kj6 =>
        have H := HA.out
        clear HA
        simp only [laws_FnMended.j0] at H
        by_cases c15 : x40_6 = true
        · subst c15
          have H1 : (some false) = some r := by rw [if_pos rfl] at H; exact H
          clear H
          have H := H1
          clear H1
          obtain rfl := Option.some.inj H
          go_wp2
          repeat (go_quiet (fail); try go_wp2)
          go_ret
          exact ⟨by first | rfl | (simp [errW_none, errW_some] <;> rfl) | (simp [*, errW_none, errW_some] <;> rfl), by repeat (first | (with_reducible first | exact HB.out | apply below_alloc | apply pw_below_drewN | apply below_drew1 | refine below_set ?_ GE637.out) | exact HB.out)⟩
        · replace c15 := Bool.eq_false_iff.mpr c15
          subst c15
          have H1 : ((laws_r8At.f l1 0 (t638.length : Int)).bind fun t642 => (if 0 ≤ t642 then (if t642 < (t638.length : Int) then ((laws_r8At.f l1 1 ((rd_L1 t638 t642).length : Int)).bind fun t644 => (if 0 ≤ t644 then (if t644 < ((rd_L1 t638 t642).length : Int) then ((impl_MendCounter.f kj6 t633 t634 (rd (rd_L1 t638 t642) t644)).bind fun bt646 => (if bt646.2.2 = true then ((impl_ValidCounter.f bt646.1 bt646.2.1).bind fun t652 => (if t652 = true then (if bt646.1 = t633 then ((impl_IsSelfStarting.f kj6 bt646.1 bt646.2.1 (rd (rd_L1 t638 t642) t644)).bind fun t653 => (laws_FnMended.j1 kj6 l1 (t634.length : Int) t638 (!t653) t633 t634 bt646.1 bt646.2.1)) else (laws_FnMended.j1 kj6 l1 (t634.length : Int) t638 true t633 t634 bt646.1 bt646.2.1)) else (laws_FnMended.j1 kj6 l1 (t634.length : Int) t638 true t633 t634 bt646.1 bt646.2.1))) else (laws_FnMended.j1 kj6 l1 (t634.length : Int) t638 true t633 t634 bt646.1 bt646.2.1))) else (none)) else (none))) else (none)) else (none))) = some r := by rw [if_neg (show ¬ (false = true) by decide)] at H; exact H
          clear H
          have H := H1
          clear H1
          replace H := Option.bind_eq_some_iff.mp H
          obtain ⟨t642, A160, H⟩ := H
          replace H : (if 0 ≤ t642 then (if t642 < (t638.length : Int) then ((laws_r8At.f l1 1 ((rd_L1 t638 t642).length : Int)).bind fun t644 => (if 0 ≤ t644 then (if t644 < ((rd_L1 t638 t642).length : Int) then ((impl_MendCounter.f kj6 t633 t634 (rd (rd_L1 t638 t642) t644)).bind fun bt646 => (if bt646.2.2 = true then ((impl_ValidCounter.f bt646.1 bt646.2.1).bind fun t652 => (if t652 = true then (if bt646.1 = t633 then ((impl_IsSelfStarting.f kj6 bt646.1 bt646.2.1 (rd (rd_L1 t638 t642) t644)).bind fun t653 => (laws_FnMended.j1 kj6 l1 (t634.length : Int) t638 (!t653) t633 t634 bt646.1 bt646.2.1)) else (laws_FnMended.j1 kj6 l1 (t634.length : Int) t638 true t633 t634 bt646.1 bt646.2.1)) else (laws_FnMended.j1 kj6 l1 (t634.length : Int) t638 true t633 t634 bt646.1 bt646.2.1))) else (laws_FnMended.j1 kj6 l1 (t634.length : Int) t638 true t633 t634 bt646.1 bt646.2.1))) else (none)) else (none))) else (none)) else (none)) = some r := H
          have A16 := Aside0.mk A160
          clear A160
          by_cases c17 : 0 ≤ t642
          · rw [if_pos c17] at H
            have c17b0 : decide (0 ≤ t642) = true := decide_eq_true c17
            clear c17
            by_cases c18 : t642 < (t638.length : Int)
            · rw [if_pos c18] at H
              have c18b0 : decide (t642 < (t638.length : Int)) = true := decide_eq_true c18
              clear c18
              replace H := Option.bind_eq_some_iff.mp H
              obtain ⟨t644, A190, H⟩ := H
              replace H : (if 0 ≤ t644 then (if t644 < ((rd_L1 t638 t642).length : Int) then ((impl_MendCounter.f kj6 t633 t634 (rd (rd_L1 t638 t642) t644)).bind fun bt646 => (if bt646.2.2 = true then ((impl_ValidCounter.f bt646.1 bt646.2.1).bind fun t652 => (if t652 = true then (if bt646.1 = t633 then ((impl_IsSelfStarting.f kj6 bt646.1 bt646.2.1 (rd (rd_L1 t638 t642) t644)).bind fun t653 => (laws_FnMended.j1 kj6 l1 (t634.length : Int) t638 (!t653) t633 t634 bt646.1 bt646.2.1)) else (laws_FnMended.j1 kj6 l1 (t634.length : Int) t638 true t633 t634 bt646.1 bt646.2.1)) else (laws_FnMended.j1 kj6 l1 (t634.length : Int) t638 true t633 t634 bt646.1 bt646.2.1))) else (laws_FnMended.j1 kj6 l1 (t634.length : Int) t638 true t633 t634 bt646.1 bt646.2.1))) else (none)) else (none)) = some r := H
              have A19 := Aside0.mk A190
              clear A190
              by_cases c20 : 0 ≤ t644
              · rw [if_pos c20] at H
                have c20b0 : decide (0 ≤ t644) = true := decide_eq_true c20
                clear c20
                by_cases c21 : t644 < ((rd_L1 t638 t642).length : Int)
                · rw [if_pos c21] at H
                  have c21b0 : decide (t644 < ((rd_L1 t638 t642).length : Int)) = true := decide_eq_true c21
                  clear c21
                  replace H := Option.bind_eq_some_iff.mp H
                  obtain ⟨⟨t646, t647, t650⟩, A220, H⟩ := H
                  replace H : (if t650 = true then ((impl_ValidCounter.f t646 t647).bind fun t652 => (if t652 = true then (if t646 = t633 then ((impl_IsSelfStarting.f kj6 t646 t647 (rd (rd_L1 t638 t642) t644)).bind fun t653 => (laws_FnMended.j1 kj6 l1 (t634.length : Int) t638 (!t653) t633 t634 t646 t647)) else (laws_FnMended.j1 kj6 l1 (t634.length : Int) t638 true t633 t634 t646 t647)) else (laws_FnMended.j1 kj6 l1 (t634.length : Int) t638 true t633 t634 t646 t647))) else (laws_FnMended.j1 kj6 l1 (t634.length : Int) t638 true t633 t634 t646 t647)) = some r := H
                  have A22 := Aside0.mk A220
                  clear A220
                  have HC23 := Aside0.mk H
                  clear H
                  obtain ⟨Ao24, co24, eo24⟩ := Kd.S_slice HO_7.out
                  subst eo24
                  go_upto_region 11 with (first | (go_at_call 20; (with_reducible refine (laws_r8At.calls _ _ l1 0 (t638.length : Int) t642 _ ?side1 ?side2 A16.out).mono ?_); (case side1 => repeat (first | exact (Kd.C_below HR1.out HB.out) | (with_reducible refine Kd.C_alloc ?_ _) | (with_reducible refine Kd.C_drewN ?_ _) | (with_reducible refine Kd.C_drew ?_))); (case side2 => exact HC1.out); rintro e w' ⟨rfl, ⟨nd, rfl⟩⟩; (try first | exact ⟨rfl, _, World.drewN_drewN _ _ _⟩ | exact ⟨rfl, _, Eq.trans (World.drewN_drewN _ _ _) (congrArg (World.drewN _) (Nat.add_assoc _ _ _))⟩); have p643 : 0 ≤ (t642 : Int) := of_decide_eq_true (by first | (with_reducible assumption) | assumption); have q643 : t642 < (t638.length : Int) := of_decide_eq_true (by first | (with_reducible assumption) | assumption); obtain ⟨ad643, A643_0, c643_0, e643, hx643_0, hl643_0, hi643_0⟩ := at_L1 (Kd.S_reads' HO_7.out).2.2 t642 p643 q643; cases e643; obtain ⟨ce643, hce643, hMe643, hcc643⟩ := Kd.S_get HO_7.out [] t642 p643 (by first | exact q643 | exact of_decide_eq_true (by first | (with_reducible assumption) | assumption) | (have e_ := (Kd.S_reads' HO_7.out).1; omega)); obtain ⟨ve643_0, rfl, ge643_0⟩ := hMe643; have hv643_0 := hcc643 0 _ rfl; rw [Nat.add_zero, show ((Kd.slice 2 (Kd.int .i64))).sz = 1 from rfl, Nat.mul_one] at hv643_0; replace hv643_0 := Option.some.inj (hv643_0.symm.trans hx643_0); rw [hv643_0] at ge643_0; have HL643_0 := Aside0.mk (show Kd.R (Kd.int .i64) 2 _ _ _ _ (rd_L1 t638 t642) from ge643_0); clear hv643_0 ge643_0; clear hcc643 hce643; have HR643_0 := Aside0.mk hi643_0; have HC643_0 := Aside0.mk hl643_0; clear hi643_0 hl643_0; replace p643 := eq_true p643; replace q643 := eq_true q643) | (go_at_call 20; (with_reducible refine (laws_r8At.calls _ _ l1 1 ((rd_L1 t638 t642).length : Int) t644 _ ?side1 ?side2 A19.out).mono ?_); (case side1 => repeat (first | exact (Kd.C_below HR1.out (by repeat (first | (with_reducible first | exact HB.out | apply below_alloc | apply pw_below_drewN | apply below_drew1 | refine below_set ?_ GE637.out) | exact HB.out))) | (with_reducible refine Kd.C_alloc ?_ _) | (with_reducible refine Kd.C_drewN ?_ _) | (with_reducible refine Kd.C_drew ?_))); (case side2 => exact HC1.out); rintro e w' ⟨rfl, ⟨nd, rfl⟩⟩; (try first | exact ⟨rfl, _, World.drewN_drewN _ _ _⟩ | exact ⟨rfl, _, Eq.trans (World.drewN_drewN _ _ _) (congrArg (World.drewN _) (Nat.add_assoc _ _ _))⟩); have p645 : 0 ≤ (t644 : Int) := of_decide_eq_true (by first | (with_reducible assumption) | assumption); have q645 : t644 < ((rd_L1 t638 t642).length : Int) := of_decide_eq_true (by first | (with_reducible assumption) | assumption); obtain ⟨ad645, e645, hx645_0⟩ := Kd.at_int (by repeat (first | (with_reducible exact HR643_0.out) | (with_reducible refine Kd.C_alloc ?_ _) | (with_reducible refine Kd.C_drewN ?_ _) | (with_reducible refine Kd.C_drew ?_) | exact HR643_0.out)) t644 p645 q645; cases e645; replace p645 := eq_true p645; replace q645 := eq_true q645; have hcz25_0 : wc.cell? ⟨gb637, 0, none⟩ = some (.int .i64 t633) := (blk_cell BK637.out 0).trans rfl; have hcz25_1 : wc.cell? ⟨gb637, 1, none⟩ = some (.slice Ao11 t634.length co11) := (blk_cell BK637.out 1).trans rfl; have hfz25_0 := blk_frozen BK637.out 0; have hfz25_1 := blk_frozen BK637.out 1) | (go_at_call 44; (with_reducible refine (impl_MendCounter.calls kj6 t633 _ _ t634 (rd (rd_L1 t638 t642) t644) t646 t647 t650 _ ?side1 ?side2 A22.out).mono ?_); (case side1 => repeat (first | exact (Kd.R_reads' HO_638001.out).2.2 | (with_reducible refine Kd.C_alloc ?_ _) | (with_reducible refine Kd.C_drewN ?_ _) | (with_reducible refine Kd.C_drew ?_))); (case side2 => exact (Kd.R_reads' HO_638001.out).2.1); rintro e w26 ⟨v648, rfl, ho0, hb⟩; have n0_ := Aside0.mk (Kd.S_elder' (by (with_reducible repeat (first | apply Kd.S_alloc | apply Kd.S_drewN | apply Kd.S_drew)); exact HO_7.out) (Kd.R_base ho0) hb); have n1_ := Aside0.mk (Kd.R_elder' (by (with_reducible repeat (first | apply Kd.R_alloc | apply Kd.R_drewN | apply Kd.R_drew)); exact HO_638001.out) (Kd.R_base ho0) hb); have n2_ := Aside0.mk (Kd.R_elder' (by (with_reducible repeat (first | apply Kd.R_alloc | apply Kd.R_drewN | apply Kd.R_drew)); exact HL643_0.out) (Kd.R_base ho0) hb); have n3_ := Aside0.mk (Kd.R_lower (Kd.R_new' (Kd.R_new' ho0 (Kd.R_lt (by (with_reducible repeat (first | apply Kd.R_alloc | apply Kd.R_drewN | apply Kd.R_drew)); exact HO_638001.out))) (Kd.R_lt (by (with_reducible repeat (first | apply Kd.R_alloc | apply Kd.R_drewN | apply Kd.R_drew)); exact HL643_0.out))) (below_size (by repeat (first | (with_reducible first | exact HB.out | apply below_alloc | apply pw_below_drewN | apply below_drew1 | refine below_set ?_ GE637.out) | exact HB.out)))); have n4_ := Aside0.mk (blk_below (g := gb637) (o := .cells #[.int .i64 t633, .slice Ao11 t634.length co11] 26 (0, 0)) (by (with_reducible repeat (first | refine blk_drewN ?_ _ | refine blk_drew ?_ | refine blk_alloc ?_ _)); exact BK637.out) hb); have n5_ := Aside0.mk (Kd.C_below (by repeat (first | (with_reducible exact HR643_0.out) | (with_reducible refine Kd.C_alloc ?_ _) | (with_reducible refine Kd.C_drewN ?_ _) | (with_reducible refine Kd.C_drew ?_) | exact HR643_0.out)) hb); have n6_ := Aside0.mk (below_step (by repeat (first | (with_reducible first | exact HB.out | apply below_alloc | apply pw_below_drewN | apply below_drew1 | refine below_set ?_ GE637.out) | exact HB.out)) hb); clear HO_7; clear HO_638001; clear HL643_0; clear BK637; clear HR643_0; clear HB; have HO_7 := n0_; have HO_638001 := n1_; have HL643_0 := n2_; have HO649 := n3_; have BK637 := n4_; have HR643_0 := n5_; have HB := n6_; clear n0_ n1_ n2_ n3_ n4_ n5_ n6_; (try clear hb); (try clear hb2); (try clear hk); (try clear hi); (try clear ho0)) | ((with_reducible refine gate_dst (N := 11) rfl ?_); (try (refine gate_guard (by rfl) ?_; dsimp only)); refine box_event ?hg (N := 11) ?hd (cs := #[.int .i64 0, .slice none 0 0]) (t := 26) ?hr ?_; (case hd => rfl); (case hg => rfl); (case hr => first | (go_simp; done) | (go_simp; rfl)); intro gb651 hg w27 hbox hb; have n0_ := Aside0.mk (Kd.S_below (by (with_reducible repeat (first | apply Kd.S_alloc | apply Kd.S_drewN | apply Kd.S_drew)); exact HO_7.out) hb); have n1_ := Aside0.mk (Kd.R_below (by (with_reducible repeat (first | apply Kd.R_alloc | apply Kd.R_drewN | apply Kd.R_drew)); exact HO_638001.out) hb); have n2_ := Aside0.mk (Kd.R_below (by (with_reducible repeat (first | apply Kd.R_alloc | apply Kd.R_drewN | apply Kd.R_drew)); exact HL643_0.out) hb); have n3_ := Aside0.mk (Kd.R_below (by (with_reducible repeat (first | apply Kd.R_alloc | apply Kd.R_drewN | apply Kd.R_drew)); exact HO649.out) hb); have n4_ := Aside0.mk (blk_below (g := gb637) (o := .cells #[.int .i64 t633, .slice Ao11 t634.length co11] 26 (0, 0)) (by (with_reducible repeat (first | refine blk_drewN ?_ _ | refine blk_drew ?_ | refine blk_alloc ?_ _)); exact BK637.out) hb); have n5_ := Aside0.mk (Kd.C_below (by repeat (first | (with_reducible exact HR643_0.out) | (with_reducible refine Kd.C_alloc ?_ _) | (with_reducible refine Kd.C_drewN ?_ _) | (with_reducible refine Kd.C_drew ?_) | exact HR643_0.out)) hb); have n6_ := Aside0.mk (below_step (by repeat (first | (with_reducible first | exact HB.out | apply below_alloc | apply pw_below_drewN | apply below_drew1 | refine below_set ?_ GE637.out) | exact HB.out)) hb); have n7_ := Aside0.mk (hbox); have n8_ := Aside0.mk ((by rw [hg]; exact (below_size (by repeat (first | (with_reducible first | exact HB.out | apply below_alloc | apply pw_below_drewN | apply below_drew1 | refine below_set ?_ GE637.out) | exact HB.out))) : w.heap.size ≤ gb651)); have n9_ := Aside0.mk ((by rw [hg]; exact (below_size (by repeat (first | (with_reducible first | exact HB.out | apply below_alloc | apply pw_below_drewN | apply below_drew1 | refine below_set ?_ GE637.out) | exact HB.out))) : w.heap.size ≤ gb651)); have n10_ := Aside0.mk ((by rw [hg]; exact Nat.ne_of_lt (blk_lt (g := gb637) (o := .cells #[.int .i64 t633, .slice Ao11 t634.length co11] 26 (0, 0)) (by (with_reducible repeat (first | refine blk_drewN ?_ _ | refine blk_drew ?_ | refine blk_alloc ?_ _)); exact BK637.out)) : gb637 ≠ gb651)); have n11_ := Aside0.mk ((by rw [hg]; exact Nat.ne_of_gt (blk_lt (g := gb637) (o := .cells #[.int .i64 t633, .slice Ao11 t634.length co11] 26 (0, 0)) (by (with_reducible repeat (first | refine blk_drewN ?_ _ | refine blk_drew ?_ | refine blk_alloc ?_ _)); exact BK637.out)) : gb651 ≠ gb637)); clear HO_7; clear HO_638001; clear HL643_0; clear HO649; clear BK637; clear HR643_0; clear HB; have HO_7 := n0_; have HO_638001 := n1_; have HL643_0 := n2_; have HO649 := n3_; have BK637 := n4_; have HR643_0 := n5_; have HB := n6_; have BK651 := n7_; have GW651 := n8_; have GE651 := n9_; have NB637_651 := n10_; have NB651_637 := n11_; clear n0_ n1_ n2_ n3_ n4_ n5_ n6_ n7_ n8_ n9_ n10_ n11_; clear hb hbox hg; have hnb28 := NB651_637.out; have hnc28 := NB637_651.out; have hcz29_0 : w27.cell? ⟨gb651, 0, none⟩ = some (.int .i64 0) := (blk_cell BK651.out 0).trans rfl; have hcz29_1 : w27.cell? ⟨gb651, 1, none⟩ = some (.slice none 0 0) := (blk_cell BK651.out 1).trans rfl; have hfz29_0 := blk_frozen BK651.out 0; have hfz29_1 := blk_frozen BK651.out 1; obtain ⟨Ao30, co30, eo30⟩ := Kd.R_slice HO649.out; subst eo30))
                  repeat (go_quiet (first | (go_at_call 20; (with_reducible refine (laws_r8At.calls _ _ l1 0 (t638.length : Int) t642 _ ?side1 ?side2 A16.out).mono ?_); (case side1 => repeat (first | exact (Kd.C_below HR1.out HB.out) | (with_reducible refine Kd.C_alloc ?_ _) | (with_reducible refine Kd.C_drewN ?_ _) | (with_reducible refine Kd.C_drew ?_))); (case side2 => exact HC1.out); rintro e w' ⟨rfl, ⟨nd, rfl⟩⟩; (try first | exact ⟨rfl, _, World.drewN_drewN _ _ _⟩ | exact ⟨rfl, _, Eq.trans (World.drewN_drewN _ _ _) (congrArg (World.drewN _) (Nat.add_assoc _ _ _))⟩); have p643 : 0 ≤ (t642 : Int) := of_decide_eq_true (by first | (with_reducible assumption) | assumption); have q643 : t642 < (t638.length : Int) := of_decide_eq_true (by first | (with_reducible assumption) | assumption); obtain ⟨ad643, A643_0, c643_0, e643, hx643_0, hl643_0, hi643_0⟩ := at_L1 (Kd.S_reads' HO_7.out).2.2 t642 p643 q643; cases e643; obtain ⟨ce643, hce643, hMe643, hcc643⟩ := Kd.S_get HO_7.out [] t642 p643 (by first | exact q643 | exact of_decide_eq_true (by first | (with_reducible assumption) | assumption) | (have e_ := (Kd.S_reads' HO_7.out).1; omega)); obtain ⟨ve643_0, rfl, ge643_0⟩ := hMe643; have hv643_0 := hcc643 0 _ rfl; rw [Nat.add_zero, show ((Kd.slice 2 (Kd.int .i64))).sz = 1 from rfl, Nat.mul_one] at hv643_0; replace hv643_0 := Option.some.inj (hv643_0.symm.trans hx643_0); rw [hv643_0] at ge643_0; have HL643_0 := Aside0.mk (show Kd.R (Kd.int .i64) 2 _ _ _ _ (rd_L1 t638 t642) from ge643_0); clear hv643_0 ge643_0; clear hcc643 hce643; have HR643_0 := Aside0.mk hi643_0; have HC643_0 := Aside0.mk hl643_0; clear hi643_0 hl643_0; replace p643 := eq_true p643; replace q643 := eq_true q643) | (go_at_call 20; (with_reducible refine (laws_r8At.calls _ _ l1 1 ((rd_L1 t638 t642).length : Int) t644 _ ?side1 ?side2 A19.out).mono ?_); (case side1 => repeat (first | exact (Kd.C_below HR1.out (by repeat (first | (with_reducible first | exact HB.out | apply below_alloc | apply pw_below_drewN | apply below_drew1 | refine below_set ?_ GE637.out) | exact HB.out))) | (with_reducible refine Kd.C_alloc ?_ _) | (with_reducible refine Kd.C_drewN ?_ _) | (with_reducible refine Kd.C_drew ?_))); (case side2 => exact HC1.out); rintro e w' ⟨rfl, ⟨nd, rfl⟩⟩; (try first | exact ⟨rfl, _, World.drewN_drewN _ _ _⟩ | exact ⟨rfl, _, Eq.trans (World.drewN_drewN _ _ _) (congrArg (World.drewN _) (Nat.add_assoc _ _ _))⟩); have p645 : 0 ≤ (t644 : Int) := of_decide_eq_true (by first | (with_reducible assumption) | assumption); have q645 : t644 < ((rd_L1 t638 t642).length : Int) := of_decide_eq_true (by first | (with_reducible assumption) | assumption); obtain ⟨ad645, e645, hx645_0⟩ := Kd.at_int (by repeat (first | (with_reducible exact HR643_0.out) | (with_reducible refine Kd.C_alloc ?_ _) | (with_reducible refine Kd.C_drewN ?_ _) | (with_reducible refine Kd.C_drew ?_) | exact HR643_0.out)) t644 p645 q645; cases e645; replace p645 := eq_true p645; replace q645 := eq_true q645; have hcz25_0 : wc.cell? ⟨gb637, 0, none⟩ = some (.int .i64 t633) := (blk_cell BK637.out 0).trans rfl; have hcz25_1 : wc.cell? ⟨gb637, 1, none⟩ = some (.slice Ao11 t634.length co11) := (blk_cell BK637.out 1).trans rfl; have hfz25_0 := blk_frozen BK637.out 0; have hfz25_1 := blk_frozen BK637.out 1) | (go_at_call 44; (with_reducible refine (impl_MendCounter.calls kj6 t633 _ _ t634 (rd (rd_L1 t638 t642) t644) t646 t647 t650 _ ?side1 ?side2 A22.out).mono ?_); (case side1 => repeat (first | exact (Kd.R_reads' HO_638001.out).2.2 | (with_reducible refine Kd.C_alloc ?_ _) | (with_reducible refine Kd.C_drewN ?_ _) | (with_reducible refine Kd.C_drew ?_))); (case side2 => exact (Kd.R_reads' HO_638001.out).2.1); rintro e w26 ⟨v648, rfl, ho0, hb⟩; have n0_ := Aside0.mk (Kd.S_elder' (by (with_reducible repeat (first | apply Kd.S_alloc | apply Kd.S_drewN | apply Kd.S_drew)); exact HO_7.out) (Kd.R_base ho0) hb); have n1_ := Aside0.mk (Kd.R_elder' (by (with_reducible repeat (first | apply Kd.R_alloc | apply Kd.R_drewN | apply Kd.R_drew)); exact HO_638001.out) (Kd.R_base ho0) hb); have n2_ := Aside0.mk (Kd.R_elder' (by (with_reducible repeat (first | apply Kd.R_alloc | apply Kd.R_drewN | apply Kd.R_drew)); exact HL643_0.out) (Kd.R_base ho0) hb); have n3_ := Aside0.mk (Kd.R_lower (Kd.R_new' (Kd.R_new' ho0 (Kd.R_lt (by (with_reducible repeat (first | apply Kd.R_alloc | apply Kd.R_drewN | apply Kd.R_drew)); exact HO_638001.out))) (Kd.R_lt (by (with_reducible repeat (first | apply Kd.R_alloc | apply Kd.R_drewN | apply Kd.R_drew)); exact HL643_0.out))) (below_size (by repeat (first | (with_reducible first | exact HB.out | apply below_alloc | apply pw_below_drewN | apply below_drew1 | refine below_set ?_ GE637.out) | exact HB.out)))); have n4_ := Aside0.mk (blk_below (g := gb637) (o := .cells #[.int .i64 t633, .slice Ao11 t634.length co11] 26 (0, 0)) (by (with_reducible repeat (first | refine blk_drewN ?_ _ | refine blk_drew ?_ | refine blk_alloc ?_ _)); exact BK637.out) hb); have n5_ := Aside0.mk (Kd.C_below (by repeat (first | (with_reducible exact HR643_0.out) | (with_reducible refine Kd.C_alloc ?_ _) | (with_reducible refine Kd.C_drewN ?_ _) | (with_reducible refine Kd.C_drew ?_) | exact HR643_0.out)) hb); have n6_ := Aside0.mk (below_step (by repeat (first | (with_reducible first | exact HB.out | apply below_alloc | apply pw_below_drewN | apply below_drew1 | refine below_set ?_ GE637.out) | exact HB.out)) hb); clear HO_7; clear HO_638001; clear HL643_0; clear BK637; clear HR643_0; clear HB; have HO_7 := n0_; have HO_638001 := n1_; have HL643_0 := n2_; have HO649 := n3_; have BK637 := n4_; have HR643_0 := n5_; have HB := n6_; clear n0_ n1_ n2_ n3_ n4_ n5_ n6_; (try clear hb); (try clear hb2); (try clear hk); (try clear hi); (try clear ho0)) | ((with_reducible refine gate_dst (N := 11) rfl ?_); (try (refine gate_guard (by rfl) ?_; dsimp only)); refine box_event ?hg (N := 11) ?hd (cs := #[.int .i64 0, .slice none 0 0]) (t := 26) ?hr ?_; (case hd => rfl); (case hg => rfl); (case hr => first | (go_simp; done) | (go_simp; rfl)); intro gb651 hg w27 hbox hb; have n0_ := Aside0.mk (Kd.S_below (by (with_reducible repeat (first | apply Kd.S_alloc | apply Kd.S_drewN | apply Kd.S_drew)); exact HO_7.out) hb); have n1_ := Aside0.mk (Kd.R_below (by (with_reducible repeat (first | apply Kd.R_alloc | apply Kd.R_drewN | apply Kd.R_drew)); exact HO_638001.out) hb); have n2_ := Aside0.mk (Kd.R_below (by (with_reducible repeat (first | apply Kd.R_alloc | apply Kd.R_drewN | apply Kd.R_drew)); exact HL643_0.out) hb); have n3_ := Aside0.mk (Kd.R_below (by (with_reducible repeat (first | apply Kd.R_alloc | apply Kd.R_drewN | apply Kd.R_drew)); exact HO649.out) hb); have n4_ := Aside0.mk (blk_below (g := gb637) (o := .cells #[.int .i64 t633, .slice Ao11 t634.length co11] 26 (0, 0)) (by (with_reducible repeat (first | refine blk_drewN ?_ _ | refine blk_drew ?_ | refine blk_alloc ?_ _)); exact BK637.out) hb); have n5_ := Aside0.mk (Kd.C_below (by repeat (first | (with_reducible exact HR643_0.out) | (with_reducible refine Kd.C_alloc ?_ _) | (with_reducible refine Kd.C_drewN ?_ _) | (with_reducible refine Kd.C_drew ?_) | exact HR643_0.out)) hb); have n6_ := Aside0.mk (below_step (by repeat (first | (with_reducible first | exact HB.out | apply below_alloc | apply pw_below_drewN | apply below_drew1 | refine below_set ?_ GE637.out) | exact HB.out)) hb); have n7_ := Aside0.mk (hbox); have n8_ := Aside0.mk ((by rw [hg]; exact (below_size (by repeat (first | (with_reducible first | exact HB.out | apply below_alloc | apply pw_below_drewN | apply below_drew1 | refine below_set ?_ GE637.out) | exact HB.out))) : w.heap.size ≤ gb651)); have n9_ := Aside0.mk ((by rw [hg]; exact (below_size (by repeat (first | (with_reducible first | exact HB.out | apply below_alloc | apply pw_below_drewN | apply below_drew1 | refine below_set ?_ GE637.out) | exact HB.out))) : w.heap.size ≤ gb651)); have n10_ := Aside0.mk ((by rw [hg]; exact Nat.ne_of_lt (blk_lt (g := gb637) (o := .cells #[.int .i64 t633, .slice Ao11 t634.length co11] 26 (0, 0)) (by (with_reducible repeat (first | refine blk_drewN ?_ _ | refine blk_drew ?_ | refine blk_alloc ?_ _)); exact BK637.out)) : gb637 ≠ gb651)); have n11_ := Aside0.mk ((by rw [hg]; exact Nat.ne_of_gt (blk_lt (g := gb637) (o := .cells #[.int .i64 t633, .slice Ao11 t634.length co11] 26 (0, 0)) (by (with_reducible repeat (first | refine blk_drewN ?_ _ | refine blk_drew ?_ | refine blk_alloc ?_ _)); exact BK637.out)) : gb651 ≠ gb637)); clear HO_7; clear HO_638001; clear HL643_0; clear HO649; clear BK637; clear HR643_0; clear HB; have HO_7 := n0_; have HO_638001 := n1_; have HL643_0 := n2_; have HO649 := n3_; have BK637 := n4_; have HR643_0 := n5_; have HB := n6_; have BK651 := n7_; have GW651 := n8_; have GE651 := n9_; have NB637_651 := n10_; have NB651_637 := n11_; clear n0_ n1_ n2_ n3_ n4_ n5_ n6_ n7_ n8_ n9_ n10_ n11_; clear hb hbox hg; have hnb28 := NB651_637.out; have hnc28 := NB637_651.out; have hcz29_0 : w27.cell? ⟨gb651, 0, none⟩ = some (.int .i64 0) := (blk_cell BK651.out 0).trans rfl; have hcz29_1 : w27.cell? ⟨gb651, 1, none⟩ = some (.slice none 0 0) := (blk_cell BK651.out 1).trans rfl; have hfz29_0 := blk_frozen BK651.out 0; have hfz29_1 := blk_frozen BK651.out 1; obtain ⟨Ao30, co30, eo30⟩ := Kd.R_slice HO649.out; subst eo30)); go_upto_region 11 with (first | (go_at_call 20; (with_reducible refine (laws_r8At.calls _ _ l1 0 (t638.length : Int) t642 _ ?side1 ?side2 A16.out).mono ?_); (case side1 => repeat (first | exact (Kd.C_below HR1.out HB.out) | (with_reducible refine Kd.C_alloc ?_ _) | (with_reducible refine Kd.C_drewN ?_ _) | (with_reducible refine Kd.C_drew ?_))); (case side2 => exact HC1.out); rintro e w' ⟨rfl, ⟨nd, rfl⟩⟩; (try first | exact ⟨rfl, _, World.drewN_drewN _ _ _⟩ | exact ⟨rfl, _, Eq.trans (World.drewN_drewN _ _ _) (congrArg (World.drewN _) (Nat.add_assoc _ _ _))⟩); have p643 : 0 ≤ (t642 : Int) := of_decide_eq_true (by first | (with_reducible assumption) | assumption); have q643 : t642 < (t638.length : Int) := of_decide_eq_true (by first | (with_reducible assumption) | assumption); obtain ⟨ad643, A643_0, c643_0, e643, hx643_0, hl643_0, hi643_0⟩ := at_L1 (Kd.S_reads' HO_7.out).2.2 t642 p643 q643; cases e643; obtain ⟨ce643, hce643, hMe643, hcc643⟩ := Kd.S_get HO_7.out [] t642 p643 (by first | exact q643 | exact of_decide_eq_true (by first | (with_reducible assumption) | assumption) | (have e_ := (Kd.S_reads' HO_7.out).1; omega)); obtain ⟨ve643_0, rfl, ge643_0⟩ := hMe643; have hv643_0 := hcc643 0 _ rfl; rw [Nat.add_zero, show ((Kd.slice 2 (Kd.int .i64))).sz = 1 from rfl, Nat.mul_one] at hv643_0; replace hv643_0 := Option.some.inj (hv643_0.symm.trans hx643_0); rw [hv643_0] at ge643_0; have HL643_0 := Aside0.mk (show Kd.R (Kd.int .i64) 2 _ _ _ _ (rd_L1 t638 t642) from ge643_0); clear hv643_0 ge643_0; clear hcc643 hce643; have HR643_0 := Aside0.mk hi643_0; have HC643_0 := Aside0.mk hl643_0; clear hi643_0 hl643_0; replace p643 := eq_true p643; replace q643 := eq_true q643) | (go_at_call 20; (with_reducible refine (laws_r8At.calls _ _ l1 1 ((rd_L1 t638 t642).length : Int) t644 _ ?side1 ?side2 A19.out).mono ?_); (case side1 => repeat (first | exact (Kd.C_below HR1.out (by repeat (first | (with_reducible first | exact HB.out | apply below_alloc | apply pw_below_drewN | apply below_drew1 | refine below_set ?_ GE637.out) | exact HB.out))) | (with_reducible refine Kd.C_alloc ?_ _) | (with_reducible refine Kd.C_drewN ?_ _) | (with_reducible refine Kd.C_drew ?_))); (case side2 => exact HC1.out); rintro e w' ⟨rfl, ⟨nd, rfl⟩⟩; (try first | exact ⟨rfl, _, World.drewN_drewN _ _ _⟩ | exact ⟨rfl, _, Eq.trans (World.drewN_drewN _ _ _) (congrArg (World.drewN _) (Nat.add_assoc _ _ _))⟩); have p645 : 0 ≤ (t644 : Int) := of_decide_eq_true (by first | (with_reducible assumption) | assumption); have q645 : t644 < ((rd_L1 t638 t642).length : Int) := of_decide_eq_true (by first | (with_reducible assumption) | assumption); obtain ⟨ad645, e645, hx645_0⟩ := Kd.at_int (by repeat (first | (with_reducible exact HR643_0.out) | (with_reducible refine Kd.C_alloc ?_ _) | (with_reducible refine Kd.C_drewN ?_ _) | (with_reducible refine Kd.C_drew ?_) | exact HR643_0.out)) t644 p645 q645; cases e645; replace p645 := eq_true p645; replace q645 := eq_true q645; have hcz25_0 : wc.cell? ⟨gb637, 0, none⟩ = some (.int .i64 t633) := (blk_cell BK637.out 0).trans rfl; have hcz25_1 : wc.cell? ⟨gb637, 1, none⟩ = some (.slice Ao11 t634.length co11) := (blk_cell BK637.out 1).trans rfl; have hfz25_0 := blk_frozen BK637.out 0; have hfz25_1 := blk_frozen BK637.out 1) | (go_at_call 44; (with_reducible refine (impl_MendCounter.calls kj6 t633 _ _ t634 (rd (rd_L1 t638 t642) t644) t646 t647 t650 _ ?side1 ?side2 A22.out).mono ?_); (case side1 => repeat (first | exact (Kd.R_reads' HO_638001.out).2.2 | (with_reducible refine Kd.C_alloc ?_ _) | (with_reducible refine Kd.C_drewN ?_ _) | (with_reducible refine Kd.C_drew ?_))); (case side2 => exact (Kd.R_reads' HO_638001.out).2.1); rintro e w26 ⟨v648, rfl, ho0, hb⟩; have n0_ := Aside0.mk (Kd.S_elder' (by (with_reducible repeat (first | apply Kd.S_alloc | apply Kd.S_drewN | apply Kd.S_drew)); exact HO_7.out) (Kd.R_base ho0) hb); have n1_ := Aside0.mk (Kd.R_elder' (by (with_reducible repeat (first | apply Kd.R_alloc | apply Kd.R_drewN | apply Kd.R_drew)); exact HO_638001.out) (Kd.R_base ho0) hb); have n2_ := Aside0.mk (Kd.R_elder' (by (with_reducible repeat (first | apply Kd.R_alloc | apply Kd.R_drewN | apply Kd.R_drew)); exact HL643_0.out) (Kd.R_base ho0) hb); have n3_ := Aside0.mk (Kd.R_lower (Kd.R_new' (Kd.R_new' ho0 (Kd.R_lt (by (with_reducible repeat (first | apply Kd.R_alloc | apply Kd.R_drewN | apply Kd.R_drew)); exact HO_638001.out))) (Kd.R_lt (by (with_reducible repeat (first | apply Kd.R_alloc | apply Kd.R_drewN | apply Kd.R_drew)); exact HL643_0.out))) (below_size (by repeat (first | (with_reducible first | exact HB.out | apply below_alloc | apply pw_below_drewN | apply below_drew1 | refine below_set ?_ GE637.out) | exact HB.out)))); have n4_ := Aside0.mk (blk_below (g := gb637) (o := .cells #[.int .i64 t633, .slice Ao11 t634.length co11] 26 (0, 0)) (by (with_reducible repeat (first | refine blk_drewN ?_ _ | refine blk_drew ?_ | refine blk_alloc ?_ _)); exact BK637.out) hb); have n5_ := Aside0.mk (Kd.C_below (by repeat (first | (with_reducible exact HR643_0.out) | (with_reducible refine Kd.C_alloc ?_ _) | (with_reducible refine Kd.C_drewN ?_ _) | (with_reducible refine Kd.C_drew ?_) | exact HR643_0.out)) hb); have n6_ := Aside0.mk (below_step (by repeat (first | (with_reducible first | exact HB.out | apply below_alloc | apply pw_below_drewN | apply below_drew1 | refine below_set ?_ GE637.out) | exact HB.out)) hb); clear HO_7; clear HO_638001; clear HL643_0; clear BK637; clear HR643_0; clear HB; have HO_7 := n0_; have HO_638001 := n1_; have HL643_0 := n2_; have HO649 := n3_; have BK637 := n4_; have HR643_0 := n5_; have HB := n6_; clear n0_ n1_ n2_ n3_ n4_ n5_ n6_; (try clear hb); (try clear hb2); (try clear hk); (try clear hi); (try clear ho0)) | ((with_reducible refine gate_dst (N := 11) rfl ?_); (try (refine gate_guard (by rfl) ?_; dsimp only)); refine box_event ?hg (N := 11) ?hd (cs := #[.int .i64 0, .slice none 0 0]) (t := 26) ?hr ?_; (case hd => rfl); (case hg => rfl); (case hr => first | (go_simp; done) | (go_simp; rfl)); intro gb651 hg w27 hbox hb; have n0_ := Aside0.mk (Kd.S_below (by (with_reducible repeat (first | apply Kd.S_alloc | apply Kd.S_drewN | apply Kd.S_drew)); exact HO_7.out) hb); have n1_ := Aside0.mk (Kd.R_below (by (with_reducible repeat (first | apply Kd.R_alloc | apply Kd.R_drewN | apply Kd.R_drew)); exact HO_638001.out) hb); have n2_ := Aside0.mk (Kd.R_below (by (with_reducible repeat (first | apply Kd.R_alloc | apply Kd.R_drewN | apply Kd.R_drew)); exact HL643_0.out) hb); have n3_ := Aside0.mk (Kd.R_below (by (with_reducible repeat (first | apply Kd.R_alloc | apply Kd.R_drewN | apply Kd.R_drew)); exact HO649.out) hb); have n4_ := Aside0.mk (blk_below (g := gb637) (o := .cells #[.int .i64 t633, .slice Ao11 t634.length co11] 26 (0, 0)) (by (with_reducible repeat (first | refine blk_drewN ?_ _ | refine blk_drew ?_ | refine blk_alloc ?_ _)); exact BK637.out) hb); have n5_ := Aside0.mk (Kd.C_below (by repeat (first | (with_reducible exact HR643_0.out) | (with_reducible refine Kd.C_alloc ?_ _) | (with_reducible refine Kd.C_drewN ?_ _) | (with_reducible refine Kd.C_drew ?_) | exact HR643_0.out)) hb); have n6_ := Aside0.mk (below_step (by repeat (first | (with_reducible first | exact HB.out | apply below_alloc | apply pw_below_drewN | apply below_drew1 | refine below_set ?_ GE637.out) | exact HB.out)) hb); have n7_ := Aside0.mk (hbox); have n8_ := Aside0.mk ((by rw [hg]; exact (below_size (by repeat (first | (with_reducible first | exact HB.out | apply below_alloc | apply pw_below_drewN | apply below_drew1 | refine below_set ?_ GE637.out) | exact HB.out))) : w.heap.size ≤ gb651)); have n9_ := Aside0.mk ((by rw [hg]; exact (below_size (by repeat (first | (with_reducible first | exact HB.out | apply below_alloc | apply pw_below_drewN | apply below_drew1 | refine below_set ?_ GE637.out) | exact HB.out))) : w.heap.size ≤ gb651)); have n10_ := Aside0.mk ((by rw [hg]; exact Nat.ne_of_lt (blk_lt (g := gb637) (o := .cells #[.int .i64 t633, .slice Ao11 t634.length co11] 26 (0, 0)) (by (with_reducible repeat (first | refine blk_drewN ?_ _ | refine blk_drew ?_ | refine blk_alloc ?_ _)); exact BK637.out)) : gb637 ≠ gb651)); have n11_ := Aside0.mk ((by rw [hg]; exact Nat.ne_of_gt (blk_lt (g := gb637) (o := .cells #[.int .i64 t633, .slice Ao11 t634.length co11] 26 (0, 0)) (by (with_reducible repeat (first | refine blk_drewN ?_ _ | refine blk_drew ?_ | refine blk_alloc ?_ _)); exact BK637.out)) : gb651 ≠ gb637)); clear HO_7; clear HO_638001; clear HL643_0; clear HO649; clear BK637; clear HR643_0; clear HB; have HO_7 := n0_; have HO_638001 := n1_; have HL643_0 := n2_; have HO649 := n3_; have BK637 := n4_; have HR643_0 := n5_; have HB := n6_; have BK651 := n7_; have GW651 := n8_; have GE651 := n9_; have NB637_651 := n10_; have NB651_637 := n11_; clear n0_ n1_ n2_ n3_ n4_ n5_ n6_ n7_ n8_ n9_ n10_ n11_; clear hb hbox hg; have hnb28 := NB651_637.out; have hnc28 := NB637_651.out; have hcz29_0 : w27.cell? ⟨gb651, 0, none⟩ = some (.int .i64 0) := (blk_cell BK651.out 0).trans rfl; have hcz29_1 : w27.cell? ⟨gb651, 1, none⟩ = some (.slice none 0 0) := (blk_cell BK651.out 1).trans rfl; have hfz29_0 := blk_frozen BK651.out 0; have hfz29_1 := blk_frozen BK651.out 1; obtain ⟨Ao30, co30, eo30⟩ := Kd.R_slice HO649.out; subst eo30)))
                  (try simp only [Act.put, List.setIfInBounds_toArray, List.set_cons_zero, List.set_cons_succ])
                  go_cut [80] (fun v80 wc => ∃ (kq : Nat) (x80_22 : Bool), v80 = .bool x80_22 ∧ Aside0 (laws_FnMended.j1 kq l1 (t634.length : Int) t638 x80_22 t633 t634 t646 t647 = some r) ∧ Aside0 (kq ≤ kj6) ∧ Aside0 (Kd.S (Kd.slice 2 (Kd.int .i64)) 24 wc w.heap.size (fun k_ => some k_ ≠ ((.slice Ao11 t634.length co11) : Value).ownBlock ∧ some k_ ≠ ((.slice Ao30 t647.length co30) : Value).ownBlock) (.slice (some ad643) t638.length co24) t638) ∧ Aside0 (Kd.R (Kd.int .i64) 2 wc w.heap.size (fun k_ => some k_ ≠ ((.slice Ao30 t647.length co30) : Value).ownBlock) (.slice Ao11 t634.length co11) t634) ∧ Aside0 (Kd.R (Kd.int .i64) 2 wc w.heap.size (fun k_ => some k_ ≠ ((.slice Ao11 t634.length co11) : Value).ownBlock) (.slice Ao30 t647.length co30) t647) ∧ Aside0 (wc.heap[gb637]? = some (.cells #[.int .i64 t633, (.slice Ao11 t634.length co11)] 26 (0, 0))) ∧ Aside0 (wc.heap[gb651]? = some (.cells #[.int .i64 t646, (.slice Ao30 t647.length co30)] 26 (0, 0))) ∧ Aside0 (Kd.C (Kd.int .i64) wc (some ad645) (rd_L1 t638 t642).length (rd_L1 t638 t642)) ∧ Aside0 (Below w.heap.size w wc))
                  case first =>
                    have H := HC23.out
                    clear HC23
                    by_cases c31 : t650 = true
                    · subst c31
                      have H1 : ((impl_ValidCounter.f t646 t647).bind fun t652 => (if t652 = true then (if t646 = t633 then ((impl_IsSelfStarting.f kj6 t646 t647 (rd (rd_L1 t638 t642) t644)).bind fun t653 => (laws_FnMended.j1 kj6 l1 (t634.length : Int) t638 (!t653) t633 t634 t646 t647)) else (laws_FnMended.j1 kj6 l1 (t634.length : Int) t638 true t633 t634 t646 t647)) else (laws_FnMended.j1 kj6 l1 (t634.length : Int) t638 true t633 t634 t646 t647))) = some r := by rw [if_pos rfl] at H; exact H
                      clear H
                      have H := H1
                      clear H1
                      replace H := Option.bind_eq_some_iff.mp H
                      obtain ⟨t652, A320, H⟩ := H
                      replace H : (if t652 = true then (if t646 = t633 then ((impl_IsSelfStarting.f kj6 t646 t647 (rd (rd_L1 t638 t642) t644)).bind fun t653 => (laws_FnMended.j1 kj6 l1 (t634.length : Int) t638 (!t653) t633 t634 t646 t647)) else (laws_FnMended.j1 kj6 l1 (t634.length : Int) t638 true t633 t634 t646 t647)) else (laws_FnMended.j1 kj6 l1 (t634.length : Int) t638 true t633 t634 t646 t647)) = some r := H
                      have A32 := Aside0.mk A320
                      clear A320
                      by_cases c33 : t652 = true
                      · subst c33
                        have H1 : (if t646 = t633 then ((impl_IsSelfStarting.f kj6 t646 t647 (rd (rd_L1 t638 t642) t644)).bind fun t653 => (laws_FnMended.j1 kj6 l1 (t634.length : Int) t638 (!t653) t633 t634 t646 t647)) else (laws_FnMended.j1 kj6 l1 (t634.length : Int) t638 true t633 t634 t646 t647)) = some r := by rw [if_pos rfl] at H; exact H
                        clear H
                        have H := H1
                        clear H1
                        by_cases c34 : t646 = t633
                        · rw [if_pos c34] at H
                          have c34b0 : (t646 == t633) = true := beq_iff_eq.mpr c34
                          have c34b1 : (t646 != t633) = false := bne_eq_false_iff_eq.mpr c34
                          clear c34
                          (first | rw [c34b0] | (simp only [i64_w, i32_w]; rw [c34b0]) | skip)
                          replace H := Option.bind_eq_some_iff.mp H
                          obtain ⟨t653, A350, H⟩ := H
                          replace H : (laws_FnMended.j1 kj6 l1 (t634.length : Int) t638 (!t653) t633 t634 t646 t647) = some r := H
                          have A35 := Aside0.mk A350
                          clear A350
                          have H' := Aside0.mk H
                          clear H
                          have hnb36 := NB651_637.out
                          have hnc36 := NB637_651.out
                          have hcz37_0 : w27.cell? ⟨gb651, 0, none⟩ = some (.int .i64 0) := (blk_cell BK651.out 0).trans rfl
                          have hcz37_1 : w27.cell? ⟨gb651, 1, none⟩ = some (.slice none 0 0) := (blk_cell BK651.out 1).trans rfl
                          have hfz37_0 := blk_frozen BK651.out 0
                          have hfz37_1 := blk_frozen BK651.out 1
                          go_wp2_with (first | (go_at_call 18; (with_reducible refine (impl_ValidCounter.calls t646 _ _ t647 true _ ?side1 ?side2 A32.out).mono ?_); (case side1 => refine (Kd.R_reads' (e := 2) (base := w.heap.size) (ok := fun k_ => ((True ∧ some k_ ≠ (.slice Ao11 t634.length co11 : Value).ownBlock) ∧ some k_ ≠ (.slice (some ad645) (rd_L1 t638 t642).length c643_0 : Value).ownBlock)) (n := t647.length) (c := co30) ?_).2.2; exact (by (with_reducible repeat (first | apply Kd.R_alloc | apply Kd.R_drewN | apply Kd.R_drew)); exact (Kd.R_mono (Kd.R_far (p := ⟨gb651, 1, none⟩) (Kd.R_far (p := ⟨gb651, 0, none⟩) (Kd.R_types HO649.out BK651.out (by decide)) (fun _ hk => hk.2) (.int .i64 t646)) (fun _ hk => hk.2) (.slice Ao30 t647.length co30)) (fun _ h_ => h_.1)))); (case side2 => exact (Kd.R_reads' HO649.out).2.1); rintro e w38 ⟨rfl, hb⟩; have n0_ := Aside0.mk (Kd.S_below (by (with_reducible repeat (first | apply Kd.S_alloc | apply Kd.S_drewN | apply Kd.S_drew)); exact (Kd.S_mono (Kd.S_far (p := ⟨gb651, 1, none⟩) (Kd.S_far (p := ⟨gb651, 0, none⟩) (Kd.S_types HO_7.out BK651.out (by decide)) (fun _ hk => hk.2) (.int .i64 t646)) (fun _ hk => hk.2) (.slice Ao30 t647.length co30)) (fun _ h_ => h_.1))) hb); have n1_ := Aside0.mk (Kd.R_below (by (with_reducible repeat (first | apply Kd.R_alloc | apply Kd.R_drewN | apply Kd.R_drew)); exact (Kd.R_mono (Kd.R_far (p := ⟨gb651, 1, none⟩) (Kd.R_far (p := ⟨gb651, 0, none⟩) (Kd.R_types HO_638001.out BK651.out (by decide)) (fun _ hk => hk.2) (.int .i64 t646)) (fun _ hk => hk.2) (.slice Ao30 t647.length co30)) (fun _ h_ => h_.1))) hb); have n2_ := Aside0.mk (Kd.R_below (by (with_reducible repeat (first | apply Kd.R_alloc | apply Kd.R_drewN | apply Kd.R_drew)); exact (Kd.R_mono (Kd.R_far (p := ⟨gb651, 1, none⟩) (Kd.R_far (p := ⟨gb651, 0, none⟩) (Kd.R_types HL643_0.out BK651.out (by decide)) (fun _ hk => hk.2) (.int .i64 t646)) (fun _ hk => hk.2) (.slice Ao30 t647.length co30)) (fun _ h_ => h_.1))) hb); have n3_ := Aside0.mk (Kd.R_below (by (with_reducible repeat (first | apply Kd.R_alloc | apply Kd.R_drewN | apply Kd.R_drew)); exact (Kd.R_mono (Kd.R_far (p := ⟨gb651, 1, none⟩) (Kd.R_far (p := ⟨gb651, 0, none⟩) (Kd.R_types HO649.out BK651.out (by decide)) (fun _ hk => hk.2) (.int .i64 t646)) (fun _ hk => hk.2) (.slice Ao30 t647.length co30)) (fun _ h_ => h_.1))) hb); have n4_ := Aside0.mk (blk_below (g := gb637) (o := .cells #[.int .i64 t633, .slice Ao11 t634.length co11] 26 (0, 0)) (by (with_reducible repeat (first | refine blk_drewN ?_ _ | refine blk_drew ?_ | refine blk_alloc ?_ _)); refine blk_far ?_ NB637_651.out _; (with_reducible repeat (first | refine blk_drewN ?_ _ | refine blk_drew ?_ | refine blk_alloc ?_ _)); refine blk_far ?_ NB637_651.out _; (with_reducible repeat (first | refine blk_drewN ?_ _ | refine blk_drew ?_ | refine blk_alloc ?_ _)); exact BK637.out) hb); have n5_ := Aside0.mk (Kd.C_below ((Kd.R_reads' (by (with_reducible repeat (first | apply Kd.R_alloc | apply Kd.R_drewN | apply Kd.R_drew)); exact (Kd.R_mono (Kd.R_far (p := ⟨gb651, 1, none⟩) (Kd.R_far (p := ⟨gb651, 0, none⟩) (Kd.R_types HL643_0.out BK651.out (by decide)) (fun _ hk => hk.2) (.int .i64 t646)) (fun _ hk => hk.2) (.slice Ao30 t647.length co30)) (fun _ h_ => h_.1)))).2.2) hb); have n6_ := Aside0.mk (blk_below (g := gb651) (o := .cells #[.int .i64 t646, .slice Ao30 t647.length co30] 26 (0, 0)) (by (with_reducible repeat (first | refine blk_drewN ?_ _ | refine blk_drew ?_ | refine blk_alloc ?_ _)); refine blk_put (cs := #[.int .i64 t646, .slice none 0 0]) ?_ 1 _ rfl; (with_reducible repeat (first | refine blk_drewN ?_ _ | refine blk_drew ?_ | refine blk_alloc ?_ _)); refine blk_put (cs := #[.int .i64 0, .slice none 0 0]) ?_ 0 _ rfl; (with_reducible repeat (first | refine blk_drewN ?_ _ | refine blk_drew ?_ | refine blk_alloc ?_ _)); exact BK651.out) hb); have n7_ := Aside0.mk (below_step (by repeat (first | (with_reducible first | exact HB.out | apply below_alloc | apply pw_below_drewN | apply below_drew1 | refine below_set ?_ GE637.out | refine below_set ?_ GE651.out) | exact HB.out)) hb); clear HO_7; clear HO_638001; clear HL643_0; clear HO649; clear BK637; clear HR643_0; clear BK651; clear HB; have HO_7 := n0_; have HO_638001 := n1_; have HL643_0 := n2_; have HO649 := n3_; have BK637 := n4_; have HR643_0 := n5_; have BK651 := n6_; have HB := n7_; clear n0_ n1_ n2_ n3_ n4_ n5_ n6_ n7_; (try clear hb); (try clear hb2); (try clear hk); (try clear hi); have hcz39_0 : w38.cell? ⟨gb651, 0, none⟩ = some (.int .i64 t646) := (blk_cell BK651.out 0).trans rfl; have hcz39_1 : w38.cell? ⟨gb651, 1, none⟩ = some (.slice Ao30 t647.length co30) := (blk_cell BK651.out 1).trans rfl; have hfz39_0 := blk_frozen BK651.out 0; have hfz39_1 := blk_frozen BK651.out 1; have hcz40_0 : w38.cell? ⟨gb637, 0, none⟩ = some (.int .i64 t633) := (blk_cell BK637.out 0).trans rfl; have hcz40_1 : w38.cell? ⟨gb637, 1, none⟩ = some (.slice Ao11 t634.length co11) := (blk_cell BK637.out 1).trans rfl; have hfz40_0 := blk_frozen BK637.out 0; have hfz40_1 := blk_frozen BK637.out 1) | (go_at_call 37; (with_reducible refine (impl_IsSelfStarting.calls kj6 t646 _ _ t647 (rd (rd_L1 t638 t642) t644) t653 _ ?side1 ?side2 A35.out).mono ?_); (case side1 => repeat (first | exact (Kd.R_reads' HO649.out).2.2 | (with_reducible refine Kd.C_alloc ?_ _) | (with_reducible refine Kd.C_drewN ?_ _) | (with_reducible refine Kd.C_drew ?_))); (case side2 => exact (Kd.R_reads' HO649.out).2.1); rintro e w41 ⟨rfl, hb⟩; have n0_ := Aside0.mk (Kd.S_below (by (with_reducible repeat (first | apply Kd.S_alloc | apply Kd.S_drewN | apply Kd.S_drew)); exact HO_7.out) hb); have n1_ := Aside0.mk (Kd.R_below (by (with_reducible repeat (first | apply Kd.R_alloc | apply Kd.R_drewN | apply Kd.R_drew)); exact HO_638001.out) hb); have n2_ := Aside0.mk (Kd.R_below (by (with_reducible repeat (first | apply Kd.R_alloc | apply Kd.R_drewN | apply Kd.R_drew)); exact HL643_0.out) hb); have n3_ := Aside0.mk (Kd.R_below (by (with_reducible repeat (first | apply Kd.R_alloc | apply Kd.R_drewN | apply Kd.R_drew)); exact HO649.out) hb); have n4_ := Aside0.mk (blk_below (g := gb637) (o := .cells #[.int .i64 t633, .slice Ao11 t634.length co11] 26 (0, 0)) (by (with_reducible repeat (first | refine blk_drewN ?_ _ | refine blk_drew ?_ | refine blk_alloc ?_ _)); exact BK637.out) hb); have n5_ := Aside0.mk (Kd.C_below (by repeat (first | (with_reducible exact HR643_0.out) | (with_reducible refine Kd.C_alloc ?_ _) | (with_reducible refine Kd.C_drewN ?_ _) | (with_reducible refine Kd.C_drew ?_) | exact HR643_0.out)) hb); have n6_ := Aside0.mk (blk_below (g := gb651) (o := .cells #[.int .i64 t646, .slice Ao30 t647.length co30] 26 (0, 0)) (by (with_reducible repeat (first | refine blk_drewN ?_ _ | refine blk_drew ?_ | refine blk_alloc ?_ _)); exact BK651.out) hb); have n7_ := Aside0.mk (below_step (by repeat (first | (with_reducible first | exact HB.out | apply below_alloc | apply pw_below_drewN | apply below_drew1 | refine below_set ?_ GE637.out | refine below_set ?_ GE651.out) | exact HB.out)) hb); clear HO_7; clear HO_638001; clear HL643_0; clear HO649; clear BK637; clear HR643_0; clear BK651; clear HB; have HO_7 := n0_; have HO_638001 := n1_; have HL643_0 := n2_; have HO649 := n3_; have BK637 := n4_; have HR643_0 := n5_; have BK651 := n6_; have HB := n7_; clear n0_ n1_ n2_ n3_ n4_ n5_ n6_ n7_; (try clear hb); (try clear hb2); (try clear hk); (try clear hi)))
                          repeat (go_quiet (first | (go_at_call 18; (with_reducible refine (impl_ValidCounter.calls t646 _ _ t647 true _ ?side1 ?side2 A32.out).mono ?_); (case side1 => refine (Kd.R_reads' (e := 2) (base := w.heap.size) (ok := fun k_ => ((True ∧ some k_ ≠ (.slice Ao11 t634.length co11 : Value).ownBlock) ∧ some k_ ≠ (.slice (some ad645) (rd_L1 t638 t642).length c643_0 : Value).ownBlock)) (n := t647.length) (c := co30) ?_).2.2; exact (by (with_reducible repeat (first | apply Kd.R_alloc | apply Kd.R_drewN | apply Kd.R_drew)); exact (Kd.R_mono (Kd.R_far (p := ⟨gb651, 1, none⟩) (Kd.R_far (p := ⟨gb651, 0, none⟩) (Kd.R_types HO649.out BK651.out (by decide)) (fun _ hk => hk.2) (.int .i64 t646)) (fun _ hk => hk.2) (.slice Ao30 t647.length co30)) (fun _ h_ => h_.1)))); (case side2 => exact (Kd.R_reads' HO649.out).2.1); rintro e w38 ⟨rfl, hb⟩; have n0_ := Aside0.mk (Kd.S_below (by (with_reducible repeat (first | apply Kd.S_alloc | apply Kd.S_drewN | apply Kd.S_drew)); exact (Kd.S_mono (Kd.S_far (p := ⟨gb651, 1, none⟩) (Kd.S_far (p := ⟨gb651, 0, none⟩) (Kd.S_types HO_7.out BK651.out (by decide)) (fun _ hk => hk.2) (.int .i64 t646)) (fun _ hk => hk.2) (.slice Ao30 t647.length co30)) (fun _ h_ => h_.1))) hb); have n1_ := Aside0.mk (Kd.R_below (by (with_reducible repeat (first | apply Kd.R_alloc | apply Kd.R_drewN | apply Kd.R_drew)); exact (Kd.R_mono (Kd.R_far (p := ⟨gb651, 1, none⟩) (Kd.R_far (p := ⟨gb651, 0, none⟩) (Kd.R_types HO_638001.out BK651.out (by decide)) (fun _ hk => hk.2) (.int .i64 t646)) (fun _ hk => hk.2) (.slice Ao30 t647.length co30)) (fun _ h_ => h_.1))) hb); have n2_ := Aside0.mk (Kd.R_below (by (with_reducible repeat (first | apply Kd.R_alloc | apply Kd.R_drewN | apply Kd.R_drew)); exact (Kd.R_mono (Kd.R_far (p := ⟨gb651, 1, none⟩) (Kd.R_far (p := ⟨gb651, 0, none⟩) (Kd.R_types HL643_0.out BK651.out (by decide)) (fun _ hk => hk.2) (.int .i64 t646)) (fun _ hk => hk.2) (.slice Ao30 t647.length co30)) (fun _ h_ => h_.1))) hb); have n3_ := Aside0.mk (Kd.R_below (by (with_reducible repeat (first | apply Kd.R_alloc | apply Kd.R_drewN | apply Kd.R_drew)); exact (Kd.R_mono (Kd.R_far (p := ⟨gb651, 1, none⟩) (Kd.R_far (p := ⟨gb651, 0, none⟩) (Kd.R_types HO649.out BK651.out (by decide)) (fun _ hk => hk.2) (.int .i64 t646)) (fun _ hk => hk.2) (.slice Ao30 t647.length co30)) (fun _ h_ => h_.1))) hb); have n4_ := Aside0.mk (blk_below (g := gb637) (o := .cells #[.int .i64 t633, .slice Ao11 t634.length co11] 26 (0, 0)) (by (with_reducible repeat (first | refine blk_drewN ?_ _ | refine blk_drew ?_ | refine blk_alloc ?_ _)); refine blk_far ?_ NB637_651.out _; (with_reducible repeat (first | refine blk_drewN ?_ _ | refine blk_drew ?_ | refine blk_alloc ?_ _)); refine blk_far ?_ NB637_651.out _; (with_reducible repeat (first | refine blk_drewN ?_ _ | refine blk_drew ?_ | refine blk_alloc ?_ _)); exact BK637.out) hb); have n5_ := Aside0.mk (Kd.C_below ((Kd.R_reads' (by (with_reducible repeat (first | apply Kd.R_alloc | apply Kd.R_drewN | apply Kd.R_drew)); exact (Kd.R_mono (Kd.R_far (p := ⟨gb651, 1, none⟩) (Kd.R_far (p := ⟨gb651, 0, none⟩) (Kd.R_types HL643_0.out BK651.out (by decide)) (fun _ hk => hk.2) (.int .i64 t646)) (fun _ hk => hk.2) (.slice Ao30 t647.length co30)) (fun _ h_ => h_.1)))).2.2) hb); have n6_ := Aside0.mk (blk_below (g := gb651) (o := .cells #[.int .i64 t646, .slice Ao30 t647.length co30] 26 (0, 0)) (by (with_reducible repeat (first | refine blk_drewN ?_ _ | refine blk_drew ?_ | refine blk_alloc ?_ _)); refine blk_put (cs := #[.int .i64 t646, .slice none 0 0]) ?_ 1 _ rfl; (with_reducible repeat (first | refine blk_drewN ?_ _ | refine blk_drew ?_ | refine blk_alloc ?_ _)); refine blk_put (cs := #[.int .i64 0, .slice none 0 0]) ?_ 0 _ rfl; (with_reducible repeat (first | refine blk_drewN ?_ _ | refine blk_drew ?_ | refine blk_alloc ?_ _)); exact BK651.out) hb); have n7_ := Aside0.mk (below_step (by repeat (first | (with_reducible first | exact HB.out | apply below_alloc | apply pw_below_drewN | apply below_drew1 | refine below_set ?_ GE637.out | refine below_set ?_ GE651.out) | exact HB.out)) hb); clear HO_7; clear HO_638001; clear HL643_0; clear HO649; clear BK637; clear HR643_0; clear BK651; clear HB; have HO_7 := n0_; have HO_638001 := n1_; have HL643_0 := n2_; have HO649 := n3_; have BK637 := n4_; have HR643_0 := n5_; have BK651 := n6_; have HB := n7_; clear n0_ n1_ n2_ n3_ n4_ n5_ n6_ n7_; (try clear hb); (try clear hb2); (try clear hk); (try clear hi); have hcz39_0 : w38.cell? ⟨gb651, 0, none⟩ = some (.int .i64 t646) := (blk_cell BK651.out 0).trans rfl; have hcz39_1 : w38.cell? ⟨gb651, 1, none⟩ = some (.slice Ao30 t647.length co30) := (blk_cell BK651.out 1).trans rfl; have hfz39_0 := blk_frozen BK651.out 0; have hfz39_1 := blk_frozen BK651.out 1; have hcz40_0 : w38.cell? ⟨gb637, 0, none⟩ = some (.int .i64 t633) := (blk_cell BK637.out 0).trans rfl; have hcz40_1 : w38.cell? ⟨gb637, 1, none⟩ = some (.slice Ao11 t634.length co11) := (blk_cell BK637.out 1).trans rfl; have hfz40_0 := blk_frozen BK637.out 0; have hfz40_1 := blk_frozen BK637.out 1) | (go_at_call 37; (with_reducible refine (impl_IsSelfStarting.calls kj6 t646 _ _ t647 (rd (rd_L1 t638 t642) t644) t653 _ ?side1 ?side2 A35.out).mono ?_); (case side1 => repeat (first | exact (Kd.R_reads' HO649.out).2.2 | (with_reducible refine Kd.C_alloc ?_ _) | (with_reducible refine Kd.C_drewN ?_ _) | (with_reducible refine Kd.C_drew ?_))); (case side2 => exact (Kd.R_reads' HO649.out).2.1); rintro e w41 ⟨rfl, hb⟩; have n0_ := Aside0.mk (Kd.S_below (by (with_reducible repeat (first | apply Kd.S_alloc | apply Kd.S_drewN | apply Kd.S_drew)); exact HO_7.out) hb); have n1_ := Aside0.mk (Kd.R_below (by (with_reducible repeat (first | apply Kd.R_alloc | apply Kd.R_drewN | apply Kd.R_drew)); exact HO_638001.out) hb); have n2_ := Aside0.mk (Kd.R_below (by (with_reducible repeat (first | apply Kd.R_alloc | apply Kd.R_drewN | apply Kd.R_drew)); exact HL643_0.out) hb); have n3_ := Aside0.mk (Kd.R_below (by (with_reducible repeat (first | apply Kd.R_alloc | apply Kd.R_drewN | apply Kd.R_drew)); exact HO649.out) hb); have n4_ := Aside0.mk (blk_below (g := gb637) (o := .cells #[.int .i64 t633, .slice Ao11 t634.length co11] 26 (0, 0)) (by (with_reducible repeat (first | refine blk_drewN ?_ _ | refine blk_drew ?_ | refine blk_alloc ?_ _)); exact BK637.out) hb); have n5_ := Aside0.mk (Kd.C_below (by repeat (first | (with_reducible exact HR643_0.out) | (with_reducible refine Kd.C_alloc ?_ _) | (with_reducible refine Kd.C_drewN ?_ _) | (with_reducible refine Kd.C_drew ?_) | exact HR643_0.out)) hb); have n6_ := Aside0.mk (blk_below (g := gb651) (o := .cells #[.int .i64 t646, .slice Ao30 t647.length co30] 26 (0, 0)) (by (with_reducible repeat (first | refine blk_drewN ?_ _ | refine blk_drew ?_ | refine blk_alloc ?_ _)); exact BK651.out) hb); have n7_ := Aside0.mk (below_step (by repeat (first | (with_reducible first | exact HB.out | apply below_alloc | apply pw_below_drewN | apply below_drew1 | refine below_set ?_ GE637.out | refine below_set ?_ GE651.out) | exact HB.out)) hb); clear HO_7; clear HO_638001; clear HL643_0; clear HO649; clear BK637; clear HR643_0; clear BK651; clear HB; have HO_7 := n0_; have HO_638001 := n1_; have HL643_0 := n2_; have HO649 := n3_; have BK637 := n4_; have HR643_0 := n5_; have BK651 := n6_; have HB := n7_; clear n0_ n1_ n2_ n3_ n4_ n5_ n6_ n7_; (try clear hb); (try clear hb2); (try clear hk); (try clear hi))); try go_wp2_with (first | (go_at_call 18; (with_reducible refine (impl_ValidCounter.calls t646 _ _ t647 true _ ?side1 ?side2 A32.out).mono ?_); (case side1 => refine (Kd.R_reads' (e := 2) (base := w.heap.size) (ok := fun k_ => ((True ∧ some k_ ≠ (.slice Ao11 t634.length co11 : Value).ownBlock) ∧ some k_ ≠ (.slice (some ad645) (rd_L1 t638 t642).length c643_0 : Value).ownBlock)) (n := t647.length) (c := co30) ?_).2.2; exact (by (with_reducible repeat (first | apply Kd.R_alloc | apply Kd.R_drewN | apply Kd.R_drew)); exact (Kd.R_mono (Kd.R_far (p := ⟨gb651, 1, none⟩) (Kd.R_far (p := ⟨gb651, 0, none⟩) (Kd.R_types HO649.out BK651.out (by decide)) (fun _ hk => hk.2) (.int .i64 t646)) (fun _ hk => hk.2) (.slice Ao30 t647.length co30)) (fun _ h_ => h_.1)))); (case side2 => exact (Kd.R_reads' HO649.out).2.1); rintro e w38 ⟨rfl, hb⟩; have n0_ := Aside0.mk (Kd.S_below (by (with_reducible repeat (first | apply Kd.S_alloc | apply Kd.S_drewN | apply Kd.S_drew)); exact (Kd.S_mono (Kd.S_far (p := ⟨gb651, 1, none⟩) (Kd.S_far (p := ⟨gb651, 0, none⟩) (Kd.S_types HO_7.out BK651.out (by decide)) (fun _ hk => hk.2) (.int .i64 t646)) (fun _ hk => hk.2) (.slice Ao30 t647.length co30)) (fun _ h_ => h_.1))) hb); have n1_ := Aside0.mk (Kd.R_below (by (with_reducible repeat (first | apply Kd.R_alloc | apply Kd.R_drewN | apply Kd.R_drew)); exact (Kd.R_mono (Kd.R_far (p := ⟨gb651, 1, none⟩) (Kd.R_far (p := ⟨gb651, 0, none⟩) (Kd.R_types HO_638001.out BK651.out (by decide)) (fun _ hk => hk.2) (.int .i64 t646)) (fun _ hk => hk.2) (.slice Ao30 t647.length co30)) (fun _ h_ => h_.1))) hb); have n2_ := Aside0.mk (Kd.R_below (by (with_reducible repeat (first | apply Kd.R_alloc | apply Kd.R_drewN | apply Kd.R_drew)); exact (Kd.R_mono (Kd.R_far (p := ⟨gb651, 1, none⟩) (Kd.R_far (p := ⟨gb651, 0, none⟩) (Kd.R_types HL643_0.out BK651.out (by decide)) (fun _ hk => hk.2) (.int .i64 t646)) (fun _ hk => hk.2) (.slice Ao30 t647.length co30)) (fun _ h_ => h_.1))) hb); have n3_ := Aside0.mk (Kd.R_below (by (with_reducible repeat (first | apply Kd.R_alloc | apply Kd.R_drewN | apply Kd.R_drew)); exact (Kd.R_mono (Kd.R_far (p := ⟨gb651, 1, none⟩) (Kd.R_far (p := ⟨gb651, 0, none⟩) (Kd.R_types HO649.out BK651.out (by decide)) (fun _ hk => hk.2) (.int .i64 t646)) (fun _ hk => hk.2) (.slice Ao30 t647.length co30)) (fun _ h_ => h_.1))) hb); have n4_ := Aside0.mk (blk_below (g := gb637) (o := .cells #[.int .i64 t633, .slice Ao11 t634.length co11] 26 (0, 0)) (by (with_reducible repeat (first | refine blk_drewN ?_ _ | refine blk_drew ?_ | refine blk_alloc ?_ _)); refine blk_far ?_ NB637_651.out _; (with_reducible repeat (first | refine blk_drewN ?_ _ | refine blk_drew ?_ | refine blk_alloc ?_ _)); refine blk_far ?_ NB637_651.out _; (with_reducible repeat (first | refine blk_drewN ?_ _ | refine blk_drew ?_ | refine blk_alloc ?_ _)); exact BK637.out) hb); have n5_ := Aside0.mk (Kd.C_below ((Kd.R_reads' (by (with_reducible repeat (first | apply Kd.R_alloc | apply Kd.R_drewN | apply Kd.R_drew)); exact (Kd.R_mono (Kd.R_far (p := ⟨gb651, 1, none⟩) (Kd.R_far (p := ⟨gb651, 0, none⟩) (Kd.R_types HL643_0.out BK651.out (by decide)) (fun _ hk => hk.2) (.int .i64 t646)) (fun _ hk => hk.2) (.slice Ao30 t647.length co30)) (fun _ h_ => h_.1)))).2.2) hb); have n6_ := Aside0.mk (blk_below (g := gb651) (o := .cells #[.int .i64 t646, .slice Ao30 t647.length co30] 26 (0, 0)) (by (with_reducible repeat (first | refine blk_drewN ?_ _ | refine blk_drew ?_ | refine blk_alloc ?_ _)); refine blk_put (cs := #[.int .i64 t646, .slice none 0 0]) ?_ 1 _ rfl; (with_reducible repeat (first | refine blk_drewN ?_ _ | refine blk_drew ?_ | refine blk_alloc ?_ _)); refine blk_put (cs := #[.int .i64 0, .slice none 0 0]) ?_ 0 _ rfl; (with_reducible repeat (first | refine blk_drewN ?_ _ | refine blk_drew ?_ | refine blk_alloc ?_ _)); exact BK651.out) hb); have n7_ := Aside0.mk (below_step (by repeat (first | (with_reducible first | exact HB.out | apply below_alloc | apply pw_below_drewN | apply below_drew1 | refine below_set ?_ GE637.out | refine below_set ?_ GE651.out) | exact HB.out)) hb); clear HO_7; clear HO_638001; clear HL643_0; clear HO649; clear BK637; clear HR643_0; clear BK651; clear HB; have HO_7 := n0_; have HO_638001 := n1_; have HL643_0 := n2_; have HO649 := n3_; have BK637 := n4_; have HR643_0 := n5_; have BK651 := n6_; have HB := n7_; clear n0_ n1_ n2_ n3_ n4_ n5_ n6_ n7_; (try clear hb); (try clear hb2); (try clear hk); (try clear hi); have hcz39_0 : w38.cell? ⟨gb651, 0, none⟩ = some (.int .i64 t646) := (blk_cell BK651.out 0).trans rfl; have hcz39_1 : w38.cell? ⟨gb651, 1, none⟩ = some (.slice Ao30 t647.length co30) := (blk_cell BK651.out 1).trans rfl; have hfz39_0 := blk_frozen BK651.out 0; have hfz39_1 := blk_frozen BK651.out 1; have hcz40_0 : w38.cell? ⟨gb637, 0, none⟩ = some (.int .i64 t633) := (blk_cell BK637.out 0).trans rfl; have hcz40_1 : w38.cell? ⟨gb637, 1, none⟩ = some (.slice Ao11 t634.length co11) := (blk_cell BK637.out 1).trans rfl; have hfz40_0 := blk_frozen BK637.out 0; have hfz40_1 := blk_frozen BK637.out 1) | (go_at_call 37; (with_reducible refine (impl_IsSelfStarting.calls kj6 t646 _ _ t647 (rd (rd_L1 t638 t642) t644) t653 _ ?side1 ?side2 A35.out).mono ?_); (case side1 => repeat (first | exact (Kd.R_reads' HO649.out).2.2 | (with_reducible refine Kd.C_alloc ?_ _) | (with_reducible refine Kd.C_drewN ?_ _) | (with_reducible refine Kd.C_drew ?_))); (case side2 => exact (Kd.R_reads' HO649.out).2.1); rintro e w41 ⟨rfl, hb⟩; have n0_ := Aside0.mk (Kd.S_below (by (with_reducible repeat (first | apply Kd.S_alloc | apply Kd.S_drewN | apply Kd.S_drew)); exact HO_7.out) hb); have n1_ := Aside0.mk (Kd.R_below (by (with_reducible repeat (first | apply Kd.R_alloc | apply Kd.R_drewN | apply Kd.R_drew)); exact HO_638001.out) hb); have n2_ := Aside0.mk (Kd.R_below (by (with_reducible repeat (first | apply Kd.R_alloc | apply Kd.R_drewN | apply Kd.R_drew)); exact HL643_0.out) hb); have n3_ := Aside0.mk (Kd.R_below (by (with_reducible repeat (first | apply Kd.R_alloc | apply Kd.R_drewN | apply Kd.R_drew)); exact HO649.out) hb); have n4_ := Aside0.mk (blk_below (g := gb637) (o := .cells #[.int .i64 t633, .slice Ao11 t634.length co11] 26 (0, 0)) (by (with_reducible repeat (first | refine blk_drewN ?_ _ | refine blk_drew ?_ | refine blk_alloc ?_ _)); exact BK637.out) hb); have n5_ := Aside0.mk (Kd.C_below (by repeat (first | (with_reducible exact HR643_0.out) | (with_reducible refine Kd.C_alloc ?_ _) | (with_reducible refine Kd.C_drewN ?_ _) | (with_reducible refine Kd.C_drew ?_) | exact HR643_0.out)) hb); have n6_ := Aside0.mk (blk_below (g := gb651) (o := .cells #[.int .i64 t646, .slice Ao30 t647.length co30] 26 (0, 0)) (by (with_reducible repeat (first | refine blk_drewN ?_ _ | refine blk_drew ?_ | refine blk_alloc ?_ _)); exact BK651.out) hb); have n7_ := Aside0.mk (below_step (by repeat (first | (with_reducible first | exact HB.out | apply below_alloc | apply pw_below_drewN | apply below_drew1 | refine below_set ?_ GE637.out | refine below_set ?_ GE651.out) | exact HB.out)) hb); clear HO_7; clear HO_638001; clear HL643_0; clear HO649; clear BK637; clear HR643_0; clear BK651; clear HB; have HO_7 := n0_; have HO_638001 := n1_; have HL643_0 := n2_; have HO649 := n3_; have BK637 := n4_; have HR643_0 := n5_; have BK651 := n6_; have HB := n7_; clear n0_ n1_ n2_ n3_ n4_ n5_ n6_ n7_; (try clear hb); (try clear hb2); (try clear hk); (try clear hi))))
                          go_meet
                          case rel => exact ⟨_, (!t653), (by first | rfl | (simp; done) | (simp [*]; done)), H', ⟨by have := HJ6.out; first | omega | exact Nat.le_refl _⟩, ⟨by (with_reducible repeat (first | apply Kd.S_alloc | apply Kd.S_drewN | apply Kd.S_drew)); exact HO_7.out⟩, ⟨by (with_reducible repeat (first | apply Kd.R_alloc | apply Kd.R_drewN | apply Kd.R_drew)); exact Kd.R_mono HO_638001.out (fun _ hk => hk.2)⟩, ⟨by (with_reducible repeat (first | apply Kd.R_alloc | apply Kd.R_drewN | apply Kd.R_drew)); exact Kd.R_mono HO649.out (fun _ hk => hk.1.2)⟩, ⟨by (with_reducible repeat (first | refine blk_drewN ?_ _ | refine blk_drew ?_ | refine blk_alloc ?_ _)); exact BK637.out⟩, ⟨by (with_reducible repeat (first | refine blk_drewN ?_ _ | refine blk_drew ?_ | refine blk_alloc ?_ _)); exact BK651.out⟩, ⟨by repeat (first | (with_reducible exact HR643_0.out) | (with_reducible refine Kd.C_alloc ?_ _) | (with_reducible refine Kd.C_drewN ?_ _) | (with_reducible refine Kd.C_drew ?_) | exact HR643_0.out)⟩, ⟨by repeat (first | (with_reducible first | exact HB.out | apply below_alloc | apply pw_below_drewN | apply below_drew1 | refine below_set ?_ GE637.out | refine below_set ?_ GE651.out) | exact HB.out)⟩⟩
                        · rw [if_neg c34] at H
                          have c34b0 : (t646 == t633) = false := beq_eq_false_iff_ne.mpr c34
                          have c34b1 : (t646 != t633) = true := bne_iff_ne.mpr c34
                          (first | rw [c34b0] | (simp only [i64_w, i32_w]; rw [c34b0]) | skip)
                          have H' := Aside0.mk H
                          clear H
                          have hnb42 := NB651_637.out
                          have hnc42 := NB637_651.out
                          have hcz43_0 : w27.cell? ⟨gb651, 0, none⟩ = some (.int .i64 0) := (blk_cell BK651.out 0).trans rfl
                          have hcz43_1 : w27.cell? ⟨gb651, 1, none⟩ = some (.slice none 0 0) := (blk_cell BK651.out 1).trans rfl
                          have hfz43_0 := blk_frozen BK651.out 0
                          have hfz43_1 := blk_frozen BK651.out 1
                          go_wp2_with (first | (go_at_call 18; (with_reducible refine (impl_ValidCounter.calls t646 _ _ t647 true _ ?side1 ?side2 A32.out).mono ?_); (case side1 => refine (Kd.R_reads' (e := 2) (base := w.heap.size) (ok := fun k_ => ((True ∧ some k_ ≠ (.slice Ao11 t634.length co11 : Value).ownBlock) ∧ some k_ ≠ (.slice (some ad645) (rd_L1 t638 t642).length c643_0 : Value).ownBlock)) (n := t647.length) (c := co30) ?_).2.2; exact (by (with_reducible repeat (first | apply Kd.R_alloc | apply Kd.R_drewN | apply Kd.R_drew)); exact (Kd.R_mono (Kd.R_far (p := ⟨gb651, 1, none⟩) (Kd.R_far (p := ⟨gb651, 0, none⟩) (Kd.R_types HO649.out BK651.out (by decide)) (fun _ hk => hk.2) (.int .i64 t646)) (fun _ hk => hk.2) (.slice Ao30 t647.length co30)) (fun _ h_ => h_.1)))); (case side2 => exact (Kd.R_reads' HO649.out).2.1); rintro e w44 ⟨rfl, hb⟩; have n0_ := Aside0.mk (Kd.S_below (by (with_reducible repeat (first | apply Kd.S_alloc | apply Kd.S_drewN | apply Kd.S_drew)); exact (Kd.S_mono (Kd.S_far (p := ⟨gb651, 1, none⟩) (Kd.S_far (p := ⟨gb651, 0, none⟩) (Kd.S_types HO_7.out BK651.out (by decide)) (fun _ hk => hk.2) (.int .i64 t646)) (fun _ hk => hk.2) (.slice Ao30 t647.length co30)) (fun _ h_ => h_.1))) hb); have n1_ := Aside0.mk (Kd.R_below (by (with_reducible repeat (first | apply Kd.R_alloc | apply Kd.R_drewN | apply Kd.R_drew)); exact (Kd.R_mono (Kd.R_far (p := ⟨gb651, 1, none⟩) (Kd.R_far (p := ⟨gb651, 0, none⟩) (Kd.R_types HO_638001.out BK651.out (by decide)) (fun _ hk => hk.2) (.int .i64 t646)) (fun _ hk => hk.2) (.slice Ao30 t647.length co30)) (fun _ h_ => h_.1))) hb); have n2_ := Aside0.mk (Kd.R_below (by (with_reducible repeat (first | apply Kd.R_alloc | apply Kd.R_drewN | apply Kd.R_drew)); exact (Kd.R_mono (Kd.R_far (p := ⟨gb651, 1, none⟩) (Kd.R_far (p := ⟨gb651, 0, none⟩) (Kd.R_types HL643_0.out BK651.out (by decide)) (fun _ hk => hk.2) (.int .i64 t646)) (fun _ hk => hk.2) (.slice Ao30 t647.length co30)) (fun _ h_ => h_.1))) hb); have n3_ := Aside0.mk (Kd.R_below (by (with_reducible repeat (first | apply Kd.R_alloc | apply Kd.R_drewN | apply Kd.R_drew)); exact (Kd.R_mono (Kd.R_far (p := ⟨gb651, 1, none⟩) (Kd.R_far (p := ⟨gb651, 0, none⟩) (Kd.R_types HO649.out BK651.out (by decide)) (fun _ hk => hk.2) (.int .i64 t646)) (fun _ hk => hk.2) (.slice Ao30 t647.length co30)) (fun _ h_ => h_.1))) hb); have n4_ := Aside0.mk (blk_below (g := gb637) (o := .cells #[.int .i64 t633, .slice Ao11 t634.length co11] 26 (0, 0)) (by (with_reducible repeat (first | refine blk_drewN ?_ _ | refine blk_drew ?_ | refine blk_alloc ?_ _)); refine blk_far ?_ NB637_651.out _; (with_reducible repeat (first | refine blk_drewN ?_ _ | refine blk_drew ?_ | refine blk_alloc ?_ _)); refine blk_far ?_ NB637_651.out _; (with_reducible repeat (first | refine blk_drewN ?_ _ | refine blk_drew ?_ | refine blk_alloc ?_ _)); exact BK637.out) hb); have n5_ := Aside0.mk (Kd.C_below ((Kd.R_reads' (by (with_reducible repeat (first | apply Kd.R_alloc | apply Kd.R_drewN | apply Kd.R_drew)); exact (Kd.R_mono (Kd.R_far (p := ⟨gb651, 1, none⟩) (Kd.R_far (p := ⟨gb651, 0, none⟩) (Kd.R_types HL643_0.out BK651.out (by decide)) (fun _ hk => hk.2) (.int .i64 t646)) (fun _ hk => hk.2) (.slice Ao30 t647.length co30)) (fun _ h_ => h_.1)))).2.2) hb); have n6_ := Aside0.mk (blk_below (g := gb651) (o := .cells #[.int .i64 t646, .slice Ao30 t647.length co30] 26 (0, 0)) (by (with_reducible repeat (first | refine blk_drewN ?_ _ | refine blk_drew ?_ | refine blk_alloc ?_ _)); refine blk_put (cs := #[.int .i64 t646, .slice none 0 0]) ?_ 1 _ rfl; (with_reducible repeat (first | refine blk_drewN ?_ _ | refine blk_drew ?_ | refine blk_alloc ?_ _)); refine blk_put (cs := #[.int .i64 0, .slice none 0 0]) ?_ 0 _ rfl; (with_reducible repeat (first | refine blk_drewN ?_ _ | refine blk_drew ?_ | refine blk_alloc ?_ _)); exact BK651.out) hb); have n7_ := Aside0.mk (below_step (by repeat (first | (with_reducible first | exact HB.out | apply below_alloc | apply pw_below_drewN | apply below_drew1 | refine below_set ?_ GE637.out | refine below_set ?_ GE651.out) | exact HB.out)) hb); clear HO_7; clear HO_638001; clear HL643_0; clear HO649; clear BK637; clear HR643_0; clear BK651; clear HB; have HO_7 := n0_; have HO_638001 := n1_; have HL643_0 := n2_; have HO649 := n3_; have BK637 := n4_; have HR643_0 := n5_; have BK651 := n6_; have HB := n7_; clear n0_ n1_ n2_ n3_ n4_ n5_ n6_ n7_; (try clear hb); (try clear hb2); (try clear hk); (try clear hi); have hcz45_0 : w44.cell? ⟨gb651, 0, none⟩ = some (.int .i64 t646) := (blk_cell BK651.out 0).trans rfl; have hcz45_1 : w44.cell? ⟨gb651, 1, none⟩ = some (.slice Ao30 t647.length co30) := (blk_cell BK651.out 1).trans rfl; have hfz45_0 := blk_frozen BK651.out 0; have hfz45_1 := blk_frozen BK651.out 1; have hcz46_0 : w44.cell? ⟨gb637, 0, none⟩ = some (.int .i64 t633) := (blk_cell BK637.out 0).trans rfl; have hcz46_1 : w44.cell? ⟨gb637, 1, none⟩ = some (.slice Ao11 t634.length co11) := (blk_cell BK637.out 1).trans rfl; have hfz46_0 := blk_frozen BK637.out 0; have hfz46_1 := blk_frozen BK637.out 1))
                          repeat (go_quiet (first | (go_at_call 18; (with_reducible refine (impl_ValidCounter.calls t646 _ _ t647 true _ ?side1 ?side2 A32.out).mono ?_); (case side1 => refine (Kd.R_reads' (e := 2) (base := w.heap.size) (ok := fun k_ => ((True ∧ some k_ ≠ (.slice Ao11 t634.length co11 : Value).ownBlock) ∧ some k_ ≠ (.slice (some ad645) (rd_L1 t638 t642).length c643_0 : Value).ownBlock)) (n := t647.length) (c := co30) ?_).2.2; exact (by (with_reducible repeat (first | apply Kd.R_alloc | apply Kd.R_drewN | apply Kd.R_drew)); exact (Kd.R_mono (Kd.R_far (p := ⟨gb651, 1, none⟩) (Kd.R_far (p := ⟨gb651, 0, none⟩) (Kd.R_types HO649.out BK651.out (by decide)) (fun _ hk => hk.2) (.int .i64 t646)) (fun _ hk => hk.2) (.slice Ao30 t647.length co30)) (fun _ h_ => h_.1)))); (case side2 => exact (Kd.R_reads' HO649.out).2.1); rintro e w44 ⟨rfl, hb⟩; have n0_ := Aside0.mk (Kd.S_below (by (with_reducible repeat (first | apply Kd.S_alloc | apply Kd.S_drewN | apply Kd.S_drew)); exact (Kd.S_mono (Kd.S_far (p := ⟨gb651, 1, none⟩) (Kd.S_far (p := ⟨gb651, 0, none⟩) (Kd.S_types HO_7.out BK651.out (by decide)) (fun _ hk => hk.2) (.int .i64 t646)) (fun _ hk => hk.2) (.slice Ao30 t647.length co30)) (fun _ h_ => h_.1))) hb); have n1_ := Aside0.mk (Kd.R_below (by (with_reducible repeat (first | apply Kd.R_alloc | apply Kd.R_drewN | apply Kd.R_drew)); exact (Kd.R_mono (Kd.R_far (p := ⟨gb651, 1, none⟩) (Kd.R_far (p := ⟨gb651, 0, none⟩) (Kd.R_types HO_638001.out BK651.out (by decide)) (fun _ hk => hk.2) (.int .i64 t646)) (fun _ hk => hk.2) (.slice Ao30 t647.length co30)) (fun _ h_ => h_.1))) hb); have n2_ := Aside0.mk (Kd.R_below (by (with_reducible repeat (first | apply Kd.R_alloc | apply Kd.R_drewN | apply Kd.R_drew)); exact (Kd.R_mono (Kd.R_far (p := ⟨gb651, 1, none⟩) (Kd.R_far (p := ⟨gb651, 0, none⟩) (Kd.R_types HL643_0.out BK651.out (by decide)) (fun _ hk => hk.2) (.int .i64 t646)) (fun _ hk => hk.2) (.slice Ao30 t647.length co30)) (fun _ h_ => h_.1))) hb); have n3_ := Aside0.mk (Kd.R_below (by (with_reducible repeat (first | apply Kd.R_alloc | apply Kd.R_drewN | apply Kd.R_drew)); exact (Kd.R_mono (Kd.R_far (p := ⟨gb651, 1, none⟩) (Kd.R_far (p := ⟨gb651, 0, none⟩) (Kd.R_types HO649.out BK651.out (by decide)) (fun _ hk => hk.2) (.int .i64 t646)) (fun _ hk => hk.2) (.slice Ao30 t647.length co30)) (fun _ h_ => h_.1))) hb); have n4_ := Aside0.mk (blk_below (g := gb637) (o := .cells #[.int .i64 t633, .slice Ao11 t634.length co11] 26 (0, 0)) (by (with_reducible repeat (first | refine blk_drewN ?_ _ | refine blk_drew ?_ | refine blk_alloc ?_ _)); refine blk_far ?_ NB637_651.out _; (with_reducible repeat (first | refine blk_drewN ?_ _ | refine blk_drew ?_ | refine blk_alloc ?_ _)); refine blk_far ?_ NB637_651.out _; (with_reducible repeat (first | refine blk_drewN ?_ _ | refine blk_drew ?_ | refine blk_alloc ?_ _)); exact BK637.out) hb); have n5_ := Aside0.mk (Kd.C_below ((Kd.R_reads' (by (with_reducible repeat (first | apply Kd.R_alloc | apply Kd.R_drewN | apply Kd.R_drew)); exact (Kd.R_mono (Kd.R_far (p := ⟨gb651, 1, none⟩) (Kd.R_far (p := ⟨gb651, 0, none⟩) (Kd.R_types HL643_0.out BK651.out (by decide)) (fun _ hk => hk.2) (.int .i64 t646)) (fun _ hk => hk.2) (.slice Ao30 t647.length co30)) (fun _ h_ => h_.1)))).2.2) hb); have n6_ := Aside0.mk (blk_below (g := gb651) (o := .cells #[.int .i64 t646, .slice Ao30 t647.length co30] 26 (0, 0)) (by (with_reducible repeat (first | refine blk_drewN ?_ _ | refine blk_drew ?_ | refine blk_alloc ?_ _)); refine blk_put (cs := #[.int .i64 t646, .slice none 0 0]) ?_ 1 _ rfl; (with_reducible repeat (first | refine blk_drewN ?_ _ | refine blk_drew ?_ | refine blk_alloc ?_ _)); refine blk_put (cs := #[.int .i64 0, .slice none 0 0]) ?_ 0 _ rfl; (with_reducible repeat (first | refine blk_drewN ?_ _ | refine blk_drew ?_ | refine blk_alloc ?_ _)); exact BK651.out) hb); have n7_ := Aside0.mk (below_step (by repeat (first | (with_reducible first | exact HB.out | apply below_alloc | apply pw_below_drewN | apply below_drew1 | refine below_set ?_ GE637.out | refine below_set ?_ GE651.out) | exact HB.out)) hb); clear HO_7; clear HO_638001; clear HL643_0; clear HO649; clear BK637; clear HR643_0; clear BK651; clear HB; have HO_7 := n0_; have HO_638001 := n1_; have HL643_0 := n2_; have HO649 := n3_; have BK637 := n4_; have HR643_0 := n5_; have BK651 := n6_; have HB := n7_; clear n0_ n1_ n2_ n3_ n4_ n5_ n6_ n7_; (try clear hb); (try clear hb2); (try clear hk); (try clear hi); have hcz45_0 : w44.cell? ⟨gb651, 0, none⟩ = some (.int .i64 t646) := (blk_cell BK651.out 0).trans rfl; have hcz45_1 : w44.cell? ⟨gb651, 1, none⟩ = some (.slice Ao30 t647.length co30) := (blk_cell BK651.out 1).trans rfl; have hfz45_0 := blk_frozen BK651.out 0; have hfz45_1 := blk_frozen BK651.out 1; have hcz46_0 : w44.cell? ⟨gb637, 0, none⟩ = some (.int .i64 t633) := (blk_cell BK637.out 0).trans rfl; have hcz46_1 : w44.cell? ⟨gb637, 1, none⟩ = some (.slice Ao11 t634.length co11) := (blk_cell BK637.out 1).trans rfl; have hfz46_0 := blk_frozen BK637.out 0; have hfz46_1 := blk_frozen BK637.out 1)); try go_wp2_with (first | (go_at_call 18; (with_reducible refine (impl_ValidCounter.calls t646 _ _ t647 true _ ?side1 ?side2 A32.out).mono ?_); (case side1 => refine (Kd.R_reads' (e := 2) (base := w.heap.size) (ok := fun k_ => ((True ∧ some k_ ≠ (.slice Ao11 t634.length co11 : Value).ownBlock) ∧ some k_ ≠ (.slice (some ad645) (rd_L1 t638 t642).length c643_0 : Value).ownBlock)) (n := t647.length) (c := co30) ?_).2.2; exact (by (with_reducible repeat (first | apply Kd.R_alloc | apply Kd.R_drewN | apply Kd.R_drew)); exact (Kd.R_mono (Kd.R_far (p := ⟨gb651, 1, none⟩) (Kd.R_far (p := ⟨gb651, 0, none⟩) (Kd.R_types HO649.out BK651.out (by decide)) (fun _ hk => hk.2) (.int .i64 t646)) (fun _ hk => hk.2) (.slice Ao30 t647.length co30)) (fun _ h_ => h_.1)))); (case side2 => exact (Kd.R_reads' HO649.out).2.1); rintro e w44 ⟨rfl, hb⟩; have n0_ := Aside0.mk (Kd.S_below (by (with_reducible repeat (first | apply Kd.S_alloc | apply Kd.S_drewN | apply Kd.S_drew)); exact (Kd.S_mono (Kd.S_far (p := ⟨gb651, 1, none⟩) (Kd.S_far (p := ⟨gb651, 0, none⟩) (Kd.S_types HO_7.out BK651.out (by decide)) (fun _ hk => hk.2) (.int .i64 t646)) (fun _ hk => hk.2) (.slice Ao30 t647.length co30)) (fun _ h_ => h_.1))) hb); have n1_ := Aside0.mk (Kd.R_below (by (with_reducible repeat (first | apply Kd.R_alloc | apply Kd.R_drewN | apply Kd.R_drew)); exact (Kd.R_mono (Kd.R_far (p := ⟨gb651, 1, none⟩) (Kd.R_far (p := ⟨gb651, 0, none⟩) (Kd.R_types HO_638001.out BK651.out (by decide)) (fun _ hk => hk.2) (.int .i64 t646)) (fun _ hk => hk.2) (.slice Ao30 t647.length co30)) (fun _ h_ => h_.1))) hb); have n2_ := Aside0.mk (Kd.R_below (by (with_reducible repeat (first | apply Kd.R_alloc | apply Kd.R_drewN | apply Kd.R_drew)); exact (Kd.R_mono (Kd.R_far (p := ⟨gb651, 1, none⟩) (Kd.R_far (p := ⟨gb651, 0, none⟩) (Kd.R_types HL643_0.out BK651.out (by decide)) (fun _ hk => hk.2) (.int .i64 t646)) (fun _ hk => hk.2) (.slice Ao30 t647.length co30)) (fun _ h_ => h_.1))) hb); have n3_ := Aside0.mk (Kd.R_below (by (with_reducible repeat (first | apply Kd.R_alloc | apply Kd.R_drewN | apply Kd.R_drew)); exact (Kd.R_mono (Kd.R_far (p := ⟨gb651, 1, none⟩) (Kd.R_far (p := ⟨gb651, 0, none⟩) (Kd.R_types HO649.out BK651.out (by decide)) (fun _ hk => hk.2) (.int .i64 t646)) (fun _ hk => hk.2) (.slice Ao30 t647.length co30)) (fun _ h_ => h_.1))) hb); have n4_ := Aside0.mk (blk_below (g := gb637) (o := .cells #[.int .i64 t633, .slice Ao11 t634.length co11] 26 (0, 0)) (by (with_reducible repeat (first | refine blk_drewN ?_ _ | refine blk_drew ?_ | refine blk_alloc ?_ _)); refine blk_far ?_ NB637_651.out _; (with_reducible repeat (first | refine blk_drewN ?_ _ | refine blk_drew ?_ | refine blk_alloc ?_ _)); refine blk_far ?_ NB637_651.out _; (with_reducible repeat (first | refine blk_drewN ?_ _ | refine blk_drew ?_ | refine blk_alloc ?_ _)); exact BK637.out) hb); have n5_ := Aside0.mk (Kd.C_below ((Kd.R_reads' (by (with_reducible repeat (first | apply Kd.R_alloc | apply Kd.R_drewN | apply Kd.R_drew)); exact (Kd.R_mono (Kd.R_far (p := ⟨gb651, 1, none⟩) (Kd.R_far (p := ⟨gb651, 0, none⟩) (Kd.R_types HL643_0.out BK651.out (by decide)) (fun _ hk => hk.2) (.int .i64 t646)) (fun _ hk => hk.2) (.slice Ao30 t647.length co30)) (fun _ h_ => h_.1)))).2.2) hb); have n6_ := Aside0.mk (blk_below (g := gb651) (o := .cells #[.int .i64 t646, .slice Ao30 t647.length co30] 26 (0, 0)) (by (with_reducible repeat (first | refine blk_drewN ?_ _ | refine blk_drew ?_ | refine blk_alloc ?_ _)); refine blk_put (cs := #[.int .i64 t646, .slice none 0 0]) ?_ 1 _ rfl; (with_reducible repeat (first | refine blk_drewN ?_ _ | refine blk_drew ?_ | refine blk_alloc ?_ _)); refine blk_put (cs := #[.int .i64 0, .slice none 0 0]) ?_ 0 _ rfl; (with_reducible repeat (first | refine blk_drewN ?_ _ | refine blk_drew ?_ | refine blk_alloc ?_ _)); exact BK651.out) hb); have n7_ := Aside0.mk (below_step (by repeat (first | (with_reducible first | exact HB.out | apply below_alloc | apply pw_below_drewN | apply below_drew1 | refine below_set ?_ GE637.out | refine below_set ?_ GE651.out) | exact HB.out)) hb); clear HO_7; clear HO_638001; clear HL643_0; clear HO649; clear BK637; clear HR643_0; clear BK651; clear HB; have HO_7 := n0_; have HO_638001 := n1_; have HL643_0 := n2_; have HO649 := n3_; have BK637 := n4_; have HR643_0 := n5_; have BK651 := n6_; have HB := n7_; clear n0_ n1_ n2_ n3_ n4_ n5_ n6_ n7_; (try clear hb); (try clear hb2); (try clear hk); (try clear hi); have hcz45_0 : w44.cell? ⟨gb651, 0, none⟩ = some (.int .i64 t646) := (blk_cell BK651.out 0).trans rfl; have hcz45_1 : w44.cell? ⟨gb651, 1, none⟩ = some (.slice Ao30 t647.length co30) := (blk_cell BK651.out 1).trans rfl; have hfz45_0 := blk_frozen BK651.out 0; have hfz45_1 := blk_frozen BK651.out 1; have hcz46_0 : w44.cell? ⟨gb637, 0, none⟩ = some (.int .i64 t633) := (blk_cell BK637.out 0).trans rfl; have hcz46_1 : w44.cell? ⟨gb637, 1, none⟩ = some (.slice Ao11 t634.length co11) := (blk_cell BK637.out 1).trans rfl; have hfz46_0 := blk_frozen BK637.out 0; have hfz46_1 := blk_frozen BK637.out 1)))
                          go_meet
                          case rel => exact ⟨_, (true), (by first | rfl | (simp; done) | (simp [*]; done)), H', ⟨by have := HJ6.out; first | omega | exact Nat.le_refl _⟩, ⟨by (with_reducible repeat (first | apply Kd.S_alloc | apply Kd.S_drewN | apply Kd.S_drew)); exact HO_7.out⟩, ⟨by (with_reducible repeat (first | apply Kd.R_alloc | apply Kd.R_drewN | apply Kd.R_drew)); exact Kd.R_mono HO_638001.out (fun _ hk => hk.2)⟩, ⟨by (with_reducible repeat (first | apply Kd.R_alloc | apply Kd.R_drewN | apply Kd.R_drew)); exact Kd.R_mono HO649.out (fun _ hk => hk.1.2)⟩, ⟨by (with_reducible repeat (first | refine blk_drewN ?_ _ | refine blk_drew ?_ | refine blk_alloc ?_ _)); exact BK637.out⟩, ⟨by (with_reducible repeat (first | refine blk_drewN ?_ _ | refine blk_drew ?_ | refine blk_alloc ?_ _)); exact BK651.out⟩, ⟨by repeat (first | (with_reducible exact HR643_0.out) | (with_reducible refine Kd.C_alloc ?_ _) | (with_reducible refine Kd.C_drewN ?_ _) | (with_reducible refine Kd.C_drew ?_) | exact HR643_0.out)⟩, ⟨by repeat (first | (with_reducible first | exact HB.out | apply below_alloc | apply pw_below_drewN | apply below_drew1 | refine below_set ?_ GE637.out | refine below_set ?_ GE651.out) | exact HB.out)⟩⟩
                      · replace c33 := Bool.eq_false_iff.mpr c33
                        subst c33
                        have H1 : (laws_FnMended.j1 kj6 l1 (t634.length : Int) t638 true t633 t634 t646 t647) = some r := by rw [if_neg (show ¬ (false = true) by decide)] at H; exact H
                        clear H
                        have H := H1
                        clear H1
                        have H' := Aside0.mk H
                        clear H
                        have hnb47 := NB651_637.out
                        have hnc47 := NB637_651.out
                        have hcz48_0 : w27.cell? ⟨gb651, 0, none⟩ = some (.int .i64 0) := (blk_cell BK651.out 0).trans rfl
                        have hcz48_1 : w27.cell? ⟨gb651, 1, none⟩ = some (.slice none 0 0) := (blk_cell BK651.out 1).trans rfl
                        have hfz48_0 := blk_frozen BK651.out 0
                        have hfz48_1 := blk_frozen BK651.out 1
                        go_wp2_with (first | (go_at_call 18; (with_reducible refine (impl_ValidCounter.calls t646 _ _ t647 false _ ?side1 ?side2 A32.out).mono ?_); (case side1 => refine (Kd.R_reads' (e := 2) (base := w.heap.size) (ok := fun k_ => ((True ∧ some k_ ≠ (.slice Ao11 t634.length co11 : Value).ownBlock) ∧ some k_ ≠ (.slice (some ad645) (rd_L1 t638 t642).length c643_0 : Value).ownBlock)) (n := t647.length) (c := co30) ?_).2.2; exact (by (with_reducible repeat (first | apply Kd.R_alloc | apply Kd.R_drewN | apply Kd.R_drew)); exact (Kd.R_mono (Kd.R_far (p := ⟨gb651, 1, none⟩) (Kd.R_far (p := ⟨gb651, 0, none⟩) (Kd.R_types HO649.out BK651.out (by decide)) (fun _ hk => hk.2) (.int .i64 t646)) (fun _ hk => hk.2) (.slice Ao30 t647.length co30)) (fun _ h_ => h_.1)))); (case side2 => exact (Kd.R_reads' HO649.out).2.1); rintro e w49 ⟨rfl, hb⟩; have n0_ := Aside0.mk (Kd.S_below (by (with_reducible repeat (first | apply Kd.S_alloc | apply Kd.S_drewN | apply Kd.S_drew)); exact (Kd.S_mono (Kd.S_far (p := ⟨gb651, 1, none⟩) (Kd.S_far (p := ⟨gb651, 0, none⟩) (Kd.S_types HO_7.out BK651.out (by decide)) (fun _ hk => hk.2) (.int .i64 t646)) (fun _ hk => hk.2) (.slice Ao30 t647.length co30)) (fun _ h_ => h_.1))) hb); have n1_ := Aside0.mk (Kd.R_below (by (with_reducible repeat (first | apply Kd.R_alloc | apply Kd.R_drewN | apply Kd.R_drew)); exact (Kd.R_mono (Kd.R_far (p := ⟨gb651, 1, none⟩) (Kd.R_far (p := ⟨gb651, 0, none⟩) (Kd.R_types HO_638001.out BK651.out (by decide)) (fun _ hk => hk.2) (.int .i64 t646)) (fun _ hk => hk.2) (.slice Ao30 t647.length co30)) (fun _ h_ => h_.1))) hb); have n2_ := Aside0.mk (Kd.R_below (by (with_reducible repeat (first | apply Kd.R_alloc | apply Kd.R_drewN | apply Kd.R_drew)); exact (Kd.R_mono (Kd.R_far (p := ⟨gb651, 1, none⟩) (Kd.R_far (p := ⟨gb651, 0, none⟩) (Kd.R_types HL643_0.out BK651.out (by decide)) (fun _ hk => hk.2) (.int .i64 t646)) (fun _ hk => hk.2) (.slice Ao30 t647.length co30)) (fun _ h_ => h_.1))) hb); have n3_ := Aside0.mk (Kd.R_below (by (with_reducible repeat (first | apply Kd.R_alloc | apply Kd.R_drewN | apply Kd.R_drew)); exact (Kd.R_mono (Kd.R_far (p := ⟨gb651, 1, none⟩) (Kd.R_far (p := ⟨gb651, 0, none⟩) (Kd.R_types HO649.out BK651.out (by decide)) (fun _ hk => hk.2) (.int .i64 t646)) (fun _ hk => hk.2) (.slice Ao30 t647.length co30)) (fun _ h_ => h_.1))) hb); have n4_ := Aside0.mk (blk_below (g := gb637) (o := .cells #[.int .i64 t633, .slice Ao11 t634.length co11] 26 (0, 0)) (by (with_reducible repeat (first | refine blk_drewN ?_ _ | refine blk_drew ?_ | refine blk_alloc ?_ _)); refine blk_far ?_ NB637_651.out _; (with_reducible repeat (first | refine blk_drewN ?_ _ | refine blk_drew ?_ | refine blk_alloc ?_ _)); refine blk_far ?_ NB637_651.out _; (with_reducible repeat (first | refine blk_drewN ?_ _ | refine blk_drew ?_ | refine blk_alloc ?_ _)); exact BK637.out) hb); have n5_ := Aside0.mk (Kd.C_below ((Kd.R_reads' (by (with_reducible repeat (first | apply Kd.R_alloc | apply Kd.R_drewN | apply Kd.R_drew)); exact (Kd.R_mono (Kd.R_far (p := ⟨gb651, 1, none⟩) (Kd.R_far (p := ⟨gb651, 0, none⟩) (Kd.R_types HL643_0.out BK651.out (by decide)) (fun _ hk => hk.2) (.int .i64 t646)) (fun _ hk => hk.2) (.slice Ao30 t647.length co30)) (fun _ h_ => h_.1)))).2.2) hb); have n6_ := Aside0.mk (blk_below (g := gb651) (o := .cells #[.int .i64 t646, .slice Ao30 t647.length co30] 26 (0, 0)) (by (with_reducible repeat (first | refine blk_drewN ?_ _ | refine blk_drew ?_ | refine blk_alloc ?_ _)); refine blk_put (cs := #[.int .i64 t646, .slice none 0 0]) ?_ 1 _ rfl; (with_reducible repeat (first | refine blk_drewN ?_ _ | refine blk_drew ?_ | refine blk_alloc ?_ _)); refine blk_put (cs := #[.int .i64 0, .slice none 0 0]) ?_ 0 _ rfl; (with_reducible repeat (first | refine blk_drewN ?_ _ | refine blk_drew ?_ | refine blk_alloc ?_ _)); exact BK651.out) hb); have n7_ := Aside0.mk (below_step (by repeat (first | (with_reducible first | exact HB.out | apply below_alloc | apply pw_below_drewN | apply below_drew1 | refine below_set ?_ GE637.out | refine below_set ?_ GE651.out) | exact HB.out)) hb); clear HO_7; clear HO_638001; clear HL643_0; clear HO649; clear BK637; clear HR643_0; clear BK651; clear HB; have HO_7 := n0_; have HO_638001 := n1_; have HL643_0 := n2_; have HO649 := n3_; have BK637 := n4_; have HR643_0 := n5_; have BK651 := n6_; have HB := n7_; clear n0_ n1_ n2_ n3_ n4_ n5_ n6_ n7_; (try clear hb); (try clear hb2); (try clear hk); (try clear hi)))
                        repeat (go_quiet (first | (go_at_call 18; (with_reducible refine (impl_ValidCounter.calls t646 _ _ t647 false _ ?side1 ?side2 A32.out).mono ?_); (case side1 => refine (Kd.R_reads' (e := 2) (base := w.heap.size) (ok := fun k_ => ((True ∧ some k_ ≠ (.slice Ao11 t634.length co11 : Value).ownBlock) ∧ some k_ ≠ (.slice (some ad645) (rd_L1 t638 t642).length c643_0 : Value).ownBlock)) (n := t647.length) (c := co30) ?_).2.2; exact (by (with_reducible repeat (first | apply Kd.R_alloc | apply Kd.R_drewN | apply Kd.R_drew)); exact (Kd.R_mono (Kd.R_far (p := ⟨gb651, 1, none⟩) (Kd.R_far (p := ⟨gb651, 0, none⟩) (Kd.R_types HO649.out BK651.out (by decide)) (fun _ hk => hk.2) (.int .i64 t646)) (fun _ hk => hk.2) (.slice Ao30 t647.length co30)) (fun _ h_ => h_.1)))); (case side2 => exact (Kd.R_reads' HO649.out).2.1); rintro e w49 ⟨rfl, hb⟩; have n0_ := Aside0.mk (Kd.S_below (by (with_reducible repeat (first | apply Kd.S_alloc | apply Kd.S_drewN | apply Kd.S_drew)); exact (Kd.S_mono (Kd.S_far (p := ⟨gb651, 1, none⟩) (Kd.S_far (p := ⟨gb651, 0, none⟩) (Kd.S_types HO_7.out BK651.out (by decide)) (fun _ hk => hk.2) (.int .i64 t646)) (fun _ hk => hk.2) (.slice Ao30 t647.length co30)) (fun _ h_ => h_.1))) hb); have n1_ := Aside0.mk (Kd.R_below (by (with_reducible repeat (first | apply Kd.R_alloc | apply Kd.R_drewN | apply Kd.R_drew)); exact (Kd.R_mono (Kd.R_far (p := ⟨gb651, 1, none⟩) (Kd.R_far (p := ⟨gb651, 0, none⟩) (Kd.R_types HO_638001.out BK651.out (by decide)) (fun _ hk => hk.2) (.int .i64 t646)) (fun _ hk => hk.2) (.slice Ao30 t647.length co30)) (fun _ h_ => h_.1))) hb); have n2_ := Aside0.mk (Kd.R_below (by (with_reducible repeat (first | apply Kd.R_alloc | apply Kd.R_drewN | apply Kd.R_drew)); exact (Kd.R_mono (Kd.R_far (p := ⟨gb651, 1, none⟩) (Kd.R_far (p := ⟨gb651, 0, none⟩) (Kd.R_types HL643_0.out BK651.out (by decide)) (fun _ hk => hk.2) (.int .i64 t646)) (fun _ hk => hk.2) (.slice Ao30 t647.length co30)) (fun _ h_ => h_.1))) hb); have n3_ := Aside0.mk (Kd.R_below (by (with_reducible repeat (first | apply Kd.R_alloc | apply Kd.R_drewN | apply Kd.R_drew)); exact (Kd.R_mono (Kd.R_far (p := ⟨gb651, 1, none⟩) (Kd.R_far (p := ⟨gb651, 0, none⟩) (Kd.R_types HO649.out BK651.out (by decide)) (fun _ hk => hk.2) (.int .i64 t646)) (fun _ hk => hk.2) (.slice Ao30 t647.length co30)) (fun _ h_ => h_.1))) hb); have n4_ := Aside0.mk (blk_below (g := gb637) (o := .cells #[.int .i64 t633, .slice Ao11 t634.length co11] 26 (0, 0)) (by (with_reducible repeat (first | refine blk_drewN ?_ _ | refine blk_drew ?_ | refine blk_alloc ?_ _)); refine blk_far ?_ NB637_651.out _; (with_reducible repeat (first | refine blk_drewN ?_ _ | refine blk_drew ?_ | refine blk_alloc ?_ _)); refine blk_far ?_ NB637_651.out _; (with_reducible repeat (first | refine blk_drewN ?_ _ | refine blk_drew ?_ | refine blk_alloc ?_ _)); exact BK637.out) hb); have n5_ := Aside0.mk (Kd.C_below ((Kd.R_reads' (by (with_reducible repeat (first | apply Kd.R_alloc | apply Kd.R_drewN | apply Kd.R_drew)); exact (Kd.R_mono (Kd.R_far (p := ⟨gb651, 1, none⟩) (Kd.R_far (p := ⟨gb651, 0, none⟩) (Kd.R_types HL643_0.out BK651.out (by decide)) (fun _ hk => hk.2) (.int .i64 t646)) (fun _ hk => hk.2) (.slice Ao30 t647.length co30)) (fun _ h_ => h_.1)))).2.2) hb); have n6_ := Aside0.mk (blk_below (g := gb651) (o := .cells #[.int .i64 t646, .slice Ao30 t647.length co30] 26 (0, 0)) (by (with_reducible repeat (first | refine blk_drewN ?_ _ | refine blk_drew ?_ | refine blk_alloc ?_ _)); refine blk_put (cs := #[.int .i64 t646, .slice none 0 0]) ?_ 1 _ rfl; (with_reducible repeat (first | refine blk_drewN ?_ _ | refine blk_drew ?_ | refine blk_alloc ?_ _)); refine blk_put (cs := #[.int .i64 0, .slice none 0 0]) ?_ 0 _ rfl; (with_reducible repeat (first | refine blk_drewN ?_ _ | refine blk_drew ?_ | refine blk_alloc ?_ _)); exact BK651.out) hb); have n7_ := Aside0.mk (below_step (by repeat (first | (with_reducible first | exact HB.out | apply below_alloc | apply pw_below_drewN | apply below_drew1 | refine below_set ?_ GE637.out | refine below_set ?_ GE651.out) | exact HB.out)) hb); clear HO_7; clear HO_638001; clear HL643_0; clear HO649; clear BK637; clear HR643_0; clear BK651; clear HB; have HO_7 := n0_; have HO_638001 := n1_; have HL643_0 := n2_; have HO649 := n3_; have BK637 := n4_; have HR643_0 := n5_; have BK651 := n6_; have HB := n7_; clear n0_ n1_ n2_ n3_ n4_ n5_ n6_ n7_; (try clear hb); (try clear hb2); (try clear hk); (try clear hi))); try go_wp2_with (first | (go_at_call 18; (with_reducible refine (impl_ValidCounter.calls t646 _ _ t647 false _ ?side1 ?side2 A32.out).mono ?_); (case side1 => refine (Kd.R_reads' (e := 2) (base := w.heap.size) (ok := fun k_ => ((True ∧ some k_ ≠ (.slice Ao11 t634.length co11 : Value).ownBlock) ∧ some k_ ≠ (.slice (some ad645) (rd_L1 t638 t642).length c643_0 : Value).ownBlock)) (n := t647.length) (c := co30) ?_).2.2; exact (by (with_reducible repeat (first | apply Kd.R_alloc | apply Kd.R_drewN | apply Kd.R_drew)); exact (Kd.R_mono (Kd.R_far (p := ⟨gb651, 1, none⟩) (Kd.R_far (p := ⟨gb651, 0, none⟩) (Kd.R_types HO649.out BK651.out (by decide)) (fun _ hk => hk.2) (.int .i64 t646)) (fun _ hk => hk.2) (.slice Ao30 t647.length co30)) (fun _ h_ => h_.1)))); (case side2 => exact (Kd.R_reads' HO649.out).2.1); rintro e w49 ⟨rfl, hb⟩; have n0_ := Aside0.mk (Kd.S_below (by (with_reducible repeat (first | apply Kd.S_alloc | apply Kd.S_drewN | apply Kd.S_drew)); exact (Kd.S_mono (Kd.S_far (p := ⟨gb651, 1, none⟩) (Kd.S_far (p := ⟨gb651, 0, none⟩) (Kd.S_types HO_7.out BK651.out (by decide)) (fun _ hk => hk.2) (.int .i64 t646)) (fun _ hk => hk.2) (.slice Ao30 t647.length co30)) (fun _ h_ => h_.1))) hb); have n1_ := Aside0.mk (Kd.R_below (by (with_reducible repeat (first | apply Kd.R_alloc | apply Kd.R_drewN | apply Kd.R_drew)); exact (Kd.R_mono (Kd.R_far (p := ⟨gb651, 1, none⟩) (Kd.R_far (p := ⟨gb651, 0, none⟩) (Kd.R_types HO_638001.out BK651.out (by decide)) (fun _ hk => hk.2) (.int .i64 t646)) (fun _ hk => hk.2) (.slice Ao30 t647.length co30)) (fun _ h_ => h_.1))) hb); have n2_ := Aside0.mk (Kd.R_below (by (with_reducible repeat (first | apply Kd.R_alloc | apply Kd.R_drewN | apply Kd.R_drew)); exact (Kd.R_mono (Kd.R_far (p := ⟨gb651, 1, none⟩) (Kd.R_far (p := ⟨gb651, 0, none⟩) (Kd.R_types HL643_0.out BK651.out (by decide)) (fun _ hk => hk.2) (.int .i64 t646)) (fun _ hk => hk.2) (.slice Ao30 t647.length co30)) (fun _ h_ => h_.1))) hb); have n3_ := Aside0.mk (Kd.R_below (by (with_reducible repeat (first | apply Kd.R_alloc | apply Kd.R_drewN | apply Kd.R_drew)); exact (Kd.R_mono (Kd.R_far (p := ⟨gb651, 1, none⟩) (Kd.R_far (p := ⟨gb651, 0, none⟩) (Kd.R_types HO649.out BK651.out (by decide)) (fun _ hk => hk.2) (.int .i64 t646)) (fun _ hk => hk.2) (.slice Ao30 t647.length co30)) (fun _ h_ => h_.1))) hb); have n4_ := Aside0.mk (blk_below (g := gb637) (o := .cells #[.int .i64 t633, .slice Ao11 t634.length co11] 26 (0, 0)) (by (with_reducible repeat (first | refine blk_drewN ?_ _ | refine blk_drew ?_ | refine blk_alloc ?_ _)); refine blk_far ?_ NB637_651.out _; (with_reducible repeat (first | refine blk_drewN ?_ _ | refine blk_drew ?_ | refine blk_alloc ?_ _)); refine blk_far ?_ NB637_651.out _; (with_reducible repeat (first | refine blk_drewN ?_ _ | refine blk_drew ?_ | refine blk_alloc ?_ _)); exact BK637.out) hb); have n5_ := Aside0.mk (Kd.C_below ((Kd.R_reads' (by (with_reducible repeat (first | apply Kd.R_alloc | apply Kd.R_drewN | apply Kd.R_drew)); exact (Kd.R_mono (Kd.R_far (p := ⟨gb651, 1, none⟩) (Kd.R_far (p := ⟨gb651, 0, none⟩) (Kd.R_types HL643_0.out BK651.out (by decide)) (fun _ hk => hk.2) (.int .i64 t646)) (fun _ hk => hk.2) (.slice Ao30 t647.length co30)) (fun _ h_ => h_.1)))).2.2) hb); have n6_ := Aside0.mk (blk_below (g := gb651) (o := .cells #[.int .i64 t646, .slice Ao30 t647.length co30] 26 (0, 0)) (by (with_reducible repeat (first | refine blk_drewN ?_ _ | refine blk_drew ?_ | refine blk_alloc ?_ _)); refine blk_put (cs := #[.int .i64 t646, .slice none 0 0]) ?_ 1 _ rfl; (with_reducible repeat (first | refine blk_drewN ?_ _ | refine blk_drew ?_ | refine blk_alloc ?_ _)); refine blk_put (cs := #[.int .i64 0, .slice none 0 0]) ?_ 0 _ rfl; (with_reducible repeat (first | refine blk_drewN ?_ _ | refine blk_drew ?_ | refine blk_alloc ?_ _)); exact BK651.out) hb); have n7_ := Aside0.mk (below_step (by repeat (first | (with_reducible first | exact HB.out | apply below_alloc | apply pw_below_drewN | apply below_drew1 | refine below_set ?_ GE637.out | refine below_set ?_ GE651.out) | exact HB.out)) hb); clear HO_7; clear HO_638001; clear HL643_0; clear HO649; clear BK637; clear HR643_0; clear BK651; clear HB; have HO_7 := n0_; have HO_638001 := n1_; have HL643_0 := n2_; have HO649 := n3_; have BK637 := n4_; have HR643_0 := n5_; have BK651 := n6_; have HB := n7_; clear n0_ n1_ n2_ n3_ n4_ n5_ n6_ n7_; (try clear hb); (try clear hb2); (try clear hk); (try clear hi))))
                        go_meet
                        case rel => exact ⟨_, (true), (by first | rfl | (simp; done) | (simp [*]; done)), H', ⟨by have := HJ6.out; first | omega | exact Nat.le_refl _⟩, ⟨by (with_reducible repeat (first | apply Kd.S_alloc | apply Kd.S_drewN | apply Kd.S_drew)); exact HO_7.out⟩, ⟨by (with_reducible repeat (first | apply Kd.R_alloc | apply Kd.R_drewN | apply Kd.R_drew)); exact Kd.R_mono HO_638001.out (fun _ hk => hk.2)⟩, ⟨by (with_reducible repeat (first | apply Kd.R_alloc | apply Kd.R_drewN | apply Kd.R_drew)); exact Kd.R_mono HO649.out (fun _ hk => hk.1.2)⟩, ⟨by (with_reducible repeat (first | refine blk_drewN ?_ _ | refine blk_drew ?_ | refine blk_alloc ?_ _)); exact BK637.out⟩, ⟨by (with_reducible repeat (first | refine blk_drewN ?_ _ | refine blk_drew ?_ | refine blk_alloc ?_ _)); exact BK651.out⟩, ⟨by repeat (first | (with_reducible exact HR643_0.out) | (with_reducible refine Kd.C_alloc ?_ _) | (with_reducible refine Kd.C_drewN ?_ _) | (with_reducible refine Kd.C_drew ?_) | exact HR643_0.out)⟩, ⟨by repeat (first | (with_reducible first | exact HB.out | apply below_alloc | apply pw_below_drewN | apply below_drew1 | refine below_set ?_ GE637.out | refine below_set ?_ GE651.out) | exact HB.out)⟩⟩
                    · replace c31 := Bool.eq_false_iff.mpr c31
                      subst c31
                      have H1 : (laws_FnMended.j1 kj6 l1 (t634.length : Int) t638 true t633 t634 t646 t647) = some r := by rw [if_neg (show ¬ (false = true) by decide)] at H; exact H
                      clear H
                      have H := H1
                      clear H1
                      have H' := Aside0.mk H
                      clear H
                      go_wp2
                      repeat (go_quiet (fail); try go_wp2)
                      go_meet
                      case rel => exact ⟨_, (true), (by first | rfl | (simp; done) | (simp [*]; done)), H', ⟨by have := HJ6.out; first | omega | exact Nat.le_refl _⟩, ⟨by (with_reducible repeat (first | apply Kd.S_alloc | apply Kd.S_drewN | apply Kd.S_drew)); exact Kd.S_mono (Kd.S_far (p := ⟨gb651, 1, none⟩) (Kd.S_far (p := ⟨gb651, 0, none⟩) (Kd.S_types HO_7.out BK651.out (by decide)) (fun _ hk => hk.2) (.int .i64 t646)) (fun _ hk => hk.2) (.slice Ao30 t647.length co30)) (fun _ hk => ⟨hk.1.1, hk.1.2⟩)⟩, ⟨by (with_reducible repeat (first | apply Kd.R_alloc | apply Kd.R_drewN | apply Kd.R_drew)); exact Kd.R_mono (Kd.R_far (p := ⟨gb651, 1, none⟩) (Kd.R_far (p := ⟨gb651, 0, none⟩) (Kd.R_types HO_638001.out BK651.out (by decide)) (fun _ hk => hk.2) (.int .i64 t646)) (fun _ hk => hk.2) (.slice Ao30 t647.length co30)) (fun _ hk => hk.1.2)⟩, ⟨by (with_reducible repeat (first | apply Kd.R_alloc | apply Kd.R_drewN | apply Kd.R_drew)); exact Kd.R_mono (Kd.R_far (p := ⟨gb651, 1, none⟩) (Kd.R_far (p := ⟨gb651, 0, none⟩) (Kd.R_types HO649.out BK651.out (by decide)) (fun _ hk => hk.2) (.int .i64 t646)) (fun _ hk => hk.2) (.slice Ao30 t647.length co30)) (fun _ hk => hk.1.1.2)⟩, ⟨by (with_reducible repeat (first | refine blk_drewN ?_ _ | refine blk_drew ?_ | refine blk_alloc ?_ _)); refine blk_far ?_ NB637_651.out _; (with_reducible repeat (first | refine blk_drewN ?_ _ | refine blk_drew ?_ | refine blk_alloc ?_ _)); refine blk_far ?_ NB637_651.out _; (with_reducible repeat (first | refine blk_drewN ?_ _ | refine blk_drew ?_ | refine blk_alloc ?_ _)); exact BK637.out⟩, ⟨by (with_reducible repeat (first | refine blk_drewN ?_ _ | refine blk_drew ?_ | refine blk_alloc ?_ _)); refine blk_put (cs := #[.int .i64 t646, .slice none 0 0]) ?_ 1 _ rfl; (with_reducible repeat (first | refine blk_drewN ?_ _ | refine blk_drew ?_ | refine blk_alloc ?_ _)); refine blk_put (cs := #[.int .i64 0, .slice none 0 0]) ?_ 0 _ rfl; (with_reducible repeat (first | refine blk_drewN ?_ _ | refine blk_drew ?_ | refine blk_alloc ?_ _)); exact BK651.out⟩, ⟨(Kd.R_reads' (by (with_reducible repeat (first | apply Kd.R_alloc | apply Kd.R_drewN | apply Kd.R_drew)); exact (Kd.R_mono (Kd.R_far (p := ⟨gb651, 1, none⟩) (Kd.R_far (p := ⟨gb651, 0, none⟩) (Kd.R_types HL643_0.out BK651.out (by decide)) (fun _ hk => hk.2) (.int .i64 t646)) (fun _ hk => hk.2) (.slice Ao30 t647.length co30)) (fun _ h_ => h_.1)))).2.2⟩, ⟨by repeat (first | (with_reducible first | exact HB.out | apply below_alloc | apply pw_below_drewN | apply below_drew1 | refine below_set ?_ GE637.out | refine below_set ?_ GE651.out) | exact HB.out)⟩⟩
                  case rest =>
                    clear HC23
                    try clear c1
                    try clear c2
                    try clear p2
                    try clear c3
                    try clear c4
                    try clear c6
                    try clear p6
                    try clear q6
                    try clear hx6
                    try clear c13
                    try clear c15
                    try clear c17
                    try clear c17b0
                    try clear c18
                    try clear c18b0
                    try clear c20
                    try clear c20b0
                    try clear c21
                    try clear c21b0
                    try clear c28
                    try clear c31
                    try clear c33
                    try clear c34
                    try clear c34b0
                    try clear c34b1
                    try clear c36
                    try clear c42
                    try clear c47
                    try clear hcz10_0
                    try clear hcz10_1
                    try clear hcz25_0
                    try clear hcz25_1
                    try clear hcz29_0
                    try clear hcz29_1
                    try clear hcz37_0
                    try clear hcz37_1
                    try clear hcz39_0
                    try clear hcz39_1
                    try clear hcz40_0
                    try clear hcz40_1
                    try clear hcz43_0
                    try clear hcz43_1
                    try clear hcz45_0
                    try clear hcz45_1
                    try clear hcz46_0
                    try clear hcz46_1
                    try clear hcz48_0
                    try clear hcz48_1
                    try clear hfz10_0
                    try clear hfz10_1
                    try clear hfz25_0
                    try clear hfz25_1
                    try clear hfz29_0
                    try clear hfz29_1
                    try clear hfz37_0
                    try clear hfz37_1
                    try clear hfz39_0
                    try clear hfz39_1
                    try clear hfz40_0
                    try clear hfz40_1
                    try clear hfz43_0
                    try clear hfz43_1
                    try clear hfz45_0
                    try clear hfz45_1
                    try clear hfz46_0
                    try clear hfz46_1
                    try clear hfz48_0
                    try clear hfz48_1
                    try clear hx643_0
                    try clear hx645_0
                    try clear p2
                    try clear p643
                    try clear p645
                    try clear q643
                    try clear q645
                    obtain ⟨kq, x80_22, rfl, HA, HJ22, HO_7, HO_638001, HO_652001, BK637, BK651, HR643_0, HB⟩ := hcut
                    cases kq with
                    | zero => exact absurd HA.out (by simp [laws_FnMended.j1])
                    | succ kj22 =>
                      have H := HA.out
                      clear HA
                      simp only [laws_FnMended.j1] at H
                      by_cases c50 : x80_22 = true
                      · subst c50
                        have H1 : (some false) = some r := by rw [if_pos rfl] at H; exact H
                        clear H
                        have H := H1
                        clear H1
                        obtain rfl := Option.some.inj H
                        go_wp2
                        repeat (go_quiet (fail); try go_wp2)
                        go_ret
                        exact ⟨by first | rfl | (simp [errW_none, errW_some] <;> rfl) | (simp [*, errW_none, errW_some] <;> rfl), by repeat (first | (with_reducible first | exact HB.out | apply below_alloc | apply pw_below_drewN | apply below_drew1 | refine below_set ?_ GE637.out | refine below_set ?_ GE651.out) | exact HB.out)⟩
                      · replace c50 := Bool.eq_false_iff.mpr c50
                        subst c50
                        have H1 : (laws_FnMended.l0 kj22 l1 (t634.length : Int) t638 0 0 t633 t634 t646 t647) = some r := by rw [if_neg (show ¬ (false = true) by decide)] at H; exact H
                        clear H
                        have H := H1
                        clear H1
                        have H' := Aside0.mk H
                        clear H
                        go_wp2
                        repeat (go_quiet (fail); try go_wp2)
                        go_loopg [13, 14] kj22 (fun kq v13 v14 w' => ∃ (x13_3 : Int) (x14_3 : Int), v13 = .int .i64 x13_3 ∧ v14 = .int .i64 x14_3 ∧ Aside0 (laws_FnMended.l0 kq l1 (t634.length : Int) t638 x13_3 x14_3 t633 t634 t646 t647 = some r) ∧ Aside0 (kq ≤ kj22) ∧ Aside0 (Kd.S (Kd.slice 2 (Kd.int .i64)) 24 w' w.heap.size (fun k_ => some k_ ≠ ((.slice Ao11 t634.length co11) : Value).ownBlock ∧ some k_ ≠ ((.slice Ao30 t647.length co30) : Value).ownBlock) (.slice (some ad643) t638.length co24) t638) ∧ Aside0 (Kd.R (Kd.int .i64) 2 w' w.heap.size (fun k_ => some k_ ≠ ((.slice Ao30 t647.length co30) : Value).ownBlock) (.slice Ao11 t634.length co11) t634) ∧ Aside0 (Kd.R (Kd.int .i64) 2 w' w.heap.size (fun k_ => some k_ ≠ ((.slice Ao11 t634.length co11) : Value).ownBlock) (.slice Ao30 t647.length co30) t647) ∧ Aside0 (w'.heap[gb637]? = some (.cells #[.int .i64 t633, (.slice Ao11 t634.length co11)] 26 (0, 0))) ∧ Aside0 (w'.heap[gb651]? = some (.cells #[.int .i64 t646, (.slice Ao30 t647.length co30)] 26 (0, 0))) ∧ Aside0 (Kd.C (Kd.int .i64) w' (some ad645) (rd_L1 t638 t642).length (rd_L1 t638 t642)) ∧ Aside0 (Below w.heap.size w w'))
                        case atStart => exact ⟨(0), (0), (by first | rfl | (simp; done) | (simp [*]; done)), (by first | rfl | (simp; done) | (simp [*]; done)), H', ⟨Nat.le_refl _⟩, ⟨by (with_reducible repeat (first | apply Kd.S_alloc | apply Kd.S_drewN | apply Kd.S_drew)); exact HO_7.out⟩, ⟨by (with_reducible repeat (first | apply Kd.R_alloc | apply Kd.R_drewN | apply Kd.R_drew)); exact HO_638001.out⟩, ⟨by (with_reducible repeat (first | apply Kd.R_alloc | apply Kd.R_drewN | apply Kd.R_drew)); exact HO_652001.out⟩, ⟨by (with_reducible repeat (first | refine blk_drewN ?_ _ | refine blk_drew ?_ | refine blk_alloc ?_ _)); exact BK637.out⟩, ⟨by (with_reducible repeat (first | refine blk_drewN ?_ _ | refine blk_drew ?_ | refine blk_alloc ?_ _)); exact BK651.out⟩, ⟨by repeat (first | (with_reducible exact HR643_0.out) | (with_reducible refine Kd.C_alloc ?_ _) | (with_reducible refine Kd.C_drewN ?_ _) | (with_reducible refine Kd.C_drew ?_) | exact HR643_0.out)⟩, ⟨by repeat (first | (with_reducible first | exact HB.out | apply below_alloc | apply pw_below_drewN | apply below_drew1 | refine below_set ?_ GE637.out | refine below_set ?_ GE651.out) | exact HB.out)⟩⟩
                        case round =>
                          clear H'
                          try clear c1
                          try clear c2
                          try clear p2
                          try clear c3
                          try clear c4
                          try clear c5
                          try clear c6
                          try clear p6
                          try clear q6
                          try clear hx6
                          try clear c13
                          try clear c15
                          try clear c17
                          try clear c17b0
                          try clear c18
                          try clear c18b0
                          try clear c20
                          try clear c20b0
                          try clear c21
                          try clear c21b0
                          try clear c28
                          try clear c31
                          try clear c33
                          try clear c34
                          try clear c34b0
                          try clear c34b1
                          try clear c36
                          try clear c42
                          try clear c47
                          try clear c50
                          try clear hcz10_0
                          try clear hcz10_1
                          try clear hcz25_0
                          try clear hcz25_1
                          try clear hcz29_0
                          try clear hcz29_1
                          try clear hcz37_0
                          try clear hcz37_1
                          try clear hcz39_0
                          try clear hcz39_1
                          try clear hcz40_0
                          try clear hcz40_1
                          try clear hcz43_0
                          try clear hcz43_1
                          try clear hcz45_0
                          try clear hcz45_1
                          try clear hcz46_0
                          try clear hcz46_1
                          try clear hcz48_0
                          try clear hcz48_1
                          try clear hfz10_0
                          try clear hfz10_1
                          try clear hfz25_0
                          try clear hfz25_1
                          try clear hfz29_0
                          try clear hfz29_1
                          try clear hfz37_0
                          try clear hfz37_1
                          try clear hfz39_0
                          try clear hfz39_1
                          try clear hfz40_0
                          try clear hfz40_1
                          try clear hfz43_0
                          try clear hfz43_1
                          try clear hfz45_0
                          try clear hfz45_1
                          try clear hfz46_0
                          try clear hfz46_1
                          try clear hfz48_0
                          try clear hfz48_1
                          try clear hx643_0
                          try clear hx645_0
                          try clear p2
                          try clear p6
                          try clear p643
                          try clear p645
                          try clear q6
                          try clear q643
                          try clear q645
                          obtain ⟨x13_3, x14_3, rfl, rfl, HA, HK3, HO_7, HO_638001, HO_652001, BK637, BK651, HR643_0, HB⟩ := hrel
                          cases gk with
                          | zero => exact absurd HA.out (by simp [laws_FnMended.l0])
                          | succ k3 =>
                            have H := HA.out
                            clear HA
                            simp only [laws_FnMended.l0] at H
                            by_cases c51 : x14_3 < (t634.length : Int)
                            · rw [if_pos c51] at H
                              have c51b0 : decide (x14_3 < (t634.length : Int)) = true := decide_eq_true c51
                              clear c51
                              by_cases c52 : 0 ≤ x14_3
                              · rw [if_pos c52] at H
                                have c52b0 : decide (0 ≤ x14_3) = true := decide_eq_true c52
                                clear c52
                                by_cases c53 : x14_3 < (t647.length : Int)
                                · rw [if_pos c53] at H
                                  have c53b0 : decide (x14_3 < (t647.length : Int)) = true := decide_eq_true c53
                                  clear c53
                                  by_cases c54 : x14_3 < (t634.length : Int)
                                  · rw [if_pos c54] at H
                                    have c54b0 : decide (x14_3 < (t634.length : Int)) = true := decide_eq_true c54
                                    clear c54
                                    by_cases c55 : (rd t647 x14_3) = (rd t634 x14_3)
                                    · rw [if_pos c55] at H
                                      have c55b0 : ((rd t647 x14_3) == (rd t634 x14_3)) = true := beq_iff_eq.mpr c55
                                      have c55b1 : ((rd t647 x14_3) != (rd t634 x14_3)) = false := bne_eq_false_iff_eq.mpr c55
                                      clear c55
                                      have H' := Aside0.mk H
                                      clear H
                                      have hnb56 := NB651_637.out
                                      have hnc56 := NB637_651.out
                                      have hcz57_0 : wr.cell? ⟨gb651, 0, none⟩ = some (.int .i64 t646) := (blk_cell BK651.out 0).trans rfl
                                      have hcz57_1 : wr.cell? ⟨gb651, 1, none⟩ = some (.slice Ao30 t647.length co30) := (blk_cell BK651.out 1).trans rfl
                                      have hfz57_0 := blk_frozen BK651.out 0
                                      have hfz57_1 := blk_frozen BK651.out 1
                                      have p654 : 0 ≤ (x14_3 : Int) := of_decide_eq_true (by first | (with_reducible assumption) | assumption)
                                      have q654 : x14_3 < (t647.length : Int) := of_decide_eq_true (by first | (with_reducible assumption) | assumption)
                                      obtain ⟨ad654, e654, hx654_0⟩ := Kd.at_int (Kd.R_reads' HO_652001.out).2.2 x14_3 p654 q654
                                      cases e654
                                      replace p654 := eq_true p654
                                      replace q654 := eq_true q654
                                      have hcz58_0 : wr.cell? ⟨gb637, 0, none⟩ = some (.int .i64 t633) := (blk_cell BK637.out 0).trans rfl
                                      have hcz58_1 : wr.cell? ⟨gb637, 1, none⟩ = some (.slice Ao11 t634.length co11) := (blk_cell BK637.out 1).trans rfl
                                      have hfz58_0 := blk_frozen BK637.out 0
                                      have hfz58_1 := blk_frozen BK637.out 1
                                      have p655 : 0 ≤ (x14_3 : Int) := of_decide_eq_true (by first | (with_reducible assumption) | assumption)
                                      have q655 : x14_3 < (t634.length : Int) := of_decide_eq_true (by first | (with_reducible assumption) | assumption)
                                      obtain ⟨ad655, e655, hx655_0⟩ := Kd.at_int (Kd.R_reads' HO_638001.out).2.2 x14_3 p655 q655
                                      cases e655
                                      replace p655 := eq_true p655
                                      replace q655 := eq_true q655
                                      go_wp2
                                      repeat (go_quiet (fail); try go_wp2)
                                      go_roundg k3
                                      case measure => have := HJ6.out; have := HJ22.out; have := HK3.out; omega
                                      case rel => exact ⟨(x13_3), (wrap64 (x14_3 + 1)), (by first | rfl | (simp; done) | (simp [*]; done)), (by first | rfl | (simp; done) | (simp [*]; done)), H', ⟨by have := HJ6.out; have := HJ22.out; have := HK3.out; omega⟩, ⟨by (with_reducible repeat (first | apply Kd.S_alloc | apply Kd.S_drewN | apply Kd.S_drew)); exact HO_7.out⟩, ⟨by (with_reducible repeat (first | apply Kd.R_alloc | apply Kd.R_drewN | apply Kd.R_drew)); exact HO_638001.out⟩, ⟨by (with_reducible repeat (first | apply Kd.R_alloc | apply Kd.R_drewN | apply Kd.R_drew)); exact HO_652001.out⟩, ⟨by (with_reducible repeat (first | refine blk_drewN ?_ _ | refine blk_drew ?_ | refine blk_alloc ?_ _)); exact BK637.out⟩, ⟨by (with_reducible repeat (first | refine blk_drewN ?_ _ | refine blk_drew ?_ | refine blk_alloc ?_ _)); exact BK651.out⟩, ⟨by repeat (first | (with_reducible exact HR643_0.out) | (with_reducible refine Kd.C_alloc ?_ _) | (with_reducible refine Kd.C_drewN ?_ _) | (with_reducible refine Kd.C_drew ?_) | exact HR643_0.out)⟩, ⟨by repeat (first | (with_reducible first | exact HB.out | apply below_alloc | apply pw_below_drewN | apply below_drew1 | refine below_set ?_ GE637.out | refine below_set ?_ GE651.out) | exact HB.out)⟩⟩
                                    · rw [if_neg c55] at H
                                      have c55b0 : ((rd t647 x14_3) == (rd t634 x14_3)) = false := beq_eq_false_iff_ne.mpr c55
                                      have c55b1 : ((rd t647 x14_3) != (rd t634 x14_3)) = true := bne_iff_ne.mpr c55
                                      have H' := Aside0.mk H
                                      clear H
                                      have hnb59 := NB651_637.out
                                      have hnc59 := NB637_651.out
                                      have hcz60_0 : wr.cell? ⟨gb651, 0, none⟩ = some (.int .i64 t646) := (blk_cell BK651.out 0).trans rfl
                                      have hcz60_1 : wr.cell? ⟨gb651, 1, none⟩ = some (.slice Ao30 t647.length co30) := (blk_cell BK651.out 1).trans rfl
                                      have hfz60_0 := blk_frozen BK651.out 0
                                      have hfz60_1 := blk_frozen BK651.out 1
                                      have p654 : 0 ≤ (x14_3 : Int) := of_decide_eq_true (by first | (with_reducible assumption) | assumption)
                                      have q654 : x14_3 < (t647.length : Int) := of_decide_eq_true (by first | (with_reducible assumption) | assumption)
                                      obtain ⟨ad654, e654, hx654_0⟩ := Kd.at_int (Kd.R_reads' HO_652001.out).2.2 x14_3 p654 q654
                                      cases e654
                                      replace p654 := eq_true p654
                                      replace q654 := eq_true q654
                                      have hcz61_0 : wr.cell? ⟨gb637, 0, none⟩ = some (.int .i64 t633) := (blk_cell BK637.out 0).trans rfl
                                      have hcz61_1 : wr.cell? ⟨gb637, 1, none⟩ = some (.slice Ao11 t634.length co11) := (blk_cell BK637.out 1).trans rfl
                                      have hfz61_0 := blk_frozen BK637.out 0
                                      have hfz61_1 := blk_frozen BK637.out 1
                                      have p655 : 0 ≤ (x14_3 : Int) := of_decide_eq_true (by first | (with_reducible assumption) | assumption)
                                      have q655 : x14_3 < (t634.length : Int) := of_decide_eq_true (by first | (with_reducible assumption) | assumption)
                                      obtain ⟨ad655, e655, hx655_0⟩ := Kd.at_int (Kd.R_reads' HO_638001.out).2.2 x14_3 p655 q655
                                      cases e655
                                      replace p655 := eq_true p655
                                      replace q655 := eq_true q655
                                      go_wp2
                                      repeat (go_quiet (fail); try go_wp2)
                                      go_roundg k3
                                      case measure => have := HJ6.out; have := HJ22.out; have := HK3.out; omega
                                      case rel => exact ⟨(wrap64 (x13_3 + 1)), (wrap64 (x14_3 + 1)), (by first | rfl | (simp; done) | (simp [*]; done)), (by first | rfl | (simp; done) | (simp [*]; done)), H', ⟨by have := HJ6.out; have := HJ22.out; have := HK3.out; omega⟩, ⟨by (with_reducible repeat (first | apply Kd.S_alloc | apply Kd.S_drewN | apply Kd.S_drew)); exact HO_7.out⟩, ⟨by (with_reducible repeat (first | apply Kd.R_alloc | apply Kd.R_drewN | apply Kd.R_drew)); exact HO_638001.out⟩, ⟨by (with_reducible repeat (first | apply Kd.R_alloc | apply Kd.R_drewN | apply Kd.R_drew)); exact HO_652001.out⟩, ⟨by (with_reducible repeat (first | refine blk_drewN ?_ _ | refine blk_drew ?_ | refine blk_alloc ?_ _)); exact BK637.out⟩, ⟨by (with_reducible repeat (first | refine blk_drewN ?_ _ | refine blk_drew ?_ | refine blk_alloc ?_ _)); exact BK651.out⟩, ⟨by repeat (first | (with_reducible exact HR643_0.out) | (with_reducible refine Kd.C_alloc ?_ _) | (with_reducible refine Kd.C_drewN ?_ _) | (with_reducible refine Kd.C_drew ?_) | exact HR643_0.out)⟩, ⟨by repeat (first | (with_reducible first | exact HB.out | apply below_alloc | apply pw_below_drewN | apply below_drew1 | refine below_set ?_ GE637.out | refine below_set ?_ GE651.out) | exact HB.out)⟩⟩
                                  · rw [if_neg c54] at H
                                    exact absurd H (by simp)
                                · rw [if_neg c53] at H
                                  exact absurd H (by simp)
                              · rw [if_neg c52] at H
                                exact absurd H (by simp)
                            · rw [if_neg c51] at H
                              have c51b0 : decide (x14_3 < (t634.length : Int)) = false := decide_eq_false c51
                              clear c51
                              replace H := Option.bind_eq_some_iff.mp H
                              obtain ⟨t656, A620, H⟩ := H
                              replace H : ((laws_r8At.f l1 3 (t634.length : Int)).bind fun t657 => ((impl_OutputOf.f t633 t634 t657 t656 30).bind fun bt658 => (if bt658.2 = true then (if (bt658.1.size : Int) = 30 then (laws_FnMended.j3 k3 t656 t657 bt658.1 (x13_3 != (wrap64 ((t638.length : Int) - 1))) t633 t634) else (laws_FnMended.j3 k3 t656 t657 bt658.1 true t633 t634)) else (laws_FnMended.j3 k3 t656 t657 bt658.1 true t633 t634)))) = some r := H
                              have A62 := Aside0.mk A620
                              clear A620
                              replace H := Option.bind_eq_some_iff.mp H
                              obtain ⟨t657, A630, H⟩ := H
                              replace H : ((impl_OutputOf.f t633 t634 t657 t656 30).bind fun bt658 => (if bt658.2 = true then (if (bt658.1.size : Int) = 30 then (laws_FnMended.j3 k3 t656 t657 bt658.1 (x13_3 != (wrap64 ((t638.length : Int) - 1))) t633 t634) else (laws_FnMended.j3 k3 t656 t657 bt658.1 true t633 t634)) else (laws_FnMended.j3 k3 t656 t657 bt658.1 true t633 t634))) = some r := H
                              have A63 := Aside0.mk A630
                              clear A630
                              replace H := Option.bind_eq_some_iff.mp H
                              obtain ⟨⟨t658, t659⟩, A640, H⟩ := H
                              replace H : (if t659 = true then (if (t658.size : Int) = 30 then (laws_FnMended.j3 k3 t656 t657 t658 (x13_3 != (wrap64 ((t638.length : Int) - 1))) t633 t634) else (laws_FnMended.j3 k3 t656 t657 t658 true t633 t634)) else (laws_FnMended.j3 k3 t656 t657 t658 true t633 t634)) = some r := H
                              have A64 := Aside0.mk A640
                              clear A640
                              have HC65 := Aside0.mk H
                              clear H
                              have hnb66 := NB637_651.out
                              have hnc66 := NB651_637.out
                              have hcz67_0 : wr.cell? ⟨gb637, 0, none⟩ = some (.int .i64 t633) := (blk_cell BK637.out 0).trans rfl
                              have hcz67_1 : wr.cell? ⟨gb637, 1, none⟩ = some (.slice Ao11 t634.length co11) := (blk_cell BK637.out 1).trans rfl
                              have hfz67_0 := blk_frozen BK637.out 0
                              have hfz67_1 := blk_frozen BK637.out 1
                              go_upto_region 22 with (first | (go_at_call 20; (with_reducible refine (laws_r8At.calls _ _ l1 2 t633 t656 _ ?side1 ?side2 A62.out).mono ?_); (case side1 => repeat (first | exact (Kd.C_below HR1.out HB.out) | (with_reducible refine Kd.C_alloc ?_ _) | (with_reducible refine Kd.C_drewN ?_ _) | (with_reducible refine Kd.C_drew ?_))); (case side2 => exact HC1.out); rintro e w' ⟨rfl, ⟨nd, rfl⟩⟩; (try first | exact ⟨rfl, _, World.drewN_drewN _ _ _⟩ | exact ⟨rfl, _, Eq.trans (World.drewN_drewN _ _ _) (congrArg (World.drewN _) (Nat.add_assoc _ _ _))⟩)) | (go_at_call 20; (with_reducible refine (laws_r8At.calls _ _ l1 3 (t634.length : Int) t657 _ ?side1 ?side2 A63.out).mono ?_); (case side1 => repeat (first | exact (Kd.C_below HR1.out (by repeat (first | (with_reducible first | exact HB.out | apply below_alloc | apply pw_below_drewN | apply below_drew1 | refine below_set ?_ GE637.out | refine below_set ?_ GE651.out) | exact HB.out))) | (with_reducible refine Kd.C_alloc ?_ _) | (with_reducible refine Kd.C_drewN ?_ _) | (with_reducible refine Kd.C_drew ?_))); (case side2 => exact HC1.out); rintro e w' ⟨rfl, ⟨nd, rfl⟩⟩; (try first | exact ⟨rfl, _, World.drewN_drewN _ _ _⟩ | exact ⟨rfl, _, Eq.trans (World.drewN_drewN _ _ _) (congrArg (World.drewN _) (Nat.add_assoc _ _ _))⟩)) | (go_at_call 33; (with_reducible refine (impl_OutputOf.calls t633 _ _ t634 t657 t656 30 t658 t659 _ ?side1 ?side2 A64.out).mono ?_); (case side1 => repeat (first | exact (Kd.R_reads' HO_638001.out).2.2 | (with_reducible refine Kd.C_alloc ?_ _) | (with_reducible refine Kd.C_drewN ?_ _) | (with_reducible refine Kd.C_drew ?_))); (case side2 => exact (Kd.R_reads' HO_638001.out).2.1); rintro e w68 ⟨rfl, hb⟩; have n0_ := Aside0.mk (Kd.S_below (by (with_reducible repeat (first | apply Kd.S_alloc | apply Kd.S_drewN | apply Kd.S_drew)); exact HO_7.out) hb); have n1_ := Aside0.mk (Kd.R_below (by (with_reducible repeat (first | apply Kd.R_alloc | apply Kd.R_drewN | apply Kd.R_drew)); exact HO_638001.out) hb); have n2_ := Aside0.mk (Kd.R_below (by (with_reducible repeat (first | apply Kd.R_alloc | apply Kd.R_drewN | apply Kd.R_drew)); exact HO_652001.out) hb); have n3_ := Aside0.mk (blk_below (g := gb637) (o := .cells #[.int .i64 t633, .slice Ao11 t634.length co11] 26 (0, 0)) (by (with_reducible repeat (first | refine blk_drewN ?_ _ | refine blk_drew ?_ | refine blk_alloc ?_ _)); exact BK637.out) hb); have n4_ := Aside0.mk (blk_below (g := gb651) (o := .cells #[.int .i64 t646, .slice Ao30 t647.length co30] 26 (0, 0)) (by (with_reducible repeat (first | refine blk_drewN ?_ _ | refine blk_drew ?_ | refine blk_alloc ?_ _)); exact BK651.out) hb); have n5_ := Aside0.mk (Kd.C_below (by repeat (first | (with_reducible exact HR643_0.out) | (with_reducible refine Kd.C_alloc ?_ _) | (with_reducible refine Kd.C_drewN ?_ _) | (with_reducible refine Kd.C_drew ?_) | exact HR643_0.out)) hb); have n6_ := Aside0.mk (below_step (by repeat (first | (with_reducible first | exact HB.out | apply below_alloc | apply pw_below_drewN | apply below_drew1 | refine below_set ?_ GE637.out | refine below_set ?_ GE651.out) | exact HB.out)) hb); clear HO_7; clear HO_638001; clear HO_652001; clear BK637; clear BK651; clear HR643_0; clear HB; have HO_7 := n0_; have HO_638001 := n1_; have HO_652001 := n2_; have BK637 := n3_; have BK651 := n4_; have HR643_0 := n5_; have HB := n6_; clear n0_ n1_ n2_ n3_ n4_ n5_ n6_; (try clear hb); (try clear hb2); (try clear hk); (try clear hi)))
                              repeat (go_quiet (first | (go_at_call 20; (with_reducible refine (laws_r8At.calls _ _ l1 2 t633 t656 _ ?side1 ?side2 A62.out).mono ?_); (case side1 => repeat (first | exact (Kd.C_below HR1.out HB.out) | (with_reducible refine Kd.C_alloc ?_ _) | (with_reducible refine Kd.C_drewN ?_ _) | (with_reducible refine Kd.C_drew ?_))); (case side2 => exact HC1.out); rintro e w' ⟨rfl, ⟨nd, rfl⟩⟩; (try first | exact ⟨rfl, _, World.drewN_drewN _ _ _⟩ | exact ⟨rfl, _, Eq.trans (World.drewN_drewN _ _ _) (congrArg (World.drewN _) (Nat.add_assoc _ _ _))⟩)) | (go_at_call 20; (with_reducible refine (laws_r8At.calls _ _ l1 3 (t634.length : Int) t657 _ ?side1 ?side2 A63.out).mono ?_); (case side1 => repeat (first | exact (Kd.C_below HR1.out (by repeat (first | (with_reducible first | exact HB.out | apply below_alloc | apply pw_below_drewN | apply below_drew1 | refine below_set ?_ GE637.out | refine below_set ?_ GE651.out) | exact HB.out))) | (with_reducible refine Kd.C_alloc ?_ _) | (with_reducible refine Kd.C_drewN ?_ _) | (with_reducible refine Kd.C_drew ?_))); (case side2 => exact HC1.out); rintro e w' ⟨rfl, ⟨nd, rfl⟩⟩; (try first | exact ⟨rfl, _, World.drewN_drewN _ _ _⟩ | exact ⟨rfl, _, Eq.trans (World.drewN_drewN _ _ _) (congrArg (World.drewN _) (Nat.add_assoc _ _ _))⟩)) | (go_at_call 33; (with_reducible refine (impl_OutputOf.calls t633 _ _ t634 t657 t656 30 t658 t659 _ ?side1 ?side2 A64.out).mono ?_); (case side1 => repeat (first | exact (Kd.R_reads' HO_638001.out).2.2 | (with_reducible refine Kd.C_alloc ?_ _) | (with_reducible refine Kd.C_drewN ?_ _) | (with_reducible refine Kd.C_drew ?_))); (case side2 => exact (Kd.R_reads' HO_638001.out).2.1); rintro e w68 ⟨rfl, hb⟩; have n0_ := Aside0.mk (Kd.S_below (by (with_reducible repeat (first | apply Kd.S_alloc | apply Kd.S_drewN | apply Kd.S_drew)); exact HO_7.out) hb); have n1_ := Aside0.mk (Kd.R_below (by (with_reducible repeat (first | apply Kd.R_alloc | apply Kd.R_drewN | apply Kd.R_drew)); exact HO_638001.out) hb); have n2_ := Aside0.mk (Kd.R_below (by (with_reducible repeat (first | apply Kd.R_alloc | apply Kd.R_drewN | apply Kd.R_drew)); exact HO_652001.out) hb); have n3_ := Aside0.mk (blk_below (g := gb637) (o := .cells #[.int .i64 t633, .slice Ao11 t634.length co11] 26 (0, 0)) (by (with_reducible repeat (first | refine blk_drewN ?_ _ | refine blk_drew ?_ | refine blk_alloc ?_ _)); exact BK637.out) hb); have n4_ := Aside0.mk (blk_below (g := gb651) (o := .cells #[.int .i64 t646, .slice Ao30 t647.length co30] 26 (0, 0)) (by (with_reducible repeat (first | refine blk_drewN ?_ _ | refine blk_drew ?_ | refine blk_alloc ?_ _)); exact BK651.out) hb); have n5_ := Aside0.mk (Kd.C_below (by repeat (first | (with_reducible exact HR643_0.out) | (with_reducible refine Kd.C_alloc ?_ _) | (with_reducible refine Kd.C_drewN ?_ _) | (with_reducible refine Kd.C_drew ?_) | exact HR643_0.out)) hb); have n6_ := Aside0.mk (below_step (by repeat (first | (with_reducible first | exact HB.out | apply below_alloc | apply pw_below_drewN | apply below_drew1 | refine below_set ?_ GE637.out | refine below_set ?_ GE651.out) | exact HB.out)) hb); clear HO_7; clear HO_638001; clear HO_652001; clear BK637; clear BK651; clear HR643_0; clear HB; have HO_7 := n0_; have HO_638001 := n1_; have HO_652001 := n2_; have BK637 := n3_; have BK651 := n4_; have HR643_0 := n5_; have HB := n6_; clear n0_ n1_ n2_ n3_ n4_ n5_ n6_; (try clear hb); (try clear hb2); (try clear hk); (try clear hi))); go_upto_region 22 with (first | (go_at_call 20; (with_reducible refine (laws_r8At.calls _ _ l1 2 t633 t656 _ ?side1 ?side2 A62.out).mono ?_); (case side1 => repeat (first | exact (Kd.C_below HR1.out HB.out) | (with_reducible refine Kd.C_alloc ?_ _) | (with_reducible refine Kd.C_drewN ?_ _) | (with_reducible refine Kd.C_drew ?_))); (case side2 => exact HC1.out); rintro e w' ⟨rfl, ⟨nd, rfl⟩⟩; (try first | exact ⟨rfl, _, World.drewN_drewN _ _ _⟩ | exact ⟨rfl, _, Eq.trans (World.drewN_drewN _ _ _) (congrArg (World.drewN _) (Nat.add_assoc _ _ _))⟩)) | (go_at_call 20; (with_reducible refine (laws_r8At.calls _ _ l1 3 (t634.length : Int) t657 _ ?side1 ?side2 A63.out).mono ?_); (case side1 => repeat (first | exact (Kd.C_below HR1.out (by repeat (first | (with_reducible first | exact HB.out | apply below_alloc | apply pw_below_drewN | apply below_drew1 | refine below_set ?_ GE637.out | refine below_set ?_ GE651.out) | exact HB.out))) | (with_reducible refine Kd.C_alloc ?_ _) | (with_reducible refine Kd.C_drewN ?_ _) | (with_reducible refine Kd.C_drew ?_))); (case side2 => exact HC1.out); rintro e w' ⟨rfl, ⟨nd, rfl⟩⟩; (try first | exact ⟨rfl, _, World.drewN_drewN _ _ _⟩ | exact ⟨rfl, _, Eq.trans (World.drewN_drewN _ _ _) (congrArg (World.drewN _) (Nat.add_assoc _ _ _))⟩)) | (go_at_call 33; (with_reducible refine (impl_OutputOf.calls t633 _ _ t634 t657 t656 30 t658 t659 _ ?side1 ?side2 A64.out).mono ?_); (case side1 => repeat (first | exact (Kd.R_reads' HO_638001.out).2.2 | (with_reducible refine Kd.C_alloc ?_ _) | (with_reducible refine Kd.C_drewN ?_ _) | (with_reducible refine Kd.C_drew ?_))); (case side2 => exact (Kd.R_reads' HO_638001.out).2.1); rintro e w68 ⟨rfl, hb⟩; have n0_ := Aside0.mk (Kd.S_below (by (with_reducible repeat (first | apply Kd.S_alloc | apply Kd.S_drewN | apply Kd.S_drew)); exact HO_7.out) hb); have n1_ := Aside0.mk (Kd.R_below (by (with_reducible repeat (first | apply Kd.R_alloc | apply Kd.R_drewN | apply Kd.R_drew)); exact HO_638001.out) hb); have n2_ := Aside0.mk (Kd.R_below (by (with_reducible repeat (first | apply Kd.R_alloc | apply Kd.R_drewN | apply Kd.R_drew)); exact HO_652001.out) hb); have n3_ := Aside0.mk (blk_below (g := gb637) (o := .cells #[.int .i64 t633, .slice Ao11 t634.length co11] 26 (0, 0)) (by (with_reducible repeat (first | refine blk_drewN ?_ _ | refine blk_drew ?_ | refine blk_alloc ?_ _)); exact BK637.out) hb); have n4_ := Aside0.mk (blk_below (g := gb651) (o := .cells #[.int .i64 t646, .slice Ao30 t647.length co30] 26 (0, 0)) (by (with_reducible repeat (first | refine blk_drewN ?_ _ | refine blk_drew ?_ | refine blk_alloc ?_ _)); exact BK651.out) hb); have n5_ := Aside0.mk (Kd.C_below (by repeat (first | (with_reducible exact HR643_0.out) | (with_reducible refine Kd.C_alloc ?_ _) | (with_reducible refine Kd.C_drewN ?_ _) | (with_reducible refine Kd.C_drew ?_) | exact HR643_0.out)) hb); have n6_ := Aside0.mk (below_step (by repeat (first | (with_reducible first | exact HB.out | apply below_alloc | apply pw_below_drewN | apply below_drew1 | refine below_set ?_ GE637.out | refine below_set ?_ GE651.out) | exact HB.out)) hb); clear HO_7; clear HO_638001; clear HO_652001; clear BK637; clear BK651; clear HR643_0; clear HB; have HO_7 := n0_; have HO_638001 := n1_; have HO_652001 := n2_; have BK637 := n3_; have BK651 := n4_; have HR643_0 := n5_; have HB := n6_; clear n0_ n1_ n2_ n3_ n4_ n5_ n6_; (try clear hb); (try clear hb2); (try clear hk); (try clear hi))))
                              (try simp only [Act.put, List.setIfInBounds_toArray, List.set_cons_zero, List.set_cons_succ])
                              go_cut [126] (fun v126 wc => ∃ (kq : Nat) (x126_64 : Bool), v126 = .bool x126_64 ∧ Aside0 (laws_FnMended.j3 kq t656 t657 t658 x126_64 t633 t634 = some r) ∧ Aside0 (kq ≤ k3) ∧ Aside0 (Kd.R (Kd.int .i64) 2 wc w.heap.size (fun k_ => some k_ ≠ ((.slice Ao30 t647.length co30) : Value).ownBlock) (.slice Ao11 t634.length co11) t634) ∧ Aside0 (Kd.R (Kd.int .i64) 2 wc w.heap.size (fun k_ => some k_ ≠ ((.slice Ao11 t634.length co11) : Value).ownBlock) (.slice Ao30 t647.length co30) t647) ∧ Aside0 (wc.heap[gb637]? = some (.cells #[.int .i64 t633, (.slice Ao11 t634.length co11)] 26 (0, 0))) ∧ Aside0 (wc.heap[gb651]? = some (.cells #[.int .i64 t646, (.slice Ao30 t647.length co30)] 26 (0, 0))) ∧ Aside0 (Kd.C (Kd.int .i64) wc (some ad645) (rd_L1 t638 t642).length (rd_L1 t638 t642)) ∧ Aside0 (Below w.heap.size w wc))
                              case first =>
                                have H := HC65.out
                                clear HC65
                                by_cases c69 : t659 = true
                                · subst c69
                                  have H1 : (if (t658.size : Int) = 30 then (laws_FnMended.j3 k3 t656 t657 t658 (x13_3 != (wrap64 ((t638.length : Int) - 1))) t633 t634) else (laws_FnMended.j3 k3 t656 t657 t658 true t633 t634)) = some r := by rw [if_pos rfl] at H; exact H
                                  clear H
                                  have H := H1
                                  clear H1
                                  by_cases c70 : (t658.size : Int) = 30
                                  · rw [if_pos c70] at H
                                    have c70b0 : ((t658.size : Int) == 30) = true := beq_iff_eq.mpr c70
                                    have c70b1 : ((t658.size : Int) != 30) = false := bne_eq_false_iff_eq.mpr c70
                                    clear c70
                                    (first | rw [c70b0] | (simp only [i64_w, i32_w]; rw [c70b0]) | skip)
                                    have H' := Aside0.mk H
                                    clear H
                                    go_wp2
                                    repeat (go_quiet (fail); try go_wp2)
                                    go_meet
                                    case rel => exact ⟨_, ((x13_3 != (wrap64 ((t638.length : Int) - 1)))), (by first | rfl | (simp; done) | (simp [*]; done)), H', ⟨by have := HJ6.out; have := HJ22.out; have := HK3.out; first | omega | exact Nat.le_refl _⟩, ⟨by (with_reducible repeat (first | apply Kd.R_alloc | apply Kd.R_drewN | apply Kd.R_drew)); exact HO_638001.out⟩, ⟨by (with_reducible repeat (first | apply Kd.R_alloc | apply Kd.R_drewN | apply Kd.R_drew)); exact HO_652001.out⟩, ⟨by (with_reducible repeat (first | refine blk_drewN ?_ _ | refine blk_drew ?_ | refine blk_alloc ?_ _)); exact BK637.out⟩, ⟨by (with_reducible repeat (first | refine blk_drewN ?_ _ | refine blk_drew ?_ | refine blk_alloc ?_ _)); exact BK651.out⟩, ⟨by repeat (first | (with_reducible exact HR643_0.out) | (with_reducible refine Kd.C_alloc ?_ _) | (with_reducible refine Kd.C_drewN ?_ _) | (with_reducible refine Kd.C_drew ?_) | exact HR643_0.out)⟩, ⟨by repeat (first | (with_reducible first | exact HB.out | apply below_alloc | apply pw_below_drewN | apply below_drew1 | refine below_set ?_ GE637.out | refine below_set ?_ GE651.out) | exact HB.out)⟩⟩
                                  · rw [if_neg c70] at H
                                    have c70b0 : ((t658.size : Int) == 30) = false := beq_eq_false_iff_ne.mpr c70
                                    have c70b1 : ((t658.size : Int) != 30) = true := bne_iff_ne.mpr c70
                                    (first | rw [c70b0] | (simp only [i64_w, i32_w]; rw [c70b0]) | skip)
                                    have H' := Aside0.mk H
                                    clear H
                                    go_wp2
                                    repeat (go_quiet (fail); try go_wp2)
                                    go_meet
                                    case rel => exact ⟨_, (true), (by first | rfl | (simp; done) | (simp [*]; done)), H', ⟨by have := HJ6.out; have := HJ22.out; have := HK3.out; first | omega | exact Nat.le_refl _⟩, ⟨by (with_reducible repeat (first | apply Kd.R_alloc | apply Kd.R_drewN | apply Kd.R_drew)); exact HO_638001.out⟩, ⟨by (with_reducible repeat (first | apply Kd.R_alloc | apply Kd.R_drewN | apply Kd.R_drew)); exact HO_652001.out⟩, ⟨by (with_reducible repeat (first | refine blk_drewN ?_ _ | refine blk_drew ?_ | refine blk_alloc ?_ _)); exact BK637.out⟩, ⟨by (with_reducible repeat (first | refine blk_drewN ?_ _ | refine blk_drew ?_ | refine blk_alloc ?_ _)); exact BK651.out⟩, ⟨by repeat (first | (with_reducible exact HR643_0.out) | (with_reducible refine Kd.C_alloc ?_ _) | (with_reducible refine Kd.C_drewN ?_ _) | (with_reducible refine Kd.C_drew ?_) | exact HR643_0.out)⟩, ⟨by repeat (first | (with_reducible first | exact HB.out | apply below_alloc | apply pw_below_drewN | apply below_drew1 | refine below_set ?_ GE637.out | refine below_set ?_ GE651.out) | exact HB.out)⟩⟩
                                · replace c69 := Bool.eq_false_iff.mpr c69
                                  subst c69
                                  have H1 : (laws_FnMended.j3 k3 t656 t657 t658 true t633 t634) = some r := by rw [if_neg (show ¬ (false = true) by decide)] at H; exact H
                                  clear H
                                  have H := H1
                                  clear H1
                                  have H' := Aside0.mk H
                                  clear H
                                  go_wp2
                                  repeat (go_quiet (fail); try go_wp2)
                                  go_meet
                                  case rel => exact ⟨_, (true), (by first | rfl | (simp; done) | (simp [*]; done)), H', ⟨by have := HJ6.out; have := HJ22.out; have := HK3.out; first | omega | exact Nat.le_refl _⟩, ⟨by (with_reducible repeat (first | apply Kd.R_alloc | apply Kd.R_drewN | apply Kd.R_drew)); exact HO_638001.out⟩, ⟨by (with_reducible repeat (first | apply Kd.R_alloc | apply Kd.R_drewN | apply Kd.R_drew)); exact HO_652001.out⟩, ⟨by (with_reducible repeat (first | refine blk_drewN ?_ _ | refine blk_drew ?_ | refine blk_alloc ?_ _)); exact BK637.out⟩, ⟨by (with_reducible repeat (first | refine blk_drewN ?_ _ | refine blk_drew ?_ | refine blk_alloc ?_ _)); exact BK651.out⟩, ⟨by repeat (first | (with_reducible exact HR643_0.out) | (with_reducible refine Kd.C_alloc ?_ _) | (with_reducible refine Kd.C_drewN ?_ _) | (with_reducible refine Kd.C_drew ?_) | exact HR643_0.out)⟩, ⟨by repeat (first | (with_reducible first | exact HB.out | apply below_alloc | apply pw_below_drewN | apply below_drew1 | refine below_set ?_ GE637.out | refine below_set ?_ GE651.out) | exact HB.out)⟩⟩
                              case rest =>
                                clear HC65
                                try clear c1
                                try clear c2
                                try clear p2
                                try clear c3
                                try clear c4
                                try clear c5
                                try clear c6
                                try clear p6
                                try clear q6
                                try clear hx6
                                try clear c7
                                try clear c13
                                try clear c15
                                try clear c17
                                try clear c17b0
                                try clear c18
                                try clear c18b0
                                try clear c20
                                try clear c20b0
                                try clear c21
                                try clear c21b0
                                try clear c28
                                try clear c31
                                try clear c33
                                try clear c34
                                try clear c34b0
                                try clear c34b1
                                try clear c36
                                try clear c42
                                try clear c47
                                try clear c50
                                try clear c51
                                try clear c51b0
                                try clear c52
                                try clear c52b0
                                try clear c53
                                try clear c53b0
                                try clear c54
                                try clear c54b0
                                try clear c55
                                try clear c55b0
                                try clear c55b1
                                try clear c56
                                try clear c59
                                try clear c64
                                try clear p64
                                try clear q64
                                try clear hx64
                                try clear p65
                                try clear q65
                                try clear hx65
                                try clear c66
                                try clear c69
                                try clear c70
                                try clear c70b0
                                try clear c70b1
                                try clear hcz10_0
                                try clear hcz10_1
                                try clear hcz25_0
                                try clear hcz25_1
                                try clear hcz29_0
                                try clear hcz29_1
                                try clear hcz37_0
                                try clear hcz37_1
                                try clear hcz39_0
                                try clear hcz39_1
                                try clear hcz40_0
                                try clear hcz40_1
                                try clear hcz43_0
                                try clear hcz43_1
                                try clear hcz45_0
                                try clear hcz45_1
                                try clear hcz46_0
                                try clear hcz46_1
                                try clear hcz48_0
                                try clear hcz48_1
                                try clear hcz57_0
                                try clear hcz57_1
                                try clear hcz58_0
                                try clear hcz58_1
                                try clear hcz60_0
                                try clear hcz60_1
                                try clear hcz61_0
                                try clear hcz61_1
                                try clear hcz67_0
                                try clear hcz67_1
                                try clear hfz10_0
                                try clear hfz10_1
                                try clear hfz25_0
                                try clear hfz25_1
                                try clear hfz29_0
                                try clear hfz29_1
                                try clear hfz37_0
                                try clear hfz37_1
                                try clear hfz39_0
                                try clear hfz39_1
                                try clear hfz40_0
                                try clear hfz40_1
                                try clear hfz43_0
                                try clear hfz43_1
                                try clear hfz45_0
                                try clear hfz45_1
                                try clear hfz46_0
                                try clear hfz46_1
                                try clear hfz48_0
                                try clear hfz48_1
                                try clear hfz57_0
                                try clear hfz57_1
                                try clear hfz58_0
                                try clear hfz58_1
                                try clear hfz60_0
                                try clear hfz60_1
                                try clear hfz61_0
                                try clear hfz61_1
                                try clear hfz67_0
                                try clear hfz67_1
                                try clear hx643_0
                                try clear hx645_0
                                try clear hx654_0
                                try clear hx655_0
                                try clear p2
                                try clear p6
                                try clear p643
                                try clear p645
                                try clear p654
                                try clear p655
                                try clear q6
                                try clear q643
                                try clear q645
                                try clear q654
                                try clear q655
                                obtain ⟨kq, x126_64, rfl, HA, HJ64, HO_638001, HO_652001, BK637, BK651, HR643_0, HB⟩ := hcut
                                cases kq with
                                | zero => exact absurd HA.out (by simp [laws_FnMended.j3])
                                | succ kj64 =>
                                  have H := HA.out
                                  clear HA
                                  simp only [laws_FnMended.j3] at H
                                  by_cases c71 : x126_64 = true
                                  · subst c71
                                    have H1 : (some false) = some r := by rw [if_pos rfl] at H; exact H
                                    clear H
                                    have H := H1
                                    clear H1
                                    obtain rfl := Option.some.inj H
                                    go_wp2
                                    repeat (go_quiet (fail); try go_wp2)
                                    go_ret
                                    exact ⟨by first | rfl | (simp [errW_none, errW_some] <;> rfl) | (simp [*, errW_none, errW_some] <;> rfl), by repeat (first | (with_reducible first | exact HB.out | apply below_alloc | apply pw_below_drewN | apply below_drew1 | refine below_set ?_ GE637.out | refine below_set ?_ GE651.out) | exact HB.out)⟩
                                  · replace c71 := Bool.eq_false_iff.mpr c71
                                    subst c71
                                    have H1 : (laws_FnMended.l1 kj64 t656 t658 t657 0 t633 t634) = some r := by rw [if_neg (show ¬ (false = true) by decide)] at H; exact H
                                    clear H
                                    have H := H1
                                    clear H1
                                    have H' := Aside0.mk H
                                    clear H
                                    go_wp2
                                    repeat (go_quiet (fail); try go_wp2)
                                    go_loopg [19, 20] kj64 (fun kq v19 v20 w' => ∃ (x19_5 : Int) (x20_5 : Int), v19 = .int .i64 x19_5 ∧ v20 = .int .i64 x20_5 ∧ Aside0 (laws_FnMended.l1 kq t656 t658 x19_5 x20_5 t633 t634 = some r) ∧ Aside0 (kq ≤ kj64) ∧ Aside0 (Kd.R (Kd.int .i64) 2 w' w.heap.size (fun k_ => some k_ ≠ ((.slice Ao30 t647.length co30) : Value).ownBlock) (.slice Ao11 t634.length co11) t634) ∧ Aside0 (Kd.R (Kd.int .i64) 2 w' w.heap.size (fun k_ => some k_ ≠ ((.slice Ao11 t634.length co11) : Value).ownBlock) (.slice Ao30 t647.length co30) t647) ∧ Aside0 (w'.heap[gb637]? = some (.cells #[.int .i64 t633, (.slice Ao11 t634.length co11)] 26 (0, 0))) ∧ Aside0 (w'.heap[gb651]? = some (.cells #[.int .i64 t646, (.slice Ao30 t647.length co30)] 26 (0, 0))) ∧ Aside0 (Kd.C (Kd.int .i64) w' (some ad645) (rd_L1 t638 t642).length (rd_L1 t638 t642)) ∧ Aside0 (Below w.heap.size w w'))
                                    case atStart => exact ⟨(t657), (0), (by first | rfl | (simp; done) | (simp [*]; done)), (by first | rfl | (simp; done) | (simp [*]; done)), H', ⟨Nat.le_refl _⟩, ⟨by (with_reducible repeat (first | apply Kd.R_alloc | apply Kd.R_drewN | apply Kd.R_drew)); exact HO_638001.out⟩, ⟨by (with_reducible repeat (first | apply Kd.R_alloc | apply Kd.R_drewN | apply Kd.R_drew)); exact HO_652001.out⟩, ⟨by (with_reducible repeat (first | refine blk_drewN ?_ _ | refine blk_drew ?_ | refine blk_alloc ?_ _)); exact BK637.out⟩, ⟨by (with_reducible repeat (first | refine blk_drewN ?_ _ | refine blk_drew ?_ | refine blk_alloc ?_ _)); exact BK651.out⟩, ⟨by repeat (first | (with_reducible exact HR643_0.out) | (with_reducible refine Kd.C_alloc ?_ _) | (with_reducible refine Kd.C_drewN ?_ _) | (with_reducible refine Kd.C_drew ?_) | exact HR643_0.out)⟩, ⟨by repeat (first | (with_reducible first | exact HB.out | apply below_alloc | apply pw_below_drewN | apply below_drew1 | refine below_set ?_ GE637.out | refine below_set ?_ GE651.out) | exact HB.out)⟩⟩
                                    case round =>
                                      clear H'
                                      try clear c1
                                      try clear c2
                                      try clear p2
                                      try clear c3
                                      try clear c4
                                      try clear c5
                                      try clear c6
                                      try clear p6
                                      try clear q6
                                      try clear hx6
                                      try clear c7
                                      try clear c13
                                      try clear c15
                                      try clear c17
                                      try clear c17b0
                                      try clear c18
                                      try clear c18b0
                                      try clear c20
                                      try clear c20b0
                                      try clear c21
                                      try clear c21b0
                                      try clear c28
                                      try clear c31
                                      try clear c33
                                      try clear c34
                                      try clear c34b0
                                      try clear c34b1
                                      try clear c36
                                      try clear c42
                                      try clear c47
                                      try clear c50
                                      try clear c51
                                      try clear c51b0
                                      try clear c52
                                      try clear c52b0
                                      try clear c53
                                      try clear c53b0
                                      try clear c54
                                      try clear c54b0
                                      try clear c55
                                      try clear c55b0
                                      try clear c55b1
                                      try clear c56
                                      try clear c59
                                      try clear c64
                                      try clear p64
                                      try clear q64
                                      try clear hx64
                                      try clear p65
                                      try clear q65
                                      try clear hx65
                                      try clear c66
                                      try clear c69
                                      try clear c70
                                      try clear c70b0
                                      try clear c70b1
                                      try clear c71
                                      try clear hcz10_0
                                      try clear hcz10_1
                                      try clear hcz25_0
                                      try clear hcz25_1
                                      try clear hcz29_0
                                      try clear hcz29_1
                                      try clear hcz37_0
                                      try clear hcz37_1
                                      try clear hcz39_0
                                      try clear hcz39_1
                                      try clear hcz40_0
                                      try clear hcz40_1
                                      try clear hcz43_0
                                      try clear hcz43_1
                                      try clear hcz45_0
                                      try clear hcz45_1
                                      try clear hcz46_0
                                      try clear hcz46_1
                                      try clear hcz48_0
                                      try clear hcz48_1
                                      try clear hcz57_0
                                      try clear hcz57_1
                                      try clear hcz58_0
                                      try clear hcz58_1
                                      try clear hcz60_0
                                      try clear hcz60_1
                                      try clear hcz61_0
                                      try clear hcz61_1
                                      try clear hcz67_0
                                      try clear hcz67_1
                                      try clear hfz10_0
                                      try clear hfz10_1
                                      try clear hfz25_0
                                      try clear hfz25_1
                                      try clear hfz29_0
                                      try clear hfz29_1
                                      try clear hfz37_0
                                      try clear hfz37_1
                                      try clear hfz39_0
                                      try clear hfz39_1
                                      try clear hfz40_0
                                      try clear hfz40_1
                                      try clear hfz43_0
                                      try clear hfz43_1
                                      try clear hfz45_0
                                      try clear hfz45_1
                                      try clear hfz46_0
                                      try clear hfz46_1
                                      try clear hfz48_0
                                      try clear hfz48_1
                                      try clear hfz57_0
                                      try clear hfz57_1
                                      try clear hfz58_0
                                      try clear hfz58_1
                                      try clear hfz60_0
                                      try clear hfz60_1
                                      try clear hfz61_0
                                      try clear hfz61_1
                                      try clear hfz67_0
                                      try clear hfz67_1
                                      try clear hx643_0
                                      try clear hx645_0
                                      try clear hx654_0
                                      try clear hx655_0
                                      try clear p2
                                      try clear p6
                                      try clear p64
                                      try clear p643
                                      try clear p645
                                      try clear p65
                                      try clear p654
                                      try clear p655
                                      try clear q6
                                      try clear q64
                                      try clear q643
                                      try clear q645
                                      try clear q65
                                      try clear q654
                                      try clear q655
                                      obtain ⟨x19_5, x20_5, rfl, rfl, HA, HK5, HO_638001, HO_652001, BK637, BK651, HR643_0, HB⟩ := hrel
                                      cases gk with
                                      | zero => exact absurd HA.out (by simp [laws_FnMended.l1])
                                      | succ k5 =>
                                        have H := HA.out
                                        clear HA
                                        simp only [laws_FnMended.l1] at H
                                        by_cases c72 : x20_5 < 30
                                        · rw [if_pos c72] at H
                                          have c72b0 : decide (x20_5 < 30) = true := decide_eq_true c72
                                          clear c72
                                          by_cases c73 : 0 ≤ x20_5
                                          · rw [if_pos c73] at H
                                            have c73b0 : decide (0 ≤ x20_5) = true := decide_eq_true c73
                                            clear c73
                                            by_cases c74 : x20_5 < (t658.size : Int)
                                            · rw [if_pos c74] at H
                                              have c74b0 : decide (x20_5 < (t658.size : Int)) = true := decide_eq_true c74
                                              clear c74
                                              obtain ⟨ji76, hji76⟩ : ∃ j_ : Int, (IntKind.u64.wrap (t656)) = j_ := ⟨_, rfl⟩
                                              replace H : (if 0 ≤ (ji76) then (if (wrap64 ((wrap64 (bt t658 x20_5)) - 48)) = (Go.bits .and .i64 (shr .i64 x19_5 (ji76)) 1) then (if 0 ≤ x19_5 then (if x19_5 < (t634.length : Int) then (laws_FnMended.l1 k5 t656 t658 (rd t634 x19_5) (wrap64 (x20_5 + 1)) t633 t634) else (none)) else (none)) else (some false)) else (none)) = some r := by first | (rw [hji76] at H; exact H) | (simp only [hji76] at H ⊢; exact H)
                                              by_cases c77 : 0 ≤ (ji76)
                                              · rw [if_pos c77] at H
                                                have c77b0 := eq_true c77
                                                have c77b1 : decide (0 ≤ (ji76)) = true := decide_eq_true c77
                                                clear c77
                                                obtain ⟨ji78, hji78⟩ : ∃ j_ : Int, (shr .i64 x19_5 (ji76)) = j_ := ⟨_, rfl⟩
                                                replace H : (if (wrap64 ((wrap64 (bt t658 x20_5)) - 48)) = (Go.bits .and .i64 (ji78) 1) then (if 0 ≤ x19_5 then (if x19_5 < (t634.length : Int) then (laws_FnMended.l1 k5 t656 t658 (rd t634 x19_5) (wrap64 (x20_5 + 1)) t633 t634) else (none)) else (none)) else (some false)) = some r := by first | (rw [hji78] at H; exact H) | (simp only [hji78] at H ⊢; exact H)
                                                have hji78_ : (x19_5 / 2 ^ min (ji76).toNat 64) = ji78 := hji78
                                                have hji78z : (ji76) ≤ 64 → (x19_5 / 2 ^ (ji76).toNat) = ji78 := shr_small hji78
                                                by_cases c79 : (wrap64 ((wrap64 (bt t658 x20_5)) - 48)) = (Go.bits .and .i64 (ji78) 1)
                                                · rw [if_pos c79] at H
                                                  have c79b0 : ((wrap64 ((wrap64 (bt t658 x20_5)) - 48)) == (Go.bits .and .i64 (ji78) 1)) = true := beq_iff_eq.mpr c79
                                                  have c79b1 : ((wrap64 ((wrap64 (bt t658 x20_5)) - 48)) != (Go.bits .and .i64 (ji78) 1)) = false := bne_eq_false_iff_eq.mpr c79
                                                  clear c79
                                                  by_cases c80 : 0 ≤ x19_5
                                                  · rw [if_pos c80] at H
                                                    have c80b0 : decide (0 ≤ x19_5) = true := decide_eq_true c80
                                                    clear c80
                                                    by_cases c81 : x19_5 < (t634.length : Int)
                                                    · rw [if_pos c81] at H
                                                      have c81b0 : decide (x19_5 < (t634.length : Int)) = true := decide_eq_true c81
                                                      clear c81
                                                      have H' := Aside0.mk H
                                                      clear H
                                                      have p75 : 0 ≤ (x20_5 : Int) := of_decide_eq_true (by first | (with_reducible assumption) | assumption)
                                                      have q75 : x20_5 < (t658.size : Int) := of_decide_eq_true (by first | (with_reducible assumption) | assumption)
                                                      have hx75 := bt_at t658 x20_5
                                                      replace p75 := eq_true p75
                                                      replace q75 := eq_true q75
                                                      have hnb82 := NB637_651.out
                                                      have hnc82 := NB651_637.out
                                                      have hcz83_0 : wr.cell? ⟨gb637, 0, none⟩ = some (.int .i64 t633) := (blk_cell BK637.out 0).trans rfl
                                                      have hcz83_1 : wr.cell? ⟨gb637, 1, none⟩ = some (.slice Ao11 t634.length co11) := (blk_cell BK637.out 1).trans rfl
                                                      have hfz83_0 := blk_frozen BK637.out 0
                                                      have hfz83_1 := blk_frozen BK637.out 1
                                                      have p660 : 0 ≤ (x19_5 : Int) := of_decide_eq_true (by first | (with_reducible assumption) | assumption)
                                                      have q660 : x19_5 < (t634.length : Int) := of_decide_eq_true (by first | (with_reducible assumption) | assumption)
                                                      obtain ⟨ad660, e660, hx660_0⟩ := Kd.at_int (Kd.R_reads' HO_638001.out).2.2 x19_5 p660 q660
                                                      cases e660
                                                      replace p660 := eq_true p660
                                                      replace q660 := eq_true q660
                                                      go_wp2
                                                      repeat (go_quiet (fail); try go_wp2)
                                                      go_roundg k5
                                                      case measure => have := HJ6.out; have := HJ22.out; have := HK3.out; have := HJ64.out; have := HK5.out; omega
                                                      case rel => exact ⟨(rd t634 x19_5), (wrap64 (x20_5 + 1)), (by first | rfl | (simp; done) | (simp [*]; done)), (by first | rfl | (simp; done) | (simp [*]; done)), H', ⟨by have := HJ6.out; have := HJ22.out; have := HK3.out; have := HJ64.out; have := HK5.out; omega⟩, ⟨by (with_reducible repeat (first | apply Kd.R_alloc | apply Kd.R_drewN | apply Kd.R_drew)); exact HO_638001.out⟩, ⟨by (with_reducible repeat (first | apply Kd.R_alloc | apply Kd.R_drewN | apply Kd.R_drew)); exact HO_652001.out⟩, ⟨by (with_reducible repeat (first | refine blk_drewN ?_ _ | refine blk_drew ?_ | refine blk_alloc ?_ _)); exact BK637.out⟩, ⟨by (with_reducible repeat (first | refine blk_drewN ?_ _ | refine blk_drew ?_ | refine blk_alloc ?_ _)); exact BK651.out⟩, ⟨by repeat (first | (with_reducible exact HR643_0.out) | (with_reducible refine Kd.C_alloc ?_ _) | (with_reducible refine Kd.C_drewN ?_ _) | (with_reducible refine Kd.C_drew ?_) | exact HR643_0.out)⟩, ⟨by repeat (first | (with_reducible first | exact HB.out | apply below_alloc | apply pw_below_drewN | apply below_drew1 | refine below_set ?_ GE637.out | refine below_set ?_ GE651.out) | exact HB.out)⟩⟩
                                                    · rw [if_neg c81] at H
                                                      exact absurd H (by simp)
                                                  · rw [if_neg c80] at H
                                                    exact absurd H (by simp)
                                                · rw [if_neg c79] at H
                                                  have c79b0 : ((wrap64 ((wrap64 (bt t658 x20_5)) - 48)) == (Go.bits .and .i64 (ji78) 1)) = false := beq_eq_false_iff_ne.mpr c79
                                                  have c79b1 : ((wrap64 ((wrap64 (bt t658 x20_5)) - 48)) != (Go.bits .and .i64 (ji78) 1)) = true := bne_iff_ne.mpr c79
                                                  obtain rfl := Option.some.inj H
                                                  have p75 : 0 ≤ (x20_5 : Int) := of_decide_eq_true (by first | (with_reducible assumption) | assumption)
                                                  have q75 : x20_5 < (t658.size : Int) := of_decide_eq_true (by first | (with_reducible assumption) | assumption)
                                                  have hx75 := bt_at t658 x20_5
                                                  replace p75 := eq_true p75
                                                  replace q75 := eq_true q75
                                                  go_wp2
                                                  repeat (go_quiet (fail); try go_wp2)
                                                  go_ret
                                                  exact ⟨by first | rfl | (simp [errW_none, errW_some] <;> rfl) | (simp only [← hji76, ← hji78]; first | rfl | (simp [errW_none, errW_some] <;> rfl)) | (simp [*, errW_none, errW_some] <;> rfl), by repeat (first | (with_reducible first | exact HB.out | apply below_alloc | apply pw_below_drewN | apply below_drew1 | refine below_set ?_ GE637.out | refine below_set ?_ GE651.out) | exact HB.out)⟩
                                              · rw [if_neg c77] at H
                                                exact absurd H (by simp)
                                            · rw [if_neg c74] at H
                                              exact absurd H (by simp)
                                          · rw [if_neg c73] at H
                                            exact absurd H (by simp)
                                        · rw [if_neg c72] at H
                                          have c72b0 : decide (x20_5 < 30) = false := decide_eq_false c72
                                          clear c72
                                          obtain rfl := Option.some.inj H
                                          go_wp2
                                          repeat (go_quiet (fail); try go_wp2)
                                          go_ret
                                          exact ⟨by first | rfl | (simp [errW_none, errW_some] <;> rfl) | (simp [*, errW_none, errW_some] <;> rfl), by repeat (first | (with_reducible first | exact HB.out | apply below_alloc | apply pw_below_drewN | apply below_drew1 | refine below_set ?_ GE637.out | refine below_set ?_ GE651.out) | exact HB.out)⟩
                · rw [if_neg c21] at H
                  exact absurd H (by simp)
              · rw [if_neg c20] at H
                exact absurd H (by simp)
            · rw [if_neg c18] at H
              exact absurd H (by simp)
          · rw [if_neg c17] at H
            exact absurd H (by simp)

/-- THE ONE PURE STATEMENT of laws_FnMended. -/
def laws_FnMended.Pure : Prop := ∀ (l0 : List Int) (l1 : List Int), l0.length ≤ maxLen → l0.length * 1 ≤ 140737488351232 → (∀ x ∈ l0, (Lit.int .u8 x).wf = true) → l1.length ≤ maxLen → l1.length * 1 ≤ 140737488351232 → (∀ x ∈ l1, (Lit.int .u8 x).wf = true) → ∃ k, laws_FnMended.f k l0 l1 = some true
theorem laws_FnMended.walk (P : laws_FnMended.Pure) (a0 : Option Addr) (len0 cap0 : Nat) (z0 : List Int) (a1 : Option Addr) (len1 cap1 : Nat) (z1 : List Int) (w : World) (w0 : (a0 = none ∧ len0 = 0 ∧ cap0 = 0 ∧ z0 = []) ∨ ∃ x, a0 = some x ∧ len0 ≤ cap0 ∧ cap0 ≤ maxLen ∧ z0.length = cap0 ∧ (∀ i, i < z0.length → w.cell? (x.add i) = some (.int .u8 (z0.getD i 0))) ∧ ∀ n ∈ z0, (Lit.int .u8 n).wf = true) (y0 : len0 * 1 ≤ 140737488351232) (w1 : (a1 = none ∧ len1 = 0 ∧ cap1 = 0 ∧ z1 = []) ∨ ∃ x, a1 = some x ∧ len1 ≤ cap1 ∧ cap1 ≤ maxLen ∧ z1.length = cap1 ∧ (∀ i, i < z1.length → w.cell? (x.add i) = some (.int .u8 (z1.getD i 0))) ∧ ∀ n ∈ z1, (Lit.int .u8 n).wf = true) (y1 : len1 * 1 ≤ 140737488351232) :
    Calls Try.prog 13 #[.slice a0 len0 cap0, .slice a1 len1 cap1] w fun e w' => e = .returned (.bool true) ∧ Below w.heap.size w w' := by
  obtain ⟨l0, rfl, hr0, hm0, hw0, hc0⟩ := ReadsInt.ofRowC w0
  obtain ⟨l1, rfl, hr1, hm1, hw1, hc1⟩ := ReadsInt.ofRowC w1
  obtain ⟨k, h⟩ := P l0 l1 hm0 y0 hw0 hm1 y1 hw1
  refine (laws_FnMended.calls k _ _ l0 _ _ l1 true w (Kd.C_of_reads (d := (0 : Int)) (h1 := fun _ => rfl) hr0) hc0 (Kd.C_of_reads (d := (0 : Int)) (h1 := fun _ => rfl) hr1) hc1 h).mono ?_
  rintro e w' ⟨rfl, hd⟩
  exact ⟨rfl, hd⟩

end Go.Proofs.Ytomepieklgplgaa.P
