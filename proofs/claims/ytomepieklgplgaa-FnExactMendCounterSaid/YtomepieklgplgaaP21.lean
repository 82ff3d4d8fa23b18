-- Written by this session's own program wip/drive.py (it drives print.py of the kit; contracts of its own beside).
import Derived.Test.YtomepieklgplgaaP0
import Derived.Test.YtomepieklgplgaaP1
import Derived.Test.YtomepieklgplgaaP2
import Derived.Test.YtomepieklgplgaaP9
import Derived.Test.YtomepieklgplgaaP18
import Derived.Test.YtomepieklgplgaaP20
namespace Go.Proofs.Ytomepieklgplgaa.P
open Go.RowKit Go.Proofs.YtomepieklgplgaaW.PrintWords Go.Proofs.YtomepieklgplgaaW.PrintLast Go.Proofs.YtomepieklgplgaaW.PrintMore
attribute [local go_sem] max2_int min2_int max_two min_two max_three min_three max_four min_four   -- for this text's walks alone
set_option linter.unusedVariables false
set_option linter.unusedSimpArgs false

/-! ### laws_FnExactMendCounter: function 14 -/
mutual
def laws_FnExactMendCounter.j0 : Nat → Int → Bool → Bool → Bool → Int → List Int → Int → List Int → Int → List Int → Int → List Int → Option (Bool)
  | 0, _, _, _, _, _, _, _, _, _, _, _, _ => none
  | k + 1, x1, x7, x10, x44, x769000, x769001, x780000, x780001, x785000, x785001, x791000, x791001 => if x44 = true then (some false) else ((laws_toCounter.f k x769000 x769001).bind fun bt792 => ((laws_eqCounter.f k x785000 x785001 bt792.1 bt792.2).bind fun t796 => (if t796 = true then ((laws_markCounter.f k x785000 x785001 1).bind fun bt797 => (if bt797.1 < 0 then (laws_FnExactMendCounter.j1 k x1 x7 true x769000 x769001 x780000 x780001 x791000 x791001) else ((laws_eqCounter.f k x791000 x791001 x780000 x780001).bind fun t799 => (if t799 = true then (laws_FnExactMendCounter.j1 k x1 x7 (x10 != x7) x769000 x769001 x780000 x780001 x791000 x791001) else (laws_FnExactMendCounter.j1 k x1 x7 true x769000 x769001 x780000 x780001 x791000 x791001))))) else (some false))))
def laws_FnExactMendCounter.j1 : Nat → Int → Bool → Bool → Int → List Int → Int → List Int → Int → List Int → Option (Bool)
  | 0, _, _, _, _, _, _, _, _, _ => none
  | k + 1, x1, x7, x65, x769000, x769001, x780000, x780001, x791000, x791001 => if x65 = true then (some false) else ((laws_markCounter.f k x791000 x791001 1).bind fun bt800 => ((laws_heldCounter.f k x791000 bt800.2 1).bind fun t802 => (if t802 < 0 then (some false) else (if t802 = bt800.1 then ((laws_toCounter.f k x769000 x769001).bind fun bt803 => ((impl_MendCounter.f k bt803.1 bt803.2 x1).bind fun bt807 => ((laws_eqCounter.f k bt807.1 bt807.2.1 x780000 x780001).bind fun t813 => (if t813 = true then (laws_FnExactMendCounter.j2 k bt800.1 (bt807.2.2 != x7) x791000 bt800.2) else (laws_FnExactMendCounter.j2 k bt800.1 true x791000 bt800.2))))) else (some false)))))
def laws_FnExactMendCounter.j2 : Nat → Int → Bool → Int → List Int → Option (Bool)
  | 0, _, _, _, _ => none
  | k + 1, x12, x92, x791000, x791001 => if x92 = true then (some false) else ((laws_heldCounter.f k x791000 x791001 1).bind fun t814 => (if t814 < 0 then (some false) else (if t814 = x12 then (some true) else (some false))))
end
def laws_FnExactMendCounter.f (k : Nat) (a0_0 : Int) (l0_1 : List Int) (a1 : Int) : Option (Bool) := (laws_szCounter.f a0_0 l0_1 1048576).bind fun t769 => (if t769 < 0 then (some true) else ((laws_toCounter.f k a0_0 l0_1).bind fun bt770 => ((spec_MendCounter.f k bt770.1 bt770.2 a1).bind fun bt774 => ((laws_toCounter.f k a0_0 l0_1).bind fun bt780 => ((impl_MendCounter.f k bt780.1 bt780.2 a1).bind fun bt785 => ((laws_eqCounter.f k bt785.1 bt785.2.1 bt774.1 bt774.2.1).bind fun t791 => (if t791 = true then (laws_FnExactMendCounter.j0 k a1 bt774.2.2 bt785.2.2 (bt785.2.2 != bt774.2.2) a0_0 l0_1 bt774.1 bt774.2.1 bt780.1 bt780.2 bt785.1 bt785.2.1) else (laws_FnExactMendCounter.j0 k a1 bt774.2.2 bt785.2.2 true a0_0 l0_1 bt774.1 bt774.2.1 bt780.1 bt780.2 bt785.1 bt785.2.1))))))))
theorem laws_FnExactMendCounter.mono_l : ∀ k, (∀ y0 y1 y2 y3 y4 y5 y6 y7 y8 y9 y10 y11, LeO (laws_FnExactMendCounter.j0 k y0 y1 y2 y3 y4 y5 y6 y7 y8 y9 y10 y11) (laws_FnExactMendCounter.j0 (k + 1) y0 y1 y2 y3 y4 y5 y6 y7 y8 y9 y10 y11)) ∧ (∀ y0 y1 y2 y3 y4 y5 y6 y7 y8, LeO (laws_FnExactMendCounter.j1 k y0 y1 y2 y3 y4 y5 y6 y7 y8) (laws_FnExactMendCounter.j1 (k + 1) y0 y1 y2 y3 y4 y5 y6 y7 y8)) ∧ (∀ y0 y1 y2 y3, LeO (laws_FnExactMendCounter.j2 k y0 y1 y2 y3) (laws_FnExactMendCounter.j2 (k + 1) y0 y1 y2 y3))
  | 0 => ⟨fun _ _ _ _ _ _ _ _ _ _ _ _ r h => by simp [laws_FnExactMendCounter.j0] at h, fun _ _ _ _ _ _ _ _ _ r h => by simp [laws_FnExactMendCounter.j1] at h, fun _ _ _ _ r h => by simp [laws_FnExactMendCounter.j2] at h⟩
  | k + 1 => by
    obtain ⟨ih0, ih1, ih2⟩ := laws_FnExactMendCounter.mono_l k
    refine ⟨?_, ?_, ?_⟩
    · intro y0 y1 y2 y3 y4 y5 y6 y7 y8 y9 y10 y11
      unfold laws_FnExactMendCounter.j0
      repeat' first
      | (with_reducible exact ih0 _ _ _ _ _ _ _ _ _ _ _ _)
      | (with_reducible exact ih1 _ _ _ _ _ _ _ _ _)
      | (with_reducible exact ih2 _ _ _ _)
      | (with_reducible exact impl_MendCounter.mono _ _ _ _)
      | (with_reducible exact laws_eqCounter.mono _ _ _ _ _)
      | (with_reducible exact laws_heldCounter.mono _ _ _ _)
      | (with_reducible exact laws_markCounter.mono _ _ _ _)
      | (with_reducible exact laws_toCounter.mono _ _ _)
      | (with_reducible exact spec_MendCounter.mono _ _ _ _)
      | (with_reducible exact LeO.refl _)
      | (with_reducible exact LeO.none _)
      | (with_reducible refine LeO.ite ?_ ?_)
      | (with_reducible refine LeO.bind ?_ (fun _ => ?_))
      | exact ih0 _ _ _ _ _ _ _ _ _ _ _ _
      | exact ih1 _ _ _ _ _ _ _ _ _
      | exact ih2 _ _ _ _
      | exact impl_MendCounter.mono _ _ _ _
      | exact laws_eqCounter.mono _ _ _ _ _
      | exact laws_heldCounter.mono _ _ _ _
      | exact laws_markCounter.mono _ _ _ _
      | exact laws_toCounter.mono _ _ _
      | exact spec_MendCounter.mono _ _ _ _
      | exact LeO.none _
      | refine LeO.ite ?_ ?_
      | refine LeO.bind ?_ (fun _ => ?_)
    · intro y0 y1 y2 y3 y4 y5 y6 y7 y8
      unfold laws_FnExactMendCounter.j1
      repeat' first
      | (with_reducible exact ih0 _ _ _ _ _ _ _ _ _ _ _ _)
      | (with_reducible exact ih1 _ _ _ _ _ _ _ _ _)
      | (with_reducible exact ih2 _ _ _ _)
      | (with_reducible exact impl_MendCounter.mono _ _ _ _)
      | (with_reducible exact laws_eqCounter.mono _ _ _ _ _)
      | (with_reducible exact laws_heldCounter.mono _ _ _ _)
      | (with_reducible exact laws_markCounter.mono _ _ _ _)
      | (with_reducible exact laws_toCounter.mono _ _ _)
      | (with_reducible exact spec_MendCounter.mono _ _ _ _)
      | (with_reducible exact LeO.refl _)
      | (with_reducible exact LeO.none _)
      | (with_reducible refine LeO.ite ?_ ?_)
      | (with_reducible refine LeO.bind ?_ (fun _ => ?_))
      | exact ih0 _ _ _ _ _ _ _ _ _ _ _ _
      | exact ih1 _ _ _ _ _ _ _ _ _
      | exact ih2 _ _ _ _
      | exact impl_MendCounter.mono _ _ _ _
      | exact laws_eqCounter.mono _ _ _ _ _
      | exact laws_heldCounter.mono _ _ _ _
      | exact laws_markCounter.mono _ _ _ _
      | exact laws_toCounter.mono _ _ _
      | exact spec_MendCounter.mono _ _ _ _
      | exact LeO.none _
      | refine LeO.ite ?_ ?_
      | refine LeO.bind ?_ (fun _ => ?_)
    · intro y0 y1 y2 y3
      unfold laws_FnExactMendCounter.j2
      repeat' first
      | (with_reducible exact ih0 _ _ _ _ _ _ _ _ _ _ _ _)
      | (with_reducible exact ih1 _ _ _ _ _ _ _ _ _)
      | (with_reducible exact ih2 _ _ _ _)
      | (with_reducible exact impl_MendCounter.mono _ _ _ _)
      | (with_reducible exact laws_eqCounter.mono _ _ _ _ _)
      | (with_reducible exact laws_heldCounter.mono _ _ _ _)
      | (with_reducible exact laws_markCounter.mono _ _ _ _)
      | (with_reducible exact laws_toCounter.mono _ _ _)
      | (with_reducible exact spec_MendCounter.mono _ _ _ _)
      | (with_reducible exact LeO.refl _)
      | (with_reducible exact LeO.none _)
      | (with_reducible refine LeO.ite ?_ ?_)
      | (with_reducible refine LeO.bind ?_ (fun _ => ?_))
      | exact ih0 _ _ _ _ _ _ _ _ _ _ _ _
      | exact ih1 _ _ _ _ _ _ _ _ _
      | exact ih2 _ _ _ _
      | exact impl_MendCounter.mono _ _ _ _
      | exact laws_eqCounter.mono _ _ _ _ _
      | exact laws_heldCounter.mono _ _ _ _
      | exact laws_markCounter.mono _ _ _ _
      | exact laws_toCounter.mono _ _ _
      | exact spec_MendCounter.mono _ _ _ _
      | exact LeO.none _
      | refine LeO.ite ?_ ?_
      | refine LeO.bind ?_ (fun _ => ?_)
theorem laws_FnExactMendCounter.mono : ∀ a0 a1 a2 k, LeO (laws_FnExactMendCounter.f k a0 a1 a2) (laws_FnExactMendCounter.f (k + 1) a0 a1 a2) := by
  intro a0 a1 a2 k
  obtain ⟨ih0, ih1, ih2⟩ := laws_FnExactMendCounter.mono_l k
  unfold laws_FnExactMendCounter.f
  repeat' first
      | (with_reducible exact ih0 _ _ _ _ _ _ _ _ _ _ _ _)
      | (with_reducible exact ih1 _ _ _ _ _ _ _ _ _)
      | (with_reducible exact ih2 _ _ _ _)
      | (with_reducible exact impl_MendCounter.mono _ _ _ _)
      | (with_reducible exact laws_eqCounter.mono _ _ _ _ _)
      | (with_reducible exact laws_heldCounter.mono _ _ _ _)
      | (with_reducible exact laws_markCounter.mono _ _ _ _)
      | (with_reducible exact laws_toCounter.mono _ _ _)
      | (with_reducible exact spec_MendCounter.mono _ _ _ _)
      | (with_reducible exact LeO.refl _)
      | (with_reducible exact LeO.none _)
      | (with_reducible refine LeO.ite ?_ ?_)
      | (with_reducible refine LeO.bind ?_ (fun _ => ?_))
      | exact ih0 _ _ _ _ _ _ _ _ _ _ _ _
      | exact ih1 _ _ _ _ _ _ _ _ _
      | exact ih2 _ _ _ _
      | exact impl_MendCounter.mono _ _ _ _
      | exact laws_eqCounter.mono _ _ _ _ _
      | exact laws_heldCounter.mono _ _ _ _
      | exact laws_markCounter.mono _ _ _ _
      | exact laws_toCounter.mono _ _ _
      | exact spec_MendCounter.mono _ _ _ _
      | exact LeO.none _
      | refine LeO.ite ?_ ?_
      | refine LeO.bind ?_ (fun _ => ?_)
set_option maxHeartbeats 8000000 in
set_option maxRecDepth 100000 in
theorem laws_FnExactMendCounter.calls (k : Nat) (a0_0 : Int) (A0_1 : Option Addr) (c0_1 : Nat) (l0_1 : List Int) (a1 : Int) (r : Bool) (w : World) (hr0_1 : Kd.C (Kd.int .i64) w A0_1 l0_1.length l0_1) (hc0_1 : l0_1.length ≤ c0_1) (h : laws_FnExactMendCounter.f k a0_0 l0_1 a1 = some r) :
    Calls Try.prog 14 #[.agg #[.int .i64 a0_0, .slice A0_1 l0_1.length c0_1], .int .i64 a1] w fun e w' => e = .returned (.bool r) ∧ Below w.heap.size w w' := by
  have hu37 := Try.underlying37
  have hu26 := Try.underlying26
  have HR0_1 := Aside0.mk hr0_1
  have HC0_1 := Aside0.mk hc0_1
  clear hr0_1 hc0_1
  have HB := Aside0.mk (Below.refl w.heap.size w)
  have H : ((laws_szCounter.f a0_0 l0_1 1048576).bind fun t769 => (if t769 < 0 then (some true) else ((laws_toCounter.f k a0_0 l0_1).bind fun bt770 => ((spec_MendCounter.f k bt770.1 bt770.2 a1).bind fun bt774 => ((laws_toCounter.f k a0_0 l0_1).bind fun bt780 => ((impl_MendCounter.f k bt780.1 bt780.2 a1).bind fun bt785 => ((laws_eqCounter.f k bt785.1 bt785.2.1 bt774.1 bt774.2.1).bind fun t791 => (if t791 = true then (laws_FnExactMendCounter.j0 k a1 bt774.2.2 bt785.2.2 (bt785.2.2 != bt774.2.2) a0_0 l0_1 bt774.1 bt774.2.1 bt780.1 bt780.2 bt785.1 bt785.2.1) else (laws_FnExactMendCounter.j0 k a1 bt774.2.2 bt785.2.2 true a0_0 l0_1 bt774.1 bt774.2.1 bt780.1 bt780.2 bt785.1 bt785.2.1))))))))) = some r := h
  clear h
  replace H := Option.bind_eq_some_iff.mp H
  obtain ⟨t769, A30, H⟩ := H
  replace H : (if t769 < 0 then (some true) else ((laws_toCounter.f k a0_0 l0_1).bind fun bt770 => ((spec_MendCounter.f k bt770.1 bt770.2 a1).bind fun bt774 => ((laws_toCounter.f k a0_0 l0_1).bind fun bt780 => ((impl_MendCounter.f k bt780.1 bt780.2 a1).bind fun bt785 => ((laws_eqCounter.f k bt785.1 bt785.2.1 bt774.1 bt774.2.1).bind fun t791 => (if t791 = true then (laws_FnExactMendCounter.j0 k a1 bt774.2.2 bt785.2.2 (bt785.2.2 != bt774.2.2) a0_0 l0_1 bt774.1 bt774.2.1 bt780.1 bt780.2 bt785.1 bt785.2.1) else (laws_FnExactMendCounter.j0 k a1 bt774.2.2 bt785.2.2 true a0_0 l0_1 bt774.1 bt774.2.1 bt780.1 bt780.2 bt785.1 bt785.2.1)))))))) = some r := H
  have A3 := Aside0.mk A30
  clear A30
  by_cases c4 : t769 < 0
  · rw [if_pos c4] at H
    have c4b0 : decide (t769 < 0) = true := decide_eq_true c4
    clear c4
    obtain rfl := Option.some.inj H
    go_enter Try.func14, Try.ntmps14
    go_wp2_with (first | ((with_reducible refine gate_dst (N := 2) rfl ?_); refine box_event ?hg (N := 2) ?hd (cs := #[.int .i64 a0_0, .slice A0_1 l0_1.length c0_1]) (t := 37) ?hr ?_; (case hd => rfl); (case hg => rfl); (case hr => first | (go_simp; done) | (go_simp; rfl)); intro gb768 hg w5 hbox hb; have n0_ := Aside0.mk (below_step (by repeat (first | (with_reducible first | exact HB.out | apply below_alloc | apply pw_below_drewN | apply below_drew1) | exact HB.out)) hb); have n1_ := Aside0.mk (hbox); have n2_ := Aside0.mk ((by rw [hg]; exact (below_size (by repeat (first | (with_reducible first | exact HB.out | apply below_alloc | apply pw_below_drewN | apply below_drew1) | exact HB.out))) : w.heap.size ≤ gb768)); have n3_ := Aside0.mk ((by rw [hg]; exact (below_size (by repeat (first | (with_reducible first | exact HB.out | apply below_alloc | apply pw_below_drewN | apply below_drew1) | exact HB.out))) : w.heap.size ≤ gb768)); clear HB; have HB := n0_; have BK768 := n1_; have GW768 := n2_; have GE768 := n3_; clear n0_ n1_ n2_ n3_; clear hb hbox hg; have hcz6_0 : w5.cell? ⟨gb768, 0, none⟩ = some (.int .i64 a0_0) := (blk_cell BK768.out 0).trans rfl; have hcz6_1 : w5.cell? ⟨gb768, 1, none⟩ = some (.slice A0_1 l0_1.length c0_1) := (blk_cell BK768.out 1).trans rfl; have hfz6_0 := blk_frozen BK768.out 0; have hfz6_1 := blk_frozen BK768.out 1) | ((with_reducible refine gate_callee (f := 22) rfl ?_); refine goesL_ (some 18) rfl rfl Try.func22 (by kernel_rfl) rfl #[.agg #[.int .i64 a0_0, .slice A0_1 l0_1.length c0_1], .int .i64 1048576] rfl (by (try simp only [List.map_toArray, List.map_cons, List.map_nil]); first | done | rfl | (simp only [List.length_drop, List.length_take]; rfl)) ?_; (with_reducible refine (laws_szCounter.calls a0_0 _ _ l0_1 1048576 t769 _ ?side1 ?side2 A3.out).mono ?_); (case side1 => repeat (first | exact (Kd.C_below HR0_1.out HB.out) | (with_reducible refine Kd.C_alloc ?_ _) | (with_reducible refine Kd.C_drewN ?_ _) | (with_reducible refine Kd.C_drew ?_))); (case side2 => exact HC0_1.out); rintro e w7 ⟨rfl, hb⟩; refine ⟨_, rfl, ?_⟩; have n0_ := Aside0.mk (blk_below (g := gb768) (o := .cells #[.int .i64 a0_0, .slice A0_1 l0_1.length c0_1] 37 (0, 0)) (by (with_reducible repeat (first | refine blk_drewN ?_ _ | refine blk_drew ?_ | refine blk_alloc ?_ _)); exact BK768.out) hb); have n1_ := Aside0.mk (below_step (by repeat (first | (with_reducible first | exact HB.out | apply below_alloc | apply pw_below_drewN | apply below_drew1 | refine below_set ?_ GE768.out) | exact HB.out)) hb); clear BK768; clear HB; have BK768 := n0_; have HB := n1_; clear n0_ n1_; (try clear hb); (try clear hb2); (try clear hk); (try clear hi)))
    go_ret
    exact ⟨by first | rfl | (simp [errW_none, errW_some] <;> rfl) | (simp [*, errW_none, errW_some] <;> rfl), by repeat (first | (with_reducible first | exact HB.out | apply below_alloc | apply pw_below_drewN | apply below_drew1 | refine below_set ?_ GE768.out) | exact HB.out)⟩
  · rw [if_neg c4] at H
    have c4b0 : decide (t769 < 0) = false := decide_eq_false c4
    clear c4
    replace H := Option.bind_eq_some_iff.mp H
    obtain ⟨⟨t770, t771⟩, A80, H⟩ := H
    replace H : ((spec_MendCounter.f k t770 t771 a1).bind fun bt774 => ((laws_toCounter.f k a0_0 l0_1).bind fun bt780 => ((impl_MendCounter.f k bt780.1 bt780.2 a1).bind fun bt785 => ((laws_eqCounter.f k bt785.1 bt785.2.1 bt774.1 bt774.2.1).bind fun t791 => (if t791 = true then (laws_FnExactMendCounter.j0 k a1 bt774.2.2 bt785.2.2 (bt785.2.2 != bt774.2.2) a0_0 l0_1 bt774.1 bt774.2.1 bt780.1 bt780.2 bt785.1 bt785.2.1) else (laws_FnExactMendCounter.j0 k a1 bt774.2.2 bt785.2.2 true a0_0 l0_1 bt774.1 bt774.2.1 bt780.1 bt780.2 bt785.1 bt785.2.1)))))) = some r := H
    have A8 := Aside0.mk A80
    clear A80
    replace H := Option.bind_eq_some_iff.mp H
    obtain ⟨⟨t774, t775, t778⟩, A90, H⟩ := H
    replace H : ((laws_toCounter.f k a0_0 l0_1).bind fun bt780 => ((impl_MendCounter.f k bt780.1 bt780.2 a1).bind fun bt785 => ((laws_eqCounter.f k bt785.1 bt785.2.1 t774 t775).bind fun t791 => (if t791 = true then (laws_FnExactMendCounter.j0 k a1 t778 bt785.2.2 (bt785.2.2 != t778) a0_0 l0_1 t774 t775 bt780.1 bt780.2 bt785.1 bt785.2.1) else (laws_FnExactMendCounter.j0 k a1 t778 bt785.2.2 true a0_0 l0_1 t774 t775 bt780.1 bt780.2 bt785.1 bt785.2.1))))) = some r := H
    have A9 := Aside0.mk A90
    clear A90
    replace H := Option.bind_eq_some_iff.mp H
    obtain ⟨⟨t780, t781⟩, A100, H⟩ := H
    replace H : ((impl_MendCounter.f k t780 t781 a1).bind fun bt785 => ((laws_eqCounter.f k bt785.1 bt785.2.1 t774 t775).bind fun t791 => (if t791 = true then (laws_FnExactMendCounter.j0 k a1 t778 bt785.2.2 (bt785.2.2 != t778) a0_0 l0_1 t774 t775 t780 t781 bt785.1 bt785.2.1) else (laws_FnExactMendCounter.j0 k a1 t778 bt785.2.2 true a0_0 l0_1 t774 t775 t780 t781 bt785.1 bt785.2.1)))) = some r := H
    have A10 := Aside0.mk A100
    clear A100
    replace H := Option.bind_eq_some_iff.mp H
    obtain ⟨⟨t785, t786, t789⟩, A110, H⟩ := H
    replace H : ((laws_eqCounter.f k t785 t786 t774 t775).bind fun t791 => (if t791 = true then (laws_FnExactMendCounter.j0 k a1 t778 t789 (t789 != t778) a0_0 l0_1 t774 t775 t780 t781 t785 t786) else (laws_FnExactMendCounter.j0 k a1 t778 t789 true a0_0 l0_1 t774 t775 t780 t781 t785 t786))) = some r := H
    have A11 := Aside0.mk A110
    clear A110
    have HC12 := Aside0.mk H
    clear H
    go_enter Try.func14, Try.ntmps14
    go_upto_region 8 with (first | ((with_reducible refine gate_dst (N := 2) rfl ?_); refine box_event ?hg (N := 2) ?hd (cs := #[.int .i64 a0_0, .slice A0_1 l0_1.length c0_1]) (t := 37) ?hr ?_; (case hd => rfl); (case hg => rfl); (case hr => first | (go_simp; done) | (go_simp; rfl)); intro gb768 hg w13 hbox hb; have n0_ := Aside0.mk (below_step (by repeat (first | (with_reducible first | exact HB.out | apply below_alloc | apply pw_below_drewN | apply below_drew1) | exact HB.out)) hb); have n1_ := Aside0.mk (hbox); have n2_ := Aside0.mk ((by rw [hg]; exact (below_size (by repeat (first | (with_reducible first | exact HB.out | apply below_alloc | apply pw_below_drewN | apply below_drew1) | exact HB.out))) : w.heap.size ≤ gb768)); have n3_ := Aside0.mk ((by rw [hg]; exact (below_size (by repeat (first | (with_reducible first | exact HB.out | apply below_alloc | apply pw_below_drewN | apply below_drew1) | exact HB.out))) : w.heap.size ≤ gb768)); clear HB; have HB := n0_; have BK768 := n1_; have GW768 := n2_; have GE768 := n3_; clear n0_ n1_ n2_ n3_; clear hb hbox hg; have hcz14_0 : w13.cell? ⟨gb768, 0, none⟩ = some (.int .i64 a0_0) := (blk_cell BK768.out 0).trans rfl; have hcz14_1 : w13.cell? ⟨gb768, 1, none⟩ = some (.slice A0_1 l0_1.length c0_1) := (blk_cell BK768.out 1).trans rfl; have hfz14_0 := blk_frozen BK768.out 0; have hfz14_1 := blk_frozen BK768.out 1) | ((with_reducible refine gate_callee (f := 22) rfl ?_); refine goesL_ (some 18) rfl rfl Try.func22 (by kernel_rfl) rfl #[.agg #[.int .i64 a0_0, .slice A0_1 l0_1.length c0_1], .int .i64 1048576] rfl (by (try simp only [List.map_toArray, List.map_cons, List.map_nil]); first | done | rfl | (simp only [List.length_drop, List.length_take]; rfl)) ?_; (with_reducible refine (laws_szCounter.calls a0_0 _ _ l0_1 1048576 t769 _ ?side1 ?side2 A3.out).mono ?_); (case side1 => repeat (first | exact (Kd.C_below HR0_1.out HB.out) | (with_reducible refine Kd.C_alloc ?_ _) | (with_reducible refine Kd.C_drewN ?_ _) | (with_reducible refine Kd.C_drew ?_))); (case side2 => exact HC0_1.out); rintro e w15 ⟨rfl, hb⟩; refine ⟨_, rfl, ?_⟩; have n0_ := Aside0.mk (blk_below (g := gb768) (o := .cells #[.int .i64 a0_0, .slice A0_1 l0_1.length c0_1] 37 (0, 0)) (by (with_reducible repeat (first | refine blk_drewN ?_ _ | refine blk_drew ?_ | refine blk_alloc ?_ _)); exact BK768.out) hb); have n1_ := Aside0.mk (below_step (by repeat (first | (with_reducible first | exact HB.out | apply below_alloc | apply pw_below_drewN | apply below_drew1 | refine below_set ?_ GE768.out) | exact HB.out)) hb); clear BK768; clear HB; have BK768 := n0_; have HB := n1_; clear n0_ n1_; (try clear hb); (try clear hb2); (try clear hk); (try clear hi); have hcz16_0 : w15.cell? ⟨gb768, 0, none⟩ = some (.int .i64 a0_0) := (blk_cell BK768.out 0).trans rfl; have hcz16_1 : w15.cell? ⟨gb768, 1, none⟩ = some (.slice A0_1 l0_1.length c0_1) := (blk_cell BK768.out 1).trans rfl; have hfz16_0 := blk_frozen BK768.out 0; have hfz16_1 := blk_frozen BK768.out 1) | ((with_reducible refine gate_callee (f := 24) rfl ?_); refine goesL_ (some 23) rfl rfl Try.func24 (by kernel_rfl) rfl #[.agg #[.int .i64 a0_0, .slice A0_1 l0_1.length c0_1]] rfl (by (try simp only [List.map_toArray, List.map_cons, List.map_nil]); first | done | rfl | (simp only [List.length_drop, List.length_take]; rfl)) ?_; (with_reducible refine (laws_toCounter.calls k a0_0 _ _ l0_1 t770 t771 _ ?side1 ?side2 A8.out).mono ?_); (case side1 => repeat (first | exact (Kd.C_below HR0_1.out HB.out) | (with_reducible refine Kd.C_alloc ?_ _) | (with_reducible refine Kd.C_drewN ?_ _) | (with_reducible refine Kd.C_drew ?_))); (case side2 => exact HC0_1.out); rintro e w17 ⟨v772, rfl, ho0, hb⟩; refine ⟨_, rfl, ?_⟩; have n0_ := Aside0.mk (Kd.R_lower ho0 (below_size (by repeat (first | (with_reducible first | exact HB.out | apply below_alloc | apply pw_below_drewN | apply below_drew1 | refine below_set ?_ GE768.out) | exact HB.out)))); have n1_ := Aside0.mk (blk_below (g := gb768) (o := .cells #[.int .i64 a0_0, .slice A0_1 l0_1.length c0_1] 37 (0, 0)) (by (with_reducible repeat (first | refine blk_drewN ?_ _ | refine blk_drew ?_ | refine blk_alloc ?_ _)); exact BK768.out) hb); have n2_ := Aside0.mk (below_step (by repeat (first | (with_reducible first | exact HB.out | apply below_alloc | apply pw_below_drewN | apply below_drew1 | refine below_set ?_ GE768.out) | exact HB.out)) hb); clear BK768; clear HB; have HO773 := n0_; have BK768 := n1_; have HB := n2_; clear n0_ n1_ n2_; (try clear hb); (try clear hb2); (try clear hk); (try clear hi); (try clear ho0); obtain ⟨Ao18, co18, eo18⟩ := Kd.R_slice HO773.out; subst eo18) | ((with_reducible refine gate_callee (f := 45) rfl ?_); refine goesL_ (some 25) rfl rfl Try.func45 (by kernel_rfl) rfl #[.agg #[.int .i64 t770, .slice Ao18 t771.length co18], .int .i64 a1] rfl (by (try simp only [List.map_toArray, List.map_cons, List.map_nil]); first | done | rfl | (simp only [List.length_drop, List.length_take]; rfl)) ?_; (with_reducible refine (spec_MendCounter.calls k t770 _ _ t771 a1 t774 t775 t778 _ ?side1 ?side2 A9.out).mono ?_); (case side1 => repeat (first | exact (Kd.R_reads' HO773.out).2.2 | (with_reducible refine Kd.C_alloc ?_ _) | (with_reducible refine Kd.C_drewN ?_ _) | (with_reducible refine Kd.C_drew ?_))); (case side2 => exact (Kd.R_reads' HO773.out).2.1); rintro e w19 ⟨v776, rfl, ho0, hb⟩; refine ⟨_, rfl, ?_⟩; have n0_ := Aside0.mk (Kd.R_elder' (by (with_reducible repeat (first | apply Kd.R_alloc | apply Kd.R_drewN | apply Kd.R_drew)); exact HO773.out) (Kd.R_base ho0) hb); have n1_ := Aside0.mk (Kd.R_lower (Kd.R_new' ho0 (Kd.R_lt (by (with_reducible repeat (first | apply Kd.R_alloc | apply Kd.R_drewN | apply Kd.R_drew)); exact HO773.out))) (below_size (by repeat (first | (with_reducible first | exact HB.out | apply below_alloc | apply pw_below_drewN | apply below_drew1 | refine below_set ?_ GE768.out) | exact HB.out)))); have n2_ := Aside0.mk (blk_below (g := gb768) (o := .cells #[.int .i64 a0_0, .slice A0_1 l0_1.length c0_1] 37 (0, 0)) (by (with_reducible repeat (first | refine blk_drewN ?_ _ | refine blk_drew ?_ | refine blk_alloc ?_ _)); exact BK768.out) hb); have n3_ := Aside0.mk (below_step (by repeat (first | (with_reducible first | exact HB.out | apply below_alloc | apply pw_below_drewN | apply below_drew1 | refine below_set ?_ GE768.out) | exact HB.out)) hb); clear HO773; clear BK768; clear HB; have HO773 := n0_; have HO777 := n1_; have BK768 := n2_; have HB := n3_; clear n0_ n1_ n2_ n3_; (try clear hb); (try clear hb2); (try clear hk); (try clear hi); (try clear ho0)) | ((with_reducible refine gate_dst (N := 6) rfl ?_); refine box_event ?hg (N := 6) ?hd (cs := #[.int .i64 0, .slice none 0 0]) (t := 26) ?hr ?_; (case hd => rfl); (case hg => rfl); (case hr => first | (go_simp; done) | (go_simp; rfl)); intro gb779 hg w20 hbox hb; have n0_ := Aside0.mk (Kd.R_below (by (with_reducible repeat (first | apply Kd.R_alloc | apply Kd.R_drewN | apply Kd.R_drew)); exact HO773.out) hb); have n1_ := Aside0.mk (Kd.R_below (by (with_reducible repeat (first | apply Kd.R_alloc | apply Kd.R_drewN | apply Kd.R_drew)); exact HO777.out) hb); have n2_ := Aside0.mk (blk_below (g := gb768) (o := .cells #[.int .i64 a0_0, .slice A0_1 l0_1.length c0_1] 37 (0, 0)) (by (with_reducible repeat (first | refine blk_drewN ?_ _ | refine blk_drew ?_ | refine blk_alloc ?_ _)); exact BK768.out) hb); have n3_ := Aside0.mk (below_step (by repeat (first | (with_reducible first | exact HB.out | apply below_alloc | apply pw_below_drewN | apply below_drew1 | refine below_set ?_ GE768.out) | exact HB.out)) hb); have n4_ := Aside0.mk (hbox); have n5_ := Aside0.mk ((by rw [hg]; exact (below_size (by repeat (first | (with_reducible first | exact HB.out | apply below_alloc | apply pw_below_drewN | apply below_drew1 | refine below_set ?_ GE768.out) | exact HB.out))) : w.heap.size ≤ gb779)); have n6_ := Aside0.mk ((by rw [hg]; exact (below_size (by repeat (first | (with_reducible first | exact HB.out | apply below_alloc | apply pw_below_drewN | apply below_drew1 | refine below_set ?_ GE768.out) | exact HB.out))) : w.heap.size ≤ gb779)); have n7_ := Aside0.mk ((by rw [hg]; exact Nat.ne_of_lt (blk_lt (g := gb768) (o := .cells #[.int .i64 a0_0, .slice A0_1 l0_1.length c0_1] 37 (0, 0)) (by (with_reducible repeat (first | refine blk_drewN ?_ _ | refine blk_drew ?_ | refine blk_alloc ?_ _)); exact BK768.out)) : gb768 ≠ gb779)); have n8_ := Aside0.mk ((by rw [hg]; exact Nat.ne_of_gt (blk_lt (g := gb768) (o := .cells #[.int .i64 a0_0, .slice A0_1 l0_1.length c0_1] 37 (0, 0)) (by (with_reducible repeat (first | refine blk_drewN ?_ _ | refine blk_drew ?_ | refine blk_alloc ?_ _)); exact BK768.out)) : gb779 ≠ gb768)); clear HO773; clear HO777; clear BK768; clear HB; have HO773 := n0_; have HO777 := n1_; have BK768 := n2_; have HB := n3_; have BK779 := n4_; have GW779 := n5_; have GE779 := n6_; have NB768_779 := n7_; have NB779_768 := n8_; clear n0_ n1_ n2_ n3_ n4_ n5_ n6_ n7_ n8_; clear hb hbox hg; have hnb21 := NB779_768.out; have hnc21 := NB768_779.out; have hcz22_0 : w20.cell? ⟨gb779, 0, none⟩ = some (.int .i64 0) := (blk_cell BK779.out 0).trans rfl; have hcz22_1 : w20.cell? ⟨gb779, 1, none⟩ = some (.slice none 0 0) := (blk_cell BK779.out 1).trans rfl; have hfz22_0 := blk_frozen BK779.out 0; have hfz22_1 := blk_frozen BK779.out 1; obtain ⟨Ao23, co23, eo23⟩ := Kd.R_slice HO777.out; subst eo23; have hcz24_0 : w20.cell? ⟨gb768, 0, none⟩ = some (.int .i64 a0_0) := (blk_cell BK768.out 0).trans rfl; have hcz24_1 : w20.cell? ⟨gb768, 1, none⟩ = some (.slice A0_1 l0_1.length c0_1) := (blk_cell BK768.out 1).trans rfl; have hfz24_0 := blk_frozen BK768.out 0; have hfz24_1 := blk_frozen BK768.out 1) | ((with_reducible refine gate_callee (f := 24) rfl ?_); refine goesL_ (some 29) rfl rfl Try.func24 (by kernel_rfl) rfl #[.agg #[.int .i64 a0_0, .slice A0_1 l0_1.length c0_1]] rfl (by (try simp only [List.map_toArray, List.map_cons, List.map_nil]); first | done | rfl | (simp only [List.length_drop, List.length_take]; rfl)) ?_; (with_reducible refine (laws_toCounter.calls k a0_0 _ _ l0_1 t780 t781 _ ?side1 ?side2 A10.out).mono ?_); (case side1 => exact Kd.C_below HR0_1.out (by repeat (first | (with_reducible first | exact HB.out | apply below_alloc | apply pw_below_drewN | apply below_drew1 | refine below_set ?_ GE768.out | refine below_set ?_ GE779.out) | exact HB.out))); (case side2 => exact HC0_1.out); rintro e w25 ⟨v782, rfl, ho0, hb⟩; refine ⟨_, rfl, ?_⟩; have n0_ := Aside0.mk (Kd.R_elder' (by (with_reducible repeat (first | apply Kd.R_alloc | apply Kd.R_drewN | apply Kd.R_drew)); exact (Kd.R_mono (Kd.R_far (p := ⟨gb779, 1, none⟩) (Kd.R_far (p := ⟨gb779, 0, none⟩) (Kd.R_types HO773.out BK779.out (by decide)) (fun _ hk => hk.2) (.int .i64 t774)) (fun _ hk => hk.2) (.slice Ao23 t775.length co23)) (fun _ h_ => h_.1))) (Kd.R_base ho0) hb); have n1_ := Aside0.mk (Kd.R_elder' (by (with_reducible repeat (first | apply Kd.R_alloc | apply Kd.R_drewN | apply Kd.R_drew)); exact (Kd.R_mono (Kd.R_far (p := ⟨gb779, 1, none⟩) (Kd.R_far (p := ⟨gb779, 0, none⟩) (Kd.R_types HO777.out BK779.out (by decide)) (fun _ hk => hk.2) (.int .i64 t774)) (fun _ hk => hk.2) (.slice Ao23 t775.length co23)) (fun _ h_ => h_.1))) (Kd.R_base ho0) hb); have n2_ := Aside0.mk (Kd.R_lower (Kd.R_new' (Kd.R_new' ho0 (Kd.R_lt (by (with_reducible repeat (first | apply Kd.R_alloc | apply Kd.R_drewN | apply Kd.R_drew)); exact (Kd.R_mono (Kd.R_far (p := ⟨gb779, 1, none⟩) (Kd.R_far (p := ⟨gb779, 0, none⟩) (Kd.R_types HO773.out BK779.out (by decide)) (fun _ hk => hk.2) (.int .i64 t774)) (fun _ hk => hk.2) (.slice Ao23 t775.length co23)) (fun _ h_ => h_.1))))) (Kd.R_lt (by (with_reducible repeat (first | apply Kd.R_alloc | apply Kd.R_drewN | apply Kd.R_drew)); exact (Kd.R_mono (Kd.R_far (p := ⟨gb779, 1, none⟩) (Kd.R_far (p := ⟨gb779, 0, none⟩) (Kd.R_types HO777.out BK779.out (by decide)) (fun _ hk => hk.2) (.int .i64 t774)) (fun _ hk => hk.2) (.slice Ao23 t775.length co23)) (fun _ h_ => h_.1))))) (below_size (by repeat (first | (with_reducible first | exact HB.out | apply below_alloc | apply pw_below_drewN | apply below_drew1 | refine below_set ?_ GE768.out | refine below_set ?_ GE779.out) | exact HB.out)))); have n3_ := Aside0.mk (blk_below (g := gb768) (o := .cells #[.int .i64 a0_0, .slice A0_1 l0_1.length c0_1] 37 (0, 0)) (by (with_reducible repeat (first | refine blk_drewN ?_ _ | refine blk_drew ?_ | refine blk_alloc ?_ _)); refine blk_far ?_ NB768_779.out _; (with_reducible repeat (first | refine blk_drewN ?_ _ | refine blk_drew ?_ | refine blk_alloc ?_ _)); refine blk_far ?_ NB768_779.out _; (with_reducible repeat (first | refine blk_drewN ?_ _ | refine blk_drew ?_ | refine blk_alloc ?_ _)); exact BK768.out) hb); have n4_ := Aside0.mk (blk_below (g := gb779) (o := .cells #[.int .i64 t774, .slice Ao23 t775.length co23] 26 (0, 0)) (by (with_reducible repeat (first | refine blk_drewN ?_ _ | refine blk_drew ?_ | refine blk_alloc ?_ _)); refine blk_put (cs := #[.int .i64 t774, .slice none 0 0]) ?_ 1 _ rfl; (with_reducible repeat (first | refine blk_drewN ?_ _ | refine blk_drew ?_ | refine blk_alloc ?_ _)); refine blk_put (cs := #[.int .i64 0, .slice none 0 0]) ?_ 0 _ rfl; (with_reducible repeat (first | refine blk_drewN ?_ _ | refine blk_drew ?_ | refine blk_alloc ?_ _)); exact BK779.out) hb); have n5_ := Aside0.mk (below_step (by repeat (first | (with_reducible first | exact HB.out | apply below_alloc | apply pw_below_drewN | apply below_drew1 | refine below_set ?_ GE768.out | refine below_set ?_ GE779.out) | exact HB.out)) hb); clear HO773; clear HO777; clear BK768; clear BK779; clear HB; have HO773 := n0_; have HO777 := n1_; have HO783 := n2_; have BK768 := n3_; have BK779 := n4_; have HB := n5_; clear n0_ n1_ n2_ n3_ n4_ n5_; (try clear hb); (try clear hb2); (try clear hk); (try clear hi); (try clear ho0)) | ((with_reducible refine gate_dst (N := 8) rfl ?_); refine box_event ?hg (N := 8) ?hd (cs := #[.int .i64 0, .slice none 0 0]) (t := 26) ?hr ?_; (case hd => rfl); (case hg => rfl); (case hr => first | (go_simp; done) | (go_simp; rfl)); intro gb784 hg w26 hbox hb; have n0_ := Aside0.mk (Kd.R_below (by (with_reducible repeat (first | apply Kd.R_alloc | apply Kd.R_drewN | apply Kd.R_drew)); exact HO773.out) hb); have n1_ := Aside0.mk (Kd.R_below (by (with_reducible repeat (first | apply Kd.R_alloc | apply Kd.R_drewN | apply Kd.R_drew)); exact HO777.out) hb); have n2_ := Aside0.mk (Kd.R_below (by (with_reducible repeat (first | apply Kd.R_alloc | apply Kd.R_drewN | apply Kd.R_drew)); exact HO783.out) hb); have n3_ := Aside0.mk (blk_below (g := gb768) (o := .cells #[.int .i64 a0_0, .slice A0_1 l0_1.length c0_1] 37 (0, 0)) (by (with_reducible repeat (first | refine blk_drewN ?_ _ | refine blk_drew ?_ | refine blk_alloc ?_ _)); exact BK768.out) hb); have n4_ := Aside0.mk (blk_below (g := gb779) (o := .cells #[.int .i64 t774, .slice Ao23 t775.length co23] 26 (0, 0)) (by (with_reducible repeat (first | refine blk_drewN ?_ _ | refine blk_drew ?_ | refine blk_alloc ?_ _)); exact BK779.out) hb); have n5_ := Aside0.mk (below_step (by repeat (first | (with_reducible first | exact HB.out | apply below_alloc | apply pw_below_drewN | apply below_drew1 | refine below_set ?_ GE768.out | refine below_set ?_ GE779.out) | exact HB.out)) hb); have n6_ := Aside0.mk (hbox); have n7_ := Aside0.mk ((by rw [hg]; exact (below_size (by repeat (first | (with_reducible first | exact HB.out | apply below_alloc | apply pw_below_drewN | apply below_drew1 | refine below_set ?_ GE768.out | refine below_set ?_ GE779.out) | exact HB.out))) : w.heap.size ≤ gb784)); have n8_ := Aside0.mk ((by rw [hg]; exact (below_size (by repeat (first | (with_reducible first | exact HB.out | apply below_alloc | apply pw_below_drewN | apply below_drew1 | refine below_set ?_ GE768.out | refine below_set ?_ GE779.out) | exact HB.out))) : w.heap.size ≤ gb784)); have n9_ := Aside0.mk ((by rw [hg]; exact Nat.ne_of_lt (blk_lt (g := gb768) (o := .cells #[.int .i64 a0_0, .slice A0_1 l0_1.length c0_1] 37 (0, 0)) (by (with_reducible repeat (first | refine blk_drewN ?_ _ | refine blk_drew ?_ | refine blk_alloc ?_ _)); exact BK768.out)) : gb768 ≠ gb784)); have n10_ := Aside0.mk ((by rw [hg]; exact Nat.ne_of_gt (blk_lt (g := gb768) (o := .cells #[.int .i64 a0_0, .slice A0_1 l0_1.length c0_1] 37 (0, 0)) (by (with_reducible repeat (first | refine blk_drewN ?_ _ | refine blk_drew ?_ | refine blk_alloc ?_ _)); exact BK768.out)) : gb784 ≠ gb768)); have n11_ := Aside0.mk ((by rw [hg]; exact Nat.ne_of_lt (blk_lt (g := gb779) (o := .cells #[.int .i64 t774, .slice Ao23 t775.length co23] 26 (0, 0)) (by (with_reducible repeat (first | refine blk_drewN ?_ _ | refine blk_drew ?_ | refine blk_alloc ?_ _)); exact BK779.out)) : gb779 ≠ gb784)); have n12_ := Aside0.mk ((by rw [hg]; exact Nat.ne_of_gt (blk_lt (g := gb779) (o := .cells #[.int .i64 t774, .slice Ao23 t775.length co23] 26 (0, 0)) (by (with_reducible repeat (first | refine blk_drewN ?_ _ | refine blk_drew ?_ | refine blk_alloc ?_ _)); exact BK779.out)) : gb784 ≠ gb779)); clear HO773; clear HO777; clear HO783; clear BK768; clear BK779; clear HB; have HO773 := n0_; have HO777 := n1_; have HO783 := n2_; have BK768 := n3_; have BK779 := n4_; have HB := n5_; have BK784 := n6_; have GW784 := n7_; have GE784 := n8_; have NB768_784 := n9_; have NB784_768 := n10_; have NB779_784 := n11_; have NB784_779 := n12_; clear n0_ n1_ n2_ n3_ n4_ n5_ n6_ n7_ n8_ n9_ n10_ n11_ n12_; clear hb hbox hg; have hnb27 := NB784_768.out; have hnc27 := NB768_784.out; have hnb28 := NB784_779.out; have hnc28 := NB779_784.out; have hcz29_0 : w26.cell? ⟨gb784, 0, none⟩ = some (.int .i64 0) := (blk_cell BK784.out 0).trans rfl; have hcz29_1 : w26.cell? ⟨gb784, 1, none⟩ = some (.slice none 0 0) := (blk_cell BK784.out 1).trans rfl; have hfz29_0 := blk_frozen BK784.out 0; have hfz29_1 := blk_frozen BK784.out 1; obtain ⟨Ao30, co30, eo30⟩ := Kd.R_slice HO783.out; subst eo30) | ((with_reducible refine gate_callee (f := 44) rfl ?_); refine goesL_ (some 33) rfl rfl Try.func44 (by kernel_rfl) rfl #[.agg #[.int .i64 t780, .slice Ao30 t781.length co30], .int .i64 a1] rfl (by (try simp only [List.map_toArray, List.map_cons, List.map_nil]); first | done | rfl | (simp only [List.length_drop, List.length_take]; rfl)) ?_; (with_reducible refine (impl_MendCounter.calls k t780 _ _ t781 a1 t785 t786 t789 _ ?side1 ?side2 A11.out).mono ?_); (case side1 => refine (Kd.R_reads' (e := 2) (base := w.heap.size) (ok := fun k_ => ((True ∧ some k_ ≠ (.slice Ao18 t771.length co18 : Value).ownBlock) ∧ some k_ ≠ (.slice Ao23 t775.length co23 : Value).ownBlock)) (n := t781.length) (c := co30) ?_).2.2; exact (by (with_reducible repeat (first | apply Kd.R_alloc | apply Kd.R_drewN | apply Kd.R_drew)); exact (Kd.R_mono (Kd.R_far (p := ⟨gb784, 1, none⟩) (Kd.R_far (p := ⟨gb784, 0, none⟩) (Kd.R_types HO783.out BK784.out (by decide)) (fun _ hk => hk.2) (.int .i64 t780)) (fun _ hk => hk.2) (.slice Ao30 t781.length co30)) (fun _ h_ => h_.1)))); (case side2 => exact (Kd.R_reads' HO783.out).2.1); rintro e w31 ⟨v787, rfl, ho0, hb⟩; refine ⟨_, rfl, ?_⟩; have n0_ := Aside0.mk (Kd.R_elder' (by (with_reducible repeat (first | apply Kd.R_alloc | apply Kd.R_drewN | apply Kd.R_drew)); exact (Kd.R_mono (Kd.R_far (p := ⟨gb784, 1, none⟩) (Kd.R_far (p := ⟨gb784, 0, none⟩) (Kd.R_types HO773.out BK784.out (by decide)) (fun _ hk => hk.2) (.int .i64 t780)) (fun _ hk => hk.2) (.slice Ao30 t781.length co30)) (fun _ h_ => h_.1))) (Kd.R_base ho0) hb); have n1_ := Aside0.mk (Kd.R_elder' (by (with_reducible repeat (first | apply Kd.R_alloc | apply Kd.R_drewN | apply Kd.R_drew)); exact (Kd.R_mono (Kd.R_far (p := ⟨gb784, 1, none⟩) (Kd.R_far (p := ⟨gb784, 0, none⟩) (Kd.R_types HO777.out BK784.out (by decide)) (fun _ hk => hk.2) (.int .i64 t780)) (fun _ hk => hk.2) (.slice Ao30 t781.length co30)) (fun _ h_ => h_.1))) (Kd.R_base ho0) hb); have n2_ := Aside0.mk (Kd.R_elder' (by (with_reducible repeat (first | apply Kd.R_alloc | apply Kd.R_drewN | apply Kd.R_drew)); exact (Kd.R_mono (Kd.R_far (p := ⟨gb784, 1, none⟩) (Kd.R_far (p := ⟨gb784, 0, none⟩) (Kd.R_types HO783.out BK784.out (by decide)) (fun _ hk => hk.2) (.int .i64 t780)) (fun _ hk => hk.2) (.slice Ao30 t781.length co30)) (fun _ h_ => h_.1))) (Kd.R_base ho0) hb); have n3_ := Aside0.mk (Kd.R_lower (Kd.R_new' (Kd.R_new' (Kd.R_new' ho0 (Kd.R_lt (by (with_reducible repeat (first | apply Kd.R_alloc | apply Kd.R_drewN | apply Kd.R_drew)); exact (Kd.R_mono (Kd.R_far (p := ⟨gb784, 1, none⟩) (Kd.R_far (p := ⟨gb784, 0, none⟩) (Kd.R_types HO773.out BK784.out (by decide)) (fun _ hk => hk.2) (.int .i64 t780)) (fun _ hk => hk.2) (.slice Ao30 t781.length co30)) (fun _ h_ => h_.1))))) (Kd.R_lt (by (with_reducible repeat (first | apply Kd.R_alloc | apply Kd.R_drewN | apply Kd.R_drew)); exact (Kd.R_mono (Kd.R_far (p := ⟨gb784, 1, none⟩) (Kd.R_far (p := ⟨gb784, 0, none⟩) (Kd.R_types HO777.out BK784.out (by decide)) (fun _ hk => hk.2) (.int .i64 t780)) (fun _ hk => hk.2) (.slice Ao30 t781.length co30)) (fun _ h_ => h_.1))))) (Kd.R_lt (by (with_reducible repeat (first | apply Kd.R_alloc | apply Kd.R_drewN | apply Kd.R_drew)); exact (Kd.R_mono (Kd.R_far (p := ⟨gb784, 1, none⟩) (Kd.R_far (p := ⟨gb784, 0, none⟩) (Kd.R_types HO783.out BK784.out (by decide)) (fun _ hk => hk.2) (.int .i64 t780)) (fun _ hk => hk.2) (.slice Ao30 t781.length co30)) (fun _ h_ => h_.1))))) (below_size (by repeat (first | (with_reducible first | exact HB.out | apply below_alloc | apply pw_below_drewN | apply below_drew1 | refine below_set ?_ GE768.out | refine below_set ?_ GE779.out | refine below_set ?_ GE784.out) | exact HB.out)))); have n4_ := Aside0.mk (blk_below (g := gb768) (o := .cells #[.int .i64 a0_0, .slice A0_1 l0_1.length c0_1] 37 (0, 0)) (by (with_reducible repeat (first | refine blk_drewN ?_ _ | refine blk_drew ?_ | refine blk_alloc ?_ _)); refine blk_far ?_ NB768_784.out _; (with_reducible repeat (first | refine blk_drewN ?_ _ | refine blk_drew ?_ | refine blk_alloc ?_ _)); refine blk_far ?_ NB768_784.out _; (with_reducible repeat (first | refine blk_drewN ?_ _ | refine blk_drew ?_ | refine blk_alloc ?_ _)); exact BK768.out) hb); have n5_ := Aside0.mk (blk_below (g := gb779) (o := .cells #[.int .i64 t774, .slice Ao23 t775.length co23] 26 (0, 0)) (by (with_reducible repeat (first | refine blk_drewN ?_ _ | refine blk_drew ?_ | refine blk_alloc ?_ _)); refine blk_far ?_ NB779_784.out _; (with_reducible repeat (first | refine blk_drewN ?_ _ | refine blk_drew ?_ | refine blk_alloc ?_ _)); refine blk_far ?_ NB779_784.out _; (with_reducible repeat (first | refine blk_drewN ?_ _ | refine blk_drew ?_ | refine blk_alloc ?_ _)); exact BK779.out) hb); have n6_ := Aside0.mk (blk_below (g := gb784) (o := .cells #[.int .i64 t780, .slice Ao30 t781.length co30] 26 (0, 0)) (by (with_reducible repeat (first | refine blk_drewN ?_ _ | refine blk_drew ?_ | refine blk_alloc ?_ _)); refine blk_put (cs := #[.int .i64 t780, .slice none 0 0]) ?_ 1 _ rfl; (with_reducible repeat (first | refine blk_drewN ?_ _ | refine blk_drew ?_ | refine blk_alloc ?_ _)); refine blk_put (cs := #[.int .i64 0, .slice none 0 0]) ?_ 0 _ rfl; (with_reducible repeat (first | refine blk_drewN ?_ _ | refine blk_drew ?_ | refine blk_alloc ?_ _)); exact BK784.out) hb); have n7_ := Aside0.mk (below_step (by repeat (first | (with_reducible first | exact HB.out | apply below_alloc | apply pw_below_drewN | apply below_drew1 | refine below_set ?_ GE768.out | refine below_set ?_ GE779.out | refine below_set ?_ GE784.out) | exact HB.out)) hb); clear HO773; clear HO777; clear HO783; clear BK768; clear BK779; clear BK784; clear HB; have HO773 := n0_; have HO777 := n1_; have HO783 := n2_; have HO788 := n3_; have BK768 := n4_; have BK779 := n5_; have BK784 := n6_; have HB := n7_; clear n0_ n1_ n2_ n3_ n4_ n5_ n6_ n7_; (try clear hb); (try clear hb2); (try clear hk); (try clear hi); (try clear ho0)) | ((with_reducible refine gate_dst (N := 9) rfl ?_); refine box_event ?hg (N := 9) ?hd (cs := #[.int .i64 0, .slice none 0 0]) (t := 26) ?hr ?_; (case hd => rfl); (case hg => rfl); (case hr => first | (go_simp; done) | (go_simp; rfl)); intro gb790 hg w32 hbox hb; have n0_ := Aside0.mk (Kd.R_below (by (with_reducible repeat (first | apply Kd.R_alloc | apply Kd.R_drewN | apply Kd.R_drew)); exact HO773.out) hb); have n1_ := Aside0.mk (Kd.R_below (by (with_reducible repeat (first | apply Kd.R_alloc | apply Kd.R_drewN | apply Kd.R_drew)); exact HO777.out) hb); have n2_ := Aside0.mk (Kd.R_below (by (with_reducible repeat (first | apply Kd.R_alloc | apply Kd.R_drewN | apply Kd.R_drew)); exact HO783.out) hb); have n3_ := Aside0.mk (Kd.R_below (by (with_reducible repeat (first | apply Kd.R_alloc | apply Kd.R_drewN | apply Kd.R_drew)); exact HO788.out) hb); have n4_ := Aside0.mk (blk_below (g := gb768) (o := .cells #[.int .i64 a0_0, .slice A0_1 l0_1.length c0_1] 37 (0, 0)) (by (with_reducible repeat (first | refine blk_drewN ?_ _ | refine blk_drew ?_ | refine blk_alloc ?_ _)); exact BK768.out) hb); have n5_ := Aside0.mk (blk_below (g := gb779) (o := .cells #[.int .i64 t774, .slice Ao23 t775.length co23] 26 (0, 0)) (by (with_reducible repeat (first | refine blk_drewN ?_ _ | refine blk_drew ?_ | refine blk_alloc ?_ _)); exact BK779.out) hb); have n6_ := Aside0.mk (blk_below (g := gb784) (o := .cells #[.int .i64 t780, .slice Ao30 t781.length co30] 26 (0, 0)) (by (with_reducible repeat (first | refine blk_drewN ?_ _ | refine blk_drew ?_ | refine blk_alloc ?_ _)); exact BK784.out) hb); have n7_ := Aside0.mk (below_step (by repeat (first | (with_reducible first | exact HB.out | apply below_alloc | apply pw_below_drewN | apply below_drew1 | refine below_set ?_ GE768.out | refine below_set ?_ GE779.out | refine below_set ?_ GE784.out) | exact HB.out)) hb); have n8_ := Aside0.mk (hbox); have n9_ := Aside0.mk ((by rw [hg]; exact (below_size (by repeat (first | (with_reducible first | exact HB.out | apply below_alloc | apply pw_below_drewN | apply below_drew1 | refine below_set ?_ GE768.out | refine below_set ?_ GE779.out | refine below_set ?_ GE784.out) | exact HB.out))) : w.heap.size ≤ gb790)); have n10_ := Aside0.mk ((by rw [hg]; exact (below_size (by repeat (first | (with_reducible first | exact HB.out | apply below_alloc | apply pw_below_drewN | apply below_drew1 | refine below_set ?_ GE768.out | refine below_set ?_ GE779.out | refine below_set ?_ GE784.out) | exact HB.out))) : w.heap.size ≤ gb790)); have n11_ := Aside0.mk ((by rw [hg]; exact Nat.ne_of_lt (blk_lt (g := gb768) (o := .cells #[.int .i64 a0_0, .slice A0_1 l0_1.length c0_1] 37 (0, 0)) (by (with_reducible repeat (first | refine blk_drewN ?_ _ | refine blk_drew ?_ | refine blk_alloc ?_ _)); exact BK768.out)) : gb768 ≠ gb790)); have n12_ := Aside0.mk ((by rw [hg]; exact Nat.ne_of_gt (blk_lt (g := gb768) (o := .cells #[.int .i64 a0_0, .slice A0_1 l0_1.length c0_1] 37 (0, 0)) (by (with_reducible repeat (first | refine blk_drewN ?_ _ | refine blk_drew ?_ | refine blk_alloc ?_ _)); exact BK768.out)) : gb790 ≠ gb768)); have n13_ := Aside0.mk ((by rw [hg]; exact Nat.ne_of_lt (blk_lt (g := gb779) (o := .cells #[.int .i64 t774, .slice Ao23 t775.length co23] 26 (0, 0)) (by (with_reducible repeat (first | refine blk_drewN ?_ _ | refine blk_drew ?_ | refine blk_alloc ?_ _)); exact BK779.out)) : gb779 ≠ gb790)); have n14_ := Aside0.mk ((by rw [hg]; exact Nat.ne_of_gt (blk_lt (g := gb779) (o := .cells #[.int .i64 t774, .slice Ao23 t775.length co23] 26 (0, 0)) (by (with_reducible repeat (first | refine blk_drewN ?_ _ | refine blk_drew ?_ | refine blk_alloc ?_ _)); exact BK779.out)) : gb790 ≠ gb779)); have n15_ := Aside0.mk ((by rw [hg]; exact Nat.ne_of_lt (blk_lt (g := gb784) (o := .cells #[.int .i64 t780, .slice Ao30 t781.length co30] 26 (0, 0)) (by (with_reducible repeat (first | refine blk_drewN ?_ _ | refine blk_drew ?_ | refine blk_alloc ?_ _)); exact BK784.out)) : gb784 ≠ gb790)); have n16_ := Aside0.mk ((by rw [hg]; exact Nat.ne_of_gt (blk_lt (g := gb784) (o := .cells #[.int .i64 t780, .slice Ao30 t781.length co30] 26 (0, 0)) (by (with_reducible repeat (first | refine blk_drewN ?_ _ | refine blk_drew ?_ | refine blk_alloc ?_ _)); exact BK784.out)) : gb790 ≠ gb784)); clear HO773; clear HO777; clear HO783; clear HO788; clear BK768; clear BK779; clear BK784; clear HB; have HO773 := n0_; have HO777 := n1_; have HO783 := n2_; have HO788 := n3_; have BK768 := n4_; have BK779 := n5_; have BK784 := n6_; have HB := n7_; have BK790 := n8_; have GW790 := n9_; have GE790 := n10_; have NB768_790 := n11_; have NB790_768 := n12_; have NB779_790 := n13_; have NB790_779 := n14_; have NB784_790 := n15_; have NB790_784 := n16_; clear n0_ n1_ n2_ n3_ n4_ n5_ n6_ n7_ n8_ n9_ n10_ n11_ n12_ n13_ n14_ n15_ n16_; clear hb hbox hg; have hnb33 := NB790_768.out; have hnc33 := NB768_790.out; have hnb34 := NB790_779.out; have hnc34 := NB779_790.out; have hnb35 := NB790_784.out; have hnc35 := NB784_790.out; have hcz36_0 : w32.cell? ⟨gb790, 0, none⟩ = some (.int .i64 0) := (blk_cell BK790.out 0).trans rfl; have hcz36_1 : w32.cell? ⟨gb790, 1, none⟩ = some (.slice none 0 0) := (blk_cell BK790.out 1).trans rfl; have hfz36_0 := blk_frozen BK790.out 0; have hfz36_1 := blk_frozen BK790.out 1; obtain ⟨Ao37, co37, eo37⟩ := Kd.R_slice HO788.out; subst eo37))
    (try simp only [Act.put, List.setIfInBounds_toArray, List.set_cons_zero, List.set_cons_succ])
    go_cut [44] (fun v44 wc => ∃ (kq : Nat) (x44_11 : Bool), v44 = .bool x44_11 ∧ Aside0 (laws_FnExactMendCounter.j0 kq a1 t778 t789 x44_11 a0_0 l0_1 t774 t775 t780 t781 t785 t786 = some r) ∧ Aside0 (kq ≤ k) ∧ Aside0 (Kd.R (Kd.int .i64) 2 wc w.heap.size (fun k_ => some k_ ≠ ((.slice Ao30 t781.length co30) : Value).ownBlock ∧ some k_ ≠ ((.slice Ao37 t786.length co37) : Value).ownBlock) (.slice Ao23 t775.length co23) t775) ∧ Aside0 (Kd.R (Kd.int .i64) 2 wc w.heap.size (fun k_ => some k_ ≠ ((.slice Ao23 t775.length co23) : Value).ownBlock ∧ some k_ ≠ ((.slice Ao37 t786.length co37) : Value).ownBlock) (.slice Ao30 t781.length co30) t781) ∧ Aside0 (Kd.R (Kd.int .i64) 2 wc w.heap.size (fun k_ => some k_ ≠ ((.slice Ao23 t775.length co23) : Value).ownBlock ∧ some k_ ≠ ((.slice Ao30 t781.length co30) : Value).ownBlock) (.slice Ao37 t786.length co37) t786) ∧ Aside0 (wc.heap[gb768]? = some (.cells #[.int .i64 a0_0, (.slice A0_1 l0_1.length c0_1)] 37 (0, 0))) ∧ Aside0 (wc.heap[gb779]? = some (.cells #[.int .i64 t774, (.slice Ao23 t775.length co23)] 26 (0, 0))) ∧ Aside0 (wc.heap[gb784]? = some (.cells #[.int .i64 t780, (.slice Ao30 t781.length co30)] 26 (0, 0))) ∧ Aside0 (wc.heap[gb790]? = some (.cells #[.int .i64 t785, (.slice Ao37 t786.length co37)] 26 (0, 0))) ∧ Aside0 (Below w.heap.size w wc))
    case first =>
      have H := HC12.out
      clear HC12
      replace H := Option.bind_eq_some_iff.mp H
      obtain ⟨t791, A380, H⟩ := H
      replace H : (if t791 = true then (laws_FnExactMendCounter.j0 k a1 t778 t789 (t789 != t778) a0_0 l0_1 t774 t775 t780 t781 t785 t786) else (laws_FnExactMendCounter.j0 k a1 t778 t789 true a0_0 l0_1 t774 t775 t780 t781 t785 t786)) = some r := H
      have A38 := Aside0.mk A380
      clear A380
      by_cases c39 : t791 = true
      · subst c39
        have H1 : (laws_FnExactMendCounter.j0 k a1 t778 t789 (t789 != t778) a0_0 l0_1 t774 t775 t780 t781 t785 t786) = some r := by rw [if_pos rfl] at H; exact H
        clear H
        have H := H1
        clear H1
        have H' := Aside0.mk H
        clear H
        have hnb40 := NB790_768.out
        have hnc40 := NB768_790.out
        have hnb41 := NB790_779.out
        have hnc41 := NB779_790.out
        have hnb42 := NB790_784.out
        have hnc42 := NB784_790.out
        have hcz43_0 : w32.cell? ⟨gb790, 0, none⟩ = some (.int .i64 0) := (blk_cell BK790.out 0).trans rfl
        have hcz43_1 : w32.cell? ⟨gb790, 1, none⟩ = some (.slice none 0 0) := (blk_cell BK790.out 1).trans rfl
        have hfz43_0 := blk_frozen BK790.out 0
        have hfz43_1 := blk_frozen BK790.out 1
        have hnb44 := NB779_768.out
        have hnc44 := NB768_779.out
        have hnb45 := NB779_784.out
        have hnc45 := NB784_779.out
        have hcz46_0 : w32.cell? ⟨gb779, 0, none⟩ = some (.int .i64 t774) := (blk_cell BK779.out 0).trans rfl
        have hcz46_1 : w32.cell? ⟨gb779, 1, none⟩ = some (.slice Ao23 t775.length co23) := (blk_cell BK779.out 1).trans rfl
        have hfz46_0 := blk_frozen BK779.out 0
        have hfz46_1 := blk_frozen BK779.out 1
        go_wp2_with (first | ((with_reducible refine gate_callee (f := 25) rfl ?_); refine goesL_ (some 38) rfl rfl Try.func25 (by kernel_rfl) rfl #[.agg #[.int .i64 t785, .slice Ao37 t786.length co37], .agg #[.int .i64 t774, .slice Ao23 t775.length co23]] rfl (by (try simp only [List.map_toArray, List.map_cons, List.map_nil]); first | done | rfl | (simp only [List.length_drop, List.length_take]; rfl)) ?_; (with_reducible refine (laws_eqCounter.calls k t785 _ _ t786 t774 _ _ t775 true _ ?side1 ?side2 ?side3 ?side4 A38.out).mono ?_); (case side1 => refine (Kd.R_reads' (e := 2) (base := w.heap.size) (ok := fun k_ => (((True ∧ some k_ ≠ (.slice Ao18 t771.length co18 : Value).ownBlock) ∧ some k_ ≠ (.slice Ao23 t775.length co23 : Value).ownBlock) ∧ some k_ ≠ (.slice Ao30 t781.length co30 : Value).ownBlock)) (n := t786.length) (c := co37) ?_).2.2; exact (by (with_reducible repeat (first | apply Kd.R_alloc | apply Kd.R_drewN | apply Kd.R_drew)); exact (Kd.R_mono (Kd.R_far (p := ⟨gb790, 1, none⟩) (Kd.R_far (p := ⟨gb790, 0, none⟩) (Kd.R_types HO788.out BK790.out (by decide)) (fun _ hk => hk.2) (.int .i64 t785)) (fun _ hk => hk.2) (.slice Ao37 t786.length co37)) (fun _ h_ => h_.1)))); (case side2 => exact (Kd.R_reads' HO788.out).2.1); (case side3 => refine (Kd.R_reads' (e := 2) (base := w.heap.size) (ok := fun k_ => (((True ∧ some k_ ≠ (.slice Ao18 t771.length co18 : Value).ownBlock) ∧ some k_ ≠ (.slice Ao30 t781.length co30 : Value).ownBlock) ∧ some k_ ≠ (.slice Ao37 t786.length co37 : Value).ownBlock)) (n := t775.length) (c := co23) ?_).2.2; exact (by (with_reducible repeat (first | apply Kd.R_alloc | apply Kd.R_drewN | apply Kd.R_drew)); exact (Kd.R_mono (Kd.R_far (p := ⟨gb790, 1, none⟩) (Kd.R_far (p := ⟨gb790, 0, none⟩) (Kd.R_types HO777.out BK790.out (by decide)) (fun _ hk => hk.2) (.int .i64 t785)) (fun _ hk => hk.2) (.slice Ao37 t786.length co37)) (fun _ h_ => h_.1)))); (case side4 => exact (Kd.R_reads' HO777.out).2.1); rintro e w47 ⟨rfl, hb⟩; refine ⟨_, rfl, ?_⟩; have n0_ := Aside0.mk (Kd.R_below (by (with_reducible repeat (first | apply Kd.R_alloc | apply Kd.R_drewN | apply Kd.R_drew)); exact (Kd.R_mono (Kd.R_far (p := ⟨gb790, 1, none⟩) (Kd.R_far (p := ⟨gb790, 0, none⟩) (Kd.R_types HO773.out BK790.out (by decide)) (fun _ hk => hk.2) (.int .i64 t785)) (fun _ hk => hk.2) (.slice Ao37 t786.length co37)) (fun _ h_ => h_.1))) hb); have n1_ := Aside0.mk (Kd.R_below (by (with_reducible repeat (first | apply Kd.R_alloc | apply Kd.R_drewN | apply Kd.R_drew)); exact (Kd.R_mono (Kd.R_far (p := ⟨gb790, 1, none⟩) (Kd.R_far (p := ⟨gb790, 0, none⟩) (Kd.R_types HO777.out BK790.out (by decide)) (fun _ hk => hk.2) (.int .i64 t785)) (fun _ hk => hk.2) (.slice Ao37 t786.length co37)) (fun _ h_ => h_.1))) hb); have n2_ := Aside0.mk (Kd.R_below (by (with_reducible repeat (first | apply Kd.R_alloc | apply Kd.R_drewN | apply Kd.R_drew)); exact (Kd.R_mono (Kd.R_far (p := ⟨gb790, 1, none⟩) (Kd.R_far (p := ⟨gb790, 0, none⟩) (Kd.R_types HO783.out BK790.out (by decide)) (fun _ hk => hk.2) (.int .i64 t785)) (fun _ hk => hk.2) (.slice Ao37 t786.length co37)) (fun _ h_ => h_.1))) hb); have n3_ := Aside0.mk (Kd.R_below (by (with_reducible repeat (first | apply Kd.R_alloc | apply Kd.R_drewN | apply Kd.R_drew)); exact (Kd.R_mono (Kd.R_far (p := ⟨gb790, 1, none⟩) (Kd.R_far (p := ⟨gb790, 0, none⟩) (Kd.R_types HO788.out BK790.out (by decide)) (fun _ hk => hk.2) (.int .i64 t785)) (fun _ hk => hk.2) (.slice Ao37 t786.length co37)) (fun _ h_ => h_.1))) hb); have n4_ := Aside0.mk (blk_below (g := gb768) (o := .cells #[.int .i64 a0_0, .slice A0_1 l0_1.length c0_1] 37 (0, 0)) (by (with_reducible repeat (first | refine blk_drewN ?_ _ | refine blk_drew ?_ | refine blk_alloc ?_ _)); refine blk_far ?_ NB768_790.out _; (with_reducible repeat (first | refine blk_drewN ?_ _ | refine blk_drew ?_ | refine blk_alloc ?_ _)); refine blk_far ?_ NB768_790.out _; (with_reducible repeat (first | refine blk_drewN ?_ _ | refine blk_drew ?_ | refine blk_alloc ?_ _)); exact BK768.out) hb); have n5_ := Aside0.mk (blk_below (g := gb779) (o := .cells #[.int .i64 t774, .slice Ao23 t775.length co23] 26 (0, 0)) (by (with_reducible repeat (first | refine blk_drewN ?_ _ | refine blk_drew ?_ | refine blk_alloc ?_ _)); refine blk_far ?_ NB779_790.out _; (with_reducible repeat (first | refine blk_drewN ?_ _ | refine blk_drew ?_ | refine blk_alloc ?_ _)); refine blk_far ?_ NB779_790.out _; (with_reducible repeat (first | refine blk_drewN ?_ _ | refine blk_drew ?_ | refine blk_alloc ?_ _)); exact BK779.out) hb); have n6_ := Aside0.mk (blk_below (g := gb784) (o := .cells #[.int .i64 t780, .slice Ao30 t781.length co30] 26 (0, 0)) (by (with_reducible repeat (first | refine blk_drewN ?_ _ | refine blk_drew ?_ | refine blk_alloc ?_ _)); refine blk_far ?_ NB784_790.out _; (with_reducible repeat (first | refine blk_drewN ?_ _ | refine blk_drew ?_ | refine blk_alloc ?_ _)); refine blk_far ?_ NB784_790.out _; (with_reducible repeat (first | refine blk_drewN ?_ _ | refine blk_drew ?_ | refine blk_alloc ?_ _)); exact BK784.out) hb); have n7_ := Aside0.mk (blk_below (g := gb790) (o := .cells #[.int .i64 t785, .slice Ao37 t786.length co37] 26 (0, 0)) (by (with_reducible repeat (first | refine blk_drewN ?_ _ | refine blk_drew ?_ | refine blk_alloc ?_ _)); refine blk_put (cs := #[.int .i64 t785, .slice none 0 0]) ?_ 1 _ rfl; (with_reducible repeat (first | refine blk_drewN ?_ _ | refine blk_drew ?_ | refine blk_alloc ?_ _)); refine blk_put (cs := #[.int .i64 0, .slice none 0 0]) ?_ 0 _ rfl; (with_reducible repeat (first | refine blk_drewN ?_ _ | refine blk_drew ?_ | refine blk_alloc ?_ _)); exact BK790.out) hb); have n8_ := Aside0.mk (below_step (by repeat (first | (with_reducible first | exact HB.out | apply below_alloc | apply pw_below_drewN | apply below_drew1 | refine below_set ?_ GE768.out | refine below_set ?_ GE779.out | refine below_set ?_ GE784.out | refine below_set ?_ GE790.out) | exact HB.out)) hb); clear HO773; clear HO777; clear HO783; clear HO788; clear BK768; clear BK779; clear BK784; clear BK790; clear HB; have HO773 := n0_; have HO777 := n1_; have HO783 := n2_; have HO788 := n3_; have BK768 := n4_; have BK779 := n5_; have BK784 := n6_; have BK790 := n7_; have HB := n8_; clear n0_ n1_ n2_ n3_ n4_ n5_ n6_ n7_ n8_; (try clear hb); (try clear hb2); (try clear hk); (try clear hi)))
        go_meet
        case rel => exact ⟨_, ((t789 != t778)), (by first | rfl | (simp; done) | (simp [*]; done)), H', ⟨by first | omega | exact Nat.le_refl _⟩, ⟨by (with_reducible repeat (first | apply Kd.R_alloc | apply Kd.R_drewN | apply Kd.R_drew)); exact Kd.R_mono HO777.out (fun _ hk => ⟨hk.1.2, hk.2⟩)⟩, ⟨by (with_reducible repeat (first | apply Kd.R_alloc | apply Kd.R_drewN | apply Kd.R_drew)); exact Kd.R_mono HO783.out (fun _ hk => ⟨hk.1.2, hk.2⟩)⟩, ⟨by (with_reducible repeat (first | apply Kd.R_alloc | apply Kd.R_drewN | apply Kd.R_drew)); exact Kd.R_mono HO788.out (fun _ hk => ⟨hk.1.2, hk.2⟩)⟩, ⟨by (with_reducible repeat (first | refine blk_drewN ?_ _ | refine blk_drew ?_ | refine blk_alloc ?_ _)); exact BK768.out⟩, ⟨by (with_reducible repeat (first | refine blk_drewN ?_ _ | refine blk_drew ?_ | refine blk_alloc ?_ _)); exact BK779.out⟩, ⟨by (with_reducible repeat (first | refine blk_drewN ?_ _ | refine blk_drew ?_ | refine blk_alloc ?_ _)); exact BK784.out⟩, ⟨by (with_reducible repeat (first | refine blk_drewN ?_ _ | refine blk_drew ?_ | refine blk_alloc ?_ _)); exact BK790.out⟩, ⟨by repeat (first | (with_reducible first | exact HB.out | apply below_alloc | apply pw_below_drewN | apply below_drew1 | refine below_set ?_ GE768.out | refine below_set ?_ GE779.out | refine below_set ?_ GE784.out | refine below_set ?_ GE790.out) | exact HB.out)⟩⟩
      · replace c39 := Bool.eq_false_iff.mpr c39
        subst c39
        have H1 : (laws_FnExactMendCounter.j0 k a1 t778 t789 true a0_0 l0_1 t774 t775 t780 t781 t785 t786) = some r := by rw [if_neg (show ¬ (false = true) by decide)] at H; exact H
        clear H
        have H := H1
        clear H1
        have H' := Aside0.mk H
        clear H
        have hnb48 := NB790_768.out
        have hnc48 := NB768_790.out
        have hnb49 := NB790_779.out
        have hnc49 := NB779_790.out
        have hnb50 := NB790_784.out
        have hnc50 := NB784_790.out
        have hcz51_0 : w32.cell? ⟨gb790, 0, none⟩ = some (.int .i64 0) := (blk_cell BK790.out 0).trans rfl
        have hcz51_1 : w32.cell? ⟨gb790, 1, none⟩ = some (.slice none 0 0) := (blk_cell BK790.out 1).trans rfl
        have hfz51_0 := blk_frozen BK790.out 0
        have hfz51_1 := blk_frozen BK790.out 1
        have hnb52 := NB779_768.out
        have hnc52 := NB768_779.out
        have hnb53 := NB779_784.out
        have hnc53 := NB784_779.out
        have hcz54_0 : w32.cell? ⟨gb779, 0, none⟩ = some (.int .i64 t774) := (blk_cell BK779.out 0).trans rfl
        have hcz54_1 : w32.cell? ⟨gb779, 1, none⟩ = some (.slice Ao23 t775.length co23) := (blk_cell BK779.out 1).trans rfl
        have hfz54_0 := blk_frozen BK779.out 0
        have hfz54_1 := blk_frozen BK779.out 1
        go_wp2_with (first | ((with_reducible refine gate_callee (f := 25) rfl ?_); refine goesL_ (some 38) rfl rfl Try.func25 (by kernel_rfl) rfl #[.agg #[.int .i64 t785, .slice Ao37 t786.length co37], .agg #[.int .i64 t774, .slice Ao23 t775.length co23]] rfl (by (try simp only [List.map_toArray, List.map_cons, List.map_nil]); first | done | rfl | (simp only [List.length_drop, List.length_take]; rfl)) ?_; (with_reducible refine (laws_eqCounter.calls k t785 _ _ t786 t774 _ _ t775 false _ ?side1 ?side2 ?side3 ?side4 A38.out).mono ?_); (case side1 => refine (Kd.R_reads' (e := 2) (base := w.heap.size) (ok := fun k_ => (((True ∧ some k_ ≠ (.slice Ao18 t771.length co18 : Value).ownBlock) ∧ some k_ ≠ (.slice Ao23 t775.length co23 : Value).ownBlock) ∧ some k_ ≠ (.slice Ao30 t781.length co30 : Value).ownBlock)) (n := t786.length) (c := co37) ?_).2.2; exact (by (with_reducible repeat (first | apply Kd.R_alloc | apply Kd.R_drewN | apply Kd.R_drew)); exact (Kd.R_mono (Kd.R_far (p := ⟨gb790, 1, none⟩) (Kd.R_far (p := ⟨gb790, 0, none⟩) (Kd.R_types HO788.out BK790.out (by decide)) (fun _ hk => hk.2) (.int .i64 t785)) (fun _ hk => hk.2) (.slice Ao37 t786.length co37)) (fun _ h_ => h_.1)))); (case side2 => exact (Kd.R_reads' HO788.out).2.1); (case side3 => refine (Kd.R_reads' (e := 2) (base := w.heap.size) (ok := fun k_ => (((True ∧ some k_ ≠ (.slice Ao18 t771.length co18 : Value).ownBlock) ∧ some k_ ≠ (.slice Ao30 t781.length co30 : Value).ownBlock) ∧ some k_ ≠ (.slice Ao37 t786.length co37 : Value).ownBlock)) (n := t775.length) (c := co23) ?_).2.2; exact (by (with_reducible repeat (first | apply Kd.R_alloc | apply Kd.R_drewN | apply Kd.R_drew)); exact (Kd.R_mono (Kd.R_far (p := ⟨gb790, 1, none⟩) (Kd.R_far (p := ⟨gb790, 0, none⟩) (Kd.R_types HO777.out BK790.out (by decide)) (fun _ hk => hk.2) (.int .i64 t785)) (fun _ hk => hk.2) (.slice Ao37 t786.length co37)) (fun _ h_ => h_.1)))); (case side4 => exact (Kd.R_reads' HO777.out).2.1); rintro e w55 ⟨rfl, hb⟩; refine ⟨_, rfl, ?_⟩; have n0_ := Aside0.mk (Kd.R_below (by (with_reducible repeat (first | apply Kd.R_alloc | apply Kd.R_drewN | apply Kd.R_drew)); exact (Kd.R_mono (Kd.R_far (p := ⟨gb790, 1, none⟩) (Kd.R_far (p := ⟨gb790, 0, none⟩) (Kd.R_types HO773.out BK790.out (by decide)) (fun _ hk => hk.2) (.int .i64 t785)) (fun _ hk => hk.2) (.slice Ao37 t786.length co37)) (fun _ h_ => h_.1))) hb); have n1_ := Aside0.mk (Kd.R_below (by (with_reducible repeat (first | apply Kd.R_alloc | apply Kd.R_drewN | apply Kd.R_drew)); exact (Kd.R_mono (Kd.R_far (p := ⟨gb790, 1, none⟩) (Kd.R_far (p := ⟨gb790, 0, none⟩) (Kd.R_types HO777.out BK790.out (by decide)) (fun _ hk => hk.2) (.int .i64 t785)) (fun _ hk => hk.2) (.slice Ao37 t786.length co37)) (fun _ h_ => h_.1))) hb); have n2_ := Aside0.mk (Kd.R_below (by (with_reducible repeat (first | apply Kd.R_alloc | apply Kd.R_drewN | apply Kd.R_drew)); exact (Kd.R_mono (Kd.R_far (p := ⟨gb790, 1, none⟩) (Kd.R_far (p := ⟨gb790, 0, none⟩) (Kd.R_types HO783.out BK790.out (by decide)) (fun _ hk => hk.2) (.int .i64 t785)) (fun _ hk => hk.2) (.slice Ao37 t786.length co37)) (fun _ h_ => h_.1))) hb); have n3_ := Aside0.mk (Kd.R_below (by (with_reducible repeat (first | apply Kd.R_alloc | apply Kd.R_drewN | apply Kd.R_drew)); exact (Kd.R_mono (Kd.R_far (p := ⟨gb790, 1, none⟩) (Kd.R_far (p := ⟨gb790, 0, none⟩) (Kd.R_types HO788.out BK790.out (by decide)) (fun _ hk => hk.2) (.int .i64 t785)) (fun _ hk => hk.2) (.slice Ao37 t786.length co37)) (fun _ h_ => h_.1))) hb); have n4_ := Aside0.mk (blk_below (g := gb768) (o := .cells #[.int .i64 a0_0, .slice A0_1 l0_1.length c0_1] 37 (0, 0)) (by (with_reducible repeat (first | refine blk_drewN ?_ _ | refine blk_drew ?_ | refine blk_alloc ?_ _)); refine blk_far ?_ NB768_790.out _; (with_reducible repeat (first | refine blk_drewN ?_ _ | refine blk_drew ?_ | refine blk_alloc ?_ _)); refine blk_far ?_ NB768_790.out _; (with_reducible repeat (first | refine blk_drewN ?_ _ | refine blk_drew ?_ | refine blk_alloc ?_ _)); exact BK768.out) hb); have n5_ := Aside0.mk (blk_below (g := gb779) (o := .cells #[.int .i64 t774, .slice Ao23 t775.length co23] 26 (0, 0)) (by (with_reducible repeat (first | refine blk_drewN ?_ _ | refine blk_drew ?_ | refine blk_alloc ?_ _)); refine blk_far ?_ NB779_790.out _; (with_reducible repeat (first | refine blk_drewN ?_ _ | refine blk_drew ?_ | refine blk_alloc ?_ _)); refine blk_far ?_ NB779_790.out _; (with_reducible repeat (first | refine blk_drewN ?_ _ | refine blk_drew ?_ | refine blk_alloc ?_ _)); exact BK779.out) hb); have n6_ := Aside0.mk (blk_below (g := gb784) (o := .cells #[.int .i64 t780, .slice Ao30 t781.length co30] 26 (0, 0)) (by (with_reducible repeat (first | refine blk_drewN ?_ _ | refine blk_drew ?_ | refine blk_alloc ?_ _)); refine blk_far ?_ NB784_790.out _; (with_reducible repeat (first | refine blk_drewN ?_ _ | refine blk_drew ?_ | refine blk_alloc ?_ _)); refine blk_far ?_ NB784_790.out _; (with_reducible repeat (first | refine blk_drewN ?_ _ | refine blk_drew ?_ | refine blk_alloc ?_ _)); exact BK784.out) hb); have n7_ := Aside0.mk (blk_below (g := gb790) (o := .cells #[.int .i64 t785, .slice Ao37 t786.length co37] 26 (0, 0)) (by (with_reducible repeat (first | refine blk_drewN ?_ _ | refine blk_drew ?_ | refine blk_alloc ?_ _)); refine blk_put (cs := #[.int .i64 t785, .slice none 0 0]) ?_ 1 _ rfl; (with_reducible repeat (first | refine blk_drewN ?_ _ | refine blk_drew ?_ | refine blk_alloc ?_ _)); refine blk_put (cs := #[.int .i64 0, .slice none 0 0]) ?_ 0 _ rfl; (with_reducible repeat (first | refine blk_drewN ?_ _ | refine blk_drew ?_ | refine blk_alloc ?_ _)); exact BK790.out) hb); have n8_ := Aside0.mk (below_step (by repeat (first | (with_reducible first | exact HB.out | apply below_alloc | apply pw_below_drewN | apply below_drew1 | refine below_set ?_ GE768.out | refine below_set ?_ GE779.out | refine below_set ?_ GE784.out | refine below_set ?_ GE790.out) | exact HB.out)) hb); clear HO773; clear HO777; clear HO783; clear HO788; clear BK768; clear BK779; clear BK784; clear BK790; clear HB; have HO773 := n0_; have HO777 := n1_; have HO783 := n2_; have HO788 := n3_; have BK768 := n4_; have BK779 := n5_; have BK784 := n6_; have BK790 := n7_; have HB := n8_; clear n0_ n1_ n2_ n3_ n4_ n5_ n6_ n7_ n8_; (try clear hb); (try clear hb2); (try clear hk); (try clear hi)))
        go_meet
        case rel => exact ⟨_, (true), (by first | rfl | (simp; done) | (simp [*]; done)), H', ⟨by first | omega | exact Nat.le_refl _⟩, ⟨by (with_reducible repeat (first | apply Kd.R_alloc | apply Kd.R_drewN | apply Kd.R_drew)); exact Kd.R_mono HO777.out (fun _ hk => ⟨hk.1.2, hk.2⟩)⟩, ⟨by (with_reducible repeat (first | apply Kd.R_alloc | apply Kd.R_drewN | apply Kd.R_drew)); exact Kd.R_mono HO783.out (fun _ hk => ⟨hk.1.2, hk.2⟩)⟩, ⟨by (with_reducible repeat (first | apply Kd.R_alloc | apply Kd.R_drewN | apply Kd.R_drew)); exact Kd.R_mono HO788.out (fun _ hk => ⟨hk.1.2, hk.2⟩)⟩, ⟨by (with_reducible repeat (first | refine blk_drewN ?_ _ | refine blk_drew ?_ | refine blk_alloc ?_ _)); exact BK768.out⟩, ⟨by (with_reducible repeat (first | refine blk_drewN ?_ _ | refine blk_drew ?_ | refine blk_alloc ?_ _)); exact BK779.out⟩, ⟨by (with_reducible repeat (first | refine blk_drewN ?_ _ | refine blk_drew ?_ | refine blk_alloc ?_ _)); exact BK784.out⟩, ⟨by (with_reducible repeat (first | refine blk_drewN ?_ _ | refine blk_drew ?_ | refine blk_alloc ?_ _)); exact BK790.out⟩, ⟨by repeat (first | (with_reducible first | exact HB.out | apply below_alloc | apply pw_below_drewN | apply below_drew1 | refine below_set ?_ GE768.out | refine below_set ?_ GE779.out | refine below_set ?_ GE784.out | refine below_set ?_ GE790.out) | exact HB.out)⟩⟩
    case rest =>
      clear HC12
      try clear c1
      try clear c2
      try clear p2
      try clear c3
      try clear c4
      try clear c4b0
      try clear c5
      try clear c14
      try clear c21
      try clear c22
      try clear c24
      try clear c25
      try clear c27
      try clear c28
      try clear c33
      try clear c34
      try clear c35
      try clear c39
      try clear c40
      try clear c41
      try clear c42
      try clear c44
      try clear c45
      try clear c48
      try clear c49
      try clear c50
      try clear c52
      try clear c53
      try clear hcz14_0
      try clear hcz14_1
      try clear hcz16_0
      try clear hcz16_1
      try clear hcz22_0
      try clear hcz22_1
      try clear hcz24_0
      try clear hcz24_1
      try clear hcz29_0
      try clear hcz29_1
      try clear hcz36_0
      try clear hcz36_1
      try clear hcz43_0
      try clear hcz43_1
      try clear hcz46_0
      try clear hcz46_1
      try clear hcz51_0
      try clear hcz51_1
      try clear hcz54_0
      try clear hcz54_1
      try clear hcz6_0
      try clear hcz6_1
      try clear hfz14_0
      try clear hfz14_1
      try clear hfz16_0
      try clear hfz16_1
      try clear hfz22_0
      try clear hfz22_1
      try clear hfz24_0
      try clear hfz24_1
      try clear hfz29_0
      try clear hfz29_1
      try clear hfz36_0
      try clear hfz36_1
      try clear hfz43_0
      try clear hfz43_1
      try clear hfz46_0
      try clear hfz46_1
      try clear hfz51_0
      try clear hfz51_1
      try clear hfz54_0
      try clear hfz54_1
      try clear hfz6_0
      try clear hfz6_1
      obtain ⟨kq, x44_11, rfl, HA, HJ11, HO_780001, HO_785001, HO_791001, BK768, BK779, BK784, BK790, HB⟩ := hcut
      cases kq with
      | zero => exact absurd HA.out (by simp [laws_FnExactMendCounter.j0])
      | succ kj11 =>
        have H := HA.out
        clear HA
        simp only [laws_FnExactMendCounter.j0] at H
        by_cases c56 : x44_11 = true
        · subst c56
          have H1 : (some false) = some r := by rw [if_pos rfl] at H; exact H
          clear H
          have H := H1
          clear H1
          obtain rfl := Option.some.inj H
          go_wp2
          go_ret
          exact ⟨by first | rfl | (simp [errW_none, errW_some] <;> rfl) | (simp [*, errW_none, errW_some] <;> rfl), by repeat (first | (with_reducible first | exact HB.out | apply below_alloc | apply pw_below_drewN | apply below_drew1 | refine below_set ?_ GE768.out | refine below_set ?_ GE779.out | refine below_set ?_ GE784.out | refine below_set ?_ GE790.out) | exact HB.out)⟩
        · replace c56 := Bool.eq_false_iff.mpr c56
          subst c56
          have H1 : ((laws_toCounter.f kj11 a0_0 l0_1).bind fun bt792 => ((laws_eqCounter.f kj11 t780 t781 bt792.1 bt792.2).bind fun t796 => (if t796 = true then ((laws_markCounter.f kj11 t780 t781 1).bind fun bt797 => (if bt797.1 < 0 then (laws_FnExactMendCounter.j1 kj11 a1 t778 true a0_0 l0_1 t774 t775 t785 t786) else ((laws_eqCounter.f kj11 t785 t786 t774 t775).bind fun t799 => (if t799 = true then (laws_FnExactMendCounter.j1 kj11 a1 t778 (t789 != t778) a0_0 l0_1 t774 t775 t785 t786) else (laws_FnExactMendCounter.j1 kj11 a1 t778 true a0_0 l0_1 t774 t775 t785 t786))))) else (some false)))) = some r := by rw [if_neg (show ¬ (false = true) by decide)] at H; exact H
          clear H
          have H := H1
          clear H1
          replace H := Option.bind_eq_some_iff.mp H
          obtain ⟨⟨t792, t793⟩, A570, H⟩ := H
          replace H : ((laws_eqCounter.f kj11 t780 t781 t792 t793).bind fun t796 => (if t796 = true then ((laws_markCounter.f kj11 t780 t781 1).bind fun bt797 => (if bt797.1 < 0 then (laws_FnExactMendCounter.j1 kj11 a1 t778 true a0_0 l0_1 t774 t775 t785 t786) else ((laws_eqCounter.f kj11 t785 t786 t774 t775).bind fun t799 => (if t799 = true then (laws_FnExactMendCounter.j1 kj11 a1 t778 (t789 != t778) a0_0 l0_1 t774 t775 t785 t786) else (laws_FnExactMendCounter.j1 kj11 a1 t778 true a0_0 l0_1 t774 t775 t785 t786))))) else (some false))) = some r := H
          have A57 := Aside0.mk A570
          clear A570
          replace H := Option.bind_eq_some_iff.mp H
          obtain ⟨t796, A580, H⟩ := H
          replace H : (if t796 = true then ((laws_markCounter.f kj11 t780 t781 1).bind fun bt797 => (if bt797.1 < 0 then (laws_FnExactMendCounter.j1 kj11 a1 t778 true a0_0 l0_1 t774 t775 t785 t786) else ((laws_eqCounter.f kj11 t785 t786 t774 t775).bind fun t799 => (if t799 = true then (laws_FnExactMendCounter.j1 kj11 a1 t778 (t789 != t778) a0_0 l0_1 t774 t775 t785 t786) else (laws_FnExactMendCounter.j1 kj11 a1 t778 true a0_0 l0_1 t774 t775 t785 t786))))) else (some false)) = some r := H
          have A58 := Aside0.mk A580
          clear A580
          by_cases c59 : t796 = true
          · subst c59
            have H1 : ((laws_markCounter.f kj11 t780 t781 1).bind fun bt797 => (if bt797.1 < 0 then (laws_FnExactMendCounter.j1 kj11 a1 t778 true a0_0 l0_1 t774 t775 t785 t786) else ((laws_eqCounter.f kj11 t785 t786 t774 t775).bind fun t799 => (if t799 = true then (laws_FnExactMendCounter.j1 kj11 a1 t778 (t789 != t778) a0_0 l0_1 t774 t775 t785 t786) else (laws_FnExactMendCounter.j1 kj11 a1 t778 true a0_0 l0_1 t774 t775 t785 t786))))) = some r := by rw [if_pos rfl] at H; exact H
            clear H
            have H := H1
            clear H1
            replace H := Option.bind_eq_some_iff.mp H
            obtain ⟨⟨t797, t798⟩, A600, H⟩ := H
            replace H : (if t797 < 0 then (laws_FnExactMendCounter.j1 kj11 a1 t778 true a0_0 l0_1 t774 t775 t785 t786) else ((laws_eqCounter.f kj11 t785 t786 t774 t775).bind fun t799 => (if t799 = true then (laws_FnExactMendCounter.j1 kj11 a1 t778 (t789 != t778) a0_0 l0_1 t774 t775 t785 t786) else (laws_FnExactMendCounter.j1 kj11 a1 t778 true a0_0 l0_1 t774 t775 t785 t786)))) = some r := H
            have A60 := Aside0.mk A600
            clear A600
            have HC61 := Aside0.mk H
            clear H
            try go_wp2
            have n0_ := Aside0.mk (Kd.R_drew HO_780001.out)
            have n1_ := Aside0.mk (Kd.R_drew HO_785001.out)
            have n2_ := Aside0.mk (Kd.R_drew HO_791001.out)
            have n3_ := Aside0.mk (blk_drew BK768.out)
            have n4_ := Aside0.mk (blk_drew BK779.out)
            have n5_ := Aside0.mk (blk_drew BK784.out)
            have n6_ := Aside0.mk (blk_drew BK790.out)
            have n7_ := Aside0.mk (below_drew1 HB.out)
            clear HO_780001
            clear HO_785001
            clear HO_791001
            clear BK768
            clear BK779
            clear BK784
            clear BK790
            clear HB
            have HO_780001 := n0_
            have HO_785001 := n1_
            have HO_791001 := n2_
            have BK768 := n3_
            have BK779 := n4_
            have BK784 := n5_
            have BK790 := n6_
            have HB := n7_
            clear n0_ n1_ n2_ n3_ n4_ n5_ n6_ n7_
            refine start_ (n := 5) (S := fun w' => w'.cell? ⟨gb784, 0, none⟩ = some (.int .i64 t780) ∧ w'.cell? ⟨gb784, 1, none⟩ = some (.slice Ao30 t781.length co30) ∧ w'.cell? ⟨gb768, 0, none⟩ = some (.int .i64 a0_0) ∧ w'.cell? ⟨gb768, 1, none⟩ = some (.slice A0_1 l0_1.length c0_1)) (ds := []) #[false, false, false, false, false] (by kernel_rfl) rfl rfl ⟨(blk_cell BK784.out 0).trans rfl, (blk_cell BK784.out 1).trans rfl, (blk_cell BK768.out 0).trans rfl, (blk_cell BK768.out 1).trans rfl⟩ (fun hHeld => ?_)
            generalize wc.drew = w62 at HO_780001 HO_785001 HO_791001 BK768 BK779 BK784 BK790 HB hHeld ⊢
            refine take_ (i := 0) (N := some 45) (v := ?_) (a' := ?_) #[true, false, false, false, false] rfl rfl (by kernel_rfl) (fun _ _ _ h => h) (Or.inl ⟨by rfl, ?_⟩) hHeld ?_ ?_
            rotate_left
            · rintro w' ⟨s0, s1, s2, s3⟩
              go_simp
              with_reducible rfl
            rotate_left
            · simp only [Act.put, List.setIfInBounds_toArray, List.set_cons_zero, List.set_cons_succ, i64_w, i32_w]
              rfl
            refine take_ (i := 1) (N := some 46) (v := ?_) (a' := ?_) #[true, true, false, false, false] rfl rfl (by kernel_rfl) (fun _ _ _ h => h) (Or.inl ⟨by rfl, ?_⟩) hHeld ?_ ?_
            rotate_left
            · rintro w' ⟨s0, s1, s2, s3⟩
              go_simp
              with_reducible rfl
            rotate_left
            · simp only [Act.put, List.setIfInBounds_toArray, List.set_cons_zero, List.set_cons_succ, i64_w, i32_w]
              rfl
            refine one_ (i := 2) (N := some 47) #[true, true, true, false, false] rfl rfl (by kernel_rfl) (by decide) (fun K hK => ?_)
            refine goes_ Try.func24 (by kernel_rfl) rfl #[.agg #[.int .i64 a0_0, .slice A0_1 l0_1.length c0_1]] (by rfl) rfl rfl (by (try simp only [List.map_toArray, List.map_cons, List.map_nil]); first | done | rfl | (simp only [List.length_drop, List.length_take]; rfl)) ?_
            with_reducible refine (laws_toCounter.calls kj11 a0_0 _ _ l0_1 t792 t793 _ ?side1 ?side2 A57.out).mono ?_
            (case side1 => repeat (first | exact (Kd.C_below HR0_1.out HB.out) | (with_reducible refine Kd.C_alloc ?_ _) | (with_reducible refine Kd.C_drewN ?_ _) | (with_reducible refine Kd.C_drew ?_)))
            (case side2 => exact HC0_1.out)
            rintro e w63 ⟨v794, rfl, ho0, hb⟩
            refine ⟨_, rfl, ?_⟩
            have n0_ := Aside0.mk (Kd.R_elder' (by (with_reducible repeat (first | apply Kd.R_alloc | apply Kd.R_drewN | apply Kd.R_drew)); exact HO_780001.out) (Kd.R_base ho0) hb)
            have n1_ := Aside0.mk (Kd.R_elder' (by (with_reducible repeat (first | apply Kd.R_alloc | apply Kd.R_drewN | apply Kd.R_drew)); exact HO_785001.out) (Kd.R_base ho0) hb)
            have n2_ := Aside0.mk (Kd.R_elder' (by (with_reducible repeat (first | apply Kd.R_alloc | apply Kd.R_drewN | apply Kd.R_drew)); exact HO_791001.out) (Kd.R_base ho0) hb)
            have n3_ := Aside0.mk (Kd.R_lower (Kd.R_new' (Kd.R_new' (Kd.R_new' ho0 (Kd.R_lt (by (with_reducible repeat (first | apply Kd.R_alloc | apply Kd.R_drewN | apply Kd.R_drew)); exact HO_780001.out))) (Kd.R_lt (by (with_reducible repeat (first | apply Kd.R_alloc | apply Kd.R_drewN | apply Kd.R_drew)); exact HO_785001.out))) (Kd.R_lt (by (with_reducible repeat (first | apply Kd.R_alloc | apply Kd.R_drewN | apply Kd.R_drew)); exact HO_791001.out))) (below_size (by repeat (first | (with_reducible first | exact HB.out | apply below_alloc | apply pw_below_drewN | apply below_drew1 | refine below_set ?_ GE768.out | refine below_set ?_ GE779.out | refine below_set ?_ GE784.out | refine below_set ?_ GE790.out) | exact HB.out))))
            have n4_ := Aside0.mk (blk_below (g := gb768) (o := .cells #[.int .i64 a0_0, .slice A0_1 l0_1.length c0_1] 37 (0, 0)) (by (with_reducible repeat (first | refine blk_drewN ?_ _ | refine blk_drew ?_ | refine blk_alloc ?_ _)); exact BK768.out) hb)
            have n5_ := Aside0.mk (blk_below (g := gb779) (o := .cells #[.int .i64 t774, .slice Ao23 t775.length co23] 26 (0, 0)) (by (with_reducible repeat (first | refine blk_drewN ?_ _ | refine blk_drew ?_ | refine blk_alloc ?_ _)); exact BK779.out) hb)
            have n6_ := Aside0.mk (blk_below (g := gb784) (o := .cells #[.int .i64 t780, .slice Ao30 t781.length co30] 26 (0, 0)) (by (with_reducible repeat (first | refine blk_drewN ?_ _ | refine blk_drew ?_ | refine blk_alloc ?_ _)); exact BK784.out) hb)
            have n7_ := Aside0.mk (blk_below (g := gb790) (o := .cells #[.int .i64 t785, .slice Ao37 t786.length co37] 26 (0, 0)) (by (with_reducible repeat (first | refine blk_drewN ?_ _ | refine blk_drew ?_ | refine blk_alloc ?_ _)); exact BK790.out) hb)
            have n8_ := Aside0.mk (below_step (by repeat (first | (with_reducible first | exact HB.out | apply below_alloc | apply pw_below_drewN | apply below_drew1 | refine below_set ?_ GE768.out | refine below_set ?_ GE779.out | refine below_set ?_ GE784.out | refine below_set ?_ GE790.out) | exact HB.out)) hb)
            clear HO_780001
            clear HO_785001
            clear HO_791001
            clear BK768
            clear BK779
            clear BK784
            clear BK790
            clear HB
            have HO_780001 := n0_
            have HO_785001 := n1_
            have HO_791001 := n2_
            have HO795 := n3_
            have BK768 := n4_
            have BK779 := n5_
            have BK784 := n6_
            have BK790 := n7_
            have HB := n8_
            clear n0_ n1_ n2_ n3_ n4_ n5_ n6_ n7_ n8_
            (try clear hb)
            (try clear hb2)
            (try clear hk)
            (try clear hi)
            (try clear ho0)
            obtain ⟨Ao64, co64, eo64⟩ := Kd.R_slice HO795.out
            (first | subst eo64 | (injection eo64 with f1_ f2_ f3_; have f4_ := f1_.symm; have f5_ := f3_.symm; clear f1_ f2_ f3_; subst f4_; subst f5_))
            refine hK.out _ _ ⟨(blk_cell BK784.out 0).trans rfl, (blk_cell BK784.out 1).trans rfl, (blk_cell BK768.out 0).trans rfl, (blk_cell BK768.out 1).trans rfl⟩ (fun hHeld => ?_)
            clear hK K
            refine norm_ (a' := ?_) ?_ ?_
            rotate_left
            · show Act.put _ (some 47) _ = _
              simp only [Act.put, List.setIfInBounds_toArray, List.set_cons_zero, List.set_cons_succ, i64_w, i32_w]
              rfl
            refine one_ (i := 3) (N := some 48) #[true, true, true, true, false] rfl rfl (by kernel_rfl) (by decide) (fun K hK => ?_)
            refine goes_ Try.func25 (by kernel_rfl) rfl #[.agg #[.int .i64 t780, .slice Ao30 t781.length co30], .agg #[.int .i64 t792, .slice Ao64 t793.length co64]] (by rfl) rfl rfl (by (try simp only [List.map_toArray, List.map_cons, List.map_nil]); first | done | rfl | (simp only [List.length_drop, List.length_take]; rfl)) ?_
            with_reducible refine (laws_eqCounter.calls kj11 t780 _ _ t781 t792 _ _ t793 true _ ?side1 ?side2 ?side3 ?side4 A58.out).mono ?_
            (case side1 => repeat (first | exact (Kd.R_reads' HO_785001.out).2.2 | (with_reducible refine Kd.C_alloc ?_ _) | (with_reducible refine Kd.C_drewN ?_ _) | (with_reducible refine Kd.C_drew ?_)))
            (case side2 => exact (Kd.R_reads' HO_785001.out).2.1)
            (case side3 => repeat (first | exact (Kd.R_reads' HO795.out).2.2 | (with_reducible refine Kd.C_alloc ?_ _) | (with_reducible refine Kd.C_drewN ?_ _) | (with_reducible refine Kd.C_drew ?_)))
            (case side4 => exact (Kd.R_reads' HO795.out).2.1)
            rintro e w65 ⟨rfl, hb⟩
            refine ⟨_, rfl, ?_⟩
            have n0_ := Aside0.mk (Kd.R_below (by (with_reducible repeat (first | apply Kd.R_alloc | apply Kd.R_drewN | apply Kd.R_drew)); exact HO_780001.out) hb)
            have n1_ := Aside0.mk (Kd.R_below (by (with_reducible repeat (first | apply Kd.R_alloc | apply Kd.R_drewN | apply Kd.R_drew)); exact HO_785001.out) hb)
            have n2_ := Aside0.mk (Kd.R_below (by (with_reducible repeat (first | apply Kd.R_alloc | apply Kd.R_drewN | apply Kd.R_drew)); exact HO_791001.out) hb)
            have n3_ := Aside0.mk (Kd.R_below (by (with_reducible repeat (first | apply Kd.R_alloc | apply Kd.R_drewN | apply Kd.R_drew)); exact HO795.out) hb)
            have n4_ := Aside0.mk (blk_below (g := gb768) (o := .cells #[.int .i64 a0_0, .slice A0_1 l0_1.length c0_1] 37 (0, 0)) (by (with_reducible repeat (first | refine blk_drewN ?_ _ | refine blk_drew ?_ | refine blk_alloc ?_ _)); exact BK768.out) hb)
            have n5_ := Aside0.mk (blk_below (g := gb779) (o := .cells #[.int .i64 t774, .slice Ao23 t775.length co23] 26 (0, 0)) (by (with_reducible repeat (first | refine blk_drewN ?_ _ | refine blk_drew ?_ | refine blk_alloc ?_ _)); exact BK779.out) hb)
            have n6_ := Aside0.mk (blk_below (g := gb784) (o := .cells #[.int .i64 t780, .slice Ao30 t781.length co30] 26 (0, 0)) (by (with_reducible repeat (first | refine blk_drewN ?_ _ | refine blk_drew ?_ | refine blk_alloc ?_ _)); exact BK784.out) hb)
            have n7_ := Aside0.mk (blk_below (g := gb790) (o := .cells #[.int .i64 t785, .slice Ao37 t786.length co37] 26 (0, 0)) (by (with_reducible repeat (first | refine blk_drewN ?_ _ | refine blk_drew ?_ | refine blk_alloc ?_ _)); exact BK790.out) hb)
            have n8_ := Aside0.mk (below_step (by repeat (first | (with_reducible first | exact HB.out | apply below_alloc | apply pw_below_drewN | apply below_drew1 | refine below_set ?_ GE768.out | refine below_set ?_ GE779.out | refine below_set ?_ GE784.out | refine below_set ?_ GE790.out) | exact HB.out)) hb)
            clear HO_780001
            clear HO_785001
            clear HO_791001
            clear HO795
            clear BK768
            clear BK779
            clear BK784
            clear BK790
            clear HB
            have HO_780001 := n0_
            have HO_785001 := n1_
            have HO_791001 := n2_
            have HO795 := n3_
            have BK768 := n4_
            have BK779 := n5_
            have BK784 := n6_
            have BK790 := n7_
            have HB := n8_
            clear n0_ n1_ n2_ n3_ n4_ n5_ n6_ n7_ n8_
            (try clear hb)
            (try clear hb2)
            (try clear hk)
            (try clear hi)
            refine hK.out _ _ ⟨(blk_cell BK784.out 0).trans rfl, (blk_cell BK784.out 1).trans rfl, (blk_cell BK768.out 0).trans rfl, (blk_cell BK768.out 1).trans rfl⟩ (fun hHeld => ?_)
            clear hK K
            refine norm_ (a' := ?_) ?_ ?_
            rotate_left
            · show Act.put _ (some 48) _ = _
              simp only [Act.put, List.setIfInBounds_toArray, List.set_cons_zero, List.set_cons_succ, i64_w, i32_w]
              rfl
            refine pure_ (i := 4) (N := some 49) (v := ?_) (a' := ?_) #[true, true, true, true, true] rfl rfl (by kernel_rfl) (fun _ _ _ h => h) (Or.inl ⟨by rfl, ?_⟩) ?_ ?_
            rotate_left
            · intro w'
              go_simp
              with_reducible rfl
            rotate_left
            · simp only [Act.put, List.setIfInBounds_toArray, List.set_cons_zero, List.set_cons_succ, i64_w, i32_w]
              rfl
            refine done_ (by kernel_rfl) ?_
            have hnb66 := NB784_768.out
            have hnc66 := NB768_784.out
            have hnb67 := NB784_779.out
            have hnc67 := NB779_784.out
            have hnb68 := NB784_790.out
            have hnc68 := NB790_784.out
            have hcz69_0 : w65.cell? ⟨gb784, 0, none⟩ = some (.int .i64 t780) := (blk_cell BK784.out 0).trans rfl
            have hcz69_1 : w65.cell? ⟨gb784, 1, none⟩ = some (.slice Ao30 t781.length co30) := (blk_cell BK784.out 1).trans rfl
            have hfz69_0 := blk_frozen BK784.out 0
            have hfz69_1 := blk_frozen BK784.out 1
            go_upto_region 14 with (first | ((with_reducible refine gate_callee (f := 28) rfl ?_); refine goesL_ (some 52) rfl rfl Try.func28 (by kernel_rfl) rfl #[.agg #[.int .i64 t780, .slice Ao30 t781.length co30], .int .i64 1] rfl (by (try simp only [List.map_toArray, List.map_cons, List.map_nil]); first | done | rfl | (simp only [List.length_drop, List.length_take]; rfl)) ?_; (with_reducible refine (laws_markCounter.calls kj11 t780 (fun k_ => some k_ = (.slice Ao30 t781.length co30 : Value).ownBlock) (.slice Ao30 t781.length co30) t781 1 t797 t798 w _ ?side1 ?side2 A60.out).mono ?_); (case side1 => repeat (first | (with_reducible first | exact HB.out | apply below_alloc | apply pw_below_drewN | apply below_drew1 | refine below_set ?_ GE768.out | refine below_set ?_ GE779.out | refine below_set ?_ GE784.out | refine below_set ?_ GE790.out) | exact HB.out)); (case side2 => exact Kd.R_tight rfl HO_785001.out); rintro e w70 ⟨rfl, hy0, hb, hkp⟩; refine ⟨_, rfl, ?_⟩; have n0_ := Aside0.mk (Kd.R_mono (ok' := fun k_ => some k_ ≠ (.slice Ao30 t781.length co30 : Value).ownBlock ∧ some k_ ≠ (.slice Ao37 t786.length co37 : Value).ownBlock ∧ some k_ ≠ (.slice Ao64 t793.length co64 : Value).ownBlock) (Kd.R_keptB (HO_780001.out) hkp (fun k_ hk_ hs_ => (hk_.1.1) hs_)) (fun k_ hk_ => ⟨hk_.1.1.1, hk_.1.1.2, hk_.1.2⟩)); have n1_ := Aside0.mk (Kd.R_reok rfl hy0 (fun k_ e_ => HO_785001.out.1 k_ e_)); have n2_ := Aside0.mk (Kd.R_mono (ok' := fun k_ => some k_ ≠ (.slice Ao23 t775.length co23 : Value).ownBlock ∧ some k_ ≠ (.slice Ao30 t781.length co30 : Value).ownBlock ∧ some k_ ≠ (.slice Ao64 t793.length co64 : Value).ownBlock) (Kd.R_keptB (HO_791001.out) hkp (fun k_ hk_ hs_ => (hk_.1.2) hs_)) (fun k_ hk_ => ⟨hk_.1.1.1, hk_.1.1.2, hk_.1.2⟩)); have n3_ := Aside0.mk (blk_kept (by (with_reducible repeat (first | refine blk_drewN ?_ _ | refine blk_drew ?_ | refine blk_alloc ?_ _)); exact BK768.out) hkp (fun hs_ => (fun e_ => (Kd.R_ne HO_785001.out BK768.out (by decide)) e_) hs_)); have n4_ := Aside0.mk (blk_kept (by (with_reducible repeat (first | refine blk_drewN ?_ _ | refine blk_drew ?_ | refine blk_alloc ?_ _)); exact BK779.out) hkp (fun hs_ => (fun e_ => (Kd.R_ne HO_785001.out BK779.out (by decide)) e_) hs_)); have n5_ := Aside0.mk (blk_kept (by (with_reducible repeat (first | refine blk_drewN ?_ _ | refine blk_drew ?_ | refine blk_alloc ?_ _)); exact BK784.out) hkp (fun hs_ => (fun e_ => (Kd.R_ne HO_785001.out BK784.out (by decide)) e_) hs_)); have n6_ := Aside0.mk (blk_kept (by (with_reducible repeat (first | refine blk_drewN ?_ _ | refine blk_drew ?_ | refine blk_alloc ?_ _)); exact BK790.out) hkp (fun hs_ => (fun e_ => (Kd.R_ne HO_785001.out BK790.out (by decide)) e_) hs_)); have n7_ := Aside0.mk (Kd.R_mono (ok' := fun k_ => some k_ ≠ (.slice Ao23 t775.length co23 : Value).ownBlock ∧ some k_ ≠ (.slice Ao30 t781.length co30 : Value).ownBlock ∧ some k_ ≠ (.slice Ao37 t786.length co37 : Value).ownBlock) (Kd.R_keptB (HO795.out) hkp (fun k_ hk_ hs_ => (hk_.1.2) hs_)) (fun k_ hk_ => ⟨hk_.1.1.1.2, hk_.1.1.2, hk_.1.2⟩)); have n8_ := Aside0.mk (hb); clear HO_780001; clear HO_785001; clear HO_791001; clear BK768; clear BK779; clear BK784; clear BK790; clear HO795; clear HB; have HO_780001 := n0_; have HO_785001 := n1_; have HO_791001 := n2_; have BK768 := n3_; have BK779 := n4_; have BK784 := n5_; have BK790 := n6_; have HO795 := n7_; have HB := n8_; clear n0_ n1_ n2_ n3_ n4_ n5_ n6_ n7_ n8_; (try clear hb); (try clear hkp); (try clear hy0)))
            (try simp only [Act.put, List.setIfInBounds_toArray, List.set_cons_zero, List.set_cons_succ])
            go_cut [65] (fun v65 wc => ∃ (kq : Nat) (x65_60 : Bool), v65 = .bool x65_60 ∧ Aside0 (laws_FnExactMendCounter.j1 kq a1 t778 x65_60 a0_0 l0_1 t774 t775 t785 t786 = some r) ∧ Aside0 (kq ≤ kj11) ∧ Aside0 (Kd.R (Kd.int .i64) 2 wc w.heap.size (fun k_ => some k_ ≠ ((.slice Ao30 t781.length co30) : Value).ownBlock ∧ some k_ ≠ ((.slice Ao37 t786.length co37) : Value).ownBlock) (.slice Ao23 t775.length co23) t775) ∧ Aside0 (Kd.R (Kd.int .i64) 2 wc w.heap.size (fun k_ => some k_ ≠ ((.slice Ao23 t775.length co23) : Value).ownBlock ∧ some k_ ≠ ((.slice Ao37 t786.length co37) : Value).ownBlock) (.slice Ao30 t781.length co30) t798) ∧ Aside0 (Kd.R (Kd.int .i64) 2 wc w.heap.size (fun k_ => some k_ ≠ ((.slice Ao23 t775.length co23) : Value).ownBlock ∧ some k_ ≠ ((.slice Ao30 t781.length co30) : Value).ownBlock) (.slice Ao37 t786.length co37) t786) ∧ Aside0 (wc.heap[gb768]? = some (.cells #[.int .i64 a0_0, (.slice A0_1 l0_1.length c0_1)] 37 (0, 0))) ∧ Aside0 (wc.heap[gb779]? = some (.cells #[.int .i64 t774, (.slice Ao23 t775.length co23)] 26 (0, 0))) ∧ Aside0 (wc.heap[gb784]? = some (.cells #[.int .i64 t780, (.slice Ao30 t781.length co30)] 26 (0, 0))) ∧ Aside0 (wc.heap[gb790]? = some (.cells #[.int .i64 t785, (.slice Ao37 t786.length co37)] 26 (0, 0))) ∧ Aside0 (Below w.heap.size w wc))
            case first =>
              have H := HC61.out
              clear HC61
              by_cases c71 : t797 < 0
              · rw [if_pos c71] at H
                have c71b0 : decide (t797 < 0) = true := decide_eq_true c71
                clear c71
                (first | rw [c71b0] | (simp only [i64_w, i32_w]; rw [c71b0]) | skip)
                have H' := Aside0.mk H
                clear H
                go_wp2
                go_meet
                case rel => exact ⟨_, (true), (by first | rfl | (simp; done) | (simp [*]; done)), H', ⟨by have := HJ11.out; first | omega | exact Nat.le_refl _⟩, ⟨by (with_reducible repeat (first | apply Kd.R_alloc | apply Kd.R_drewN | apply Kd.R_drew)); exact Kd.R_mono HO_780001.out (fun _ hk => ⟨hk.1, hk.2.1⟩)⟩, ⟨by (with_reducible repeat (first | apply Kd.R_alloc | apply Kd.R_drewN | apply Kd.R_drew)); exact Kd.R_mono HO_785001.out (fun _ hk => ⟨hk.1.1, hk.1.2⟩)⟩, ⟨by (with_reducible repeat (first | apply Kd.R_alloc | apply Kd.R_drewN | apply Kd.R_drew)); exact Kd.R_mono HO_791001.out (fun _ hk => ⟨hk.1, hk.2.1⟩)⟩, ⟨by (with_reducible repeat (first | refine blk_drewN ?_ _ | refine blk_drew ?_ | refine blk_alloc ?_ _)); exact BK768.out⟩, ⟨by (with_reducible repeat (first | refine blk_drewN ?_ _ | refine blk_drew ?_ | refine blk_alloc ?_ _)); exact BK779.out⟩, ⟨by (with_reducible repeat (first | refine blk_drewN ?_ _ | refine blk_drew ?_ | refine blk_alloc ?_ _)); exact BK784.out⟩, ⟨by (with_reducible repeat (first | refine blk_drewN ?_ _ | refine blk_drew ?_ | refine blk_alloc ?_ _)); exact BK790.out⟩, ⟨by repeat (first | (with_reducible first | exact HB.out | apply below_alloc | apply pw_below_drewN | apply below_drew1 | refine below_set ?_ GE768.out | refine below_set ?_ GE779.out | refine below_set ?_ GE784.out | refine below_set ?_ GE790.out) | exact HB.out)⟩⟩
              · rw [if_neg c71] at H
                have c71b0 : decide (t797 < 0) = false := decide_eq_false c71
                clear c71
                (first | rw [c71b0] | (simp only [i64_w, i32_w]; rw [c71b0]) | skip)
                replace H := Option.bind_eq_some_iff.mp H
                obtain ⟨t799, A720, H⟩ := H
                replace H : (if t799 = true then (laws_FnExactMendCounter.j1 kj11 a1 t778 (t789 != t778) a0_0 l0_1 t774 t775 t785 t786) else (laws_FnExactMendCounter.j1 kj11 a1 t778 true a0_0 l0_1 t774 t775 t785 t786)) = some r := H
                have A72 := Aside0.mk A720
                clear A720
                by_cases c73 : t799 = true
                · subst c73
                  have H1 : (laws_FnExactMendCounter.j1 kj11 a1 t778 (t789 != t778) a0_0 l0_1 t774 t775 t785 t786) = some r := by rw [if_pos rfl] at H; exact H
                  clear H
                  have H := H1
                  clear H1
                  have H' := Aside0.mk H
                  clear H
                  have hnb74 := NB790_768.out
                  have hnc74 := NB768_790.out
                  have hnb75 := NB790_779.out
                  have hnc75 := NB779_790.out
                  have hnb76 := NB790_784.out
                  have hnc76 := NB784_790.out
                  have hcz77_0 : w70.cell? ⟨gb790, 0, none⟩ = some (.int .i64 t785) := (blk_cell BK790.out 0).trans rfl
                  have hcz77_1 : w70.cell? ⟨gb790, 1, none⟩ = some (.slice Ao37 t786.length co37) := (blk_cell BK790.out 1).trans rfl
                  have hfz77_0 := blk_frozen BK790.out 0
                  have hfz77_1 := blk_frozen BK790.out 1
                  have hnb78 := NB779_768.out
                  have hnc78 := NB768_779.out
                  have hnb79 := NB779_784.out
                  have hnc79 := NB784_779.out
                  have hcz80_0 : w70.cell? ⟨gb779, 0, none⟩ = some (.int .i64 t774) := (blk_cell BK779.out 0).trans rfl
                  have hcz80_1 : w70.cell? ⟨gb779, 1, none⟩ = some (.slice Ao23 t775.length co23) := (blk_cell BK779.out 1).trans rfl
                  have hfz80_0 := blk_frozen BK779.out 0
                  have hfz80_1 := blk_frozen BK779.out 1
                  go_wp2_with (first | (go_at_call 25; (with_reducible refine (laws_eqCounter.calls kj11 t785 _ _ t786 t774 _ _ t775 true _ ?side1 ?side2 ?side3 ?side4 A72.out).mono ?_); (case side1 => repeat (first | exact (Kd.R_reads' HO_791001.out).2.2 | (with_reducible refine Kd.C_alloc ?_ _) | (with_reducible refine Kd.C_drewN ?_ _) | (with_reducible refine Kd.C_drew ?_))); (case side2 => exact (Kd.R_reads' HO_791001.out).2.1); (case side3 => repeat (first | exact (Kd.R_reads' HO_780001.out).2.2 | (with_reducible refine Kd.C_alloc ?_ _) | (with_reducible refine Kd.C_drewN ?_ _) | (with_reducible refine Kd.C_drew ?_))); (case side4 => exact (Kd.R_reads' HO_780001.out).2.1); rintro e w81 ⟨rfl, hb⟩; have n0_ := Aside0.mk (Kd.R_below (by (with_reducible repeat (first | apply Kd.R_alloc | apply Kd.R_drewN | apply Kd.R_drew)); exact HO_780001.out) hb); have n1_ := Aside0.mk (Kd.R_below (by (with_reducible repeat (first | apply Kd.R_alloc | apply Kd.R_drewN | apply Kd.R_drew)); exact HO_785001.out) hb); have n2_ := Aside0.mk (Kd.R_below (by (with_reducible repeat (first | apply Kd.R_alloc | apply Kd.R_drewN | apply Kd.R_drew)); exact HO_791001.out) hb); have n3_ := Aside0.mk (Kd.R_below (by (with_reducible repeat (first | apply Kd.R_alloc | apply Kd.R_drewN | apply Kd.R_drew)); exact HO795.out) hb); have n4_ := Aside0.mk (blk_below (g := gb768) (o := .cells #[.int .i64 a0_0, .slice A0_1 l0_1.length c0_1] 37 (0, 0)) (by (with_reducible repeat (first | refine blk_drewN ?_ _ | refine blk_drew ?_ | refine blk_alloc ?_ _)); exact BK768.out) hb); have n5_ := Aside0.mk (blk_below (g := gb779) (o := .cells #[.int .i64 t774, .slice Ao23 t775.length co23] 26 (0, 0)) (by (with_reducible repeat (first | refine blk_drewN ?_ _ | refine blk_drew ?_ | refine blk_alloc ?_ _)); exact BK779.out) hb); have n6_ := Aside0.mk (blk_below (g := gb784) (o := .cells #[.int .i64 t780, .slice Ao30 t781.length co30] 26 (0, 0)) (by (with_reducible repeat (first | refine blk_drewN ?_ _ | refine blk_drew ?_ | refine blk_alloc ?_ _)); exact BK784.out) hb); have n7_ := Aside0.mk (blk_below (g := gb790) (o := .cells #[.int .i64 t785, .slice Ao37 t786.length co37] 26 (0, 0)) (by (with_reducible repeat (first | refine blk_drewN ?_ _ | refine blk_drew ?_ | refine blk_alloc ?_ _)); exact BK790.out) hb); have n8_ := Aside0.mk (below_step (by repeat (first | (with_reducible first | exact HB.out | apply below_alloc | apply pw_below_drewN | apply below_drew1 | refine below_set ?_ GE768.out | refine below_set ?_ GE779.out | refine below_set ?_ GE784.out | refine below_set ?_ GE790.out) | exact HB.out)) hb); clear HO_780001; clear HO_785001; clear HO_791001; clear HO795; clear BK768; clear BK779; clear BK784; clear BK790; clear HB; have HO_780001 := n0_; have HO_785001 := n1_; have HO_791001 := n2_; have HO795 := n3_; have BK768 := n4_; have BK779 := n5_; have BK784 := n6_; have BK790 := n7_; have HB := n8_; clear n0_ n1_ n2_ n3_ n4_ n5_ n6_ n7_ n8_; (try clear hb); (try clear hb2); (try clear hk); (try clear hi)))
                  go_meet
                  case rel => exact ⟨_, ((t789 != t778)), (by first | rfl | (simp; done) | (simp [*]; done)), H', ⟨by have := HJ11.out; first | omega | exact Nat.le_refl _⟩, ⟨by (with_reducible repeat (first | apply Kd.R_alloc | apply Kd.R_drewN | apply Kd.R_drew)); exact Kd.R_mono HO_780001.out (fun _ hk => ⟨hk.1, hk.2.1⟩)⟩, ⟨by (with_reducible repeat (first | apply Kd.R_alloc | apply Kd.R_drewN | apply Kd.R_drew)); exact Kd.R_mono HO_785001.out (fun _ hk => ⟨hk.1.1, hk.1.2⟩)⟩, ⟨by (with_reducible repeat (first | apply Kd.R_alloc | apply Kd.R_drewN | apply Kd.R_drew)); exact Kd.R_mono HO_791001.out (fun _ hk => ⟨hk.1, hk.2.1⟩)⟩, ⟨by (with_reducible repeat (first | refine blk_drewN ?_ _ | refine blk_drew ?_ | refine blk_alloc ?_ _)); exact BK768.out⟩, ⟨by (with_reducible repeat (first | refine blk_drewN ?_ _ | refine blk_drew ?_ | refine blk_alloc ?_ _)); exact BK779.out⟩, ⟨by (with_reducible repeat (first | refine blk_drewN ?_ _ | refine blk_drew ?_ | refine blk_alloc ?_ _)); exact BK784.out⟩, ⟨by (with_reducible repeat (first | refine blk_drewN ?_ _ | refine blk_drew ?_ | refine blk_alloc ?_ _)); exact BK790.out⟩, ⟨by repeat (first | (with_reducible first | exact HB.out | apply below_alloc | apply pw_below_drewN | apply below_drew1 | refine below_set ?_ GE768.out | refine below_set ?_ GE779.out | refine below_set ?_ GE784.out | refine below_set ?_ GE790.out) | exact HB.out)⟩⟩
                · replace c73 := Bool.eq_false_iff.mpr c73
                  subst c73
                  have H1 : (laws_FnExactMendCounter.j1 kj11 a1 t778 true a0_0 l0_1 t774 t775 t785 t786) = some r := by rw [if_neg (show ¬ (false = true) by decide)] at H; exact H
                  clear H
                  have H := H1
                  clear H1
                  have H' := Aside0.mk H
                  clear H
                  have hnb82 := NB790_768.out
                  have hnc82 := NB768_790.out
                  have hnb83 := NB790_779.out
                  have hnc83 := NB779_790.out
                  have hnb84 := NB790_784.out
                  have hnc84 := NB784_790.out
                  have hcz85_0 : w70.cell? ⟨gb790, 0, none⟩ = some (.int .i64 t785) := (blk_cell BK790.out 0).trans rfl
                  have hcz85_1 : w70.cell? ⟨gb790, 1, none⟩ = some (.slice Ao37 t786.length co37) := (blk_cell BK790.out 1).trans rfl
                  have hfz85_0 := blk_frozen BK790.out 0
                  have hfz85_1 := blk_frozen BK790.out 1
                  have hnb86 := NB779_768.out
                  have hnc86 := NB768_779.out
                  have hnb87 := NB779_784.out
                  have hnc87 := NB784_779.out
                  have hcz88_0 : w70.cell? ⟨gb779, 0, none⟩ = some (.int .i64 t774) := (blk_cell BK779.out 0).trans rfl
                  have hcz88_1 : w70.cell? ⟨gb779, 1, none⟩ = some (.slice Ao23 t775.length co23) := (blk_cell BK779.out 1).trans rfl
                  have hfz88_0 := blk_frozen BK779.out 0
                  have hfz88_1 := blk_frozen BK779.out 1
                  go_wp2_with (first | (go_at_call 25; (with_reducible refine (laws_eqCounter.calls kj11 t785 _ _ t786 t774 _ _ t775 false _ ?side1 ?side2 ?side3 ?side4 A72.out).mono ?_); (case side1 => repeat (first | exact (Kd.R_reads' HO_791001.out).2.2 | (with_reducible refine Kd.C_alloc ?_ _) | (with_reducible refine Kd.C_drewN ?_ _) | (with_reducible refine Kd.C_drew ?_))); (case side2 => exact (Kd.R_reads' HO_791001.out).2.1); (case side3 => repeat (first | exact (Kd.R_reads' HO_780001.out).2.2 | (with_reducible refine Kd.C_alloc ?_ _) | (with_reducible refine Kd.C_drewN ?_ _) | (with_reducible refine Kd.C_drew ?_))); (case side4 => exact (Kd.R_reads' HO_780001.out).2.1); rintro e w89 ⟨rfl, hb⟩; have n0_ := Aside0.mk (Kd.R_below (by (with_reducible repeat (first | apply Kd.R_alloc | apply Kd.R_drewN | apply Kd.R_drew)); exact HO_780001.out) hb); have n1_ := Aside0.mk (Kd.R_below (by (with_reducible repeat (first | apply Kd.R_alloc | apply Kd.R_drewN | apply Kd.R_drew)); exact HO_785001.out) hb); have n2_ := Aside0.mk (Kd.R_below (by (with_reducible repeat (first | apply Kd.R_alloc | apply Kd.R_drewN | apply Kd.R_drew)); exact HO_791001.out) hb); have n3_ := Aside0.mk (Kd.R_below (by (with_reducible repeat (first | apply Kd.R_alloc | apply Kd.R_drewN | apply Kd.R_drew)); exact HO795.out) hb); have n4_ := Aside0.mk (blk_below (g := gb768) (o := .cells #[.int .i64 a0_0, .slice A0_1 l0_1.length c0_1] 37 (0, 0)) (by (with_reducible repeat (first | refine blk_drewN ?_ _ | refine blk_drew ?_ | refine blk_alloc ?_ _)); exact BK768.out) hb); have n5_ := Aside0.mk (blk_below (g := gb779) (o := .cells #[.int .i64 t774, .slice Ao23 t775.length co23] 26 (0, 0)) (by (with_reducible repeat (first | refine blk_drewN ?_ _ | refine blk_drew ?_ | refine blk_alloc ?_ _)); exact BK779.out) hb); have n6_ := Aside0.mk (blk_below (g := gb784) (o := .cells #[.int .i64 t780, .slice Ao30 t781.length co30] 26 (0, 0)) (by (with_reducible repeat (first | refine blk_drewN ?_ _ | refine blk_drew ?_ | refine blk_alloc ?_ _)); exact BK784.out) hb); have n7_ := Aside0.mk (blk_below (g := gb790) (o := .cells #[.int .i64 t785, .slice Ao37 t786.length co37] 26 (0, 0)) (by (with_reducible repeat (first | refine blk_drewN ?_ _ | refine blk_drew ?_ | refine blk_alloc ?_ _)); exact BK790.out) hb); have n8_ := Aside0.mk (below_step (by repeat (first | (with_reducible first | exact HB.out | apply below_alloc | apply pw_below_drewN | apply below_drew1 | refine below_set ?_ GE768.out | refine below_set ?_ GE779.out | refine below_set ?_ GE784.out | refine below_set ?_ GE790.out) | exact HB.out)) hb); clear HO_780001; clear HO_785001; clear HO_791001; clear HO795; clear BK768; clear BK779; clear BK784; clear BK790; clear HB; have HO_780001 := n0_; have HO_785001 := n1_; have HO_791001 := n2_; have HO795 := n3_; have BK768 := n4_; have BK779 := n5_; have BK784 := n6_; have BK790 := n7_; have HB := n8_; clear n0_ n1_ n2_ n3_ n4_ n5_ n6_ n7_ n8_; (try clear hb); (try clear hb2); (try clear hk); (try clear hi)))
                  go_meet
                  case rel => exact ⟨_, (true), (by first | rfl | (simp; done) | (simp [*]; done)), H', ⟨by have := HJ11.out; first | omega | exact Nat.le_refl _⟩, ⟨by (with_reducible repeat (first | apply Kd.R_alloc | apply Kd.R_drewN | apply Kd.R_drew)); exact Kd.R_mono HO_780001.out (fun _ hk => ⟨hk.1, hk.2.1⟩)⟩, ⟨by (with_reducible repeat (first | apply Kd.R_alloc | apply Kd.R_drewN | apply Kd.R_drew)); exact Kd.R_mono HO_785001.out (fun _ hk => ⟨hk.1.1, hk.1.2⟩)⟩, ⟨by (with_reducible repeat (first | apply Kd.R_alloc | apply Kd.R_drewN | apply Kd.R_drew)); exact Kd.R_mono HO_791001.out (fun _ hk => ⟨hk.1, hk.2.1⟩)⟩, ⟨by (with_reducible repeat (first | refine blk_drewN ?_ _ | refine blk_drew ?_ | refine blk_alloc ?_ _)); exact BK768.out⟩, ⟨by (with_reducible repeat (first | refine blk_drewN ?_ _ | refine blk_drew ?_ | refine blk_alloc ?_ _)); exact BK779.out⟩, ⟨by (with_reducible repeat (first | refine blk_drewN ?_ _ | refine blk_drew ?_ | refine blk_alloc ?_ _)); exact BK784.out⟩, ⟨by (with_reducible repeat (first | refine blk_drewN ?_ _ | refine blk_drew ?_ | refine blk_alloc ?_ _)); exact BK790.out⟩, ⟨by repeat (first | (with_reducible first | exact HB.out | apply below_alloc | apply pw_below_drewN | apply below_drew1 | refine below_set ?_ GE768.out | refine below_set ?_ GE779.out | refine below_set ?_ GE784.out | refine below_set ?_ GE790.out) | exact HB.out)⟩⟩
            case rest =>
              clear HC61
              try clear c1
              try clear c2
              try clear p2
              try clear c3
              try clear c4
              try clear c4b0
              try clear c5
              try clear c6
              try clear c7
              try clear c8
              try clear c14
              try clear c21
              try clear c22
              try clear c24
              try clear c25
              try clear c27
              try clear c28
              try clear c33
              try clear c34
              try clear c35
              try clear c39
              try clear c40
              try clear c41
              try clear c42
              try clear c44
              try clear c45
              try clear c48
              try clear c49
              try clear c50
              try clear c52
              try clear c53
              try clear c56
              try clear c59
              try clear c66
              try clear c67
              try clear c68
              try clear c71
              try clear c71b0
              try clear c73
              try clear c74
              try clear c75
              try clear c76
              try clear c78
              try clear c79
              try clear c82
              try clear c83
              try clear c84
              try clear c86
              try clear c87
              try clear hcz14_0
              try clear hcz14_1
              try clear hcz16_0
              try clear hcz16_1
              try clear hcz22_0
              try clear hcz22_1
              try clear hcz24_0
              try clear hcz24_1
              try clear hcz29_0
              try clear hcz29_1
              try clear hcz36_0
              try clear hcz36_1
              try clear hcz43_0
              try clear hcz43_1
              try clear hcz46_0
              try clear hcz46_1
              try clear hcz51_0
              try clear hcz51_1
              try clear hcz54_0
              try clear hcz54_1
              try clear hcz69_0
              try clear hcz69_1
              try clear hcz6_0
              try clear hcz6_1
              try clear hcz77_0
              try clear hcz77_1
              try clear hcz80_0
              try clear hcz80_1
              try clear hcz85_0
              try clear hcz85_1
              try clear hcz88_0
              try clear hcz88_1
              try clear hfz14_0
              try clear hfz14_1
              try clear hfz16_0
              try clear hfz16_1
              try clear hfz22_0
              try clear hfz22_1
              try clear hfz24_0
              try clear hfz24_1
              try clear hfz29_0
              try clear hfz29_1
              try clear hfz36_0
              try clear hfz36_1
              try clear hfz43_0
              try clear hfz43_1
              try clear hfz46_0
              try clear hfz46_1
              try clear hfz51_0
              try clear hfz51_1
              try clear hfz54_0
              try clear hfz54_1
              try clear hfz69_0
              try clear hfz69_1
              try clear hfz6_0
              try clear hfz6_1
              try clear hfz77_0
              try clear hfz77_1
              try clear hfz80_0
              try clear hfz80_1
              try clear hfz85_0
              try clear hfz85_1
              try clear hfz88_0
              try clear hfz88_1
              try clear p2
              obtain ⟨kq, x65_60, rfl, HA, HJ60, HO_780001, HO_785001, HO_791001, BK768, BK779, BK784, BK790, HB⟩ := hcut
              have hl785001_60 := (Kd.R_reads' HO_785001.out).1
              rw [hl785001_60] at HO_785001
              (try simp only [hl785001_60])
              (try simp only [hl785001_60] at BK768)
              (try simp only [hl785001_60] at BK779)
              (try simp only [hl785001_60] at BK784)
              (try simp only [hl785001_60] at BK790)
              (try simp only [hl785001_60] at HO_780001)
              (try simp only [hl785001_60] at HO_791001)
              cases kq with
              | zero => exact absurd HA.out (by simp [laws_FnExactMendCounter.j1])
              | succ kj60 =>
                have H := HA.out
                clear HA
                simp only [laws_FnExactMendCounter.j1] at H
                by_cases c90 : x65_60 = true
                · subst c90
                  have H1 : (some false) = some r := by rw [if_pos rfl] at H; exact H
                  clear H
                  have H := H1
                  clear H1
                  obtain rfl := Option.some.inj H
                  go_wp2
                  go_ret
                  exact ⟨by first | rfl | (simp [errW_none, errW_some] <;> rfl) | (simp [*, errW_none, errW_some] <;> rfl), by repeat (first | (with_reducible first | exact HB.out | apply below_alloc | apply pw_below_drewN | apply below_drew1 | refine below_set ?_ GE768.out | refine below_set ?_ GE779.out | refine below_set ?_ GE784.out | refine below_set ?_ GE790.out) | exact HB.out)⟩
                · replace c90 := Bool.eq_false_iff.mpr c90
                  subst c90
                  have H1 : ((laws_markCounter.f kj60 t785 t786 1).bind fun bt800 => ((laws_heldCounter.f kj60 t785 bt800.2 1).bind fun t802 => (if t802 < 0 then (some false) else (if t802 = bt800.1 then ((laws_toCounter.f kj60 a0_0 l0_1).bind fun bt803 => ((impl_MendCounter.f kj60 bt803.1 bt803.2 a1).bind fun bt807 => ((laws_eqCounter.f kj60 bt807.1 bt807.2.1 t774 t775).bind fun t813 => (if t813 = true then (laws_FnExactMendCounter.j2 kj60 bt800.1 (bt807.2.2 != t778) t785 bt800.2) else (laws_FnExactMendCounter.j2 kj60 bt800.1 true t785 bt800.2))))) else (some false))))) = some r := by rw [if_neg (show ¬ (false = true) by decide)] at H; exact H
                  clear H
                  have H := H1
                  clear H1
                  replace H := Option.bind_eq_some_iff.mp H
                  obtain ⟨⟨t800, t801⟩, A910, H⟩ := H
                  replace H : ((laws_heldCounter.f kj60 t785 t801 1).bind fun t802 => (if t802 < 0 then (some false) else (if t802 = t800 then ((laws_toCounter.f kj60 a0_0 l0_1).bind fun bt803 => ((impl_MendCounter.f kj60 bt803.1 bt803.2 a1).bind fun bt807 => ((laws_eqCounter.f kj60 bt807.1 bt807.2.1 t774 t775).bind fun t813 => (if t813 = true then (laws_FnExactMendCounter.j2 kj60 t800 (bt807.2.2 != t778) t785 t801) else (laws_FnExactMendCounter.j2 kj60 t800 true t785 t801))))) else (some false)))) = some r := H
                  have A91 := Aside0.mk A910
                  clear A910
                  replace H := Option.bind_eq_some_iff.mp H
                  obtain ⟨t802, A920, H⟩ := H
                  replace H : (if t802 < 0 then (some false) else (if t802 = t800 then ((laws_toCounter.f kj60 a0_0 l0_1).bind fun bt803 => ((impl_MendCounter.f kj60 bt803.1 bt803.2 a1).bind fun bt807 => ((laws_eqCounter.f kj60 bt807.1 bt807.2.1 t774 t775).bind fun t813 => (if t813 = true then (laws_FnExactMendCounter.j2 kj60 t800 (bt807.2.2 != t778) t785 t801) else (laws_FnExactMendCounter.j2 kj60 t800 true t785 t801))))) else (some false))) = some r := H
                  have A92 := Aside0.mk A920
                  clear A920
                  by_cases c93 : t802 < 0
                  · rw [if_pos c93] at H
                    have c93b0 : decide (t802 < 0) = true := decide_eq_true c93
                    clear c93
                    obtain rfl := Option.some.inj H
                    have hnb94 := NB790_768.out
                    have hnc94 := NB768_790.out
                    have hnb95 := NB790_779.out
                    have hnc95 := NB779_790.out
                    have hnb96 := NB790_784.out
                    have hnc96 := NB784_790.out
                    have hcz97_0 : wc.cell? ⟨gb790, 0, none⟩ = some (.int .i64 t785) := (blk_cell BK790.out 0).trans rfl
                    have hcz97_1 : wc.cell? ⟨gb790, 1, none⟩ = some (.slice Ao37 t786.length co37) := (blk_cell BK790.out 1).trans rfl
                    have hfz97_0 := blk_frozen BK790.out 0
                    have hfz97_1 := blk_frozen BK790.out 1
                    go_wp2_with (first | ((with_reducible refine gate_callee (f := 28) rfl ?_); refine goesL_ (some 68) rfl rfl Try.func28 (by kernel_rfl) rfl #[.agg #[.int .i64 t785, .slice Ao37 t786.length co37], .int .i64 1] rfl (by (try simp only [List.map_toArray, List.map_cons, List.map_nil]); first | done | rfl | (simp only [List.length_drop, List.length_take]; rfl)) ?_; (with_reducible refine (laws_markCounter.calls kj60 t785 (fun k_ => some k_ = (.slice Ao37 t786.length co37 : Value).ownBlock) (.slice Ao37 t786.length co37) t786 1 t800 t801 w _ ?side1 ?side2 A91.out).mono ?_); (case side1 => repeat (first | (with_reducible first | exact HB.out | apply below_alloc | apply pw_below_drewN | apply below_drew1 | refine below_set ?_ GE768.out | refine below_set ?_ GE779.out | refine below_set ?_ GE784.out | refine below_set ?_ GE790.out) | exact HB.out)); (case side2 => exact Kd.R_tight rfl HO_791001.out); rintro e w98 ⟨rfl, hy0, hb, hkp⟩; refine ⟨_, rfl, ?_⟩; have n0_ := Aside0.mk (Kd.R_mono (ok' := fun k_ => some k_ ≠ (.slice Ao30 t798.length co30 : Value).ownBlock ∧ some k_ ≠ (.slice Ao37 t786.length co37 : Value).ownBlock) (Kd.R_keptB (HO_780001.out) hkp (fun k_ hk_ hs_ => (hk_.2) hs_)) (fun k_ hk_ => ⟨hk_.1.1, hk_.1.2⟩)); have n1_ := Aside0.mk (Kd.R_mono (ok' := fun k_ => some k_ ≠ (.slice Ao23 t775.length co23 : Value).ownBlock ∧ some k_ ≠ (.slice Ao37 t786.length co37 : Value).ownBlock) (Kd.R_keptB (HO_785001.out) hkp (fun k_ hk_ hs_ => (hk_.2) hs_)) (fun k_ hk_ => ⟨hk_.1.1, hk_.1.2⟩)); have n2_ := Aside0.mk (Kd.R_reok rfl hy0 (fun k_ e_ => HO_791001.out.1 k_ e_)); have n3_ := Aside0.mk (blk_kept (by (with_reducible repeat (first | refine blk_drewN ?_ _ | refine blk_drew ?_ | refine blk_alloc ?_ _)); exact BK768.out) hkp (fun hs_ => (fun e_ => (Kd.R_ne HO_791001.out BK768.out (by decide)) e_) hs_)); have n4_ := Aside0.mk (blk_kept (by (with_reducible repeat (first | refine blk_drewN ?_ _ | refine blk_drew ?_ | refine blk_alloc ?_ _)); exact BK779.out) hkp (fun hs_ => (fun e_ => (Kd.R_ne HO_791001.out BK779.out (by decide)) e_) hs_)); have n5_ := Aside0.mk (blk_kept (by (with_reducible repeat (first | refine blk_drewN ?_ _ | refine blk_drew ?_ | refine blk_alloc ?_ _)); exact BK784.out) hkp (fun hs_ => (fun e_ => (Kd.R_ne HO_791001.out BK784.out (by decide)) e_) hs_)); have n6_ := Aside0.mk (blk_kept (by (with_reducible repeat (first | refine blk_drewN ?_ _ | refine blk_drew ?_ | refine blk_alloc ?_ _)); exact BK790.out) hkp (fun hs_ => (fun e_ => (Kd.R_ne HO_791001.out BK790.out (by decide)) e_) hs_)); have n7_ := Aside0.mk (hb); clear HO_780001; clear HO_785001; clear HO_791001; clear BK768; clear BK779; clear BK784; clear BK790; clear HB; have HO_780001 := n0_; have HO_785001 := n1_; have HO_791001 := n2_; have BK768 := n3_; have BK779 := n4_; have BK784 := n5_; have BK790 := n6_; have HB := n7_; clear n0_ n1_ n2_ n3_ n4_ n5_ n6_ n7_; (try clear hb); (try clear hkp); (try clear hy0); have hcz99_0 : w98.cell? ⟨gb790, 0, none⟩ = some (.int .i64 t785) := (blk_cell BK790.out 0).trans rfl; have hcz99_1 : w98.cell? ⟨gb790, 1, none⟩ = some (.slice Ao37 t786.length co37) := (blk_cell BK790.out 1).trans rfl; have hfz99_0 := blk_frozen BK790.out 0; have hfz99_1 := blk_frozen BK790.out 1) | ((with_reducible refine gate_callee (f := 29) rfl ?_); refine goesL_ (some 71) rfl rfl Try.func29 (by kernel_rfl) rfl #[.agg #[.int .i64 t785, .slice Ao37 t801.length co37], .int .i64 1] rfl (by (try simp only [List.map_toArray, List.map_cons, List.map_nil]); first | done | (rw [show t801.length = t786.length from (Kd.R_reads' HO_791001.out).1.symm] <;> rfl) | rfl | (simp only [List.length_drop, List.length_take]; rfl)) ?_; (with_reducible refine (laws_heldCounter.calls kj60 t785 _ _ t801 1 t802 _ ?side1 ?side2 A92.out).mono ?_); (case side1 => repeat (first | exact (Kd.R_reads' HO_791001.out).2.2 | (with_reducible refine Kd.C_alloc ?_ _) | (with_reducible refine Kd.C_drewN ?_ _) | (with_reducible refine Kd.C_drew ?_))); (case side2 => rw [show t801.length = t786.length from (Kd.R_reads' HO_791001.out).1.symm]; exact (Kd.R_reads' HO_791001.out).2.1); rintro e w100 ⟨rfl, hb⟩; refine ⟨_, rfl, ?_⟩; have n0_ := Aside0.mk (Kd.R_below (by (with_reducible repeat (first | apply Kd.R_alloc | apply Kd.R_drewN | apply Kd.R_drew)); exact HO_780001.out) hb); have n1_ := Aside0.mk (Kd.R_below (by (with_reducible repeat (first | apply Kd.R_alloc | apply Kd.R_drewN | apply Kd.R_drew)); exact HO_785001.out) hb); have n2_ := Aside0.mk (Kd.R_below (by (with_reducible repeat (first | apply Kd.R_alloc | apply Kd.R_drewN | apply Kd.R_drew)); exact HO_791001.out) hb); have n3_ := Aside0.mk (blk_below (g := gb768) (o := .cells #[.int .i64 a0_0, .slice A0_1 l0_1.length c0_1] 37 (0, 0)) (by (with_reducible repeat (first | refine blk_drewN ?_ _ | refine blk_drew ?_ | refine blk_alloc ?_ _)); exact BK768.out) hb); have n4_ := Aside0.mk (blk_below (g := gb779) (o := .cells #[.int .i64 t774, .slice Ao23 t775.length co23] 26 (0, 0)) (by (with_reducible repeat (first | refine blk_drewN ?_ _ | refine blk_drew ?_ | refine blk_alloc ?_ _)); exact BK779.out) hb); have n5_ := Aside0.mk (blk_below (g := gb784) (o := .cells #[.int .i64 t780, .slice Ao30 t798.length co30] 26 (0, 0)) (by (with_reducible repeat (first | refine blk_drewN ?_ _ | refine blk_drew ?_ | refine blk_alloc ?_ _)); exact BK784.out) hb); have n6_ := Aside0.mk (blk_below (g := gb790) (o := .cells #[.int .i64 t785, .slice Ao37 t786.length co37] 26 (0, 0)) (by (with_reducible repeat (first | refine blk_drewN ?_ _ | refine blk_drew ?_ | refine blk_alloc ?_ _)); exact BK790.out) hb); have n7_ := Aside0.mk (below_step (by repeat (first | (with_reducible first | exact HB.out | apply below_alloc | apply pw_below_drewN | apply below_drew1 | refine below_set ?_ GE768.out | refine below_set ?_ GE779.out | refine below_set ?_ GE784.out | refine below_set ?_ GE790.out) | exact HB.out)) hb); clear HO_780001; clear HO_785001; clear HO_791001; clear BK768; clear BK779; clear BK784; clear BK790; clear HB; have HO_780001 := n0_; have HO_785001 := n1_; have HO_791001 := n2_; have BK768 := n3_; have BK779 := n4_; have BK784 := n5_; have BK790 := n6_; have HB := n7_; clear n0_ n1_ n2_ n3_ n4_ n5_ n6_ n7_; (try clear hb); (try clear hb2); (try clear hk); (try clear hi)))
                    go_ret
                    exact ⟨by first | rfl | (simp [errW_none, errW_some] <;> rfl) | (simp [*, errW_none, errW_some] <;> rfl), by repeat (first | (with_reducible first | exact HB.out | apply below_alloc | apply pw_below_drewN | apply below_drew1 | refine below_set ?_ GE768.out | refine below_set ?_ GE779.out | refine below_set ?_ GE784.out | refine below_set ?_ GE790.out) | exact HB.out)⟩
                  · rw [if_neg c93] at H
                    have c93b0 : decide (t802 < 0) = false := decide_eq_false c93
                    clear c93
                    by_cases c101 : t802 = t800
                    · rw [if_pos c101] at H
                      have c101b0 : (t802 == t800) = true := beq_iff_eq.mpr c101
                      have c101b1 : (t802 != t800) = false := bne_eq_false_iff_eq.mpr c101
                      clear c101
                      replace H := Option.bind_eq_some_iff.mp H
                      obtain ⟨⟨t803, t804⟩, A1020, H⟩ := H
                      replace H : ((impl_MendCounter.f kj60 t803 t804 a1).bind fun bt807 => ((laws_eqCounter.f kj60 bt807.1 bt807.2.1 t774 t775).bind fun t813 => (if t813 = true then (laws_FnExactMendCounter.j2 kj60 t800 (bt807.2.2 != t778) t785 t801) else (laws_FnExactMendCounter.j2 kj60 t800 true t785 t801)))) = some r := H
                      have A102 := Aside0.mk A1020
                      clear A1020
                      replace H := Option.bind_eq_some_iff.mp H
                      obtain ⟨⟨t807, t808, t811⟩, A1030, H⟩ := H
                      replace H : ((laws_eqCounter.f kj60 t807 t808 t774 t775).bind fun t813 => (if t813 = true then (laws_FnExactMendCounter.j2 kj60 t800 (t811 != t778) t785 t801) else (laws_FnExactMendCounter.j2 kj60 t800 true t785 t801))) = some r := H
                      have A103 := Aside0.mk A1030
                      clear A1030
                      have HC104 := Aside0.mk H
                      clear H
                      have hnb105 := NB790_768.out
                      have hnc105 := NB768_790.out
                      have hnb106 := NB790_779.out
                      have hnc106 := NB779_790.out
                      have hnb107 := NB790_784.out
                      have hnc107 := NB784_790.out
                      have hcz108_0 : wc.cell? ⟨gb790, 0, none⟩ = some (.int .i64 t785) := (blk_cell BK790.out 0).trans rfl
                      have hcz108_1 : wc.cell? ⟨gb790, 1, none⟩ = some (.slice Ao37 t786.length co37) := (blk_cell BK790.out 1).trans rfl
                      have hfz108_0 := blk_frozen BK790.out 0
                      have hfz108_1 := blk_frozen BK790.out 1
                      go_upto_region 25 with (first | ((with_reducible refine gate_callee (f := 28) rfl ?_); refine goesL_ (some 68) rfl rfl Try.func28 (by kernel_rfl) rfl #[.agg #[.int .i64 t785, .slice Ao37 t786.length co37], .int .i64 1] rfl (by (try simp only [List.map_toArray, List.map_cons, List.map_nil]); first | done | rfl | (simp only [List.length_drop, List.length_take]; rfl)) ?_; (with_reducible refine (laws_markCounter.calls kj60 t785 (fun k_ => some k_ = (.slice Ao37 t786.length co37 : Value).ownBlock) (.slice Ao37 t786.length co37) t786 1 t800 t801 w _ ?side1 ?side2 A91.out).mono ?_); (case side1 => repeat (first | (with_reducible first | exact HB.out | apply below_alloc | apply pw_below_drewN | apply below_drew1 | refine below_set ?_ GE768.out | refine below_set ?_ GE779.out | refine below_set ?_ GE784.out | refine below_set ?_ GE790.out) | exact HB.out)); (case side2 => exact Kd.R_tight rfl HO_791001.out); rintro e w109 ⟨rfl, hy0, hb, hkp⟩; refine ⟨_, rfl, ?_⟩; have n0_ := Aside0.mk (Kd.R_mono (ok' := fun k_ => some k_ ≠ (.slice Ao30 t798.length co30 : Value).ownBlock ∧ some k_ ≠ (.slice Ao37 t786.length co37 : Value).ownBlock) (Kd.R_keptB (HO_780001.out) hkp (fun k_ hk_ hs_ => (hk_.2) hs_)) (fun k_ hk_ => ⟨hk_.1.1, hk_.1.2⟩)); have n1_ := Aside0.mk (Kd.R_mono (ok' := fun k_ => some k_ ≠ (.slice Ao23 t775.length co23 : Value).ownBlock ∧ some k_ ≠ (.slice Ao37 t786.length co37 : Value).ownBlock) (Kd.R_keptB (HO_785001.out) hkp (fun k_ hk_ hs_ => (hk_.2) hs_)) (fun k_ hk_ => ⟨hk_.1.1, hk_.1.2⟩)); have n2_ := Aside0.mk (Kd.R_reok rfl hy0 (fun k_ e_ => HO_791001.out.1 k_ e_)); have n3_ := Aside0.mk (blk_kept (by (with_reducible repeat (first | refine blk_drewN ?_ _ | refine blk_drew ?_ | refine blk_alloc ?_ _)); exact BK768.out) hkp (fun hs_ => (fun e_ => (Kd.R_ne HO_791001.out BK768.out (by decide)) e_) hs_)); have n4_ := Aside0.mk (blk_kept (by (with_reducible repeat (first | refine blk_drewN ?_ _ | refine blk_drew ?_ | refine blk_alloc ?_ _)); exact BK779.out) hkp (fun hs_ => (fun e_ => (Kd.R_ne HO_791001.out BK779.out (by decide)) e_) hs_)); have n5_ := Aside0.mk (blk_kept (by (with_reducible repeat (first | refine blk_drewN ?_ _ | refine blk_drew ?_ | refine blk_alloc ?_ _)); exact BK784.out) hkp (fun hs_ => (fun e_ => (Kd.R_ne HO_791001.out BK784.out (by decide)) e_) hs_)); have n6_ := Aside0.mk (blk_kept (by (with_reducible repeat (first | refine blk_drewN ?_ _ | refine blk_drew ?_ | refine blk_alloc ?_ _)); exact BK790.out) hkp (fun hs_ => (fun e_ => (Kd.R_ne HO_791001.out BK790.out (by decide)) e_) hs_)); have n7_ := Aside0.mk (hb); clear HO_780001; clear HO_785001; clear HO_791001; clear BK768; clear BK779; clear BK784; clear BK790; clear HB; have HO_780001 := n0_; have HO_785001 := n1_; have HO_791001 := n2_; have BK768 := n3_; have BK779 := n4_; have BK784 := n5_; have BK790 := n6_; have HB := n7_; clear n0_ n1_ n2_ n3_ n4_ n5_ n6_ n7_; (try clear hb); (try clear hkp); (try clear hy0); have hcz110_0 : w109.cell? ⟨gb790, 0, none⟩ = some (.int .i64 t785) := (blk_cell BK790.out 0).trans rfl; have hcz110_1 : w109.cell? ⟨gb790, 1, none⟩ = some (.slice Ao37 t786.length co37) := (blk_cell BK790.out 1).trans rfl; have hfz110_0 := blk_frozen BK790.out 0; have hfz110_1 := blk_frozen BK790.out 1) | ((with_reducible refine gate_callee (f := 29) rfl ?_); refine goesL_ (some 71) rfl rfl Try.func29 (by kernel_rfl) rfl #[.agg #[.int .i64 t785, .slice Ao37 t801.length co37], .int .i64 1] rfl (by (try simp only [List.map_toArray, List.map_cons, List.map_nil]); first | done | (rw [show t801.length = t786.length from (Kd.R_reads' HO_791001.out).1.symm] <;> rfl) | rfl | (simp only [List.length_drop, List.length_take]; rfl)) ?_; (with_reducible refine (laws_heldCounter.calls kj60 t785 _ _ t801 1 t802 _ ?side1 ?side2 A92.out).mono ?_); (case side1 => repeat (first | exact (Kd.R_reads' HO_791001.out).2.2 | (with_reducible refine Kd.C_alloc ?_ _) | (with_reducible refine Kd.C_drewN ?_ _) | (with_reducible refine Kd.C_drew ?_))); (case side2 => rw [show t801.length = t786.length from (Kd.R_reads' HO_791001.out).1.symm]; exact (Kd.R_reads' HO_791001.out).2.1); rintro e w111 ⟨rfl, hb⟩; refine ⟨_, rfl, ?_⟩; have n0_ := Aside0.mk (Kd.R_below (by (with_reducible repeat (first | apply Kd.R_alloc | apply Kd.R_drewN | apply Kd.R_drew)); exact HO_780001.out) hb); have n1_ := Aside0.mk (Kd.R_below (by (with_reducible repeat (first | apply Kd.R_alloc | apply Kd.R_drewN | apply Kd.R_drew)); exact HO_785001.out) hb); have n2_ := Aside0.mk (Kd.R_below (by (with_reducible repeat (first | apply Kd.R_alloc | apply Kd.R_drewN | apply Kd.R_drew)); exact HO_791001.out) hb); have n3_ := Aside0.mk (blk_below (g := gb768) (o := .cells #[.int .i64 a0_0, .slice A0_1 l0_1.length c0_1] 37 (0, 0)) (by (with_reducible repeat (first | refine blk_drewN ?_ _ | refine blk_drew ?_ | refine blk_alloc ?_ _)); exact BK768.out) hb); have n4_ := Aside0.mk (blk_below (g := gb779) (o := .cells #[.int .i64 t774, .slice Ao23 t775.length co23] 26 (0, 0)) (by (with_reducible repeat (first | refine blk_drewN ?_ _ | refine blk_drew ?_ | refine blk_alloc ?_ _)); exact BK779.out) hb); have n5_ := Aside0.mk (blk_below (g := gb784) (o := .cells #[.int .i64 t780, .slice Ao30 t798.length co30] 26 (0, 0)) (by (with_reducible repeat (first | refine blk_drewN ?_ _ | refine blk_drew ?_ | refine blk_alloc ?_ _)); exact BK784.out) hb); have n6_ := Aside0.mk (blk_below (g := gb790) (o := .cells #[.int .i64 t785, .slice Ao37 t786.length co37] 26 (0, 0)) (by (with_reducible repeat (first | refine blk_drewN ?_ _ | refine blk_drew ?_ | refine blk_alloc ?_ _)); exact BK790.out) hb); have n7_ := Aside0.mk (below_step (by repeat (first | (with_reducible first | exact HB.out | apply below_alloc | apply pw_below_drewN | apply below_drew1 | refine below_set ?_ GE768.out | refine below_set ?_ GE779.out | refine below_set ?_ GE784.out | refine below_set ?_ GE790.out) | exact HB.out)) hb); clear HO_780001; clear HO_785001; clear HO_791001; clear BK768; clear BK779; clear BK784; clear BK790; clear HB; have HO_780001 := n0_; have HO_785001 := n1_; have HO_791001 := n2_; have BK768 := n3_; have BK779 := n4_; have BK784 := n5_; have BK790 := n6_; have HB := n7_; clear n0_ n1_ n2_ n3_ n4_ n5_ n6_ n7_; (try clear hb); (try clear hb2); (try clear hk); (try clear hi); have hnb112 := NB768_779.out; have hnc112 := NB779_768.out; have hnb113 := NB768_784.out; have hnc113 := NB784_768.out; have hcz114_0 : w111.cell? ⟨gb768, 0, none⟩ = some (.int .i64 a0_0) := (blk_cell BK768.out 0).trans rfl; have hcz114_1 : w111.cell? ⟨gb768, 1, none⟩ = some (.slice A0_1 l0_1.length c0_1) := (blk_cell BK768.out 1).trans rfl; have hfz114_0 := blk_frozen BK768.out 0; have hfz114_1 := blk_frozen BK768.out 1) | ((with_reducible refine gate_callee (f := 24) rfl ?_); refine goesL_ (some 79) rfl rfl Try.func24 (by kernel_rfl) rfl #[.agg #[.int .i64 a0_0, .slice A0_1 l0_1.length c0_1]] rfl (by (try simp only [List.map_toArray, List.map_cons, List.map_nil]); first | done | rfl | (simp only [List.length_drop, List.length_take]; rfl)) ?_; (with_reducible refine (laws_toCounter.calls kj60 a0_0 _ _ l0_1 t803 t804 _ ?side1 ?side2 A102.out).mono ?_); (case side1 => repeat (first | exact (Kd.C_below HR0_1.out HB.out) | (with_reducible refine Kd.C_alloc ?_ _) | (with_reducible refine Kd.C_drewN ?_ _) | (with_reducible refine Kd.C_drew ?_))); (case side2 => exact HC0_1.out); rintro e w115 ⟨v805, rfl, ho0, hb⟩; refine ⟨_, rfl, ?_⟩; have n0_ := Aside0.mk (Kd.R_elder' (by (with_reducible repeat (first | apply Kd.R_alloc | apply Kd.R_drewN | apply Kd.R_drew)); exact HO_780001.out) (Kd.R_base ho0) hb); have n1_ := Aside0.mk (Kd.R_elder' (by (with_reducible repeat (first | apply Kd.R_alloc | apply Kd.R_drewN | apply Kd.R_drew)); exact HO_785001.out) (Kd.R_base ho0) hb); have n2_ := Aside0.mk (Kd.R_elder' (by (with_reducible repeat (first | apply Kd.R_alloc | apply Kd.R_drewN | apply Kd.R_drew)); exact HO_791001.out) (Kd.R_base ho0) hb); have n3_ := Aside0.mk (Kd.R_lower (Kd.R_new' (Kd.R_new' (Kd.R_new' ho0 (Kd.R_lt (by (with_reducible repeat (first | apply Kd.R_alloc | apply Kd.R_drewN | apply Kd.R_drew)); exact HO_780001.out))) (Kd.R_lt (by (with_reducible repeat (first | apply Kd.R_alloc | apply Kd.R_drewN | apply Kd.R_drew)); exact HO_785001.out))) (Kd.R_lt (by (with_reducible repeat (first | apply Kd.R_alloc | apply Kd.R_drewN | apply Kd.R_drew)); exact HO_791001.out))) (below_size (by repeat (first | (with_reducible first | exact HB.out | apply below_alloc | apply pw_below_drewN | apply below_drew1 | refine below_set ?_ GE768.out | refine below_set ?_ GE779.out | refine below_set ?_ GE784.out | refine below_set ?_ GE790.out) | exact HB.out)))); have n4_ := Aside0.mk (blk_below (g := gb768) (o := .cells #[.int .i64 a0_0, .slice A0_1 l0_1.length c0_1] 37 (0, 0)) (by (with_reducible repeat (first | refine blk_drewN ?_ _ | refine blk_drew ?_ | refine blk_alloc ?_ _)); exact BK768.out) hb); have n5_ := Aside0.mk (blk_below (g := gb779) (o := .cells #[.int .i64 t774, .slice Ao23 t775.length co23] 26 (0, 0)) (by (with_reducible repeat (first | refine blk_drewN ?_ _ | refine blk_drew ?_ | refine blk_alloc ?_ _)); exact BK779.out) hb); have n6_ := Aside0.mk (blk_below (g := gb784) (o := .cells #[.int .i64 t780, .slice Ao30 t798.length co30] 26 (0, 0)) (by (with_reducible repeat (first | refine blk_drewN ?_ _ | refine blk_drew ?_ | refine blk_alloc ?_ _)); exact BK784.out) hb); have n7_ := Aside0.mk (blk_below (g := gb790) (o := .cells #[.int .i64 t785, .slice Ao37 t786.length co37] 26 (0, 0)) (by (with_reducible repeat (first | refine blk_drewN ?_ _ | refine blk_drew ?_ | refine blk_alloc ?_ _)); exact BK790.out) hb); have n8_ := Aside0.mk (below_step (by repeat (first | (with_reducible first | exact HB.out | apply below_alloc | apply pw_below_drewN | apply below_drew1 | refine below_set ?_ GE768.out | refine below_set ?_ GE779.out | refine below_set ?_ GE784.out | refine below_set ?_ GE790.out) | exact HB.out)) hb); clear HO_780001; clear HO_785001; clear HO_791001; clear BK768; clear BK779; clear BK784; clear BK790; clear HB; have HO_780001 := n0_; have HO_785001 := n1_; have HO_791001 := n2_; have HO806 := n3_; have BK768 := n4_; have BK779 := n5_; have BK784 := n6_; have BK790 := n7_; have HB := n8_; clear n0_ n1_ n2_ n3_ n4_ n5_ n6_ n7_ n8_; (try clear hb); (try clear hb2); (try clear hk); (try clear hi); (try clear ho0); obtain ⟨Ao116, co116, eo116⟩ := Kd.R_slice HO806.out; subst eo116) | ((with_reducible refine gate_callee (f := 44) rfl ?_); refine goesL_ (some 81) rfl rfl Try.func44 (by kernel_rfl) rfl #[.agg #[.int .i64 t803, .slice Ao116 t804.length co116], .int .i64 a1] rfl (by (try simp only [List.map_toArray, List.map_cons, List.map_nil]); first | done | rfl | (simp only [List.length_drop, List.length_take]; rfl)) ?_; (with_reducible refine (impl_MendCounter.calls kj60 t803 _ _ t804 a1 t807 t808 t811 _ ?side1 ?side2 A103.out).mono ?_); (case side1 => repeat (first | exact (Kd.R_reads' HO806.out).2.2 | (with_reducible refine Kd.C_alloc ?_ _) | (with_reducible refine Kd.C_drewN ?_ _) | (with_reducible refine Kd.C_drew ?_))); (case side2 => exact (Kd.R_reads' HO806.out).2.1); rintro e w117 ⟨v809, rfl, ho0, hb⟩; refine ⟨_, rfl, ?_⟩; have n0_ := Aside0.mk (Kd.R_elder' (by (with_reducible repeat (first | apply Kd.R_alloc | apply Kd.R_drewN | apply Kd.R_drew)); exact HO_780001.out) (Kd.R_base ho0) hb); have n1_ := Aside0.mk (Kd.R_elder' (by (with_reducible repeat (first | apply Kd.R_alloc | apply Kd.R_drewN | apply Kd.R_drew)); exact HO_785001.out) (Kd.R_base ho0) hb); have n2_ := Aside0.mk (Kd.R_elder' (by (with_reducible repeat (first | apply Kd.R_alloc | apply Kd.R_drewN | apply Kd.R_drew)); exact HO_791001.out) (Kd.R_base ho0) hb); have n3_ := Aside0.mk (Kd.R_elder' (by (with_reducible repeat (first | apply Kd.R_alloc | apply Kd.R_drewN | apply Kd.R_drew)); exact HO806.out) (Kd.R_base ho0) hb); have n4_ := Aside0.mk (Kd.R_lower (Kd.R_new' (Kd.R_new' (Kd.R_new' (Kd.R_new' ho0 (Kd.R_lt (by (with_reducible repeat (first | apply Kd.R_alloc | apply Kd.R_drewN | apply Kd.R_drew)); exact HO_780001.out))) (Kd.R_lt (by (with_reducible repeat (first | apply Kd.R_alloc | apply Kd.R_drewN | apply Kd.R_drew)); exact HO_785001.out))) (Kd.R_lt (by (with_reducible repeat (first | apply Kd.R_alloc | apply Kd.R_drewN | apply Kd.R_drew)); exact HO_791001.out))) (Kd.R_lt (by (with_reducible repeat (first | apply Kd.R_alloc | apply Kd.R_drewN | apply Kd.R_drew)); exact HO806.out))) (below_size (by repeat (first | (with_reducible first | exact HB.out | apply below_alloc | apply pw_below_drewN | apply below_drew1 | refine below_set ?_ GE768.out | refine below_set ?_ GE779.out | refine below_set ?_ GE784.out | refine below_set ?_ GE790.out) | exact HB.out)))); have n5_ := Aside0.mk (blk_below (g := gb768) (o := .cells #[.int .i64 a0_0, .slice A0_1 l0_1.length c0_1] 37 (0, 0)) (by (with_reducible repeat (first | refine blk_drewN ?_ _ | refine blk_drew ?_ | refine blk_alloc ?_ _)); exact BK768.out) hb); have n6_ := Aside0.mk (blk_below (g := gb779) (o := .cells #[.int .i64 t774, .slice Ao23 t775.length co23] 26 (0, 0)) (by (with_reducible repeat (first | refine blk_drewN ?_ _ | refine blk_drew ?_ | refine blk_alloc ?_ _)); exact BK779.out) hb); have n7_ := Aside0.mk (blk_below (g := gb784) (o := .cells #[.int .i64 t780, .slice Ao30 t798.length co30] 26 (0, 0)) (by (with_reducible repeat (first | refine blk_drewN ?_ _ | refine blk_drew ?_ | refine blk_alloc ?_ _)); exact BK784.out) hb); have n8_ := Aside0.mk (blk_below (g := gb790) (o := .cells #[.int .i64 t785, .slice Ao37 t786.length co37] 26 (0, 0)) (by (with_reducible repeat (first | refine blk_drewN ?_ _ | refine blk_drew ?_ | refine blk_alloc ?_ _)); exact BK790.out) hb); have n9_ := Aside0.mk (below_step (by repeat (first | (with_reducible first | exact HB.out | apply below_alloc | apply pw_below_drewN | apply below_drew1 | refine below_set ?_ GE768.out | refine below_set ?_ GE779.out | refine below_set ?_ GE784.out | refine below_set ?_ GE790.out) | exact HB.out)) hb); clear HO_780001; clear HO_785001; clear HO_791001; clear HO806; clear BK768; clear BK779; clear BK784; clear BK790; clear HB; have HO_780001 := n0_; have HO_785001 := n1_; have HO_791001 := n2_; have HO806 := n3_; have HO810 := n4_; have BK768 := n5_; have BK779 := n6_; have BK784 := n7_; have BK790 := n8_; have HB := n9_; clear n0_ n1_ n2_ n3_ n4_ n5_ n6_ n7_ n8_ n9_; (try clear hb); (try clear hb2); (try clear hk); (try clear hi); (try clear ho0)) | ((with_reducible refine gate_dst (N := 14) rfl ?_); refine box_event ?hg (N := 14) ?hd (cs := #[.int .i64 0, .slice none 0 0]) (t := 26) ?hr ?_; (case hd => rfl); (case hg => rfl); (case hr => first | (go_simp; done) | (go_simp; rfl)); intro gb812 hg w118 hbox hb; have n0_ := Aside0.mk (Kd.R_below (by (with_reducible repeat (first | apply Kd.R_alloc | apply Kd.R_drewN | apply Kd.R_drew)); exact HO_780001.out) hb); have n1_ := Aside0.mk (Kd.R_below (by (with_reducible repeat (first | apply Kd.R_alloc | apply Kd.R_drewN | apply Kd.R_drew)); exact HO_785001.out) hb); have n2_ := Aside0.mk (Kd.R_below (by (with_reducible repeat (first | apply Kd.R_alloc | apply Kd.R_drewN | apply Kd.R_drew)); exact HO_791001.out) hb); have n3_ := Aside0.mk (Kd.R_below (by (with_reducible repeat (first | apply Kd.R_alloc | apply Kd.R_drewN | apply Kd.R_drew)); exact HO806.out) hb); have n4_ := Aside0.mk (Kd.R_below (by (with_reducible repeat (first | apply Kd.R_alloc | apply Kd.R_drewN | apply Kd.R_drew)); exact HO810.out) hb); have n5_ := Aside0.mk (blk_below (g := gb768) (o := .cells #[.int .i64 a0_0, .slice A0_1 l0_1.length c0_1] 37 (0, 0)) (by (with_reducible repeat (first | refine blk_drewN ?_ _ | refine blk_drew ?_ | refine blk_alloc ?_ _)); exact BK768.out) hb); have n6_ := Aside0.mk (blk_below (g := gb779) (o := .cells #[.int .i64 t774, .slice Ao23 t775.length co23] 26 (0, 0)) (by (with_reducible repeat (first | refine blk_drewN ?_ _ | refine blk_drew ?_ | refine blk_alloc ?_ _)); exact BK779.out) hb); have n7_ := Aside0.mk (blk_below (g := gb784) (o := .cells #[.int .i64 t780, .slice Ao30 t798.length co30] 26 (0, 0)) (by (with_reducible repeat (first | refine blk_drewN ?_ _ | refine blk_drew ?_ | refine blk_alloc ?_ _)); exact BK784.out) hb); have n8_ := Aside0.mk (blk_below (g := gb790) (o := .cells #[.int .i64 t785, .slice Ao37 t786.length co37] 26 (0, 0)) (by (with_reducible repeat (first | refine blk_drewN ?_ _ | refine blk_drew ?_ | refine blk_alloc ?_ _)); exact BK790.out) hb); have n9_ := Aside0.mk (below_step (by repeat (first | (with_reducible first | exact HB.out | apply below_alloc | apply pw_below_drewN | apply below_drew1 | refine below_set ?_ GE768.out | refine below_set ?_ GE779.out | refine below_set ?_ GE784.out | refine below_set ?_ GE790.out) | exact HB.out)) hb); have n10_ := Aside0.mk (hbox); have n11_ := Aside0.mk ((by rw [hg]; exact (below_size (by repeat (first | (with_reducible first | exact HB.out | apply below_alloc | apply pw_below_drewN | apply below_drew1 | refine below_set ?_ GE768.out | refine below_set ?_ GE779.out | refine below_set ?_ GE784.out | refine below_set ?_ GE790.out) | exact HB.out))) : w.heap.size ≤ gb812)); have n12_ := Aside0.mk ((by rw [hg]; exact (below_size (by repeat (first | (with_reducible first | exact HB.out | apply below_alloc | apply pw_below_drewN | apply below_drew1 | refine below_set ?_ GE768.out | refine below_set ?_ GE779.out | refine below_set ?_ GE784.out | refine below_set ?_ GE790.out) | exact HB.out))) : w.heap.size ≤ gb812)); have n13_ := Aside0.mk ((by rw [hg]; exact Nat.ne_of_lt (blk_lt (g := gb768) (o := .cells #[.int .i64 a0_0, .slice A0_1 l0_1.length c0_1] 37 (0, 0)) (by (with_reducible repeat (first | refine blk_drewN ?_ _ | refine blk_drew ?_ | refine blk_alloc ?_ _)); exact BK768.out)) : gb768 ≠ gb812)); have n14_ := Aside0.mk ((by rw [hg]; exact Nat.ne_of_gt (blk_lt (g := gb768) (o := .cells #[.int .i64 a0_0, .slice A0_1 l0_1.length c0_1] 37 (0, 0)) (by (with_reducible repeat (first | refine blk_drewN ?_ _ | refine blk_drew ?_ | refine blk_alloc ?_ _)); exact BK768.out)) : gb812 ≠ gb768)); have n15_ := Aside0.mk ((by rw [hg]; exact Nat.ne_of_lt (blk_lt (g := gb779) (o := .cells #[.int .i64 t774, .slice Ao23 t775.length co23] 26 (0, 0)) (by (with_reducible repeat (first | refine blk_drewN ?_ _ | refine blk_drew ?_ | refine blk_alloc ?_ _)); exact BK779.out)) : gb779 ≠ gb812)); have n16_ := Aside0.mk ((by rw [hg]; exact Nat.ne_of_gt (blk_lt (g := gb779) (o := .cells #[.int .i64 t774, .slice Ao23 t775.length co23] 26 (0, 0)) (by (with_reducible repeat (first | refine blk_drewN ?_ _ | refine blk_drew ?_ | refine blk_alloc ?_ _)); exact BK779.out)) : gb812 ≠ gb779)); have n17_ := Aside0.mk ((by rw [hg]; exact Nat.ne_of_lt (blk_lt (g := gb784) (o := .cells #[.int .i64 t780, .slice Ao30 t798.length co30] 26 (0, 0)) (by (with_reducible repeat (first | refine blk_drewN ?_ _ | refine blk_drew ?_ | refine blk_alloc ?_ _)); exact BK784.out)) : gb784 ≠ gb812)); have n18_ := Aside0.mk ((by rw [hg]; exact Nat.ne_of_gt (blk_lt (g := gb784) (o := .cells #[.int .i64 t780, .slice Ao30 t798.length co30] 26 (0, 0)) (by (with_reducible repeat (first | refine blk_drewN ?_ _ | refine blk_drew ?_ | refine blk_alloc ?_ _)); exact BK784.out)) : gb812 ≠ gb784)); have n19_ := Aside0.mk ((by rw [hg]; exact Nat.ne_of_lt (blk_lt (g := gb790) (o := .cells #[.int .i64 t785, .slice Ao37 t786.length co37] 26 (0, 0)) (by (with_reducible repeat (first | refine blk_drewN ?_ _ | refine blk_drew ?_ | refine blk_alloc ?_ _)); exact BK790.out)) : gb790 ≠ gb812)); have n20_ := Aside0.mk ((by rw [hg]; exact Nat.ne_of_gt (blk_lt (g := gb790) (o := .cells #[.int .i64 t785, .slice Ao37 t786.length co37] 26 (0, 0)) (by (with_reducible repeat (first | refine blk_drewN ?_ _ | refine blk_drew ?_ | refine blk_alloc ?_ _)); exact BK790.out)) : gb812 ≠ gb790)); clear HO_780001; clear HO_785001; clear HO_791001; clear HO806; clear HO810; clear BK768; clear BK779; clear BK784; clear BK790; clear HB; have HO_780001 := n0_; have HO_785001 := n1_; have HO_791001 := n2_; have HO806 := n3_; have HO810 := n4_; have BK768 := n5_; have BK779 := n6_; have BK784 := n7_; have BK790 := n8_; have HB := n9_; have BK812 := n10_; have GW812 := n11_; have GE812 := n12_; have NB768_812 := n13_; have NB812_768 := n14_; have NB779_812 := n15_; have NB812_779 := n16_; have NB784_812 := n17_; have NB812_784 := n18_; have NB790_812 := n19_; have NB812_790 := n20_; clear n0_ n1_ n2_ n3_ n4_ n5_ n6_ n7_ n8_ n9_ n10_ n11_ n12_ n13_ n14_ n15_ n16_ n17_ n18_ n19_ n20_; clear hb hbox hg; have hnb119 := NB812_768.out; have hnc119 := NB768_812.out; have hnb120 := NB812_779.out; have hnc120 := NB779_812.out; have hnb121 := NB812_784.out; have hnc121 := NB784_812.out; have hnb122 := NB812_790.out; have hnc122 := NB790_812.out; have hcz123_0 : w118.cell? ⟨gb812, 0, none⟩ = some (.int .i64 0) := (blk_cell BK812.out 0).trans rfl; have hcz123_1 : w118.cell? ⟨gb812, 1, none⟩ = some (.slice none 0 0) := (blk_cell BK812.out 1).trans rfl; have hfz123_0 := blk_frozen BK812.out 0; have hfz123_1 := blk_frozen BK812.out 1; obtain ⟨Ao124, co124, eo124⟩ := Kd.R_slice HO810.out; subst eo124))
                      (try simp only [Act.put, List.setIfInBounds_toArray, List.set_cons_zero, List.set_cons_succ])
                      go_cut [92] (fun v92 wc => ∃ (kq : Nat) (x92_103 : Bool), v92 = .bool x92_103 ∧ Aside0 (laws_FnExactMendCounter.j2 kq t800 x92_103 t785 t801 = some r) ∧ Aside0 (kq ≤ kj60) ∧ Aside0 (Kd.R (Kd.int .i64) 2 wc w.heap.size (fun k_ => some k_ ≠ ((.slice Ao30 t798.length co30) : Value).ownBlock ∧ some k_ ≠ ((.slice Ao37 t786.length co37) : Value).ownBlock ∧ some k_ ≠ ((.slice Ao124 t808.length co124) : Value).ownBlock) (.slice Ao23 t775.length co23) t775) ∧ Aside0 (Kd.R (Kd.int .i64) 2 wc w.heap.size (fun k_ => some k_ ≠ ((.slice Ao23 t775.length co23) : Value).ownBlock ∧ some k_ ≠ ((.slice Ao37 t786.length co37) : Value).ownBlock ∧ some k_ ≠ ((.slice Ao124 t808.length co124) : Value).ownBlock) (.slice Ao30 t798.length co30) t798) ∧ Aside0 (Kd.R (Kd.int .i64) 2 wc w.heap.size (fun k_ => some k_ ≠ ((.slice Ao23 t775.length co23) : Value).ownBlock ∧ some k_ ≠ ((.slice Ao30 t798.length co30) : Value).ownBlock ∧ some k_ ≠ ((.slice Ao124 t808.length co124) : Value).ownBlock) (.slice Ao37 t786.length co37) t801) ∧ Aside0 (Kd.R (Kd.int .i64) 2 wc w.heap.size (fun k_ => some k_ ≠ ((.slice Ao23 t775.length co23) : Value).ownBlock ∧ some k_ ≠ ((.slice Ao30 t798.length co30) : Value).ownBlock ∧ some k_ ≠ ((.slice Ao37 t786.length co37) : Value).ownBlock) (.slice Ao124 t808.length co124) t808) ∧ Aside0 (wc.heap[gb768]? = some (.cells #[.int .i64 a0_0, (.slice A0_1 l0_1.length c0_1)] 37 (0, 0))) ∧ Aside0 (wc.heap[gb779]? = some (.cells #[.int .i64 t774, (.slice Ao23 t775.length co23)] 26 (0, 0))) ∧ Aside0 (wc.heap[gb784]? = some (.cells #[.int .i64 t780, (.slice Ao30 t798.length co30)] 26 (0, 0))) ∧ Aside0 (wc.heap[gb790]? = some (.cells #[.int .i64 t785, (.slice Ao37 t786.length co37)] 26 (0, 0))) ∧ Aside0 (wc.heap[gb812]? = some (.cells #[.int .i64 t807, (.slice Ao124 t808.length co124)] 26 (0, 0))) ∧ Aside0 (Below w.heap.size w wc))
                      case first =>
                        have H := HC104.out
                        clear HC104
                        replace H := Option.bind_eq_some_iff.mp H
                        obtain ⟨t813, A1250, H⟩ := H
                        replace H : (if t813 = true then (laws_FnExactMendCounter.j2 kj60 t800 (t811 != t778) t785 t801) else (laws_FnExactMendCounter.j2 kj60 t800 true t785 t801)) = some r := H
                        have A125 := Aside0.mk A1250
                        clear A1250
                        by_cases c126 : t813 = true
                        · subst c126
                          have H1 : (laws_FnExactMendCounter.j2 kj60 t800 (t811 != t778) t785 t801) = some r := by rw [if_pos rfl] at H; exact H
                          clear H
                          have H := H1
                          clear H1
                          have H' := Aside0.mk H
                          clear H
                          have hnb127 := NB812_768.out
                          have hnc127 := NB768_812.out
                          have hnb128 := NB812_779.out
                          have hnc128 := NB779_812.out
                          have hnb129 := NB812_784.out
                          have hnc129 := NB784_812.out
                          have hnb130 := NB812_790.out
                          have hnc130 := NB790_812.out
                          have hcz131_0 : w118.cell? ⟨gb812, 0, none⟩ = some (.int .i64 0) := (blk_cell BK812.out 0).trans rfl
                          have hcz131_1 : w118.cell? ⟨gb812, 1, none⟩ = some (.slice none 0 0) := (blk_cell BK812.out 1).trans rfl
                          have hfz131_0 := blk_frozen BK812.out 0
                          have hfz131_1 := blk_frozen BK812.out 1
                          have hnb132 := NB779_768.out
                          have hnc132 := NB768_779.out
                          have hnb133 := NB779_784.out
                          have hnc133 := NB784_779.out
                          have hnb134 := NB779_790.out
                          have hnc134 := NB790_779.out
                          have hcz135_0 : w118.cell? ⟨gb779, 0, none⟩ = some (.int .i64 t774) := (blk_cell BK779.out 0).trans rfl
                          have hcz135_1 : w118.cell? ⟨gb779, 1, none⟩ = some (.slice Ao23 t775.length co23) := (blk_cell BK779.out 1).trans rfl
                          have hfz135_0 := blk_frozen BK779.out 0
                          have hfz135_1 := blk_frozen BK779.out 1
                          go_wp2_with (first | ((with_reducible refine gate_callee (f := 25) rfl ?_); refine goesL_ (some 86) rfl rfl Try.func25 (by kernel_rfl) rfl #[.agg #[.int .i64 t807, .slice Ao124 t808.length co124], .agg #[.int .i64 t774, .slice Ao23 t775.length co23]] rfl (by (try simp only [List.map_toArray, List.map_cons, List.map_nil]); first | done | rfl | (simp only [List.length_drop, List.length_take]; rfl)) ?_; (with_reducible refine (laws_eqCounter.calls kj60 t807 _ _ t808 t774 _ _ t775 true _ ?side1 ?side2 ?side3 ?side4 A125.out).mono ?_); (case side1 => refine (Kd.R_reads' (e := 2) (base := w.heap.size) (ok := fun k_ => ((((True ∧ some k_ ≠ (.slice Ao23 t775.length co23 : Value).ownBlock) ∧ some k_ ≠ (.slice Ao30 t798.length co30 : Value).ownBlock) ∧ some k_ ≠ (.slice Ao37 t786.length co37 : Value).ownBlock) ∧ some k_ ≠ (.slice Ao116 t804.length co116 : Value).ownBlock)) (n := t808.length) (c := co124) ?_).2.2; exact (by (with_reducible repeat (first | apply Kd.R_alloc | apply Kd.R_drewN | apply Kd.R_drew)); exact (Kd.R_mono (Kd.R_far (p := ⟨gb812, 1, none⟩) (Kd.R_far (p := ⟨gb812, 0, none⟩) (Kd.R_types HO810.out BK812.out (by decide)) (fun _ hk => hk.2) (.int .i64 t807)) (fun _ hk => hk.2) (.slice Ao124 t808.length co124)) (fun _ h_ => h_.1)))); (case side2 => exact (Kd.R_reads' HO810.out).2.1); (case side3 => refine (Kd.R_reads' (e := 2) (base := w.heap.size) (ok := fun k_ => (((some k_ ≠ (.slice Ao30 t798.length co30 : Value).ownBlock ∧ some k_ ≠ (.slice Ao37 t786.length co37 : Value).ownBlock) ∧ some k_ ≠ (.slice Ao116 t804.length co116 : Value).ownBlock) ∧ some k_ ≠ (.slice Ao124 t808.length co124 : Value).ownBlock)) (n := t775.length) (c := co23) ?_).2.2; exact (by (with_reducible repeat (first | apply Kd.R_alloc | apply Kd.R_drewN | apply Kd.R_drew)); exact (Kd.R_mono (Kd.R_far (p := ⟨gb812, 1, none⟩) (Kd.R_far (p := ⟨gb812, 0, none⟩) (Kd.R_types HO_780001.out BK812.out (by decide)) (fun _ hk => hk.2) (.int .i64 t807)) (fun _ hk => hk.2) (.slice Ao124 t808.length co124)) (fun _ h_ => h_.1)))); (case side4 => exact (Kd.R_reads' HO_780001.out).2.1); rintro e w136 ⟨rfl, hb⟩; refine ⟨_, rfl, ?_⟩; have n0_ := Aside0.mk (Kd.R_below (by (with_reducible repeat (first | apply Kd.R_alloc | apply Kd.R_drewN | apply Kd.R_drew)); exact (Kd.R_mono (Kd.R_far (p := ⟨gb812, 1, none⟩) (Kd.R_far (p := ⟨gb812, 0, none⟩) (Kd.R_types HO_780001.out BK812.out (by decide)) (fun _ hk => hk.2) (.int .i64 t807)) (fun _ hk => hk.2) (.slice Ao124 t808.length co124)) (fun _ h_ => h_.1))) hb); have n1_ := Aside0.mk (Kd.R_below (by (with_reducible repeat (first | apply Kd.R_alloc | apply Kd.R_drewN | apply Kd.R_drew)); exact (Kd.R_mono (Kd.R_far (p := ⟨gb812, 1, none⟩) (Kd.R_far (p := ⟨gb812, 0, none⟩) (Kd.R_types HO_785001.out BK812.out (by decide)) (fun _ hk => hk.2) (.int .i64 t807)) (fun _ hk => hk.2) (.slice Ao124 t808.length co124)) (fun _ h_ => h_.1))) hb); have n2_ := Aside0.mk (Kd.R_below (by (with_reducible repeat (first | apply Kd.R_alloc | apply Kd.R_drewN | apply Kd.R_drew)); exact (Kd.R_mono (Kd.R_far (p := ⟨gb812, 1, none⟩) (Kd.R_far (p := ⟨gb812, 0, none⟩) (Kd.R_types HO_791001.out BK812.out (by decide)) (fun _ hk => hk.2) (.int .i64 t807)) (fun _ hk => hk.2) (.slice Ao124 t808.length co124)) (fun _ h_ => h_.1))) hb); have n3_ := Aside0.mk (Kd.R_below (by (with_reducible repeat (first | apply Kd.R_alloc | apply Kd.R_drewN | apply Kd.R_drew)); exact (Kd.R_mono (Kd.R_far (p := ⟨gb812, 1, none⟩) (Kd.R_far (p := ⟨gb812, 0, none⟩) (Kd.R_types HO806.out BK812.out (by decide)) (fun _ hk => hk.2) (.int .i64 t807)) (fun _ hk => hk.2) (.slice Ao124 t808.length co124)) (fun _ h_ => h_.1))) hb); have n4_ := Aside0.mk (Kd.R_below (by (with_reducible repeat (first | apply Kd.R_alloc | apply Kd.R_drewN | apply Kd.R_drew)); exact (Kd.R_mono (Kd.R_far (p := ⟨gb812, 1, none⟩) (Kd.R_far (p := ⟨gb812, 0, none⟩) (Kd.R_types HO810.out BK812.out (by decide)) (fun _ hk => hk.2) (.int .i64 t807)) (fun _ hk => hk.2) (.slice Ao124 t808.length co124)) (fun _ h_ => h_.1))) hb); have n5_ := Aside0.mk (blk_below (g := gb768) (o := .cells #[.int .i64 a0_0, .slice A0_1 l0_1.length c0_1] 37 (0, 0)) (by (with_reducible repeat (first | refine blk_drewN ?_ _ | refine blk_drew ?_ | refine blk_alloc ?_ _)); refine blk_far ?_ NB768_812.out _; (with_reducible repeat (first | refine blk_drewN ?_ _ | refine blk_drew ?_ | refine blk_alloc ?_ _)); refine blk_far ?_ NB768_812.out _; (with_reducible repeat (first | refine blk_drewN ?_ _ | refine blk_drew ?_ | refine blk_alloc ?_ _)); exact BK768.out) hb); have n6_ := Aside0.mk (blk_below (g := gb779) (o := .cells #[.int .i64 t774, .slice Ao23 t775.length co23] 26 (0, 0)) (by (with_reducible repeat (first | refine blk_drewN ?_ _ | refine blk_drew ?_ | refine blk_alloc ?_ _)); refine blk_far ?_ NB779_812.out _; (with_reducible repeat (first | refine blk_drewN ?_ _ | refine blk_drew ?_ | refine blk_alloc ?_ _)); refine blk_far ?_ NB779_812.out _; (with_reducible repeat (first | refine blk_drewN ?_ _ | refine blk_drew ?_ | refine blk_alloc ?_ _)); exact BK779.out) hb); have n7_ := Aside0.mk (blk_below (g := gb784) (o := .cells #[.int .i64 t780, .slice Ao30 t798.length co30] 26 (0, 0)) (by (with_reducible repeat (first | refine blk_drewN ?_ _ | refine blk_drew ?_ | refine blk_alloc ?_ _)); refine blk_far ?_ NB784_812.out _; (with_reducible repeat (first | refine blk_drewN ?_ _ | refine blk_drew ?_ | refine blk_alloc ?_ _)); refine blk_far ?_ NB784_812.out _; (with_reducible repeat (first | refine blk_drewN ?_ _ | refine blk_drew ?_ | refine blk_alloc ?_ _)); exact BK784.out) hb); have n8_ := Aside0.mk (blk_below (g := gb790) (o := .cells #[.int .i64 t785, .slice Ao37 t786.length co37] 26 (0, 0)) (by (with_reducible repeat (first | refine blk_drewN ?_ _ | refine blk_drew ?_ | refine blk_alloc ?_ _)); refine blk_far ?_ NB790_812.out _; (with_reducible repeat (first | refine blk_drewN ?_ _ | refine blk_drew ?_ | refine blk_alloc ?_ _)); refine blk_far ?_ NB790_812.out _; (with_reducible repeat (first | refine blk_drewN ?_ _ | refine blk_drew ?_ | refine blk_alloc ?_ _)); exact BK790.out) hb); have n9_ := Aside0.mk (blk_below (g := gb812) (o := .cells #[.int .i64 t807, .slice Ao124 t808.length co124] 26 (0, 0)) (by (with_reducible repeat (first | refine blk_drewN ?_ _ | refine blk_drew ?_ | refine blk_alloc ?_ _)); refine blk_put (cs := #[.int .i64 t807, .slice none 0 0]) ?_ 1 _ rfl; (with_reducible repeat (first | refine blk_drewN ?_ _ | refine blk_drew ?_ | refine blk_alloc ?_ _)); refine blk_put (cs := #[.int .i64 0, .slice none 0 0]) ?_ 0 _ rfl; (with_reducible repeat (first | refine blk_drewN ?_ _ | refine blk_drew ?_ | refine blk_alloc ?_ _)); exact BK812.out) hb); have n10_ := Aside0.mk (below_step (by repeat (first | (with_reducible first | exact HB.out | apply below_alloc | apply pw_below_drewN | apply below_drew1 | refine below_set ?_ GE768.out | refine below_set ?_ GE779.out | refine below_set ?_ GE784.out | refine below_set ?_ GE790.out | refine below_set ?_ GE812.out) | exact HB.out)) hb); clear HO_780001; clear HO_785001; clear HO_791001; clear HO806; clear HO810; clear BK768; clear BK779; clear BK784; clear BK790; clear BK812; clear HB; have HO_780001 := n0_; have HO_785001 := n1_; have HO_791001 := n2_; have HO806 := n3_; have HO810 := n4_; have BK768 := n5_; have BK779 := n6_; have BK784 := n7_; have BK790 := n8_; have BK812 := n9_; have HB := n10_; clear n0_ n1_ n2_ n3_ n4_ n5_ n6_ n7_ n8_ n9_ n10_; (try clear hb); (try clear hb2); (try clear hk); (try clear hi)))
                          go_meet
                          case rel => exact ⟨_, ((t811 != t778)), (by first | rfl | (simp; done) | (simp [*]; done)), H', ⟨by have := HJ11.out; have := HJ60.out; first | omega | exact Nat.le_refl _⟩, ⟨by (try simp only [hl785001_60]); (with_reducible repeat (first | apply Kd.R_alloc | apply Kd.R_drewN | apply Kd.R_drew)); exact Kd.R_mono HO_780001.out (fun _ hk => ⟨hk.1.1.1, ⟨hk.1.1.2, hk.2⟩⟩)⟩, ⟨by (try simp only [hl785001_60]); (with_reducible repeat (first | apply Kd.R_alloc | apply Kd.R_drewN | apply Kd.R_drew)); exact Kd.R_mono HO_785001.out (fun _ hk => ⟨hk.1.1.1, ⟨hk.1.1.2, hk.2⟩⟩)⟩, ⟨by (try simp only [hl785001_60]); (with_reducible repeat (first | apply Kd.R_alloc | apply Kd.R_drewN | apply Kd.R_drew)); exact Kd.R_mono HO_791001.out (fun _ hk => ⟨hk.1.1.1, ⟨hk.1.1.2, hk.2⟩⟩)⟩, ⟨by (try simp only [hl785001_60]); (with_reducible repeat (first | apply Kd.R_alloc | apply Kd.R_drewN | apply Kd.R_drew)); exact Kd.R_mono HO810.out (fun _ hk => ⟨hk.1.1.1.2, ⟨hk.1.1.2, hk.1.2⟩⟩)⟩, ⟨by (try simp only [hl785001_60]); (with_reducible repeat (first | refine blk_drewN ?_ _ | refine blk_drew ?_ | refine blk_alloc ?_ _)); exact BK768.out⟩, ⟨by (try simp only [hl785001_60]); (with_reducible repeat (first | refine blk_drewN ?_ _ | refine blk_drew ?_ | refine blk_alloc ?_ _)); exact BK779.out⟩, ⟨by (try simp only [hl785001_60]); (with_reducible repeat (first | refine blk_drewN ?_ _ | refine blk_drew ?_ | refine blk_alloc ?_ _)); exact BK784.out⟩, ⟨by (try simp only [hl785001_60]); (with_reducible repeat (first | refine blk_drewN ?_ _ | refine blk_drew ?_ | refine blk_alloc ?_ _)); exact BK790.out⟩, ⟨by (try simp only [hl785001_60]); (with_reducible repeat (first | refine blk_drewN ?_ _ | refine blk_drew ?_ | refine blk_alloc ?_ _)); exact BK812.out⟩, ⟨by repeat (first | (with_reducible first | exact HB.out | apply below_alloc | apply pw_below_drewN | apply below_drew1 | refine below_set ?_ GE768.out | refine below_set ?_ GE779.out | refine below_set ?_ GE784.out | refine below_set ?_ GE790.out | refine below_set ?_ GE812.out) | exact HB.out)⟩⟩
                        · replace c126 := Bool.eq_false_iff.mpr c126
                          subst c126
                          have H1 : (laws_FnExactMendCounter.j2 kj60 t800 true t785 t801) = some r := by rw [if_neg (show ¬ (false = true) by decide)] at H; exact H
                          clear H
                          have H := H1
                          clear H1
                          have H' := Aside0.mk H
                          clear H
                          have hnb137 := NB812_768.out
                          have hnc137 := NB768_812.out
                          have hnb138 := NB812_779.out
                          have hnc138 := NB779_812.out
                          have hnb139 := NB812_784.out
                          have hnc139 := NB784_812.out
                          have hnb140 := NB812_790.out
                          have hnc140 := NB790_812.out
                          have hcz141_0 : w118.cell? ⟨gb812, 0, none⟩ = some (.int .i64 0) := (blk_cell BK812.out 0).trans rfl
                          have hcz141_1 : w118.cell? ⟨gb812, 1, none⟩ = some (.slice none 0 0) := (blk_cell BK812.out 1).trans rfl
                          have hfz141_0 := blk_frozen BK812.out 0
                          have hfz141_1 := blk_frozen BK812.out 1
                          have hnb142 := NB779_768.out
                          have hnc142 := NB768_779.out
                          have hnb143 := NB779_784.out
                          have hnc143 := NB784_779.out
                          have hnb144 := NB779_790.out
                          have hnc144 := NB790_779.out
                          have hcz145_0 : w118.cell? ⟨gb779, 0, none⟩ = some (.int .i64 t774) := (blk_cell BK779.out 0).trans rfl
                          have hcz145_1 : w118.cell? ⟨gb779, 1, none⟩ = some (.slice Ao23 t775.length co23) := (blk_cell BK779.out 1).trans rfl
                          have hfz145_0 := blk_frozen BK779.out 0
                          have hfz145_1 := blk_frozen BK779.out 1
                          go_wp2_with (first | ((with_reducible refine gate_callee (f := 25) rfl ?_); refine goesL_ (some 86) rfl rfl Try.func25 (by kernel_rfl) rfl #[.agg #[.int .i64 t807, .slice Ao124 t808.length co124], .agg #[.int .i64 t774, .slice Ao23 t775.length co23]] rfl (by (try simp only [List.map_toArray, List.map_cons, List.map_nil]); first | done | rfl | (simp only [List.length_drop, List.length_take]; rfl)) ?_; (with_reducible refine (laws_eqCounter.calls kj60 t807 _ _ t808 t774 _ _ t775 false _ ?side1 ?side2 ?side3 ?side4 A125.out).mono ?_); (case side1 => refine (Kd.R_reads' (e := 2) (base := w.heap.size) (ok := fun k_ => ((((True ∧ some k_ ≠ (.slice Ao23 t775.length co23 : Value).ownBlock) ∧ some k_ ≠ (.slice Ao30 t798.length co30 : Value).ownBlock) ∧ some k_ ≠ (.slice Ao37 t786.length co37 : Value).ownBlock) ∧ some k_ ≠ (.slice Ao116 t804.length co116 : Value).ownBlock)) (n := t808.length) (c := co124) ?_).2.2; exact (by (with_reducible repeat (first | apply Kd.R_alloc | apply Kd.R_drewN | apply Kd.R_drew)); exact (Kd.R_mono (Kd.R_far (p := ⟨gb812, 1, none⟩) (Kd.R_far (p := ⟨gb812, 0, none⟩) (Kd.R_types HO810.out BK812.out (by decide)) (fun _ hk => hk.2) (.int .i64 t807)) (fun _ hk => hk.2) (.slice Ao124 t808.length co124)) (fun _ h_ => h_.1)))); (case side2 => exact (Kd.R_reads' HO810.out).2.1); (case side3 => refine (Kd.R_reads' (e := 2) (base := w.heap.size) (ok := fun k_ => (((some k_ ≠ (.slice Ao30 t798.length co30 : Value).ownBlock ∧ some k_ ≠ (.slice Ao37 t786.length co37 : Value).ownBlock) ∧ some k_ ≠ (.slice Ao116 t804.length co116 : Value).ownBlock) ∧ some k_ ≠ (.slice Ao124 t808.length co124 : Value).ownBlock)) (n := t775.length) (c := co23) ?_).2.2; exact (by (with_reducible repeat (first | apply Kd.R_alloc | apply Kd.R_drewN | apply Kd.R_drew)); exact (Kd.R_mono (Kd.R_far (p := ⟨gb812, 1, none⟩) (Kd.R_far (p := ⟨gb812, 0, none⟩) (Kd.R_types HO_780001.out BK812.out (by decide)) (fun _ hk => hk.2) (.int .i64 t807)) (fun _ hk => hk.2) (.slice Ao124 t808.length co124)) (fun _ h_ => h_.1)))); (case side4 => exact (Kd.R_reads' HO_780001.out).2.1); rintro e w146 ⟨rfl, hb⟩; refine ⟨_, rfl, ?_⟩; have n0_ := Aside0.mk (Kd.R_below (by (with_reducible repeat (first | apply Kd.R_alloc | apply Kd.R_drewN | apply Kd.R_drew)); exact (Kd.R_mono (Kd.R_far (p := ⟨gb812, 1, none⟩) (Kd.R_far (p := ⟨gb812, 0, none⟩) (Kd.R_types HO_780001.out BK812.out (by decide)) (fun _ hk => hk.2) (.int .i64 t807)) (fun _ hk => hk.2) (.slice Ao124 t808.length co124)) (fun _ h_ => h_.1))) hb); have n1_ := Aside0.mk (Kd.R_below (by (with_reducible repeat (first | apply Kd.R_alloc | apply Kd.R_drewN | apply Kd.R_drew)); exact (Kd.R_mono (Kd.R_far (p := ⟨gb812, 1, none⟩) (Kd.R_far (p := ⟨gb812, 0, none⟩) (Kd.R_types HO_785001.out BK812.out (by decide)) (fun _ hk => hk.2) (.int .i64 t807)) (fun _ hk => hk.2) (.slice Ao124 t808.length co124)) (fun _ h_ => h_.1))) hb); have n2_ := Aside0.mk (Kd.R_below (by (with_reducible repeat (first | apply Kd.R_alloc | apply Kd.R_drewN | apply Kd.R_drew)); exact (Kd.R_mono (Kd.R_far (p := ⟨gb812, 1, none⟩) (Kd.R_far (p := ⟨gb812, 0, none⟩) (Kd.R_types HO_791001.out BK812.out (by decide)) (fun _ hk => hk.2) (.int .i64 t807)) (fun _ hk => hk.2) (.slice Ao124 t808.length co124)) (fun _ h_ => h_.1))) hb); have n3_ := Aside0.mk (Kd.R_below (by (with_reducible repeat (first | apply Kd.R_alloc | apply Kd.R_drewN | apply Kd.R_drew)); exact (Kd.R_mono (Kd.R_far (p := ⟨gb812, 1, none⟩) (Kd.R_far (p := ⟨gb812, 0, none⟩) (Kd.R_types HO806.out BK812.out (by decide)) (fun _ hk => hk.2) (.int .i64 t807)) (fun _ hk => hk.2) (.slice Ao124 t808.length co124)) (fun _ h_ => h_.1))) hb); have n4_ := Aside0.mk (Kd.R_below (by (with_reducible repeat (first | apply Kd.R_alloc | apply Kd.R_drewN | apply Kd.R_drew)); exact (Kd.R_mono (Kd.R_far (p := ⟨gb812, 1, none⟩) (Kd.R_far (p := ⟨gb812, 0, none⟩) (Kd.R_types HO810.out BK812.out (by decide)) (fun _ hk => hk.2) (.int .i64 t807)) (fun _ hk => hk.2) (.slice Ao124 t808.length co124)) (fun _ h_ => h_.1))) hb); have n5_ := Aside0.mk (blk_below (g := gb768) (o := .cells #[.int .i64 a0_0, .slice A0_1 l0_1.length c0_1] 37 (0, 0)) (by (with_reducible repeat (first | refine blk_drewN ?_ _ | refine blk_drew ?_ | refine blk_alloc ?_ _)); refine blk_far ?_ NB768_812.out _; (with_reducible repeat (first | refine blk_drewN ?_ _ | refine blk_drew ?_ | refine blk_alloc ?_ _)); refine blk_far ?_ NB768_812.out _; (with_reducible repeat (first | refine blk_drewN ?_ _ | refine blk_drew ?_ | refine blk_alloc ?_ _)); exact BK768.out) hb); have n6_ := Aside0.mk (blk_below (g := gb779) (o := .cells #[.int .i64 t774, .slice Ao23 t775.length co23] 26 (0, 0)) (by (with_reducible repeat (first | refine blk_drewN ?_ _ | refine blk_drew ?_ | refine blk_alloc ?_ _)); refine blk_far ?_ NB779_812.out _; (with_reducible repeat (first | refine blk_drewN ?_ _ | refine blk_drew ?_ | refine blk_alloc ?_ _)); refine blk_far ?_ NB779_812.out _; (with_reducible repeat (first | refine blk_drewN ?_ _ | refine blk_drew ?_ | refine blk_alloc ?_ _)); exact BK779.out) hb); have n7_ := Aside0.mk (blk_below (g := gb784) (o := .cells #[.int .i64 t780, .slice Ao30 t798.length co30] 26 (0, 0)) (by (with_reducible repeat (first | refine blk_drewN ?_ _ | refine blk_drew ?_ | refine blk_alloc ?_ _)); refine blk_far ?_ NB784_812.out _; (with_reducible repeat (first | refine blk_drewN ?_ _ | refine blk_drew ?_ | refine blk_alloc ?_ _)); refine blk_far ?_ NB784_812.out _; (with_reducible repeat (first | refine blk_drewN ?_ _ | refine blk_drew ?_ | refine blk_alloc ?_ _)); exact BK784.out) hb); have n8_ := Aside0.mk (blk_below (g := gb790) (o := .cells #[.int .i64 t785, .slice Ao37 t786.length co37] 26 (0, 0)) (by (with_reducible repeat (first | refine blk_drewN ?_ _ | refine blk_drew ?_ | refine blk_alloc ?_ _)); refine blk_far ?_ NB790_812.out _; (with_reducible repeat (first | refine blk_drewN ?_ _ | refine blk_drew ?_ | refine blk_alloc ?_ _)); refine blk_far ?_ NB790_812.out _; (with_reducible repeat (first | refine blk_drewN ?_ _ | refine blk_drew ?_ | refine blk_alloc ?_ _)); exact BK790.out) hb); have n9_ := Aside0.mk (blk_below (g := gb812) (o := .cells #[.int .i64 t807, .slice Ao124 t808.length co124] 26 (0, 0)) (by (with_reducible repeat (first | refine blk_drewN ?_ _ | refine blk_drew ?_ | refine blk_alloc ?_ _)); refine blk_put (cs := #[.int .i64 t807, .slice none 0 0]) ?_ 1 _ rfl; (with_reducible repeat (first | refine blk_drewN ?_ _ | refine blk_drew ?_ | refine blk_alloc ?_ _)); refine blk_put (cs := #[.int .i64 0, .slice none 0 0]) ?_ 0 _ rfl; (with_reducible repeat (first | refine blk_drewN ?_ _ | refine blk_drew ?_ | refine blk_alloc ?_ _)); exact BK812.out) hb); have n10_ := Aside0.mk (below_step (by repeat (first | (with_reducible first | exact HB.out | apply below_alloc | apply pw_below_drewN | apply below_drew1 | refine below_set ?_ GE768.out | refine below_set ?_ GE779.out | refine below_set ?_ GE784.out | refine below_set ?_ GE790.out | refine below_set ?_ GE812.out) | exact HB.out)) hb); clear HO_780001; clear HO_785001; clear HO_791001; clear HO806; clear HO810; clear BK768; clear BK779; clear BK784; clear BK790; clear BK812; clear HB; have HO_780001 := n0_; have HO_785001 := n1_; have HO_791001 := n2_; have HO806 := n3_; have HO810 := n4_; have BK768 := n5_; have BK779 := n6_; have BK784 := n7_; have BK790 := n8_; have BK812 := n9_; have HB := n10_; clear n0_ n1_ n2_ n3_ n4_ n5_ n6_ n7_ n8_ n9_ n10_; (try clear hb); (try clear hb2); (try clear hk); (try clear hi)))
                          go_meet
                          case rel => exact ⟨_, (true), (by first | rfl | (simp; done) | (simp [*]; done)), H', ⟨by have := HJ11.out; have := HJ60.out; first | omega | exact Nat.le_refl _⟩, ⟨by (try simp only [hl785001_60]); (with_reducible repeat (first | apply Kd.R_alloc | apply Kd.R_drewN | apply Kd.R_drew)); exact Kd.R_mono HO_780001.out (fun _ hk => ⟨hk.1.1.1, ⟨hk.1.1.2, hk.2⟩⟩)⟩, ⟨by (try simp only [hl785001_60]); (with_reducible repeat (first | apply Kd.R_alloc | apply Kd.R_drewN | apply Kd.R_drew)); exact Kd.R_mono HO_785001.out (fun _ hk => ⟨hk.1.1.1, ⟨hk.1.1.2, hk.2⟩⟩)⟩, ⟨by (try simp only [hl785001_60]); (with_reducible repeat (first | apply Kd.R_alloc | apply Kd.R_drewN | apply Kd.R_drew)); exact Kd.R_mono HO_791001.out (fun _ hk => ⟨hk.1.1.1, ⟨hk.1.1.2, hk.2⟩⟩)⟩, ⟨by (try simp only [hl785001_60]); (with_reducible repeat (first | apply Kd.R_alloc | apply Kd.R_drewN | apply Kd.R_drew)); exact Kd.R_mono HO810.out (fun _ hk => ⟨hk.1.1.1.2, ⟨hk.1.1.2, hk.1.2⟩⟩)⟩, ⟨by (try simp only [hl785001_60]); (with_reducible repeat (first | refine blk_drewN ?_ _ | refine blk_drew ?_ | refine blk_alloc ?_ _)); exact BK768.out⟩, ⟨by (try simp only [hl785001_60]); (with_reducible repeat (first | refine blk_drewN ?_ _ | refine blk_drew ?_ | refine blk_alloc ?_ _)); exact BK779.out⟩, ⟨by (try simp only [hl785001_60]); (with_reducible repeat (first | refine blk_drewN ?_ _ | refine blk_drew ?_ | refine blk_alloc ?_ _)); exact BK784.out⟩, ⟨by (try simp only [hl785001_60]); (with_reducible repeat (first | refine blk_drewN ?_ _ | refine blk_drew ?_ | refine blk_alloc ?_ _)); exact BK790.out⟩, ⟨by (try simp only [hl785001_60]); (with_reducible repeat (first | refine blk_drewN ?_ _ | refine blk_drew ?_ | refine blk_alloc ?_ _)); exact BK812.out⟩, ⟨by repeat (first | (with_reducible first | exact HB.out | apply below_alloc | apply pw_below_drewN | apply below_drew1 | refine below_set ?_ GE768.out | refine below_set ?_ GE779.out | refine below_set ?_ GE784.out | refine below_set ?_ GE790.out | refine below_set ?_ GE812.out) | exact HB.out)⟩⟩
                      case rest =>
                        clear HC104
                        try clear c1
                        try clear c2
                        try clear p2
                        try clear c3
                        try clear c4
                        try clear c4b0
                        try clear c5
                        try clear c6
                        try clear c7
                        try clear c8
                        try clear c9
                        try clear c10
                        try clear c11
                        try clear c12
                        try clear c13
                        try clear c14
                        try clear c21
                        try clear c22
                        try clear c24
                        try clear c25
                        try clear c27
                        try clear c28
                        try clear c29
                        try clear c33
                        try clear c34
                        try clear c35
                        try clear c39
                        try clear c40
                        try clear c41
                        try clear c42
                        try clear c44
                        try clear c45
                        try clear c48
                        try clear c49
                        try clear c50
                        try clear c52
                        try clear c53
                        try clear c56
                        try clear c59
                        try clear c66
                        try clear c67
                        try clear c68
                        try clear c71
                        try clear c71b0
                        try clear c73
                        try clear c74
                        try clear c75
                        try clear c76
                        try clear c78
                        try clear c79
                        try clear c82
                        try clear c83
                        try clear c84
                        try clear c86
                        try clear c87
                        try clear c90
                        try clear c93
                        try clear c93b0
                        try clear c94
                        try clear c95
                        try clear c96
                        try clear c101
                        try clear c101b0
                        try clear c101b1
                        try clear c105
                        try clear c106
                        try clear c107
                        try clear c112
                        try clear c113
                        try clear c119
                        try clear c120
                        try clear c121
                        try clear c122
                        try clear c126
                        try clear c127
                        try clear c128
                        try clear c129
                        try clear c130
                        try clear c132
                        try clear c133
                        try clear c134
                        try clear c137
                        try clear c138
                        try clear c139
                        try clear c140
                        try clear c142
                        try clear c143
                        try clear c144
                        try clear hcz108_0
                        try clear hcz108_1
                        try clear hcz110_0
                        try clear hcz110_1
                        try clear hcz114_0
                        try clear hcz114_1
                        try clear hcz123_0
                        try clear hcz123_1
                        try clear hcz131_0
                        try clear hcz131_1
                        try clear hcz135_0
                        try clear hcz135_1
                        try clear hcz141_0
                        try clear hcz141_1
                        try clear hcz145_0
                        try clear hcz145_1
                        try clear hcz14_0
                        try clear hcz14_1
                        try clear hcz16_0
                        try clear hcz16_1
                        try clear hcz22_0
                        try clear hcz22_1
                        try clear hcz24_0
                        try clear hcz24_1
                        try clear hcz29_0
                        try clear hcz29_1
                        try clear hcz36_0
                        try clear hcz36_1
                        try clear hcz43_0
                        try clear hcz43_1
                        try clear hcz46_0
                        try clear hcz46_1
                        try clear hcz51_0
                        try clear hcz51_1
                        try clear hcz54_0
                        try clear hcz54_1
                        try clear hcz69_0
                        try clear hcz69_1
                        try clear hcz6_0
                        try clear hcz6_1
                        try clear hcz77_0
                        try clear hcz77_1
                        try clear hcz80_0
                        try clear hcz80_1
                        try clear hcz85_0
                        try clear hcz85_1
                        try clear hcz88_0
                        try clear hcz88_1
                        try clear hcz97_0
                        try clear hcz97_1
                        try clear hcz99_0
                        try clear hcz99_1
                        try clear hfz108_0
                        try clear hfz108_1
                        try clear hfz110_0
                        try clear hfz110_1
                        try clear hfz114_0
                        try clear hfz114_1
                        try clear hfz123_0
                        try clear hfz123_1
                        try clear hfz131_0
                        try clear hfz131_1
                        try clear hfz135_0
                        try clear hfz135_1
                        try clear hfz141_0
                        try clear hfz141_1
                        try clear hfz145_0
                        try clear hfz145_1
                        try clear hfz14_0
                        try clear hfz14_1
                        try clear hfz16_0
                        try clear hfz16_1
                        try clear hfz22_0
                        try clear hfz22_1
                        try clear hfz24_0
                        try clear hfz24_1
                        try clear hfz29_0
                        try clear hfz29_1
                        try clear hfz36_0
                        try clear hfz36_1
                        try clear hfz43_0
                        try clear hfz43_1
                        try clear hfz46_0
                        try clear hfz46_1
                        try clear hfz51_0
                        try clear hfz51_1
                        try clear hfz54_0
                        try clear hfz54_1
                        try clear hfz69_0
                        try clear hfz69_1
                        try clear hfz6_0
                        try clear hfz6_1
                        try clear hfz77_0
                        try clear hfz77_1
                        try clear hfz80_0
                        try clear hfz80_1
                        try clear hfz85_0
                        try clear hfz85_1
                        try clear hfz88_0
                        try clear hfz88_1
                        try clear hfz97_0
                        try clear hfz97_1
                        try clear hfz99_0
                        try clear hfz99_1
                        try clear p2
                        obtain ⟨kq, x92_103, rfl, HA, HJ103, HO_780001, HO_785001, HO_791001, HO_813001, BK768, BK779, BK784, BK790, BK812, HB⟩ := hcut
                        have hl791001_103 := (Kd.R_reads' HO_791001.out).1
                        rw [hl791001_103] at HO_791001
                        (try simp only [hl791001_103])
                        (try simp only [hl791001_103] at BK768)
                        (try simp only [hl791001_103] at BK779)
                        (try simp only [hl791001_103] at BK784)
                        (try simp only [hl791001_103] at BK790)
                        (try simp only [hl791001_103] at BK812)
                        (try simp only [hl791001_103] at HO_780001)
                        (try simp only [hl791001_103] at HO_785001)
                        (try simp only [hl791001_103] at HO_813001)
                        cases kq with
                        | zero => exact absurd HA.out (by simp [laws_FnExactMendCounter.j2])
                        | succ kj103 =>
                          have H := HA.out
                          clear HA
                          simp only [laws_FnExactMendCounter.j2] at H
                          by_cases c147 : x92_103 = true
                          · subst c147
                            have H1 : (some false) = some r := by rw [if_pos rfl] at H; exact H
                            clear H
                            have H := H1
                            clear H1
                            obtain rfl := Option.some.inj H
                            go_wp2
                            go_ret
                            exact ⟨by first | rfl | (simp [errW_none, errW_some] <;> rfl) | (simp [*, errW_none, errW_some] <;> rfl), by repeat (first | (with_reducible first | exact HB.out | apply below_alloc | apply pw_below_drewN | apply below_drew1 | refine below_set ?_ GE768.out | refine below_set ?_ GE779.out | refine below_set ?_ GE784.out | refine below_set ?_ GE790.out | refine below_set ?_ GE812.out) | exact HB.out)⟩
                          · replace c147 := Bool.eq_false_iff.mpr c147
                            subst c147
                            have H1 : ((laws_heldCounter.f kj103 t785 t801 1).bind fun t814 => (if t814 < 0 then (some false) else (if t814 = t800 then (some true) else (some false)))) = some r := by rw [if_neg (show ¬ (false = true) by decide)] at H; exact H
                            clear H
                            have H := H1
                            clear H1
                            replace H := Option.bind_eq_some_iff.mp H
                            obtain ⟨t814, A1480, H⟩ := H
                            replace H : (if t814 < 0 then (some false) else (if t814 = t800 then (some true) else (some false))) = some r := H
                            have A148 := Aside0.mk A1480
                            clear A1480
                            by_cases c149 : t814 < 0
                            · rw [if_pos c149] at H
                              have c149b0 : decide (t814 < 0) = true := decide_eq_true c149
                              clear c149
                              obtain rfl := Option.some.inj H
                              have hnb150 := NB790_768.out
                              have hnc150 := NB768_790.out
                              have hnb151 := NB790_779.out
                              have hnc151 := NB779_790.out
                              have hnb152 := NB790_784.out
                              have hnc152 := NB784_790.out
                              have hnb153 := NB790_812.out
                              have hnc153 := NB812_790.out
                              have hcz154_0 : wc.cell? ⟨gb790, 0, none⟩ = some (.int .i64 t785) := (blk_cell BK790.out 0).trans rfl
                              have hcz154_1 : wc.cell? ⟨gb790, 1, none⟩ = some (.slice Ao37 t801.length co37) := (blk_cell BK790.out 1).trans rfl
                              have hfz154_0 := blk_frozen BK790.out 0
                              have hfz154_1 := blk_frozen BK790.out 1
                              go_wp2_with (first | ((with_reducible refine gate_callee (f := 29) rfl ?_); refine goesL_ (some 95) rfl rfl Try.func29 (by kernel_rfl) rfl #[.agg #[.int .i64 t785, .slice Ao37 t801.length co37], .int .i64 1] rfl (by (try simp only [List.map_toArray, List.map_cons, List.map_nil]); first | done | rfl | (simp only [List.length_drop, List.length_take]; rfl)) ?_; (with_reducible refine (laws_heldCounter.calls kj103 t785 _ _ t801 1 t814 _ ?side1 ?side2 A148.out).mono ?_); (case side1 => repeat (first | exact (Kd.R_reads' HO_791001.out).2.2 | (with_reducible refine Kd.C_alloc ?_ _) | (with_reducible refine Kd.C_drewN ?_ _) | (with_reducible refine Kd.C_drew ?_))); (case side2 => exact (Kd.R_reads' HO_791001.out).2.1); rintro e w155 ⟨rfl, hb⟩; refine ⟨_, rfl, ?_⟩; have n0_ := Aside0.mk (Kd.R_below (by (with_reducible repeat (first | apply Kd.R_alloc | apply Kd.R_drewN | apply Kd.R_drew)); exact HO_780001.out) hb); have n1_ := Aside0.mk (Kd.R_below (by (with_reducible repeat (first | apply Kd.R_alloc | apply Kd.R_drewN | apply Kd.R_drew)); exact HO_785001.out) hb); have n2_ := Aside0.mk (Kd.R_below (by (with_reducible repeat (first | apply Kd.R_alloc | apply Kd.R_drewN | apply Kd.R_drew)); exact HO_791001.out) hb); have n3_ := Aside0.mk (Kd.R_below (by (with_reducible repeat (first | apply Kd.R_alloc | apply Kd.R_drewN | apply Kd.R_drew)); exact HO_813001.out) hb); have n4_ := Aside0.mk (blk_below (g := gb768) (o := .cells #[.int .i64 a0_0, .slice A0_1 l0_1.length c0_1] 37 (0, 0)) (by (with_reducible repeat (first | refine blk_drewN ?_ _ | refine blk_drew ?_ | refine blk_alloc ?_ _)); exact BK768.out) hb); have n5_ := Aside0.mk (blk_below (g := gb779) (o := .cells #[.int .i64 t774, .slice Ao23 t775.length co23] 26 (0, 0)) (by (with_reducible repeat (first | refine blk_drewN ?_ _ | refine blk_drew ?_ | refine blk_alloc ?_ _)); exact BK779.out) hb); have n6_ := Aside0.mk (blk_below (g := gb784) (o := .cells #[.int .i64 t780, .slice Ao30 t798.length co30] 26 (0, 0)) (by (with_reducible repeat (first | refine blk_drewN ?_ _ | refine blk_drew ?_ | refine blk_alloc ?_ _)); exact BK784.out) hb); have n7_ := Aside0.mk (blk_below (g := gb790) (o := .cells #[.int .i64 t785, .slice Ao37 t801.length co37] 26 (0, 0)) (by (with_reducible repeat (first | refine blk_drewN ?_ _ | refine blk_drew ?_ | refine blk_alloc ?_ _)); exact BK790.out) hb); have n8_ := Aside0.mk (blk_below (g := gb812) (o := .cells #[.int .i64 t807, .slice Ao124 t808.length co124] 26 (0, 0)) (by (with_reducible repeat (first | refine blk_drewN ?_ _ | refine blk_drew ?_ | refine blk_alloc ?_ _)); exact BK812.out) hb); have n9_ := Aside0.mk (below_step (by repeat (first | (with_reducible first | exact HB.out | apply below_alloc | apply pw_below_drewN | apply below_drew1 | refine below_set ?_ GE768.out | refine below_set ?_ GE779.out | refine below_set ?_ GE784.out | refine below_set ?_ GE790.out | refine below_set ?_ GE812.out) | exact HB.out)) hb); clear HO_780001; clear HO_785001; clear HO_791001; clear HO_813001; clear BK768; clear BK779; clear BK784; clear BK790; clear BK812; clear HB; have HO_780001 := n0_; have HO_785001 := n1_; have HO_791001 := n2_; have HO_813001 := n3_; have BK768 := n4_; have BK779 := n5_; have BK784 := n6_; have BK790 := n7_; have BK812 := n8_; have HB := n9_; clear n0_ n1_ n2_ n3_ n4_ n5_ n6_ n7_ n8_ n9_; (try clear hb); (try clear hb2); (try clear hk); (try clear hi)))
                              go_ret
                              exact ⟨by first | rfl | (simp [errW_none, errW_some] <;> rfl) | (simp [*, errW_none, errW_some] <;> rfl), by repeat (first | (with_reducible first | exact HB.out | apply below_alloc | apply pw_below_drewN | apply below_drew1 | refine below_set ?_ GE768.out | refine below_set ?_ GE779.out | refine below_set ?_ GE784.out | refine below_set ?_ GE790.out | refine below_set ?_ GE812.out) | exact HB.out)⟩
                            · rw [if_neg c149] at H
                              have c149b0 : decide (t814 < 0) = false := decide_eq_false c149
                              clear c149
                              by_cases c156 : t814 = t800
                              · rw [if_pos c156] at H
                                have c156b0 : (t814 == t800) = true := beq_iff_eq.mpr c156
                                have c156b1 : (t814 != t800) = false := bne_eq_false_iff_eq.mpr c156
                                clear c156
                                obtain rfl := Option.some.inj H
                                have hnb157 := NB790_768.out
                                have hnc157 := NB768_790.out
                                have hnb158 := NB790_779.out
                                have hnc158 := NB779_790.out
                                have hnb159 := NB790_784.out
                                have hnc159 := NB784_790.out
                                have hnb160 := NB790_812.out
                                have hnc160 := NB812_790.out
                                have hcz161_0 : wc.cell? ⟨gb790, 0, none⟩ = some (.int .i64 t785) := (blk_cell BK790.out 0).trans rfl
                                have hcz161_1 : wc.cell? ⟨gb790, 1, none⟩ = some (.slice Ao37 t801.length co37) := (blk_cell BK790.out 1).trans rfl
                                have hfz161_0 := blk_frozen BK790.out 0
                                have hfz161_1 := blk_frozen BK790.out 1
                                go_wp2_with (first | ((with_reducible refine gate_callee (f := 29) rfl ?_); refine goesL_ (some 95) rfl rfl Try.func29 (by kernel_rfl) rfl #[.agg #[.int .i64 t785, .slice Ao37 t801.length co37], .int .i64 1] rfl (by (try simp only [List.map_toArray, List.map_cons, List.map_nil]); first | done | rfl | (simp only [List.length_drop, List.length_take]; rfl)) ?_; (with_reducible refine (laws_heldCounter.calls kj103 t785 _ _ t801 1 t814 _ ?side1 ?side2 A148.out).mono ?_); (case side1 => repeat (first | exact (Kd.R_reads' HO_791001.out).2.2 | (with_reducible refine Kd.C_alloc ?_ _) | (with_reducible refine Kd.C_drewN ?_ _) | (with_reducible refine Kd.C_drew ?_))); (case side2 => exact (Kd.R_reads' HO_791001.out).2.1); rintro e w162 ⟨rfl, hb⟩; refine ⟨_, rfl, ?_⟩; have n0_ := Aside0.mk (Kd.R_below (by (with_reducible repeat (first | apply Kd.R_alloc | apply Kd.R_drewN | apply Kd.R_drew)); exact HO_780001.out) hb); have n1_ := Aside0.mk (Kd.R_below (by (with_reducible repeat (first | apply Kd.R_alloc | apply Kd.R_drewN | apply Kd.R_drew)); exact HO_785001.out) hb); have n2_ := Aside0.mk (Kd.R_below (by (with_reducible repeat (first | apply Kd.R_alloc | apply Kd.R_drewN | apply Kd.R_drew)); exact HO_791001.out) hb); have n3_ := Aside0.mk (Kd.R_below (by (with_reducible repeat (first | apply Kd.R_alloc | apply Kd.R_drewN | apply Kd.R_drew)); exact HO_813001.out) hb); have n4_ := Aside0.mk (blk_below (g := gb768) (o := .cells #[.int .i64 a0_0, .slice A0_1 l0_1.length c0_1] 37 (0, 0)) (by (with_reducible repeat (first | refine blk_drewN ?_ _ | refine blk_drew ?_ | refine blk_alloc ?_ _)); exact BK768.out) hb); have n5_ := Aside0.mk (blk_below (g := gb779) (o := .cells #[.int .i64 t774, .slice Ao23 t775.length co23] 26 (0, 0)) (by (with_reducible repeat (first | refine blk_drewN ?_ _ | refine blk_drew ?_ | refine blk_alloc ?_ _)); exact BK779.out) hb); have n6_ := Aside0.mk (blk_below (g := gb784) (o := .cells #[.int .i64 t780, .slice Ao30 t798.length co30] 26 (0, 0)) (by (with_reducible repeat (first | refine blk_drewN ?_ _ | refine blk_drew ?_ | refine blk_alloc ?_ _)); exact BK784.out) hb); have n7_ := Aside0.mk (blk_below (g := gb790) (o := .cells #[.int .i64 t785, .slice Ao37 t801.length co37] 26 (0, 0)) (by (with_reducible repeat (first | refine blk_drewN ?_ _ | refine blk_drew ?_ | refine blk_alloc ?_ _)); exact BK790.out) hb); have n8_ := Aside0.mk (blk_below (g := gb812) (o := .cells #[.int .i64 t807, .slice Ao124 t808.length co124] 26 (0, 0)) (by (with_reducible repeat (first | refine blk_drewN ?_ _ | refine blk_drew ?_ | refine blk_alloc ?_ _)); exact BK812.out) hb); have n9_ := Aside0.mk (below_step (by repeat (first | (with_reducible first | exact HB.out | apply below_alloc | apply pw_below_drewN | apply below_drew1 | refine below_set ?_ GE768.out | refine below_set ?_ GE779.out | refine below_set ?_ GE784.out | refine below_set ?_ GE790.out | refine below_set ?_ GE812.out) | exact HB.out)) hb); clear HO_780001; clear HO_785001; clear HO_791001; clear HO_813001; clear BK768; clear BK779; clear BK784; clear BK790; clear BK812; clear HB; have HO_780001 := n0_; have HO_785001 := n1_; have HO_791001 := n2_; have HO_813001 := n3_; have BK768 := n4_; have BK779 := n5_; have BK784 := n6_; have BK790 := n7_; have BK812 := n8_; have HB := n9_; clear n0_ n1_ n2_ n3_ n4_ n5_ n6_ n7_ n8_ n9_; (try clear hb); (try clear hb2); (try clear hk); (try clear hi)))
                                go_ret
                                exact ⟨by first | rfl | (simp [errW_none, errW_some] <;> rfl) | (simp [*, errW_none, errW_some] <;> rfl), by repeat (first | (with_reducible first | exact HB.out | apply below_alloc | apply pw_below_drewN | apply below_drew1 | refine below_set ?_ GE768.out | refine below_set ?_ GE779.out | refine below_set ?_ GE784.out | refine below_set ?_ GE790.out | refine below_set ?_ GE812.out) | exact HB.out)⟩
                              · rw [if_neg c156] at H
                                have c156b0 : (t814 == t800) = false := beq_eq_false_iff_ne.mpr c156
                                have c156b1 : (t814 != t800) = true := bne_iff_ne.mpr c156
                                obtain rfl := Option.some.inj H
                                have hnb163 := NB790_768.out
                                have hnc163 := NB768_790.out
                                have hnb164 := NB790_779.out
                                have hnc164 := NB779_790.out
                                have hnb165 := NB790_784.out
                                have hnc165 := NB784_790.out
                                have hnb166 := NB790_812.out
                                have hnc166 := NB812_790.out
                                have hcz167_0 : wc.cell? ⟨gb790, 0, none⟩ = some (.int .i64 t785) := (blk_cell BK790.out 0).trans rfl
                                have hcz167_1 : wc.cell? ⟨gb790, 1, none⟩ = some (.slice Ao37 t801.length co37) := (blk_cell BK790.out 1).trans rfl
                                have hfz167_0 := blk_frozen BK790.out 0
                                have hfz167_1 := blk_frozen BK790.out 1
                                go_wp2_with (first | ((with_reducible refine gate_callee (f := 29) rfl ?_); refine goesL_ (some 95) rfl rfl Try.func29 (by kernel_rfl) rfl #[.agg #[.int .i64 t785, .slice Ao37 t801.length co37], .int .i64 1] rfl (by (try simp only [List.map_toArray, List.map_cons, List.map_nil]); first | done | rfl | (simp only [List.length_drop, List.length_take]; rfl)) ?_; (with_reducible refine (laws_heldCounter.calls kj103 t785 _ _ t801 1 t814 _ ?side1 ?side2 A148.out).mono ?_); (case side1 => repeat (first | exact (Kd.R_reads' HO_791001.out).2.2 | (with_reducible refine Kd.C_alloc ?_ _) | (with_reducible refine Kd.C_drewN ?_ _) | (with_reducible refine Kd.C_drew ?_))); (case side2 => exact (Kd.R_reads' HO_791001.out).2.1); rintro e w168 ⟨rfl, hb⟩; refine ⟨_, rfl, ?_⟩; have n0_ := Aside0.mk (Kd.R_below (by (with_reducible repeat (first | apply Kd.R_alloc | apply Kd.R_drewN | apply Kd.R_drew)); exact HO_780001.out) hb); have n1_ := Aside0.mk (Kd.R_below (by (with_reducible repeat (first | apply Kd.R_alloc | apply Kd.R_drewN | apply Kd.R_drew)); exact HO_785001.out) hb); have n2_ := Aside0.mk (Kd.R_below (by (with_reducible repeat (first | apply Kd.R_alloc | apply Kd.R_drewN | apply Kd.R_drew)); exact HO_791001.out) hb); have n3_ := Aside0.mk (Kd.R_below (by (with_reducible repeat (first | apply Kd.R_alloc | apply Kd.R_drewN | apply Kd.R_drew)); exact HO_813001.out) hb); have n4_ := Aside0.mk (blk_below (g := gb768) (o := .cells #[.int .i64 a0_0, .slice A0_1 l0_1.length c0_1] 37 (0, 0)) (by (with_reducible repeat (first | refine blk_drewN ?_ _ | refine blk_drew ?_ | refine blk_alloc ?_ _)); exact BK768.out) hb); have n5_ := Aside0.mk (blk_below (g := gb779) (o := .cells #[.int .i64 t774, .slice Ao23 t775.length co23] 26 (0, 0)) (by (with_reducible repeat (first | refine blk_drewN ?_ _ | refine blk_drew ?_ | refine blk_alloc ?_ _)); exact BK779.out) hb); have n6_ := Aside0.mk (blk_below (g := gb784) (o := .cells #[.int .i64 t780, .slice Ao30 t798.length co30] 26 (0, 0)) (by (with_reducible repeat (first | refine blk_drewN ?_ _ | refine blk_drew ?_ | refine blk_alloc ?_ _)); exact BK784.out) hb); have n7_ := Aside0.mk (blk_below (g := gb790) (o := .cells #[.int .i64 t785, .slice Ao37 t801.length co37] 26 (0, 0)) (by (with_reducible repeat (first | refine blk_drewN ?_ _ | refine blk_drew ?_ | refine blk_alloc ?_ _)); exact BK790.out) hb); have n8_ := Aside0.mk (blk_below (g := gb812) (o := .cells #[.int .i64 t807, .slice Ao124 t808.length co124] 26 (0, 0)) (by (with_reducible repeat (first | refine blk_drewN ?_ _ | refine blk_drew ?_ | refine blk_alloc ?_ _)); exact BK812.out) hb); have n9_ := Aside0.mk (below_step (by repeat (first | (with_reducible first | exact HB.out | apply below_alloc | apply pw_below_drewN | apply below_drew1 | refine below_set ?_ GE768.out | refine below_set ?_ GE779.out | refine below_set ?_ GE784.out | refine below_set ?_ GE790.out | refine below_set ?_ GE812.out) | exact HB.out)) hb); clear HO_780001; clear HO_785001; clear HO_791001; clear HO_813001; clear BK768; clear BK779; clear BK784; clear BK790; clear BK812; clear HB; have HO_780001 := n0_; have HO_785001 := n1_; have HO_791001 := n2_; have HO_813001 := n3_; have BK768 := n4_; have BK779 := n5_; have BK784 := n6_; have BK790 := n7_; have BK812 := n8_; have HB := n9_; clear n0_ n1_ n2_ n3_ n4_ n5_ n6_ n7_ n8_ n9_; (try clear hb); (try clear hb2); (try clear hk); (try clear hi)))
                                go_ret
                                exact ⟨by first | rfl | (simp [errW_none, errW_some] <;> rfl) | (simp [*, errW_none, errW_some] <;> rfl), by repeat (first | (with_reducible first | exact HB.out | apply below_alloc | apply pw_below_drewN | apply below_drew1 | refine below_set ?_ GE768.out | refine below_set ?_ GE779.out | refine below_set ?_ GE784.out | refine below_set ?_ GE790.out | refine below_set ?_ GE812.out) | exact HB.out)⟩
                    · rw [if_neg c101] at H
                      have c101b0 : (t802 == t800) = false := beq_eq_false_iff_ne.mpr c101
                      have c101b1 : (t802 != t800) = true := bne_iff_ne.mpr c101
                      obtain rfl := Option.some.inj H
                      have hnb169 := NB790_768.out
                      have hnc169 := NB768_790.out
                      have hnb170 := NB790_779.out
                      have hnc170 := NB779_790.out
                      have hnb171 := NB790_784.out
                      have hnc171 := NB784_790.out
                      have hcz172_0 : wc.cell? ⟨gb790, 0, none⟩ = some (.int .i64 t785) := (blk_cell BK790.out 0).trans rfl
                      have hcz172_1 : wc.cell? ⟨gb790, 1, none⟩ = some (.slice Ao37 t786.length co37) := (blk_cell BK790.out 1).trans rfl
                      have hfz172_0 := blk_frozen BK790.out 0
                      have hfz172_1 := blk_frozen BK790.out 1
                      go_wp2_with (first | ((with_reducible refine gate_callee (f := 28) rfl ?_); refine goesL_ (some 68) rfl rfl Try.func28 (by kernel_rfl) rfl #[.agg #[.int .i64 t785, .slice Ao37 t786.length co37], .int .i64 1] rfl (by (try simp only [List.map_toArray, List.map_cons, List.map_nil]); first | done | rfl | (simp only [List.length_drop, List.length_take]; rfl)) ?_; (with_reducible refine (laws_markCounter.calls kj60 t785 (fun k_ => some k_ = (.slice Ao37 t786.length co37 : Value).ownBlock) (.slice Ao37 t786.length co37) t786 1 t800 t801 w _ ?side1 ?side2 A91.out).mono ?_); (case side1 => repeat (first | (with_reducible first | exact HB.out | apply below_alloc | apply pw_below_drewN | apply below_drew1 | refine below_set ?_ GE768.out | refine below_set ?_ GE779.out | refine below_set ?_ GE784.out | refine below_set ?_ GE790.out) | exact HB.out)); (case side2 => exact Kd.R_tight rfl HO_791001.out); rintro e w173 ⟨rfl, hy0, hb, hkp⟩; refine ⟨_, rfl, ?_⟩; have n0_ := Aside0.mk (Kd.R_mono (ok' := fun k_ => some k_ ≠ (.slice Ao30 t798.length co30 : Value).ownBlock ∧ some k_ ≠ (.slice Ao37 t786.length co37 : Value).ownBlock) (Kd.R_keptB (HO_780001.out) hkp (fun k_ hk_ hs_ => (hk_.2) hs_)) (fun k_ hk_ => ⟨hk_.1.1, hk_.1.2⟩)); have n1_ := Aside0.mk (Kd.R_mono (ok' := fun k_ => some k_ ≠ (.slice Ao23 t775.length co23 : Value).ownBlock ∧ some k_ ≠ (.slice Ao37 t786.length co37 : Value).ownBlock) (Kd.R_keptB (HO_785001.out) hkp (fun k_ hk_ hs_ => (hk_.2) hs_)) (fun k_ hk_ => ⟨hk_.1.1, hk_.1.2⟩)); have n2_ := Aside0.mk (Kd.R_reok rfl hy0 (fun k_ e_ => HO_791001.out.1 k_ e_)); have n3_ := Aside0.mk (blk_kept (by (with_reducible repeat (first | refine blk_drewN ?_ _ | refine blk_drew ?_ | refine blk_alloc ?_ _)); exact BK768.out) hkp (fun hs_ => (fun e_ => (Kd.R_ne HO_791001.out BK768.out (by decide)) e_) hs_)); have n4_ := Aside0.mk (blk_kept (by (with_reducible repeat (first | refine blk_drewN ?_ _ | refine blk_drew ?_ | refine blk_alloc ?_ _)); exact BK779.out) hkp (fun hs_ => (fun e_ => (Kd.R_ne HO_791001.out BK779.out (by decide)) e_) hs_)); have n5_ := Aside0.mk (blk_kept (by (with_reducible repeat (first | refine blk_drewN ?_ _ | refine blk_drew ?_ | refine blk_alloc ?_ _)); exact BK784.out) hkp (fun hs_ => (fun e_ => (Kd.R_ne HO_791001.out BK784.out (by decide)) e_) hs_)); have n6_ := Aside0.mk (blk_kept (by (with_reducible repeat (first | refine blk_drewN ?_ _ | refine blk_drew ?_ | refine blk_alloc ?_ _)); exact BK790.out) hkp (fun hs_ => (fun e_ => (Kd.R_ne HO_791001.out BK790.out (by decide)) e_) hs_)); have n7_ := Aside0.mk (hb); clear HO_780001; clear HO_785001; clear HO_791001; clear BK768; clear BK779; clear BK784; clear BK790; clear HB; have HO_780001 := n0_; have HO_785001 := n1_; have HO_791001 := n2_; have BK768 := n3_; have BK779 := n4_; have BK784 := n5_; have BK790 := n6_; have HB := n7_; clear n0_ n1_ n2_ n3_ n4_ n5_ n6_ n7_; (try clear hb); (try clear hkp); (try clear hy0); have hcz174_0 : w173.cell? ⟨gb790, 0, none⟩ = some (.int .i64 t785) := (blk_cell BK790.out 0).trans rfl; have hcz174_1 : w173.cell? ⟨gb790, 1, none⟩ = some (.slice Ao37 t786.length co37) := (blk_cell BK790.out 1).trans rfl; have hfz174_0 := blk_frozen BK790.out 0; have hfz174_1 := blk_frozen BK790.out 1) | ((with_reducible refine gate_callee (f := 29) rfl ?_); refine goesL_ (some 71) rfl rfl Try.func29 (by kernel_rfl) rfl #[.agg #[.int .i64 t785, .slice Ao37 t801.length co37], .int .i64 1] rfl (by (try simp only [List.map_toArray, List.map_cons, List.map_nil]); first | done | (rw [show t801.length = t786.length from (Kd.R_reads' HO_791001.out).1.symm] <;> rfl) | rfl | (simp only [List.length_drop, List.length_take]; rfl)) ?_; (with_reducible refine (laws_heldCounter.calls kj60 t785 _ _ t801 1 t802 _ ?side1 ?side2 A92.out).mono ?_); (case side1 => repeat (first | exact (Kd.R_reads' HO_791001.out).2.2 | (with_reducible refine Kd.C_alloc ?_ _) | (with_reducible refine Kd.C_drewN ?_ _) | (with_reducible refine Kd.C_drew ?_))); (case side2 => rw [show t801.length = t786.length from (Kd.R_reads' HO_791001.out).1.symm]; exact (Kd.R_reads' HO_791001.out).2.1); rintro e w175 ⟨rfl, hb⟩; refine ⟨_, rfl, ?_⟩; have n0_ := Aside0.mk (Kd.R_below (by (with_reducible repeat (first | apply Kd.R_alloc | apply Kd.R_drewN | apply Kd.R_drew)); exact HO_780001.out) hb); have n1_ := Aside0.mk (Kd.R_below (by (with_reducible repeat (first | apply Kd.R_alloc | apply Kd.R_drewN | apply Kd.R_drew)); exact HO_785001.out) hb); have n2_ := Aside0.mk (Kd.R_below (by (with_reducible repeat (first | apply Kd.R_alloc | apply Kd.R_drewN | apply Kd.R_drew)); exact HO_791001.out) hb); have n3_ := Aside0.mk (blk_below (g := gb768) (o := .cells #[.int .i64 a0_0, .slice A0_1 l0_1.length c0_1] 37 (0, 0)) (by (with_reducible repeat (first | refine blk_drewN ?_ _ | refine blk_drew ?_ | refine blk_alloc ?_ _)); exact BK768.out) hb); have n4_ := Aside0.mk (blk_below (g := gb779) (o := .cells #[.int .i64 t774, .slice Ao23 t775.length co23] 26 (0, 0)) (by (with_reducible repeat (first | refine blk_drewN ?_ _ | refine blk_drew ?_ | refine blk_alloc ?_ _)); exact BK779.out) hb); have n5_ := Aside0.mk (blk_below (g := gb784) (o := .cells #[.int .i64 t780, .slice Ao30 t798.length co30] 26 (0, 0)) (by (with_reducible repeat (first | refine blk_drewN ?_ _ | refine blk_drew ?_ | refine blk_alloc ?_ _)); exact BK784.out) hb); have n6_ := Aside0.mk (blk_below (g := gb790) (o := .cells #[.int .i64 t785, .slice Ao37 t786.length co37] 26 (0, 0)) (by (with_reducible repeat (first | refine blk_drewN ?_ _ | refine blk_drew ?_ | refine blk_alloc ?_ _)); exact BK790.out) hb); have n7_ := Aside0.mk (below_step (by repeat (first | (with_reducible first | exact HB.out | apply below_alloc | apply pw_below_drewN | apply below_drew1 | refine below_set ?_ GE768.out | refine below_set ?_ GE779.out | refine below_set ?_ GE784.out | refine below_set ?_ GE790.out) | exact HB.out)) hb); clear HO_780001; clear HO_785001; clear HO_791001; clear BK768; clear BK779; clear BK784; clear BK790; clear HB; have HO_780001 := n0_; have HO_785001 := n1_; have HO_791001 := n2_; have BK768 := n3_; have BK779 := n4_; have BK784 := n5_; have BK790 := n6_; have HB := n7_; clear n0_ n1_ n2_ n3_ n4_ n5_ n6_ n7_; (try clear hb); (try clear hb2); (try clear hk); (try clear hi)))
                      go_ret
                      exact ⟨by first | rfl | (simp [errW_none, errW_some] <;> rfl) | (simp [*, errW_none, errW_some] <;> rfl), by repeat (first | (with_reducible first | exact HB.out | apply below_alloc | apply pw_below_drewN | apply below_drew1 | refine below_set ?_ GE768.out | refine below_set ?_ GE779.out | refine below_set ?_ GE784.out | refine below_set ?_ GE790.out) | exact HB.out)⟩
          · replace c59 := Bool.eq_false_iff.mpr c59
            subst c59
            have H1 : (some false) = some r := by rw [if_neg (show ¬ (false = true) by decide)] at H; exact H
            clear H
            have H := H1
            clear H1
            obtain rfl := Option.some.inj H
            try go_wp2
            have n0_ := Aside0.mk (Kd.R_drew HO_780001.out)
            have n1_ := Aside0.mk (Kd.R_drew HO_785001.out)
            have n2_ := Aside0.mk (Kd.R_drew HO_791001.out)
            have n3_ := Aside0.mk (blk_drew BK768.out)
            have n4_ := Aside0.mk (blk_drew BK779.out)
            have n5_ := Aside0.mk (blk_drew BK784.out)
            have n6_ := Aside0.mk (blk_drew BK790.out)
            have n7_ := Aside0.mk (below_drew1 HB.out)
            clear HO_780001
            clear HO_785001
            clear HO_791001
            clear BK768
            clear BK779
            clear BK784
            clear BK790
            clear HB
            have HO_780001 := n0_
            have HO_785001 := n1_
            have HO_791001 := n2_
            have BK768 := n3_
            have BK779 := n4_
            have BK784 := n5_
            have BK790 := n6_
            have HB := n7_
            clear n0_ n1_ n2_ n3_ n4_ n5_ n6_ n7_
            refine start_ (n := 5) (S := fun w' => w'.cell? ⟨gb784, 0, none⟩ = some (.int .i64 t780) ∧ w'.cell? ⟨gb784, 1, none⟩ = some (.slice Ao30 t781.length co30) ∧ w'.cell? ⟨gb768, 0, none⟩ = some (.int .i64 a0_0) ∧ w'.cell? ⟨gb768, 1, none⟩ = some (.slice A0_1 l0_1.length c0_1)) (ds := []) #[false, false, false, false, false] (by kernel_rfl) rfl rfl ⟨(blk_cell BK784.out 0).trans rfl, (blk_cell BK784.out 1).trans rfl, (blk_cell BK768.out 0).trans rfl, (blk_cell BK768.out 1).trans rfl⟩ (fun hHeld => ?_)
            generalize wc.drew = w176 at HO_780001 HO_785001 HO_791001 BK768 BK779 BK784 BK790 HB hHeld ⊢
            refine take_ (i := 0) (N := some 45) (v := ?_) (a' := ?_) #[true, false, false, false, false] rfl rfl (by kernel_rfl) (fun _ _ _ h => h) (Or.inl ⟨by rfl, ?_⟩) hHeld ?_ ?_
            rotate_left
            · rintro w' ⟨s0, s1, s2, s3⟩
              go_simp
              with_reducible rfl
            rotate_left
            · simp only [Act.put, List.setIfInBounds_toArray, List.set_cons_zero, List.set_cons_succ, i64_w, i32_w]
              rfl
            refine take_ (i := 1) (N := some 46) (v := ?_) (a' := ?_) #[true, true, false, false, false] rfl rfl (by kernel_rfl) (fun _ _ _ h => h) (Or.inl ⟨by rfl, ?_⟩) hHeld ?_ ?_
            rotate_left
            · rintro w' ⟨s0, s1, s2, s3⟩
              go_simp
              with_reducible rfl
            rotate_left
            · simp only [Act.put, List.setIfInBounds_toArray, List.set_cons_zero, List.set_cons_succ, i64_w, i32_w]
              rfl
            refine one_ (i := 2) (N := some 47) #[true, true, true, false, false] rfl rfl (by kernel_rfl) (by decide) (fun K hK => ?_)
            refine goes_ Try.func24 (by kernel_rfl) rfl #[.agg #[.int .i64 a0_0, .slice A0_1 l0_1.length c0_1]] (by rfl) rfl rfl (by (try simp only [List.map_toArray, List.map_cons, List.map_nil]); first | done | rfl | (simp only [List.length_drop, List.length_take]; rfl)) ?_
            with_reducible refine (laws_toCounter.calls kj11 a0_0 _ _ l0_1 t792 t793 _ ?side1 ?side2 A57.out).mono ?_
            (case side1 => repeat (first | exact (Kd.C_below HR0_1.out HB.out) | (with_reducible refine Kd.C_alloc ?_ _) | (with_reducible refine Kd.C_drewN ?_ _) | (with_reducible refine Kd.C_drew ?_)))
            (case side2 => exact HC0_1.out)
            rintro e w177 ⟨v794, rfl, ho0, hb⟩
            refine ⟨_, rfl, ?_⟩
            have n0_ := Aside0.mk (Kd.R_elder' (by (with_reducible repeat (first | apply Kd.R_alloc | apply Kd.R_drewN | apply Kd.R_drew)); exact HO_780001.out) (Kd.R_base ho0) hb)
            have n1_ := Aside0.mk (Kd.R_elder' (by (with_reducible repeat (first | apply Kd.R_alloc | apply Kd.R_drewN | apply Kd.R_drew)); exact HO_785001.out) (Kd.R_base ho0) hb)
            have n2_ := Aside0.mk (Kd.R_elder' (by (with_reducible repeat (first | apply Kd.R_alloc | apply Kd.R_drewN | apply Kd.R_drew)); exact HO_791001.out) (Kd.R_base ho0) hb)
            have n3_ := Aside0.mk (Kd.R_lower (Kd.R_new' (Kd.R_new' (Kd.R_new' ho0 (Kd.R_lt (by (with_reducible repeat (first | apply Kd.R_alloc | apply Kd.R_drewN | apply Kd.R_drew)); exact HO_780001.out))) (Kd.R_lt (by (with_reducible repeat (first | apply Kd.R_alloc | apply Kd.R_drewN | apply Kd.R_drew)); exact HO_785001.out))) (Kd.R_lt (by (with_reducible repeat (first | apply Kd.R_alloc | apply Kd.R_drewN | apply Kd.R_drew)); exact HO_791001.out))) (below_size (by repeat (first | (with_reducible first | exact HB.out | apply below_alloc | apply pw_below_drewN | apply below_drew1 | refine below_set ?_ GE768.out | refine below_set ?_ GE779.out | refine below_set ?_ GE784.out | refine below_set ?_ GE790.out) | exact HB.out))))
            have n4_ := Aside0.mk (blk_below (g := gb768) (o := .cells #[.int .i64 a0_0, .slice A0_1 l0_1.length c0_1] 37 (0, 0)) (by (with_reducible repeat (first | refine blk_drewN ?_ _ | refine blk_drew ?_ | refine blk_alloc ?_ _)); exact BK768.out) hb)
            have n5_ := Aside0.mk (blk_below (g := gb779) (o := .cells #[.int .i64 t774, .slice Ao23 t775.length co23] 26 (0, 0)) (by (with_reducible repeat (first | refine blk_drewN ?_ _ | refine blk_drew ?_ | refine blk_alloc ?_ _)); exact BK779.out) hb)
            have n6_ := Aside0.mk (blk_below (g := gb784) (o := .cells #[.int .i64 t780, .slice Ao30 t781.length co30] 26 (0, 0)) (by (with_reducible repeat (first | refine blk_drewN ?_ _ | refine blk_drew ?_ | refine blk_alloc ?_ _)); exact BK784.out) hb)
            have n7_ := Aside0.mk (blk_below (g := gb790) (o := .cells #[.int .i64 t785, .slice Ao37 t786.length co37] 26 (0, 0)) (by (with_reducible repeat (first | refine blk_drewN ?_ _ | refine blk_drew ?_ | refine blk_alloc ?_ _)); exact BK790.out) hb)
            have n8_ := Aside0.mk (below_step (by repeat (first | (with_reducible first | exact HB.out | apply below_alloc | apply pw_below_drewN | apply below_drew1 | refine below_set ?_ GE768.out | refine below_set ?_ GE779.out | refine below_set ?_ GE784.out | refine below_set ?_ GE790.out) | exact HB.out)) hb)
            clear HO_780001
            clear HO_785001
            clear HO_791001
            clear BK768
            clear BK779
            clear BK784
            clear BK790
            clear HB
            have HO_780001 := n0_
            have HO_785001 := n1_
            have HO_791001 := n2_
            have HO795 := n3_
            have BK768 := n4_
            have BK779 := n5_
            have BK784 := n6_
            have BK790 := n7_
            have HB := n8_
            clear n0_ n1_ n2_ n3_ n4_ n5_ n6_ n7_ n8_
            (try clear hb)
            (try clear hb2)
            (try clear hk)
            (try clear hi)
            (try clear ho0)
            obtain ⟨Ao178, co178, eo178⟩ := Kd.R_slice HO795.out
            (first | subst eo178 | (injection eo178 with f1_ f2_ f3_; have f4_ := f1_.symm; have f5_ := f3_.symm; clear f1_ f2_ f3_; subst f4_; subst f5_))
            refine hK.out _ _ ⟨(blk_cell BK784.out 0).trans rfl, (blk_cell BK784.out 1).trans rfl, (blk_cell BK768.out 0).trans rfl, (blk_cell BK768.out 1).trans rfl⟩ (fun hHeld => ?_)
            clear hK K
            refine norm_ (a' := ?_) ?_ ?_
            rotate_left
            · show Act.put _ (some 47) _ = _
              simp only [Act.put, List.setIfInBounds_toArray, List.set_cons_zero, List.set_cons_succ, i64_w, i32_w]
              rfl
            refine one_ (i := 3) (N := some 48) #[true, true, true, true, false] rfl rfl (by kernel_rfl) (by decide) (fun K hK => ?_)
            refine goes_ Try.func25 (by kernel_rfl) rfl #[.agg #[.int .i64 t780, .slice Ao30 t781.length co30], .agg #[.int .i64 t792, .slice Ao178 t793.length co178]] (by rfl) rfl rfl (by (try simp only [List.map_toArray, List.map_cons, List.map_nil]); first | done | rfl | (simp only [List.length_drop, List.length_take]; rfl)) ?_
            with_reducible refine (laws_eqCounter.calls kj11 t780 _ _ t781 t792 _ _ t793 false _ ?side1 ?side2 ?side3 ?side4 A58.out).mono ?_
            (case side1 => repeat (first | exact (Kd.R_reads' HO_785001.out).2.2 | (with_reducible refine Kd.C_alloc ?_ _) | (with_reducible refine Kd.C_drewN ?_ _) | (with_reducible refine Kd.C_drew ?_)))
            (case side2 => exact (Kd.R_reads' HO_785001.out).2.1)
            (case side3 => repeat (first | exact (Kd.R_reads' HO795.out).2.2 | (with_reducible refine Kd.C_alloc ?_ _) | (with_reducible refine Kd.C_drewN ?_ _) | (with_reducible refine Kd.C_drew ?_)))
            (case side4 => exact (Kd.R_reads' HO795.out).2.1)
            rintro e w179 ⟨rfl, hb⟩
            refine ⟨_, rfl, ?_⟩
            have n0_ := Aside0.mk (Kd.R_below (by (with_reducible repeat (first | apply Kd.R_alloc | apply Kd.R_drewN | apply Kd.R_drew)); exact HO_780001.out) hb)
            have n1_ := Aside0.mk (Kd.R_below (by (with_reducible repeat (first | apply Kd.R_alloc | apply Kd.R_drewN | apply Kd.R_drew)); exact HO_785001.out) hb)
            have n2_ := Aside0.mk (Kd.R_below (by (with_reducible repeat (first | apply Kd.R_alloc | apply Kd.R_drewN | apply Kd.R_drew)); exact HO_791001.out) hb)
            have n3_ := Aside0.mk (Kd.R_below (by (with_reducible repeat (first | apply Kd.R_alloc | apply Kd.R_drewN | apply Kd.R_drew)); exact HO795.out) hb)
            have n4_ := Aside0.mk (blk_below (g := gb768) (o := .cells #[.int .i64 a0_0, .slice A0_1 l0_1.length c0_1] 37 (0, 0)) (by (with_reducible repeat (first | refine blk_drewN ?_ _ | refine blk_drew ?_ | refine blk_alloc ?_ _)); exact BK768.out) hb)
            have n5_ := Aside0.mk (blk_below (g := gb779) (o := .cells #[.int .i64 t774, .slice Ao23 t775.length co23] 26 (0, 0)) (by (with_reducible repeat (first | refine blk_drewN ?_ _ | refine blk_drew ?_ | refine blk_alloc ?_ _)); exact BK779.out) hb)
            have n6_ := Aside0.mk (blk_below (g := gb784) (o := .cells #[.int .i64 t780, .slice Ao30 t781.length co30] 26 (0, 0)) (by (with_reducible repeat (first | refine blk_drewN ?_ _ | refine blk_drew ?_ | refine blk_alloc ?_ _)); exact BK784.out) hb)
            have n7_ := Aside0.mk (blk_below (g := gb790) (o := .cells #[.int .i64 t785, .slice Ao37 t786.length co37] 26 (0, 0)) (by (with_reducible repeat (first | refine blk_drewN ?_ _ | refine blk_drew ?_ | refine blk_alloc ?_ _)); exact BK790.out) hb)
            have n8_ := Aside0.mk (below_step (by repeat (first | (with_reducible first | exact HB.out | apply below_alloc | apply pw_below_drewN | apply below_drew1 | refine below_set ?_ GE768.out | refine below_set ?_ GE779.out | refine below_set ?_ GE784.out | refine below_set ?_ GE790.out) | exact HB.out)) hb)
            clear HO_780001
            clear HO_785001
            clear HO_791001
            clear HO795
            clear BK768
            clear BK779
            clear BK784
            clear BK790
            clear HB
            have HO_780001 := n0_
            have HO_785001 := n1_
            have HO_791001 := n2_
            have HO795 := n3_
            have BK768 := n4_
            have BK779 := n5_
            have BK784 := n6_
            have BK790 := n7_
            have HB := n8_
            clear n0_ n1_ n2_ n3_ n4_ n5_ n6_ n7_ n8_
            (try clear hb)
            (try clear hb2)
            (try clear hk)
            (try clear hi)
            refine hK.out _ _ ⟨(blk_cell BK784.out 0).trans rfl, (blk_cell BK784.out 1).trans rfl, (blk_cell BK768.out 0).trans rfl, (blk_cell BK768.out 1).trans rfl⟩ (fun hHeld => ?_)
            clear hK K
            refine norm_ (a' := ?_) ?_ ?_
            rotate_left
            · show Act.put _ (some 48) _ = _
              simp only [Act.put, List.setIfInBounds_toArray, List.set_cons_zero, List.set_cons_succ, i64_w, i32_w]
              rfl
            refine pure_ (i := 4) (N := some 49) (v := ?_) (a' := ?_) #[true, true, true, true, true] rfl rfl (by kernel_rfl) (fun _ _ _ h => h) (Or.inl ⟨by rfl, ?_⟩) ?_ ?_
            rotate_left
            · intro w'
              go_simp
              with_reducible rfl
            rotate_left
            · simp only [Act.put, List.setIfInBounds_toArray, List.set_cons_zero, List.set_cons_succ, i64_w, i32_w]
              rfl
            refine done_ (by kernel_rfl) ?_
            try go_wp2
            go_ret
            exact ⟨by first | rfl | (simp [errW_none, errW_some] <;> rfl) | (simp [*, errW_none, errW_some] <;> rfl), by repeat (first | (with_reducible first | exact HB.out | apply below_alloc | apply pw_below_drewN | apply below_drew1 | refine below_set ?_ GE768.out | refine below_set ?_ GE779.out | refine below_set ?_ GE784.out | refine below_set ?_ GE790.out) | exact HB.out)⟩

/-- THE ONE PURE STATEMENT of laws_FnExactMendCounter. -/
def laws_FnExactMendCounter.Pure : Prop := ∀ (a0_0 : Int) (l0_1 : List Int) (a1 : Int), (Lit.int .i64 a0_0).wf = true → l0_1.length ≤ maxLen → (∀ x ∈ l0_1, (Lit.int .i64 x).wf = true) → (Lit.int .i64 a1).wf = true → ∃ k, laws_FnExactMendCounter.f k a0_0 l0_1 a1 = some true
theorem laws_FnExactMendCounter.walk (P : laws_FnExactMendCounter.Pure) (a0_0 : Int) (a0_1 : Option Addr) (len0_1 cap0_1 : Nat) (z0_1 : List Int) (a1 : Int) (w : World) (w0_0 : (Lit.int .i64 a0_0).wf = true) (w0_1 : (a0_1 = none ∧ len0_1 = 0 ∧ cap0_1 = 0 ∧ z0_1 = []) ∨ ∃ x, a0_1 = some x ∧ len0_1 ≤ cap0_1 ∧ cap0_1 ≤ maxLen ∧ z0_1.length = cap0_1 ∧ (∀ i, i < z0_1.length → w.cell? (x.add i) = some (.int .i64 (z0_1.getD i 0))) ∧ ∀ n ∈ z0_1, (Lit.int .i64 n).wf = true) (w1 : (Lit.int .i64 a1).wf = true) :
    Calls Try.prog 14 #[.agg #[.int .i64 a0_0, .slice a0_1 len0_1 cap0_1], .int .i64 a1] w fun e w' => e = .returned (.bool true) ∧ Below w.heap.size w w' := by
  obtain ⟨l0_1, rfl, hr0_1, hm0_1, hw0_1, hc0_1⟩ := ReadsInt.ofRowC w0_1
  obtain ⟨k, h⟩ := P a0_0 l0_1 a1 w0_0 hm0_1 hw0_1 w1
  refine (laws_FnExactMendCounter.calls k a0_0 _ _ l0_1 a1 true w (Kd.C_of_reads (d := (0 : Int)) (h1 := fun _ => rfl) hr0_1) hc0_1 h).mono ?_
  rintro e w' ⟨rfl, hd⟩
  exact ⟨rfl, hd⟩

end Go.Proofs.Ytomepieklgplgaa.P
