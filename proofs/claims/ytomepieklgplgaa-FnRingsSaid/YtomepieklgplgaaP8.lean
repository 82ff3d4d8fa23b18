-- Written by this session's own program wip/drive.py (it drives print.py of the kit; contracts of its own beside).
import Derived.Test.YtomepieklgplgaaP0
import Derived.Test.YtomepieklgplgaaP1
import Derived.Test.YtomepieklgplgaaP2
import Derived.Test.YtomepieklgplgaaP5
import Derived.Test.YtomepieklgplgaaP7
import Derived.Test.YtomepieklgplgaaExtValid
namespace Go.Proofs.Ytomepieklgplgaa.P
open Go.RowKit Go.Proofs.YtomepieklgplgaaW.PrintWords Go.Proofs.YtomepieklgplgaaW.PrintLast Go.Proofs.YtomepieklgplgaaW.PrintMore
attribute [local go_sem] max2_int min2_int max_two min_two max_three min_three max_four min_four   -- for this text's walks alone
set_option linter.unusedVariables false
set_option linter.unusedSimpArgs false

/-! ### laws_FnRings: function 3 -/
mutual
def laws_FnRings.j0 : Nat → List Int → Int → List (List Int) → Bool → Int → List Int → Option (Bool)
  | 0, _, _, _, _, _, _ => none
  | k + 1, x1, x6, x7, x50, x292000, x292001 => if x50 = true then (some false) else (if 0 ≤ x6 then (if (x6 : Int).toNat ≤ 281474976710656 then (laws_FnRings.l0 k x1 x6 x7 (List.replicate (x6 : Int).toNat false) 0 x292000 x292001) else (none)) else (none))
def laws_FnRings.l0 : Nat → List Int → Int → List (List Int) → List Bool → Int → Int → List Int → Option (Bool)
  | 0, _, _, _, _, _, _, _ => none
  | k + 1, x1, x6, x7, x9, x10, x292000, x292001 => if x10 < (x7.length : Int) then (laws_FnRings.l1 k x1 x6 x7 x9 x10 0 x292000 x292001) else (laws_FnRings.l2 k x1 x6 x9 0 x292000 x292001)
def laws_FnRings.l1 : Nat → List Int → Int → List (List Int) → List Bool → Int → Int → Int → List Int → Option (Bool)
  | 0, _, _, _, _, _, _, _, _ => none
  | k + 1, x1, x6, x7, x9, x10, x11, x292000, x292001 => if 0 ≤ x10 then (if x10 < (x7.length : Int) then (if x11 < ((rd_L2 x7 x10).length : Int) then (if 0 ≤ x11 then (if (rd (rd_L2 x7 x10) x11) < 0 then (some false) else (if (rd (rd_L2 x7 x10) x11) ≥ x6 then (some false) else (if 0 ≤ (rd (rd_L2 x7 x10) x11) then (if (rd (rd_L2 x7 x10) x11) < (x9.length : Int) then (if rdOf false x9 (rd (rd_L2 x7 x10) x11) = true then (some false) else (if (rd (rd_L2 x7 x10) x11) < (x292001.length : Int) then (if ((rd_L2 x7 x10).length : Int) = 0 then (none) else (if 0 ≤ (Int.tmod (wrap64 (x11 + 1)) ((rd_L2 x7 x10).length : Int)) then (if (Int.tmod (wrap64 (x11 + 1)) ((rd_L2 x7 x10).length : Int)) < ((rd_L2 x7 x10).length : Int) then (if (rd x292001 (rd (rd_L2 x7 x10) x11)) = (rd (rd_L2 x7 x10) (Int.tmod (wrap64 (x11 + 1)) ((rd_L2 x7 x10).length : Int))) then (if 0 < ((rd_L2 x7 x10).length : Int) then (if (rd (rd_L2 x7 x10) x11) < (rd (rd_L2 x7 x10) 0) then (some false) else (laws_FnRings.l1 k x1 x6 x7 (x9.set ((rd (rd_L2 x7 x10) x11) : Int).toNat true) x10 (wrap64 (x11 + 1)) x292000 x292001)) else (none)) else (some false)) else (none)) else (none))) else (none))) else (none)) else (none)))) else (none)) else (if x10 > 0 then (if 0 < ((rd_L2 x7 x10).length : Int) then (if 0 ≤ (wrap64 (x10 - 1)) then (if (wrap64 (x10 - 1)) < (x7.length : Int) then (if 0 < ((rd_L2 x7 (wrap64 (x10 - 1))).length : Int) then (if (rd (rd_L2 x7 x10) 0) ≤ (rd (rd_L2 x7 (wrap64 (x10 - 1))) 0) then (some false) else (laws_FnRings.l0 k x1 x6 x7 x9 (wrap64 (x10 + 1)) x292000 x292001)) else (none)) else (none)) else (none)) else (none)) else (laws_FnRings.l0 k x1 x6 x7 x9 (wrap64 (x10 + 1)) x292000 x292001))) else (none)) else (none)
def laws_FnRings.l2 : Nat → List Int → Int → List Bool → Int → Int → List Int → Option (Bool)
  | 0, _, _, _, _, _, _ => none
  | k + 1, x1, x6, x9, x13, x292000, x292001 => if x13 < x6 then ((impl_TailOf.f k x292000 x292001 x13).bind fun bt315 => (laws_FnRings.l3 k x1 x6 x9 x13 bt315.1 bt315.2 x13 0 x292000 x292001)) else ((laws_r8At.f x1 0 x6).bind fun t321 => ((laws_r8At.f x1 1 200).bind fun t322 => (laws_FnRings.l4 k x6 x9 t321 t322 t321 0 x292000 x292001)))
def laws_FnRings.l3 : Nat → List Int → Int → List Bool → Int → Int → Bool → Int → Int → Int → List Int → Option (Bool)
  | 0, _, _, _, _, _, _, _, _, _, _ => none
  | k + 1, x1, x6, x9, x13, x14, x15, x16, x17, x292000, x292001 => if x17 < x6 then (if 0 ≤ x16 then (if x16 < (x9.length : Int) then (if rdOf false x9 x16 = true then (if x15 = true then (if x17 = x14 then (laws_FnRings.l2 k x1 x6 x9 (wrap64 (x13 + 1)) x292000 x292001) else (some false)) else (some false)) else (if x16 < (x292001.length : Int) then (laws_FnRings.l3 k x1 x6 x9 x13 x14 x15 (rd x292001 x16) (wrap64 (x17 + 1)) x292000 x292001) else (none))) else (none)) else (none)) else (if x15 = true then (if x17 = x14 then (if 0 ≤ x16 then (if x16 < (x9.length : Int) then (if rdOf false x9 x16 = true then (laws_FnRings.l2 k x1 x6 x9 (wrap64 (x13 + 1)) x292000 x292001) else (some false)) else (none)) else (none)) else (some false)) else (some false))
def laws_FnRings.l4 : Nat → Int → List Bool → Int → Int → Int → Int → Int → List Int → Option (Bool)
  | 0, _, _, _, _, _, _, _, _ => none
  | k + 1, x6, x9, x18, x19, x20, x21, x292000, x292001 => if x21 < x19 then (if 0 ≤ x20 then (if x20 < (x292001.length : Int) then (laws_FnRings.l4 k x6 x9 x18 x19 (rd x292001 x20) (wrap64 (x21 + 1)) x292000 x292001) else (none)) else (none)) else ((impl_StateAfter.f k x292000 x292001 x18 x19).bind fun bt324 => ((impl_StateAfter.f k x292000 x292001 x18 1000000000).bind fun bt326 => (if bt324.2 = true then (if bt326.2 = true then (if bt324.1 = x20 then (if bt326.1 ≥ 0 then (if bt326.1 < x6 then (if 0 ≤ bt326.1 then (if bt326.1 < (x9.length : Int) then (some (rdOf false x9 bt326.1)) else (none)) else (none)) else (some false)) else (some false)) else (some false)) else (some false)) else (some false))))
end
def laws_FnRings.f (k : Nat) (l0 : List Int) (l1 : List Int) : Option (Bool) := (laws_r8Long.f l0 l1).bind fun t286 => (if t286 = true then (some true) else ((spec_R8Counter.f k l0).bind fun bt287 => ((impl_RingsOf.f k bt287.1 bt287.2).bind fun bt292 => (if bt292.2 = true then (if (bt292.1.length : Int) = 0 then (laws_FnRings.j0 k l1 (bt287.2.length : Int) bt292.1 true bt287.1 bt287.2) else ((impl_ValidCounter.f bt287.1 bt287.2).bind fun t296 => (laws_FnRings.j0 k l1 (bt287.2.length : Int) bt292.1 (!t296) bt287.1 bt287.2))) else (laws_FnRings.j0 k l1 (bt287.2.length : Int) bt292.1 true bt287.1 bt287.2)))))
theorem laws_FnRings.mono_l : ∀ k, (∀ y0 y1 y2 y3 y4 y5, LeO (laws_FnRings.j0 k y0 y1 y2 y3 y4 y5) (laws_FnRings.j0 (k + 1) y0 y1 y2 y3 y4 y5)) ∧ (∀ y0 y1 y2 y3 y4 y5 y6, LeO (laws_FnRings.l0 k y0 y1 y2 y3 y4 y5 y6) (laws_FnRings.l0 (k + 1) y0 y1 y2 y3 y4 y5 y6)) ∧ (∀ y0 y1 y2 y3 y4 y5 y6 y7, LeO (laws_FnRings.l1 k y0 y1 y2 y3 y4 y5 y6 y7) (laws_FnRings.l1 (k + 1) y0 y1 y2 y3 y4 y5 y6 y7)) ∧ (∀ y0 y1 y2 y3 y4 y5, LeO (laws_FnRings.l2 k y0 y1 y2 y3 y4 y5) (laws_FnRings.l2 (k + 1) y0 y1 y2 y3 y4 y5)) ∧ (∀ y0 y1 y2 y3 y4 y5 y6 y7 y8 y9, LeO (laws_FnRings.l3 k y0 y1 y2 y3 y4 y5 y6 y7 y8 y9) (laws_FnRings.l3 (k + 1) y0 y1 y2 y3 y4 y5 y6 y7 y8 y9)) ∧ (∀ y0 y1 y2 y3 y4 y5 y6 y7, LeO (laws_FnRings.l4 k y0 y1 y2 y3 y4 y5 y6 y7) (laws_FnRings.l4 (k + 1) y0 y1 y2 y3 y4 y5 y6 y7))
  | 0 => ⟨fun _ _ _ _ _ _ r h => by simp [laws_FnRings.j0] at h, fun _ _ _ _ _ _ _ r h => by simp [laws_FnRings.l0] at h, fun _ _ _ _ _ _ _ _ r h => by simp [laws_FnRings.l1] at h, fun _ _ _ _ _ _ r h => by simp [laws_FnRings.l2] at h, fun _ _ _ _ _ _ _ _ _ _ r h => by simp [laws_FnRings.l3] at h, fun _ _ _ _ _ _ _ _ r h => by simp [laws_FnRings.l4] at h⟩
  | k + 1 => by
    obtain ⟨ih0, ih1, ih2, ih3, ih4, ih5⟩ := laws_FnRings.mono_l k
    refine ⟨?_, ?_, ?_, ?_, ?_, ?_⟩
    · intro y0 y1 y2 y3 y4 y5
      unfold laws_FnRings.j0
      repeat' first
      | (with_reducible exact ih0 _ _ _ _ _ _)
      | (with_reducible exact ih1 _ _ _ _ _ _ _)
      | (with_reducible exact ih2 _ _ _ _ _ _ _ _)
      | (with_reducible exact ih3 _ _ _ _ _ _)
      | (with_reducible exact ih4 _ _ _ _ _ _ _ _ _ _)
      | (with_reducible exact ih5 _ _ _ _ _ _ _ _)
      | (with_reducible exact impl_RingsOf.mono _ _ _)
      | (with_reducible exact impl_StateAfter.mono _ _ _ _ _)
      | (with_reducible exact impl_TailOf.mono _ _ _ _)
      | (with_reducible exact spec_R8Counter.mono _ _)
      | (with_reducible exact LeO.refl _)
      | (with_reducible exact LeO.none _)
      | (with_reducible refine LeO.ite ?_ ?_)
      | (with_reducible refine LeO.bind ?_ (fun _ => ?_))
      | exact ih0 _ _ _ _ _ _
      | exact ih1 _ _ _ _ _ _ _
      | exact ih2 _ _ _ _ _ _ _ _
      | exact ih3 _ _ _ _ _ _
      | exact ih4 _ _ _ _ _ _ _ _ _ _
      | exact ih5 _ _ _ _ _ _ _ _
      | exact impl_RingsOf.mono _ _ _
      | exact impl_StateAfter.mono _ _ _ _ _
      | exact impl_TailOf.mono _ _ _ _
      | exact spec_R8Counter.mono _ _
      | exact LeO.none _
      | refine LeO.ite ?_ ?_
      | refine LeO.bind ?_ (fun _ => ?_)
    · intro y0 y1 y2 y3 y4 y5 y6
      unfold laws_FnRings.l0
      repeat' first
      | (with_reducible exact ih0 _ _ _ _ _ _)
      | (with_reducible exact ih1 _ _ _ _ _ _ _)
      | (with_reducible exact ih2 _ _ _ _ _ _ _ _)
      | (with_reducible exact ih3 _ _ _ _ _ _)
      | (with_reducible exact ih4 _ _ _ _ _ _ _ _ _ _)
      | (with_reducible exact ih5 _ _ _ _ _ _ _ _)
      | (with_reducible exact impl_RingsOf.mono _ _ _)
      | (with_reducible exact impl_StateAfter.mono _ _ _ _ _)
      | (with_reducible exact impl_TailOf.mono _ _ _ _)
      | (with_reducible exact spec_R8Counter.mono _ _)
      | (with_reducible exact LeO.refl _)
      | (with_reducible exact LeO.none _)
      | (with_reducible refine LeO.ite ?_ ?_)
      | (with_reducible refine LeO.bind ?_ (fun _ => ?_))
      | exact ih0 _ _ _ _ _ _
      | exact ih1 _ _ _ _ _ _ _
      | exact ih2 _ _ _ _ _ _ _ _
      | exact ih3 _ _ _ _ _ _
      | exact ih4 _ _ _ _ _ _ _ _ _ _
      | exact ih5 _ _ _ _ _ _ _ _
      | exact impl_RingsOf.mono _ _ _
      | exact impl_StateAfter.mono _ _ _ _ _
      | exact impl_TailOf.mono _ _ _ _
      | exact spec_R8Counter.mono _ _
      | exact LeO.none _
      | refine LeO.ite ?_ ?_
      | refine LeO.bind ?_ (fun _ => ?_)
    · intro y0 y1 y2 y3 y4 y5 y6 y7
      unfold laws_FnRings.l1
      repeat' first
      | (with_reducible exact ih0 _ _ _ _ _ _)
      | (with_reducible exact ih1 _ _ _ _ _ _ _)
      | (with_reducible exact ih2 _ _ _ _ _ _ _ _)
      | (with_reducible exact ih3 _ _ _ _ _ _)
      | (with_reducible exact ih4 _ _ _ _ _ _ _ _ _ _)
      | (with_reducible exact ih5 _ _ _ _ _ _ _ _)
      | (with_reducible exact impl_RingsOf.mono _ _ _)
      | (with_reducible exact impl_StateAfter.mono _ _ _ _ _)
      | (with_reducible exact impl_TailOf.mono _ _ _ _)
      | (with_reducible exact spec_R8Counter.mono _ _)
      | (with_reducible exact LeO.refl _)
      | (with_reducible exact LeO.none _)
      | (with_reducible refine LeO.ite ?_ ?_)
      | (with_reducible refine LeO.bind ?_ (fun _ => ?_))
      | exact ih0 _ _ _ _ _ _
      | exact ih1 _ _ _ _ _ _ _
      | exact ih2 _ _ _ _ _ _ _ _
      | exact ih3 _ _ _ _ _ _
      | exact ih4 _ _ _ _ _ _ _ _ _ _
      | exact ih5 _ _ _ _ _ _ _ _
      | exact impl_RingsOf.mono _ _ _
      | exact impl_StateAfter.mono _ _ _ _ _
      | exact impl_TailOf.mono _ _ _ _
      | exact spec_R8Counter.mono _ _
      | exact LeO.none _
      | refine LeO.ite ?_ ?_
      | refine LeO.bind ?_ (fun _ => ?_)
    · intro y0 y1 y2 y3 y4 y5
      unfold laws_FnRings.l2
      repeat' first
      | (with_reducible exact ih0 _ _ _ _ _ _)
      | (with_reducible exact ih1 _ _ _ _ _ _ _)
      | (with_reducible exact ih2 _ _ _ _ _ _ _ _)
      | (with_reducible exact ih3 _ _ _ _ _ _)
      | (with_reducible exact ih4 _ _ _ _ _ _ _ _ _ _)
      | (with_reducible exact ih5 _ _ _ _ _ _ _ _)
      | (with_reducible exact impl_RingsOf.mono _ _ _)
      | (with_reducible exact impl_StateAfter.mono _ _ _ _ _)
      | (with_reducible exact impl_TailOf.mono _ _ _ _)
      | (with_reducible exact spec_R8Counter.mono _ _)
      | (with_reducible exact LeO.refl _)
      | (with_reducible exact LeO.none _)
      | (with_reducible refine LeO.ite ?_ ?_)
      | (with_reducible refine LeO.bind ?_ (fun _ => ?_))
      | exact ih0 _ _ _ _ _ _
      | exact ih1 _ _ _ _ _ _ _
      | exact ih2 _ _ _ _ _ _ _ _
      | exact ih3 _ _ _ _ _ _
      | exact ih4 _ _ _ _ _ _ _ _ _ _
      | exact ih5 _ _ _ _ _ _ _ _
      | exact impl_RingsOf.mono _ _ _
      | exact impl_StateAfter.mono _ _ _ _ _
      | exact impl_TailOf.mono _ _ _ _
      | exact spec_R8Counter.mono _ _
      | exact LeO.none _
      | refine LeO.ite ?_ ?_
      | refine LeO.bind ?_ (fun _ => ?_)
    · intro y0 y1 y2 y3 y4 y5 y6 y7 y8 y9
      unfold laws_FnRings.l3
      repeat' first
      | (with_reducible exact ih0 _ _ _ _ _ _)
      | (with_reducible exact ih1 _ _ _ _ _ _ _)
      | (with_reducible exact ih2 _ _ _ _ _ _ _ _)
      | (with_reducible exact ih3 _ _ _ _ _ _)
      | (with_reducible exact ih4 _ _ _ _ _ _ _ _ _ _)
      | (with_reducible exact ih5 _ _ _ _ _ _ _ _)
      | (with_reducible exact impl_RingsOf.mono _ _ _)
      | (with_reducible exact impl_StateAfter.mono _ _ _ _ _)
      | (with_reducible exact impl_TailOf.mono _ _ _ _)
      | (with_reducible exact spec_R8Counter.mono _ _)
      | (with_reducible exact LeO.refl _)
      | (with_reducible exact LeO.none _)
      | (with_reducible refine LeO.ite ?_ ?_)
      | (with_reducible refine LeO.bind ?_ (fun _ => ?_))
      | exact ih0 _ _ _ _ _ _
      | exact ih1 _ _ _ _ _ _ _
      | exact ih2 _ _ _ _ _ _ _ _
      | exact ih3 _ _ _ _ _ _
      | exact ih4 _ _ _ _ _ _ _ _ _ _
      | exact ih5 _ _ _ _ _ _ _ _
      | exact impl_RingsOf.mono _ _ _
      | exact impl_StateAfter.mono _ _ _ _ _
      | exact impl_TailOf.mono _ _ _ _
      | exact spec_R8Counter.mono _ _
      | exact LeO.none _
      | refine LeO.ite ?_ ?_
      | refine LeO.bind ?_ (fun _ => ?_)
    · intro y0 y1 y2 y3 y4 y5 y6 y7
      unfold laws_FnRings.l4
      repeat' first
      | (with_reducible exact ih0 _ _ _ _ _ _)
      | (with_reducible exact ih1 _ _ _ _ _ _ _)
      | (with_reducible exact ih2 _ _ _ _ _ _ _ _)
      | (with_reducible exact ih3 _ _ _ _ _ _)
      | (with_reducible exact ih4 _ _ _ _ _ _ _ _ _ _)
      | (with_reducible exact ih5 _ _ _ _ _ _ _ _)
      | (with_reducible exact impl_RingsOf.mono _ _ _)
      | (with_reducible exact impl_StateAfter.mono _ _ _ _ _)
      | (with_reducible exact impl_TailOf.mono _ _ _ _)
      | (with_reducible exact spec_R8Counter.mono _ _)
      | (with_reducible exact LeO.refl _)
      | (with_reducible exact LeO.none _)
      | (with_reducible refine LeO.ite ?_ ?_)
      | (with_reducible refine LeO.bind ?_ (fun _ => ?_))
      | exact ih0 _ _ _ _ _ _
      | exact ih1 _ _ _ _ _ _ _
      | exact ih2 _ _ _ _ _ _ _ _
      | exact ih3 _ _ _ _ _ _
      | exact ih4 _ _ _ _ _ _ _ _ _ _
      | exact ih5 _ _ _ _ _ _ _ _
      | exact impl_RingsOf.mono _ _ _
      | exact impl_StateAfter.mono _ _ _ _ _
      | exact impl_TailOf.mono _ _ _ _
      | exact spec_R8Counter.mono _ _
      | exact LeO.none _
      | refine LeO.ite ?_ ?_
      | refine LeO.bind ?_ (fun _ => ?_)
theorem laws_FnRings.mono : ∀ a0 a1 k, LeO (laws_FnRings.f k a0 a1) (laws_FnRings.f (k + 1) a0 a1) := by
  intro a0 a1 k
  obtain ⟨ih0, ih1, ih2, ih3, ih4, ih5⟩ := laws_FnRings.mono_l k
  unfold laws_FnRings.f
  repeat' first
      | (with_reducible exact ih0 _ _ _ _ _ _)
      | (with_reducible exact ih1 _ _ _ _ _ _ _)
      | (with_reducible exact ih2 _ _ _ _ _ _ _ _)
      | (with_reducible exact ih3 _ _ _ _ _ _)
      | (with_reducible exact ih4 _ _ _ _ _ _ _ _ _ _)
      | (with_reducible exact ih5 _ _ _ _ _ _ _ _)
      | (with_reducible exact impl_RingsOf.mono _ _ _)
      | (with_reducible exact impl_StateAfter.mono _ _ _ _ _)
      | (with_reducible exact impl_TailOf.mono _ _ _ _)
      | (with_reducible exact spec_R8Counter.mono _ _)
      | (with_reducible exact LeO.refl _)
      | (with_reducible exact LeO.none _)
      | (with_reducible refine LeO.ite ?_ ?_)
      | (with_reducible refine LeO.bind ?_ (fun _ => ?_))
      | exact ih0 _ _ _ _ _ _
      | exact ih1 _ _ _ _ _ _ _
      | exact ih2 _ _ _ _ _ _ _ _
      | exact ih3 _ _ _ _ _ _
      | exact ih4 _ _ _ _ _ _ _ _ _ _
      | exact ih5 _ _ _ _ _ _ _ _
      | exact impl_RingsOf.mono _ _ _
      | exact impl_StateAfter.mono _ _ _ _ _
      | exact impl_TailOf.mono _ _ _ _
      | exact spec_R8Counter.mono _ _
      | exact LeO.none _
      | refine LeO.ite ?_ ?_
      | refine LeO.bind ?_ (fun _ => ?_)
set_option maxHeartbeats 8000000 in
set_option maxRecDepth 100000 in
theorem laws_FnRings.calls (k : Nat) (A0 : Option Addr) (c0 : Nat) (l0 : List Int) (A1 : Option Addr) (c1 : Nat) (l1 : List Int) (r : Bool) (w : World) (hr0 : Kd.C (Kd.int .u8) w A0 l0.length l0) (hc0 : l0.length ≤ c0) (hr1 : Kd.C (Kd.int .u8) w A1 l1.length l1) (hc1 : l1.length ≤ c1) (h : laws_FnRings.f k l0 l1 = some r) (hrt_ : r = true) :
    Calls Try.prog 3 #[.slice A0 l0.length c0, .slice A1 l1.length c1] w fun e w' => e = .returned (.bool r) ∧ Below w.heap.size w w' := by
  have HRT := Aside0.mk hrt_
  clear hrt_
  have hu26 := Try.underlying26
  have HR0 := Aside0.mk hr0
  have HC0 := Aside0.mk hc0
  clear hr0 hc0
  have HR1 := Aside0.mk hr1
  have HC1 := Aside0.mk hc1
  clear hr1 hc1
  have HB := Aside0.mk (Below.refl w.heap.size w)
  have H : ((laws_r8Long.f l0 l1).bind fun t286 => (if t286 = true then (some true) else ((spec_R8Counter.f k l0).bind fun bt287 => ((impl_RingsOf.f k bt287.1 bt287.2).bind fun bt292 => (if bt292.2 = true then (if (bt292.1.length : Int) = 0 then (laws_FnRings.j0 k l1 (bt287.2.length : Int) bt292.1 true bt287.1 bt287.2) else ((impl_ValidCounter.f bt287.1 bt287.2).bind fun t296 => (laws_FnRings.j0 k l1 (bt287.2.length : Int) bt292.1 (!t296) bt287.1 bt287.2))) else (laws_FnRings.j0 k l1 (bt287.2.length : Int) bt292.1 true bt287.1 bt287.2)))))) = some r := h
  clear h
  replace H := Option.bind_eq_some_iff.mp H
  obtain ⟨t286, A30, H⟩ := H
  replace H : (if t286 = true then (some true) else ((spec_R8Counter.f k l0).bind fun bt287 => ((impl_RingsOf.f k bt287.1 bt287.2).bind fun bt292 => (if bt292.2 = true then (if (bt292.1.length : Int) = 0 then (laws_FnRings.j0 k l1 (bt287.2.length : Int) bt292.1 true bt287.1 bt287.2) else ((impl_ValidCounter.f bt287.1 bt287.2).bind fun t296 => (laws_FnRings.j0 k l1 (bt287.2.length : Int) bt292.1 (!t296) bt287.1 bt287.2))) else (laws_FnRings.j0 k l1 (bt287.2.length : Int) bt292.1 true bt287.1 bt287.2))))) = some r := H
  have A3 := Aside0.mk A30
  clear A30
  by_cases c4 : t286 = true
  · subst c4
    have H1 : (some true) = some r := by rw [if_pos rfl] at H; exact H
    clear H
    have H := H1
    clear H1
    obtain rfl := Option.some.inj H
    go_enter Try.func3, Try.ntmps3
    go_wp2_with (first | (go_at_call 15; (with_reducible refine (laws_r8Long.calls _ _ l0 _ _ l1 true _ ?side1 ?side2 ?side3 ?side4 A3.out).mono ?_); (case side1 => repeat (first | exact HR0.out | (with_reducible refine Kd.C_alloc ?_ _) | (with_reducible refine Kd.C_drewN ?_ _) | (with_reducible refine Kd.C_drew ?_))); (case side2 => exact HC0.out); (case side3 => repeat (first | exact HR1.out | (with_reducible refine Kd.C_alloc ?_ _) | (with_reducible refine Kd.C_drewN ?_ _) | (with_reducible refine Kd.C_drew ?_))); (case side4 => exact HC1.out); rintro e w' ⟨rfl, ⟨nd, rfl⟩⟩; (try first | exact ⟨rfl, _, World.drewN_drewN _ _ _⟩ | exact ⟨rfl, _, Eq.trans (World.drewN_drewN _ _ _) (congrArg (World.drewN _) (Nat.add_assoc _ _ _))⟩)))
    repeat (go_quiet (first | (go_at_call 15; (with_reducible refine (laws_r8Long.calls _ _ l0 _ _ l1 true _ ?side1 ?side2 ?side3 ?side4 A3.out).mono ?_); (case side1 => repeat (first | exact HR0.out | (with_reducible refine Kd.C_alloc ?_ _) | (with_reducible refine Kd.C_drewN ?_ _) | (with_reducible refine Kd.C_drew ?_))); (case side2 => exact HC0.out); (case side3 => repeat (first | exact HR1.out | (with_reducible refine Kd.C_alloc ?_ _) | (with_reducible refine Kd.C_drewN ?_ _) | (with_reducible refine Kd.C_drew ?_))); (case side4 => exact HC1.out); rintro e w' ⟨rfl, ⟨nd, rfl⟩⟩; (try first | exact ⟨rfl, _, World.drewN_drewN _ _ _⟩ | exact ⟨rfl, _, Eq.trans (World.drewN_drewN _ _ _) (congrArg (World.drewN _) (Nat.add_assoc _ _ _))⟩))); try go_wp2_with (first | (go_at_call 15; (with_reducible refine (laws_r8Long.calls _ _ l0 _ _ l1 true _ ?side1 ?side2 ?side3 ?side4 A3.out).mono ?_); (case side1 => repeat (first | exact HR0.out | (with_reducible refine Kd.C_alloc ?_ _) | (with_reducible refine Kd.C_drewN ?_ _) | (with_reducible refine Kd.C_drew ?_))); (case side2 => exact HC0.out); (case side3 => repeat (first | exact HR1.out | (with_reducible refine Kd.C_alloc ?_ _) | (with_reducible refine Kd.C_drewN ?_ _) | (with_reducible refine Kd.C_drew ?_))); (case side4 => exact HC1.out); rintro e w' ⟨rfl, ⟨nd, rfl⟩⟩; (try first | exact ⟨rfl, _, World.drewN_drewN _ _ _⟩ | exact ⟨rfl, _, Eq.trans (World.drewN_drewN _ _ _) (congrArg (World.drewN _) (Nat.add_assoc _ _ _))⟩))))
    go_ret
    exact ⟨by first | rfl | (simp [errW_none, errW_some] <;> rfl) | (simp [*, errW_none, errW_some] <;> rfl), by repeat (first | (with_reducible first | exact HB.out | apply below_alloc | apply pw_below_drewN | apply below_drew1) | exact HB.out)⟩
  · replace c4 := Bool.eq_false_iff.mpr c4
    subst c4
    have H1 : ((spec_R8Counter.f k l0).bind fun bt287 => ((impl_RingsOf.f k bt287.1 bt287.2).bind fun bt292 => (if bt292.2 = true then (if (bt292.1.length : Int) = 0 then (laws_FnRings.j0 k l1 (bt287.2.length : Int) bt292.1 true bt287.1 bt287.2) else ((impl_ValidCounter.f bt287.1 bt287.2).bind fun t296 => (laws_FnRings.j0 k l1 (bt287.2.length : Int) bt292.1 (!t296) bt287.1 bt287.2))) else (laws_FnRings.j0 k l1 (bt287.2.length : Int) bt292.1 true bt287.1 bt287.2)))) = some r := by rw [if_neg (show ¬ (false = true) by decide)] at H; exact H
    clear H
    have H := H1
    clear H1
    replace H := Option.bind_eq_some_iff.mp H
    obtain ⟨⟨t287, t288⟩, A50, H⟩ := H
    replace H : ((impl_RingsOf.f k t287 t288).bind fun bt292 => (if bt292.2 = true then (if (bt292.1.length : Int) = 0 then (laws_FnRings.j0 k l1 (t288.length : Int) bt292.1 true t287 t288) else ((impl_ValidCounter.f t287 t288).bind fun t296 => (laws_FnRings.j0 k l1 (t288.length : Int) bt292.1 (!t296) t287 t288))) else (laws_FnRings.j0 k l1 (t288.length : Int) bt292.1 true t287 t288))) = some r := H
    have A5 := Aside0.mk A50
    clear A50
    replace H := Option.bind_eq_some_iff.mp H
    obtain ⟨⟨t292, t295⟩, A60, H⟩ := H
    replace H : (if t295 = true then (if (t292.length : Int) = 0 then (laws_FnRings.j0 k l1 (t288.length : Int) t292 true t287 t288) else ((impl_ValidCounter.f t287 t288).bind fun t296 => (laws_FnRings.j0 k l1 (t288.length : Int) t292 (!t296) t287 t288))) else (laws_FnRings.j0 k l1 (t288.length : Int) t292 true t287 t288)) = some r := H
    have A6 := Aside0.mk A60
    clear A60
    have HC7 := Aside0.mk H
    clear H
    go_enter Try.func3, Try.ntmps3
    go_upto_region 6 with (first | (go_at_call 15; (with_reducible refine (laws_r8Long.calls _ _ l0 _ _ l1 false _ ?side1 ?side2 ?side3 ?side4 A3.out).mono ?_); (case side1 => repeat (first | exact HR0.out | (with_reducible refine Kd.C_alloc ?_ _) | (with_reducible refine Kd.C_drewN ?_ _) | (with_reducible refine Kd.C_drew ?_))); (case side2 => exact HC0.out); (case side3 => repeat (first | exact HR1.out | (with_reducible refine Kd.C_alloc ?_ _) | (with_reducible refine Kd.C_drewN ?_ _) | (with_reducible refine Kd.C_drew ?_))); (case side4 => exact HC1.out); rintro e w' ⟨rfl, ⟨nd, rfl⟩⟩; (try first | exact ⟨rfl, _, World.drewN_drewN _ _ _⟩ | exact ⟨rfl, _, Eq.trans (World.drewN_drewN _ _ _) (congrArg (World.drewN _) (Nat.add_assoc _ _ _))⟩)) | (go_at_call 16; (with_reducible refine (spec_R8Counter.calls k _ _ l0 t287 t288 _ ?side1 ?side2 A5.out).mono ?_); (case side1 => repeat (first | exact HR0.out | (with_reducible refine Kd.C_alloc ?_ _) | (with_reducible refine Kd.C_drewN ?_ _) | (with_reducible refine Kd.C_drew ?_))); (case side2 => exact HC0.out); rintro e w8 ⟨v289, rfl, ho0, hb⟩; have n0_ := Aside0.mk (Kd.R_lower ho0 (below_size (by repeat (first | (with_reducible first | exact HB.out | apply below_alloc | apply pw_below_drewN | apply below_drew1) | exact HB.out)))); have n1_ := Aside0.mk (below_step (by repeat (first | (with_reducible first | exact HB.out | apply below_alloc | apply pw_below_drewN | apply below_drew1) | exact HB.out)) hb); clear HB; have HO290 := n0_; have HB := n1_; clear n0_ n1_; (try clear hb); (try clear hb2); (try clear hk); (try clear hi); (try clear ho0)) | ((with_reducible refine gate_dst (N := 5) rfl ?_); (try (refine gate_guard (by rfl) ?_; dsimp only)); refine box_event ?hg (N := 5) ?hd (cs := #[.int .i64 0, .slice none 0 0]) (t := 26) ?hr ?_; (case hd => rfl); (case hg => rfl); (case hr => first | (go_simp; done) | (go_simp; rfl)); intro gb291 hg w9 hbox hb; have n0_ := Aside0.mk (Kd.R_below (by (with_reducible repeat (first | apply Kd.R_alloc | apply Kd.R_drewN | apply Kd.R_drew)); exact HO290.out) hb); have n1_ := Aside0.mk (below_step (by repeat (first | (with_reducible first | exact HB.out | apply below_alloc | apply pw_below_drewN | apply below_drew1) | exact HB.out)) hb); have n2_ := Aside0.mk (hbox); have n3_ := Aside0.mk ((by rw [hg]; exact (below_size (by repeat (first | (with_reducible first | exact HB.out | apply below_alloc | apply pw_below_drewN | apply below_drew1) | exact HB.out))) : w.heap.size ≤ gb291)); have n4_ := Aside0.mk ((by rw [hg]; exact (below_size (by repeat (first | (with_reducible first | exact HB.out | apply below_alloc | apply pw_below_drewN | apply below_drew1) | exact HB.out))) : w.heap.size ≤ gb291)); clear HO290; clear HB; have HO290 := n0_; have HB := n1_; have BK291 := n2_; have GW291 := n3_; have GE291 := n4_; clear n0_ n1_ n2_ n3_ n4_; clear hb hbox hg; have hcz10_0 : w9.cell? ⟨gb291, 0, none⟩ = some (.int .i64 0) := (blk_cell BK291.out 0).trans rfl; have hcz10_1 : w9.cell? ⟨gb291, 1, none⟩ = some (.slice none 0 0) := (blk_cell BK291.out 1).trans rfl; have hfz10_0 := blk_frozen BK291.out 0; have hfz10_1 := blk_frozen BK291.out 1; obtain ⟨Ao11, co11, eo11⟩ := Kd.R_slice HO290.out; subst eo11) | (go_at_call 17; (with_reducible refine (impl_RingsOf.calls k t287 _ _ t288 t292 t295 _ ?side1 ?side2 A6.out).mono ?_); (case side1 => refine (Kd.R_reads' (e := 2) (base := w.heap.size) (ok := fun k_ => True) (n := t288.length) (c := co11) ?_).2.2; exact (by (with_reducible repeat (first | apply Kd.R_alloc | apply Kd.R_drewN | apply Kd.R_drew)); exact (Kd.R_mono (Kd.R_far (p := ⟨gb291, 1, none⟩) (Kd.R_far (p := ⟨gb291, 0, none⟩) (Kd.R_types HO290.out BK291.out (by decide)) (fun _ hk => hk.2) (.int .i64 t287)) (fun _ hk => hk.2) (.slice Ao11 t288.length co11)) (fun _ h_ => h_.1)))); (case side2 => exact (Kd.R_reads' HO290.out).2.1); rintro e w12 ⟨v293, rfl, ho0, hb⟩; have n0_ := Aside0.mk (Kd.R_below (by (with_reducible repeat (first | apply Kd.R_alloc | apply Kd.R_drewN | apply Kd.R_drew)); exact (Kd.R_mono (Kd.R_far (p := ⟨gb291, 1, none⟩) (Kd.R_far (p := ⟨gb291, 0, none⟩) (Kd.R_types HO290.out BK291.out (by decide)) (fun _ hk => hk.2) (.int .i64 t287)) (fun _ hk => hk.2) (.slice Ao11 t288.length co11)) (fun _ h_ => h_.1))) hb); have n1_ := Aside0.mk (Kd.S_lower (Kd.S_new' ho0 (Kd.R_lt (by (with_reducible repeat (first | apply Kd.R_alloc | apply Kd.R_drewN | apply Kd.R_drew)); exact (Kd.R_mono (Kd.R_far (p := ⟨gb291, 1, none⟩) (Kd.R_far (p := ⟨gb291, 0, none⟩) (Kd.R_types HO290.out BK291.out (by decide)) (fun _ hk => hk.2) (.int .i64 t287)) (fun _ hk => hk.2) (.slice Ao11 t288.length co11)) (fun _ h_ => h_.1))))) (below_size (by repeat (first | (with_reducible first | exact HB.out | apply below_alloc | apply pw_below_drewN | apply below_drew1 | refine below_set ?_ GE291.out) | exact HB.out)))); have n2_ := Aside0.mk (blk_below (g := gb291) (o := .cells #[.int .i64 t287, .slice Ao11 t288.length co11] 26 (0, 0)) (by (with_reducible repeat (first | refine blk_drewN ?_ _ | refine blk_drew ?_ | refine blk_alloc ?_ _)); refine blk_put (cs := #[.int .i64 t287, .slice none 0 0]) ?_ 1 _ rfl; (with_reducible repeat (first | refine blk_drewN ?_ _ | refine blk_drew ?_ | refine blk_alloc ?_ _)); refine blk_put (cs := #[.int .i64 0, .slice none 0 0]) ?_ 0 _ rfl; (with_reducible repeat (first | refine blk_drewN ?_ _ | refine blk_drew ?_ | refine blk_alloc ?_ _)); exact BK291.out) hb); have n3_ := Aside0.mk (below_step (by repeat (first | (with_reducible first | exact HB.out | apply below_alloc | apply pw_below_drewN | apply below_drew1 | refine below_set ?_ GE291.out) | exact HB.out)) hb); clear HO290; clear BK291; clear HB; have HO290 := n0_; have HO294 := n1_; have BK291 := n2_; have HB := n3_; clear n0_ n1_ n2_ n3_; (try clear hb); (try clear hb2); (try clear hk); (try clear hi); (try clear ho0)))
    repeat (go_quiet (first | (go_at_call 15; (with_reducible refine (laws_r8Long.calls _ _ l0 _ _ l1 false _ ?side1 ?side2 ?side3 ?side4 A3.out).mono ?_); (case side1 => repeat (first | exact HR0.out | (with_reducible refine Kd.C_alloc ?_ _) | (with_reducible refine Kd.C_drewN ?_ _) | (with_reducible refine Kd.C_drew ?_))); (case side2 => exact HC0.out); (case side3 => repeat (first | exact HR1.out | (with_reducible refine Kd.C_alloc ?_ _) | (with_reducible refine Kd.C_drewN ?_ _) | (with_reducible refine Kd.C_drew ?_))); (case side4 => exact HC1.out); rintro e w' ⟨rfl, ⟨nd, rfl⟩⟩; (try first | exact ⟨rfl, _, World.drewN_drewN _ _ _⟩ | exact ⟨rfl, _, Eq.trans (World.drewN_drewN _ _ _) (congrArg (World.drewN _) (Nat.add_assoc _ _ _))⟩)) | (go_at_call 16; (with_reducible refine (spec_R8Counter.calls k _ _ l0 t287 t288 _ ?side1 ?side2 A5.out).mono ?_); (case side1 => repeat (first | exact HR0.out | (with_reducible refine Kd.C_alloc ?_ _) | (with_reducible refine Kd.C_drewN ?_ _) | (with_reducible refine Kd.C_drew ?_))); (case side2 => exact HC0.out); rintro e w8 ⟨v289, rfl, ho0, hb⟩; have n0_ := Aside0.mk (Kd.R_lower ho0 (below_size (by repeat (first | (with_reducible first | exact HB.out | apply below_alloc | apply pw_below_drewN | apply below_drew1) | exact HB.out)))); have n1_ := Aside0.mk (below_step (by repeat (first | (with_reducible first | exact HB.out | apply below_alloc | apply pw_below_drewN | apply below_drew1) | exact HB.out)) hb); clear HB; have HO290 := n0_; have HB := n1_; clear n0_ n1_; (try clear hb); (try clear hb2); (try clear hk); (try clear hi); (try clear ho0)) | ((with_reducible refine gate_dst (N := 5) rfl ?_); (try (refine gate_guard (by rfl) ?_; dsimp only)); refine box_event ?hg (N := 5) ?hd (cs := #[.int .i64 0, .slice none 0 0]) (t := 26) ?hr ?_; (case hd => rfl); (case hg => rfl); (case hr => first | (go_simp; done) | (go_simp; rfl)); intro gb291 hg w9 hbox hb; have n0_ := Aside0.mk (Kd.R_below (by (with_reducible repeat (first | apply Kd.R_alloc | apply Kd.R_drewN | apply Kd.R_drew)); exact HO290.out) hb); have n1_ := Aside0.mk (below_step (by repeat (first | (with_reducible first | exact HB.out | apply below_alloc | apply pw_below_drewN | apply below_drew1) | exact HB.out)) hb); have n2_ := Aside0.mk (hbox); have n3_ := Aside0.mk ((by rw [hg]; exact (below_size (by repeat (first | (with_reducible first | exact HB.out | apply below_alloc | apply pw_below_drewN | apply below_drew1) | exact HB.out))) : w.heap.size ≤ gb291)); have n4_ := Aside0.mk ((by rw [hg]; exact (below_size (by repeat (first | (with_reducible first | exact HB.out | apply below_alloc | apply pw_below_drewN | apply below_drew1) | exact HB.out))) : w.heap.size ≤ gb291)); clear HO290; clear HB; have HO290 := n0_; have HB := n1_; have BK291 := n2_; have GW291 := n3_; have GE291 := n4_; clear n0_ n1_ n2_ n3_ n4_; clear hb hbox hg; have hcz10_0 : w9.cell? ⟨gb291, 0, none⟩ = some (.int .i64 0) := (blk_cell BK291.out 0).trans rfl; have hcz10_1 : w9.cell? ⟨gb291, 1, none⟩ = some (.slice none 0 0) := (blk_cell BK291.out 1).trans rfl; have hfz10_0 := blk_frozen BK291.out 0; have hfz10_1 := blk_frozen BK291.out 1; obtain ⟨Ao11, co11, eo11⟩ := Kd.R_slice HO290.out; subst eo11) | (go_at_call 17; (with_reducible refine (impl_RingsOf.calls k t287 _ _ t288 t292 t295 _ ?side1 ?side2 A6.out).mono ?_); (case side1 => refine (Kd.R_reads' (e := 2) (base := w.heap.size) (ok := fun k_ => True) (n := t288.length) (c := co11) ?_).2.2; exact (by (with_reducible repeat (first | apply Kd.R_alloc | apply Kd.R_drewN | apply Kd.R_drew)); exact (Kd.R_mono (Kd.R_far (p := ⟨gb291, 1, none⟩) (Kd.R_far (p := ⟨gb291, 0, none⟩) (Kd.R_types HO290.out BK291.out (by decide)) (fun _ hk => hk.2) (.int .i64 t287)) (fun _ hk => hk.2) (.slice Ao11 t288.length co11)) (fun _ h_ => h_.1)))); (case side2 => exact (Kd.R_reads' HO290.out).2.1); rintro e w12 ⟨v293, rfl, ho0, hb⟩; have n0_ := Aside0.mk (Kd.R_below (by (with_reducible repeat (first | apply Kd.R_alloc | apply Kd.R_drewN | apply Kd.R_drew)); exact (Kd.R_mono (Kd.R_far (p := ⟨gb291, 1, none⟩) (Kd.R_far (p := ⟨gb291, 0, none⟩) (Kd.R_types HO290.out BK291.out (by decide)) (fun _ hk => hk.2) (.int .i64 t287)) (fun _ hk => hk.2) (.slice Ao11 t288.length co11)) (fun _ h_ => h_.1))) hb); have n1_ := Aside0.mk (Kd.S_lower (Kd.S_new' ho0 (Kd.R_lt (by (with_reducible repeat (first | apply Kd.R_alloc | apply Kd.R_drewN | apply Kd.R_drew)); exact (Kd.R_mono (Kd.R_far (p := ⟨gb291, 1, none⟩) (Kd.R_far (p := ⟨gb291, 0, none⟩) (Kd.R_types HO290.out BK291.out (by decide)) (fun _ hk => hk.2) (.int .i64 t287)) (fun _ hk => hk.2) (.slice Ao11 t288.length co11)) (fun _ h_ => h_.1))))) (below_size (by repeat (first | (with_reducible first | exact HB.out | apply below_alloc | apply pw_below_drewN | apply below_drew1 | refine below_set ?_ GE291.out) | exact HB.out)))); have n2_ := Aside0.mk (blk_below (g := gb291) (o := .cells #[.int .i64 t287, .slice Ao11 t288.length co11] 26 (0, 0)) (by (with_reducible repeat (first | refine blk_drewN ?_ _ | refine blk_drew ?_ | refine blk_alloc ?_ _)); refine blk_put (cs := #[.int .i64 t287, .slice none 0 0]) ?_ 1 _ rfl; (with_reducible repeat (first | refine blk_drewN ?_ _ | refine blk_drew ?_ | refine blk_alloc ?_ _)); refine blk_put (cs := #[.int .i64 0, .slice none 0 0]) ?_ 0 _ rfl; (with_reducible repeat (first | refine blk_drewN ?_ _ | refine blk_drew ?_ | refine blk_alloc ?_ _)); exact BK291.out) hb); have n3_ := Aside0.mk (below_step (by repeat (first | (with_reducible first | exact HB.out | apply below_alloc | apply pw_below_drewN | apply below_drew1 | refine below_set ?_ GE291.out) | exact HB.out)) hb); clear HO290; clear BK291; clear HB; have HO290 := n0_; have HO294 := n1_; have BK291 := n2_; have HB := n3_; clear n0_ n1_ n2_ n3_; (try clear hb); (try clear hb2); (try clear hk); (try clear hi); (try clear ho0))); go_upto_region 6 with (first | (go_at_call 15; (with_reducible refine (laws_r8Long.calls _ _ l0 _ _ l1 false _ ?side1 ?side2 ?side3 ?side4 A3.out).mono ?_); (case side1 => repeat (first | exact HR0.out | (with_reducible refine Kd.C_alloc ?_ _) | (with_reducible refine Kd.C_drewN ?_ _) | (with_reducible refine Kd.C_drew ?_))); (case side2 => exact HC0.out); (case side3 => repeat (first | exact HR1.out | (with_reducible refine Kd.C_alloc ?_ _) | (with_reducible refine Kd.C_drewN ?_ _) | (with_reducible refine Kd.C_drew ?_))); (case side4 => exact HC1.out); rintro e w' ⟨rfl, ⟨nd, rfl⟩⟩; (try first | exact ⟨rfl, _, World.drewN_drewN _ _ _⟩ | exact ⟨rfl, _, Eq.trans (World.drewN_drewN _ _ _) (congrArg (World.drewN _) (Nat.add_assoc _ _ _))⟩)) | (go_at_call 16; (with_reducible refine (spec_R8Counter.calls k _ _ l0 t287 t288 _ ?side1 ?side2 A5.out).mono ?_); (case side1 => repeat (first | exact HR0.out | (with_reducible refine Kd.C_alloc ?_ _) | (with_reducible refine Kd.C_drewN ?_ _) | (with_reducible refine Kd.C_drew ?_))); (case side2 => exact HC0.out); rintro e w8 ⟨v289, rfl, ho0, hb⟩; have n0_ := Aside0.mk (Kd.R_lower ho0 (below_size (by repeat (first | (with_reducible first | exact HB.out | apply below_alloc | apply pw_below_drewN | apply below_drew1) | exact HB.out)))); have n1_ := Aside0.mk (below_step (by repeat (first | (with_reducible first | exact HB.out | apply below_alloc | apply pw_below_drewN | apply below_drew1) | exact HB.out)) hb); clear HB; have HO290 := n0_; have HB := n1_; clear n0_ n1_; (try clear hb); (try clear hb2); (try clear hk); (try clear hi); (try clear ho0)) | ((with_reducible refine gate_dst (N := 5) rfl ?_); (try (refine gate_guard (by rfl) ?_; dsimp only)); refine box_event ?hg (N := 5) ?hd (cs := #[.int .i64 0, .slice none 0 0]) (t := 26) ?hr ?_; (case hd => rfl); (case hg => rfl); (case hr => first | (go_simp; done) | (go_simp; rfl)); intro gb291 hg w9 hbox hb; have n0_ := Aside0.mk (Kd.R_below (by (with_reducible repeat (first | apply Kd.R_alloc | apply Kd.R_drewN | apply Kd.R_drew)); exact HO290.out) hb); have n1_ := Aside0.mk (below_step (by repeat (first | (with_reducible first | exact HB.out | apply below_alloc | apply pw_below_drewN | apply below_drew1) | exact HB.out)) hb); have n2_ := Aside0.mk (hbox); have n3_ := Aside0.mk ((by rw [hg]; exact (below_size (by repeat (first | (with_reducible first | exact HB.out | apply below_alloc | apply pw_below_drewN | apply below_drew1) | exact HB.out))) : w.heap.size ≤ gb291)); have n4_ := Aside0.mk ((by rw [hg]; exact (below_size (by repeat (first | (with_reducible first | exact HB.out | apply below_alloc | apply pw_below_drewN | apply below_drew1) | exact HB.out))) : w.heap.size ≤ gb291)); clear HO290; clear HB; have HO290 := n0_; have HB := n1_; have BK291 := n2_; have GW291 := n3_; have GE291 := n4_; clear n0_ n1_ n2_ n3_ n4_; clear hb hbox hg; have hcz10_0 : w9.cell? ⟨gb291, 0, none⟩ = some (.int .i64 0) := (blk_cell BK291.out 0).trans rfl; have hcz10_1 : w9.cell? ⟨gb291, 1, none⟩ = some (.slice none 0 0) := (blk_cell BK291.out 1).trans rfl; have hfz10_0 := blk_frozen BK291.out 0; have hfz10_1 := blk_frozen BK291.out 1; obtain ⟨Ao11, co11, eo11⟩ := Kd.R_slice HO290.out; subst eo11) | (go_at_call 17; (with_reducible refine (impl_RingsOf.calls k t287 _ _ t288 t292 t295 _ ?side1 ?side2 A6.out).mono ?_); (case side1 => refine (Kd.R_reads' (e := 2) (base := w.heap.size) (ok := fun k_ => True) (n := t288.length) (c := co11) ?_).2.2; exact (by (with_reducible repeat (first | apply Kd.R_alloc | apply Kd.R_drewN | apply Kd.R_drew)); exact (Kd.R_mono (Kd.R_far (p := ⟨gb291, 1, none⟩) (Kd.R_far (p := ⟨gb291, 0, none⟩) (Kd.R_types HO290.out BK291.out (by decide)) (fun _ hk => hk.2) (.int .i64 t287)) (fun _ hk => hk.2) (.slice Ao11 t288.length co11)) (fun _ h_ => h_.1)))); (case side2 => exact (Kd.R_reads' HO290.out).2.1); rintro e w12 ⟨v293, rfl, ho0, hb⟩; have n0_ := Aside0.mk (Kd.R_below (by (with_reducible repeat (first | apply Kd.R_alloc | apply Kd.R_drewN | apply Kd.R_drew)); exact (Kd.R_mono (Kd.R_far (p := ⟨gb291, 1, none⟩) (Kd.R_far (p := ⟨gb291, 0, none⟩) (Kd.R_types HO290.out BK291.out (by decide)) (fun _ hk => hk.2) (.int .i64 t287)) (fun _ hk => hk.2) (.slice Ao11 t288.length co11)) (fun _ h_ => h_.1))) hb); have n1_ := Aside0.mk (Kd.S_lower (Kd.S_new' ho0 (Kd.R_lt (by (with_reducible repeat (first | apply Kd.R_alloc | apply Kd.R_drewN | apply Kd.R_drew)); exact (Kd.R_mono (Kd.R_far (p := ⟨gb291, 1, none⟩) (Kd.R_far (p := ⟨gb291, 0, none⟩) (Kd.R_types HO290.out BK291.out (by decide)) (fun _ hk => hk.2) (.int .i64 t287)) (fun _ hk => hk.2) (.slice Ao11 t288.length co11)) (fun _ h_ => h_.1))))) (below_size (by repeat (first | (with_reducible first | exact HB.out | apply below_alloc | apply pw_below_drewN | apply below_drew1 | refine below_set ?_ GE291.out) | exact HB.out)))); have n2_ := Aside0.mk (blk_below (g := gb291) (o := .cells #[.int .i64 t287, .slice Ao11 t288.length co11] 26 (0, 0)) (by (with_reducible repeat (first | refine blk_drewN ?_ _ | refine blk_drew ?_ | refine blk_alloc ?_ _)); refine blk_put (cs := #[.int .i64 t287, .slice none 0 0]) ?_ 1 _ rfl; (with_reducible repeat (first | refine blk_drewN ?_ _ | refine blk_drew ?_ | refine blk_alloc ?_ _)); refine blk_put (cs := #[.int .i64 0, .slice none 0 0]) ?_ 0 _ rfl; (with_reducible repeat (first | refine blk_drewN ?_ _ | refine blk_drew ?_ | refine blk_alloc ?_ _)); exact BK291.out) hb); have n3_ := Aside0.mk (below_step (by repeat (first | (with_reducible first | exact HB.out | apply below_alloc | apply pw_below_drewN | apply below_drew1 | refine below_set ?_ GE291.out) | exact HB.out)) hb); clear HO290; clear BK291; clear HB; have HO290 := n0_; have HO294 := n1_; have BK291 := n2_; have HB := n3_; clear n0_ n1_ n2_ n3_; (try clear hb); (try clear hb2); (try clear hk); (try clear hi); (try clear ho0))))
    (try simp only [Act.put, List.setIfInBounds_toArray, List.set_cons_zero, List.set_cons_succ])
    go_cut [50] (fun v50 wc => ∃ (kq : Nat) (x50_6 : Bool), v50 = .bool x50_6 ∧ Aside0 (laws_FnRings.j0 kq l1 (t288.length : Int) t292 x50_6 t287 t288 = some r) ∧ Aside0 (kq ≤ k) ∧ Aside0 (Kd.S (Kd.slice 2 (Kd.int .i64)) 24 wc w.heap.size (fun k_ => some k_ ≠ ((.slice Ao11 t288.length co11) : Value).ownBlock) v293 t292) ∧ Aside0 (Kd.R (Kd.int .i64) 2 wc w.heap.size (fun _ => True) (.slice Ao11 t288.length co11) t288) ∧ Aside0 (wc.heap[gb291]? = some (.cells #[.int .i64 t287, (.slice Ao11 t288.length co11)] 26 (0, 0))) ∧ Aside0 (Below w.heap.size w wc))
    case first =>
      have H := HC7.out
      clear HC7
      by_cases c13 : t295 = true
      · subst c13
        have H1 : (if (t292.length : Int) = 0 then (laws_FnRings.j0 k l1 (t288.length : Int) t292 true t287 t288) else ((impl_ValidCounter.f t287 t288).bind fun t296 => (laws_FnRings.j0 k l1 (t288.length : Int) t292 (!t296) t287 t288))) = some r := by rw [if_pos rfl] at H; exact H
        clear H
        have H := H1
        clear H1
        by_cases c14 : (t292.length : Int) = 0
        · rw [if_pos c14] at H
          have c14b0 : ((t292.length : Int) == 0) = true := beq_iff_eq.mpr c14
          have c14b1 : ((t292.length : Int) != 0) = false := bne_eq_false_iff_eq.mpr c14
          clear c14
          (first | rw [c14b0] | (simp only [i64_w, i32_w]; rw [c14b0]) | skip)
          have H' := Aside0.mk H
          clear H
          obtain ⟨Ao15, co15, eo15⟩ := Kd.S_slice HO294.out
          subst eo15
          go_wp2
          repeat (go_quiet (fail); try go_wp2)
          go_meet
          case rel => exact ⟨_, (true), (by first | rfl | (simp; done) | (simp [*]; done)), H', ⟨by first | omega | exact Nat.le_refl _⟩, ⟨by (with_reducible repeat (first | apply Kd.S_alloc | apply Kd.S_drewN | apply Kd.S_drew)); exact Kd.S_mono HO294.out (fun _ hk => hk.2)⟩, ⟨by (with_reducible repeat (first | apply Kd.R_alloc | apply Kd.R_drewN | apply Kd.R_drew)); exact HO290.out⟩, ⟨by (with_reducible repeat (first | refine blk_drewN ?_ _ | refine blk_drew ?_ | refine blk_alloc ?_ _)); exact BK291.out⟩, ⟨by repeat (first | (with_reducible first | exact HB.out | apply below_alloc | apply pw_below_drewN | apply below_drew1 | refine below_set ?_ GE291.out) | exact HB.out)⟩⟩
        · rw [if_neg c14] at H
          have c14b0 : ((t292.length : Int) == 0) = false := beq_eq_false_iff_ne.mpr c14
          have c14b1 : ((t292.length : Int) != 0) = true := bne_iff_ne.mpr c14
          have c14b2 : ¬ (t292 = []) := fun h_ => c14 (by rw [h_]; rfl)
          (first | rw [c14b0] | (simp only [i64_w, i32_w]; rw [c14b0]) | skip)
          replace H := Option.bind_eq_some_iff.mp H
          obtain ⟨t296, A160, H⟩ := H
          replace H : (laws_FnRings.j0 k l1 (t288.length : Int) t292 (!t296) t287 t288) = some r := H
          have A16 := Aside0.mk A160
          clear A160
          have H' := Aside0.mk H
          clear H
          obtain ⟨Ao17, co17, eo17⟩ := Kd.S_slice HO294.out
          subst eo17
          have hcz18_0 : w12.cell? ⟨gb291, 0, none⟩ = some (.int .i64 t287) := (blk_cell BK291.out 0).trans rfl
          have hcz18_1 : w12.cell? ⟨gb291, 1, none⟩ = some (.slice Ao11 t288.length co11) := (blk_cell BK291.out 1).trans rfl
          have hfz18_0 := blk_frozen BK291.out 0
          have hfz18_1 := blk_frozen BK291.out 1
          go_wp2_with (first | (go_at_call 18; (with_reducible refine (impl_ValidCounter.calls t287 _ _ t288 t296 _ ?side1 ?side2 A16.out).mono ?_); (case side1 => repeat (first | exact (Kd.R_reads' HO290.out).2.2 | (with_reducible refine Kd.C_alloc ?_ _) | (with_reducible refine Kd.C_drewN ?_ _) | (with_reducible refine Kd.C_drew ?_))); (case side2 => exact (Kd.R_reads' HO290.out).2.1); rintro e w19 ⟨rfl, hb⟩; have n0_ := Aside0.mk (Kd.R_below (by (with_reducible repeat (first | apply Kd.R_alloc | apply Kd.R_drewN | apply Kd.R_drew)); exact HO290.out) hb); have n1_ := Aside0.mk (Kd.S_below (by (with_reducible repeat (first | apply Kd.S_alloc | apply Kd.S_drewN | apply Kd.S_drew)); exact HO294.out) hb); have n2_ := Aside0.mk (blk_below (g := gb291) (o := .cells #[.int .i64 t287, .slice Ao11 t288.length co11] 26 (0, 0)) (by (with_reducible repeat (first | refine blk_drewN ?_ _ | refine blk_drew ?_ | refine blk_alloc ?_ _)); exact BK291.out) hb); have n3_ := Aside0.mk (below_step (by repeat (first | (with_reducible first | exact HB.out | apply below_alloc | apply pw_below_drewN | apply below_drew1 | refine below_set ?_ GE291.out) | exact HB.out)) hb); clear HO290; clear HO294; clear BK291; clear HB; have HO290 := n0_; have HO294 := n1_; have BK291 := n2_; have HB := n3_; clear n0_ n1_ n2_ n3_; (try clear hb); (try clear hb2); (try clear hk); (try clear hi)))
          repeat (go_quiet (first | (go_at_call 18; (with_reducible refine (impl_ValidCounter.calls t287 _ _ t288 t296 _ ?side1 ?side2 A16.out).mono ?_); (case side1 => repeat (first | exact (Kd.R_reads' HO290.out).2.2 | (with_reducible refine Kd.C_alloc ?_ _) | (with_reducible refine Kd.C_drewN ?_ _) | (with_reducible refine Kd.C_drew ?_))); (case side2 => exact (Kd.R_reads' HO290.out).2.1); rintro e w19 ⟨rfl, hb⟩; have n0_ := Aside0.mk (Kd.R_below (by (with_reducible repeat (first | apply Kd.R_alloc | apply Kd.R_drewN | apply Kd.R_drew)); exact HO290.out) hb); have n1_ := Aside0.mk (Kd.S_below (by (with_reducible repeat (first | apply Kd.S_alloc | apply Kd.S_drewN | apply Kd.S_drew)); exact HO294.out) hb); have n2_ := Aside0.mk (blk_below (g := gb291) (o := .cells #[.int .i64 t287, .slice Ao11 t288.length co11] 26 (0, 0)) (by (with_reducible repeat (first | refine blk_drewN ?_ _ | refine blk_drew ?_ | refine blk_alloc ?_ _)); exact BK291.out) hb); have n3_ := Aside0.mk (below_step (by repeat (first | (with_reducible first | exact HB.out | apply below_alloc | apply pw_below_drewN | apply below_drew1 | refine below_set ?_ GE291.out) | exact HB.out)) hb); clear HO290; clear HO294; clear BK291; clear HB; have HO290 := n0_; have HO294 := n1_; have BK291 := n2_; have HB := n3_; clear n0_ n1_ n2_ n3_; (try clear hb); (try clear hb2); (try clear hk); (try clear hi))); try go_wp2_with (first | (go_at_call 18; (with_reducible refine (impl_ValidCounter.calls t287 _ _ t288 t296 _ ?side1 ?side2 A16.out).mono ?_); (case side1 => repeat (first | exact (Kd.R_reads' HO290.out).2.2 | (with_reducible refine Kd.C_alloc ?_ _) | (with_reducible refine Kd.C_drewN ?_ _) | (with_reducible refine Kd.C_drew ?_))); (case side2 => exact (Kd.R_reads' HO290.out).2.1); rintro e w19 ⟨rfl, hb⟩; have n0_ := Aside0.mk (Kd.R_below (by (with_reducible repeat (first | apply Kd.R_alloc | apply Kd.R_drewN | apply Kd.R_drew)); exact HO290.out) hb); have n1_ := Aside0.mk (Kd.S_below (by (with_reducible repeat (first | apply Kd.S_alloc | apply Kd.S_drewN | apply Kd.S_drew)); exact HO294.out) hb); have n2_ := Aside0.mk (blk_below (g := gb291) (o := .cells #[.int .i64 t287, .slice Ao11 t288.length co11] 26 (0, 0)) (by (with_reducible repeat (first | refine blk_drewN ?_ _ | refine blk_drew ?_ | refine blk_alloc ?_ _)); exact BK291.out) hb); have n3_ := Aside0.mk (below_step (by repeat (first | (with_reducible first | exact HB.out | apply below_alloc | apply pw_below_drewN | apply below_drew1 | refine below_set ?_ GE291.out) | exact HB.out)) hb); clear HO290; clear HO294; clear BK291; clear HB; have HO290 := n0_; have HO294 := n1_; have BK291 := n2_; have HB := n3_; clear n0_ n1_ n2_ n3_; (try clear hb); (try clear hb2); (try clear hk); (try clear hi))))
          go_meet
          case rel => exact ⟨_, (!t296), (by first | rfl | (simp; done) | (simp [*]; done)), H', ⟨by first | omega | exact Nat.le_refl _⟩, ⟨by (with_reducible repeat (first | apply Kd.S_alloc | apply Kd.S_drewN | apply Kd.S_drew)); exact Kd.S_mono HO294.out (fun _ hk => hk.2)⟩, ⟨by (with_reducible repeat (first | apply Kd.R_alloc | apply Kd.R_drewN | apply Kd.R_drew)); exact HO290.out⟩, ⟨by (with_reducible repeat (first | refine blk_drewN ?_ _ | refine blk_drew ?_ | refine blk_alloc ?_ _)); exact BK291.out⟩, ⟨by repeat (first | (with_reducible first | exact HB.out | apply below_alloc | apply pw_below_drewN | apply below_drew1 | refine below_set ?_ GE291.out) | exact HB.out)⟩⟩
      · replace c13 := Bool.eq_false_iff.mpr c13
        subst c13
        have H1 : (laws_FnRings.j0 k l1 (t288.length : Int) t292 true t287 t288) = some r := by rw [if_neg (show ¬ (false = true) by decide)] at H; exact H
        clear H
        have H := H1
        clear H1
        have H' := Aside0.mk H
        clear H
        go_wp2
        repeat (go_quiet (fail); try go_wp2)
        go_meet
        case rel => exact ⟨_, (true), (by first | rfl | (simp; done) | (simp [*]; done)), H', ⟨by first | omega | exact Nat.le_refl _⟩, ⟨by (with_reducible repeat (first | apply Kd.S_alloc | apply Kd.S_drewN | apply Kd.S_drew)); exact Kd.S_mono HO294.out (fun _ hk => hk.2)⟩, ⟨by (with_reducible repeat (first | apply Kd.R_alloc | apply Kd.R_drewN | apply Kd.R_drew)); exact HO290.out⟩, ⟨by (with_reducible repeat (first | refine blk_drewN ?_ _ | refine blk_drew ?_ | refine blk_alloc ?_ _)); exact BK291.out⟩, ⟨by repeat (first | (with_reducible first | exact HB.out | apply below_alloc | apply pw_below_drewN | apply below_drew1 | refine below_set ?_ GE291.out) | exact HB.out)⟩⟩
    case rest =>
      clear HC7
      try clear c1
      try clear p2
      try clear c3
      try clear c4
      try clear c13
      try clear c14
      try clear c14b0
      try clear c14b1
      try clear c14b2
      try clear hcz10_0
      try clear hcz10_1
      try clear hcz18_0
      try clear hcz18_1
      try clear hfz10_0
      try clear hfz10_1
      try clear hfz18_0
      try clear hfz18_1
      obtain ⟨kq, x50_6, rfl, HA, HJ6, HO_7, HO_292001, BK291, HB⟩ := hcut
      cases kq with
      | zero => exact absurd HA.out (by simp [laws_FnRings.j0])
      | succ kj6 =>
        have H := HA.out
        clear HA
        simp only [laws_FnRings.j0] at H
        by_cases c20 : x50_6 = true
        · subst c20
          have H1 : (some false) = some r := by rw [if_pos rfl] at H; exact H
          clear H
          have H := H1
          clear H1
          obtain rfl := Option.some.inj H
          exact absurd HRT.out (by decide)
        · replace c20 := Bool.eq_false_iff.mpr c20
          subst c20
          have H1 : (if 0 ≤ (t288.length : Int) then (if ((t288.length : Int) : Int).toNat ≤ 281474976710656 then (laws_FnRings.l0 kj6 l1 (t288.length : Int) t292 (List.replicate ((t288.length : Int) : Int).toNat false) 0 t287 t288) else (none)) else (none)) = some r := by rw [if_neg (show ¬ (false = true) by decide)] at H; exact H
          clear H
          have H := H1
          clear H1
          by_cases c21 : 0 ≤ (t288.length : Int)
          · rw [if_pos c21] at H
            have c21b0 := eq_true c21
            have c21b1 : decide (0 ≤ (t288.length : Int)) = true := decide_eq_true c21
            clear c21
            by_cases c22 : ((t288.length : Int) : Int).toNat ≤ 281474976710656
            · rw [if_pos c22] at H
              have c22b0 := eq_true c22
              have c22b1 : decide (((t288.length : Int) : Int).toNat ≤ 281474976710656) = true := decide_eq_true c22
              clear c22
              obtain ⟨y297, hy297⟩ : ∃ y_ : List Bool, y_ = (List.replicate ((t288.length : Int) : Int).toNat false) := ⟨_, rfl⟩
              replace H : (laws_FnRings.l0 kj6 l1 (t288.length : Int) t292 y297 0 t287 t288) = some r := by first | (rw [hy297]; with_reducible exact H) | (have H2_ := (Option.bind_some _ _).symm.trans H; rw [hy297]; with_reducible exact H2_) | (have H2_ := (Option.bind_some _ _).symm.trans H; with_reducible exact H2_) | with_reducible exact H | (rw [hy297]; exact H) | exact H
              have Ny297 := Aside0.mk hy297
              clear hy297
              have H' := Aside0.mk H
              clear H
              go_wp2_with (first | ((with_reducible refine gate_dst (N := 52) rfl ?_); (try (refine gate_guard (by rfl) ?_; dsimp only)); refine Kd.R_make Kd.bool _ 4 rfl (N := 52) rfl 32 _ _ rfl (t288.length : Int) rfl rfl Try.underlying32 (.bool false) 1 info4 rfl (by decide) (by omega) false (ok := fun _ => True) (okp := fun _ => True) rfl (fun _ hk => hk) trivial (of_decide_eq_true (by first | (with_reducible assumption) | assumption)) (Nat.le_trans (Nat.mul_le_mul_right _ (of_decide_eq_true (by first | (with_reducible assumption) | assumption) : (t288.length : Int).toNat ≤ 281474976710656)) (by omega)) (Below.refl _ _) (Nat.le_refl _) ?_; intro v298 w23 ho24 hb hg_ hnew_; clear hg_ hnew_; (first | rw [← Ny297.out] at ho24 | (simp only [Int.reduceToNat] at ho24; rw [← Ny297.out] at ho24)); have n0_ := Aside0.mk (Kd.S_below (by (with_reducible repeat (first | apply Kd.S_alloc | apply Kd.S_drewN | apply Kd.S_drew)); exact HO_7.out) hb); have n1_ := Aside0.mk (Kd.R_below (by (with_reducible repeat (first | apply Kd.R_alloc | apply Kd.R_drewN | apply Kd.R_drew)); exact HO_292001.out) hb); have n2_ := Aside0.mk (Kd.R_lower ho24 (below_size (by repeat (first | (with_reducible first | exact HB.out | apply below_alloc | apply pw_below_drewN | apply below_drew1 | refine below_set ?_ GE291.out) | exact HB.out)))); have n3_ := Aside0.mk (blk_below (g := gb291) (o := .cells #[.int .i64 t287, .slice Ao11 t288.length co11] 26 (0, 0)) (by (with_reducible repeat (first | refine blk_drewN ?_ _ | refine blk_drew ?_ | refine blk_alloc ?_ _)); exact BK291.out) hb); have n4_ := Aside0.mk (below_step (by repeat (first | (with_reducible first | exact HB.out | apply below_alloc | apply pw_below_drewN | apply below_drew1 | refine below_set ?_ GE291.out) | exact HB.out)) hb); clear HO_7; clear HO_292001; clear BK291; clear HB; have HO_7 := n0_; have HO_292001 := n1_; have HO299 := n2_; have BK291 := n3_; have HB := n4_; clear n0_ n1_ n2_ n3_ n4_; clear hb ho24))
              repeat (go_quiet (first | ((with_reducible refine gate_dst (N := 52) rfl ?_); (try (refine gate_guard (by rfl) ?_; dsimp only)); refine Kd.R_make Kd.bool _ 4 rfl (N := 52) rfl 32 _ _ rfl (t288.length : Int) rfl rfl Try.underlying32 (.bool false) 1 info4 rfl (by decide) (by omega) false (ok := fun _ => True) (okp := fun _ => True) rfl (fun _ hk => hk) trivial (of_decide_eq_true (by first | (with_reducible assumption) | assumption)) (Nat.le_trans (Nat.mul_le_mul_right _ (of_decide_eq_true (by first | (with_reducible assumption) | assumption) : (t288.length : Int).toNat ≤ 281474976710656)) (by omega)) (Below.refl _ _) (Nat.le_refl _) ?_; intro v298 w23 ho24 hb hg_ hnew_; clear hg_ hnew_; (first | rw [← Ny297.out] at ho24 | (simp only [Int.reduceToNat] at ho24; rw [← Ny297.out] at ho24)); have n0_ := Aside0.mk (Kd.S_below (by (with_reducible repeat (first | apply Kd.S_alloc | apply Kd.S_drewN | apply Kd.S_drew)); exact HO_7.out) hb); have n1_ := Aside0.mk (Kd.R_below (by (with_reducible repeat (first | apply Kd.R_alloc | apply Kd.R_drewN | apply Kd.R_drew)); exact HO_292001.out) hb); have n2_ := Aside0.mk (Kd.R_lower ho24 (below_size (by repeat (first | (with_reducible first | exact HB.out | apply below_alloc | apply pw_below_drewN | apply below_drew1 | refine below_set ?_ GE291.out) | exact HB.out)))); have n3_ := Aside0.mk (blk_below (g := gb291) (o := .cells #[.int .i64 t287, .slice Ao11 t288.length co11] 26 (0, 0)) (by (with_reducible repeat (first | refine blk_drewN ?_ _ | refine blk_drew ?_ | refine blk_alloc ?_ _)); exact BK291.out) hb); have n4_ := Aside0.mk (below_step (by repeat (first | (with_reducible first | exact HB.out | apply below_alloc | apply pw_below_drewN | apply below_drew1 | refine below_set ?_ GE291.out) | exact HB.out)) hb); clear HO_7; clear HO_292001; clear BK291; clear HB; have HO_7 := n0_; have HO_292001 := n1_; have HO299 := n2_; have BK291 := n3_; have HB := n4_; clear n0_ n1_ n2_ n3_ n4_; clear hb ho24)); try go_wp2_with (first | ((with_reducible refine gate_dst (N := 52) rfl ?_); (try (refine gate_guard (by rfl) ?_; dsimp only)); refine Kd.R_make Kd.bool _ 4 rfl (N := 52) rfl 32 _ _ rfl (t288.length : Int) rfl rfl Try.underlying32 (.bool false) 1 info4 rfl (by decide) (by omega) false (ok := fun _ => True) (okp := fun _ => True) rfl (fun _ hk => hk) trivial (of_decide_eq_true (by first | (with_reducible assumption) | assumption)) (Nat.le_trans (Nat.mul_le_mul_right _ (of_decide_eq_true (by first | (with_reducible assumption) | assumption) : (t288.length : Int).toNat ≤ 281474976710656)) (by omega)) (Below.refl _ _) (Nat.le_refl _) ?_; intro v298 w23 ho24 hb hg_ hnew_; clear hg_ hnew_; (first | rw [← Ny297.out] at ho24 | (simp only [Int.reduceToNat] at ho24; rw [← Ny297.out] at ho24)); have n0_ := Aside0.mk (Kd.S_below (by (with_reducible repeat (first | apply Kd.S_alloc | apply Kd.S_drewN | apply Kd.S_drew)); exact HO_7.out) hb); have n1_ := Aside0.mk (Kd.R_below (by (with_reducible repeat (first | apply Kd.R_alloc | apply Kd.R_drewN | apply Kd.R_drew)); exact HO_292001.out) hb); have n2_ := Aside0.mk (Kd.R_lower ho24 (below_size (by repeat (first | (with_reducible first | exact HB.out | apply below_alloc | apply pw_below_drewN | apply below_drew1 | refine below_set ?_ GE291.out) | exact HB.out)))); have n3_ := Aside0.mk (blk_below (g := gb291) (o := .cells #[.int .i64 t287, .slice Ao11 t288.length co11] 26 (0, 0)) (by (with_reducible repeat (first | refine blk_drewN ?_ _ | refine blk_drew ?_ | refine blk_alloc ?_ _)); exact BK291.out) hb); have n4_ := Aside0.mk (below_step (by repeat (first | (with_reducible first | exact HB.out | apply below_alloc | apply pw_below_drewN | apply below_drew1 | refine below_set ?_ GE291.out) | exact HB.out)) hb); clear HO_7; clear HO_292001; clear BK291; clear HB; have HO_7 := n0_; have HO_292001 := n1_; have HO299 := n2_; have BK291 := n3_; have HB := n4_; clear n0_ n1_ n2_ n3_ n4_; clear hb ho24)))
              go_loopg [10] kj6 (fun kq v10 w' => ∃ (x9_2 : List Bool) (x10_2 : Int), v10 = .int .i64 x10_2 ∧ Aside0 (laws_FnRings.l0 kq l1 (t288.length : Int) t292 x9_2 x10_2 t287 t288 = some r) ∧ Aside0 (kq ≤ kj6) ∧ Aside0 (Kd.S (Kd.slice 2 (Kd.int .i64)) 24 w' w.heap.size (fun k_ => some k_ ≠ ((.slice Ao11 t288.length co11) : Value).ownBlock) v293 t292) ∧ Aside0 (Kd.R Kd.bool 4 w' w.heap.size (fun _ => True) v298 x9_2) ∧ Aside0 (Kd.R (Kd.int .i64) 2 w' w.heap.size (fun _ => True) (.slice Ao11 t288.length co11) t288) ∧ Aside0 (w'.heap[gb291]? = some (.cells #[.int .i64 t287, (.slice Ao11 t288.length co11)] 26 (0, 0))) ∧ Aside0 (Below w.heap.size w w'))
              case atStart => exact ⟨(y297), (0), (by first | rfl | (simp; done) | (simp [*]; done)), H', ⟨Nat.le_refl _⟩, ⟨by (with_reducible repeat (first | apply Kd.S_alloc | apply Kd.S_drewN | apply Kd.S_drew)); exact HO_7.out⟩, ⟨by (with_reducible repeat (first | apply Kd.R_alloc | apply Kd.R_drewN | apply Kd.R_drew)); exact HO299.out⟩, ⟨by (with_reducible repeat (first | apply Kd.R_alloc | apply Kd.R_drewN | apply Kd.R_drew)); exact HO_292001.out⟩, ⟨by (with_reducible repeat (first | refine blk_drewN ?_ _ | refine blk_drew ?_ | refine blk_alloc ?_ _)); exact BK291.out⟩, ⟨by repeat (first | (with_reducible first | exact HB.out | apply below_alloc | apply pw_below_drewN | apply below_drew1 | refine below_set ?_ GE291.out) | exact HB.out)⟩⟩
              case round =>
                clear H'
                try clear c1
                try clear c2
                try clear p2
                try clear c3
                try clear c4
                try clear c13
                try clear c14
                try clear c14b0
                try clear c14b1
                try clear c14b2
                try clear c20
                try clear c21
                try clear c21b0
                try clear c21b1
                try clear c22
                try clear c22b0
                try clear c22b1
                try clear hcz10_0
                try clear hcz10_1
                try clear hcz18_0
                try clear hcz18_1
                try clear hfz10_0
                try clear hfz10_1
                try clear hfz18_0
                try clear hfz18_1
                try clear p2
                obtain ⟨x9_2, x10_2, rfl, HA, HK2, HO_7, HO_9, HO_292001, BK291, HB⟩ := hrel
                cases gk with
                | zero => exact absurd HA.out (by simp [laws_FnRings.l0])
                | succ k2 =>
                  have H := HA.out
                  clear HA
                  simp only [laws_FnRings.l0] at H
                  by_cases c25 : x10_2 < (t292.length : Int)
                  · rw [if_pos c25] at H
                    have c25b0 : decide (x10_2 < (t292.length : Int)) = true := decide_eq_true c25
                    clear c25
                    have H' := Aside0.mk H
                    clear H
                    obtain ⟨Ao26, co26, eo26⟩ := Kd.S_slice HO_7.out
                    subst eo26
                    go_wp2
                    repeat (go_quiet (fail); try go_wp2)
                    go_loopg [11] k2 (fun kq v11 w' => ∃ (x9_3 : List Bool) (x11_3 : Int), v11 = .int .i64 x11_3 ∧ Aside0 (laws_FnRings.l1 kq l1 (t288.length : Int) t292 x9_3 x10_2 x11_3 t287 t288 = some r) ∧ Aside0 (kq ≤ k2) ∧ Aside0 (Kd.S (Kd.slice 2 (Kd.int .i64)) 24 w' w.heap.size (fun k_ => some k_ ≠ ((.slice Ao11 t288.length co11) : Value).ownBlock) (.slice Ao26 t292.length co26) t292) ∧ Aside0 (Kd.R Kd.bool 4 w' w.heap.size (fun _ => True) v298 x9_3) ∧ Aside0 (Kd.R (Kd.int .i64) 2 w' w.heap.size (fun _ => True) (.slice Ao11 t288.length co11) t288) ∧ Aside0 (w'.heap[gb291]? = some (.cells #[.int .i64 t287, (.slice Ao11 t288.length co11)] 26 (0, 0))) ∧ Aside0 (Below w.heap.size w w'))
                    case atStart => exact ⟨(x9_2), (0), (by first | rfl | (simp; done) | (simp [*]; done)), H', ⟨Nat.le_refl _⟩, ⟨by (with_reducible repeat (first | apply Kd.S_alloc | apply Kd.S_drewN | apply Kd.S_drew)); exact HO_7.out⟩, ⟨by (with_reducible repeat (first | apply Kd.R_alloc | apply Kd.R_drewN | apply Kd.R_drew)); exact HO_9.out⟩, ⟨by (with_reducible repeat (first | apply Kd.R_alloc | apply Kd.R_drewN | apply Kd.R_drew)); exact HO_292001.out⟩, ⟨by (with_reducible repeat (first | refine blk_drewN ?_ _ | refine blk_drew ?_ | refine blk_alloc ?_ _)); exact BK291.out⟩, ⟨by repeat (first | (with_reducible first | exact HB.out | apply below_alloc | apply pw_below_drewN | apply below_drew1 | refine below_set ?_ GE291.out) | exact HB.out)⟩⟩
                    case round =>
                      clear H'
                      try clear c1
                      try clear c2
                      try clear p2
                      try clear c3
                      try clear c4
                      try clear c13
                      try clear c14
                      try clear c14b0
                      try clear c14b1
                      try clear c14b2
                      try clear c20
                      try clear c21
                      try clear c21b0
                      try clear c21b1
                      try clear c22
                      try clear c22b0
                      try clear c22b1
                      try clear c25
                      try clear c25b0
                      try clear hcz10_0
                      try clear hcz10_1
                      try clear hcz18_0
                      try clear hcz18_1
                      try clear hfz10_0
                      try clear hfz10_1
                      try clear hfz18_0
                      try clear hfz18_1
                      try clear p2
                      obtain ⟨x9_3, x11_3, rfl, HA, HK3, HO_7, HO_9, HO_292001, BK291, HB⟩ := hrel
                      cases gk with
                      | zero => exact absurd HA.out (by simp [laws_FnRings.l1])
                      | succ k3 =>
                        have H := HA.out
                        clear HA
                        simp only [laws_FnRings.l1] at H
                        by_cases c27 : 0 ≤ x10_2
                        · rw [if_pos c27] at H
                          have c27b0 : decide (0 ≤ x10_2) = true := decide_eq_true c27
                          clear c27
                          by_cases c28 : x10_2 < (t292.length : Int)
                          · rw [if_pos c28] at H
                            have c28b0 : decide (x10_2 < (t292.length : Int)) = true := decide_eq_true c28
                            clear c28
                            by_cases c29 : x11_3 < ((rd_L2 t292 x10_2).length : Int)
                            · rw [if_pos c29] at H
                              have c29b0 : decide (x11_3 < ((rd_L2 t292 x10_2).length : Int)) = true := decide_eq_true c29
                              clear c29
                              by_cases c30 : 0 ≤ x11_3
                              · rw [if_pos c30] at H
                                have c30b0 : decide (0 ≤ x11_3) = true := decide_eq_true c30
                                clear c30
                                by_cases c31 : (rd (rd_L2 t292 x10_2) x11_3) < 0
                                · rw [if_pos c31] at H
                                  have c31b0 : decide ((rd (rd_L2 t292 x10_2) x11_3) < 0) = true := decide_eq_true c31
                                  clear c31
                                  obtain rfl := Option.some.inj H
                                  exact absurd HRT.out (by decide)
                                · rw [if_neg c31] at H
                                  have c31b0 : decide ((rd (rd_L2 t292 x10_2) x11_3) < 0) = false := decide_eq_false c31
                                  clear c31
                                  by_cases c32 : (rd (rd_L2 t292 x10_2) x11_3) ≥ (t288.length : Int)
                                  · rw [if_pos c32] at H
                                    have c32b0 : decide ((t288.length : Int) ≤ (rd (rd_L2 t292 x10_2) x11_3)) = true := decide_eq_true c32
                                    clear c32
                                    obtain rfl := Option.some.inj H
                                    exact absurd HRT.out (by decide)
                                  · rw [if_neg c32] at H
                                    have c32b0 : decide ((t288.length : Int) ≤ (rd (rd_L2 t292 x10_2) x11_3)) = false := decide_eq_false c32
                                    clear c32
                                    by_cases c33 : 0 ≤ (rd (rd_L2 t292 x10_2) x11_3)
                                    · rw [if_pos c33] at H
                                      have c33b0 : decide (0 ≤ (rd (rd_L2 t292 x10_2) x11_3)) = true := decide_eq_true c33
                                      clear c33
                                      by_cases c34 : (rd (rd_L2 t292 x10_2) x11_3) < (x9_3.length : Int)
                                      · rw [if_pos c34] at H
                                        have c34b0 : decide ((rd (rd_L2 t292 x10_2) x11_3) < (x9_3.length : Int)) = true := decide_eq_true c34
                                        clear c34
                                        obtain ⟨bq35, hbq35⟩ : ∃ b_ : Bool, b_ = (rdOf false x9_3 (rd (rd_L2 t292 x10_2) x11_3)) := ⟨_, rfl⟩
                                        replace H : (if bq35 = true then (some false) else (if (rd (rd_L2 t292 x10_2) x11_3) < (t288.length : Int) then (if ((rd_L2 t292 x10_2).length : Int) = 0 then (none) else (if 0 ≤ (Int.tmod (wrap64 (x11_3 + 1)) ((rd_L2 t292 x10_2).length : Int)) then (if (Int.tmod (wrap64 (x11_3 + 1)) ((rd_L2 t292 x10_2).length : Int)) < ((rd_L2 t292 x10_2).length : Int) then (if (rd t288 (rd (rd_L2 t292 x10_2) x11_3)) = (rd (rd_L2 t292 x10_2) (Int.tmod (wrap64 (x11_3 + 1)) ((rd_L2 t292 x10_2).length : Int))) then (if 0 < ((rd_L2 t292 x10_2).length : Int) then (if (rd (rd_L2 t292 x10_2) x11_3) < (rd (rd_L2 t292 x10_2) 0) then (some false) else (laws_FnRings.l1 k3 l1 (t288.length : Int) t292 (x9_3.set ((rd (rd_L2 t292 x10_2) x11_3) : Int).toNat true) x10_2 (wrap64 (x11_3 + 1)) t287 t288)) else (none)) else (some false)) else (none)) else (none))) else (none))) = some r := by rw [← hbq35] at H; exact H
                                        have Nbq35 := Aside0.mk hbq35
                                        clear hbq35
                                        by_cases c36 : bq35 = true
                                        · subst c36
                                          have H1 : (some false) = some r := by rw [if_pos rfl] at H; exact H
                                          clear H
                                          have H := H1
                                          clear H1
                                          obtain rfl := Option.some.inj H
                                          exact absurd HRT.out (by decide)
                                        · replace c36 := Bool.eq_false_iff.mpr c36
                                          subst c36
                                          have H1 : (if (rd (rd_L2 t292 x10_2) x11_3) < (t288.length : Int) then (if ((rd_L2 t292 x10_2).length : Int) = 0 then (none) else (if 0 ≤ (Int.tmod (wrap64 (x11_3 + 1)) ((rd_L2 t292 x10_2).length : Int)) then (if (Int.tmod (wrap64 (x11_3 + 1)) ((rd_L2 t292 x10_2).length : Int)) < ((rd_L2 t292 x10_2).length : Int) then (if (rd t288 (rd (rd_L2 t292 x10_2) x11_3)) = (rd (rd_L2 t292 x10_2) (Int.tmod (wrap64 (x11_3 + 1)) ((rd_L2 t292 x10_2).length : Int))) then (if 0 < ((rd_L2 t292 x10_2).length : Int) then (if (rd (rd_L2 t292 x10_2) x11_3) < (rd (rd_L2 t292 x10_2) 0) then (some false) else (laws_FnRings.l1 k3 l1 (t288.length : Int) t292 (x9_3.set ((rd (rd_L2 t292 x10_2) x11_3) : Int).toNat true) x10_2 (wrap64 (x11_3 + 1)) t287 t288)) else (none)) else (some false)) else (none)) else (none))) else (none)) = some r := by rw [if_neg (show ¬ (false = true) by decide)] at H; exact H
                                          clear H
                                          have H := H1
                                          clear H1
                                          by_cases c38 : (rd (rd_L2 t292 x10_2) x11_3) < (t288.length : Int)
                                          · rw [if_pos c38] at H
                                            have c38b0 : decide ((rd (rd_L2 t292 x10_2) x11_3) < (t288.length : Int)) = true := decide_eq_true c38
                                            clear c38
                                            by_cases c39 : ((rd_L2 t292 x10_2).length : Int) = 0
                                            · rw [if_pos c39] at H
                                              exact absurd H (by simp)
                                            · rw [if_neg c39] at H
                                              have c39b0 : (((rd_L2 t292 x10_2).length : Int) == 0) = false := beq_eq_false_iff_ne.mpr c39
                                              have c39b1 : (((rd_L2 t292 x10_2).length : Int) != 0) = true := bne_iff_ne.mpr c39
                                              have c39b2 : ¬ ((rd_L2 t292 x10_2) = []) := fun h_ => c39 (by rw [h_]; rfl)
                                              obtain ⟨ji40, hji40⟩ : ∃ j_ : Int, (Int.tmod (wrap64 (x11_3 + 1)) ((rd_L2 t292 x10_2).length : Int)) = j_ := ⟨_, rfl⟩
                                              replace H : (if 0 ≤ (ji40) then (if (ji40) < ((rd_L2 t292 x10_2).length : Int) then (if (rd t288 (rd (rd_L2 t292 x10_2) x11_3)) = (rd (rd_L2 t292 x10_2) (ji40)) then (if 0 < ((rd_L2 t292 x10_2).length : Int) then (if (rd (rd_L2 t292 x10_2) x11_3) < (rd (rd_L2 t292 x10_2) 0) then (some false) else (laws_FnRings.l1 k3 l1 (t288.length : Int) t292 (x9_3.set ((rd (rd_L2 t292 x10_2) x11_3) : Int).toNat true) x10_2 (wrap64 (x11_3 + 1)) t287 t288)) else (none)) else (some false)) else (none)) else (none)) = some r := by first | (rw [hji40] at H; exact H) | (simp only [hji40] at H ⊢; exact H)
                                              by_cases c41 : 0 ≤ (ji40)
                                              · rw [if_pos c41] at H
                                                have c41b0 : decide (0 ≤ (ji40)) = true := decide_eq_true c41
                                                clear c41
                                                by_cases c42 : (ji40) < ((rd_L2 t292 x10_2).length : Int)
                                                · rw [if_pos c42] at H
                                                  have c42b0 : decide ((ji40) < ((rd_L2 t292 x10_2).length : Int)) = true := decide_eq_true c42
                                                  clear c42
                                                  by_cases c43 : (rd t288 (rd (rd_L2 t292 x10_2) x11_3)) = (rd (rd_L2 t292 x10_2) (ji40))
                                                  · rw [if_pos c43] at H
                                                    have c43b0 : ((rd t288 (rd (rd_L2 t292 x10_2) x11_3)) == (rd (rd_L2 t292 x10_2) (ji40))) = true := beq_iff_eq.mpr c43
                                                    have c43b1 : ((rd t288 (rd (rd_L2 t292 x10_2) x11_3)) != (rd (rd_L2 t292 x10_2) (ji40))) = false := bne_eq_false_iff_eq.mpr c43
                                                    clear c43
                                                    by_cases c44 : 0 < ((rd_L2 t292 x10_2).length : Int)
                                                    · rw [if_pos c44] at H
                                                      have c44b0 : decide (0 < ((rd_L2 t292 x10_2).length : Int)) = true := decide_eq_true c44
                                                      have c44b1 : decide (0 < (rd_L2 t292 x10_2).length) = true := decide_eq_true (by omega)
                                                      clear c44
                                                      by_cases c45 : (rd (rd_L2 t292 x10_2) x11_3) < (rd (rd_L2 t292 x10_2) 0)
                                                      · rw [if_pos c45] at H
                                                        have c45b0 : decide ((rd (rd_L2 t292 x10_2) x11_3) < (rd (rd_L2 t292 x10_2) 0)) = true := decide_eq_true c45
                                                        clear c45
                                                        obtain rfl := Option.some.inj H
                                                        exact absurd HRT.out (by decide)
                                                      · rw [if_neg c45] at H
                                                        have c45b0 : decide ((rd (rd_L2 t292 x10_2) x11_3) < (rd (rd_L2 t292 x10_2) 0)) = false := decide_eq_false c45
                                                        clear c45
                                                        obtain ⟨y310, hy310⟩ : ∃ y_ : List Bool, y_ = (x9_3.set ((rd (rd_L2 t292 x10_2) x11_3) : Int).toNat true) := ⟨_, rfl⟩
                                                        replace H : (laws_FnRings.l1 k3 l1 (t288.length : Int) t292 y310 x10_2 (wrap64 (x11_3 + 1)) t287 t288) = some r := by first | (rw [hy310]; with_reducible exact H) | (have H2_ := (Option.bind_some _ _).symm.trans H; rw [hy310]; with_reducible exact H2_) | (have H2_ := (Option.bind_some _ _).symm.trans H; with_reducible exact H2_) | with_reducible exact H | (rw [hy310]; exact H) | exact H
                                                        have Ny310 := Aside0.mk hy310
                                                        clear hy310
                                                        have H' := Aside0.mk H
                                                        clear H
                                                        have p300 : 0 ≤ (x10_2 : Int) := of_decide_eq_true (by first | (with_reducible assumption) | assumption)
                                                        have q300 : x10_2 < (t292.length : Int) := of_decide_eq_true (by first | (with_reducible assumption) | assumption)
                                                        obtain ⟨ad300, A300_0, c300_0, e300, hx300_0, hl300_0, hi300_0⟩ := at_L2 (Kd.S_reads' HO_7.out).2.2 x10_2 p300 q300
                                                        cases e300
                                                        obtain ⟨ce300, hce300, hMe300, hcc300⟩ := Kd.S_get HO_7.out [] x10_2 p300 (by first | exact q300 | exact of_decide_eq_true (by first | (with_reducible assumption) | assumption) | (have e_ := (Kd.S_reads' HO_7.out).1; omega))
                                                        obtain ⟨ve300_0, rfl, ge300_0⟩ := hMe300
                                                        have hv300_0 := hcc300 0 _ rfl
                                                        rw [Nat.add_zero, show ((Kd.slice 2 (Kd.int .i64))).sz = 1 from rfl, Nat.mul_one] at hv300_0
                                                        replace hv300_0 := Option.some.inj (hv300_0.symm.trans hx300_0)
                                                        rw [hv300_0] at ge300_0
                                                        have HL300_0 := Aside0.mk (show Kd.R (Kd.int .i64) 2 _ _ _ _ (rd_L2 t292 x10_2) from ge300_0)
                                                        clear hv300_0 ge300_0
                                                        clear hcc300 hce300
                                                        have HR300_0 := Aside0.mk hi300_0
                                                        have HC300_0 := Aside0.mk hl300_0
                                                        clear hi300_0 hl300_0
                                                        replace p300 := eq_true p300
                                                        replace q300 := eq_true q300
                                                        have p301 : 0 ≤ (x10_2 : Int) := of_decide_eq_true (by first | (with_reducible assumption) | assumption)
                                                        have q301 : x10_2 < (t292.length : Int) := of_decide_eq_true (by first | (with_reducible assumption) | assumption)
                                                        obtain ⟨ad301, A301_0, c301_0, e301, hx301_0, hl301_0, hi301_0⟩ := at_L2 (Kd.S_reads' HO_7.out).2.2 x10_2 p301 q301
                                                        obtain rfl : ad300 = ad301 := (by injection e301)
                                                        obtain ⟨ce301, hce301, hMe301, hcc301⟩ := Kd.S_get HO_7.out [] x10_2 p301 (by first | exact q301 | exact of_decide_eq_true (by first | (with_reducible assumption) | assumption) | (have e_ := (Kd.S_reads' HO_7.out).1; omega))
                                                        obtain ⟨ve301_0, rfl, ge301_0⟩ := hMe301
                                                        have hv301_0 := hcc301 0 _ rfl
                                                        rw [Nat.add_zero, show ((Kd.slice 2 (Kd.int .i64))).sz = 1 from rfl, Nat.mul_one] at hv301_0
                                                        replace hv301_0 := Option.some.inj (hv301_0.symm.trans hx301_0)
                                                        rw [hv301_0] at ge301_0
                                                        have HL301_0 := Aside0.mk (show Kd.R (Kd.int .i64) 2 _ _ _ _ (rd_L2 t292 x10_2) from ge301_0)
                                                        clear hv301_0 ge301_0
                                                        clear hcc301 hce301
                                                        have HR301_0 := Aside0.mk hi301_0
                                                        have HC301_0 := Aside0.mk hl301_0
                                                        clear hi301_0 hl301_0
                                                        replace p301 := eq_true p301
                                                        replace q301 := eq_true q301
                                                        have ea_ := Option.some.inj (hx300_0.symm.trans hx301_0)
                                                        injection ea_ with ea_ en_ ec_
                                                        subst ea_
                                                        subst ec_
                                                        clear en_
                                                        have p302 : 0 ≤ (x11_3 : Int) := of_decide_eq_true (by first | (with_reducible assumption) | assumption)
                                                        have q302 : x11_3 < ((rd_L2 t292 x10_2).length : Int) := of_decide_eq_true (by first | (with_reducible assumption) | assumption)
                                                        obtain ⟨ad302, e302, hx302_0⟩ := Kd.at_int (by repeat (first | (with_reducible exact HR301_0.out) | (with_reducible refine Kd.C_alloc ?_ _) | (with_reducible refine Kd.C_drewN ?_ _) | (with_reducible refine Kd.C_drew ?_) | exact HR301_0.out)) x11_3 p302 q302
                                                        cases e302
                                                        replace p302 := eq_true p302
                                                        replace q302 := eq_true q302
                                                        obtain ⟨Ao49, co49, eo49⟩ := Kd.R_slice HO_9.out
                                                        subst eo49
                                                        have p303 : 0 ≤ ((rd (rd_L2 t292 x10_2) x11_3) : Int) := of_decide_eq_true (by first | (with_reducible assumption) | assumption)
                                                        have q303 : (rd (rd_L2 t292 x10_2) x11_3) < (x9_3.length : Int) := of_decide_eq_true (by first | (with_reducible assumption) | assumption)
                                                        obtain ⟨ad303, e303, hx303_0⟩ := Kd.at_bool (Kd.R_reads' HO_9.out).2.2 (rd (rd_L2 t292 x10_2) x11_3) p303 q303
                                                        (try rw [← Nbq35.out] at hx303_0)
                                                        cases e303
                                                        replace p303 := eq_true p303
                                                        replace q303 := eq_true q303
                                                        have hcz50_0 : wr.cell? ⟨gb291, 0, none⟩ = some (.int .i64 t287) := (blk_cell BK291.out 0).trans rfl
                                                        have hcz50_1 : wr.cell? ⟨gb291, 1, none⟩ = some (.slice Ao11 t288.length co11) := (blk_cell BK291.out 1).trans rfl
                                                        have hfz50_0 := blk_frozen BK291.out 0
                                                        have hfz50_1 := blk_frozen BK291.out 1
                                                        have p304 : 0 ≤ ((rd (rd_L2 t292 x10_2) x11_3) : Int) := of_decide_eq_true (by first | (with_reducible assumption) | assumption)
                                                        have q304 : (rd (rd_L2 t292 x10_2) x11_3) < (t288.length : Int) := of_decide_eq_true (by first | (with_reducible assumption) | assumption)
                                                        obtain ⟨ad304, e304, hx304_0⟩ := Kd.at_int (Kd.R_reads' HO_292001.out).2.2 (rd (rd_L2 t292 x10_2) x11_3) p304 q304
                                                        cases e304
                                                        replace p304 := eq_true p304
                                                        replace q304 := eq_true q304
                                                        have p305 : 0 ≤ (x10_2 : Int) := of_decide_eq_true (by first | (with_reducible assumption) | assumption)
                                                        have q305 : x10_2 < (t292.length : Int) := of_decide_eq_true (by first | (with_reducible assumption) | assumption)
                                                        obtain ⟨ad305, A305_0, c305_0, e305, hx305_0, hl305_0, hi305_0⟩ := at_L2 (Kd.S_reads' HO_7.out).2.2 x10_2 p305 q305
                                                        obtain rfl : ad300 = ad305 := (by injection e305)
                                                        obtain ⟨ce305, hce305, hMe305, hcc305⟩ := Kd.S_get HO_7.out [] x10_2 p305 (by first | exact q305 | exact of_decide_eq_true (by first | (with_reducible assumption) | assumption) | (have e_ := (Kd.S_reads' HO_7.out).1; omega))
                                                        obtain ⟨ve305_0, rfl, ge305_0⟩ := hMe305
                                                        have hv305_0 := hcc305 0 _ rfl
                                                        rw [Nat.add_zero, show ((Kd.slice 2 (Kd.int .i64))).sz = 1 from rfl, Nat.mul_one] at hv305_0
                                                        replace hv305_0 := Option.some.inj (hv305_0.symm.trans hx305_0)
                                                        rw [hv305_0] at ge305_0
                                                        have HL305_0 := Aside0.mk (show Kd.R (Kd.int .i64) 2 _ _ _ _ (rd_L2 t292 x10_2) from ge305_0)
                                                        clear hv305_0 ge305_0
                                                        clear hcc305 hce305
                                                        have HR305_0 := Aside0.mk hi305_0
                                                        have HC305_0 := Aside0.mk hl305_0
                                                        clear hi305_0 hl305_0
                                                        replace p305 := eq_true p305
                                                        replace q305 := eq_true q305
                                                        have ea_ := Option.some.inj (hx300_0.symm.trans hx305_0)
                                                        injection ea_ with ea_ en_ ec_
                                                        subst ea_
                                                        subst ec_
                                                        clear en_
                                                        have p306 : 0 ≤ (x10_2 : Int) := of_decide_eq_true (by first | (with_reducible assumption) | assumption)
                                                        have q306 : x10_2 < (t292.length : Int) := of_decide_eq_true (by first | (with_reducible assumption) | assumption)
                                                        obtain ⟨ad306, A306_0, c306_0, e306, hx306_0, hl306_0, hi306_0⟩ := at_L2 (Kd.S_reads' HO_7.out).2.2 x10_2 p306 q306
                                                        obtain rfl : ad300 = ad306 := (by injection e306)
                                                        obtain ⟨ce306, hce306, hMe306, hcc306⟩ := Kd.S_get HO_7.out [] x10_2 p306 (by first | exact q306 | exact of_decide_eq_true (by first | (with_reducible assumption) | assumption) | (have e_ := (Kd.S_reads' HO_7.out).1; omega))
                                                        obtain ⟨ve306_0, rfl, ge306_0⟩ := hMe306
                                                        have hv306_0 := hcc306 0 _ rfl
                                                        rw [Nat.add_zero, show ((Kd.slice 2 (Kd.int .i64))).sz = 1 from rfl, Nat.mul_one] at hv306_0
                                                        replace hv306_0 := Option.some.inj (hv306_0.symm.trans hx306_0)
                                                        rw [hv306_0] at ge306_0
                                                        have HL306_0 := Aside0.mk (show Kd.R (Kd.int .i64) 2 _ _ _ _ (rd_L2 t292 x10_2) from ge306_0)
                                                        clear hv306_0 ge306_0
                                                        clear hcc306 hce306
                                                        have HR306_0 := Aside0.mk hi306_0
                                                        have HC306_0 := Aside0.mk hl306_0
                                                        clear hi306_0 hl306_0
                                                        replace p306 := eq_true p306
                                                        replace q306 := eq_true q306
                                                        have ea_ := Option.some.inj (hx300_0.symm.trans hx306_0)
                                                        injection ea_ with ea_ en_ ec_
                                                        subst ea_
                                                        subst ec_
                                                        clear en_
                                                        have p307 : 0 ≤ ((ji40) : Int) := of_decide_eq_true (by first | (with_reducible assumption) | assumption)
                                                        have q307 : (ji40) < ((rd_L2 t292 x10_2).length : Int) := of_decide_eq_true (by first | (with_reducible assumption) | assumption)
                                                        obtain ⟨ad307, e307, hx307_0⟩ := Kd.at_int (by repeat (first | (with_reducible exact HR305_0.out) | (with_reducible refine Kd.C_alloc ?_ _) | (with_reducible refine Kd.C_drewN ?_ _) | (with_reducible refine Kd.C_drew ?_) | exact HR305_0.out)) (ji40) p307 q307
                                                        cases e307
                                                        replace p307 := eq_true p307
                                                        replace q307 := eq_true q307
                                                        have p308 : 0 ≤ (x10_2 : Int) := of_decide_eq_true (by first | (with_reducible assumption) | assumption)
                                                        have q308 : x10_2 < (t292.length : Int) := of_decide_eq_true (by first | (with_reducible assumption) | assumption)
                                                        obtain ⟨ad308, A308_0, c308_0, e308, hx308_0, hl308_0, hi308_0⟩ := at_L2 (Kd.S_reads' HO_7.out).2.2 x10_2 p308 q308
                                                        obtain rfl : ad300 = ad308 := (by injection e308)
                                                        obtain ⟨ce308, hce308, hMe308, hcc308⟩ := Kd.S_get HO_7.out [] x10_2 p308 (by first | exact q308 | exact of_decide_eq_true (by first | (with_reducible assumption) | assumption) | (have e_ := (Kd.S_reads' HO_7.out).1; omega))
                                                        obtain ⟨ve308_0, rfl, ge308_0⟩ := hMe308
                                                        have hv308_0 := hcc308 0 _ rfl
                                                        rw [Nat.add_zero, show ((Kd.slice 2 (Kd.int .i64))).sz = 1 from rfl, Nat.mul_one] at hv308_0
                                                        replace hv308_0 := Option.some.inj (hv308_0.symm.trans hx308_0)
                                                        rw [hv308_0] at ge308_0
                                                        have HL308_0 := Aside0.mk (show Kd.R (Kd.int .i64) 2 _ _ _ _ (rd_L2 t292 x10_2) from ge308_0)
                                                        clear hv308_0 ge308_0
                                                        clear hcc308 hce308
                                                        have HR308_0 := Aside0.mk hi308_0
                                                        have HC308_0 := Aside0.mk hl308_0
                                                        clear hi308_0 hl308_0
                                                        replace p308 := eq_true p308
                                                        replace q308 := eq_true q308
                                                        have ea_ := Option.some.inj (hx300_0.symm.trans hx308_0)
                                                        injection ea_ with ea_ en_ ec_
                                                        subst ea_
                                                        subst ec_
                                                        clear en_
                                                        have p309 : 0 ≤ (0 : Int) := (by omega)
                                                        have q309 : 0 < ((rd_L2 t292 x10_2).length : Int) := of_decide_eq_true (by first | (with_reducible assumption) | assumption)
                                                        obtain ⟨ad309, e309, hx309_0⟩ := Kd.at_int (by repeat (first | (with_reducible exact HR308_0.out) | (with_reducible refine Kd.C_alloc ?_ _) | (with_reducible refine Kd.C_drewN ?_ _) | (with_reducible refine Kd.C_drew ?_) | exact HR308_0.out)) 0 p309 q309
                                                        cases e309
                                                        have qi309 : (0 < (rd_L2 t292 x10_2).length) = True := eq_true (by omega)
                                                        (try rw [show ((0 : Int)).toNat = 0 from rfl] at hx309_0)
                                                        (try rw [Addr.add_zero'] at hx309_0)
                                                        replace p309 := eq_true p309
                                                        replace q309 := eq_true q309
                                                        have p48 : 0 ≤ ((rd (rd_L2 t292 x10_2) x11_3) : Int) := of_decide_eq_true (by first | (with_reducible assumption) | assumption)
                                                        have q48 : ((rd (rd_L2 t292 x10_2) x11_3) : Int) < ((x9_3.length : Int) : Int) := of_decide_eq_true (by first | (with_reducible assumption) | assumption)
                                                        obtain ⟨go48, co48, eo48, gb48, gl48, cl48, HG48⟩ := Kd.R_form HO_9.out (by omega)
                                                        (first | cases eo48 | (injection eo48 with ea_ en_ ec_; (first | subst ea_ | (injection ea_ with ea_; subst ea_)); subst ec_; clear en_))
                                                        have GB48 := Aside0.mk gb48
                                                        have GG48 := Aside0.mk HG48
                                                        clear gb48 gl48 HG48
                                                        (first | simp only [add_plain] at hx303_0 | skip)
                                                        obtain ⟨hx48_0, hf48_0⟩ := Kd.R_celln false HO_9.out ((rd (rd_L2 t292 x10_2) x11_3) : Int) p48 q48
                                                        replace p48 := eq_true p48
                                                        replace q48 := eq_true q48
                                                        have HP51 := Kd.R_putg HO_9.out ((rd (rd_L2 t292 x10_2) x11_3) : Int) true
                                                        go_wp2_with (first | ((with_reducible refine gate_store (t := 4) (p := 122) rfl ?_); (try (rw [drewN_self wr]; generalize hq_ : World.drewN wr _ = wr; have n0_ := Aside0.mk (Kd.S_at hq_ HO_7.out); have n1_ := Aside0.mk (Kd.R_at hq_ HO_9.out); have n2_ := Aside0.mk (Kd.R_at hq_ HO_292001.out); have n3_ := Aside0.mk (Kd.R_at hq_ HL300_0.out); have n4_ := Aside0.mk (Kd.R_at hq_ HL301_0.out); have n5_ := Aside0.mk (Kd.R_at hq_ HL305_0.out); have n6_ := Aside0.mk (Kd.R_at hq_ HL306_0.out); have n7_ := Aside0.mk (Kd.R_at hq_ HL308_0.out); have n8_ := Aside0.mk (blk_at hq_ BK291.out); have n9_ := Aside0.mk (below_at hq_ HB.out); clear hq_ HO_7 HO_9 HO_292001 HL300_0 HL301_0 HL305_0 HL306_0 HL308_0 BK291 HB; have HO_7 := n0_; have HO_9 := n1_; have HO_292001 := n2_; have HL300_0 := n3_; have HL301_0 := n4_; have HL305_0 := n5_; have HL306_0 := n6_; have HL308_0 := n7_; have BK291 := n8_; have HB := n9_; clear n0_ n1_ n2_ n3_ n4_ n5_ n6_ n7_ n8_ n9_; (try (have HP51 := Kd.R_putg HO_9.out ((rd (rd_L2 t292 x10_2) x11_3) : Int) true)); (try (obtain ⟨hx48_0, hf48_0⟩ := Kd.R_celln false HO_9.out ((rd (rd_L2 t292 x10_2) x11_3) : Int) (of_eq_true p48) (of_eq_true q48))))); refine store_event (t := 4) (p := 122) (v := ?vo_w52) (w1 := (wr.setCell ⟨go48, ((rd (rd_L2 t292 x10_2) x11_3) : Int).toNat, none⟩ (.bool true))) ?hg ?ho ?hn ?hr ?_; (case ho => rfl); (case hg => rfl); (case hn => rfl); (case hr => first | (go_simp; done) | (go_simp; rfl)); intro w52 hw; have hg : wr.grownBy w52 (some go48) := (by rw [hw]; exact HP51.2); have hp_ : Kd.R Kd.bool 4 w52 w.heap.size (fun _ => True) (.slice (some ⟨go48, 0, none⟩) x9_3.length co49) y310 := (by rw [hw, Ny310.out]; exact HP51.1); clear HP51; have n0_ := Aside0.mk (Kd.S_over' (v := (.slice (some ⟨go48, 0, none⟩) x9_3.length co49)) (by (with_reducible repeat (first | apply Kd.S_alloc | apply Kd.S_drewN | apply Kd.S_drew)); exact HO_7.out) (Kd.R_typed HO_9.out) (by decide) hg); have n1_ := Aside0.mk (hp_); have n2_ := Aside0.mk (Kd.R_over' (v := (.slice (some ⟨go48, 0, none⟩) x9_3.length co49)) (by (with_reducible repeat (first | apply Kd.R_alloc | apply Kd.R_drewN | apply Kd.R_drew)); exact HO_292001.out) (Kd.R_typed HO_9.out) (by decide) hg); have n3_ := Aside0.mk (blk_grown (g := gb291) (o := .cells #[.int .i64 t287, .slice (some ad304) t288.length co11] 26 (0, 0)) (by (with_reducible repeat (first | refine blk_drewN ?_ _ | refine blk_drew ?_ | refine blk_alloc ?_ _)); exact BK291.out) hg (Kd.R_ne HO_9.out BK291.out (by decide))); have n4_ := Aside0.mk (Kd.R_over' (v := (.slice (some ⟨go48, 0, none⟩) x9_3.length co49)) (by (with_reducible repeat (first | apply Kd.R_alloc | apply Kd.R_drewN | apply Kd.R_drew)); exact HL300_0.out) (Kd.R_typed HO_9.out) (by decide) hg); have n5_ := Aside0.mk (Kd.R_over' (v := (.slice (some ⟨go48, 0, none⟩) x9_3.length co49)) (by (with_reducible repeat (first | apply Kd.R_alloc | apply Kd.R_drewN | apply Kd.R_drew)); exact HL301_0.out) (Kd.R_typed HO_9.out) (by decide) hg); have n6_ := Aside0.mk (Kd.R_over' (v := (.slice (some ⟨go48, 0, none⟩) x9_3.length co49)) (by (with_reducible repeat (first | apply Kd.R_alloc | apply Kd.R_drewN | apply Kd.R_drew)); exact HL305_0.out) (Kd.R_typed HO_9.out) (by decide) hg); have n7_ := Aside0.mk (Kd.R_over' (v := (.slice (some ⟨go48, 0, none⟩) x9_3.length co49)) (by (with_reducible repeat (first | apply Kd.R_alloc | apply Kd.R_drewN | apply Kd.R_drew)); exact HL306_0.out) (Kd.R_typed HO_9.out) (by decide) hg); have n8_ := Aside0.mk (Kd.R_over' (v := (.slice (some ⟨go48, 0, none⟩) x9_3.length co49)) (by (with_reducible repeat (first | apply Kd.R_alloc | apply Kd.R_drewN | apply Kd.R_drew)); exact HL308_0.out) (Kd.R_typed HO_9.out) (by decide) hg); have n9_ := Aside0.mk ((by rw [hw]; exact below_set (HB.out) GB48.out : Below w.heap.size w w52)); clear HO_7; clear HO_9; clear HO_292001; clear BK291; clear HL300_0; clear HL301_0; clear HL305_0; clear HL306_0; clear HL308_0; clear HB; have HO_7 := n0_; have HO_9 := n1_; have HO_292001 := n2_; have BK291 := n3_; have HL300_0 := n4_; have HL301_0 := n5_; have HL305_0 := n6_; have HL306_0 := n7_; have HL308_0 := n8_; have HB := n9_; clear n0_ n1_ n2_ n3_ n4_ n5_ n6_ n7_ n8_ n9_; clear hg hw hp_))
                                                        repeat (go_quiet (first | ((with_reducible refine gate_store (t := 4) (p := 122) rfl ?_); (try (rw [drewN_self wr]; generalize hq_ : World.drewN wr _ = wr; have n0_ := Aside0.mk (Kd.S_at hq_ HO_7.out); have n1_ := Aside0.mk (Kd.R_at hq_ HO_9.out); have n2_ := Aside0.mk (Kd.R_at hq_ HO_292001.out); have n3_ := Aside0.mk (Kd.R_at hq_ HL300_0.out); have n4_ := Aside0.mk (Kd.R_at hq_ HL301_0.out); have n5_ := Aside0.mk (Kd.R_at hq_ HL305_0.out); have n6_ := Aside0.mk (Kd.R_at hq_ HL306_0.out); have n7_ := Aside0.mk (Kd.R_at hq_ HL308_0.out); have n8_ := Aside0.mk (blk_at hq_ BK291.out); have n9_ := Aside0.mk (below_at hq_ HB.out); clear hq_ HO_7 HO_9 HO_292001 HL300_0 HL301_0 HL305_0 HL306_0 HL308_0 BK291 HB; have HO_7 := n0_; have HO_9 := n1_; have HO_292001 := n2_; have HL300_0 := n3_; have HL301_0 := n4_; have HL305_0 := n5_; have HL306_0 := n6_; have HL308_0 := n7_; have BK291 := n8_; have HB := n9_; clear n0_ n1_ n2_ n3_ n4_ n5_ n6_ n7_ n8_ n9_; (try (have HP51 := Kd.R_putg HO_9.out ((rd (rd_L2 t292 x10_2) x11_3) : Int) true)); (try (obtain ⟨hx48_0, hf48_0⟩ := Kd.R_celln false HO_9.out ((rd (rd_L2 t292 x10_2) x11_3) : Int) (of_eq_true p48) (of_eq_true q48))))); refine store_event (t := 4) (p := 122) (v := ?vo_w52) (w1 := (wr.setCell ⟨go48, ((rd (rd_L2 t292 x10_2) x11_3) : Int).toNat, none⟩ (.bool true))) ?hg ?ho ?hn ?hr ?_; (case ho => rfl); (case hg => rfl); (case hn => rfl); (case hr => first | (go_simp; done) | (go_simp; rfl)); intro w52 hw; have hg : wr.grownBy w52 (some go48) := (by rw [hw]; exact HP51.2); have hp_ : Kd.R Kd.bool 4 w52 w.heap.size (fun _ => True) (.slice (some ⟨go48, 0, none⟩) x9_3.length co49) y310 := (by rw [hw, Ny310.out]; exact HP51.1); clear HP51; have n0_ := Aside0.mk (Kd.S_over' (v := (.slice (some ⟨go48, 0, none⟩) x9_3.length co49)) (by (with_reducible repeat (first | apply Kd.S_alloc | apply Kd.S_drewN | apply Kd.S_drew)); exact HO_7.out) (Kd.R_typed HO_9.out) (by decide) hg); have n1_ := Aside0.mk (hp_); have n2_ := Aside0.mk (Kd.R_over' (v := (.slice (some ⟨go48, 0, none⟩) x9_3.length co49)) (by (with_reducible repeat (first | apply Kd.R_alloc | apply Kd.R_drewN | apply Kd.R_drew)); exact HO_292001.out) (Kd.R_typed HO_9.out) (by decide) hg); have n3_ := Aside0.mk (blk_grown (g := gb291) (o := .cells #[.int .i64 t287, .slice (some ad304) t288.length co11] 26 (0, 0)) (by (with_reducible repeat (first | refine blk_drewN ?_ _ | refine blk_drew ?_ | refine blk_alloc ?_ _)); exact BK291.out) hg (Kd.R_ne HO_9.out BK291.out (by decide))); have n4_ := Aside0.mk (Kd.R_over' (v := (.slice (some ⟨go48, 0, none⟩) x9_3.length co49)) (by (with_reducible repeat (first | apply Kd.R_alloc | apply Kd.R_drewN | apply Kd.R_drew)); exact HL300_0.out) (Kd.R_typed HO_9.out) (by decide) hg); have n5_ := Aside0.mk (Kd.R_over' (v := (.slice (some ⟨go48, 0, none⟩) x9_3.length co49)) (by (with_reducible repeat (first | apply Kd.R_alloc | apply Kd.R_drewN | apply Kd.R_drew)); exact HL301_0.out) (Kd.R_typed HO_9.out) (by decide) hg); have n6_ := Aside0.mk (Kd.R_over' (v := (.slice (some ⟨go48, 0, none⟩) x9_3.length co49)) (by (with_reducible repeat (first | apply Kd.R_alloc | apply Kd.R_drewN | apply Kd.R_drew)); exact HL305_0.out) (Kd.R_typed HO_9.out) (by decide) hg); have n7_ := Aside0.mk (Kd.R_over' (v := (.slice (some ⟨go48, 0, none⟩) x9_3.length co49)) (by (with_reducible repeat (first | apply Kd.R_alloc | apply Kd.R_drewN | apply Kd.R_drew)); exact HL306_0.out) (Kd.R_typed HO_9.out) (by decide) hg); have n8_ := Aside0.mk (Kd.R_over' (v := (.slice (some ⟨go48, 0, none⟩) x9_3.length co49)) (by (with_reducible repeat (first | apply Kd.R_alloc | apply Kd.R_drewN | apply Kd.R_drew)); exact HL308_0.out) (Kd.R_typed HO_9.out) (by decide) hg); have n9_ := Aside0.mk ((by rw [hw]; exact below_set (HB.out) GB48.out : Below w.heap.size w w52)); clear HO_7; clear HO_9; clear HO_292001; clear BK291; clear HL300_0; clear HL301_0; clear HL305_0; clear HL306_0; clear HL308_0; clear HB; have HO_7 := n0_; have HO_9 := n1_; have HO_292001 := n2_; have BK291 := n3_; have HL300_0 := n4_; have HL301_0 := n5_; have HL305_0 := n6_; have HL306_0 := n7_; have HL308_0 := n8_; have HB := n9_; clear n0_ n1_ n2_ n3_ n4_ n5_ n6_ n7_ n8_ n9_; clear hg hw hp_)); try go_wp2_with (first | ((with_reducible refine gate_store (t := 4) (p := 122) rfl ?_); (try (rw [drewN_self wr]; generalize hq_ : World.drewN wr _ = wr; have n0_ := Aside0.mk (Kd.S_at hq_ HO_7.out); have n1_ := Aside0.mk (Kd.R_at hq_ HO_9.out); have n2_ := Aside0.mk (Kd.R_at hq_ HO_292001.out); have n3_ := Aside0.mk (Kd.R_at hq_ HL300_0.out); have n4_ := Aside0.mk (Kd.R_at hq_ HL301_0.out); have n5_ := Aside0.mk (Kd.R_at hq_ HL305_0.out); have n6_ := Aside0.mk (Kd.R_at hq_ HL306_0.out); have n7_ := Aside0.mk (Kd.R_at hq_ HL308_0.out); have n8_ := Aside0.mk (blk_at hq_ BK291.out); have n9_ := Aside0.mk (below_at hq_ HB.out); clear hq_ HO_7 HO_9 HO_292001 HL300_0 HL301_0 HL305_0 HL306_0 HL308_0 BK291 HB; have HO_7 := n0_; have HO_9 := n1_; have HO_292001 := n2_; have HL300_0 := n3_; have HL301_0 := n4_; have HL305_0 := n5_; have HL306_0 := n6_; have HL308_0 := n7_; have BK291 := n8_; have HB := n9_; clear n0_ n1_ n2_ n3_ n4_ n5_ n6_ n7_ n8_ n9_; (try (have HP51 := Kd.R_putg HO_9.out ((rd (rd_L2 t292 x10_2) x11_3) : Int) true)); (try (obtain ⟨hx48_0, hf48_0⟩ := Kd.R_celln false HO_9.out ((rd (rd_L2 t292 x10_2) x11_3) : Int) (of_eq_true p48) (of_eq_true q48))))); refine store_event (t := 4) (p := 122) (v := ?vo_w52) (w1 := (wr.setCell ⟨go48, ((rd (rd_L2 t292 x10_2) x11_3) : Int).toNat, none⟩ (.bool true))) ?hg ?ho ?hn ?hr ?_; (case ho => rfl); (case hg => rfl); (case hn => rfl); (case hr => first | (go_simp; done) | (go_simp; rfl)); intro w52 hw; have hg : wr.grownBy w52 (some go48) := (by rw [hw]; exact HP51.2); have hp_ : Kd.R Kd.bool 4 w52 w.heap.size (fun _ => True) (.slice (some ⟨go48, 0, none⟩) x9_3.length co49) y310 := (by rw [hw, Ny310.out]; exact HP51.1); clear HP51; have n0_ := Aside0.mk (Kd.S_over' (v := (.slice (some ⟨go48, 0, none⟩) x9_3.length co49)) (by (with_reducible repeat (first | apply Kd.S_alloc | apply Kd.S_drewN | apply Kd.S_drew)); exact HO_7.out) (Kd.R_typed HO_9.out) (by decide) hg); have n1_ := Aside0.mk (hp_); have n2_ := Aside0.mk (Kd.R_over' (v := (.slice (some ⟨go48, 0, none⟩) x9_3.length co49)) (by (with_reducible repeat (first | apply Kd.R_alloc | apply Kd.R_drewN | apply Kd.R_drew)); exact HO_292001.out) (Kd.R_typed HO_9.out) (by decide) hg); have n3_ := Aside0.mk (blk_grown (g := gb291) (o := .cells #[.int .i64 t287, .slice (some ad304) t288.length co11] 26 (0, 0)) (by (with_reducible repeat (first | refine blk_drewN ?_ _ | refine blk_drew ?_ | refine blk_alloc ?_ _)); exact BK291.out) hg (Kd.R_ne HO_9.out BK291.out (by decide))); have n4_ := Aside0.mk (Kd.R_over' (v := (.slice (some ⟨go48, 0, none⟩) x9_3.length co49)) (by (with_reducible repeat (first | apply Kd.R_alloc | apply Kd.R_drewN | apply Kd.R_drew)); exact HL300_0.out) (Kd.R_typed HO_9.out) (by decide) hg); have n5_ := Aside0.mk (Kd.R_over' (v := (.slice (some ⟨go48, 0, none⟩) x9_3.length co49)) (by (with_reducible repeat (first | apply Kd.R_alloc | apply Kd.R_drewN | apply Kd.R_drew)); exact HL301_0.out) (Kd.R_typed HO_9.out) (by decide) hg); have n6_ := Aside0.mk (Kd.R_over' (v := (.slice (some ⟨go48, 0, none⟩) x9_3.length co49)) (by (with_reducible repeat (first | apply Kd.R_alloc | apply Kd.R_drewN | apply Kd.R_drew)); exact HL305_0.out) (Kd.R_typed HO_9.out) (by decide) hg); have n7_ := Aside0.mk (Kd.R_over' (v := (.slice (some ⟨go48, 0, none⟩) x9_3.length co49)) (by (with_reducible repeat (first | apply Kd.R_alloc | apply Kd.R_drewN | apply Kd.R_drew)); exact HL306_0.out) (Kd.R_typed HO_9.out) (by decide) hg); have n8_ := Aside0.mk (Kd.R_over' (v := (.slice (some ⟨go48, 0, none⟩) x9_3.length co49)) (by (with_reducible repeat (first | apply Kd.R_alloc | apply Kd.R_drewN | apply Kd.R_drew)); exact HL308_0.out) (Kd.R_typed HO_9.out) (by decide) hg); have n9_ := Aside0.mk ((by rw [hw]; exact below_set (HB.out) GB48.out : Below w.heap.size w w52)); clear HO_7; clear HO_9; clear HO_292001; clear BK291; clear HL300_0; clear HL301_0; clear HL305_0; clear HL306_0; clear HL308_0; clear HB; have HO_7 := n0_; have HO_9 := n1_; have HO_292001 := n2_; have BK291 := n3_; have HL300_0 := n4_; have HL301_0 := n5_; have HL305_0 := n6_; have HL306_0 := n7_; have HL308_0 := n8_; have HB := n9_; clear n0_ n1_ n2_ n3_ n4_ n5_ n6_ n7_ n8_ n9_; clear hg hw hp_)))
                                                        go_roundg k3
                                                        case measure => have := HJ6.out; have := HK2.out; have := HK3.out; omega
                                                        case rel => exact ⟨(y310), (wrap64 (x11_3 + 1)), (by first | rfl | (simp; done) | (simp [*]; done)), H', ⟨by have := HJ6.out; have := HK2.out; have := HK3.out; omega⟩, ⟨by (with_reducible repeat (first | apply Kd.S_alloc | apply Kd.S_drewN | apply Kd.S_drew)); exact HO_7.out⟩, ⟨by (with_reducible repeat (first | apply Kd.R_alloc | apply Kd.R_drewN | apply Kd.R_drew)); exact HO_9.out⟩, ⟨by (with_reducible repeat (first | apply Kd.R_alloc | apply Kd.R_drewN | apply Kd.R_drew)); exact HO_292001.out⟩, ⟨by (with_reducible repeat (first | refine blk_drewN ?_ _ | refine blk_drew ?_ | refine blk_alloc ?_ _)); exact BK291.out⟩, ⟨by repeat (first | (with_reducible first | exact HB.out | apply below_alloc | apply pw_below_drewN | apply below_drew1 | refine below_set ?_ GE291.out) | exact HB.out)⟩⟩
                                                    · rw [if_neg c44] at H
                                                      exact absurd H (by simp)
                                                  · rw [if_neg c43] at H
                                                    have c43b0 : ((rd t288 (rd (rd_L2 t292 x10_2) x11_3)) == (rd (rd_L2 t292 x10_2) (ji40))) = false := beq_eq_false_iff_ne.mpr c43
                                                    have c43b1 : ((rd t288 (rd (rd_L2 t292 x10_2) x11_3)) != (rd (rd_L2 t292 x10_2) (ji40))) = true := bne_iff_ne.mpr c43
                                                    obtain rfl := Option.some.inj H
                                                    exact absurd HRT.out (by decide)
                                                · rw [if_neg c42] at H
                                                  exact absurd H (by simp)
                                              · rw [if_neg c41] at H
                                                exact absurd H (by simp)
                                          · rw [if_neg c38] at H
                                            exact absurd H (by simp)
                                      · rw [if_neg c34] at H
                                        exact absurd H (by simp)
                                    · rw [if_neg c33] at H
                                      exact absurd H (by simp)
                              · rw [if_neg c30] at H
                                exact absurd H (by simp)
                            · rw [if_neg c29] at H
                              have c29b0 : decide (x11_3 < ((rd_L2 t292 x10_2).length : Int)) = false := decide_eq_false c29
                              clear c29
                              by_cases c55 : x10_2 > 0
                              · rw [if_pos c55] at H
                                have c55b0 : decide (0 < x10_2) = true := decide_eq_true c55
                                clear c55
                                by_cases c56 : 0 < ((rd_L2 t292 x10_2).length : Int)
                                · rw [if_pos c56] at H
                                  have c56b0 : decide (0 < ((rd_L2 t292 x10_2).length : Int)) = true := decide_eq_true c56
                                  have c56b1 : decide (0 < (rd_L2 t292 x10_2).length) = true := decide_eq_true (by omega)
                                  clear c56
                                  obtain ⟨ji57, hji57⟩ : ∃ j_ : Int, (wrap64 (x10_2 - 1)) = j_ := ⟨_, rfl⟩
                                  replace H : (if 0 ≤ (ji57) then (if (ji57) < (t292.length : Int) then (if 0 < ((rd_L2 t292 (ji57)).length : Int) then (if (rd (rd_L2 t292 x10_2) 0) ≤ (rd (rd_L2 t292 (ji57)) 0) then (some false) else (laws_FnRings.l0 k3 l1 (t288.length : Int) t292 x9_3 (wrap64 (x10_2 + 1)) t287 t288)) else (none)) else (none)) else (none)) = some r := by first | (rw [hji57] at H; exact H) | (simp only [hji57] at H ⊢; exact H)
                                  have hji57w : (IntKind.i64.wrap (x10_2 - 1)) = ji57 := (i64_w _).trans hji57
                                  by_cases c58 : 0 ≤ (ji57)
                                  · rw [if_pos c58] at H
                                    have c58b0 : decide (0 ≤ (ji57)) = true := decide_eq_true c58
                                    clear c58
                                    by_cases c59 : (ji57) < (t292.length : Int)
                                    · rw [if_pos c59] at H
                                      have c59b0 : decide ((ji57) < (t292.length : Int)) = true := decide_eq_true c59
                                      clear c59
                                      by_cases c60 : 0 < ((rd_L2 t292 (ji57)).length : Int)
                                      · rw [if_pos c60] at H
                                        have c60b0 : decide (0 < ((rd_L2 t292 (ji57)).length : Int)) = true := decide_eq_true c60
                                        have c60b1 : decide (0 < (rd_L2 t292 (ji57)).length) = true := decide_eq_true (by omega)
                                        clear c60
                                        by_cases c61 : (rd (rd_L2 t292 x10_2) 0) ≤ (rd (rd_L2 t292 (ji57)) 0)
                                        · rw [if_pos c61] at H
                                          have c61b0 : decide ((rd (rd_L2 t292 x10_2) 0) ≤ (rd (rd_L2 t292 (ji57)) 0)) = true := decide_eq_true c61
                                          clear c61
                                          obtain rfl := Option.some.inj H
                                          exact absurd HRT.out (by decide)
                                        · rw [if_neg c61] at H
                                          have c61b0 : decide ((rd (rd_L2 t292 x10_2) 0) ≤ (rd (rd_L2 t292 (ji57)) 0)) = false := decide_eq_false c61
                                          clear c61
                                          have H' := Aside0.mk H
                                          clear H
                                          have p300 : 0 ≤ (x10_2 : Int) := of_decide_eq_true (by first | (with_reducible assumption) | assumption)
                                          have q300 : x10_2 < (t292.length : Int) := of_decide_eq_true (by first | (with_reducible assumption) | assumption)
                                          obtain ⟨ad300, A300_0, c300_0, e300, hx300_0, hl300_0, hi300_0⟩ := at_L2 (Kd.S_reads' HO_7.out).2.2 x10_2 p300 q300
                                          cases e300
                                          obtain ⟨ce300, hce300, hMe300, hcc300⟩ := Kd.S_get HO_7.out [] x10_2 p300 (by first | exact q300 | exact of_decide_eq_true (by first | (with_reducible assumption) | assumption) | (have e_ := (Kd.S_reads' HO_7.out).1; omega))
                                          obtain ⟨ve300_0, rfl, ge300_0⟩ := hMe300
                                          have hv300_0 := hcc300 0 _ rfl
                                          rw [Nat.add_zero, show ((Kd.slice 2 (Kd.int .i64))).sz = 1 from rfl, Nat.mul_one] at hv300_0
                                          replace hv300_0 := Option.some.inj (hv300_0.symm.trans hx300_0)
                                          rw [hv300_0] at ge300_0
                                          have HL300_0 := Aside0.mk (show Kd.R (Kd.int .i64) 2 _ _ _ _ (rd_L2 t292 x10_2) from ge300_0)
                                          clear hv300_0 ge300_0
                                          clear hcc300 hce300
                                          have HR300_0 := Aside0.mk hi300_0
                                          have HC300_0 := Aside0.mk hl300_0
                                          clear hi300_0 hl300_0
                                          replace p300 := eq_true p300
                                          replace q300 := eq_true q300
                                          have p311 : 0 ≤ (x10_2 : Int) := of_decide_eq_true (by first | (with_reducible assumption) | assumption)
                                          have q311 : x10_2 < (t292.length : Int) := of_decide_eq_true (by first | (with_reducible assumption) | assumption)
                                          obtain ⟨ad311, A311_0, c311_0, e311, hx311_0, hl311_0, hi311_0⟩ := at_L2 (Kd.S_reads' HO_7.out).2.2 x10_2 p311 q311
                                          obtain rfl : ad300 = ad311 := (by injection e311)
                                          obtain ⟨ce311, hce311, hMe311, hcc311⟩ := Kd.S_get HO_7.out [] x10_2 p311 (by first | exact q311 | exact of_decide_eq_true (by first | (with_reducible assumption) | assumption) | (have e_ := (Kd.S_reads' HO_7.out).1; omega))
                                          obtain ⟨ve311_0, rfl, ge311_0⟩ := hMe311
                                          have hv311_0 := hcc311 0 _ rfl
                                          rw [Nat.add_zero, show ((Kd.slice 2 (Kd.int .i64))).sz = 1 from rfl, Nat.mul_one] at hv311_0
                                          replace hv311_0 := Option.some.inj (hv311_0.symm.trans hx311_0)
                                          rw [hv311_0] at ge311_0
                                          have HL311_0 := Aside0.mk (show Kd.R (Kd.int .i64) 2 _ _ _ _ (rd_L2 t292 x10_2) from ge311_0)
                                          clear hv311_0 ge311_0
                                          clear hcc311 hce311
                                          have HR311_0 := Aside0.mk hi311_0
                                          have HC311_0 := Aside0.mk hl311_0
                                          clear hi311_0 hl311_0
                                          replace p311 := eq_true p311
                                          replace q311 := eq_true q311
                                          have ea_ := Option.some.inj (hx300_0.symm.trans hx311_0)
                                          injection ea_ with ea_ en_ ec_
                                          subst ea_
                                          subst ec_
                                          clear en_
                                          have p312 : 0 ≤ (0 : Int) := (by omega)
                                          have q312 : 0 < ((rd_L2 t292 x10_2).length : Int) := of_decide_eq_true (by first | (with_reducible assumption) | assumption)
                                          obtain ⟨ad312, e312, hx312_0⟩ := Kd.at_int (by repeat (first | (with_reducible exact HR311_0.out) | (with_reducible refine Kd.C_alloc ?_ _) | (with_reducible refine Kd.C_drewN ?_ _) | (with_reducible refine Kd.C_drew ?_) | exact HR311_0.out)) 0 p312 q312
                                          cases e312
                                          have qi312 : (0 < (rd_L2 t292 x10_2).length) = True := eq_true (by omega)
                                          (try rw [show ((0 : Int)).toNat = 0 from rfl] at hx312_0)
                                          (try rw [Addr.add_zero'] at hx312_0)
                                          replace p312 := eq_true p312
                                          replace q312 := eq_true q312
                                          have p313 : 0 ≤ ((ji57) : Int) := of_decide_eq_true (by first | (with_reducible assumption) | assumption)
                                          have q313 : (ji57) < (t292.length : Int) := of_decide_eq_true (by first | (with_reducible assumption) | assumption)
                                          obtain ⟨ad313, A313_0, c313_0, e313, hx313_0, hl313_0, hi313_0⟩ := at_L2 (Kd.S_reads' HO_7.out).2.2 (ji57) p313 q313
                                          obtain rfl : ad300 = ad313 := (by injection e313)
                                          obtain ⟨ce313, hce313, hMe313, hcc313⟩ := Kd.S_get HO_7.out [] (ji57) p313 (by first | exact q313 | exact of_decide_eq_true (by first | (with_reducible assumption) | assumption) | (have e_ := (Kd.S_reads' HO_7.out).1; omega))
                                          obtain ⟨ve313_0, rfl, ge313_0⟩ := hMe313
                                          have hv313_0 := hcc313 0 _ rfl
                                          rw [Nat.add_zero, show ((Kd.slice 2 (Kd.int .i64))).sz = 1 from rfl, Nat.mul_one] at hv313_0
                                          replace hv313_0 := Option.some.inj (hv313_0.symm.trans hx313_0)
                                          rw [hv313_0] at ge313_0
                                          have HL313_0 := Aside0.mk (show Kd.R (Kd.int .i64) 2 _ _ _ _ (rd_L2 t292 (ji57)) from ge313_0)
                                          clear hv313_0 ge313_0
                                          clear hcc313 hce313
                                          have HR313_0 := Aside0.mk hi313_0
                                          have HC313_0 := Aside0.mk hl313_0
                                          clear hi313_0 hl313_0
                                          replace p313 := eq_true p313
                                          replace q313 := eq_true q313
                                          have p314 : 0 ≤ (0 : Int) := (by omega)
                                          have q314 : 0 < ((rd_L2 t292 (ji57)).length : Int) := of_decide_eq_true (by first | (with_reducible assumption) | assumption)
                                          obtain ⟨ad314, e314, hx314_0⟩ := Kd.at_int (by repeat (first | (with_reducible exact HR313_0.out) | (with_reducible refine Kd.C_alloc ?_ _) | (with_reducible refine Kd.C_drewN ?_ _) | (with_reducible refine Kd.C_drew ?_) | exact HR313_0.out)) 0 p314 q314
                                          cases e314
                                          have qi314 : (0 < (rd_L2 t292 (ji57)).length) = True := eq_true (by omega)
                                          (try rw [show ((0 : Int)).toNat = 0 from rfl] at hx314_0)
                                          (try rw [Addr.add_zero'] at hx314_0)
                                          replace p314 := eq_true p314
                                          replace q314 := eq_true q314
                                          go_wp2
                                          repeat (go_quiet (fail); try go_wp2)
                                          go_roundg k3
                                          case measure => have := HJ6.out; have := HK2.out; have := HK3.out; omega
                                          case rel => exact ⟨(x9_3), (wrap64 (x10_2 + 1)), (by first | rfl | (simp; done) | (simp [*]; done)), H', ⟨by have := HJ6.out; have := HK2.out; have := HK3.out; omega⟩, ⟨by (with_reducible repeat (first | apply Kd.S_alloc | apply Kd.S_drewN | apply Kd.S_drew)); exact HO_7.out⟩, ⟨by (with_reducible repeat (first | apply Kd.R_alloc | apply Kd.R_drewN | apply Kd.R_drew)); exact HO_9.out⟩, ⟨by (with_reducible repeat (first | apply Kd.R_alloc | apply Kd.R_drewN | apply Kd.R_drew)); exact HO_292001.out⟩, ⟨by (with_reducible repeat (first | refine blk_drewN ?_ _ | refine blk_drew ?_ | refine blk_alloc ?_ _)); exact BK291.out⟩, ⟨by repeat (first | (with_reducible first | exact HB.out | apply below_alloc | apply pw_below_drewN | apply below_drew1 | refine below_set ?_ GE291.out) | exact HB.out)⟩⟩
                                      · rw [if_neg c60] at H
                                        exact absurd H (by simp)
                                    · rw [if_neg c59] at H
                                      exact absurd H (by simp)
                                  · rw [if_neg c58] at H
                                    exact absurd H (by simp)
                                · rw [if_neg c56] at H
                                  exact absurd H (by simp)
                              · rw [if_neg c55] at H
                                have c55b0 : decide (0 < x10_2) = false := decide_eq_false c55
                                clear c55
                                have H' := Aside0.mk H
                                clear H
                                have p300 : 0 ≤ (x10_2 : Int) := of_decide_eq_true (by first | (with_reducible assumption) | assumption)
                                have q300 : x10_2 < (t292.length : Int) := of_decide_eq_true (by first | (with_reducible assumption) | assumption)
                                obtain ⟨ad300, A300_0, c300_0, e300, hx300_0, hl300_0, hi300_0⟩ := at_L2 (Kd.S_reads' HO_7.out).2.2 x10_2 p300 q300
                                cases e300
                                obtain ⟨ce300, hce300, hMe300, hcc300⟩ := Kd.S_get HO_7.out [] x10_2 p300 (by first | exact q300 | exact of_decide_eq_true (by first | (with_reducible assumption) | assumption) | (have e_ := (Kd.S_reads' HO_7.out).1; omega))
                                obtain ⟨ve300_0, rfl, ge300_0⟩ := hMe300
                                have hv300_0 := hcc300 0 _ rfl
                                rw [Nat.add_zero, show ((Kd.slice 2 (Kd.int .i64))).sz = 1 from rfl, Nat.mul_one] at hv300_0
                                replace hv300_0 := Option.some.inj (hv300_0.symm.trans hx300_0)
                                rw [hv300_0] at ge300_0
                                have HL300_0 := Aside0.mk (show Kd.R (Kd.int .i64) 2 _ _ _ _ (rd_L2 t292 x10_2) from ge300_0)
                                clear hv300_0 ge300_0
                                clear hcc300 hce300
                                have HR300_0 := Aside0.mk hi300_0
                                have HC300_0 := Aside0.mk hl300_0
                                clear hi300_0 hl300_0
                                replace p300 := eq_true p300
                                replace q300 := eq_true q300
                                go_wp2
                                repeat (go_quiet (fail); try go_wp2)
                                go_roundg k3
                                case measure => have := HJ6.out; have := HK2.out; have := HK3.out; omega
                                case rel => exact ⟨(x9_3), (wrap64 (x10_2 + 1)), (by first | rfl | (simp; done) | (simp [*]; done)), H', ⟨by have := HJ6.out; have := HK2.out; have := HK3.out; omega⟩, ⟨by (with_reducible repeat (first | apply Kd.S_alloc | apply Kd.S_drewN | apply Kd.S_drew)); exact HO_7.out⟩, ⟨by (with_reducible repeat (first | apply Kd.R_alloc | apply Kd.R_drewN | apply Kd.R_drew)); exact HO_9.out⟩, ⟨by (with_reducible repeat (first | apply Kd.R_alloc | apply Kd.R_drewN | apply Kd.R_drew)); exact HO_292001.out⟩, ⟨by (with_reducible repeat (first | refine blk_drewN ?_ _ | refine blk_drew ?_ | refine blk_alloc ?_ _)); exact BK291.out⟩, ⟨by repeat (first | (with_reducible first | exact HB.out | apply below_alloc | apply pw_below_drewN | apply below_drew1 | refine below_set ?_ GE291.out) | exact HB.out)⟩⟩
                          · rw [if_neg c28] at H
                            exact absurd H (by simp)
                        · rw [if_neg c27] at H
                          exact absurd H (by simp)
                  · rw [if_neg c25] at H
                    have c25b0 : decide (x10_2 < (t292.length : Int)) = false := decide_eq_false c25
                    clear c25
                    have H' := Aside0.mk H
                    clear H
                    obtain ⟨Ao62, co62, eo62⟩ := Kd.S_slice HO_7.out
                    subst eo62
                    go_wp2
                    repeat (go_quiet (fail); try go_wp2)
                    go_loopg [13] k2 (fun kq v13 w' => ∃ (x13_3 : Int), v13 = .int .i64 x13_3 ∧ Aside0 (laws_FnRings.l2 kq l1 (t288.length : Int) x9_2 x13_3 t287 t288 = some r) ∧ Aside0 (kq ≤ k2) ∧ Aside0 (Kd.R Kd.bool 4 w' w.heap.size (fun _ => True) v298 x9_2) ∧ Aside0 (Kd.R (Kd.int .i64) 2 w' w.heap.size (fun _ => True) (.slice Ao11 t288.length co11) t288) ∧ Aside0 (w'.heap[gb291]? = some (.cells #[.int .i64 t287, (.slice Ao11 t288.length co11)] 26 (0, 0))) ∧ Aside0 (Below w.heap.size w w'))
                    case atStart => exact ⟨(0), (by first | rfl | (simp; done) | (simp [*]; done)), H', ⟨Nat.le_refl _⟩, ⟨by (with_reducible repeat (first | apply Kd.R_alloc | apply Kd.R_drewN | apply Kd.R_drew)); exact HO_9.out⟩, ⟨by (with_reducible repeat (first | apply Kd.R_alloc | apply Kd.R_drewN | apply Kd.R_drew)); exact HO_292001.out⟩, ⟨by (with_reducible repeat (first | refine blk_drewN ?_ _ | refine blk_drew ?_ | refine blk_alloc ?_ _)); exact BK291.out⟩, ⟨by repeat (first | (with_reducible first | exact HB.out | apply below_alloc | apply pw_below_drewN | apply below_drew1 | refine below_set ?_ GE291.out) | exact HB.out)⟩⟩
                    case round =>
                      clear H'
                      try clear c2
                      try clear p2
                      try clear c3
                      try clear p3
                      try clear q3
                      try clear hx3
                      try clear qi3
                      try clear c4
                      try clear p4
                      try clear q4
                      try clear hx4
                      try clear hf4
                      try clear c5
                      try clear c6
                      try clear p6
                      try clear c25
                      try clear c25b0
                      try clear c27
                      try clear c28
                      try clear c29
                      try clear c29b0
                      try clear c30
                      try clear p30
                      try clear q30
                      try clear hx30
                      try clear qi30
                      try clear c31
                      try clear p31
                      try clear q31
                      try clear hx31
                      try clear qi31
                      try clear c33
                      try clear c34
                      try clear q35
                      try clear c38
                      try clear c41
                      try clear c42
                      try clear c43
                      try clear c43b0
                      try clear c43b1
                      try clear c44
                      try clear c45
                      try clear c45b0
                      try clear p48
                      try clear q48
                      try clear hx48
                      try clear hf48
                      try clear c55
                      try clear c55b0
                      try clear c56
                      try clear c56b0
                      try clear c56b1
                      try clear c58
                      try clear c58b0
                      try clear c59
                      try clear c59b0
                      try clear c60
                      try clear c60b0
                      try clear c60b1
                      try clear c61
                      try clear c61b0
                      try clear hcz50_0
                      try clear hcz50_1
                      try clear hcz54_0
                      try clear hcz54_1
                      try clear hfz50_0
                      try clear hfz50_1
                      try clear hfz54_0
                      try clear hfz54_1
                      try clear hx300_0
                      try clear hx301_0
                      try clear hx302_0
                      try clear hx303_0
                      try clear hx304_0
                      try clear hx305_0
                      try clear hx306_0
                      try clear hx307_0
                      try clear hx308_0
                      try clear hx309_0
                      try clear hx311_0
                      try clear hx312_0
                      try clear hx313_0
                      try clear hx314_0
                      try clear hx48_0
                      try clear p300
                      try clear p301
                      try clear p302
                      try clear p303
                      try clear p304
                      try clear p305
                      try clear p306
                      try clear p307
                      try clear p308
                      try clear p309
                      try clear p311
                      try clear p312
                      try clear p313
                      try clear p314
                      try clear p48
                      try clear q300
                      try clear q301
                      try clear q302
                      try clear q303
                      try clear q304
                      try clear q305
                      try clear q306
                      try clear q307
                      try clear q308
                      try clear q309
                      try clear q311
                      try clear q312
                      try clear q313
                      try clear q314
                      try clear q48
                      obtain ⟨x13_3, rfl, HA, HK3, HO_9, HO_292001, BK291, HB⟩ := hrel
                      cases gk with
                      | zero => exact absurd HA.out (by simp [laws_FnRings.l2])
                      | succ k3 =>
                        have H := HA.out
                        clear HA
                        simp only [laws_FnRings.l2] at H
                        by_cases c63 : x13_3 < (t288.length : Int)
                        · rw [if_pos c63] at H
                          have c63b0 : decide (x13_3 < (t288.length : Int)) = true := decide_eq_true c63
                          clear c63
                          replace H := Option.bind_eq_some_iff.mp H
                          obtain ⟨⟨t315, t316⟩, A640, H⟩ := H
                          replace H : (laws_FnRings.l3 k3 l1 (t288.length : Int) x9_2 x13_3 t315 t316 x13_3 0 t287 t288) = some r := H
                          have A64 := Aside0.mk A640
                          clear A640
                          have H' := Aside0.mk H
                          clear H
                          have hcz65_0 : wr.cell? ⟨gb291, 0, none⟩ = some (.int .i64 t287) := (blk_cell BK291.out 0).trans rfl
                          have hcz65_1 : wr.cell? ⟨gb291, 1, none⟩ = some (.slice Ao11 t288.length co11) := (blk_cell BK291.out 1).trans rfl
                          have hfz65_0 := blk_frozen BK291.out 0
                          have hfz65_1 := blk_frozen BK291.out 1
                          go_wp2_with (first | (go_at_call 19; (with_reducible refine (impl_TailOf.calls k3 t287 _ _ t288 x13_3 t315 t316 _ ?side1 ?side2 A64.out).mono ?_); (case side1 => repeat (first | exact (Kd.R_reads' HO_292001.out).2.2 | (with_reducible refine Kd.C_alloc ?_ _) | (with_reducible refine Kd.C_drewN ?_ _) | (with_reducible refine Kd.C_drew ?_))); (case side2 => exact (Kd.R_reads' HO_292001.out).2.1); rintro e w66 ⟨rfl, hb⟩; have n0_ := Aside0.mk (Kd.R_below (by (with_reducible repeat (first | apply Kd.R_alloc | apply Kd.R_drewN | apply Kd.R_drew)); exact HO_9.out) hb); have n1_ := Aside0.mk (Kd.R_below (by (with_reducible repeat (first | apply Kd.R_alloc | apply Kd.R_drewN | apply Kd.R_drew)); exact HO_292001.out) hb); have n2_ := Aside0.mk (blk_below (g := gb291) (o := .cells #[.int .i64 t287, .slice Ao11 t288.length co11] 26 (0, 0)) (by (with_reducible repeat (first | refine blk_drewN ?_ _ | refine blk_drew ?_ | refine blk_alloc ?_ _)); exact BK291.out) hb); have n3_ := Aside0.mk (below_step (by repeat (first | (with_reducible first | exact HB.out | apply below_alloc | apply pw_below_drewN | apply below_drew1 | refine below_set ?_ GE291.out) | exact HB.out)) hb); clear HO_9; clear HO_292001; clear BK291; clear HB; have HO_9 := n0_; have HO_292001 := n1_; have BK291 := n2_; have HB := n3_; clear n0_ n1_ n2_ n3_; (try clear hb); (try clear hb2); (try clear hk); (try clear hi)))
                          repeat (go_quiet (first | (go_at_call 19; (with_reducible refine (impl_TailOf.calls k3 t287 _ _ t288 x13_3 t315 t316 _ ?side1 ?side2 A64.out).mono ?_); (case side1 => repeat (first | exact (Kd.R_reads' HO_292001.out).2.2 | (with_reducible refine Kd.C_alloc ?_ _) | (with_reducible refine Kd.C_drewN ?_ _) | (with_reducible refine Kd.C_drew ?_))); (case side2 => exact (Kd.R_reads' HO_292001.out).2.1); rintro e w66 ⟨rfl, hb⟩; have n0_ := Aside0.mk (Kd.R_below (by (with_reducible repeat (first | apply Kd.R_alloc | apply Kd.R_drewN | apply Kd.R_drew)); exact HO_9.out) hb); have n1_ := Aside0.mk (Kd.R_below (by (with_reducible repeat (first | apply Kd.R_alloc | apply Kd.R_drewN | apply Kd.R_drew)); exact HO_292001.out) hb); have n2_ := Aside0.mk (blk_below (g := gb291) (o := .cells #[.int .i64 t287, .slice Ao11 t288.length co11] 26 (0, 0)) (by (with_reducible repeat (first | refine blk_drewN ?_ _ | refine blk_drew ?_ | refine blk_alloc ?_ _)); exact BK291.out) hb); have n3_ := Aside0.mk (below_step (by repeat (first | (with_reducible first | exact HB.out | apply below_alloc | apply pw_below_drewN | apply below_drew1 | refine below_set ?_ GE291.out) | exact HB.out)) hb); clear HO_9; clear HO_292001; clear BK291; clear HB; have HO_9 := n0_; have HO_292001 := n1_; have BK291 := n2_; have HB := n3_; clear n0_ n1_ n2_ n3_; (try clear hb); (try clear hb2); (try clear hk); (try clear hi))); try go_wp2_with (first | (go_at_call 19; (with_reducible refine (impl_TailOf.calls k3 t287 _ _ t288 x13_3 t315 t316 _ ?side1 ?side2 A64.out).mono ?_); (case side1 => repeat (first | exact (Kd.R_reads' HO_292001.out).2.2 | (with_reducible refine Kd.C_alloc ?_ _) | (with_reducible refine Kd.C_drewN ?_ _) | (with_reducible refine Kd.C_drew ?_))); (case side2 => exact (Kd.R_reads' HO_292001.out).2.1); rintro e w66 ⟨rfl, hb⟩; have n0_ := Aside0.mk (Kd.R_below (by (with_reducible repeat (first | apply Kd.R_alloc | apply Kd.R_drewN | apply Kd.R_drew)); exact HO_9.out) hb); have n1_ := Aside0.mk (Kd.R_below (by (with_reducible repeat (first | apply Kd.R_alloc | apply Kd.R_drewN | apply Kd.R_drew)); exact HO_292001.out) hb); have n2_ := Aside0.mk (blk_below (g := gb291) (o := .cells #[.int .i64 t287, .slice Ao11 t288.length co11] 26 (0, 0)) (by (with_reducible repeat (first | refine blk_drewN ?_ _ | refine blk_drew ?_ | refine blk_alloc ?_ _)); exact BK291.out) hb); have n3_ := Aside0.mk (below_step (by repeat (first | (with_reducible first | exact HB.out | apply below_alloc | apply pw_below_drewN | apply below_drew1 | refine below_set ?_ GE291.out) | exact HB.out)) hb); clear HO_9; clear HO_292001; clear BK291; clear HB; have HO_9 := n0_; have HO_292001 := n1_; have BK291 := n2_; have HB := n3_; clear n0_ n1_ n2_ n3_; (try clear hb); (try clear hb2); (try clear hk); (try clear hi))))
                          go_loopg [16, 17] k3 (fun kq v16 v17 w' => ∃ (x16_4 : Int) (x17_4 : Int), v16 = .int .i64 x16_4 ∧ v17 = .int .i64 x17_4 ∧ Aside0 (laws_FnRings.l3 kq l1 (t288.length : Int) x9_2 x13_3 t315 t316 x16_4 x17_4 t287 t288 = some r) ∧ Aside0 (kq ≤ k3) ∧ Aside0 (Kd.R Kd.bool 4 w' w.heap.size (fun _ => True) v298 x9_2) ∧ Aside0 (Kd.R (Kd.int .i64) 2 w' w.heap.size (fun _ => True) (.slice Ao11 t288.length co11) t288) ∧ Aside0 (w'.heap[gb291]? = some (.cells #[.int .i64 t287, (.slice Ao11 t288.length co11)] 26 (0, 0))) ∧ Aside0 (Below w.heap.size w w'))
                          case atStart => exact ⟨(x13_3), (0), (by first | rfl | (simp; done) | (simp [*]; done)), (by first | rfl | (simp; done) | (simp [*]; done)), H', ⟨Nat.le_refl _⟩, ⟨by (with_reducible repeat (first | apply Kd.R_alloc | apply Kd.R_drewN | apply Kd.R_drew)); exact HO_9.out⟩, ⟨by (with_reducible repeat (first | apply Kd.R_alloc | apply Kd.R_drewN | apply Kd.R_drew)); exact HO_292001.out⟩, ⟨by (with_reducible repeat (first | refine blk_drewN ?_ _ | refine blk_drew ?_ | refine blk_alloc ?_ _)); exact BK291.out⟩, ⟨by repeat (first | (with_reducible first | exact HB.out | apply below_alloc | apply pw_below_drewN | apply below_drew1 | refine below_set ?_ GE291.out) | exact HB.out)⟩⟩
                          case round =>
                            clear H'
                            try clear c2
                            try clear p2
                            try clear c3
                            try clear p3
                            try clear q3
                            try clear hx3
                            try clear qi3
                            try clear c4
                            try clear p4
                            try clear q4
                            try clear hx4
                            try clear hf4
                            try clear c5
                            try clear c6
                            try clear p6
                            try clear c25
                            try clear c25b0
                            try clear c27
                            try clear c28
                            try clear c29
                            try clear c29b0
                            try clear c30
                            try clear p30
                            try clear q30
                            try clear hx30
                            try clear qi30
                            try clear c31
                            try clear p31
                            try clear q31
                            try clear hx31
                            try clear qi31
                            try clear c33
                            try clear c34
                            try clear q35
                            try clear c38
                            try clear c41
                            try clear c42
                            try clear c43
                            try clear c43b0
                            try clear c43b1
                            try clear c44
                            try clear c45
                            try clear c45b0
                            try clear p48
                            try clear q48
                            try clear hx48
                            try clear hf48
                            try clear c55
                            try clear c55b0
                            try clear c56
                            try clear c56b0
                            try clear c56b1
                            try clear c58
                            try clear c58b0
                            try clear c59
                            try clear c59b0
                            try clear c60
                            try clear c60b0
                            try clear c60b1
                            try clear c61
                            try clear c61b0
                            try clear c63
                            try clear c63b0
                            try clear p64
                            try clear hcz50_0
                            try clear hcz50_1
                            try clear hcz54_0
                            try clear hcz54_1
                            try clear hcz65_0
                            try clear hcz65_1
                            try clear hfz50_0
                            try clear hfz50_1
                            try clear hfz54_0
                            try clear hfz54_1
                            try clear hfz65_0
                            try clear hfz65_1
                            try clear hx300_0
                            try clear hx301_0
                            try clear hx302_0
                            try clear hx303_0
                            try clear hx304_0
                            try clear hx305_0
                            try clear hx306_0
                            try clear hx307_0
                            try clear hx308_0
                            try clear hx309_0
                            try clear hx311_0
                            try clear hx312_0
                            try clear hx313_0
                            try clear hx314_0
                            try clear hx48_0
                            try clear p2
                            try clear p3
                            try clear p30
                            try clear p300
                            try clear p301
                            try clear p302
                            try clear p303
                            try clear p304
                            try clear p305
                            try clear p306
                            try clear p307
                            try clear p308
                            try clear p309
                            try clear p31
                            try clear p311
                            try clear p312
                            try clear p313
                            try clear p314
                            try clear p4
                            try clear p48
                            try clear p6
                            try clear q3
                            try clear q30
                            try clear q300
                            try clear q301
                            try clear q302
                            try clear q303
                            try clear q304
                            try clear q305
                            try clear q306
                            try clear q307
                            try clear q308
                            try clear q309
                            try clear q31
                            try clear q311
                            try clear q312
                            try clear q313
                            try clear q314
                            try clear q35
                            try clear q4
                            try clear q48
                            obtain ⟨x16_4, x17_4, rfl, rfl, HA, HK4, HO_9, HO_292001, BK291, HB⟩ := hrel
                            cases gk with
                            | zero => exact absurd HA.out (by simp [laws_FnRings.l3])
                            | succ k4 =>
                              have H := HA.out
                              clear HA
                              simp only [laws_FnRings.l3] at H
                              by_cases c67 : x17_4 < (t288.length : Int)
                              · rw [if_pos c67] at H
                                have c67b0 : decide (x17_4 < (t288.length : Int)) = true := decide_eq_true c67
                                clear c67
                                by_cases c68 : 0 ≤ x16_4
                                · rw [if_pos c68] at H
                                  have c68b0 : decide (0 ≤ x16_4) = true := decide_eq_true c68
                                  clear c68
                                  by_cases c69 : x16_4 < (x9_2.length : Int)
                                  · rw [if_pos c69] at H
                                    have c69b0 : decide (x16_4 < (x9_2.length : Int)) = true := decide_eq_true c69
                                    clear c69
                                    obtain ⟨bq70, hbq70⟩ : ∃ b_ : Bool, b_ = (rdOf false x9_2 x16_4) := ⟨_, rfl⟩
                                    replace H : (if bq70 = true then (if t316 = true then (if x17_4 = t315 then (laws_FnRings.l2 k4 l1 (t288.length : Int) x9_2 (wrap64 (x13_3 + 1)) t287 t288) else (some false)) else (some false)) else (if x16_4 < (t288.length : Int) then (laws_FnRings.l3 k4 l1 (t288.length : Int) x9_2 x13_3 t315 t316 (rd t288 x16_4) (wrap64 (x17_4 + 1)) t287 t288) else (none))) = some r := by rw [← hbq70] at H; exact H
                                    have Nbq70 := Aside0.mk hbq70
                                    clear hbq70
                                    by_cases c71 : bq70 = true
                                    · subst c71
                                      have H1 : (if t316 = true then (if x17_4 = t315 then (laws_FnRings.l2 k4 l1 (t288.length : Int) x9_2 (wrap64 (x13_3 + 1)) t287 t288) else (some false)) else (some false)) = some r := by rw [if_pos rfl] at H; exact H
                                      clear H
                                      have H := H1
                                      clear H1
                                      by_cases c72 : t316 = true
                                      · subst c72
                                        have H1 : (if x17_4 = t315 then (laws_FnRings.l2 k4 l1 (t288.length : Int) x9_2 (wrap64 (x13_3 + 1)) t287 t288) else (some false)) = some r := by rw [if_pos rfl] at H; exact H
                                        clear H
                                        have H := H1
                                        clear H1
                                        by_cases c73 : x17_4 = t315
                                        · rw [if_pos c73] at H
                                          have c73b0 : (x17_4 == t315) = true := beq_iff_eq.mpr c73
                                          have c73b1 : (x17_4 != t315) = false := bne_eq_false_iff_eq.mpr c73
                                          clear c73
                                          have H' := Aside0.mk H
                                          clear H
                                          obtain ⟨Ao74, co74, eo74⟩ := Kd.R_slice HO_9.out
                                          subst eo74
                                          have p317 : 0 ≤ (x16_4 : Int) := of_decide_eq_true (by first | (with_reducible assumption) | assumption)
                                          have q317 : x16_4 < (x9_2.length : Int) := of_decide_eq_true (by first | (with_reducible assumption) | assumption)
                                          obtain ⟨ad317, e317, hx317_0⟩ := Kd.at_bool (Kd.R_reads' HO_9.out).2.2 x16_4 p317 q317
                                          (try rw [← Nbq70.out] at hx317_0)
                                          cases e317
                                          replace p317 := eq_true p317
                                          replace q317 := eq_true q317
                                          have p318 : 0 ≤ (x16_4 : Int) := of_decide_eq_true (by first | (with_reducible assumption) | assumption)
                                          have q318 : x16_4 < (x9_2.length : Int) := of_decide_eq_true (by first | (with_reducible assumption) | assumption)
                                          obtain ⟨ad318, e318, hx318_0⟩ := Kd.at_bool (Kd.R_reads' HO_9.out).2.2 x16_4 p318 q318
                                          (try rw [← Nbq70.out] at hx318_0)
                                          obtain rfl : ad317 = ad318 := (by injection e318)
                                          replace p318 := eq_true p318
                                          replace q318 := eq_true q318
                                          go_wp2
                                          repeat (go_quiet (fail); try go_wp2)
                                          go_roundg k4
                                          case measure => have := HJ6.out; have := HK2.out; have := HK3.out; have := HK4.out; omega
                                          case rel => exact ⟨(wrap64 (x13_3 + 1)), (by first | rfl | (simp; done) | (simp [*]; done)), H', ⟨by have := HJ6.out; have := HK2.out; have := HK3.out; have := HK4.out; omega⟩, ⟨by (with_reducible repeat (first | apply Kd.R_alloc | apply Kd.R_drewN | apply Kd.R_drew)); exact HO_9.out⟩, ⟨by (with_reducible repeat (first | apply Kd.R_alloc | apply Kd.R_drewN | apply Kd.R_drew)); exact HO_292001.out⟩, ⟨by (with_reducible repeat (first | refine blk_drewN ?_ _ | refine blk_drew ?_ | refine blk_alloc ?_ _)); exact BK291.out⟩, ⟨by repeat (first | (with_reducible first | exact HB.out | apply below_alloc | apply pw_below_drewN | apply below_drew1 | refine below_set ?_ GE291.out) | exact HB.out)⟩⟩
                                        · rw [if_neg c73] at H
                                          have c73b0 : (x17_4 == t315) = false := beq_eq_false_iff_ne.mpr c73
                                          have c73b1 : (x17_4 != t315) = true := bne_iff_ne.mpr c73
                                          obtain rfl := Option.some.inj H
                                          exact absurd HRT.out (by decide)
                                      · replace c72 := Bool.eq_false_iff.mpr c72
                                        subst c72
                                        have H1 : (some false) = some r := by rw [if_neg (show ¬ (false = true) by decide)] at H; exact H
                                        clear H
                                        have H := H1
                                        clear H1
                                        obtain rfl := Option.some.inj H
                                        exact absurd HRT.out (by decide)
                                    · replace c71 := Bool.eq_false_iff.mpr c71
                                      subst c71
                                      have H1 : (if x16_4 < (t288.length : Int) then (laws_FnRings.l3 k4 l1 (t288.length : Int) x9_2 x13_3 t315 t316 (rd t288 x16_4) (wrap64 (x17_4 + 1)) t287 t288) else (none)) = some r := by rw [if_neg (show ¬ (false = true) by decide)] at H; exact H
                                      clear H
                                      have H := H1
                                      clear H1
                                      by_cases c77 : x16_4 < (t288.length : Int)
                                      · rw [if_pos c77] at H
                                        have c77b0 : decide (x16_4 < (t288.length : Int)) = true := decide_eq_true c77
                                        clear c77
                                        have H' := Aside0.mk H
                                        clear H
                                        obtain ⟨Ao78, co78, eo78⟩ := Kd.R_slice HO_9.out
                                        subst eo78
                                        have p317 : 0 ≤ (x16_4 : Int) := of_decide_eq_true (by first | (with_reducible assumption) | assumption)
                                        have q317 : x16_4 < (x9_2.length : Int) := of_decide_eq_true (by first | (with_reducible assumption) | assumption)
                                        obtain ⟨ad317, e317, hx317_0⟩ := Kd.at_bool (Kd.R_reads' HO_9.out).2.2 x16_4 p317 q317
                                        (try rw [← Nbq70.out] at hx317_0)
                                        cases e317
                                        replace p317 := eq_true p317
                                        replace q317 := eq_true q317
                                        have hcz79_0 : wr.cell? ⟨gb291, 0, none⟩ = some (.int .i64 t287) := (blk_cell BK291.out 0).trans rfl
                                        have hcz79_1 : wr.cell? ⟨gb291, 1, none⟩ = some (.slice Ao11 t288.length co11) := (blk_cell BK291.out 1).trans rfl
                                        have hfz79_0 := blk_frozen BK291.out 0
                                        have hfz79_1 := blk_frozen BK291.out 1
                                        have p319 : 0 ≤ (x16_4 : Int) := of_decide_eq_true (by first | (with_reducible assumption) | assumption)
                                        have q319 : x16_4 < (t288.length : Int) := of_decide_eq_true (by first | (with_reducible assumption) | assumption)
                                        obtain ⟨ad319, e319, hx319_0⟩ := Kd.at_int (Kd.R_reads' HO_292001.out).2.2 x16_4 p319 q319
                                        cases e319
                                        replace p319 := eq_true p319
                                        replace q319 := eq_true q319
                                        go_wp2
                                        repeat (go_quiet (fail); try go_wp2)
                                        go_roundg k4
                                        case measure => have := HJ6.out; have := HK2.out; have := HK3.out; have := HK4.out; omega
                                        case rel => exact ⟨(rd t288 x16_4), (wrap64 (x17_4 + 1)), (by first | rfl | (simp; done) | (simp [*]; done)), (by first | rfl | (simp; done) | (simp [*]; done)), H', ⟨by have := HJ6.out; have := HK2.out; have := HK3.out; have := HK4.out; omega⟩, ⟨by (with_reducible repeat (first | apply Kd.R_alloc | apply Kd.R_drewN | apply Kd.R_drew)); exact HO_9.out⟩, ⟨by (with_reducible repeat (first | apply Kd.R_alloc | apply Kd.R_drewN | apply Kd.R_drew)); exact HO_292001.out⟩, ⟨by (with_reducible repeat (first | refine blk_drewN ?_ _ | refine blk_drew ?_ | refine blk_alloc ?_ _)); exact BK291.out⟩, ⟨by repeat (first | (with_reducible first | exact HB.out | apply below_alloc | apply pw_below_drewN | apply below_drew1 | refine below_set ?_ GE291.out) | exact HB.out)⟩⟩
                                      · rw [if_neg c77] at H
                                        exact absurd H (by simp)
                                  · rw [if_neg c69] at H
                                    exact absurd H (by simp)
                                · rw [if_neg c68] at H
                                  exact absurd H (by simp)
                              · rw [if_neg c67] at H
                                have c67b0 : decide (x17_4 < (t288.length : Int)) = false := decide_eq_false c67
                                clear c67
                                by_cases c80 : t316 = true
                                · subst c80
                                  have H1 : (if x17_4 = t315 then (if 0 ≤ x16_4 then (if x16_4 < (x9_2.length : Int) then (if rdOf false x9_2 x16_4 = true then (laws_FnRings.l2 k4 l1 (t288.length : Int) x9_2 (wrap64 (x13_3 + 1)) t287 t288) else (some false)) else (none)) else (none)) else (some false)) = some r := by rw [if_pos rfl] at H; exact H
                                  clear H
                                  have H := H1
                                  clear H1
                                  by_cases c81 : x17_4 = t315
                                  · rw [if_pos c81] at H
                                    have c81b0 : (x17_4 == t315) = true := beq_iff_eq.mpr c81
                                    have c81b1 : (x17_4 != t315) = false := bne_eq_false_iff_eq.mpr c81
                                    clear c81
                                    by_cases c82 : 0 ≤ x16_4
                                    · rw [if_pos c82] at H
                                      have c82b0 : decide (0 ≤ x16_4) = true := decide_eq_true c82
                                      clear c82
                                      by_cases c83 : x16_4 < (x9_2.length : Int)
                                      · rw [if_pos c83] at H
                                        have c83b0 : decide (x16_4 < (x9_2.length : Int)) = true := decide_eq_true c83
                                        clear c83
                                        obtain ⟨bq84, hbq84⟩ : ∃ b_ : Bool, b_ = (rdOf false x9_2 x16_4) := ⟨_, rfl⟩
                                        replace H : (if bq84 = true then (laws_FnRings.l2 k4 l1 (t288.length : Int) x9_2 (wrap64 (x13_3 + 1)) t287 t288) else (some false)) = some r := by rw [← hbq84] at H; exact H
                                        have Nbq84 := Aside0.mk hbq84
                                        clear hbq84
                                        by_cases c85 : bq84 = true
                                        · subst c85
                                          have H1 : (laws_FnRings.l2 k4 l1 (t288.length : Int) x9_2 (wrap64 (x13_3 + 1)) t287 t288) = some r := by rw [if_pos rfl] at H; exact H
                                          clear H
                                          have H := H1
                                          clear H1
                                          have H' := Aside0.mk H
                                          clear H
                                          obtain ⟨Ao86, co86, eo86⟩ := Kd.R_slice HO_9.out
                                          subst eo86
                                          have p320 : 0 ≤ (x16_4 : Int) := of_decide_eq_true (by first | (with_reducible assumption) | assumption)
                                          have q320 : x16_4 < (x9_2.length : Int) := of_decide_eq_true (by first | (with_reducible assumption) | assumption)
                                          obtain ⟨ad320, e320, hx320_0⟩ := Kd.at_bool (Kd.R_reads' HO_9.out).2.2 x16_4 p320 q320
                                          (try rw [← Nbq84.out] at hx320_0)
                                          cases e320
                                          replace p320 := eq_true p320
                                          replace q320 := eq_true q320
                                          go_wp2
                                          repeat (go_quiet (fail); try go_wp2)
                                          go_roundg k4
                                          case measure => have := HJ6.out; have := HK2.out; have := HK3.out; have := HK4.out; omega
                                          case rel => exact ⟨(wrap64 (x13_3 + 1)), (by first | rfl | (simp; done) | (simp [*]; done)), H', ⟨by have := HJ6.out; have := HK2.out; have := HK3.out; have := HK4.out; omega⟩, ⟨by (with_reducible repeat (first | apply Kd.R_alloc | apply Kd.R_drewN | apply Kd.R_drew)); exact HO_9.out⟩, ⟨by (with_reducible repeat (first | apply Kd.R_alloc | apply Kd.R_drewN | apply Kd.R_drew)); exact HO_292001.out⟩, ⟨by (with_reducible repeat (first | refine blk_drewN ?_ _ | refine blk_drew ?_ | refine blk_alloc ?_ _)); exact BK291.out⟩, ⟨by repeat (first | (with_reducible first | exact HB.out | apply below_alloc | apply pw_below_drewN | apply below_drew1 | refine below_set ?_ GE291.out) | exact HB.out)⟩⟩
                                        · replace c85 := Bool.eq_false_iff.mpr c85
                                          subst c85
                                          have H1 : (some false) = some r := by rw [if_neg (show ¬ (false = true) by decide)] at H; exact H
                                          clear H
                                          have H := H1
                                          clear H1
                                          obtain rfl := Option.some.inj H
                                          exact absurd HRT.out (by decide)
                                      · rw [if_neg c83] at H
                                        exact absurd H (by simp)
                                    · rw [if_neg c82] at H
                                      exact absurd H (by simp)
                                  · rw [if_neg c81] at H
                                    have c81b0 : (x17_4 == t315) = false := beq_eq_false_iff_ne.mpr c81
                                    have c81b1 : (x17_4 != t315) = true := bne_iff_ne.mpr c81
                                    obtain rfl := Option.some.inj H
                                    exact absurd HRT.out (by decide)
                                · replace c80 := Bool.eq_false_iff.mpr c80
                                  subst c80
                                  have H1 : (some false) = some r := by rw [if_neg (show ¬ (false = true) by decide)] at H; exact H
                                  clear H
                                  have H := H1
                                  clear H1
                                  obtain rfl := Option.some.inj H
                                  exact absurd HRT.out (by decide)
                        · rw [if_neg c63] at H
                          have c63b0 : decide (x13_3 < (t288.length : Int)) = false := decide_eq_false c63
                          clear c63
                          replace H := Option.bind_eq_some_iff.mp H
                          obtain ⟨t321, A880, H⟩ := H
                          replace H : ((laws_r8At.f l1 1 200).bind fun t322 => (laws_FnRings.l4 k3 (t288.length : Int) x9_2 t321 t322 t321 0 t287 t288)) = some r := H
                          have A88 := Aside0.mk A880
                          clear A880
                          replace H := Option.bind_eq_some_iff.mp H
                          obtain ⟨t322, A890, H⟩ := H
                          replace H : (laws_FnRings.l4 k3 (t288.length : Int) x9_2 t321 t322 t321 0 t287 t288) = some r := H
                          have A89 := Aside0.mk A890
                          clear A890
                          have H' := Aside0.mk H
                          clear H
                          go_wp2_with (first | (go_at_call 20; (with_reducible refine (laws_r8At.calls _ _ l1 0 (t288.length : Int) t321 _ ?side1 ?side2 A88.out).mono ?_); (case side1 => repeat (first | exact (Kd.C_below HR1.out HB.out) | (with_reducible refine Kd.C_alloc ?_ _) | (with_reducible refine Kd.C_drewN ?_ _) | (with_reducible refine Kd.C_drew ?_))); (case side2 => exact HC1.out); rintro e w' ⟨rfl, ⟨nd, rfl⟩⟩; (try first | exact ⟨rfl, _, World.drewN_drewN _ _ _⟩ | exact ⟨rfl, _, Eq.trans (World.drewN_drewN _ _ _) (congrArg (World.drewN _) (Nat.add_assoc _ _ _))⟩)) | (go_at_call 20; (with_reducible refine (laws_r8At.calls _ _ l1 1 200 t322 _ ?side1 ?side2 A89.out).mono ?_); (case side1 => repeat (first | exact (Kd.C_below HR1.out (by repeat (first | (with_reducible first | exact HB.out | apply below_alloc | apply pw_below_drewN | apply below_drew1 | refine below_set ?_ GE291.out) | exact HB.out))) | (with_reducible refine Kd.C_alloc ?_ _) | (with_reducible refine Kd.C_drewN ?_ _) | (with_reducible refine Kd.C_drew ?_))); (case side2 => exact HC1.out); rintro e w' ⟨rfl, ⟨nd, rfl⟩⟩; (try first | exact ⟨rfl, _, World.drewN_drewN _ _ _⟩ | exact ⟨rfl, _, Eq.trans (World.drewN_drewN _ _ _) (congrArg (World.drewN _) (Nat.add_assoc _ _ _))⟩)))
                          repeat (go_quiet (first | (go_at_call 20; (with_reducible refine (laws_r8At.calls _ _ l1 0 (t288.length : Int) t321 _ ?side1 ?side2 A88.out).mono ?_); (case side1 => repeat (first | exact (Kd.C_below HR1.out HB.out) | (with_reducible refine Kd.C_alloc ?_ _) | (with_reducible refine Kd.C_drewN ?_ _) | (with_reducible refine Kd.C_drew ?_))); (case side2 => exact HC1.out); rintro e w' ⟨rfl, ⟨nd, rfl⟩⟩; (try first | exact ⟨rfl, _, World.drewN_drewN _ _ _⟩ | exact ⟨rfl, _, Eq.trans (World.drewN_drewN _ _ _) (congrArg (World.drewN _) (Nat.add_assoc _ _ _))⟩)) | (go_at_call 20; (with_reducible refine (laws_r8At.calls _ _ l1 1 200 t322 _ ?side1 ?side2 A89.out).mono ?_); (case side1 => repeat (first | exact (Kd.C_below HR1.out (by repeat (first | (with_reducible first | exact HB.out | apply below_alloc | apply pw_below_drewN | apply below_drew1 | refine below_set ?_ GE291.out) | exact HB.out))) | (with_reducible refine Kd.C_alloc ?_ _) | (with_reducible refine Kd.C_drewN ?_ _) | (with_reducible refine Kd.C_drew ?_))); (case side2 => exact HC1.out); rintro e w' ⟨rfl, ⟨nd, rfl⟩⟩; (try first | exact ⟨rfl, _, World.drewN_drewN _ _ _⟩ | exact ⟨rfl, _, Eq.trans (World.drewN_drewN _ _ _) (congrArg (World.drewN _) (Nat.add_assoc _ _ _))⟩))); try go_wp2_with (first | (go_at_call 20; (with_reducible refine (laws_r8At.calls _ _ l1 0 (t288.length : Int) t321 _ ?side1 ?side2 A88.out).mono ?_); (case side1 => repeat (first | exact (Kd.C_below HR1.out HB.out) | (with_reducible refine Kd.C_alloc ?_ _) | (with_reducible refine Kd.C_drewN ?_ _) | (with_reducible refine Kd.C_drew ?_))); (case side2 => exact HC1.out); rintro e w' ⟨rfl, ⟨nd, rfl⟩⟩; (try first | exact ⟨rfl, _, World.drewN_drewN _ _ _⟩ | exact ⟨rfl, _, Eq.trans (World.drewN_drewN _ _ _) (congrArg (World.drewN _) (Nat.add_assoc _ _ _))⟩)) | (go_at_call 20; (with_reducible refine (laws_r8At.calls _ _ l1 1 200 t322 _ ?side1 ?side2 A89.out).mono ?_); (case side1 => repeat (first | exact (Kd.C_below HR1.out (by repeat (first | (with_reducible first | exact HB.out | apply below_alloc | apply pw_below_drewN | apply below_drew1 | refine below_set ?_ GE291.out) | exact HB.out))) | (with_reducible refine Kd.C_alloc ?_ _) | (with_reducible refine Kd.C_drewN ?_ _) | (with_reducible refine Kd.C_drew ?_))); (case side2 => exact HC1.out); rintro e w' ⟨rfl, ⟨nd, rfl⟩⟩; (try first | exact ⟨rfl, _, World.drewN_drewN _ _ _⟩ | exact ⟨rfl, _, Eq.trans (World.drewN_drewN _ _ _) (congrArg (World.drewN _) (Nat.add_assoc _ _ _))⟩))))
                          go_loopg [20, 21] k3 (fun kq v20 v21 w' => ∃ (x20_4 : Int) (x21_4 : Int), v20 = .int .i64 x20_4 ∧ v21 = .int .i64 x21_4 ∧ Aside0 (laws_FnRings.l4 kq (t288.length : Int) x9_2 t321 t322 x20_4 x21_4 t287 t288 = some r) ∧ Aside0 (kq ≤ k3) ∧ Aside0 (Kd.R Kd.bool 4 w' w.heap.size (fun _ => True) v298 x9_2) ∧ Aside0 (Kd.R (Kd.int .i64) 2 w' w.heap.size (fun _ => True) (.slice Ao11 t288.length co11) t288) ∧ Aside0 (w'.heap[gb291]? = some (.cells #[.int .i64 t287, (.slice Ao11 t288.length co11)] 26 (0, 0))) ∧ Aside0 (Below w.heap.size w w'))
                          case atStart => exact ⟨(t321), (0), (by first | rfl | (simp; done) | (simp [*]; done)), (by first | rfl | (simp; done) | (simp [*]; done)), H', ⟨Nat.le_refl _⟩, ⟨by (with_reducible repeat (first | apply Kd.R_alloc | apply Kd.R_drewN | apply Kd.R_drew)); exact HO_9.out⟩, ⟨by (with_reducible repeat (first | apply Kd.R_alloc | apply Kd.R_drewN | apply Kd.R_drew)); exact HO_292001.out⟩, ⟨by (with_reducible repeat (first | refine blk_drewN ?_ _ | refine blk_drew ?_ | refine blk_alloc ?_ _)); exact BK291.out⟩, ⟨by repeat (first | (with_reducible first | exact HB.out | apply below_alloc | apply pw_below_drewN | apply below_drew1 | refine below_set ?_ GE291.out) | exact HB.out)⟩⟩
                          case round =>
                            clear H'
                            try clear c2
                            try clear p2
                            try clear c3
                            try clear p3
                            try clear q3
                            try clear hx3
                            try clear qi3
                            try clear c4
                            try clear p4
                            try clear q4
                            try clear hx4
                            try clear hf4
                            try clear c5
                            try clear c6
                            try clear p6
                            try clear c7
                            try clear q7
                            try clear c8
                            try clear q8
                            try clear c25
                            try clear c25b0
                            try clear c27
                            try clear c28
                            try clear c29
                            try clear c29b0
                            try clear c30
                            try clear p30
                            try clear q30
                            try clear hx30
                            try clear qi30
                            try clear c31
                            try clear p31
                            try clear q31
                            try clear hx31
                            try clear qi31
                            try clear p32
                            try clear q32
                            try clear hx32
                            try clear c33
                            try clear c34
                            try clear q35
                            try clear c38
                            try clear c41
                            try clear c42
                            try clear c43
                            try clear c43b0
                            try clear c43b1
                            try clear c44
                            try clear c45
                            try clear c45b0
                            try clear p48
                            try clear q48
                            try clear hx48
                            try clear hf48
                            try clear c55
                            try clear c55b0
                            try clear c56
                            try clear c56b0
                            try clear c56b1
                            try clear c58
                            try clear c58b0
                            try clear c59
                            try clear c59b0
                            try clear c60
                            try clear c60b0
                            try clear c60b1
                            try clear c61
                            try clear c61b0
                            try clear c63
                            try clear c63b0
                            try clear p64
                            try clear c67
                            try clear c67b0
                            try clear c68
                            try clear c68b0
                            try clear c69
                            try clear c69b0
                            try clear q70
                            try clear c71
                            try clear c72
                            try clear c73
                            try clear c73b0
                            try clear c73b1
                            try clear c77
                            try clear c77b0
                            try clear c80
                            try clear c81
                            try clear c81b0
                            try clear c81b1
                            try clear c82
                            try clear c82b0
                            try clear c83
                            try clear c83b0
                            try clear q84
                            try clear c85
                            try clear hcz50_0
                            try clear hcz50_1
                            try clear hcz54_0
                            try clear hcz54_1
                            try clear hcz65_0
                            try clear hcz65_1
                            try clear hcz79_0
                            try clear hcz79_1
                            try clear hfz50_0
                            try clear hfz50_1
                            try clear hfz54_0
                            try clear hfz54_1
                            try clear hfz65_0
                            try clear hfz65_1
                            try clear hfz79_0
                            try clear hfz79_1
                            try clear hx300_0
                            try clear hx301_0
                            try clear hx302_0
                            try clear hx303_0
                            try clear hx304_0
                            try clear hx305_0
                            try clear hx306_0
                            try clear hx307_0
                            try clear hx308_0
                            try clear hx309_0
                            try clear hx311_0
                            try clear hx312_0
                            try clear hx313_0
                            try clear hx314_0
                            try clear hx317_0
                            try clear hx318_0
                            try clear hx319_0
                            try clear hx320_0
                            try clear hx48_0
                            try clear p2
                            try clear p3
                            try clear p30
                            try clear p300
                            try clear p301
                            try clear p302
                            try clear p303
                            try clear p304
                            try clear p305
                            try clear p306
                            try clear p307
                            try clear p308
                            try clear p309
                            try clear p31
                            try clear p311
                            try clear p312
                            try clear p313
                            try clear p314
                            try clear p317
                            try clear p318
                            try clear p319
                            try clear p320
                            try clear p4
                            try clear p48
                            try clear p6
                            try clear p64
                            try clear q3
                            try clear q30
                            try clear q300
                            try clear q301
                            try clear q302
                            try clear q303
                            try clear q304
                            try clear q305
                            try clear q306
                            try clear q307
                            try clear q308
                            try clear q309
                            try clear q31
                            try clear q311
                            try clear q312
                            try clear q313
                            try clear q314
                            try clear q317
                            try clear q318
                            try clear q319
                            try clear q320
                            try clear q35
                            try clear q4
                            try clear q48
                            obtain ⟨x20_4, x21_4, rfl, rfl, HA, HK4, HO_9, HO_292001, BK291, HB⟩ := hrel
                            cases gk with
                            | zero => exact absurd HA.out (by simp [laws_FnRings.l4])
                            | succ k4 =>
                              have H := HA.out
                              clear HA
                              simp only [laws_FnRings.l4] at H
                              by_cases c90 : x21_4 < t322
                              · rw [if_pos c90] at H
                                have c90b0 : decide (x21_4 < t322) = true := decide_eq_true c90
                                clear c90
                                by_cases c91 : 0 ≤ x20_4
                                · rw [if_pos c91] at H
                                  have c91b0 : decide (0 ≤ x20_4) = true := decide_eq_true c91
                                  clear c91
                                  by_cases c92 : x20_4 < (t288.length : Int)
                                  · rw [if_pos c92] at H
                                    have c92b0 : decide (x20_4 < (t288.length : Int)) = true := decide_eq_true c92
                                    clear c92
                                    have H' := Aside0.mk H
                                    clear H
                                    have hcz93_0 : wr.cell? ⟨gb291, 0, none⟩ = some (.int .i64 t287) := (blk_cell BK291.out 0).trans rfl
                                    have hcz93_1 : wr.cell? ⟨gb291, 1, none⟩ = some (.slice Ao11 t288.length co11) := (blk_cell BK291.out 1).trans rfl
                                    have hfz93_0 := blk_frozen BK291.out 0
                                    have hfz93_1 := blk_frozen BK291.out 1
                                    have p323 : 0 ≤ (x20_4 : Int) := of_decide_eq_true (by first | (with_reducible assumption) | assumption)
                                    have q323 : x20_4 < (t288.length : Int) := of_decide_eq_true (by first | (with_reducible assumption) | assumption)
                                    obtain ⟨ad323, e323, hx323_0⟩ := Kd.at_int (Kd.R_reads' HO_292001.out).2.2 x20_4 p323 q323
                                    cases e323
                                    replace p323 := eq_true p323
                                    replace q323 := eq_true q323
                                    go_wp2
                                    repeat (go_quiet (fail); try go_wp2)
                                    go_roundg k4
                                    case measure => have := HJ6.out; have := HK2.out; have := HK3.out; have := HK4.out; omega
                                    case rel => exact ⟨(rd t288 x20_4), (wrap64 (x21_4 + 1)), (by first | rfl | (simp; done) | (simp [*]; done)), (by first | rfl | (simp; done) | (simp [*]; done)), H', ⟨by have := HJ6.out; have := HK2.out; have := HK3.out; have := HK4.out; omega⟩, ⟨by (with_reducible repeat (first | apply Kd.R_alloc | apply Kd.R_drewN | apply Kd.R_drew)); exact HO_9.out⟩, ⟨by (with_reducible repeat (first | apply Kd.R_alloc | apply Kd.R_drewN | apply Kd.R_drew)); exact HO_292001.out⟩, ⟨by (with_reducible repeat (first | refine blk_drewN ?_ _ | refine blk_drew ?_ | refine blk_alloc ?_ _)); exact BK291.out⟩, ⟨by repeat (first | (with_reducible first | exact HB.out | apply below_alloc | apply pw_below_drewN | apply below_drew1 | refine below_set ?_ GE291.out) | exact HB.out)⟩⟩
                                  · rw [if_neg c92] at H
                                    exact absurd H (by simp)
                                · rw [if_neg c91] at H
                                  exact absurd H (by simp)
                              · rw [if_neg c90] at H
                                have c90b0 : decide (x21_4 < t322) = false := decide_eq_false c90
                                clear c90
                                replace H := Option.bind_eq_some_iff.mp H
                                obtain ⟨⟨t324, t325⟩, A940, H⟩ := H
                                replace H : ((impl_StateAfter.f k4 t287 t288 t321 1000000000).bind fun bt326 => (if t325 = true then (if bt326.2 = true then (if t324 = x20_4 then (if bt326.1 ≥ 0 then (if bt326.1 < (t288.length : Int) then (if 0 ≤ bt326.1 then (if bt326.1 < (x9_2.length : Int) then (some (rdOf false x9_2 bt326.1)) else (none)) else (none)) else (some false)) else (some false)) else (some false)) else (some false)) else (some false))) = some r := H
                                have A94 := Aside0.mk A940
                                clear A940
                                replace H := Option.bind_eq_some_iff.mp H
                                obtain ⟨⟨t326, t327⟩, A950, H⟩ := H
                                replace H : (if t325 = true then (if t327 = true then (if t324 = x20_4 then (if t326 ≥ 0 then (if t326 < (t288.length : Int) then (if 0 ≤ t326 then (if t326 < (x9_2.length : Int) then (some (rdOf false x9_2 t326)) else (none)) else (none)) else (some false)) else (some false)) else (some false)) else (some false)) else (some false)) = some r := H
                                have A95 := Aside0.mk A950
                                clear A950
                                by_cases c96 : t325 = true
                                · subst c96
                                  have H1 : (if t327 = true then (if t324 = x20_4 then (if t326 ≥ 0 then (if t326 < (t288.length : Int) then (if 0 ≤ t326 then (if t326 < (x9_2.length : Int) then (some (rdOf false x9_2 t326)) else (none)) else (none)) else (some false)) else (some false)) else (some false)) else (some false)) = some r := by rw [if_pos rfl] at H; exact H
                                  clear H
                                  have H := H1
                                  clear H1
                                  by_cases c97 : t327 = true
                                  · subst c97
                                    have H1 : (if t324 = x20_4 then (if t326 ≥ 0 then (if t326 < (t288.length : Int) then (if 0 ≤ t326 then (if t326 < (x9_2.length : Int) then (some (rdOf false x9_2 t326)) else (none)) else (none)) else (some false)) else (some false)) else (some false)) = some r := by rw [if_pos rfl] at H; exact H
                                    clear H
                                    have H := H1
                                    clear H1
                                    by_cases c98 : t324 = x20_4
                                    · rw [if_pos c98] at H
                                      have c98b0 : (t324 == x20_4) = true := beq_iff_eq.mpr c98
                                      have c98b1 : (t324 != x20_4) = false := bne_eq_false_iff_eq.mpr c98
                                      clear c98
                                      by_cases c99 : t326 ≥ 0
                                      · rw [if_pos c99] at H
                                        have c99b0 : decide (0 ≤ t326) = true := decide_eq_true c99
                                        clear c99
                                        by_cases c100 : t326 < (t288.length : Int)
                                        · rw [if_pos c100] at H
                                          have c100b0 : decide (t326 < (t288.length : Int)) = true := decide_eq_true c100
                                          clear c100
                                          by_cases c101 : 0 ≤ t326
                                          · rw [if_pos c101] at H
                                            have c101b0 : decide (0 ≤ t326) = true := decide_eq_true c101
                                            clear c101
                                            by_cases c102 : t326 < (x9_2.length : Int)
                                            · rw [if_pos c102] at H
                                              have c102b0 : decide (t326 < (x9_2.length : Int)) = true := decide_eq_true c102
                                              clear c102
                                              obtain rfl := Option.some.inj H
                                              have hcz103_0 : wr.cell? ⟨gb291, 0, none⟩ = some (.int .i64 t287) := (blk_cell BK291.out 0).trans rfl
                                              have hcz103_1 : wr.cell? ⟨gb291, 1, none⟩ = some (.slice Ao11 t288.length co11) := (blk_cell BK291.out 1).trans rfl
                                              have hfz103_0 := blk_frozen BK291.out 0
                                              have hfz103_1 := blk_frozen BK291.out 1
                                              go_wp2_with (first | (go_at_call 21; (with_reducible refine (impl_StateAfter.calls k4 t287 _ _ t288 t321 t322 t324 true _ ?side1 ?side2 A94.out).mono ?_); (case side1 => repeat (first | exact (Kd.R_reads' HO_292001.out).2.2 | (with_reducible refine Kd.C_alloc ?_ _) | (with_reducible refine Kd.C_drewN ?_ _) | (with_reducible refine Kd.C_drew ?_))); (case side2 => exact (Kd.R_reads' HO_292001.out).2.1); rintro e w104 ⟨rfl, hb⟩; have n0_ := Aside0.mk (Kd.R_below (by (with_reducible repeat (first | apply Kd.R_alloc | apply Kd.R_drewN | apply Kd.R_drew)); exact HO_9.out) hb); have n1_ := Aside0.mk (Kd.R_below (by (with_reducible repeat (first | apply Kd.R_alloc | apply Kd.R_drewN | apply Kd.R_drew)); exact HO_292001.out) hb); have n2_ := Aside0.mk (blk_below (g := gb291) (o := .cells #[.int .i64 t287, .slice Ao11 t288.length co11] 26 (0, 0)) (by (with_reducible repeat (first | refine blk_drewN ?_ _ | refine blk_drew ?_ | refine blk_alloc ?_ _)); exact BK291.out) hb); have n3_ := Aside0.mk (below_step (by repeat (first | (with_reducible first | exact HB.out | apply below_alloc | apply pw_below_drewN | apply below_drew1 | refine below_set ?_ GE291.out) | exact HB.out)) hb); clear HO_9; clear HO_292001; clear BK291; clear HB; have HO_9 := n0_; have HO_292001 := n1_; have BK291 := n2_; have HB := n3_; clear n0_ n1_ n2_ n3_; (try clear hb); (try clear hb2); (try clear hk); (try clear hi); have hcz105_0 : w104.cell? ⟨gb291, 0, none⟩ = some (.int .i64 t287) := (blk_cell BK291.out 0).trans rfl; have hcz105_1 : w104.cell? ⟨gb291, 1, none⟩ = some (.slice Ao11 t288.length co11) := (blk_cell BK291.out 1).trans rfl; have hfz105_0 := blk_frozen BK291.out 0; have hfz105_1 := blk_frozen BK291.out 1) | (go_at_call 21; (with_reducible refine (impl_StateAfter.calls k4 t287 _ _ t288 t321 1000000000 t326 true _ ?side1 ?side2 A95.out).mono ?_); (case side1 => repeat (first | exact (Kd.R_reads' HO_292001.out).2.2 | (with_reducible refine Kd.C_alloc ?_ _) | (with_reducible refine Kd.C_drewN ?_ _) | (with_reducible refine Kd.C_drew ?_))); (case side2 => exact (Kd.R_reads' HO_292001.out).2.1); rintro e w106 ⟨rfl, hb⟩; have n0_ := Aside0.mk (Kd.R_below (by (with_reducible repeat (first | apply Kd.R_alloc | apply Kd.R_drewN | apply Kd.R_drew)); exact HO_9.out) hb); have n1_ := Aside0.mk (Kd.R_below (by (with_reducible repeat (first | apply Kd.R_alloc | apply Kd.R_drewN | apply Kd.R_drew)); exact HO_292001.out) hb); have n2_ := Aside0.mk (blk_below (g := gb291) (o := .cells #[.int .i64 t287, .slice Ao11 t288.length co11] 26 (0, 0)) (by (with_reducible repeat (first | refine blk_drewN ?_ _ | refine blk_drew ?_ | refine blk_alloc ?_ _)); exact BK291.out) hb); have n3_ := Aside0.mk (below_step (by repeat (first | (with_reducible first | exact HB.out | apply below_alloc | apply pw_below_drewN | apply below_drew1 | refine below_set ?_ GE291.out) | exact HB.out)) hb); clear HO_9; clear HO_292001; clear BK291; clear HB; have HO_9 := n0_; have HO_292001 := n1_; have BK291 := n2_; have HB := n3_; clear n0_ n1_ n2_ n3_; (try clear hb); (try clear hb2); (try clear hk); (try clear hi); obtain ⟨Ao107, co107, eo107⟩ := Kd.R_slice HO_9.out; subst eo107; have p328 : 0 ≤ (t326 : Int) := of_decide_eq_true (by first | (with_reducible assumption) | assumption); have q328 : t326 < (x9_2.length : Int) := of_decide_eq_true (by first | (with_reducible assumption) | assumption); obtain ⟨ad328, e328, hx328_0⟩ := Kd.at_bool (Kd.R_reads' HO_9.out).2.2 t326 p328 q328; cases e328; replace p328 := eq_true p328; replace q328 := eq_true q328))
                                              repeat (go_quiet (first | (go_at_call 21; (with_reducible refine (impl_StateAfter.calls k4 t287 _ _ t288 t321 t322 t324 true _ ?side1 ?side2 A94.out).mono ?_); (case side1 => repeat (first | exact (Kd.R_reads' HO_292001.out).2.2 | (with_reducible refine Kd.C_alloc ?_ _) | (with_reducible refine Kd.C_drewN ?_ _) | (with_reducible refine Kd.C_drew ?_))); (case side2 => exact (Kd.R_reads' HO_292001.out).2.1); rintro e w104 ⟨rfl, hb⟩; have n0_ := Aside0.mk (Kd.R_below (by (with_reducible repeat (first | apply Kd.R_alloc | apply Kd.R_drewN | apply Kd.R_drew)); exact HO_9.out) hb); have n1_ := Aside0.mk (Kd.R_below (by (with_reducible repeat (first | apply Kd.R_alloc | apply Kd.R_drewN | apply Kd.R_drew)); exact HO_292001.out) hb); have n2_ := Aside0.mk (blk_below (g := gb291) (o := .cells #[.int .i64 t287, .slice Ao11 t288.length co11] 26 (0, 0)) (by (with_reducible repeat (first | refine blk_drewN ?_ _ | refine blk_drew ?_ | refine blk_alloc ?_ _)); exact BK291.out) hb); have n3_ := Aside0.mk (below_step (by repeat (first | (with_reducible first | exact HB.out | apply below_alloc | apply pw_below_drewN | apply below_drew1 | refine below_set ?_ GE291.out) | exact HB.out)) hb); clear HO_9; clear HO_292001; clear BK291; clear HB; have HO_9 := n0_; have HO_292001 := n1_; have BK291 := n2_; have HB := n3_; clear n0_ n1_ n2_ n3_; (try clear hb); (try clear hb2); (try clear hk); (try clear hi); have hcz105_0 : w104.cell? ⟨gb291, 0, none⟩ = some (.int .i64 t287) := (blk_cell BK291.out 0).trans rfl; have hcz105_1 : w104.cell? ⟨gb291, 1, none⟩ = some (.slice Ao11 t288.length co11) := (blk_cell BK291.out 1).trans rfl; have hfz105_0 := blk_frozen BK291.out 0; have hfz105_1 := blk_frozen BK291.out 1) | (go_at_call 21; (with_reducible refine (impl_StateAfter.calls k4 t287 _ _ t288 t321 1000000000 t326 true _ ?side1 ?side2 A95.out).mono ?_); (case side1 => repeat (first | exact (Kd.R_reads' HO_292001.out).2.2 | (with_reducible refine Kd.C_alloc ?_ _) | (with_reducible refine Kd.C_drewN ?_ _) | (with_reducible refine Kd.C_drew ?_))); (case side2 => exact (Kd.R_reads' HO_292001.out).2.1); rintro e w106 ⟨rfl, hb⟩; have n0_ := Aside0.mk (Kd.R_below (by (with_reducible repeat (first | apply Kd.R_alloc | apply Kd.R_drewN | apply Kd.R_drew)); exact HO_9.out) hb); have n1_ := Aside0.mk (Kd.R_below (by (with_reducible repeat (first | apply Kd.R_alloc | apply Kd.R_drewN | apply Kd.R_drew)); exact HO_292001.out) hb); have n2_ := Aside0.mk (blk_below (g := gb291) (o := .cells #[.int .i64 t287, .slice Ao11 t288.length co11] 26 (0, 0)) (by (with_reducible repeat (first | refine blk_drewN ?_ _ | refine blk_drew ?_ | refine blk_alloc ?_ _)); exact BK291.out) hb); have n3_ := Aside0.mk (below_step (by repeat (first | (with_reducible first | exact HB.out | apply below_alloc | apply pw_below_drewN | apply below_drew1 | refine below_set ?_ GE291.out) | exact HB.out)) hb); clear HO_9; clear HO_292001; clear BK291; clear HB; have HO_9 := n0_; have HO_292001 := n1_; have BK291 := n2_; have HB := n3_; clear n0_ n1_ n2_ n3_; (try clear hb); (try clear hb2); (try clear hk); (try clear hi); obtain ⟨Ao107, co107, eo107⟩ := Kd.R_slice HO_9.out; subst eo107; have p328 : 0 ≤ (t326 : Int) := of_decide_eq_true (by first | (with_reducible assumption) | assumption); have q328 : t326 < (x9_2.length : Int) := of_decide_eq_true (by first | (with_reducible assumption) | assumption); obtain ⟨ad328, e328, hx328_0⟩ := Kd.at_bool (Kd.R_reads' HO_9.out).2.2 t326 p328 q328; cases e328; replace p328 := eq_true p328; replace q328 := eq_true q328)); try go_wp2_with (first | (go_at_call 21; (with_reducible refine (impl_StateAfter.calls k4 t287 _ _ t288 t321 t322 t324 true _ ?side1 ?side2 A94.out).mono ?_); (case side1 => repeat (first | exact (Kd.R_reads' HO_292001.out).2.2 | (with_reducible refine Kd.C_alloc ?_ _) | (with_reducible refine Kd.C_drewN ?_ _) | (with_reducible refine Kd.C_drew ?_))); (case side2 => exact (Kd.R_reads' HO_292001.out).2.1); rintro e w104 ⟨rfl, hb⟩; have n0_ := Aside0.mk (Kd.R_below (by (with_reducible repeat (first | apply Kd.R_alloc | apply Kd.R_drewN | apply Kd.R_drew)); exact HO_9.out) hb); have n1_ := Aside0.mk (Kd.R_below (by (with_reducible repeat (first | apply Kd.R_alloc | apply Kd.R_drewN | apply Kd.R_drew)); exact HO_292001.out) hb); have n2_ := Aside0.mk (blk_below (g := gb291) (o := .cells #[.int .i64 t287, .slice Ao11 t288.length co11] 26 (0, 0)) (by (with_reducible repeat (first | refine blk_drewN ?_ _ | refine blk_drew ?_ | refine blk_alloc ?_ _)); exact BK291.out) hb); have n3_ := Aside0.mk (below_step (by repeat (first | (with_reducible first | exact HB.out | apply below_alloc | apply pw_below_drewN | apply below_drew1 | refine below_set ?_ GE291.out) | exact HB.out)) hb); clear HO_9; clear HO_292001; clear BK291; clear HB; have HO_9 := n0_; have HO_292001 := n1_; have BK291 := n2_; have HB := n3_; clear n0_ n1_ n2_ n3_; (try clear hb); (try clear hb2); (try clear hk); (try clear hi); have hcz105_0 : w104.cell? ⟨gb291, 0, none⟩ = some (.int .i64 t287) := (blk_cell BK291.out 0).trans rfl; have hcz105_1 : w104.cell? ⟨gb291, 1, none⟩ = some (.slice Ao11 t288.length co11) := (blk_cell BK291.out 1).trans rfl; have hfz105_0 := blk_frozen BK291.out 0; have hfz105_1 := blk_frozen BK291.out 1) | (go_at_call 21; (with_reducible refine (impl_StateAfter.calls k4 t287 _ _ t288 t321 1000000000 t326 true _ ?side1 ?side2 A95.out).mono ?_); (case side1 => repeat (first | exact (Kd.R_reads' HO_292001.out).2.2 | (with_reducible refine Kd.C_alloc ?_ _) | (with_reducible refine Kd.C_drewN ?_ _) | (with_reducible refine Kd.C_drew ?_))); (case side2 => exact (Kd.R_reads' HO_292001.out).2.1); rintro e w106 ⟨rfl, hb⟩; have n0_ := Aside0.mk (Kd.R_below (by (with_reducible repeat (first | apply Kd.R_alloc | apply Kd.R_drewN | apply Kd.R_drew)); exact HO_9.out) hb); have n1_ := Aside0.mk (Kd.R_below (by (with_reducible repeat (first | apply Kd.R_alloc | apply Kd.R_drewN | apply Kd.R_drew)); exact HO_292001.out) hb); have n2_ := Aside0.mk (blk_below (g := gb291) (o := .cells #[.int .i64 t287, .slice Ao11 t288.length co11] 26 (0, 0)) (by (with_reducible repeat (first | refine blk_drewN ?_ _ | refine blk_drew ?_ | refine blk_alloc ?_ _)); exact BK291.out) hb); have n3_ := Aside0.mk (below_step (by repeat (first | (with_reducible first | exact HB.out | apply below_alloc | apply pw_below_drewN | apply below_drew1 | refine below_set ?_ GE291.out) | exact HB.out)) hb); clear HO_9; clear HO_292001; clear BK291; clear HB; have HO_9 := n0_; have HO_292001 := n1_; have BK291 := n2_; have HB := n3_; clear n0_ n1_ n2_ n3_; (try clear hb); (try clear hb2); (try clear hk); (try clear hi); obtain ⟨Ao107, co107, eo107⟩ := Kd.R_slice HO_9.out; subst eo107; have p328 : 0 ≤ (t326 : Int) := of_decide_eq_true (by first | (with_reducible assumption) | assumption); have q328 : t326 < (x9_2.length : Int) := of_decide_eq_true (by first | (with_reducible assumption) | assumption); obtain ⟨ad328, e328, hx328_0⟩ := Kd.at_bool (Kd.R_reads' HO_9.out).2.2 t326 p328 q328; cases e328; replace p328 := eq_true p328; replace q328 := eq_true q328)))
                                              go_ret
                                              exact ⟨by first | rfl | (simp [errW_none, errW_some] <;> rfl) | (simp [*, errW_none, errW_some] <;> rfl), by repeat (first | (with_reducible first | exact HB.out | apply below_alloc | apply pw_below_drewN | apply below_drew1 | refine below_set ?_ GE291.out) | exact HB.out)⟩
                                            · rw [if_neg c102] at H
                                              exact absurd H (by simp)
                                          · rw [if_neg c101] at H
                                            exact absurd H (by simp)
                                        · rw [if_neg c100] at H
                                          have c100b0 : decide (t326 < (t288.length : Int)) = false := decide_eq_false c100
                                          clear c100
                                          obtain rfl := Option.some.inj H
                                          exact absurd HRT.out (by decide)
                                      · rw [if_neg c99] at H
                                        have c99b0 : decide (0 ≤ t326) = false := decide_eq_false c99
                                        clear c99
                                        obtain rfl := Option.some.inj H
                                        exact absurd HRT.out (by decide)
                                    · rw [if_neg c98] at H
                                      have c98b0 : (t324 == x20_4) = false := beq_eq_false_iff_ne.mpr c98
                                      have c98b1 : (t324 != x20_4) = true := bne_iff_ne.mpr c98
                                      obtain rfl := Option.some.inj H
                                      exact absurd HRT.out (by decide)
                                  · replace c97 := Bool.eq_false_iff.mpr c97
                                    subst c97
                                    have H1 : (some false) = some r := by rw [if_neg (show ¬ (false = true) by decide)] at H; exact H
                                    clear H
                                    have H := H1
                                    clear H1
                                    obtain rfl := Option.some.inj H
                                    exact absurd HRT.out (by decide)
                                · replace c96 := Bool.eq_false_iff.mpr c96
                                  subst c96
                                  have H1 : (some false) = some r := by rw [if_neg (show ¬ (false = true) by decide)] at H; exact H
                                  clear H
                                  have H := H1
                                  clear H1
                                  obtain rfl := Option.some.inj H
                                  exact absurd HRT.out (by decide)
            · rw [if_neg c22] at H
              exact absurd H (by simp)
          · rw [if_neg c21] at H
            exact absurd H (by simp)

/-- THE ONE PURE STATEMENT of laws_FnRings. -/
def laws_FnRings.Pure : Prop := ∀ (l0 : List Int) (l1 : List Int), l0.length ≤ maxLen → l0.length * 1 ≤ 140737488351232 → (∀ x ∈ l0, (Lit.int .u8 x).wf = true) → l1.length ≤ maxLen → l1.length * 1 ≤ 140737488351232 → (∀ x ∈ l1, (Lit.int .u8 x).wf = true) → ∃ k, laws_FnRings.f k l0 l1 = some true
theorem laws_FnRings.walk (P : laws_FnRings.Pure) (a0 : Option Addr) (len0 cap0 : Nat) (z0 : List Int) (a1 : Option Addr) (len1 cap1 : Nat) (z1 : List Int) (w : World) (w0 : (a0 = none ∧ len0 = 0 ∧ cap0 = 0 ∧ z0 = []) ∨ ∃ x, a0 = some x ∧ len0 ≤ cap0 ∧ cap0 ≤ maxLen ∧ z0.length = cap0 ∧ (∀ i, i < z0.length → w.cell? (x.add i) = some (.int .u8 (z0.getD i 0))) ∧ ∀ n ∈ z0, (Lit.int .u8 n).wf = true) (y0 : len0 * 1 ≤ 140737488351232) (w1 : (a1 = none ∧ len1 = 0 ∧ cap1 = 0 ∧ z1 = []) ∨ ∃ x, a1 = some x ∧ len1 ≤ cap1 ∧ cap1 ≤ maxLen ∧ z1.length = cap1 ∧ (∀ i, i < z1.length → w.cell? (x.add i) = some (.int .u8 (z1.getD i 0))) ∧ ∀ n ∈ z1, (Lit.int .u8 n).wf = true) (y1 : len1 * 1 ≤ 140737488351232) :
    Calls Try.prog 3 #[.slice a0 len0 cap0, .slice a1 len1 cap1] w fun e w' => e = .returned (.bool true) ∧ Below w.heap.size w w' := by
  obtain ⟨l0, rfl, hr0, hm0, hw0, hc0⟩ := ReadsInt.ofRowC w0
  obtain ⟨l1, rfl, hr1, hm1, hw1, hc1⟩ := ReadsInt.ofRowC w1
  obtain ⟨k, h⟩ := P l0 l1 hm0 y0 hw0 hm1 y1 hw1
  refine (laws_FnRings.calls k _ _ l0 _ _ l1 true w (Kd.C_of_reads (d := (0 : Int)) (h1 := fun _ => rfl) hr0) hc0 (Kd.C_of_reads (d := (0 : Int)) (h1 := fun _ => rfl) hr1) hc1 h rfl).mono ?_
  rintro e w' ⟨rfl, hd⟩
  exact ⟨rfl, hd⟩

end Go.Proofs.Ytomepieklgplgaa.P
