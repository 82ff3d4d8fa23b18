/- The program's readWide: the number that a text spells, where its spelling is Decimal's own and it is not too great: the contract of the Go function. It reads the table of powers of ten and, where the text is no number, the sentinels of package strconv. -/
import Derived.Test.YtbfaadhblmfcjaaDoorP1
import Derived.Test.YtbfaadhblmfcjaaDoorExtDecimal
import Derived.Test.YtbfaadhblmfcjaaDoorShelf5
import Derived.Test.YtbfaadhblmfcjaaDoorForms
import Derived.Lib.SmallJoins
import Derived.Test.YtbfaadhblmfcjaaDoorBase
import Derived.Test.YtbfaadhblmfcjaaDoorTab
namespace Go.Proofs.YtbfaadhblmfcjaaDoor.P
open Go.RowKit Go.Proofs.YtbfaadhblmfcjaaDoorW.PrintWords Go.Proofs.YtbfaadhblmfcjaaDoorW.PrintLast Go.Proofs.YtbfaadhblmfcjaaDoorW.PrintMore
open Go.Shelf
set_option linter.unusedVariables false
set_option linter.unusedSimpArgs false

def wideV (s : ByteArray) (m : Int) : Int × Bool :=
  match Go.Lib.parseIntB 64 s.data.toList with
  | .ok v => if (⟨(Go.Lib.itoa v).toArray⟩ : ByteArray).toList = s.toList ∧ -m ≤ v ∧ v ≤ m then (v, true) else (0, false)
  | _ => (0, false)
def impl_readWide.f (a0 : ByteArray) (a1 : Int) : Option (Int × Bool) := if a0.size ≤ 140737488355328 ∧ 0 ≤ a1 ∧ a1 ≤ 1000000000000000000 then some (wideV a0 a1) else none

set_option maxHeartbeats 4000000 in
theorem wide_syntax (s : ByteArray) (m : Int) (w : World) (hs : s.size ≤ 140737488355328) (hT : TabE w) (hp : Go.Lib.parseIntB 64 s.data.toList = .«syntax») :
    Calls Tryd.prog 44 #[.string s, .int .i64 m] w fun e w' => e = .returned (.tuple #[.int .i64 0, .bool false]) ∧ Below w.heap.size w w' := by
  obtain ⟨tp, p, hv⟩ := hT.2.1
  have cP := Any.strconv_ParseInt_10_at64_syntax_var Tryd.lays174 s (by omega) hp tp p w hv
  clear hv hp hs hT
  go_enter Tryd.func44, Tryd.ntmps44
  go_wp2_with (first | (go_at_call 64; refine cP.mono ?_; rintro e w1 ⟨N, rfl, hN, hc, hb⟩; have HB := Aside0.mk hb; clear hb hc hN))
  go_ret2
  exact ⟨rfl, HB.out⟩
set_option maxHeartbeats 4000000 in
theorem wide_range (s : ByteArray) (m : Int) (w : World) (hs : s.size ≤ 140737488355328) (hT : TabE w) (hp : Go.Lib.parseIntB 64 s.data.toList = .range) :
    Calls Tryd.prog 44 #[.string s, .int .i64 m] w fun e w' => e = .returned (.tuple #[.int .i64 0, .bool false]) ∧ Below w.heap.size w w' := by
  obtain ⟨tp, p, hv⟩ := hT.2.2
  have cP := Any.strconv_ParseInt_10_at64_range_var Tryd.lays174 s (by omega) hp tp p w hv
  clear hv hp hs hT
  go_enter Tryd.func44, Tryd.ntmps44
  go_wp2_with (first | (go_at_call 64; refine cP.mono ?_; rintro e w1 ⟨N, rfl, hN, hc, hb⟩; have HB := Aside0.mk hb; clear hb hc hN))
  go_ret2
  exact ⟨rfl, HB.out⟩
theorem wide_world {w w1 : World} {t : TypeId} (h : w1 = w ∨ ∃ x, w1 = Go.Lib.bytesWorld w t x) : Below w.heap.size w w1 := by
  rcases h with rfl | ⟨x, rfl⟩
  · exact Below.refl _ _
  · exact Go.Joins.below_bytesWorld _ _ _ _ (Nat.le_refl _)
set_option maxHeartbeats 4000000 in
theorem wide_other (s t : ByteArray) (m v : Int) (w : World) (hs : s.size ≤ 140737488355328) (hT : TabE w) (hp : Go.Lib.parseIntB 64 s.data.toList = .ok v) (hd : impl_Decimal.f v = some t) (hne : ¬ t.toList = s.toList) :
    Calls Tryd.prog 44 #[.string s, .int .i64 m] w fun e w' => e = .returned (.tuple #[.int .i64 0, .bool false]) ∧ Below w.heap.size w w' := by
  have cP := Any.strconv_ParseInt_10_at64_ok Tryd.lays174 s (by omega) v hp w
  have HT := Aside0.mk hT
  have HD := Aside0.mk hd
  have q1 : (t.toList == s.toList) = false := beq_eq_false_iff_ne.mpr hne
  clear hp hs hT hd hne
  go_enter Tryd.func44, Tryd.ntmps44
  go_wp2_with (first | (go_at_call 64; refine cP.mono ?_; rintro e w1 ⟨rfl, hw⟩; have HB := Aside0.mk (wide_world hw); clear hw) | (go_at_call 12; refine (impl_Decimal.calls v _ _ HD.out (TabW.on HT.out.1 HB.out)).mono ?_; rintro e w2 ⟨rfl, hb2⟩; have HB2 := Aside0.mk (HB.out.trans (hb2.mono HB.out.size)); clear hb2))
  go_ret2
  exact ⟨rfl, HB2.out⟩
set_option maxHeartbeats 4000000 in
theorem wide_same (s t : ByteArray) (m v : Int) (b : Bool) (w : World) (he : t.toList = s.toList) (hs : s.size ≤ 140737488355328) (hT : TabE w) (hp : Go.Lib.parseIntB 64 s.data.toList = .ok v) (hd : impl_Decimal.f v = some t) (hm : wrap64 (-m) = -m) (hb : impl_within.f v (-m) m = some b) :
    Calls Tryd.prog 44 #[.string s, .int .i64 m] w fun e w' => e = .returned (.tuple #[.int .i64 (if b = true then v else 0), .bool b]) ∧ Below w.heap.size w w' := by
  have cP := Any.strconv_ParseInt_10_at64_ok Tryd.lays174 s (by omega) v hp w
  have HT := Aside0.mk hT
  have HD := Aside0.mk hd
  have HW := Aside0.mk hb
  have q1 : (t.toList == s.toList) = true := beq_iff_eq.mpr he
  clear hp hs hT hd hb he
  cases b with
  | true =>
    go_enter Tryd.func44, Tryd.ntmps44
    go_wp2_with (first | (go_at_call 64; refine cP.mono ?_; rintro e w1 ⟨rfl, hw⟩; have HB := Aside0.mk (wide_world hw); clear hw) | (go_at_call 12; refine (impl_Decimal.calls v _ _ HD.out (TabW.on HT.out.1 HB.out)).mono ?_; rintro e w2 ⟨rfl, hb2⟩; have HB2 := Aside0.mk (HB.out.trans (hb2.mono HB.out.size)); clear hb2) | (go_at_call 41; refine (impl_within.calls v (-m) m true _ HW.out).mono ?_; rintro e w3 ⟨rfl, ⟨nd, rfl⟩⟩))
    go_ret2
    exact ⟨rfl, by repeat (first | (with_reducible first | exact HB2.out | apply pw_below_drewN) | exact HB2.out)⟩
  | false =>
    go_enter Tryd.func44, Tryd.ntmps44
    go_wp2_with (first | (go_at_call 64; refine cP.mono ?_; rintro e w1 ⟨rfl, hw⟩; have HB := Aside0.mk (wide_world hw); clear hw) | (go_at_call 12; refine (impl_Decimal.calls v _ _ HD.out (TabW.on HT.out.1 HB.out)).mono ?_; rintro e w2 ⟨rfl, hb2⟩; have HB2 := Aside0.mk (HB.out.trans (hb2.mono HB.out.size)); clear hb2) | (go_at_call 41; refine (impl_within.calls v (-m) m false _ HW.out).mono ?_; rintro e w3 ⟨rfl, ⟨nd, rfl⟩⟩))
    go_ret2
    exact ⟨rfl, by repeat (first | (with_reducible first | exact HB2.out | apply pw_below_drewN) | exact HB2.out)⟩
theorem parse_bounds {l : List UInt8} {v : Int} (h : Go.Lib.parseIntB 64 l = .ok v) : -9223372036854775808 ≤ v ∧ v ≤ 9223372036854775807 := by
  rw [Go.Lib.parseIntB_64] at h
  exact Go.Lib.atoiAll_bounds h
theorem impl_readWide.calls (a0 : ByteArray) (a1 : Int) (r1 : Int) (r2 : Bool) (w : World) (h : impl_readWide.f a0 a1 = some (r1, r2)) (hTab_ : TabE w) :
    Calls Tryd.prog 44 #[.string a0, .int .i64 a1] w fun e w' => e = .returned (.tuple #[.int .i64 r1, .bool r2]) ∧ Below w.heap.size w w' := by
  unfold impl_readWide.f wideV at h
  split at h
  · rename_i hc
    have h := Option.some.inj h
    split at h
    · rename_i v hp
      have hb := parse_bounds hp
      have hd : impl_Decimal.f v = some ⟨(Go.Lib.itoa v).toArray⟩ := by unfold impl_Decimal.f; rw [if_pos hb]
      by_cases hs : (⟨(Go.Lib.itoa v).toArray⟩ : ByteArray).toList = a0.toList
      · have c := wide_same a0 _ a1 v (decide (-a1 ≤ v ∧ v ≤ a1)) w hs hc.1 hTab_ hp hd (w64 (by omega) (by omega)) (within_form v (-a1) a1)
        by_cases hw : -a1 ≤ v ∧ v ≤ a1
        · rw [if_pos ⟨hs, hw⟩] at h
          cases h
          rw [decide_eq_true hw] at c
          exact c
        · rw [if_neg (fun z => hw z.2)] at h
          cases h
          rw [decide_eq_false hw] at c
          exact c
      · rw [if_neg (fun z => hs z.1)] at h
        cases h
        exact wide_other a0 _ a1 v w hc.1 hTab_ hp hd hs
    · rename_i hp
      cases h
      cases hq : Go.Lib.parseIntB 64 a0.data.toList with
      | ok v => exact absurd hq (hp v)
      | «syntax» => exact wide_syntax a0 a1 w hc.1 hTab_ hq
      | range => exact wide_range a0 a1 w hc.1 hTab_ hq
  · cases h
end Go.Proofs.YtbfaadhblmfcjaaDoor.P
