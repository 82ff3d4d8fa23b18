/- The program's Decimal and strconv.Itoa, at every number of 64 bits: the contracts of the Go functions; they read the library's table of powers of ten. -/
import Derived.Test.YtbfaadhblmfcjaaDoorTab
import Derived.Test.YtbfaadhblmfcjaaDoorShelf4
namespace Go.Proofs.YtbfaadhblmfcjaaDoor.P
open Go.RowKit Go.Proofs.YtbfaadhblmfcjaaDoorW.PrintWords Go.Proofs.YtbfaadhblmfcjaaDoorW.PrintLast Go.Proofs.YtbfaadhblmfcjaaDoorW.PrintMore
open Go.Shelf

def impl_Decimal.f (a0 : Int) : Option (ByteArray) := if -9223372036854775808 ≤ a0 ∧ a0 ≤ 9223372036854775807 then some ⟨(Go.Lib.itoa a0).toArray⟩ else none
def strconv_Itoa.f (a0 : Int) : Option (ByteArray) := if -9223372036854775808 ≤ a0 ∧ a0 ≤ 9223372036854775807 then some ⟨(Go.Lib.itoa a0).toArray⟩ else none

theorem grow_below (w : World) (k : Nat) (os : Array Obj) : Below w.heap.size w (Go.Sort.grow (w.drewN k) os) := Go.Lib.below_grow _ _ (Nat.le_refl _) k os
theorem impl_Decimal.calls (a0 : Int) (r : ByteArray) (w : World) (h : impl_Decimal.f a0 = some r) (hTab_ : TabW w) :
    Calls Tryd.prog 12 #[.int .i64 a0] w fun e w' => e = .returned (.string r) ∧ Below w.heap.size w w' := by
  unfold impl_Decimal.f at h
  split at h
  · rename_i hc
    obtain rfl := Option.some.inj h
    have HT := Aside0.mk hTab_
    have HC := Aside0.mk hc
    clear hTab_ hc h
    go_enter Tryd.func12, Tryd.ntmps12
    go_wp2_with (first | (go_at_call 34; refine (Any.strconv_FormatInt_10 Tryd.lays173 a0 HC.out.1 HC.out.2 _ HT.out).mono ?_; rintro e w' ⟨rfl, k, os, rfl⟩))
    go_ret
    exact ⟨rfl, grow_below _ _ _⟩
  · cases h
theorem strconv_Itoa.calls (a0 : Int) (r : ByteArray) (w : World) (h : strconv_Itoa.f a0 = some r) (hTab_ : TabW w) :
    Calls Tryd.prog 66 #[.int .i64 a0] w fun e w' => e = .returned (.string r) ∧ Below w.heap.size w w' := by
  unfold strconv_Itoa.f at h
  split at h
  · rename_i hc
    obtain rfl := Option.some.inj h
    refine (Any.strconv_Itoa Tryd.lays171 a0 hc.1 hc.2 w hTab_).mono ?_
    rintro e w' ⟨rfl, k, os, rfl⟩
    exact ⟨rfl, grow_below _ _ _⟩
  · cases h
end Go.Proofs.YtbfaadhblmfcjaaDoor.P
