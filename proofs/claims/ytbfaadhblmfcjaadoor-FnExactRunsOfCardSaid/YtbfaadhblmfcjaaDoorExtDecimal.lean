/- The program's Decimal and strconv.Itoa, at every number of 64 bits: the contracts of the Go functions; they read the library's table of powers of ten. -/
import Derived.Test.YtbfaadhblmfcjaaDoorTab
import Derived.Test.YtbfaadhblmfcjaaDoorShelf4
namespace Go.Proofs.YtbfaadhblmfcjaaDoor.P
open Go.RowKit Go.Proofs.YtbfaadhblmfcjaaDoorW.PrintWords Go.Proofs.YtbfaadhblmfcjaaDoorW.PrintLast Go.Proofs.YtbfaadhblmfcjaaDoorW.PrintMore
open Go.Shelf

def strconv_Itoa.f (a0 : Int) : Option (ByteArray) := if -9223372036854775808 ≤ a0 ∧ a0 ≤ 9223372036854775807 then some ⟨(Go.Lib.itoa a0).toArray⟩ else none

theorem grow_below (w : World) (k : Nat) (os : Array Obj) : Below w.heap.size w (Go.Sort.grow (w.drewN k) os) := Go.Lib.below_grow _ _ (Nat.le_refl _) k os
theorem strconv_Itoa.calls (a0 : Int) (r : ByteArray) (w : World) (h : strconv_Itoa.f a0 = some r) (hTab_ : TabW w) :
    Calls Tryd.prog 66 #[.int .i64 a0] w fun e w' => e = .returned (.string r) ∧ Below w.heap.size w w' := by
  unfold strconv_Itoa.f at h
  split at h
  · rename_i hc
    obtain rfl := Option.some.inj h
    refine (Any.strconv_Itoa Tryd.lays171 a0 hc.1 hc.2 w hTab_).mono ?_
    rintro e w' ⟨rfl, k, os, rfl⟩
    exact ⟨rfl, grow_below _ _ _⟩
  · cases h
end Go.Proofs.YtbfaadhblmfcjaaDoor.P
