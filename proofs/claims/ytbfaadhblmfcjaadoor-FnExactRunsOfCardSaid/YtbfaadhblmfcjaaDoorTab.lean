/- What the listed variables of the library hold (the table of powers of ten, the two sentinels of package strconv), and that a call that writes its own blocks alone keeps it. -/
import Derived.Test.YtbfaadhblmfcjaaDoorP0
import Derived.Lib.AppendIntMem
import Derived.Stop.LaidErr
import Derived.Shelf.Strconv.ErrVarParseInt
namespace Go.Proofs.YtbfaadhblmfcjaaDoor.P
open Go.RowKit Go.Proofs.YtbfaadhblmfcjaaDoorW.PrintWords Go.Proofs.YtbfaadhblmfcjaaDoorW.PrintLast Go.Proofs.YtbfaadhblmfcjaaDoorW.PrintMore

theorem var_below {P : Program} {w w' : World} {name : String} {cs : Array Value} (h : w.var? P name = some cs) (hb : Below w.heap.size w w') : w'.var? P name = some cs := by
  unfold World.var? at *
  cases hg : P.globalNamed name with
  | none => simp [hg] at h
  | some g =>
    simp only [hg, Option.bind_some] at h ⊢
    have hlt : g < w.heap.size := by
      rcases Nat.lt_or_ge g w.heap.size with h' | h'
      · exact h'
      · rw [Array.getElem?_eq_none h'] at h; simp at h
    rw [hb.block g hlt]
    exact h
def TabW (w : World) : Prop := Go.Lib.TabIs Tryd.prog w "internal/strconv.uint64pow10" .u64 Go.Lib.pow10Tab
theorem TabW.on {w w' : World} (h : TabW w) (hb : Below w.heap.size w w') : TabW w' := var_below h hb
theorem tab_head {rest : List (String × DataW Unit)} {W : World} (h : laidMet Tryd.prog (("internal/strconv.uint64pow10", Go.Lib.tabData .u64 Go.Lib.pow10Tab) :: rest) W) : TabW W :=
  Go.Lib.tabIs_of_head (g := 0) (t := 105) (e := 82) (n := 20) (by kernel_rfl) (by kernel_rfl) Tryd.underlying105 Tryd.underlying82 (by kernel_rfl) (by kernel_rfl) h
end Go.Proofs.YtbfaadhblmfcjaaDoor.P
