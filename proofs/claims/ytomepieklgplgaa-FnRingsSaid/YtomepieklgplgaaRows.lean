/-
  No cell of these rows narrows 'for every input' (looked for: loops, veiled, ifaces, maps, wideKeys, modest, calm, conditions, laid).
  DERIVED. THE GIVEN ROWS OF THIS SEAT. 12 by the template 'for every input the law returns true; each argument reads behind the call as it read before'; 0 by the template 'total and deterministic' (their statements: YtomepieklgplgaaTotals.lean).
  GIVEN WITH THE SEED: the statements are not yours to turn. If you find one false, say at which input.
  Laid BY PROGRAM, IN A SANDBOX (cutbox-rows.mjs): the forced cells as the released guide's own fill.sh prints them over the translation 7a23c946d822c8da… (all of the seat's roots in one cut). By AI agents, Wed Nov 11 2026. No macro, syntax, notation, axiom, sorry.
-/
import Derived.Test.YtomepieklgplgaaChecked
import GoSem.Claim
import GoSem.ClaimJoined
import GoSem.ClaimMapViews
import Derived.JoinedTies
import Derived.KernelRfl
namespace Go.Proofs.Ytomepieklgplgaa
/- THE CELL 'sum', in the pinned program and in every row, IS THE sha256 OF THE DUMP (.gsa) THAT YtomepieklgplgaaProg.lean LOADS. Nothing in Lean hashes anything: it is a label: what it is worth is what the hold of that sum in a sandbox is worth. -/
noncomputable def Try.pinned : Pinned := { name := "ytomepieklgplgaa", sum := "7a23c946d822c8da0272ff784971a344bf15a2d9075e1edae74521fd17c96c51", checked := Try.checked }
namespace Rows
def none {H : Type} : Left H := { results := [], args := [] }

/-- 'laws.FnRings': WHATEVER THE INPUT: true; the input reads as it did. -/
def fnRingsSpec : ChangeSpec := { name := "fnRings", fn := fun _ => fun
  | [d1, d2] => { results := [.lit (.bool true)], args := [d1, d2] }
  | _ => none }
def fnRingsRow : OpenClaim := { program := "ytomepieklgplgaa", sum := "7a23c946d822c8da0272ff784971a344bf15a2d9075e1edae74521fd17c96c51", func := "loop.example/g01153/laws.FnRings", spec := "fnRings", unfollowed := true, recurses := true, apart := false }
def FnRingsSaid : Prop := fnRingsRow.holds Try.pinned (OpenSpec.ofChange fnRingsSpec)

/-- ITS FALSE NEIGHBOUR: 'it returns false'. Refute it at one input. -/
def fnRingsWrong : ChangeSpec := { name := "fnRings", fn := fun _ => fun
  | [d1, d2] => { results := [.lit (.bool false)], args := [d1, d2] }
  | _ => none }
def FnRingsWrongFalsely : Prop := fnRingsRow.holds Try.pinned (OpenSpec.ofChange fnRingsWrong)

/-- 'laws.FnExactValidCounter': WHATEVER THE INPUT: true; the input reads as it did. -/
def fnExactValidCounterSpec : ChangeSpec := { name := "fnExactValidCounter", fn := fun _ => fun
  | [d] => { results := [.lit (.bool true)], args := [d] }
  | _ => none }
def fnExactValidCounterRow : OpenClaim := { program := "ytomepieklgplgaa", sum := "7a23c946d822c8da0272ff784971a344bf15a2d9075e1edae74521fd17c96c51", func := "loop.example/g01153/laws.FnExactValidCounter", spec := "fnExactValidCounter", unfollowed := true, recurses := true, apart := false }
def FnExactValidCounterSaid : Prop := fnExactValidCounterRow.holds Try.pinned (OpenSpec.ofChange fnExactValidCounterSpec)

/-- ITS FALSE NEIGHBOUR: 'it returns false'. Refute it at one input. -/
def fnExactValidCounterWrong : ChangeSpec := { name := "fnExactValidCounter", fn := fun _ => fun
  | [d] => { results := [.lit (.bool false)], args := [d] }
  | _ => none }
def FnExactValidCounterWrongFalsely : Prop := fnExactValidCounterRow.holds Try.pinned (OpenSpec.ofChange fnExactValidCounterWrong)

/-- 'laws.FnExactBinaryCounter': WHATEVER THE INPUT: true; the input reads as it did. -/
def fnExactBinaryCounterSpec : ChangeSpec := { name := "fnExactBinaryCounter", fn := fun _ => fun
  | [d1, d2] => { results := [.lit (.bool true)], args := [d1, d2] }
  | _ => none }
def fnExactBinaryCounterRow : OpenClaim := { program := "ytomepieklgplgaa", sum := "7a23c946d822c8da0272ff784971a344bf15a2d9075e1edae74521fd17c96c51", func := "loop.example/g01153/laws.FnExactBinaryCounter", spec := "fnExactBinaryCounter", unfollowed := true, recurses := true, apart := false }
def FnExactBinaryCounterSaid : Prop := fnExactBinaryCounterRow.holds Try.pinned (OpenSpec.ofChange fnExactBinaryCounterSpec)

/-- ITS FALSE NEIGHBOUR: 'it returns false'. Refute it at one input. -/
def fnExactBinaryCounterWrong : ChangeSpec := { name := "fnExactBinaryCounter", fn := fun _ => fun
  | [d1, d2] => { results := [.lit (.bool false)], args := [d1, d2] }
  | _ => none }
def FnExactBinaryCounterWrongFalsely : Prop := fnExactBinaryCounterRow.holds Try.pinned (OpenSpec.ofChange fnExactBinaryCounterWrong)

/-- 'laws.FnExactReflectedCounter': WHATEVER THE INPUT: true; the input reads as it did. -/
def fnExactReflectedCounterSpec : ChangeSpec := { name := "fnExactReflectedCounter", fn := fun _ => fun
  | [d] => { results := [.lit (.bool true)], args := [d] }
  | _ => none }
def fnExactReflectedCounterRow : OpenClaim := { program := "ytomepieklgplgaa", sum := "7a23c946d822c8da0272ff784971a344bf15a2d9075e1edae74521fd17c96c51", func := "loop.example/g01153/laws.FnExactReflectedCounter", spec := "fnExactReflectedCounter", unfollowed := true, recurses := true, apart := false }
def FnExactReflectedCounterSaid : Prop := fnExactReflectedCounterRow.holds Try.pinned (OpenSpec.ofChange fnExactReflectedCounterSpec)

/-- ITS FALSE NEIGHBOUR: 'it returns false'. Refute it at one input. -/
def fnExactReflectedCounterWrong : ChangeSpec := { name := "fnExactReflectedCounter", fn := fun _ => fun
  | [d] => { results := [.lit (.bool false)], args := [d] }
  | _ => none }
def FnExactReflectedCounterWrongFalsely : Prop := fnExactReflectedCounterRow.holds Try.pinned (OpenSpec.ofChange fnExactReflectedCounterWrong)

/-- 'laws.FnExactOutputOf': WHATEVER THE INPUT: true; the input reads as it did. -/
def fnExactOutputOfSpec : ChangeSpec := { name := "fnExactOutputOf", fn := fun _ => fun
  | [d1, d2, d3, d4] => { results := [.lit (.bool true)], args := [d1, d2, d3, d4] }
  | _ => none }
def fnExactOutputOfRow : OpenClaim := { program := "ytomepieklgplgaa", sum := "7a23c946d822c8da0272ff784971a344bf15a2d9075e1edae74521fd17c96c51", func := "loop.example/g01153/laws.FnExactOutputOf", spec := "fnExactOutputOf", unfollowed := true, recurses := true, apart := false }
def FnExactOutputOfSaid : Prop := fnExactOutputOfRow.holds Try.pinned (OpenSpec.ofChange fnExactOutputOfSpec)

/-- ITS FALSE NEIGHBOUR: 'it returns false'. Refute it at one input. -/
def fnExactOutputOfWrong : ChangeSpec := { name := "fnExactOutputOf", fn := fun _ => fun
  | [d1, d2, d3, d4] => { results := [.lit (.bool false)], args := [d1, d2, d3, d4] }
  | _ => none }
def FnExactOutputOfWrongFalsely : Prop := fnExactOutputOfRow.holds Try.pinned (OpenSpec.ofChange fnExactOutputOfWrong)

/-- 'laws.FnExactTailOf': WHATEVER THE INPUT: true; the input reads as it did. -/
def fnExactTailOfSpec : ChangeSpec := { name := "fnExactTailOf", fn := fun _ => fun
  | [d1, d2] => { results := [.lit (.bool true)], args := [d1, d2] }
  | _ => none }
def fnExactTailOfRow : OpenClaim := { program := "ytomepieklgplgaa", sum := "7a23c946d822c8da0272ff784971a344bf15a2d9075e1edae74521fd17c96c51", func := "loop.example/g01153/laws.FnExactTailOf", spec := "fnExactTailOf", unfollowed := true, recurses := true, apart := false }
def FnExactTailOfSaid : Prop := fnExactTailOfRow.holds Try.pinned (OpenSpec.ofChange fnExactTailOfSpec)

/-- ITS FALSE NEIGHBOUR: 'it returns false'. Refute it at one input. -/
def fnExactTailOfWrong : ChangeSpec := { name := "fnExactTailOf", fn := fun _ => fun
  | [d1, d2] => { results := [.lit (.bool false)], args := [d1, d2] }
  | _ => none }
def FnExactTailOfWrongFalsely : Prop := fnExactTailOfRow.holds Try.pinned (OpenSpec.ofChange fnExactTailOfWrong)

/-- 'laws.FnExactStateAfter': WHATEVER THE INPUT: true; the input reads as it did. -/
def fnExactStateAfterSpec : ChangeSpec := { name := "fnExactStateAfter", fn := fun _ => fun
  | [d1, d2, d3] => { results := [.lit (.bool true)], args := [d1, d2, d3] }
  | _ => none }
def fnExactStateAfterRow : OpenClaim := { program := "ytomepieklgplgaa", sum := "7a23c946d822c8da0272ff784971a344bf15a2d9075e1edae74521fd17c96c51", func := "loop.example/g01153/laws.FnExactStateAfter", spec := "fnExactStateAfter", unfollowed := true, recurses := true, apart := false }
def FnExactStateAfterSaid : Prop := fnExactStateAfterRow.holds Try.pinned (OpenSpec.ofChange fnExactStateAfterSpec)

/-- ITS FALSE NEIGHBOUR: 'it returns false'. Refute it at one input. -/
def fnExactStateAfterWrong : ChangeSpec := { name := "fnExactStateAfter", fn := fun _ => fun
  | [d1, d2, d3] => { results := [.lit (.bool false)], args := [d1, d2, d3] }
  | _ => none }
def FnExactStateAfterWrongFalsely : Prop := fnExactStateAfterRow.holds Try.pinned (OpenSpec.ofChange fnExactStateAfterWrong)

/-- 'laws.FnExactIsSelfStarting': WHATEVER THE INPUT: true; the input reads as it did. -/
def fnExactIsSelfStartingSpec : ChangeSpec := { name := "fnExactIsSelfStarting", fn := fun _ => fun
  | [d1, d2] => { results := [.lit (.bool true)], args := [d1, d2] }
  | _ => none }
def fnExactIsSelfStartingRow : OpenClaim := { program := "ytomepieklgplgaa", sum := "7a23c946d822c8da0272ff784971a344bf15a2d9075e1edae74521fd17c96c51", func := "loop.example/g01153/laws.FnExactIsSelfStarting", spec := "fnExactIsSelfStarting", unfollowed := true, recurses := true, apart := false }
def FnExactIsSelfStartingSaid : Prop := fnExactIsSelfStartingRow.holds Try.pinned (OpenSpec.ofChange fnExactIsSelfStartingSpec)

/-- ITS FALSE NEIGHBOUR: 'it returns false'. Refute it at one input. -/
def fnExactIsSelfStartingWrong : ChangeSpec := { name := "fnExactIsSelfStarting", fn := fun _ => fun
  | [d1, d2] => { results := [.lit (.bool false)], args := [d1, d2] }
  | _ => none }
def FnExactIsSelfStartingWrongFalsely : Prop := fnExactIsSelfStartingRow.holds Try.pinned (OpenSpec.ofChange fnExactIsSelfStartingWrong)

/-- 'laws.FnExactMostChanged': WHATEVER THE INPUT: true; the input reads as it did. -/
def fnExactMostChangedSpec : ChangeSpec := { name := "fnExactMostChanged", fn := fun _ => fun
  | [d1, d2] => { results := [.lit (.bool true)], args := [d1, d2] }
  | _ => none }
def fnExactMostChangedRow : OpenClaim := { program := "ytomepieklgplgaa", sum := "7a23c946d822c8da0272ff784971a344bf15a2d9075e1edae74521fd17c96c51", func := "loop.example/g01153/laws.FnExactMostChanged", spec := "fnExactMostChanged", unfollowed := true, recurses := true, apart := false }
def FnExactMostChangedSaid : Prop := fnExactMostChangedRow.holds Try.pinned (OpenSpec.ofChange fnExactMostChangedSpec)

/-- ITS FALSE NEIGHBOUR: 'it returns false'. Refute it at one input. -/
def fnExactMostChangedWrong : ChangeSpec := { name := "fnExactMostChanged", fn := fun _ => fun
  | [d1, d2] => { results := [.lit (.bool false)], args := [d1, d2] }
  | _ => none }
def FnExactMostChangedWrongFalsely : Prop := fnExactMostChangedRow.holds Try.pinned (OpenSpec.ofChange fnExactMostChangedWrong)

/-- 'laws.FnExactRingsOf': WHATEVER THE INPUT: true; the input reads as it did. -/
def fnExactRingsOfSpec : ChangeSpec := { name := "fnExactRingsOf", fn := fun _ => fun
  | [d] => { results := [.lit (.bool true)], args := [d] }
  | _ => none }
def fnExactRingsOfRow : OpenClaim := { program := "ytomepieklgplgaa", sum := "7a23c946d822c8da0272ff784971a344bf15a2d9075e1edae74521fd17c96c51", func := "loop.example/g01153/laws.FnExactRingsOf", spec := "fnExactRingsOf", unfollowed := true, recurses := true, apart := false }
def FnExactRingsOfSaid : Prop := fnExactRingsOfRow.holds Try.pinned (OpenSpec.ofChange fnExactRingsOfSpec)

/-- ITS FALSE NEIGHBOUR: 'it returns false'. Refute it at one input. -/
def fnExactRingsOfWrong : ChangeSpec := { name := "fnExactRingsOf", fn := fun _ => fun
  | [d] => { results := [.lit (.bool false)], args := [d] }
  | _ => none }
def FnExactRingsOfWrongFalsely : Prop := fnExactRingsOfRow.holds Try.pinned (OpenSpec.ofChange fnExactRingsOfWrong)

/-- 'laws.FnMended': WHATEVER THE INPUT: true; the input reads as it did. -/
def fnMendedSpec : ChangeSpec := { name := "fnMended", fn := fun _ => fun
  | [d1, d2] => { results := [.lit (.bool true)], args := [d1, d2] }
  | _ => none }
def fnMendedRow : OpenClaim := { program := "ytomepieklgplgaa", sum := "7a23c946d822c8da0272ff784971a344bf15a2d9075e1edae74521fd17c96c51", func := "loop.example/g01153/laws.FnMended", spec := "fnMended", unfollowed := true, recurses := true, apart := false }
def FnMendedSaid : Prop := fnMendedRow.holds Try.pinned (OpenSpec.ofChange fnMendedSpec)

/-- ITS FALSE NEIGHBOUR: 'it returns false'. Refute it at one input. -/
def fnMendedWrong : ChangeSpec := { name := "fnMended", fn := fun _ => fun
  | [d1, d2] => { results := [.lit (.bool false)], args := [d1, d2] }
  | _ => none }
def FnMendedWrongFalsely : Prop := fnMendedRow.holds Try.pinned (OpenSpec.ofChange fnMendedWrong)

/-- 'laws.FnExactMendCounter': WHATEVER THE INPUT: true; the input reads as it did. -/
def fnExactMendCounterSpec : ChangeSpec := { name := "fnExactMendCounter", fn := fun _ => fun
  | [d1, d2] => { results := [.lit (.bool true)], args := [d1, d2] }
  | _ => none }
def fnExactMendCounterRow : OpenClaim := { program := "ytomepieklgplgaa", sum := "7a23c946d822c8da0272ff784971a344bf15a2d9075e1edae74521fd17c96c51", func := "loop.example/g01153/laws.FnExactMendCounter", spec := "fnExactMendCounter", unfollowed := true, recurses := true, apart := false }
def FnExactMendCounterSaid : Prop := fnExactMendCounterRow.holds Try.pinned (OpenSpec.ofChange fnExactMendCounterSpec)

/-- ITS FALSE NEIGHBOUR: 'it returns false'. Refute it at one input. -/
def fnExactMendCounterWrong : ChangeSpec := { name := "fnExactMendCounter", fn := fun _ => fun
  | [d1, d2] => { results := [.lit (.bool false)], args := [d1, d2] }
  | _ => none }
def FnExactMendCounterWrongFalsely : Prop := fnExactMendCounterRow.holds Try.pinned (OpenSpec.ofChange fnExactMendCounterWrong)

/- THE SECOND FORM. 'bulk': how many values and letters a reading holds, each counted each time it is reached (what is shared counts as often as it is met; a slice's spare places count too). A statement '..UptoSaid' is the law's where the arguments, and the package variables that the reading takes, are together of bulk at most 1048576: NARROWER than '..Said'. Prove '..Said' where nothing that the law and all that it calls make is longer than what came in: it says more and counts as full. Else prove '..UptoSaid'. A law counts once. -/
mutual
def uptoBulk {H : Type} : DataW H → Nat
  | .lit (.string bytes) => bytes.length + 1
  | .lit _ => 1
  | .nil => 1
  | .ptr d => uptoBulk d + 1
  | .slice elems spare => uptoBulkAll elems + uptoBulkAll spare + 1
  | .agg parts => uptoBulkAll parts + 1
  | .iface _ d => uptoBulk d + 1
  | .map entries => uptoBulkEntries entries + 1
  | .held _ => 1
def uptoBulkAll {H : Type} : List (DataW H) → Nat
  | [] => 0
  | d :: r => uptoBulk d + uptoBulkAll r
def uptoBulkEntries {H : Type} : List (Lit × DataW H) → Nat
  | [] => 0
  | x :: r => uptoBulkEntry x + uptoBulkEntries r
def uptoBulkEntry {H : Type} : Lit × DataW H → Nat
  | (.string bytes, d) => bytes.length + uptoBulk d + 1
  | (_, d) => uptoBulk d + 1
 end
def uptoSmall : (H : Type) → List (DataW H) → Bool := fun _ ds => decide (uptoBulkAll ds ≤ 1048576)
def OpenSpec.upto (s : _root_.Go.ChangeSpec) : _root_.Go.OpenSpec := { _root_.Go.OpenSpec.ofChange s with cond := some uptoSmall }

/-- 'laws.FnRings', WHERE WHAT IT READS IS OF BULK AT MOST 1048576: true; the input reads as it did. -/
def fnRingsUptoRow : OpenClaim := { program := "ytomepieklgplgaa", sum := "7a23c946d822c8da0272ff784971a344bf15a2d9075e1edae74521fd17c96c51", func := "loop.example/g01153/laws.FnRings", spec := "fnRings", unfollowed := true, recurses := true, apart := false, narrowed := true }
def FnRingsUptoSaid : Prop := fnRingsUptoRow.holds Try.pinned (OpenSpec.upto fnRingsSpec)

/-- 'laws.FnExactValidCounter', WHERE WHAT IT READS IS OF BULK AT MOST 1048576: true; the input reads as it did. -/
def fnExactValidCounterUptoRow : OpenClaim := { program := "ytomepieklgplgaa", sum := "7a23c946d822c8da0272ff784971a344bf15a2d9075e1edae74521fd17c96c51", func := "loop.example/g01153/laws.FnExactValidCounter", spec := "fnExactValidCounter", unfollowed := true, recurses := true, apart := false, narrowed := true }
def FnExactValidCounterUptoSaid : Prop := fnExactValidCounterUptoRow.holds Try.pinned (OpenSpec.upto fnExactValidCounterSpec)

/-- 'laws.FnExactBinaryCounter', WHERE WHAT IT READS IS OF BULK AT MOST 1048576: true; the input reads as it did. -/
def fnExactBinaryCounterUptoRow : OpenClaim := { program := "ytomepieklgplgaa", sum := "7a23c946d822c8da0272ff784971a344bf15a2d9075e1edae74521fd17c96c51", func := "loop.example/g01153/laws.FnExactBinaryCounter", spec := "fnExactBinaryCounter", unfollowed := true, recurses := true, apart := false, narrowed := true }
def FnExactBinaryCounterUptoSaid : Prop := fnExactBinaryCounterUptoRow.holds Try.pinned (OpenSpec.upto fnExactBinaryCounterSpec)

/-- 'laws.FnExactReflectedCounter', WHERE WHAT IT READS IS OF BULK AT MOST 1048576: true; the input reads as it did. -/
def fnExactReflectedCounterUptoRow : OpenClaim := { program := "ytomepieklgplgaa", sum := "7a23c946d822c8da0272ff784971a344bf15a2d9075e1edae74521fd17c96c51", func := "loop.example/g01153/laws.FnExactReflectedCounter", spec := "fnExactReflectedCounter", unfollowed := true, recurses := true, apart := false, narrowed := true }
def FnExactReflectedCounterUptoSaid : Prop := fnExactReflectedCounterUptoRow.holds Try.pinned (OpenSpec.upto fnExactReflectedCounterSpec)

/-- 'laws.FnExactOutputOf', WHERE WHAT IT READS IS OF BULK AT MOST 1048576: true; the input reads as it did. -/
def fnExactOutputOfUptoRow : OpenClaim := { program := "ytomepieklgplgaa", sum := "7a23c946d822c8da0272ff784971a344bf15a2d9075e1edae74521fd17c96c51", func := "loop.example/g01153/laws.FnExactOutputOf", spec := "fnExactOutputOf", unfollowed := true, recurses := true, apart := false, narrowed := true }
def FnExactOutputOfUptoSaid : Prop := fnExactOutputOfUptoRow.holds Try.pinned (OpenSpec.upto fnExactOutputOfSpec)

/-- 'laws.FnExactTailOf', WHERE WHAT IT READS IS OF BULK AT MOST 1048576: true; the input reads as it did. -/
def fnExactTailOfUptoRow : OpenClaim := { program := "ytomepieklgplgaa", sum := "7a23c946d822c8da0272ff784971a344bf15a2d9075e1edae74521fd17c96c51", func := "loop.example/g01153/laws.FnExactTailOf", spec := "fnExactTailOf", unfollowed := true, recurses := true, apart := false, narrowed := true }
def FnExactTailOfUptoSaid : Prop := fnExactTailOfUptoRow.holds Try.pinned (OpenSpec.upto fnExactTailOfSpec)

/-- 'laws.FnExactStateAfter', WHERE WHAT IT READS IS OF BULK AT MOST 1048576: true; the input reads as it did. -/
def fnExactStateAfterUptoRow : OpenClaim := { program := "ytomepieklgplgaa", sum := "7a23c946d822c8da0272ff784971a344bf15a2d9075e1edae74521fd17c96c51", func := "loop.example/g01153/laws.FnExactStateAfter", spec := "fnExactStateAfter", unfollowed := true, recurses := true, apart := false, narrowed := true }
def FnExactStateAfterUptoSaid : Prop := fnExactStateAfterUptoRow.holds Try.pinned (OpenSpec.upto fnExactStateAfterSpec)

/-- 'laws.FnExactIsSelfStarting', WHERE WHAT IT READS IS OF BULK AT MOST 1048576: true; the input reads as it did. -/
def fnExactIsSelfStartingUptoRow : OpenClaim := { program := "ytomepieklgplgaa", sum := "7a23c946d822c8da0272ff784971a344bf15a2d9075e1edae74521fd17c96c51", func := "loop.example/g01153/laws.FnExactIsSelfStarting", spec := "fnExactIsSelfStarting", unfollowed := true, recurses := true, apart := false, narrowed := true }
def FnExactIsSelfStartingUptoSaid : Prop := fnExactIsSelfStartingUptoRow.holds Try.pinned (OpenSpec.upto fnExactIsSelfStartingSpec)

/-- 'laws.FnExactMostChanged', WHERE WHAT IT READS IS OF BULK AT MOST 1048576: true; the input reads as it did. -/
def fnExactMostChangedUptoRow : OpenClaim := { program := "ytomepieklgplgaa", sum := "7a23c946d822c8da0272ff784971a344bf15a2d9075e1edae74521fd17c96c51", func := "loop.example/g01153/laws.FnExactMostChanged", spec := "fnExactMostChanged", unfollowed := true, recurses := true, apart := false, narrowed := true }
def FnExactMostChangedUptoSaid : Prop := fnExactMostChangedUptoRow.holds Try.pinned (OpenSpec.upto fnExactMostChangedSpec)

/-- 'laws.FnExactRingsOf', WHERE WHAT IT READS IS OF BULK AT MOST 1048576: true; the input reads as it did. -/
def fnExactRingsOfUptoRow : OpenClaim := { program := "ytomepieklgplgaa", sum := "7a23c946d822c8da0272ff784971a344bf15a2d9075e1edae74521fd17c96c51", func := "loop.example/g01153/laws.FnExactRingsOf", spec := "fnExactRingsOf", unfollowed := true, recurses := true, apart := false, narrowed := true }
def FnExactRingsOfUptoSaid : Prop := fnExactRingsOfUptoRow.holds Try.pinned (OpenSpec.upto fnExactRingsOfSpec)

/-- 'laws.FnMended', WHERE WHAT IT READS IS OF BULK AT MOST 1048576: true; the input reads as it did. -/
def fnMendedUptoRow : OpenClaim := { program := "ytomepieklgplgaa", sum := "7a23c946d822c8da0272ff784971a344bf15a2d9075e1edae74521fd17c96c51", func := "loop.example/g01153/laws.FnMended", spec := "fnMended", unfollowed := true, recurses := true, apart := false, narrowed := true }
def FnMendedUptoSaid : Prop := fnMendedUptoRow.holds Try.pinned (OpenSpec.upto fnMendedSpec)

/-- 'laws.FnExactMendCounter', WHERE WHAT IT READS IS OF BULK AT MOST 1048576: true; the input reads as it did. -/
def fnExactMendCounterUptoRow : OpenClaim := { program := "ytomepieklgplgaa", sum := "7a23c946d822c8da0272ff784971a344bf15a2d9075e1edae74521fd17c96c51", func := "loop.example/g01153/laws.FnExactMendCounter", spec := "fnExactMendCounter", unfollowed := true, recurses := true, apart := false, narrowed := true }
def FnExactMendCounterUptoSaid : Prop := fnExactMendCounterUptoRow.holds Try.pinned (OpenSpec.upto fnExactMendCounterSpec)

end Rows
end Go.Proofs.Ytomepieklgplgaa
