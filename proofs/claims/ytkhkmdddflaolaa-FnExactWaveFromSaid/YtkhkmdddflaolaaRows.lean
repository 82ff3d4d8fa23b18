/-
  No cell of these rows narrows 'for every input' (looked for: loops, veiled, ifaces, maps, wideKeys, modest, calm, conditions, laid).
  DERIVED. THE GIVEN ROWS OF THIS SEAT. 4 by the template 'for every input the law returns true; each argument reads behind the call as it read before'; 0 by the template 'total and deterministic' (their statements: YtkhkmdddflaolaaTotals.lean).
  GIVEN WITH THE SEED: the statements are not yours to turn. If you find one false, say at which input.
  Laid BY PROGRAM, IN A SANDBOX (cutbox-rows.mjs): the forced cells as the released guide's own fill.sh prints them over the translation 0ebf8b4a033a8400… (all of the seat's roots in one cut). By AI agents, Wed Nov 11 2026. No macro, syntax, notation, axiom, sorry.
-/
import Derived.Test.YtkhkmdddflaolaaChecked
import GoSem.Claim
import GoSem.ClaimJoined
import GoSem.ClaimMapViews
import Derived.JoinedTies
import Derived.KernelRfl
namespace Go.Proofs.Ytkhkmdddflaolaa
/- THE CELL 'sum', in the pinned program and in every row, IS THE sha256 OF THE DUMP (.gsa) THAT YtkhkmdddflaolaaProg.lean LOADS. Nothing in Lean hashes anything: it is a label: what it is worth is what the hold of that sum in a sandbox is worth. -/
noncomputable def Try.pinned : Pinned := { name := "ytkhkmdddflaolaa", sum := "0ebf8b4a033a8400ef29ab0dcf1f0113adc11b4cf4c3ead723f56ac779608bb3", checked := Try.checked }
namespace Rows
def none {H : Type} : Left H := { results := [], args := [] }

/-- 'laws.FnExactEvenPattern': WHATEVER THE INPUT: true; the input reads as it did. -/
def fnExactEvenPatternSpec : ChangeSpec := { name := "fnExactEvenPattern", fn := fun _ => fun
  | [d1, d2] => { results := [.lit (.bool true)], args := [d1, d2] }
  | _ => none }
def fnExactEvenPatternRow : OpenClaim := { program := "ytkhkmdddflaolaa", sum := "0ebf8b4a033a8400ef29ab0dcf1f0113adc11b4cf4c3ead723f56ac779608bb3", func := "loop.example/g01153/laws.FnExactEvenPattern", spec := "fnExactEvenPattern", unfollowed := true, recurses := true, apart := false }
def FnExactEvenPatternSaid : Prop := fnExactEvenPatternRow.holds Try.pinned (OpenSpec.ofChange fnExactEvenPatternSpec)

/-- ITS FALSE NEIGHBOUR: 'it returns false'. Refute it at one input. -/
def fnExactEvenPatternWrong : ChangeSpec := { name := "fnExactEvenPattern", fn := fun _ => fun
  | [d1, d2] => { results := [.lit (.bool false)], args := [d1, d2] }
  | _ => none }
def FnExactEvenPatternWrongFalsely : Prop := fnExactEvenPatternRow.holds Try.pinned (OpenSpec.ofChange fnExactEvenPatternWrong)

/-- 'laws.FnExactAccumulateWave': WHATEVER THE INPUT: true; the input reads as it did. -/
def fnExactAccumulateWaveSpec : ChangeSpec := { name := "fnExactAccumulateWave", fn := fun _ => fun
  | [d1, d2, d3, d4] => { results := [.lit (.bool true)], args := [d1, d2, d3, d4] }
  | _ => none }
def fnExactAccumulateWaveRow : OpenClaim := { program := "ytkhkmdddflaolaa", sum := "0ebf8b4a033a8400ef29ab0dcf1f0113adc11b4cf4c3ead723f56ac779608bb3", func := "loop.example/g01153/laws.FnExactAccumulateWave", spec := "fnExactAccumulateWave", unfollowed := true, recurses := true, apart := false }
def FnExactAccumulateWaveSaid : Prop := fnExactAccumulateWaveRow.holds Try.pinned (OpenSpec.ofChange fnExactAccumulateWaveSpec)

/-- ITS FALSE NEIGHBOUR: 'it returns false'. Refute it at one input. -/
def fnExactAccumulateWaveWrong : ChangeSpec := { name := "fnExactAccumulateWave", fn := fun _ => fun
  | [d1, d2, d3, d4] => { results := [.lit (.bool false)], args := [d1, d2, d3, d4] }
  | _ => none }
def FnExactAccumulateWaveWrongFalsely : Prop := fnExactAccumulateWaveRow.holds Try.pinned (OpenSpec.ofChange fnExactAccumulateWaveWrong)

/-- 'laws.FnExactWaveFrom': WHATEVER THE INPUT: true; the input reads as it did. -/
def fnExactWaveFromSpec : ChangeSpec := { name := "fnExactWaveFrom", fn := fun _ => fun
  | [d1, d2, d3] => { results := [.lit (.bool true)], args := [d1, d2, d3] }
  | _ => none }
def fnExactWaveFromRow : OpenClaim := { program := "ytkhkmdddflaolaa", sum := "0ebf8b4a033a8400ef29ab0dcf1f0113adc11b4cf4c3ead723f56ac779608bb3", func := "loop.example/g01153/laws.FnExactWaveFrom", spec := "fnExactWaveFrom", unfollowed := true, recurses := true, apart := false }
def FnExactWaveFromSaid : Prop := fnExactWaveFromRow.holds Try.pinned (OpenSpec.ofChange fnExactWaveFromSpec)

/-- ITS FALSE NEIGHBOUR: 'it returns false'. Refute it at one input. -/
def fnExactWaveFromWrong : ChangeSpec := { name := "fnExactWaveFrom", fn := fun _ => fun
  | [d1, d2, d3] => { results := [.lit (.bool false)], args := [d1, d2, d3] }
  | _ => none }
def FnExactWaveFromWrongFalsely : Prop := fnExactWaveFromRow.holds Try.pinned (OpenSpec.ofChange fnExactWaveFromWrong)

/-- 'laws.FnExactConstants': WHATEVER THE INPUT: true; the input reads as it did. -/
def fnExactConstantsSpec : ChangeSpec := { name := "fnExactConstants", fn := fun _ => fun
  | [] => { results := [.lit (.bool true)], args := [] }
  | _ => none }
def fnExactConstantsRow : OpenClaim := { program := "ytkhkmdddflaolaa", sum := "0ebf8b4a033a8400ef29ab0dcf1f0113adc11b4cf4c3ead723f56ac779608bb3", func := "loop.example/g01153/laws.FnExactConstants", spec := "fnExactConstants", apart := false }
def FnExactConstantsSaid : Prop := fnExactConstantsRow.holds Try.pinned (OpenSpec.ofChange fnExactConstantsSpec)

/-- ITS FALSE NEIGHBOUR: 'it returns false'. Refute it at one input. -/
def fnExactConstantsWrong : ChangeSpec := { name := "fnExactConstants", fn := fun _ => fun
  | [] => { results := [.lit (.bool false)], args := [] }
  | _ => none }
def FnExactConstantsWrongFalsely : Prop := fnExactConstantsRow.holds Try.pinned (OpenSpec.ofChange fnExactConstantsWrong)

/- THE SECOND FORM. 'bulk': how many values and letters a reading holds, each counted each time it is reached (what is shared counts as often as it is met; a slice's spare places count too). A statement '..UptoSaid' is the law's where the arguments, and the package variables that the reading takes, are together of bulk at most 1048576: NARROWER than '..Said'. Prove '..Said' where nothing that the law and all that it calls make is longer than what came in: it says more and counts as full. Else prove '..UptoSaid'. A law counts once. -/
mutual
def uptoBulk {H : Type} : DataW H → Nat
  | .lit (.string bytes) => bytes.length + 1
  | .lit _ => 1
  | .nil => 1
  | .ptr d => uptoBulk d + 1
  | .slice elems spare => uptoBulkAll elems + uptoBulkAll spare + 1
  | .agg parts => uptoBulkAll parts + 1
  | .iface _ d => uptoBulk d + 1
  | .map entries => uptoBulkEntries entries + 1
  | .held _ => 1
def uptoBulkAll {H : Type} : List (DataW H) → Nat
  | [] => 0
  | d :: r => uptoBulk d + uptoBulkAll r
def uptoBulkEntries {H : Type} : List (Lit × DataW H) → Nat
  | [] => 0
  | x :: r => uptoBulkEntry x + uptoBulkEntries r
def uptoBulkEntry {H : Type} : Lit × DataW H → Nat
  | (.string bytes, d) => bytes.length + uptoBulk d + 1
  | (_, d) => uptoBulk d + 1
 end
def uptoSmall : (H : Type) → List (DataW H) → Bool := fun _ ds => decide (uptoBulkAll ds ≤ 1048576)
def OpenSpec.upto (s : _root_.Go.ChangeSpec) : _root_.Go.OpenSpec := { _root_.Go.OpenSpec.ofChange s with cond := some uptoSmall }

/-- 'laws.FnExactEvenPattern', WHERE WHAT IT READS IS OF BULK AT MOST 1048576: true; the input reads as it did. -/
def fnExactEvenPatternUptoRow : OpenClaim := { program := "ytkhkmdddflaolaa", sum := "0ebf8b4a033a8400ef29ab0dcf1f0113adc11b4cf4c3ead723f56ac779608bb3", func := "loop.example/g01153/laws.FnExactEvenPattern", spec := "fnExactEvenPattern", unfollowed := true, recurses := true, apart := false, narrowed := true }
def FnExactEvenPatternUptoSaid : Prop := fnExactEvenPatternUptoRow.holds Try.pinned (OpenSpec.upto fnExactEvenPatternSpec)

/-- 'laws.FnExactAccumulateWave', WHERE WHAT IT READS IS OF BULK AT MOST 1048576: true; the input reads as it did. -/
def fnExactAccumulateWaveUptoRow : OpenClaim := { program := "ytkhkmdddflaolaa", sum := "0ebf8b4a033a8400ef29ab0dcf1f0113adc11b4cf4c3ead723f56ac779608bb3", func := "loop.example/g01153/laws.FnExactAccumulateWave", spec := "fnExactAccumulateWave", unfollowed := true, recurses := true, apart := false, narrowed := true }
def FnExactAccumulateWaveUptoSaid : Prop := fnExactAccumulateWaveUptoRow.holds Try.pinned (OpenSpec.upto fnExactAccumulateWaveSpec)

/-- 'laws.FnExactWaveFrom', WHERE WHAT IT READS IS OF BULK AT MOST 1048576: true; the input reads as it did. -/
def fnExactWaveFromUptoRow : OpenClaim := { program := "ytkhkmdddflaolaa", sum := "0ebf8b4a033a8400ef29ab0dcf1f0113adc11b4cf4c3ead723f56ac779608bb3", func := "loop.example/g01153/laws.FnExactWaveFrom", spec := "fnExactWaveFrom", unfollowed := true, recurses := true, apart := false, narrowed := true }
def FnExactWaveFromUptoSaid : Prop := fnExactWaveFromUptoRow.holds Try.pinned (OpenSpec.upto fnExactWaveFromSpec)

/-- 'laws.FnExactConstants', WHERE WHAT IT READS IS OF BULK AT MOST 1048576: true; the input reads as it did. -/
def fnExactConstantsUptoRow : OpenClaim := { program := "ytkhkmdddflaolaa", sum := "0ebf8b4a033a8400ef29ab0dcf1f0113adc11b4cf4c3ead723f56ac779608bb3", func := "loop.example/g01153/laws.FnExactConstants", spec := "fnExactConstants", apart := false, narrowed := true }
def FnExactConstantsUptoSaid : Prop := fnExactConstantsUptoRow.holds Try.pinned (OpenSpec.upto fnExactConstantsSpec)

end Rows
end Go.Proofs.Ytkhkmdddflaolaa
