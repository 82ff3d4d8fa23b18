/-
  NARROWER THAN 'FOR EVERY INPUT', by the rows' own cells (each row's printed sentence says how): FnExactIsWave: laid · FnExactIsName: laid · FnExactNotWave: laid · FnExactWavePeriod: laid · FnExactJoinWaves: laid · FnExactDownsOf: laid · FnExactUpsOf: laid · FnExactRepeatWave: laid · FnExactDelayWave: laid · FnExactPulsesOf: laid · FnExactGapsOf: laid · FnJoined: laid.
  DERIVED. THE GIVEN ROWS OF THIS SEAT. 12 by the template 'for every input the law returns true; each argument reads behind the call as it read before'; 0 by the template 'total and deterministic' (their statements: YtkhkmdddflaolaaDoorTotals.lean).
  GIVEN WITH THE SEED: the statements are not yours to turn. If you find one false, say at which input.
  Laid BY PROGRAM, IN A SANDBOX (cutbox-rows.mjs): the forced cells as the released guide's own fill.sh prints them over the translation f5eda1d18b9e81b2… (all of the seat's roots in one cut). By AI agents, Wed Nov 11 2026. No macro, syntax, notation, axiom, sorry.
-/
import Derived.Test.YtkhkmdddflaolaaDoorChecked
import GoSem.PinnedTables
import GoSem.Claim
import GoSem.ClaimJoined
import GoSem.ClaimMapViews
import Derived.JoinedTies
import Derived.KernelRfl
namespace Go.Proofs.YtkhkmdddflaolaaDoor
/- THE CELL 'sum', in the pinned program and in every row, IS THE sha256 OF THE DUMP (.gsa) THAT YtkhkmdddflaolaaDoorProg.lean LOADS. Nothing in Lean hashes anything: it is a label: what it is worth is what the hold of that sum in a sandbox is worth. -/
noncomputable def Tryd.pinned : Pinned := { name := "ytkhkmdddflaolaadoor", sum := "f5eda1d18b9e81b294d6dcb0f14f64ff5244c332be0f62603b2e1eda2e83958e", checked := Tryd.checked }
namespace Rows
def none {H : Type} : Left H := { results := [], args := [] }

/- WHAT THE LISTED PACKAGE-LEVEL VARIABLES READ AS WHEN THE CALL BEGINS. Each datum BY PROGRAM (the guide's laid-datum.mjs) off the statement by which the dump's own 'gosem.cut.vars' lays the variable. In a bare row this is a premise. The card (YtkhkmdddflaolaaDoorCards.lean) ties it to the program's text. -/
def laid_unicode_utf8_acceptRanges {H : Type} : DataW H := .agg [.agg [.lit (.int .u8 128), .lit (.int .u8 191)], .agg [.lit (.int .u8 160), .lit (.int .u8 191)], .agg [.lit (.int .u8 128), .lit (.int .u8 159)], .agg [.lit (.int .u8 144), .lit (.int .u8 191)], .agg [.lit (.int .u8 128), .lit (.int .u8 143)], .agg [.lit (.int .u8 0), .lit (.int .u8 0)], .agg [.lit (.int .u8 0), .lit (.int .u8 0)], .agg [.lit (.int .u8 0), .lit (.int .u8 0)], .agg [.lit (.int .u8 0), .lit (.int .u8 0)], .agg [.lit (.int .u8 0), .lit (.int .u8 0)], .agg [.lit (.int .u8 0), .lit (.int .u8 0)], .agg [.lit (.int .u8 0), .lit (.int .u8 0)], .agg [.lit (.int .u8 0), .lit (.int .u8 0)], .agg [.lit (.int .u8 0), .lit (.int .u8 0)], .agg [.lit (.int .u8 0), .lit (.int .u8 0)], .agg [.lit (.int .u8 0), .lit (.int .u8 0)]]
/-- One of Go's own tables, pinned by name: the form's constant. -/
def laid_unicode_utf8_first : DataW Unit := Go.Pinned.utf8First

/-- 'laws.FnExactIsWave': WHATEVER THE INPUT: true; the input reads as it did. -/
def fnExactIsWaveSpec : ChangeSpec := { name := "fnExactIsWave", fn := fun _ => fun
  | [d] => { results := [.lit (.bool true)], args := [d] }
  | _ => none }
def fnExactIsWaveRow : OpenClaim := { program := "ytkhkmdddflaolaadoor", sum := "f5eda1d18b9e81b294d6dcb0f14f64ff5244c332be0f62603b2e1eda2e83958e", func := "loop.example/g01153/laws.FnExactIsWave", spec := "fnExactIsWave", inPlace := ["internal/bytealg.IndexByteString", "internal/bytealg.IndexString"], named := ["unicode/utf8.first", "unicode/utf8.acceptRanges", "internal/bytealg.MaxLen"], apart := false, laid := [("unicode/utf8.acceptRanges", laid_unicode_utf8_acceptRanges), ("unicode/utf8.first", laid_unicode_utf8_first)] }
def FnExactIsWaveSaid : Prop := fnExactIsWaveRow.holds Tryd.pinned (OpenSpec.ofChange fnExactIsWaveSpec)

/-- ITS FALSE NEIGHBOUR: 'it returns false'. Refute it at one input. -/
def fnExactIsWaveWrong : ChangeSpec := { name := "fnExactIsWave", fn := fun _ => fun
  | [d] => { results := [.lit (.bool false)], args := [d] }
  | _ => none }
def FnExactIsWaveWrongFalsely : Prop := fnExactIsWaveRow.holds Tryd.pinned (OpenSpec.ofChange fnExactIsWaveWrong)

/-- 'laws.FnExactIsName': WHATEVER THE INPUT: true; the input reads as it did. -/
def fnExactIsNameSpec : ChangeSpec := { name := "fnExactIsName", fn := fun _ => fun
  | [d] => { results := [.lit (.bool true)], args := [d] }
  | _ => none }
def fnExactIsNameRow : OpenClaim := { program := "ytkhkmdddflaolaadoor", sum := "f5eda1d18b9e81b294d6dcb0f14f64ff5244c332be0f62603b2e1eda2e83958e", func := "loop.example/g01153/laws.FnExactIsName", spec := "fnExactIsName", inPlace := ["internal/bytealg.IndexByteString", "internal/bytealg.IndexString"], named := ["unicode/utf8.first", "unicode/utf8.acceptRanges", "internal/bytealg.MaxLen"], apart := false, laid := [("unicode/utf8.acceptRanges", laid_unicode_utf8_acceptRanges), ("unicode/utf8.first", laid_unicode_utf8_first)] }
def FnExactIsNameSaid : Prop := fnExactIsNameRow.holds Tryd.pinned (OpenSpec.ofChange fnExactIsNameSpec)

/-- ITS FALSE NEIGHBOUR: 'it returns false'. Refute it at one input. -/
def fnExactIsNameWrong : ChangeSpec := { name := "fnExactIsName", fn := fun _ => fun
  | [d] => { results := [.lit (.bool false)], args := [d] }
  | _ => none }
def FnExactIsNameWrongFalsely : Prop := fnExactIsNameRow.holds Tryd.pinned (OpenSpec.ofChange fnExactIsNameWrong)

/-- 'laws.FnExactNotWave': WHATEVER THE INPUT: true; the input reads as it did. -/
def fnExactNotWaveSpec : ChangeSpec := { name := "fnExactNotWave", fn := fun _ => fun
  | [d] => { results := [.lit (.bool true)], args := [d] }
  | _ => none }
def fnExactNotWaveRow : OpenClaim := { program := "ytkhkmdddflaolaadoor", sum := "f5eda1d18b9e81b294d6dcb0f14f64ff5244c332be0f62603b2e1eda2e83958e", func := "loop.example/g01153/laws.FnExactNotWave", spec := "fnExactNotWave", inPlace := ["internal/bytealg.IndexByteString", "internal/bytealg.IndexString"], unfollowed := true, recurses := true, named := ["unicode/utf8.first", "unicode/utf8.acceptRanges", "internal/bytealg.MaxLen"], apart := false, laid := [("unicode/utf8.acceptRanges", laid_unicode_utf8_acceptRanges), ("unicode/utf8.first", laid_unicode_utf8_first)] }
def FnExactNotWaveSaid : Prop := fnExactNotWaveRow.holds Tryd.pinned (OpenSpec.ofChange fnExactNotWaveSpec)

/-- ITS FALSE NEIGHBOUR: 'it returns false'. Refute it at one input. -/
def fnExactNotWaveWrong : ChangeSpec := { name := "fnExactNotWave", fn := fun _ => fun
  | [d] => { results := [.lit (.bool false)], args := [d] }
  | _ => none }
def FnExactNotWaveWrongFalsely : Prop := fnExactNotWaveRow.holds Tryd.pinned (OpenSpec.ofChange fnExactNotWaveWrong)

/-- 'laws.FnExactWavePeriod': WHATEVER THE INPUT: true; the input reads as it did. -/
def fnExactWavePeriodSpec : ChangeSpec := { name := "fnExactWavePeriod", fn := fun _ => fun
  | [d] => { results := [.lit (.bool true)], args := [d] }
  | _ => none }
def fnExactWavePeriodRow : OpenClaim := { program := "ytkhkmdddflaolaadoor", sum := "f5eda1d18b9e81b294d6dcb0f14f64ff5244c332be0f62603b2e1eda2e83958e", func := "loop.example/g01153/laws.FnExactWavePeriod", spec := "fnExactWavePeriod", inPlace := ["internal/bytealg.IndexByteString", "internal/bytealg.IndexString"], named := ["unicode/utf8.first", "unicode/utf8.acceptRanges", "internal/bytealg.MaxLen"], apart := false, laid := [("unicode/utf8.acceptRanges", laid_unicode_utf8_acceptRanges), ("unicode/utf8.first", laid_unicode_utf8_first)] }
def FnExactWavePeriodSaid : Prop := fnExactWavePeriodRow.holds Tryd.pinned (OpenSpec.ofChange fnExactWavePeriodSpec)

/-- ITS FALSE NEIGHBOUR: 'it returns false'. Refute it at one input. -/
def fnExactWavePeriodWrong : ChangeSpec := { name := "fnExactWavePeriod", fn := fun _ => fun
  | [d] => { results := [.lit (.bool false)], args := [d] }
  | _ => none }
def FnExactWavePeriodWrongFalsely : Prop := fnExactWavePeriodRow.holds Tryd.pinned (OpenSpec.ofChange fnExactWavePeriodWrong)

/-- 'laws.FnExactJoinWaves': WHATEVER THE INPUT: true; the input reads as it did. -/
def fnExactJoinWavesSpec : ChangeSpec := { name := "fnExactJoinWaves", fn := fun _ => fun
  | [d1, d2, d3] => { results := [.lit (.bool true)], args := [d1, d2, d3] }
  | _ => none }
def fnExactJoinWavesRow : OpenClaim := { program := "ytkhkmdddflaolaadoor", sum := "f5eda1d18b9e81b294d6dcb0f14f64ff5244c332be0f62603b2e1eda2e83958e", func := "loop.example/g01153/laws.FnExactJoinWaves", spec := "fnExactJoinWaves", inPlace := ["internal/bytealg.IndexByteString", "internal/bytealg.IndexString"], unfollowed := true, recurses := true, named := ["unicode/utf8.first", "unicode/utf8.acceptRanges", "internal/bytealg.MaxLen"], apart := false, laid := [("unicode/utf8.acceptRanges", laid_unicode_utf8_acceptRanges), ("unicode/utf8.first", laid_unicode_utf8_first)] }
def FnExactJoinWavesSaid : Prop := fnExactJoinWavesRow.holds Tryd.pinned (OpenSpec.ofChange fnExactJoinWavesSpec)

/-- ITS FALSE NEIGHBOUR: 'it returns false'. Refute it at one input. -/
def fnExactJoinWavesWrong : ChangeSpec := { name := "fnExactJoinWaves", fn := fun _ => fun
  | [d1, d2, d3] => { results := [.lit (.bool false)], args := [d1, d2, d3] }
  | _ => none }
def FnExactJoinWavesWrongFalsely : Prop := fnExactJoinWavesRow.holds Tryd.pinned (OpenSpec.ofChange fnExactJoinWavesWrong)

/-- 'laws.FnExactDownsOf': WHATEVER THE INPUT: true; the input reads as it did. -/
def fnExactDownsOfSpec : ChangeSpec := { name := "fnExactDownsOf", fn := fun _ => fun
  | [d] => { results := [.lit (.bool true)], args := [d] }
  | _ => none }
def fnExactDownsOfRow : OpenClaim := { program := "ytkhkmdddflaolaadoor", sum := "f5eda1d18b9e81b294d6dcb0f14f64ff5244c332be0f62603b2e1eda2e83958e", func := "loop.example/g01153/laws.FnExactDownsOf", spec := "fnExactDownsOf", inPlace := ["internal/bytealg.IndexByteString", "internal/bytealg.IndexString"], named := ["unicode/utf8.first", "unicode/utf8.acceptRanges", "internal/bytealg.MaxLen"], apart := false, laid := [("unicode/utf8.acceptRanges", laid_unicode_utf8_acceptRanges), ("unicode/utf8.first", laid_unicode_utf8_first)] }
def FnExactDownsOfSaid : Prop := fnExactDownsOfRow.holds Tryd.pinned (OpenSpec.ofChange fnExactDownsOfSpec)

/-- ITS FALSE NEIGHBOUR: 'it returns false'. Refute it at one input. -/
def fnExactDownsOfWrong : ChangeSpec := { name := "fnExactDownsOf", fn := fun _ => fun
  | [d] => { results := [.lit (.bool false)], args := [d] }
  | _ => none }
def FnExactDownsOfWrongFalsely : Prop := fnExactDownsOfRow.holds Tryd.pinned (OpenSpec.ofChange fnExactDownsOfWrong)

/-- 'laws.FnExactUpsOf': WHATEVER THE INPUT: true; the input reads as it did. -/
def fnExactUpsOfSpec : ChangeSpec := { name := "fnExactUpsOf", fn := fun _ => fun
  | [d] => { results := [.lit (.bool true)], args := [d] }
  | _ => none }
def fnExactUpsOfRow : OpenClaim := { program := "ytkhkmdddflaolaadoor", sum := "f5eda1d18b9e81b294d6dcb0f14f64ff5244c332be0f62603b2e1eda2e83958e", func := "loop.example/g01153/laws.FnExactUpsOf", spec := "fnExactUpsOf", inPlace := ["internal/bytealg.IndexByteString", "internal/bytealg.IndexString"], named := ["unicode/utf8.first", "unicode/utf8.acceptRanges", "internal/bytealg.MaxLen"], apart := false, laid := [("unicode/utf8.acceptRanges", laid_unicode_utf8_acceptRanges), ("unicode/utf8.first", laid_unicode_utf8_first)] }
def FnExactUpsOfSaid : Prop := fnExactUpsOfRow.holds Tryd.pinned (OpenSpec.ofChange fnExactUpsOfSpec)

/-- ITS FALSE NEIGHBOUR: 'it returns false'. Refute it at one input. -/
def fnExactUpsOfWrong : ChangeSpec := { name := "fnExactUpsOf", fn := fun _ => fun
  | [d] => { results := [.lit (.bool false)], args := [d] }
  | _ => none }
def FnExactUpsOfWrongFalsely : Prop := fnExactUpsOfRow.holds Tryd.pinned (OpenSpec.ofChange fnExactUpsOfWrong)

/-- 'laws.FnExactRepeatWave': WHATEVER THE INPUT: true; the input reads as it did. -/
def fnExactRepeatWaveSpec : ChangeSpec := { name := "fnExactRepeatWave", fn := fun _ => fun
  | [d1, d2] => { results := [.lit (.bool true)], args := [d1, d2] }
  | _ => none }
def fnExactRepeatWaveRow : OpenClaim := { program := "ytkhkmdddflaolaadoor", sum := "f5eda1d18b9e81b294d6dcb0f14f64ff5244c332be0f62603b2e1eda2e83958e", func := "loop.example/g01153/laws.FnExactRepeatWave", spec := "fnExactRepeatWave", inPlace := ["internal/bytealg.IndexByteString", "internal/bytealg.IndexString", "internal/abi.NoEscape", "internal/bytealg.MakeNoZero"], named := ["unicode/utf8.first", "unicode/utf8.acceptRanges", "internal/bytealg.MaxLen"], apart := false, laid := [("unicode/utf8.acceptRanges", laid_unicode_utf8_acceptRanges), ("unicode/utf8.first", laid_unicode_utf8_first)] }
def FnExactRepeatWaveSaid : Prop := fnExactRepeatWaveRow.holds Tryd.pinned (OpenSpec.ofChange fnExactRepeatWaveSpec)

/-- ITS FALSE NEIGHBOUR: 'it returns false'. Refute it at one input. -/
def fnExactRepeatWaveWrong : ChangeSpec := { name := "fnExactRepeatWave", fn := fun _ => fun
  | [d1, d2] => { results := [.lit (.bool false)], args := [d1, d2] }
  | _ => none }
def FnExactRepeatWaveWrongFalsely : Prop := fnExactRepeatWaveRow.holds Tryd.pinned (OpenSpec.ofChange fnExactRepeatWaveWrong)

/-- 'laws.FnExactDelayWave': WHATEVER THE INPUT: true; the input reads as it did. -/
def fnExactDelayWaveSpec : ChangeSpec := { name := "fnExactDelayWave", fn := fun _ => fun
  | [d1, d2] => { results := [.lit (.bool true)], args := [d1, d2] }
  | _ => none }
def fnExactDelayWaveRow : OpenClaim := { program := "ytkhkmdddflaolaadoor", sum := "f5eda1d18b9e81b294d6dcb0f14f64ff5244c332be0f62603b2e1eda2e83958e", func := "loop.example/g01153/laws.FnExactDelayWave", spec := "fnExactDelayWave", inPlace := ["internal/bytealg.IndexByteString", "internal/bytealg.IndexString", "internal/abi.NoEscape", "internal/bytealg.MakeNoZero"], named := ["unicode/utf8.first", "unicode/utf8.acceptRanges", "internal/bytealg.MaxLen"], apart := false, laid := [("unicode/utf8.acceptRanges", laid_unicode_utf8_acceptRanges), ("unicode/utf8.first", laid_unicode_utf8_first)] }
def FnExactDelayWaveSaid : Prop := fnExactDelayWaveRow.holds Tryd.pinned (OpenSpec.ofChange fnExactDelayWaveSpec)

/-- ITS FALSE NEIGHBOUR: 'it returns false'. Refute it at one input. -/
def fnExactDelayWaveWrong : ChangeSpec := { name := "fnExactDelayWave", fn := fun _ => fun
  | [d1, d2] => { results := [.lit (.bool false)], args := [d1, d2] }
  | _ => none }
def FnExactDelayWaveWrongFalsely : Prop := fnExactDelayWaveRow.holds Tryd.pinned (OpenSpec.ofChange fnExactDelayWaveWrong)

/-- 'laws.FnExactPulsesOf': WHATEVER THE INPUT: true; the input reads as it did. -/
def fnExactPulsesOfSpec : ChangeSpec := { name := "fnExactPulsesOf", fn := fun _ => fun
  | [d] => { results := [.lit (.bool true)], args := [d] }
  | _ => none }
def fnExactPulsesOfRow : OpenClaim := { program := "ytkhkmdddflaolaadoor", sum := "f5eda1d18b9e81b294d6dcb0f14f64ff5244c332be0f62603b2e1eda2e83958e", func := "loop.example/g01153/laws.FnExactPulsesOf", spec := "fnExactPulsesOf", inPlace := ["internal/bytealg.IndexByteString", "internal/bytealg.IndexString", "internal/bytealg.CountString"], named := ["unicode/utf8.first", "unicode/utf8.acceptRanges", "internal/bytealg.MaxLen"], apart := false, laid := [("unicode/utf8.acceptRanges", laid_unicode_utf8_acceptRanges), ("unicode/utf8.first", laid_unicode_utf8_first)] }
def FnExactPulsesOfSaid : Prop := fnExactPulsesOfRow.holds Tryd.pinned (OpenSpec.ofChange fnExactPulsesOfSpec)

/-- ITS FALSE NEIGHBOUR: 'it returns false'. Refute it at one input. -/
def fnExactPulsesOfWrong : ChangeSpec := { name := "fnExactPulsesOf", fn := fun _ => fun
  | [d] => { results := [.lit (.bool false)], args := [d] }
  | _ => none }
def FnExactPulsesOfWrongFalsely : Prop := fnExactPulsesOfRow.holds Tryd.pinned (OpenSpec.ofChange fnExactPulsesOfWrong)

/-- 'laws.FnExactGapsOf': WHATEVER THE INPUT: true; the input reads as it did. -/
def fnExactGapsOfSpec : ChangeSpec := { name := "fnExactGapsOf", fn := fun _ => fun
  | [d] => { results := [.lit (.bool true)], args := [d] }
  | _ => none }
def fnExactGapsOfRow : OpenClaim := { program := "ytkhkmdddflaolaadoor", sum := "f5eda1d18b9e81b294d6dcb0f14f64ff5244c332be0f62603b2e1eda2e83958e", func := "loop.example/g01153/laws.FnExactGapsOf", spec := "fnExactGapsOf", inPlace := ["internal/bytealg.IndexByteString", "internal/bytealg.IndexString", "internal/bytealg.CountString"], named := ["unicode/utf8.first", "unicode/utf8.acceptRanges", "internal/bytealg.MaxLen"], apart := false, laid := [("unicode/utf8.acceptRanges", laid_unicode_utf8_acceptRanges), ("unicode/utf8.first", laid_unicode_utf8_first)] }
def FnExactGapsOfSaid : Prop := fnExactGapsOfRow.holds Tryd.pinned (OpenSpec.ofChange fnExactGapsOfSpec)

/-- ITS FALSE NEIGHBOUR: 'it returns false'. Refute it at one input. -/
def fnExactGapsOfWrong : ChangeSpec := { name := "fnExactGapsOf", fn := fun _ => fun
  | [d] => { results := [.lit (.bool false)], args := [d] }
  | _ => none }
def FnExactGapsOfWrongFalsely : Prop := fnExactGapsOfRow.holds Tryd.pinned (OpenSpec.ofChange fnExactGapsOfWrong)

/-- 'laws.FnJoined': WHATEVER THE INPUT: true; the input reads as it did. -/
def fnJoinedSpec : ChangeSpec := { name := "fnJoined", fn := fun _ => fun
  | [d1, d2] => { results := [.lit (.bool true)], args := [d1, d2] }
  | _ => none }
def fnJoinedRow : OpenClaim := { program := "ytkhkmdddflaolaadoor", sum := "f5eda1d18b9e81b294d6dcb0f14f64ff5244c332be0f62603b2e1eda2e83958e", func := "loop.example/g01153/laws.FnJoined", spec := "fnJoined", inPlace := ["internal/bytealg.IndexByteString", "internal/bytealg.IndexString", "internal/abi.NoEscape", "internal/bytealg.MakeNoZero"], unfollowed := true, recurses := true, named := ["unicode/utf8.first", "unicode/utf8.acceptRanges", "internal/bytealg.MaxLen"], apart := false, laid := [("unicode/utf8.acceptRanges", laid_unicode_utf8_acceptRanges), ("unicode/utf8.first", laid_unicode_utf8_first)] }
def FnJoinedSaid : Prop := fnJoinedRow.holds Tryd.pinned (OpenSpec.ofChange fnJoinedSpec)

/-- ITS FALSE NEIGHBOUR: 'it returns false'. Refute it at one input. -/
def fnJoinedWrong : ChangeSpec := { name := "fnJoined", fn := fun _ => fun
  | [d1, d2] => { results := [.lit (.bool false)], args := [d1, d2] }
  | _ => none }
def FnJoinedWrongFalsely : Prop := fnJoinedRow.holds Tryd.pinned (OpenSpec.ofChange fnJoinedWrong)

/- THE SECOND FORM. 'bulk': how many values and letters a reading holds, each counted each time it is reached (what is shared counts as often as it is met; a slice's spare places count too). A statement '..UptoSaid' is the law's where the arguments, and the package variables that the reading takes, are together of bulk at most 1048576: NARROWER than '..Said'. Prove '..Said' where nothing that the law and all that it calls make is longer than what came in: it says more and counts as full. Else prove '..UptoSaid'. A law counts once. -/
mutual
def uptoBulk {H : Type} : DataW H → Nat
  | .lit (.string bytes) => bytes.length + 1
  | .lit _ => 1
  | .nil => 1
  | .ptr d => uptoBulk d + 1
  | .slice elems spare => uptoBulkAll elems + uptoBulkAll spare + 1
  | .agg parts => uptoBulkAll parts + 1
  | .iface _ d => uptoBulk d + 1
  | .map entries => uptoBulkEntries entries + 1
  | .held _ => 1
def uptoBulkAll {H : Type} : List (DataW H) → Nat
  | [] => 0
  | d :: r => uptoBulk d + uptoBulkAll r
def uptoBulkEntries {H : Type} : List (Lit × DataW H) → Nat
  | [] => 0
  | x :: r => uptoBulkEntry x + uptoBulkEntries r
def uptoBulkEntry {H : Type} : Lit × DataW H → Nat
  | (.string bytes, d) => bytes.length + uptoBulk d + 1
  | (_, d) => uptoBulk d + 1
 end
def uptoSmall : (H : Type) → List (DataW H) → Bool := fun _ ds => decide (uptoBulkAll ds ≤ 1048576)
def OpenSpec.upto (s : _root_.Go.ChangeSpec) : _root_.Go.OpenSpec := { _root_.Go.OpenSpec.ofChange s with cond := some uptoSmall }

/-- 'laws.FnExactIsWave', WHERE WHAT IT READS IS OF BULK AT MOST 1048576: true; the input reads as it did. -/
def fnExactIsWaveUptoRow : OpenClaim := { program := "ytkhkmdddflaolaadoor", sum := "f5eda1d18b9e81b294d6dcb0f14f64ff5244c332be0f62603b2e1eda2e83958e", func := "loop.example/g01153/laws.FnExactIsWave", spec := "fnExactIsWave", inPlace := ["internal/bytealg.IndexByteString", "internal/bytealg.IndexString"], named := ["unicode/utf8.first", "unicode/utf8.acceptRanges", "internal/bytealg.MaxLen"], apart := false, laid := [("unicode/utf8.acceptRanges", laid_unicode_utf8_acceptRanges), ("unicode/utf8.first", laid_unicode_utf8_first)], narrowed := true }
def FnExactIsWaveUptoSaid : Prop := fnExactIsWaveUptoRow.holds Tryd.pinned (OpenSpec.upto fnExactIsWaveSpec)

/-- 'laws.FnExactIsName', WHERE WHAT IT READS IS OF BULK AT MOST 1048576: true; the input reads as it did. -/
def fnExactIsNameUptoRow : OpenClaim := { program := "ytkhkmdddflaolaadoor", sum := "f5eda1d18b9e81b294d6dcb0f14f64ff5244c332be0f62603b2e1eda2e83958e", func := "loop.example/g01153/laws.FnExactIsName", spec := "fnExactIsName", inPlace := ["internal/bytealg.IndexByteString", "internal/bytealg.IndexString"], named := ["unicode/utf8.first", "unicode/utf8.acceptRanges", "internal/bytealg.MaxLen"], apart := false, laid := [("unicode/utf8.acceptRanges", laid_unicode_utf8_acceptRanges), ("unicode/utf8.first", laid_unicode_utf8_first)], narrowed := true }
def FnExactIsNameUptoSaid : Prop := fnExactIsNameUptoRow.holds Tryd.pinned (OpenSpec.upto fnExactIsNameSpec)

/-- 'laws.FnExactNotWave', WHERE WHAT IT READS IS OF BULK AT MOST 1048576: true; the input reads as it did. -/
def fnExactNotWaveUptoRow : OpenClaim := { program := "ytkhkmdddflaolaadoor", sum := "f5eda1d18b9e81b294d6dcb0f14f64ff5244c332be0f62603b2e1eda2e83958e", func := "loop.example/g01153/laws.FnExactNotWave", spec := "fnExactNotWave", inPlace := ["internal/bytealg.IndexByteString", "internal/bytealg.IndexString"], unfollowed := true, recurses := true, named := ["unicode/utf8.first", "unicode/utf8.acceptRanges", "internal/bytealg.MaxLen"], apart := false, laid := [("unicode/utf8.acceptRanges", laid_unicode_utf8_acceptRanges), ("unicode/utf8.first", laid_unicode_utf8_first)], narrowed := true }
def FnExactNotWaveUptoSaid : Prop := fnExactNotWaveUptoRow.holds Tryd.pinned (OpenSpec.upto fnExactNotWaveSpec)

/-- 'laws.FnExactWavePeriod', WHERE WHAT IT READS IS OF BULK AT MOST 1048576: true; the input reads as it did. -/
def fnExactWavePeriodUptoRow : OpenClaim := { program := "ytkhkmdddflaolaadoor", sum := "f5eda1d18b9e81b294d6dcb0f14f64ff5244c332be0f62603b2e1eda2e83958e", func := "loop.example/g01153/laws.FnExactWavePeriod", spec := "fnExactWavePeriod", inPlace := ["internal/bytealg.IndexByteString", "internal/bytealg.IndexString"], named := ["unicode/utf8.first", "unicode/utf8.acceptRanges", "internal/bytealg.MaxLen"], apart := false, laid := [("unicode/utf8.acceptRanges", laid_unicode_utf8_acceptRanges), ("unicode/utf8.first", laid_unicode_utf8_first)], narrowed := true }
def FnExactWavePeriodUptoSaid : Prop := fnExactWavePeriodUptoRow.holds Tryd.pinned (OpenSpec.upto fnExactWavePeriodSpec)

/-- 'laws.FnExactJoinWaves', WHERE WHAT IT READS IS OF BULK AT MOST 1048576: true; the input reads as it did. -/
def fnExactJoinWavesUptoRow : OpenClaim := { program := "ytkhkmdddflaolaadoor", sum := "f5eda1d18b9e81b294d6dcb0f14f64ff5244c332be0f62603b2e1eda2e83958e", func := "loop.example/g01153/laws.FnExactJoinWaves", spec := "fnExactJoinWaves", inPlace := ["internal/bytealg.IndexByteString", "internal/bytealg.IndexString"], unfollowed := true, recurses := true, named := ["unicode/utf8.first", "unicode/utf8.acceptRanges", "internal/bytealg.MaxLen"], apart := false, laid := [("unicode/utf8.acceptRanges", laid_unicode_utf8_acceptRanges), ("unicode/utf8.first", laid_unicode_utf8_first)], narrowed := true }
def FnExactJoinWavesUptoSaid : Prop := fnExactJoinWavesUptoRow.holds Tryd.pinned (OpenSpec.upto fnExactJoinWavesSpec)

/-- 'laws.FnExactDownsOf', WHERE WHAT IT READS IS OF BULK AT MOST 1048576: true; the input reads as it did. -/
def fnExactDownsOfUptoRow : OpenClaim := { program := "ytkhkmdddflaolaadoor", sum := "f5eda1d18b9e81b294d6dcb0f14f64ff5244c332be0f62603b2e1eda2e83958e", func := "loop.example/g01153/laws.FnExactDownsOf", spec := "fnExactDownsOf", inPlace := ["internal/bytealg.IndexByteString", "internal/bytealg.IndexString"], named := ["unicode/utf8.first", "unicode/utf8.acceptRanges", "internal/bytealg.MaxLen"], apart := false, laid := [("unicode/utf8.acceptRanges", laid_unicode_utf8_acceptRanges), ("unicode/utf8.first", laid_unicode_utf8_first)], narrowed := true }
def FnExactDownsOfUptoSaid : Prop := fnExactDownsOfUptoRow.holds Tryd.pinned (OpenSpec.upto fnExactDownsOfSpec)

/-- 'laws.FnExactUpsOf', WHERE WHAT IT READS IS OF BULK AT MOST 1048576: true; the input reads as it did. -/
def fnExactUpsOfUptoRow : OpenClaim := { program := "ytkhkmdddflaolaadoor", sum := "f5eda1d18b9e81b294d6dcb0f14f64ff5244c332be0f62603b2e1eda2e83958e", func := "loop.example/g01153/laws.FnExactUpsOf", spec := "fnExactUpsOf", inPlace := ["internal/bytealg.IndexByteString", "internal/bytealg.IndexString"], named := ["unicode/utf8.first", "unicode/utf8.acceptRanges", "internal/bytealg.MaxLen"], apart := false, laid := [("unicode/utf8.acceptRanges", laid_unicode_utf8_acceptRanges), ("unicode/utf8.first", laid_unicode_utf8_first)], narrowed := true }
def FnExactUpsOfUptoSaid : Prop := fnExactUpsOfUptoRow.holds Tryd.pinned (OpenSpec.upto fnExactUpsOfSpec)

/-- 'laws.FnExactRepeatWave', WHERE WHAT IT READS IS OF BULK AT MOST 1048576: true; the input reads as it did. -/
def fnExactRepeatWaveUptoRow : OpenClaim := { program := "ytkhkmdddflaolaadoor", sum := "f5eda1d18b9e81b294d6dcb0f14f64ff5244c332be0f62603b2e1eda2e83958e", func := "loop.example/g01153/laws.FnExactRepeatWave", spec := "fnExactRepeatWave", inPlace := ["internal/bytealg.IndexByteString", "internal/bytealg.IndexString", "internal/abi.NoEscape", "internal/bytealg.MakeNoZero"], named := ["unicode/utf8.first", "unicode/utf8.acceptRanges", "internal/bytealg.MaxLen"], apart := false, laid := [("unicode/utf8.acceptRanges", laid_unicode_utf8_acceptRanges), ("unicode/utf8.first", laid_unicode_utf8_first)], narrowed := true }
def FnExactRepeatWaveUptoSaid : Prop := fnExactRepeatWaveUptoRow.holds Tryd.pinned (OpenSpec.upto fnExactRepeatWaveSpec)

/-- 'laws.FnExactDelayWave', WHERE WHAT IT READS IS OF BULK AT MOST 1048576: true; the input reads as it did. -/
def fnExactDelayWaveUptoRow : OpenClaim := { program := "ytkhkmdddflaolaadoor", sum := "f5eda1d18b9e81b294d6dcb0f14f64ff5244c332be0f62603b2e1eda2e83958e", func := "loop.example/g01153/laws.FnExactDelayWave", spec := "fnExactDelayWave", inPlace := ["internal/bytealg.IndexByteString", "internal/bytealg.IndexString", "internal/abi.NoEscape", "internal/bytealg.MakeNoZero"], named := ["unicode/utf8.first", "unicode/utf8.acceptRanges", "internal/bytealg.MaxLen"], apart := false, laid := [("unicode/utf8.acceptRanges", laid_unicode_utf8_acceptRanges), ("unicode/utf8.first", laid_unicode_utf8_first)], narrowed := true }
def FnExactDelayWaveUptoSaid : Prop := fnExactDelayWaveUptoRow.holds Tryd.pinned (OpenSpec.upto fnExactDelayWaveSpec)

/-- 'laws.FnExactPulsesOf', WHERE WHAT IT READS IS OF BULK AT MOST 1048576: true; the input reads as it did. -/
def fnExactPulsesOfUptoRow : OpenClaim := { program := "ytkhkmdddflaolaadoor", sum := "f5eda1d18b9e81b294d6dcb0f14f64ff5244c332be0f62603b2e1eda2e83958e", func := "loop.example/g01153/laws.FnExactPulsesOf", spec := "fnExactPulsesOf", inPlace := ["internal/bytealg.IndexByteString", "internal/bytealg.IndexString", "internal/bytealg.CountString"], named := ["unicode/utf8.first", "unicode/utf8.acceptRanges", "internal/bytealg.MaxLen"], apart := false, laid := [("unicode/utf8.acceptRanges", laid_unicode_utf8_acceptRanges), ("unicode/utf8.first", laid_unicode_utf8_first)], narrowed := true }
def FnExactPulsesOfUptoSaid : Prop := fnExactPulsesOfUptoRow.holds Tryd.pinned (OpenSpec.upto fnExactPulsesOfSpec)

/-- 'laws.FnExactGapsOf', WHERE WHAT IT READS IS OF BULK AT MOST 1048576: true; the input reads as it did. -/
def fnExactGapsOfUptoRow : OpenClaim := { program := "ytkhkmdddflaolaadoor", sum := "f5eda1d18b9e81b294d6dcb0f14f64ff5244c332be0f62603b2e1eda2e83958e", func := "loop.example/g01153/laws.FnExactGapsOf", spec := "fnExactGapsOf", inPlace := ["internal/bytealg.IndexByteString", "internal/bytealg.IndexString", "internal/bytealg.CountString"], named := ["unicode/utf8.first", "unicode/utf8.acceptRanges", "internal/bytealg.MaxLen"], apart := false, laid := [("unicode/utf8.acceptRanges", laid_unicode_utf8_acceptRanges), ("unicode/utf8.first", laid_unicode_utf8_first)], narrowed := true }
def FnExactGapsOfUptoSaid : Prop := fnExactGapsOfUptoRow.holds Tryd.pinned (OpenSpec.upto fnExactGapsOfSpec)

/-- 'laws.FnJoined', WHERE WHAT IT READS IS OF BULK AT MOST 1048576: true; the input reads as it did. -/
def fnJoinedUptoRow : OpenClaim := { program := "ytkhkmdddflaolaadoor", sum := "f5eda1d18b9e81b294d6dcb0f14f64ff5244c332be0f62603b2e1eda2e83958e", func := "loop.example/g01153/laws.FnJoined", spec := "fnJoined", inPlace := ["internal/bytealg.IndexByteString", "internal/bytealg.IndexString", "internal/abi.NoEscape", "internal/bytealg.MakeNoZero"], unfollowed := true, recurses := true, named := ["unicode/utf8.first", "unicode/utf8.acceptRanges", "internal/bytealg.MaxLen"], apart := false, laid := [("unicode/utf8.acceptRanges", laid_unicode_utf8_acceptRanges), ("unicode/utf8.first", laid_unicode_utf8_first)], narrowed := true }
def FnJoinedUptoSaid : Prop := fnJoinedUptoRow.holds Tryd.pinned (OpenSpec.upto fnJoinedSpec)

end Rows
end Go.Proofs.YtkhkmdddflaolaaDoor
