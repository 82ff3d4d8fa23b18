/-
  No cell of these rows narrows 'for every input' (looked for: loops, veiled, ifaces, maps, wideKeys, modest, calm, conditions, laid).
  DERIVED. THE GIVEN ROWS OF THIS SEAT. 12 by the template 'for every input the law returns true; each argument reads behind the call as it read before'; 0 by the template 'total and deterministic' (their statements: YtbfbihgahkgllaaTotals.lean).
  GIVEN WITH THE SEED: the statements are not yours to turn. If you find one false, say at which input.
  Laid BY PROGRAM, IN A SANDBOX (cutbox-rows.mjs): the forced cells as the released guide's own fill.sh prints them over the translation a1dc20858145a3ba… (all of the seat's roots in one cut). By AI agents, Wed Nov 11 2026. No macro, syntax, notation, axiom, sorry.
-/
import Derived.Test.YtbfbihgahkgllaaChecked
import GoSem.Claim
import GoSem.ClaimJoined
import GoSem.ClaimMapViews
import Derived.JoinedTies
import Derived.KernelRfl
namespace Go.Proofs.Ytbfbihgahkgllaa
/- THE CELL 'sum', in the pinned program and in every row, IS THE sha256 OF THE DUMP (.gsa) THAT YtbfbihgahkgllaaProg.lean LOADS. Nothing in Lean hashes anything: it is a label: what it is worth is what the hold of that sum in a sandbox is worth. -/
noncomputable def Try.pinned : Pinned := { name := "ytbfbihgahkgllaa", sum := "a1dc20858145a3ba5a07fd795347a4bf8606b0e35a3da8de8f391946f458e2e7", checked := Try.checked }
namespace Rows
def none {H : Type} : Left H := { results := [], args := [] }

/-- 'laws.FnExactValidDivider': WHATEVER THE INPUT: true; the input reads as it did. -/
def fnExactValidDividerSpec : ChangeSpec := { name := "fnExactValidDivider", fn := fun _ => fun
  | [d] => { results := [.lit (.bool true)], args := [d] }
  | _ => none }
def fnExactValidDividerRow : OpenClaim := { program := "ytbfbihgahkgllaa", sum := "a1dc20858145a3ba5a07fd795347a4bf8606b0e35a3da8de8f391946f458e2e7", func := "loop.example/g01153/laws.FnExactValidDivider", spec := "fnExactValidDivider", apart := false }
def FnExactValidDividerSaid : Prop := fnExactValidDividerRow.holds Try.pinned (OpenSpec.ofChange fnExactValidDividerSpec)

/-- ITS FALSE NEIGHBOUR: 'it returns false'. Refute it at one input. -/
def fnExactValidDividerWrong : ChangeSpec := { name := "fnExactValidDivider", fn := fun _ => fun
  | [d] => { results := [.lit (.bool false)], args := [d] }
  | _ => none }
def FnExactValidDividerWrongFalsely : Prop := fnExactValidDividerRow.holds Try.pinned (OpenSpec.ofChange fnExactValidDividerWrong)

/-- 'laws.FnExactGapRange': WHATEVER THE INPUT: true; the input reads as it did. -/
def fnExactGapRangeSpec : ChangeSpec := { name := "fnExactGapRange", fn := fun _ => fun
  | [d1, d2] => { results := [.lit (.bool true)], args := [d1, d2] }
  | _ => none }
def fnExactGapRangeRow : OpenClaim := { program := "ytbfbihgahkgllaa", sum := "a1dc20858145a3ba5a07fd795347a4bf8606b0e35a3da8de8f391946f458e2e7", func := "loop.example/g01153/laws.FnExactGapRange", spec := "fnExactGapRange", apart := false }
def FnExactGapRangeSaid : Prop := fnExactGapRangeRow.holds Try.pinned (OpenSpec.ofChange fnExactGapRangeSpec)

/-- ITS FALSE NEIGHBOUR: 'it returns false'. Refute it at one input. -/
def fnExactGapRangeWrong : ChangeSpec := { name := "fnExactGapRange", fn := fun _ => fun
  | [d1, d2] => { results := [.lit (.bool false)], args := [d1, d2] }
  | _ => none }
def FnExactGapRangeWrongFalsely : Prop := fnExactGapRangeRow.holds Try.pinned (OpenSpec.ofChange fnExactGapRangeWrong)

/-- 'laws.FnExactReflectedOf': WHATEVER THE INPUT: true; the input reads as it did. -/
def fnExactReflectedOfSpec : ChangeSpec := { name := "fnExactReflectedOf", fn := fun _ => fun
  | [d1, d2] => { results := [.lit (.bool true)], args := [d1, d2] }
  | _ => none }
def fnExactReflectedOfRow : OpenClaim := { program := "ytbfbihgahkgllaa", sum := "a1dc20858145a3ba5a07fd795347a4bf8606b0e35a3da8de8f391946f458e2e7", func := "loop.example/g01153/laws.FnExactReflectedOf", spec := "fnExactReflectedOf", apart := false }
def FnExactReflectedOfSaid : Prop := fnExactReflectedOfRow.holds Try.pinned (OpenSpec.ofChange fnExactReflectedOfSpec)

/-- ITS FALSE NEIGHBOUR: 'it returns false'. Refute it at one input. -/
def fnExactReflectedOfWrong : ChangeSpec := { name := "fnExactReflectedOf", fn := fun _ => fun
  | [d1, d2] => { results := [.lit (.bool false)], args := [d1, d2] }
  | _ => none }
def FnExactReflectedOfWrongFalsely : Prop := fnExactReflectedOfRow.holds Try.pinned (OpenSpec.ofChange fnExactReflectedOfWrong)

/-- 'laws.FnExactCheckOf': WHATEVER THE INPUT: true; the input reads as it did. -/
def fnExactCheckOfSpec : ChangeSpec := { name := "fnExactCheckOf", fn := fun _ => fun
  | [d1, d2] => { results := [.lit (.bool true)], args := [d1, d2] }
  | _ => none }
def fnExactCheckOfRow : OpenClaim := { program := "ytbfbihgahkgllaa", sum := "a1dc20858145a3ba5a07fd795347a4bf8606b0e35a3da8de8f391946f458e2e7", func := "loop.example/g01153/laws.FnExactCheckOf", spec := "fnExactCheckOf", apart := false }
def FnExactCheckOfSaid : Prop := fnExactCheckOfRow.holds Try.pinned (OpenSpec.ofChange fnExactCheckOfSpec)

/-- ITS FALSE NEIGHBOUR: 'it returns false'. Refute it at one input. -/
def fnExactCheckOfWrong : ChangeSpec := { name := "fnExactCheckOf", fn := fun _ => fun
  | [d1, d2] => { results := [.lit (.bool false)], args := [d1, d2] }
  | _ => none }
def FnExactCheckOfWrongFalsely : Prop := fnExactCheckOfRow.holds Try.pinned (OpenSpec.ofChange fnExactCheckOfWrong)

/-- 'laws.FnExactPulseTick': WHATEVER THE INPUT: true; the input reads as it did. -/
def fnExactPulseTickSpec : ChangeSpec := { name := "fnExactPulseTick", fn := fun _ => fun
  | [d1, d2, d3, d4] => { results := [.lit (.bool true)], args := [d1, d2, d3, d4] }
  | _ => none }
def fnExactPulseTickRow : OpenClaim := { program := "ytbfbihgahkgllaa", sum := "a1dc20858145a3ba5a07fd795347a4bf8606b0e35a3da8de8f391946f458e2e7", func := "loop.example/g01153/laws.FnExactPulseTick", spec := "fnExactPulseTick", apart := false }
def FnExactPulseTickSaid : Prop := fnExactPulseTickRow.holds Try.pinned (OpenSpec.ofChange fnExactPulseTickSpec)

/-- ITS FALSE NEIGHBOUR: 'it returns false'. Refute it at one input. -/
def fnExactPulseTickWrong : ChangeSpec := { name := "fnExactPulseTick", fn := fun _ => fun
  | [d1, d2, d3, d4] => { results := [.lit (.bool false)], args := [d1, d2, d3, d4] }
  | _ => none }
def FnExactPulseTickWrongFalsely : Prop := fnExactPulseTickRow.holds Try.pinned (OpenSpec.ofChange fnExactPulseTickWrong)

/-- 'laws.FnExactGcdOf': WHATEVER THE INPUT: true; the input reads as it did. -/
def fnExactGcdOfSpec : ChangeSpec := { name := "fnExactGcdOf", fn := fun _ => fun
  | [d1, d2] => { results := [.lit (.bool true)], args := [d1, d2] }
  | _ => none }
def fnExactGcdOfRow : OpenClaim := { program := "ytbfbihgahkgllaa", sum := "a1dc20858145a3ba5a07fd795347a4bf8606b0e35a3da8de8f391946f458e2e7", func := "loop.example/g01153/laws.FnExactGcdOf", spec := "fnExactGcdOf", apart := false }
def FnExactGcdOfSaid : Prop := fnExactGcdOfRow.holds Try.pinned (OpenSpec.ofChange fnExactGcdOfSpec)

/-- ITS FALSE NEIGHBOUR: 'it returns false'. Refute it at one input. -/
def fnExactGcdOfWrong : ChangeSpec := { name := "fnExactGcdOf", fn := fun _ => fun
  | [d1, d2] => { results := [.lit (.bool false)], args := [d1, d2] }
  | _ => none }
def FnExactGcdOfWrongFalsely : Prop := fnExactGcdOfRow.holds Try.pinned (OpenSpec.ofChange fnExactGcdOfWrong)

/-- 'laws.FnExactFromReflected': WHATEVER THE INPUT: true; the input reads as it did. -/
def fnExactFromReflectedSpec : ChangeSpec := { name := "fnExactFromReflected", fn := fun _ => fun
  | [d1, d2] => { results := [.lit (.bool true)], args := [d1, d2] }
  | _ => none }
def fnExactFromReflectedRow : OpenClaim := { program := "ytbfbihgahkgllaa", sum := "a1dc20858145a3ba5a07fd795347a4bf8606b0e35a3da8de8f391946f458e2e7", func := "loop.example/g01153/laws.FnExactFromReflected", spec := "fnExactFromReflected", apart := false }
def FnExactFromReflectedSaid : Prop := fnExactFromReflectedRow.holds Try.pinned (OpenSpec.ofChange fnExactFromReflectedSpec)

/-- ITS FALSE NEIGHBOUR: 'it returns false'. Refute it at one input. -/
def fnExactFromReflectedWrong : ChangeSpec := { name := "fnExactFromReflected", fn := fun _ => fun
  | [d1, d2] => { results := [.lit (.bool false)], args := [d1, d2] }
  | _ => none }
def FnExactFromReflectedWrongFalsely : Prop := fnExactFromReflectedRow.holds Try.pinned (OpenSpec.ofChange fnExactFromReflectedWrong)

/-- 'laws.FnExactValidFraction': WHATEVER THE INPUT: true; the input reads as it did. -/
def fnExactValidFractionSpec : ChangeSpec := { name := "fnExactValidFraction", fn := fun _ => fun
  | [d] => { results := [.lit (.bool true)], args := [d] }
  | _ => none }
def fnExactValidFractionRow : OpenClaim := { program := "ytbfbihgahkgllaa", sum := "a1dc20858145a3ba5a07fd795347a4bf8606b0e35a3da8de8f391946f458e2e7", func := "loop.example/g01153/laws.FnExactValidFraction", spec := "fnExactValidFraction", apart := false }
def FnExactValidFractionSaid : Prop := fnExactValidFractionRow.holds Try.pinned (OpenSpec.ofChange fnExactValidFractionSpec)

/-- ITS FALSE NEIGHBOUR: 'it returns false'. Refute it at one input. -/
def fnExactValidFractionWrong : ChangeSpec := { name := "fnExactValidFraction", fn := fun _ => fun
  | [d] => { results := [.lit (.bool false)], args := [d] }
  | _ => none }
def FnExactValidFractionWrongFalsely : Prop := fnExactValidFractionRow.holds Try.pinned (OpenSpec.ofChange fnExactValidFractionWrong)

/-- 'laws.FnExactLcmOf': WHATEVER THE INPUT: true; the input reads as it did. -/
def fnExactLcmOfSpec : ChangeSpec := { name := "fnExactLcmOf", fn := fun _ => fun
  | [d1, d2] => { results := [.lit (.bool true)], args := [d1, d2] }
  | _ => none }
def fnExactLcmOfRow : OpenClaim := { program := "ytbfbihgahkgllaa", sum := "a1dc20858145a3ba5a07fd795347a4bf8606b0e35a3da8de8f391946f458e2e7", func := "loop.example/g01153/laws.FnExactLcmOf", spec := "fnExactLcmOf", apart := false }
def FnExactLcmOfSaid : Prop := fnExactLcmOfRow.holds Try.pinned (OpenSpec.ofChange fnExactLcmOfSpec)

/-- ITS FALSE NEIGHBOUR: 'it returns false'. Refute it at one input. -/
def fnExactLcmOfWrong : ChangeSpec := { name := "fnExactLcmOf", fn := fun _ => fun
  | [d1, d2] => { results := [.lit (.bool false)], args := [d1, d2] }
  | _ => none }
def FnExactLcmOfWrongFalsely : Prop := fnExactLcmOfRow.holds Try.pinned (OpenSpec.ofChange fnExactLcmOfWrong)

/-- 'laws.FnRipples': WHATEVER THE INPUT: true; the input reads as it did. -/
def fnRipplesSpec : ChangeSpec := { name := "fnRipples", fn := fun _ => fun
  | [d1, d2] => { results := [.lit (.bool true)], args := [d1, d2] }
  | _ => none }
def fnRipplesRow : OpenClaim := { program := "ytbfbihgahkgllaa", sum := "a1dc20858145a3ba5a07fd795347a4bf8606b0e35a3da8de8f391946f458e2e7", func := "loop.example/g01153/laws.FnRipples", spec := "fnRipples", apart := false }
def FnRipplesSaid : Prop := fnRipplesRow.holds Try.pinned (OpenSpec.ofChange fnRipplesSpec)

/-- ITS FALSE NEIGHBOUR: 'it returns false'. Refute it at one input. -/
def fnRipplesWrong : ChangeSpec := { name := "fnRipples", fn := fun _ => fun
  | [d1, d2] => { results := [.lit (.bool false)], args := [d1, d2] }
  | _ => none }
def FnRipplesWrongFalsely : Prop := fnRipplesRow.holds Try.pinned (OpenSpec.ofChange fnRipplesWrong)

/-- 'laws.FnExactRippleStates': WHATEVER THE INPUT: true; the input reads as it did. -/
def fnExactRippleStatesSpec : ChangeSpec := { name := "fnExactRippleStates", fn := fun _ => fun
  | [d1, d2] => { results := [.lit (.bool true)], args := [d1, d2] }
  | _ => none }
def fnExactRippleStatesRow : OpenClaim := { program := "ytbfbihgahkgllaa", sum := "a1dc20858145a3ba5a07fd795347a4bf8606b0e35a3da8de8f391946f458e2e7", func := "loop.example/g01153/laws.FnExactRippleStates", spec := "fnExactRippleStates", apart := false }
def FnExactRippleStatesSaid : Prop := fnExactRippleStatesRow.holds Try.pinned (OpenSpec.ofChange fnExactRippleStatesSpec)

/-- ITS FALSE NEIGHBOUR: 'it returns false'. Refute it at one input. -/
def fnExactRippleStatesWrong : ChangeSpec := { name := "fnExactRippleStates", fn := fun _ => fun
  | [d1, d2] => { results := [.lit (.bool false)], args := [d1, d2] }
  | _ => none }
def FnExactRippleStatesWrongFalsely : Prop := fnExactRippleStatesRow.holds Try.pinned (OpenSpec.ofChange fnExactRippleStatesWrong)

/-- 'laws.FnExactSpikesOf': WHATEVER THE INPUT: true; the input reads as it did. -/
def fnExactSpikesOfSpec : ChangeSpec := { name := "fnExactSpikesOf", fn := fun _ => fun
  | [d1, d2] => { results := [.lit (.bool true)], args := [d1, d2] }
  | _ => none }
def fnExactSpikesOfRow : OpenClaim := { program := "ytbfbihgahkgllaa", sum := "a1dc20858145a3ba5a07fd795347a4bf8606b0e35a3da8de8f391946f458e2e7", func := "loop.example/g01153/laws.FnExactSpikesOf", spec := "fnExactSpikesOf", apart := false }
def FnExactSpikesOfSaid : Prop := fnExactSpikesOfRow.holds Try.pinned (OpenSpec.ofChange fnExactSpikesOfSpec)

/-- ITS FALSE NEIGHBOUR: 'it returns false'. Refute it at one input. -/
def fnExactSpikesOfWrong : ChangeSpec := { name := "fnExactSpikesOf", fn := fun _ => fun
  | [d1, d2] => { results := [.lit (.bool false)], args := [d1, d2] }
  | _ => none }
def FnExactSpikesOfWrongFalsely : Prop := fnExactSpikesOfRow.holds Try.pinned (OpenSpec.ofChange fnExactSpikesOfWrong)

/- THE SECOND FORM. 'bulk': how many values and letters a reading holds, each counted each time it is reached (what is shared counts as often as it is met; a slice's spare places count too). A statement '..UptoSaid' is the law's where the arguments, and the package variables that the reading takes, are together of bulk at most 1048576: NARROWER than '..Said'. Prove '..Said' where nothing that the law and all that it calls make is longer than what came in: it says more and counts as full. Else prove '..UptoSaid'. A law counts once. -/
mutual
def uptoBulk {H : Type} : DataW H → Nat
  | .lit (.string bytes) => bytes.length + 1
  | .lit _ => 1
  | .nil => 1
  | .ptr d => uptoBulk d + 1
  | .slice elems spare => uptoBulkAll elems + uptoBulkAll spare + 1
  | .agg parts => uptoBulkAll parts + 1
  | .iface _ d => uptoBulk d + 1
  | .map entries => uptoBulkEntries entries + 1
  | .held _ => 1
def uptoBulkAll {H : Type} : List (DataW H) → Nat
  | [] => 0
  | d :: r => uptoBulk d + uptoBulkAll r
def uptoBulkEntries {H : Type} : List (Lit × DataW H) → Nat
  | [] => 0
  | x :: r => uptoBulkEntry x + uptoBulkEntries r
def uptoBulkEntry {H : Type} : Lit × DataW H → Nat
  | (.string bytes, d) => bytes.length + uptoBulk d + 1
  | (_, d) => uptoBulk d + 1
 end
def uptoSmall : (H : Type) → List (DataW H) → Bool := fun _ ds => decide (uptoBulkAll ds ≤ 1048576)
def OpenSpec.upto (s : _root_.Go.ChangeSpec) : _root_.Go.OpenSpec := { _root_.Go.OpenSpec.ofChange s with cond := some uptoSmall }

/-- 'laws.FnExactValidDivider', WHERE WHAT IT READS IS OF BULK AT MOST 1048576: true; the input reads as it did. -/
def fnExactValidDividerUptoRow : OpenClaim := { program := "ytbfbihgahkgllaa", sum := "a1dc20858145a3ba5a07fd795347a4bf8606b0e35a3da8de8f391946f458e2e7", func := "loop.example/g01153/laws.FnExactValidDivider", spec := "fnExactValidDivider", apart := false, narrowed := true }
def FnExactValidDividerUptoSaid : Prop := fnExactValidDividerUptoRow.holds Try.pinned (OpenSpec.upto fnExactValidDividerSpec)

/-- 'laws.FnExactGapRange', WHERE WHAT IT READS IS OF BULK AT MOST 1048576: true; the input reads as it did. -/
def fnExactGapRangeUptoRow : OpenClaim := { program := "ytbfbihgahkgllaa", sum := "a1dc20858145a3ba5a07fd795347a4bf8606b0e35a3da8de8f391946f458e2e7", func := "loop.example/g01153/laws.FnExactGapRange", spec := "fnExactGapRange", apart := false, narrowed := true }
def FnExactGapRangeUptoSaid : Prop := fnExactGapRangeUptoRow.holds Try.pinned (OpenSpec.upto fnExactGapRangeSpec)

/-- 'laws.FnExactReflectedOf', WHERE WHAT IT READS IS OF BULK AT MOST 1048576: true; the input reads as it did. -/
def fnExactReflectedOfUptoRow : OpenClaim := { program := "ytbfbihgahkgllaa", sum := "a1dc20858145a3ba5a07fd795347a4bf8606b0e35a3da8de8f391946f458e2e7", func := "loop.example/g01153/laws.FnExactReflectedOf", spec := "fnExactReflectedOf", apart := false, narrowed := true }
def FnExactReflectedOfUptoSaid : Prop := fnExactReflectedOfUptoRow.holds Try.pinned (OpenSpec.upto fnExactReflectedOfSpec)

/-- 'laws.FnExactCheckOf', WHERE WHAT IT READS IS OF BULK AT MOST 1048576: true; the input reads as it did. -/
def fnExactCheckOfUptoRow : OpenClaim := { program := "ytbfbihgahkgllaa", sum := "a1dc20858145a3ba5a07fd795347a4bf8606b0e35a3da8de8f391946f458e2e7", func := "loop.example/g01153/laws.FnExactCheckOf", spec := "fnExactCheckOf", apart := false, narrowed := true }
def FnExactCheckOfUptoSaid : Prop := fnExactCheckOfUptoRow.holds Try.pinned (OpenSpec.upto fnExactCheckOfSpec)

/-- 'laws.FnExactPulseTick', WHERE WHAT IT READS IS OF BULK AT MOST 1048576: true; the input reads as it did. -/
def fnExactPulseTickUptoRow : OpenClaim := { program := "ytbfbihgahkgllaa", sum := "a1dc20858145a3ba5a07fd795347a4bf8606b0e35a3da8de8f391946f458e2e7", func := "loop.example/g01153/laws.FnExactPulseTick", spec := "fnExactPulseTick", apart := false, narrowed := true }
def FnExactPulseTickUptoSaid : Prop := fnExactPulseTickUptoRow.holds Try.pinned (OpenSpec.upto fnExactPulseTickSpec)

/-- 'laws.FnExactGcdOf', WHERE WHAT IT READS IS OF BULK AT MOST 1048576: true; the input reads as it did. -/
def fnExactGcdOfUptoRow : OpenClaim := { program := "ytbfbihgahkgllaa", sum := "a1dc20858145a3ba5a07fd795347a4bf8606b0e35a3da8de8f391946f458e2e7", func := "loop.example/g01153/laws.FnExactGcdOf", spec := "fnExactGcdOf", apart := false, narrowed := true }
def FnExactGcdOfUptoSaid : Prop := fnExactGcdOfUptoRow.holds Try.pinned (OpenSpec.upto fnExactGcdOfSpec)

/-- 'laws.FnExactFromReflected', WHERE WHAT IT READS IS OF BULK AT MOST 1048576: true; the input reads as it did. -/
def fnExactFromReflectedUptoRow : OpenClaim := { program := "ytbfbihgahkgllaa", sum := "a1dc20858145a3ba5a07fd795347a4bf8606b0e35a3da8de8f391946f458e2e7", func := "loop.example/g01153/laws.FnExactFromReflected", spec := "fnExactFromReflected", apart := false, narrowed := true }
def FnExactFromReflectedUptoSaid : Prop := fnExactFromReflectedUptoRow.holds Try.pinned (OpenSpec.upto fnExactFromReflectedSpec)

/-- 'laws.FnExactValidFraction', WHERE WHAT IT READS IS OF BULK AT MOST 1048576: true; the input reads as it did. -/
def fnExactValidFractionUptoRow : OpenClaim := { program := "ytbfbihgahkgllaa", sum := "a1dc20858145a3ba5a07fd795347a4bf8606b0e35a3da8de8f391946f458e2e7", func := "loop.example/g01153/laws.FnExactValidFraction", spec := "fnExactValidFraction", apart := false, narrowed := true }
def FnExactValidFractionUptoSaid : Prop := fnExactValidFractionUptoRow.holds Try.pinned (OpenSpec.upto fnExactValidFractionSpec)

/-- 'laws.FnExactLcmOf', WHERE WHAT IT READS IS OF BULK AT MOST 1048576: true; the input reads as it did. -/
def fnExactLcmOfUptoRow : OpenClaim := { program := "ytbfbihgahkgllaa", sum := "a1dc20858145a3ba5a07fd795347a4bf8606b0e35a3da8de8f391946f458e2e7", func := "loop.example/g01153/laws.FnExactLcmOf", spec := "fnExactLcmOf", apart := false, narrowed := true }
def FnExactLcmOfUptoSaid : Prop := fnExactLcmOfUptoRow.holds Try.pinned (OpenSpec.upto fnExactLcmOfSpec)

/-- 'laws.FnRipples', WHERE WHAT IT READS IS OF BULK AT MOST 1048576: true; the input reads as it did. -/
def fnRipplesUptoRow : OpenClaim := { program := "ytbfbihgahkgllaa", sum := "a1dc20858145a3ba5a07fd795347a4bf8606b0e35a3da8de8f391946f458e2e7", func := "loop.example/g01153/laws.FnRipples", spec := "fnRipples", apart := false, narrowed := true }
def FnRipplesUptoSaid : Prop := fnRipplesUptoRow.holds Try.pinned (OpenSpec.upto fnRipplesSpec)

/-- 'laws.FnExactRippleStates', WHERE WHAT IT READS IS OF BULK AT MOST 1048576: true; the input reads as it did. -/
def fnExactRippleStatesUptoRow : OpenClaim := { program := "ytbfbihgahkgllaa", sum := "a1dc20858145a3ba5a07fd795347a4bf8606b0e35a3da8de8f391946f458e2e7", func := "loop.example/g01153/laws.FnExactRippleStates", spec := "fnExactRippleStates", apart := false, narrowed := true }
def FnExactRippleStatesUptoSaid : Prop := fnExactRippleStatesUptoRow.holds Try.pinned (OpenSpec.upto fnExactRippleStatesSpec)

/-- 'laws.FnExactSpikesOf', WHERE WHAT IT READS IS OF BULK AT MOST 1048576: true; the input reads as it did. -/
def fnExactSpikesOfUptoRow : OpenClaim := { program := "ytbfbihgahkgllaa", sum := "a1dc20858145a3ba5a07fd795347a4bf8606b0e35a3da8de8f391946f458e2e7", func := "loop.example/g01153/laws.FnExactSpikesOf", spec := "fnExactSpikesOf", apart := false, narrowed := true }
def FnExactSpikesOfUptoSaid : Prop := fnExactSpikesOfUptoRow.holds Try.pinned (OpenSpec.upto fnExactSpikesOfSpec)

end Rows
end Go.Proofs.Ytbfbihgahkgllaa
