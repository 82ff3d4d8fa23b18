/-
  DERIVED. GIVEN WITH THE SEED: THE CARDS: each row of YtkhkmdddflaolaaDoorRows.lean that lists a variable, with what it lists TIED to the program's text (the seventh form; the later family's looks); each row that meets fmt, with fmt's text TOLD by the authors' own Lean function (tested against real Go, not proved from fmt's source: count such statements apart). THE CARD IS WHAT COUNTS. Prove the row's statement (the work); the ties are given (YtkhkmdddflaolaaDoorTie.lean); close each card by the builder's one call (the guide's Derived/Test/ToyasCard.lean, 'card_holds'). Laid BY PROGRAM, IN A SANDBOX (cutbox-door.mjs). By AI agents, Wed Nov 11 2026. No macro, syntax, notation, axiom, sorry.
-/
import Derived.Test.YtkhkmdddflaolaaDoorRows
import GoSem.ClaimSeven
namespace Go.Proofs.YtkhkmdddflaolaaDoor
namespace Rows

/-- THE TIED CARD OF 'laws.FnExactIsWave'. -/
def fnExactIsWaveCard : Claim7 := { stood := { row := fnExactIsWaveRow, standIns := [], harness := (true, "45f624f75e20852f5858d5609ea011ffa96444d3650aeccb07fc169d7463e4b6"), looks := false }, kinds := [], alts := [], laidByText := true, laidKinds := [.data, .pinned], laidTests := true, laidLooks := .later }
def FnExactIsWaveCardSaid : Prop := Claim7.holds Tryd.pinned (.plain (OpenSpec.ofChange fnExactIsWaveSpec)) fnExactIsWaveCard

/-- THE TIED CARD OF 'laws.FnExactIsName'. -/
def fnExactIsNameCard : Claim7 := { stood := { row := fnExactIsNameRow, standIns := [], harness := (true, "45f624f75e20852f5858d5609ea011ffa96444d3650aeccb07fc169d7463e4b6"), looks := false }, kinds := [], alts := [], laidByText := true, laidKinds := [.data, .pinned], laidTests := true, laidLooks := .later }
def FnExactIsNameCardSaid : Prop := Claim7.holds Tryd.pinned (.plain (OpenSpec.ofChange fnExactIsNameSpec)) fnExactIsNameCard

/-- THE TIED CARD OF 'laws.FnExactNotWave'. -/
def fnExactNotWaveCard : Claim7 := { stood := { row := fnExactNotWaveRow, standIns := [], harness := (true, "45f624f75e20852f5858d5609ea011ffa96444d3650aeccb07fc169d7463e4b6"), looks := false }, kinds := [], alts := [], laidByText := true, laidKinds := [.data, .pinned], laidTests := true, laidLooks := .later }
def FnExactNotWaveCardSaid : Prop := Claim7.holds Tryd.pinned (.plain (OpenSpec.ofChange fnExactNotWaveSpec)) fnExactNotWaveCard

/-- THE TIED CARD OF 'laws.FnExactWavePeriod'. -/
def fnExactWavePeriodCard : Claim7 := { stood := { row := fnExactWavePeriodRow, standIns := [], harness := (true, "45f624f75e20852f5858d5609ea011ffa96444d3650aeccb07fc169d7463e4b6"), looks := false }, kinds := [], alts := [], laidByText := true, laidKinds := [.data, .pinned], laidTests := true, laidLooks := .later }
def FnExactWavePeriodCardSaid : Prop := Claim7.holds Tryd.pinned (.plain (OpenSpec.ofChange fnExactWavePeriodSpec)) fnExactWavePeriodCard

/-- THE TIED CARD OF 'laws.FnExactJoinWaves'. -/
def fnExactJoinWavesCard : Claim7 := { stood := { row := fnExactJoinWavesRow, standIns := [], harness := (true, "45f624f75e20852f5858d5609ea011ffa96444d3650aeccb07fc169d7463e4b6"), looks := false }, kinds := [], alts := [], laidByText := true, laidKinds := [.data, .pinned], laidTests := true, laidLooks := .later }
def FnExactJoinWavesCardSaid : Prop := Claim7.holds Tryd.pinned (.plain (OpenSpec.ofChange fnExactJoinWavesSpec)) fnExactJoinWavesCard

/-- THE TIED CARD OF 'laws.FnExactDownsOf'. -/
def fnExactDownsOfCard : Claim7 := { stood := { row := fnExactDownsOfRow, standIns := [], harness := (true, "45f624f75e20852f5858d5609ea011ffa96444d3650aeccb07fc169d7463e4b6"), looks := false }, kinds := [], alts := [], laidByText := true, laidKinds := [.data, .pinned], laidTests := true, laidLooks := .later }
def FnExactDownsOfCardSaid : Prop := Claim7.holds Tryd.pinned (.plain (OpenSpec.ofChange fnExactDownsOfSpec)) fnExactDownsOfCard

/-- THE TIED CARD OF 'laws.FnExactUpsOf'. -/
def fnExactUpsOfCard : Claim7 := { stood := { row := fnExactUpsOfRow, standIns := [], harness := (true, "45f624f75e20852f5858d5609ea011ffa96444d3650aeccb07fc169d7463e4b6"), looks := false }, kinds := [], alts := [], laidByText := true, laidKinds := [.data, .pinned], laidTests := true, laidLooks := .later }
def FnExactUpsOfCardSaid : Prop := Claim7.holds Tryd.pinned (.plain (OpenSpec.ofChange fnExactUpsOfSpec)) fnExactUpsOfCard

/-- THE TIED CARD OF 'laws.FnExactRepeatWave'. -/
def fnExactRepeatWaveCard : Claim7 := { stood := { row := fnExactRepeatWaveRow, standIns := [], harness := (true, "45f624f75e20852f5858d5609ea011ffa96444d3650aeccb07fc169d7463e4b6"), looks := false }, kinds := [], alts := [], laidByText := true, laidKinds := [.data, .pinned], laidTests := true, laidLooks := .later }
def FnExactRepeatWaveCardSaid : Prop := Claim7.holds Tryd.pinned (.plain (OpenSpec.ofChange fnExactRepeatWaveSpec)) fnExactRepeatWaveCard

/-- THE TIED CARD OF 'laws.FnExactDelayWave'. -/
def fnExactDelayWaveCard : Claim7 := { stood := { row := fnExactDelayWaveRow, standIns := [], harness := (true, "45f624f75e20852f5858d5609ea011ffa96444d3650aeccb07fc169d7463e4b6"), looks := false }, kinds := [], alts := [], laidByText := true, laidKinds := [.data, .pinned], laidTests := true, laidLooks := .later }
def FnExactDelayWaveCardSaid : Prop := Claim7.holds Tryd.pinned (.plain (OpenSpec.ofChange fnExactDelayWaveSpec)) fnExactDelayWaveCard

/-- THE TIED CARD OF 'laws.FnExactPulsesOf'. -/
def fnExactPulsesOfCard : Claim7 := { stood := { row := fnExactPulsesOfRow, standIns := [], harness := (true, "45f624f75e20852f5858d5609ea011ffa96444d3650aeccb07fc169d7463e4b6"), looks := false }, kinds := [], alts := [], laidByText := true, laidKinds := [.data, .pinned], laidTests := true, laidLooks := .later }
def FnExactPulsesOfCardSaid : Prop := Claim7.holds Tryd.pinned (.plain (OpenSpec.ofChange fnExactPulsesOfSpec)) fnExactPulsesOfCard

/-- THE TIED CARD OF 'laws.FnExactGapsOf'. -/
def fnExactGapsOfCard : Claim7 := { stood := { row := fnExactGapsOfRow, standIns := [], harness := (true, "45f624f75e20852f5858d5609ea011ffa96444d3650aeccb07fc169d7463e4b6"), looks := false }, kinds := [], alts := [], laidByText := true, laidKinds := [.data, .pinned], laidTests := true, laidLooks := .later }
def FnExactGapsOfCardSaid : Prop := Claim7.holds Tryd.pinned (.plain (OpenSpec.ofChange fnExactGapsOfSpec)) fnExactGapsOfCard

/-- THE TIED CARD OF 'laws.FnJoined'. -/
def fnJoinedCard : Claim7 := { stood := { row := fnJoinedRow, standIns := [], harness := (true, "45f624f75e20852f5858d5609ea011ffa96444d3650aeccb07fc169d7463e4b6"), looks := false }, kinds := [], alts := [], laidByText := true, laidKinds := [.data, .pinned], laidTests := true, laidLooks := .later }
def FnJoinedCardSaid : Prop := Claim7.holds Tryd.pinned (.plain (OpenSpec.ofChange fnJoinedSpec)) fnJoinedCard

/-- THE SECOND FORM's CARD OF 'laws.FnExactIsWave'. -/
def fnExactIsWaveUptoCard : Claim7 := { stood := { row := fnExactIsWaveUptoRow, standIns := [], harness := (true, "45f624f75e20852f5858d5609ea011ffa96444d3650aeccb07fc169d7463e4b6"), looks := false }, kinds := [], alts := [], laidByText := true, laidKinds := [.data, .pinned], laidTests := true, laidLooks := .later }
def FnExactIsWaveUptoCardSaid : Prop := Claim7.holds Tryd.pinned (.plain (OpenSpec.upto fnExactIsWaveSpec)) fnExactIsWaveUptoCard

/-- THE SECOND FORM's CARD OF 'laws.FnExactIsName'. -/
def fnExactIsNameUptoCard : Claim7 := { stood := { row := fnExactIsNameUptoRow, standIns := [], harness := (true, "45f624f75e20852f5858d5609ea011ffa96444d3650aeccb07fc169d7463e4b6"), looks := false }, kinds := [], alts := [], laidByText := true, laidKinds := [.data, .pinned], laidTests := true, laidLooks := .later }
def FnExactIsNameUptoCardSaid : Prop := Claim7.holds Tryd.pinned (.plain (OpenSpec.upto fnExactIsNameSpec)) fnExactIsNameUptoCard

/-- THE SECOND FORM's CARD OF 'laws.FnExactNotWave'. -/
def fnExactNotWaveUptoCard : Claim7 := { stood := { row := fnExactNotWaveUptoRow, standIns := [], harness := (true, "45f624f75e20852f5858d5609ea011ffa96444d3650aeccb07fc169d7463e4b6"), looks := false }, kinds := [], alts := [], laidByText := true, laidKinds := [.data, .pinned], laidTests := true, laidLooks := .later }
def FnExactNotWaveUptoCardSaid : Prop := Claim7.holds Tryd.pinned (.plain (OpenSpec.upto fnExactNotWaveSpec)) fnExactNotWaveUptoCard

/-- THE SECOND FORM's CARD OF 'laws.FnExactWavePeriod'. -/
def fnExactWavePeriodUptoCard : Claim7 := { stood := { row := fnExactWavePeriodUptoRow, standIns := [], harness := (true, "45f624f75e20852f5858d5609ea011ffa96444d3650aeccb07fc169d7463e4b6"), looks := false }, kinds := [], alts := [], laidByText := true, laidKinds := [.data, .pinned], laidTests := true, laidLooks := .later }
def FnExactWavePeriodUptoCardSaid : Prop := Claim7.holds Tryd.pinned (.plain (OpenSpec.upto fnExactWavePeriodSpec)) fnExactWavePeriodUptoCard

/-- THE SECOND FORM's CARD OF 'laws.FnExactJoinWaves'. -/
def fnExactJoinWavesUptoCard : Claim7 := { stood := { row := fnExactJoinWavesUptoRow, standIns := [], harness := (true, "45f624f75e20852f5858d5609ea011ffa96444d3650aeccb07fc169d7463e4b6"), looks := false }, kinds := [], alts := [], laidByText := true, laidKinds := [.data, .pinned], laidTests := true, laidLooks := .later }
def FnExactJoinWavesUptoCardSaid : Prop := Claim7.holds Tryd.pinned (.plain (OpenSpec.upto fnExactJoinWavesSpec)) fnExactJoinWavesUptoCard

/-- THE SECOND FORM's CARD OF 'laws.FnExactDownsOf'. -/
def fnExactDownsOfUptoCard : Claim7 := { stood := { row := fnExactDownsOfUptoRow, standIns := [], harness := (true, "45f624f75e20852f5858d5609ea011ffa96444d3650aeccb07fc169d7463e4b6"), looks := false }, kinds := [], alts := [], laidByText := true, laidKinds := [.data, .pinned], laidTests := true, laidLooks := .later }
def FnExactDownsOfUptoCardSaid : Prop := Claim7.holds Tryd.pinned (.plain (OpenSpec.upto fnExactDownsOfSpec)) fnExactDownsOfUptoCard

/-- THE SECOND FORM's CARD OF 'laws.FnExactUpsOf'. -/
def fnExactUpsOfUptoCard : Claim7 := { stood := { row := fnExactUpsOfUptoRow, standIns := [], harness := (true, "45f624f75e20852f5858d5609ea011ffa96444d3650aeccb07fc169d7463e4b6"), looks := false }, kinds := [], alts := [], laidByText := true, laidKinds := [.data, .pinned], laidTests := true, laidLooks := .later }
def FnExactUpsOfUptoCardSaid : Prop := Claim7.holds Tryd.pinned (.plain (OpenSpec.upto fnExactUpsOfSpec)) fnExactUpsOfUptoCard

/-- THE SECOND FORM's CARD OF 'laws.FnExactRepeatWave'. -/
def fnExactRepeatWaveUptoCard : Claim7 := { stood := { row := fnExactRepeatWaveUptoRow, standIns := [], harness := (true, "45f624f75e20852f5858d5609ea011ffa96444d3650aeccb07fc169d7463e4b6"), looks := false }, kinds := [], alts := [], laidByText := true, laidKinds := [.data, .pinned], laidTests := true, laidLooks := .later }
def FnExactRepeatWaveUptoCardSaid : Prop := Claim7.holds Tryd.pinned (.plain (OpenSpec.upto fnExactRepeatWaveSpec)) fnExactRepeatWaveUptoCard

/-- THE SECOND FORM's CARD OF 'laws.FnExactDelayWave'. -/
def fnExactDelayWaveUptoCard : Claim7 := { stood := { row := fnExactDelayWaveUptoRow, standIns := [], harness := (true, "45f624f75e20852f5858d5609ea011ffa96444d3650aeccb07fc169d7463e4b6"), looks := false }, kinds := [], alts := [], laidByText := true, laidKinds := [.data, .pinned], laidTests := true, laidLooks := .later }
def FnExactDelayWaveUptoCardSaid : Prop := Claim7.holds Tryd.pinned (.plain (OpenSpec.upto fnExactDelayWaveSpec)) fnExactDelayWaveUptoCard

/-- THE SECOND FORM's CARD OF 'laws.FnExactPulsesOf'. -/
def fnExactPulsesOfUptoCard : Claim7 := { stood := { row := fnExactPulsesOfUptoRow, standIns := [], harness := (true, "45f624f75e20852f5858d5609ea011ffa96444d3650aeccb07fc169d7463e4b6"), looks := false }, kinds := [], alts := [], laidByText := true, laidKinds := [.data, .pinned], laidTests := true, laidLooks := .later }
def FnExactPulsesOfUptoCardSaid : Prop := Claim7.holds Tryd.pinned (.plain (OpenSpec.upto fnExactPulsesOfSpec)) fnExactPulsesOfUptoCard

/-- THE SECOND FORM's CARD OF 'laws.FnExactGapsOf'. -/
def fnExactGapsOfUptoCard : Claim7 := { stood := { row := fnExactGapsOfUptoRow, standIns := [], harness := (true, "45f624f75e20852f5858d5609ea011ffa96444d3650aeccb07fc169d7463e4b6"), looks := false }, kinds := [], alts := [], laidByText := true, laidKinds := [.data, .pinned], laidTests := true, laidLooks := .later }
def FnExactGapsOfUptoCardSaid : Prop := Claim7.holds Tryd.pinned (.plain (OpenSpec.upto fnExactGapsOfSpec)) fnExactGapsOfUptoCard

/-- THE SECOND FORM's CARD OF 'laws.FnJoined'. -/
def fnJoinedUptoCard : Claim7 := { stood := { row := fnJoinedUptoRow, standIns := [], harness := (true, "45f624f75e20852f5858d5609ea011ffa96444d3650aeccb07fc169d7463e4b6"), looks := false }, kinds := [], alts := [], laidByText := true, laidKinds := [.data, .pinned], laidTests := true, laidLooks := .later }
def FnJoinedUptoCardSaid : Prop := Claim7.holds Tryd.pinned (.plain (OpenSpec.upto fnJoinedSpec)) fnJoinedUptoCard
end Rows
end Go.Proofs.YtkhkmdddflaolaaDoor
