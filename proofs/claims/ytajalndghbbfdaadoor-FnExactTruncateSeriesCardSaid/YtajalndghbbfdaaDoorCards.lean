/-
  DERIVED. GIVEN WITH THE SEED: THE CARDS: each row of YtajalndghbbfdaaDoorRows.lean that lists a variable, with what it lists TIED to the program's text (the seventh form; the later family's looks); each row that meets fmt, with fmt's text TOLD by the authors' own Lean function (tested against real Go, not proved from fmt's source: count such statements apart). THE CARD IS WHAT COUNTS. Prove the row's statement (the work); the ties are given (YtajalndghbbfdaaDoorTie.lean); close each card by the builder's one call (the guide's Derived/Test/ToyasCard.lean, 'card_holds'). Laid BY PROGRAM, IN A SANDBOX (cutbox-door.mjs). By AI agents, Wed Nov 11 2026. No macro, syntax, notation, axiom, sorry.
-/
import Derived.Test.YtajalndghbbfdaaDoorRows
import GoSem.ClaimSeven
namespace Go.Proofs.YtajalndghbbfdaaDoor
namespace Rows

/-- THE TIED CARD OF 'laws.FnExactUnitSeries'. -/
def fnExactUnitSeriesCard : Claim7 := { stood := { row := fnExactUnitSeriesRow, standIns := [], harness := (true, "5767c568ea3391ba2b84c2645a0f52fd52bb8abdafdf73bb558594467cb11a7b"), looks := false }, kinds := [], alts := [], laidByText := true, laidKinds := [.data], laidTests := true, laidLooks := .later }
def FnExactUnitSeriesCardSaid : Prop := Claim7.holds Tryd.pinned (.plain (OpenSpec.ofChange fnExactUnitSeriesSpec)) fnExactUnitSeriesCard

/-- THE TIED CARD OF 'laws.FnExactSeriesOk'. -/
def fnExactSeriesOkCard : Claim7 := { stood := { row := fnExactSeriesOkRow, standIns := [], harness := (true, "5767c568ea3391ba2b84c2645a0f52fd52bb8abdafdf73bb558594467cb11a7b"), looks := false }, kinds := [], alts := [], laidByText := true, laidKinds := [.data], laidTests := true, laidLooks := .later }
def FnExactSeriesOkCardSaid : Prop := Claim7.holds Tryd.pinned (.plain (OpenSpec.ofChange fnExactSeriesOkSpec)) fnExactSeriesOkCard

/-- THE TIED CARD OF 'laws.FnExactCoefficientOf'. -/
def fnExactCoefficientOfCard : Claim7 := { stood := { row := fnExactCoefficientOfRow, standIns := [], harness := (true, "5767c568ea3391ba2b84c2645a0f52fd52bb8abdafdf73bb558594467cb11a7b"), looks := false }, kinds := [], alts := [], laidByText := true, laidKinds := [.data], laidTests := true, laidLooks := .later }
def FnExactCoefficientOfCardSaid : Prop := Claim7.holds Tryd.pinned (.plain (OpenSpec.ofChange fnExactCoefficientOfSpec)) fnExactCoefficientOfCard

/-- THE TIED CARD OF 'laws.FnExactTruncateSeries'. -/
def fnExactTruncateSeriesCard : Claim7 := { stood := { row := fnExactTruncateSeriesRow, standIns := [], harness := (true, "5767c568ea3391ba2b84c2645a0f52fd52bb8abdafdf73bb558594467cb11a7b"), looks := false }, kinds := [], alts := [], laidByText := true, laidKinds := [.data], laidTests := true, laidLooks := .later }
def FnExactTruncateSeriesCardSaid : Prop := Claim7.holds Tryd.pinned (.plain (OpenSpec.ofChange fnExactTruncateSeriesSpec)) fnExactTruncateSeriesCard

/-- THE TIED CARD OF 'laws.FnExactScaleSeries'. -/
def fnExactScaleSeriesCard : Claim7 := { stood := { row := fnExactScaleSeriesRow, standIns := [], harness := (true, "5767c568ea3391ba2b84c2645a0f52fd52bb8abdafdf73bb558594467cb11a7b"), looks := false }, kinds := [], alts := [], laidByText := true, laidKinds := [.data], laidTests := true, laidLooks := .later }
def FnExactScaleSeriesCardSaid : Prop := Claim7.holds Tryd.pinned (.plain (OpenSpec.ofChange fnExactScaleSeriesSpec)) fnExactScaleSeriesCard

/-- THE SECOND FORM's CARD OF 'laws.FnExactUnitSeries'. -/
def fnExactUnitSeriesUptoCard : Claim7 := { stood := { row := fnExactUnitSeriesUptoRow, standIns := [], harness := (true, "5767c568ea3391ba2b84c2645a0f52fd52bb8abdafdf73bb558594467cb11a7b"), looks := false }, kinds := [], alts := [], laidByText := true, laidKinds := [.data], laidTests := true, laidLooks := .later }
def FnExactUnitSeriesUptoCardSaid : Prop := Claim7.holds Tryd.pinned (.plain (OpenSpec.upto fnExactUnitSeriesSpec)) fnExactUnitSeriesUptoCard

/-- THE SECOND FORM's CARD OF 'laws.FnExactSeriesOk'. -/
def fnExactSeriesOkUptoCard : Claim7 := { stood := { row := fnExactSeriesOkUptoRow, standIns := [], harness := (true, "5767c568ea3391ba2b84c2645a0f52fd52bb8abdafdf73bb558594467cb11a7b"), looks := false }, kinds := [], alts := [], laidByText := true, laidKinds := [.data], laidTests := true, laidLooks := .later }
def FnExactSeriesOkUptoCardSaid : Prop := Claim7.holds Tryd.pinned (.plain (OpenSpec.upto fnExactSeriesOkSpec)) fnExactSeriesOkUptoCard

/-- THE SECOND FORM's CARD OF 'laws.FnExactCoefficientOf'. -/
def fnExactCoefficientOfUptoCard : Claim7 := { stood := { row := fnExactCoefficientOfUptoRow, standIns := [], harness := (true, "5767c568ea3391ba2b84c2645a0f52fd52bb8abdafdf73bb558594467cb11a7b"), looks := false }, kinds := [], alts := [], laidByText := true, laidKinds := [.data], laidTests := true, laidLooks := .later }
def FnExactCoefficientOfUptoCardSaid : Prop := Claim7.holds Tryd.pinned (.plain (OpenSpec.upto fnExactCoefficientOfSpec)) fnExactCoefficientOfUptoCard

/-- THE SECOND FORM's CARD OF 'laws.FnExactTruncateSeries'. -/
def fnExactTruncateSeriesUptoCard : Claim7 := { stood := { row := fnExactTruncateSeriesUptoRow, standIns := [], harness := (true, "5767c568ea3391ba2b84c2645a0f52fd52bb8abdafdf73bb558594467cb11a7b"), looks := false }, kinds := [], alts := [], laidByText := true, laidKinds := [.data], laidTests := true, laidLooks := .later }
def FnExactTruncateSeriesUptoCardSaid : Prop := Claim7.holds Tryd.pinned (.plain (OpenSpec.upto fnExactTruncateSeriesSpec)) fnExactTruncateSeriesUptoCard

/-- THE SECOND FORM's CARD OF 'laws.FnExactScaleSeries'. -/
def fnExactScaleSeriesUptoCard : Claim7 := { stood := { row := fnExactScaleSeriesUptoRow, standIns := [], harness := (true, "5767c568ea3391ba2b84c2645a0f52fd52bb8abdafdf73bb558594467cb11a7b"), looks := false }, kinds := [], alts := [], laidByText := true, laidKinds := [.data], laidTests := true, laidLooks := .later }
def FnExactScaleSeriesUptoCardSaid : Prop := Claim7.holds Tryd.pinned (.plain (OpenSpec.upto fnExactScaleSeriesSpec)) fnExactScaleSeriesUptoCard
end Rows
end Go.Proofs.YtajalndghbbfdaaDoor
