/-
  DERIVED. GIVEN WITH THE SEED: THE CARDS: each row of YtjlcmafeemdneaaDoorRows.lean that lists a variable, with what it lists TIED to the program's text (the seventh form; the later family's looks); each row that meets fmt, with fmt's text TOLD by the authors' own Lean function (tested against real Go, not proved from fmt's source: count such statements apart). THE CARD IS WHAT COUNTS. Prove the row's statement (the work); the ties are given (YtjlcmafeemdneaaDoorTie.lean); close each card by the builder's one call (the guide's Derived/Test/ToyasCard.lean, 'card_holds'). Laid BY PROGRAM, IN A SANDBOX (cutbox-door.mjs). By AI agents, Wed Nov 11 2026. No macro, syntax, notation, axiom, sorry.
-/
import Derived.Test.YtjlcmafeemdneaaDoorRows
import GoSem.ClaimSeven
namespace Go.Proofs.YtjlcmafeemdneaaDoor
namespace Rows

/-- THE TIED CARD OF 'laws.FnExactParseNumbers'. -/
def fnExactParseNumbersCard : Claim7 := { stood := { row := fnExactParseNumbersRow, standIns := [], harness := (true, "ebc9c42323515c3e26edcb1b02907353cb1b88c643e16abceeced93f77d173ab"), looks := false }, kinds := [], alts := [], laidByText := true, laidKinds := [.data, .pinned], laidTests := true, laidLooks := .later }
def FnExactParseNumbersCardSaid : Prop := Claim7.holds Tryd.pinned (.plain (OpenSpec.ofChange fnExactParseNumbersSpec)) fnExactParseNumbersCard

/-- THE TIED CARD OF 'laws.FnNumberText'. -/
def fnNumberTextCard : Claim7 := { stood := { row := fnNumberTextRow, standIns := [], harness := (true, "ebc9c42323515c3e26edcb1b02907353cb1b88c643e16abceeced93f77d173ab"), looks := false }, kinds := [], alts := [], laidByText := true, laidKinds := [.data, .pinned], laidTests := true, laidLooks := .later }
def FnNumberTextCardSaid : Prop := Claim7.holds Tryd.pinned (.plain (OpenSpec.ofChange fnNumberTextSpec)) fnNumberTextCard

/-- THE SECOND FORM's CARD OF 'laws.FnExactParseNumbers'. -/
def fnExactParseNumbersUptoCard : Claim7 := { stood := { row := fnExactParseNumbersUptoRow, standIns := [], harness := (true, "ebc9c42323515c3e26edcb1b02907353cb1b88c643e16abceeced93f77d173ab"), looks := false }, kinds := [], alts := [], laidByText := true, laidKinds := [.data, .pinned], laidTests := true, laidLooks := .later }
def FnExactParseNumbersUptoCardSaid : Prop := Claim7.holds Tryd.pinned (.plain (OpenSpec.upto fnExactParseNumbersSpec)) fnExactParseNumbersUptoCard

/-- THE SECOND FORM's CARD OF 'laws.FnNumberText'. -/
def fnNumberTextUptoCard : Claim7 := { stood := { row := fnNumberTextUptoRow, standIns := [], harness := (true, "ebc9c42323515c3e26edcb1b02907353cb1b88c643e16abceeced93f77d173ab"), looks := false }, kinds := [], alts := [], laidByText := true, laidKinds := [.data, .pinned], laidTests := true, laidLooks := .later }
def FnNumberTextUptoCardSaid : Prop := Claim7.holds Tryd.pinned (.plain (OpenSpec.upto fnNumberTextSpec)) fnNumberTextUptoCard
end Rows
end Go.Proofs.YtjlcmafeemdneaaDoor
