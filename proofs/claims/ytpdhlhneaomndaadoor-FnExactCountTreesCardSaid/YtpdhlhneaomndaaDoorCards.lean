/-
  DERIVED. GIVEN WITH THE SEED: THE CARDS: each row of YtpdhlhneaomndaaDoorRows.lean that lists a variable, with what it lists TIED to the program's text (the seventh form; the later family's looks); each row that meets fmt, with fmt's text TOLD by the authors' own Lean function (tested against real Go, not proved from fmt's source: count such statements apart). THE CARD IS WHAT COUNTS. Prove the row's statement (the work); the ties are given (YtpdhlhneaomndaaDoorTie.lean); close each card by the builder's one call (the guide's Derived/Test/ToyasCard.lean, 'card_holds'). Laid BY PROGRAM, IN A SANDBOX (cutbox-door.mjs). By AI agents, Wed Nov 11 2026. No macro, syntax, notation, axiom, sorry.
-/
import Derived.Test.YtpdhlhneaomndaaDoorRows
import GoSem.ClaimSeven
namespace Go.Proofs.YtpdhlhneaomndaaDoor
namespace Rows

/-- THE TIED CARD OF 'laws.FnExactCountTrees'. -/
def fnExactCountTreesCard : Claim7 := { stood := { row := fnExactCountTreesRow, standIns := [], harness := (true, "708975bbc1b26224ea71454fc53964dadc98b09f2db0902d82a8aaa15aedca06"), looks := false }, kinds := [], alts := [], laidByText := true, laidKinds := [.data], laidTests := true, laidLooks := .later }
def FnExactCountTreesCardSaid : Prop := Claim7.holds Tryd.pinned (.plain (OpenSpec.ofChange fnExactCountTreesSpec)) fnExactCountTreesCard

/-- THE SECOND FORM's CARD OF 'laws.FnExactCountTrees'. -/
def fnExactCountTreesUptoCard : Claim7 := { stood := { row := fnExactCountTreesUptoRow, standIns := [], harness := (true, "708975bbc1b26224ea71454fc53964dadc98b09f2db0902d82a8aaa15aedca06"), looks := false }, kinds := [], alts := [], laidByText := true, laidKinds := [.data], laidTests := true, laidLooks := .later }
def FnExactCountTreesUptoCardSaid : Prop := Claim7.holds Tryd.pinned (.plain (OpenSpec.upto fnExactCountTreesSpec)) fnExactCountTreesUptoCard
end Rows
end Go.Proofs.YtpdhlhneaomndaaDoor
