/-
  No cell of these rows narrows 'for every input' (looked for: loops, veiled, ifaces, maps, wideKeys, modest, calm, conditions, laid).
  DERIVED. THE GIVEN ROWS OF THIS SEAT. 9 by the template 'for every input the law returns true; each argument reads behind the call as it read before'; 0 by the template 'total and deterministic' (their statements: YtjlcmafeemdneaaTotals.lean).
  GIVEN WITH THE SEED: the statements are not yours to turn. If you find one false, say at which input.
  Laid BY PROGRAM, IN A SANDBOX (cutbox-rows.mjs): the forced cells as the released guide's own fill.sh prints them over the translation 513fb8f0a79e246d… (all of the seat's roots in one cut). By AI agents, Wed Nov 11 2026. No macro, syntax, notation, axiom, sorry.
-/
import Derived.Test.YtjlcmafeemdneaaChecked
import GoSem.Claim
import GoSem.ClaimJoined
import GoSem.ClaimMapViews
import Derived.JoinedTies
import Derived.KernelRfl
namespace Go.Proofs.Ytjlcmafeemdneaa
/- THE CELL 'sum', in the pinned program and in every row, IS THE sha256 OF THE DUMP (.gsa) THAT YtjlcmafeemdneaaProg.lean LOADS. Nothing in Lean hashes anything: it is a label: what it is worth is what the hold of that sum in a sandbox is worth. -/
noncomputable def Try.pinned : Pinned := { name := "ytjlcmafeemdneaa", sum := "513fb8f0a79e246d14c5cdce2e51908c61b56bec2c783eb61f10cae51c6a3d77", checked := Try.checked }
namespace Rows
def none {H : Type} : Left H := { results := [], args := [] }

/-- 'laws.FnExactIsLevels': WHATEVER THE INPUT: true; the input reads as it did. -/
def fnExactIsLevelsSpec : ChangeSpec := { name := "fnExactIsLevels", fn := fun _ => fun
  | [d] => { results := [.lit (.bool true)], args := [d] }
  | _ => none }
def fnExactIsLevelsRow : OpenClaim := { program := "ytjlcmafeemdneaa", sum := "513fb8f0a79e246d14c5cdce2e51908c61b56bec2c783eb61f10cae51c6a3d77", func := "loop.example/g03110/laws.FnExactIsLevels", spec := "fnExactIsLevels", apart := false }
def FnExactIsLevelsSaid : Prop := fnExactIsLevelsRow.holds Try.pinned (OpenSpec.ofChange fnExactIsLevelsSpec)

/-- ITS FALSE NEIGHBOUR: 'it returns false'. Refute it at one input. -/
def fnExactIsLevelsWrong : ChangeSpec := { name := "fnExactIsLevels", fn := fun _ => fun
  | [d] => { results := [.lit (.bool false)], args := [d] }
  | _ => none }
def FnExactIsLevelsWrongFalsely : Prop := fnExactIsLevelsRow.holds Try.pinned (OpenSpec.ofChange fnExactIsLevelsWrong)

/-- 'laws.FnField': WHATEVER THE INPUT: true; the input reads as it did. -/
def fnFieldSpec : ChangeSpec := { name := "fnField", fn := fun _ => fun
  | [d] => { results := [.lit (.bool true)], args := [d] }
  | _ => none }
def fnFieldRow : OpenClaim := { program := "ytjlcmafeemdneaa", sum := "513fb8f0a79e246d14c5cdce2e51908c61b56bec2c783eb61f10cae51c6a3d77", func := "loop.example/g03110/laws.FnField", spec := "fnField", apart := false }
def FnFieldSaid : Prop := fnFieldRow.holds Try.pinned (OpenSpec.ofChange fnFieldSpec)

/-- ITS FALSE NEIGHBOUR: 'it returns false'. Refute it at one input. -/
def fnFieldWrong : ChangeSpec := { name := "fnField", fn := fun _ => fun
  | [d] => { results := [.lit (.bool false)], args := [d] }
  | _ => none }
def FnFieldWrongFalsely : Prop := fnFieldRow.holds Try.pinned (OpenSpec.ofChange fnFieldWrong)

/-- 'laws.FnRoots': WHATEVER THE INPUT: true; the input reads as it did. -/
def fnRootsSpec : ChangeSpec := { name := "fnRoots", fn := fun _ => fun
  | [d] => { results := [.lit (.bool true)], args := [d] }
  | _ => none }
def fnRootsRow : OpenClaim := { program := "ytjlcmafeemdneaa", sum := "513fb8f0a79e246d14c5cdce2e51908c61b56bec2c783eb61f10cae51c6a3d77", func := "loop.example/g03110/laws.FnRoots", spec := "fnRoots", apart := false }
def FnRootsSaid : Prop := fnRootsRow.holds Try.pinned (OpenSpec.ofChange fnRootsSpec)

/-- ITS FALSE NEIGHBOUR: 'it returns false'. Refute it at one input. -/
def fnRootsWrong : ChangeSpec := { name := "fnRoots", fn := fun _ => fun
  | [d] => { results := [.lit (.bool false)], args := [d] }
  | _ => none }
def FnRootsWrongFalsely : Prop := fnRootsRow.holds Try.pinned (OpenSpec.ofChange fnRootsWrong)

/-- 'laws.FnExactFormatNumbers': WHATEVER THE INPUT: true; the input reads as it did. -/
def fnExactFormatNumbersSpec : ChangeSpec := { name := "fnExactFormatNumbers", fn := fun _ => fun
  | [d] => { results := [.lit (.bool true)], args := [d] }
  | _ => none }
def fnExactFormatNumbersRow : OpenClaim := { program := "ytjlcmafeemdneaa", sum := "513fb8f0a79e246d14c5cdce2e51908c61b56bec2c783eb61f10cae51c6a3d77", func := "loop.example/g03110/laws.FnExactFormatNumbers", spec := "fnExactFormatNumbers", inPlace := ["internal/abi.NoEscape", "internal/bytealg.MakeNoZero"], recurses := true, apart := false }
def FnExactFormatNumbersSaid : Prop := fnExactFormatNumbersRow.holds Try.pinned (OpenSpec.ofChange fnExactFormatNumbersSpec)

/-- ITS FALSE NEIGHBOUR: 'it returns false'. Refute it at one input. -/
def fnExactFormatNumbersWrong : ChangeSpec := { name := "fnExactFormatNumbers", fn := fun _ => fun
  | [d] => { results := [.lit (.bool false)], args := [d] }
  | _ => none }
def FnExactFormatNumbersWrongFalsely : Prop := fnExactFormatNumbersRow.holds Try.pinned (OpenSpec.ofChange fnExactFormatNumbersWrong)

/-- 'laws.FnSolved': WHATEVER THE INPUT: true; the input reads as it did. -/
def fnSolvedSpec : ChangeSpec := { name := "fnSolved", fn := fun _ => fun
  | [d] => { results := [.lit (.bool true)], args := [d] }
  | _ => none }
def fnSolvedRow : OpenClaim := { program := "ytjlcmafeemdneaa", sum := "513fb8f0a79e246d14c5cdce2e51908c61b56bec2c783eb61f10cae51c6a3d77", func := "loop.example/g03110/laws.FnSolved", spec := "fnSolved", apart := false }
def FnSolvedSaid : Prop := fnSolvedRow.holds Try.pinned (OpenSpec.ofChange fnSolvedSpec)

/-- ITS FALSE NEIGHBOUR: 'it returns false'. Refute it at one input. -/
def fnSolvedWrong : ChangeSpec := { name := "fnSolved", fn := fun _ => fun
  | [d] => { results := [.lit (.bool false)], args := [d] }
  | _ => none }
def FnSolvedWrongFalsely : Prop := fnSolvedRow.holds Try.pinned (OpenSpec.ofChange fnSolvedWrong)

/-- 'laws.FnExactCountIndependent': WHATEVER THE INPUT: true; the input reads as it did. -/
def fnExactCountIndependentSpec : ChangeSpec := { name := "fnExactCountIndependent", fn := fun _ => fun
  | [d] => { results := [.lit (.bool true)], args := [d] }
  | _ => none }
def fnExactCountIndependentRow : OpenClaim := { program := "ytjlcmafeemdneaa", sum := "513fb8f0a79e246d14c5cdce2e51908c61b56bec2c783eb61f10cae51c6a3d77", func := "loop.example/g03110/laws.FnExactCountIndependent", spec := "fnExactCountIndependent", apart := false }
def FnExactCountIndependentSaid : Prop := fnExactCountIndependentRow.holds Try.pinned (OpenSpec.ofChange fnExactCountIndependentSpec)

/-- ITS FALSE NEIGHBOUR: 'it returns false'. Refute it at one input. -/
def fnExactCountIndependentWrong : ChangeSpec := { name := "fnExactCountIndependent", fn := fun _ => fun
  | [d] => { results := [.lit (.bool false)], args := [d] }
  | _ => none }
def FnExactCountIndependentWrongFalsely : Prop := fnExactCountIndependentRow.holds Try.pinned (OpenSpec.ofChange fnExactCountIndependentWrong)

/-- 'laws.FnExactSolveSystem': WHATEVER THE INPUT: true; the input reads as it did. -/
def fnExactSolveSystemSpec : ChangeSpec := { name := "fnExactSolveSystem", fn := fun _ => fun
  | [d1, d2] => { results := [.lit (.bool true)], args := [d1, d2] }
  | _ => none }
def fnExactSolveSystemRow : OpenClaim := { program := "ytjlcmafeemdneaa", sum := "513fb8f0a79e246d14c5cdce2e51908c61b56bec2c783eb61f10cae51c6a3d77", func := "loop.example/g03110/laws.FnExactSolveSystem", spec := "fnExactSolveSystem", apart := false }
def FnExactSolveSystemSaid : Prop := fnExactSolveSystemRow.holds Try.pinned (OpenSpec.ofChange fnExactSolveSystemSpec)

/-- ITS FALSE NEIGHBOUR: 'it returns false'. Refute it at one input. -/
def fnExactSolveSystemWrong : ChangeSpec := { name := "fnExactSolveSystem", fn := fun _ => fun
  | [d1, d2] => { results := [.lit (.bool false)], args := [d1, d2] }
  | _ => none }
def FnExactSolveSystemWrongFalsely : Prop := fnExactSolveSystemRow.holds Try.pinned (OpenSpec.ofChange fnExactSolveSystemWrong)

/-- 'laws.FnExactParseNumber': WHATEVER THE INPUT: true; the input reads as it did. -/
def fnExactParseNumberSpec : ChangeSpec := { name := "fnExactParseNumber", fn := fun _ => fun
  | [d] => { results := [.lit (.bool true)], args := [d] }
  | _ => none }
def fnExactParseNumberRow : OpenClaim := { program := "ytjlcmafeemdneaa", sum := "513fb8f0a79e246d14c5cdce2e51908c61b56bec2c783eb61f10cae51c6a3d77", func := "loop.example/g03110/laws.FnExactParseNumber", spec := "fnExactParseNumber", inPlace := ["internal/bytealg.IndexByteString", "internal/bytealg.IndexString"], recurses := true, named := ["internal/bytealg.MaxLen"], apart := false }
def FnExactParseNumberSaid : Prop := fnExactParseNumberRow.holds Try.pinned (OpenSpec.ofChange fnExactParseNumberSpec)

/-- ITS FALSE NEIGHBOUR: 'it returns false'. Refute it at one input. -/
def fnExactParseNumberWrong : ChangeSpec := { name := "fnExactParseNumber", fn := fun _ => fun
  | [d] => { results := [.lit (.bool false)], args := [d] }
  | _ => none }
def FnExactParseNumberWrongFalsely : Prop := fnExactParseNumberRow.holds Try.pinned (OpenSpec.ofChange fnExactParseNumberWrong)

/-- 'laws.FnExactCanonicalLevels': WHATEVER THE INPUT: true; the input reads as it did. -/
def fnExactCanonicalLevelsSpec : ChangeSpec := { name := "fnExactCanonicalLevels", fn := fun _ => fun
  | [d] => { results := [.lit (.bool true)], args := [d] }
  | _ => none }
def fnExactCanonicalLevelsRow : OpenClaim := { program := "ytjlcmafeemdneaa", sum := "513fb8f0a79e246d14c5cdce2e51908c61b56bec2c783eb61f10cae51c6a3d77", func := "loop.example/g03110/laws.FnExactCanonicalLevels", spec := "fnExactCanonicalLevels", unfollowed := true, recurses := true, apart := false }
def FnExactCanonicalLevelsSaid : Prop := fnExactCanonicalLevelsRow.holds Try.pinned (OpenSpec.ofChange fnExactCanonicalLevelsSpec)

/-- ITS FALSE NEIGHBOUR: 'it returns false'. Refute it at one input. -/
def fnExactCanonicalLevelsWrong : ChangeSpec := { name := "fnExactCanonicalLevels", fn := fun _ => fun
  | [d] => { results := [.lit (.bool false)], args := [d] }
  | _ => none }
def FnExactCanonicalLevelsWrongFalsely : Prop := fnExactCanonicalLevelsRow.holds Try.pinned (OpenSpec.ofChange fnExactCanonicalLevelsWrong)

/- THE SECOND FORM. 'bulk': how many values and letters a reading holds, each counted each time it is reached (what is shared counts as often as it is met; a slice's spare places count too). A statement '..UptoSaid' is the law's where the arguments, and the package variables that the reading takes, are together of bulk at most 1048576: NARROWER than '..Said'. Prove '..Said' where nothing that the law and all that it calls make is longer than what came in: it says more and counts as full. Else prove '..UptoSaid'. A law counts once. -/
mutual
def uptoBulk {H : Type} : DataW H → Nat
  | .lit (.string bytes) => bytes.length + 1
  | .lit _ => 1
  | .nil => 1
  | .ptr d => uptoBulk d + 1
  | .slice elems spare => uptoBulkAll elems + uptoBulkAll spare + 1
  | .agg parts => uptoBulkAll parts + 1
  | .iface _ d => uptoBulk d + 1
  | .map entries => uptoBulkEntries entries + 1
  | .held _ => 1
def uptoBulkAll {H : Type} : List (DataW H) → Nat
  | [] => 0
  | d :: r => uptoBulk d + uptoBulkAll r
def uptoBulkEntries {H : Type} : List (Lit × DataW H) → Nat
  | [] => 0
  | x :: r => uptoBulkEntry x + uptoBulkEntries r
def uptoBulkEntry {H : Type} : Lit × DataW H → Nat
  | (.string bytes, d) => bytes.length + uptoBulk d + 1
  | (_, d) => uptoBulk d + 1
 end
def uptoSmall : (H : Type) → List (DataW H) → Bool := fun _ ds => decide (uptoBulkAll ds ≤ 1048576)
def OpenSpec.upto (s : _root_.Go.ChangeSpec) : _root_.Go.OpenSpec := { _root_.Go.OpenSpec.ofChange s with cond := some uptoSmall }

/-- 'laws.FnExactIsLevels', WHERE WHAT IT READS IS OF BULK AT MOST 1048576: true; the input reads as it did. -/
def fnExactIsLevelsUptoRow : OpenClaim := { program := "ytjlcmafeemdneaa", sum := "513fb8f0a79e246d14c5cdce2e51908c61b56bec2c783eb61f10cae51c6a3d77", func := "loop.example/g03110/laws.FnExactIsLevels", spec := "fnExactIsLevels", apart := false, narrowed := true }
def FnExactIsLevelsUptoSaid : Prop := fnExactIsLevelsUptoRow.holds Try.pinned (OpenSpec.upto fnExactIsLevelsSpec)

/-- 'laws.FnField', WHERE WHAT IT READS IS OF BULK AT MOST 1048576: true; the input reads as it did. -/
def fnFieldUptoRow : OpenClaim := { program := "ytjlcmafeemdneaa", sum := "513fb8f0a79e246d14c5cdce2e51908c61b56bec2c783eb61f10cae51c6a3d77", func := "loop.example/g03110/laws.FnField", spec := "fnField", apart := false, narrowed := true }
def FnFieldUptoSaid : Prop := fnFieldUptoRow.holds Try.pinned (OpenSpec.upto fnFieldSpec)

/-- 'laws.FnRoots', WHERE WHAT IT READS IS OF BULK AT MOST 1048576: true; the input reads as it did. -/
def fnRootsUptoRow : OpenClaim := { program := "ytjlcmafeemdneaa", sum := "513fb8f0a79e246d14c5cdce2e51908c61b56bec2c783eb61f10cae51c6a3d77", func := "loop.example/g03110/laws.FnRoots", spec := "fnRoots", apart := false, narrowed := true }
def FnRootsUptoSaid : Prop := fnRootsUptoRow.holds Try.pinned (OpenSpec.upto fnRootsSpec)

/-- 'laws.FnExactFormatNumbers', WHERE WHAT IT READS IS OF BULK AT MOST 1048576: true; the input reads as it did. -/
def fnExactFormatNumbersUptoRow : OpenClaim := { program := "ytjlcmafeemdneaa", sum := "513fb8f0a79e246d14c5cdce2e51908c61b56bec2c783eb61f10cae51c6a3d77", func := "loop.example/g03110/laws.FnExactFormatNumbers", spec := "fnExactFormatNumbers", inPlace := ["internal/abi.NoEscape", "internal/bytealg.MakeNoZero"], recurses := true, apart := false, narrowed := true }
def FnExactFormatNumbersUptoSaid : Prop := fnExactFormatNumbersUptoRow.holds Try.pinned (OpenSpec.upto fnExactFormatNumbersSpec)

/-- 'laws.FnSolved', WHERE WHAT IT READS IS OF BULK AT MOST 1048576: true; the input reads as it did. -/
def fnSolvedUptoRow : OpenClaim := { program := "ytjlcmafeemdneaa", sum := "513fb8f0a79e246d14c5cdce2e51908c61b56bec2c783eb61f10cae51c6a3d77", func := "loop.example/g03110/laws.FnSolved", spec := "fnSolved", apart := false, narrowed := true }
def FnSolvedUptoSaid : Prop := fnSolvedUptoRow.holds Try.pinned (OpenSpec.upto fnSolvedSpec)

/-- 'laws.FnExactCountIndependent', WHERE WHAT IT READS IS OF BULK AT MOST 1048576: true; the input reads as it did. -/
def fnExactCountIndependentUptoRow : OpenClaim := { program := "ytjlcmafeemdneaa", sum := "513fb8f0a79e246d14c5cdce2e51908c61b56bec2c783eb61f10cae51c6a3d77", func := "loop.example/g03110/laws.FnExactCountIndependent", spec := "fnExactCountIndependent", apart := false, narrowed := true }
def FnExactCountIndependentUptoSaid : Prop := fnExactCountIndependentUptoRow.holds Try.pinned (OpenSpec.upto fnExactCountIndependentSpec)

/-- 'laws.FnExactSolveSystem', WHERE WHAT IT READS IS OF BULK AT MOST 1048576: true; the input reads as it did. -/
def fnExactSolveSystemUptoRow : OpenClaim := { program := "ytjlcmafeemdneaa", sum := "513fb8f0a79e246d14c5cdce2e51908c61b56bec2c783eb61f10cae51c6a3d77", func := "loop.example/g03110/laws.FnExactSolveSystem", spec := "fnExactSolveSystem", apart := false, narrowed := true }
def FnExactSolveSystemUptoSaid : Prop := fnExactSolveSystemUptoRow.holds Try.pinned (OpenSpec.upto fnExactSolveSystemSpec)

/-- 'laws.FnExactParseNumber', WHERE WHAT IT READS IS OF BULK AT MOST 1048576: true; the input reads as it did. -/
def fnExactParseNumberUptoRow : OpenClaim := { program := "ytjlcmafeemdneaa", sum := "513fb8f0a79e246d14c5cdce2e51908c61b56bec2c783eb61f10cae51c6a3d77", func := "loop.example/g03110/laws.FnExactParseNumber", spec := "fnExactParseNumber", inPlace := ["internal/bytealg.IndexByteString", "internal/bytealg.IndexString"], recurses := true, named := ["internal/bytealg.MaxLen"], apart := false, narrowed := true }
def FnExactParseNumberUptoSaid : Prop := fnExactParseNumberUptoRow.holds Try.pinned (OpenSpec.upto fnExactParseNumberSpec)

/-- 'laws.FnExactCanonicalLevels', WHERE WHAT IT READS IS OF BULK AT MOST 1048576: true; the input reads as it did. -/
def fnExactCanonicalLevelsUptoRow : OpenClaim := { program := "ytjlcmafeemdneaa", sum := "513fb8f0a79e246d14c5cdce2e51908c61b56bec2c783eb61f10cae51c6a3d77", func := "loop.example/g03110/laws.FnExactCanonicalLevels", spec := "fnExactCanonicalLevels", unfollowed := true, recurses := true, apart := false, narrowed := true }
def FnExactCanonicalLevelsUptoSaid : Prop := fnExactCanonicalLevelsUptoRow.holds Try.pinned (OpenSpec.upto fnExactCanonicalLevelsSpec)

end Rows
end Go.Proofs.Ytjlcmafeemdneaa
