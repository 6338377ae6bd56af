/-
  NARROWER THAN 'FOR EVERY INPUT', by the rows' own cells (each row's printed sentence says how): FnExactUnitSeries: laid · FnExactSeriesOk: laid · FnExactCoefficientOf: laid · FnExactTruncateSeries: laid · FnExactScaleSeries: laid.
  DERIVED. THE GIVEN ROWS OF THIS SEAT. 5 by the template 'for every input the law returns true; each argument reads behind the call as it read before'; 0 by the template 'total and deterministic' (their statements: YtajalndghbbfdaaDoorTotals.lean).
  GIVEN WITH THE SEED: the statements are not yours to turn. If you find one false, say at which input.
  Laid BY PROGRAM, IN A SANDBOX (cutbox-rows.mjs): the forced cells as the released guide's own fill.sh prints them over the translation 5296e3fd10254ced… (all of the seat's roots in one cut). By AI agents, Wed Nov 11 2026. No macro, syntax, notation, axiom, sorry.
-/
import Derived.Test.YtajalndghbbfdaaDoorChecked
import GoSem.Claim
import GoSem.ClaimJoined
import GoSem.ClaimMapViews
import Derived.JoinedTies
import Derived.KernelRfl
namespace Go.Proofs.YtajalndghbbfdaaDoor
/- THE CELL 'sum', in the pinned program and in every row, IS THE sha256 OF THE DUMP (.gsa) THAT YtajalndghbbfdaaDoorProg.lean LOADS. Nothing in Lean hashes anything: it is a label: what it is worth is what the hold of that sum in a sandbox is worth. -/
noncomputable def Tryd.pinned : Pinned := { name := "ytajalndghbbfdaadoor", sum := "5296e3fd10254cedbd60ca938431ffd173d90ff4c8f2cc3655767d07879b2002", checked := Tryd.checked }
namespace Rows
def none {H : Type} : Left H := { results := [], args := [] }

/- WHAT THE LISTED PACKAGE-LEVEL VARIABLES READ AS WHEN THE CALL BEGINS. Each datum BY PROGRAM (the guide's laid-datum.mjs) off the statement by which the dump's own 'gosem.cut.vars' lays the variable. In a bare row this is a premise. The card (YtajalndghbbfdaaDoorCards.lean) ties it to the program's text. -/
def laid_loop_example_g03110_impl_treeCounts {H : Type} : DataW H := .slice [.lit (.int .i64 0), .lit (.int .i64 1), .lit (.int .i64 2), .lit (.int .i64 4), .lit (.int .i64 8), .lit (.int .i64 17), .lit (.int .i64 37)] []

/-- 'laws.FnExactUnitSeries': WHATEVER THE INPUT: true; the input reads as it did. -/
def fnExactUnitSeriesSpec : ChangeSpec := { name := "fnExactUnitSeries", vars := ["loop.example/g03110/impl.treeCounts"], fn := fun _ => fun
  | [d, g1] => { results := [.lit (.bool true)], args := [d], vars := [g1] }
  | _ => none }
def fnExactUnitSeriesRow : OpenClaim := { program := "ytajalndghbbfdaadoor", sum := "5296e3fd10254cedbd60ca938431ffd173d90ff4c8f2cc3655767d07879b2002", func := "loop.example/g03110/laws.FnExactUnitSeries", spec := "fnExactUnitSeries", named := ["loop.example/g03110/impl.treeCounts"], apart := false, laid := [("loop.example/g03110/impl.treeCounts", laid_loop_example_g03110_impl_treeCounts)] }
def FnExactUnitSeriesSaid : Prop := fnExactUnitSeriesRow.holds Tryd.pinned (OpenSpec.ofChange fnExactUnitSeriesSpec)

/-- ITS FALSE NEIGHBOUR: 'it returns false'. Refute it at one input. -/
def fnExactUnitSeriesWrong : ChangeSpec := { name := "fnExactUnitSeries", vars := ["loop.example/g03110/impl.treeCounts"], fn := fun _ => fun
  | [d, g1] => { results := [.lit (.bool false)], args := [d], vars := [g1] }
  | _ => none }
def FnExactUnitSeriesWrongFalsely : Prop := fnExactUnitSeriesRow.holds Tryd.pinned (OpenSpec.ofChange fnExactUnitSeriesWrong)

/-- 'laws.FnExactSeriesOk': WHATEVER THE INPUT: true; the input reads as it did. -/
def fnExactSeriesOkSpec : ChangeSpec := { name := "fnExactSeriesOk", vars := ["loop.example/g03110/impl.treeCounts"], fn := fun _ => fun
  | [d, g1] => { results := [.lit (.bool true)], args := [d], vars := [g1] }
  | _ => none }
def fnExactSeriesOkRow : OpenClaim := { program := "ytajalndghbbfdaadoor", sum := "5296e3fd10254cedbd60ca938431ffd173d90ff4c8f2cc3655767d07879b2002", func := "loop.example/g03110/laws.FnExactSeriesOk", spec := "fnExactSeriesOk", named := ["loop.example/g03110/impl.treeCounts"], apart := false, laid := [("loop.example/g03110/impl.treeCounts", laid_loop_example_g03110_impl_treeCounts)] }
def FnExactSeriesOkSaid : Prop := fnExactSeriesOkRow.holds Tryd.pinned (OpenSpec.ofChange fnExactSeriesOkSpec)

/-- ITS FALSE NEIGHBOUR: 'it returns false'. Refute it at one input. -/
def fnExactSeriesOkWrong : ChangeSpec := { name := "fnExactSeriesOk", vars := ["loop.example/g03110/impl.treeCounts"], fn := fun _ => fun
  | [d, g1] => { results := [.lit (.bool false)], args := [d], vars := [g1] }
  | _ => none }
def FnExactSeriesOkWrongFalsely : Prop := fnExactSeriesOkRow.holds Tryd.pinned (OpenSpec.ofChange fnExactSeriesOkWrong)

/-- 'laws.FnExactCoefficientOf': WHATEVER THE INPUT: true; the input reads as it did. -/
def fnExactCoefficientOfSpec : ChangeSpec := { name := "fnExactCoefficientOf", vars := ["loop.example/g03110/impl.treeCounts"], fn := fun _ => fun
  | [d1, d2, g1] => { results := [.lit (.bool true)], args := [d1, d2], vars := [g1] }
  | _ => none }
def fnExactCoefficientOfRow : OpenClaim := { program := "ytajalndghbbfdaadoor", sum := "5296e3fd10254cedbd60ca938431ffd173d90ff4c8f2cc3655767d07879b2002", func := "loop.example/g03110/laws.FnExactCoefficientOf", spec := "fnExactCoefficientOf", named := ["loop.example/g03110/impl.treeCounts"], apart := false, laid := [("loop.example/g03110/impl.treeCounts", laid_loop_example_g03110_impl_treeCounts)] }
def FnExactCoefficientOfSaid : Prop := fnExactCoefficientOfRow.holds Tryd.pinned (OpenSpec.ofChange fnExactCoefficientOfSpec)

/-- ITS FALSE NEIGHBOUR: 'it returns false'. Refute it at one input. -/
def fnExactCoefficientOfWrong : ChangeSpec := { name := "fnExactCoefficientOf", vars := ["loop.example/g03110/impl.treeCounts"], fn := fun _ => fun
  | [d1, d2, g1] => { results := [.lit (.bool false)], args := [d1, d2], vars := [g1] }
  | _ => none }
def FnExactCoefficientOfWrongFalsely : Prop := fnExactCoefficientOfRow.holds Tryd.pinned (OpenSpec.ofChange fnExactCoefficientOfWrong)

/-- 'laws.FnExactTruncateSeries': WHATEVER THE INPUT: true; the input reads as it did. -/
def fnExactTruncateSeriesSpec : ChangeSpec := { name := "fnExactTruncateSeries", vars := ["loop.example/g03110/impl.treeCounts"], fn := fun _ => fun
  | [d1, d2, g1] => { results := [.lit (.bool true)], args := [d1, d2], vars := [g1] }
  | _ => none }
def fnExactTruncateSeriesRow : OpenClaim := { program := "ytajalndghbbfdaadoor", sum := "5296e3fd10254cedbd60ca938431ffd173d90ff4c8f2cc3655767d07879b2002", func := "loop.example/g03110/laws.FnExactTruncateSeries", spec := "fnExactTruncateSeries", named := ["loop.example/g03110/impl.treeCounts"], apart := false, laid := [("loop.example/g03110/impl.treeCounts", laid_loop_example_g03110_impl_treeCounts)] }
def FnExactTruncateSeriesSaid : Prop := fnExactTruncateSeriesRow.holds Tryd.pinned (OpenSpec.ofChange fnExactTruncateSeriesSpec)

/-- ITS FALSE NEIGHBOUR: 'it returns false'. Refute it at one input. -/
def fnExactTruncateSeriesWrong : ChangeSpec := { name := "fnExactTruncateSeries", vars := ["loop.example/g03110/impl.treeCounts"], fn := fun _ => fun
  | [d1, d2, g1] => { results := [.lit (.bool false)], args := [d1, d2], vars := [g1] }
  | _ => none }
def FnExactTruncateSeriesWrongFalsely : Prop := fnExactTruncateSeriesRow.holds Tryd.pinned (OpenSpec.ofChange fnExactTruncateSeriesWrong)

/-- 'laws.FnExactScaleSeries': WHATEVER THE INPUT: true; the input reads as it did. -/
def fnExactScaleSeriesSpec : ChangeSpec := { name := "fnExactScaleSeries", vars := ["loop.example/g03110/impl.treeCounts"], fn := fun _ => fun
  | [d1, d2, g1] => { results := [.lit (.bool true)], args := [d1, d2], vars := [g1] }
  | _ => none }
def fnExactScaleSeriesRow : OpenClaim := { program := "ytajalndghbbfdaadoor", sum := "5296e3fd10254cedbd60ca938431ffd173d90ff4c8f2cc3655767d07879b2002", func := "loop.example/g03110/laws.FnExactScaleSeries", spec := "fnExactScaleSeries", named := ["loop.example/g03110/impl.treeCounts"], apart := false, laid := [("loop.example/g03110/impl.treeCounts", laid_loop_example_g03110_impl_treeCounts)] }
def FnExactScaleSeriesSaid : Prop := fnExactScaleSeriesRow.holds Tryd.pinned (OpenSpec.ofChange fnExactScaleSeriesSpec)

/-- ITS FALSE NEIGHBOUR: 'it returns false'. Refute it at one input. -/
def fnExactScaleSeriesWrong : ChangeSpec := { name := "fnExactScaleSeries", vars := ["loop.example/g03110/impl.treeCounts"], fn := fun _ => fun
  | [d1, d2, g1] => { results := [.lit (.bool false)], args := [d1, d2], vars := [g1] }
  | _ => none }
def FnExactScaleSeriesWrongFalsely : Prop := fnExactScaleSeriesRow.holds Tryd.pinned (OpenSpec.ofChange fnExactScaleSeriesWrong)

/- THE SECOND FORM. 'bulk': how many values and letters a reading holds, each counted each time it is reached (what is shared counts as often as it is met; a slice's spare places count too). A statement '..UptoSaid' is the law's where the arguments, and the package variables that the reading takes, are together of bulk at most 1048576: NARROWER than '..Said'. Prove '..Said' where nothing that the law and all that it calls make is longer than what came in: it says more and counts as full. Else prove '..UptoSaid'. A law counts once. -/
mutual
def uptoBulk {H : Type} : DataW H → Nat
  | .lit (.string bytes) => bytes.length + 1
  | .lit _ => 1
  | .nil => 1
  | .ptr d => uptoBulk d + 1
  | .slice elems spare => uptoBulkAll elems + uptoBulkAll spare + 1
  | .agg parts => uptoBulkAll parts + 1
  | .iface _ d => uptoBulk d + 1
  | .map entries => uptoBulkEntries entries + 1
  | .held _ => 1
def uptoBulkAll {H : Type} : List (DataW H) → Nat
  | [] => 0
  | d :: r => uptoBulk d + uptoBulkAll r
def uptoBulkEntries {H : Type} : List (Lit × DataW H) → Nat
  | [] => 0
  | x :: r => uptoBulkEntry x + uptoBulkEntries r
def uptoBulkEntry {H : Type} : Lit × DataW H → Nat
  | (.string bytes, d) => bytes.length + uptoBulk d + 1
  | (_, d) => uptoBulk d + 1
 end
def uptoSmall : (H : Type) → List (DataW H) → Bool := fun _ ds => decide (uptoBulkAll ds ≤ 1048576)
def OpenSpec.upto (s : _root_.Go.ChangeSpec) : _root_.Go.OpenSpec := { _root_.Go.OpenSpec.ofChange s with cond := some uptoSmall }

/-- 'laws.FnExactUnitSeries', WHERE WHAT IT READS IS OF BULK AT MOST 1048576: true; the input reads as it did. -/
def fnExactUnitSeriesUptoRow : OpenClaim := { program := "ytajalndghbbfdaadoor", sum := "5296e3fd10254cedbd60ca938431ffd173d90ff4c8f2cc3655767d07879b2002", func := "loop.example/g03110/laws.FnExactUnitSeries", spec := "fnExactUnitSeries", named := ["loop.example/g03110/impl.treeCounts"], apart := false, laid := [("loop.example/g03110/impl.treeCounts", laid_loop_example_g03110_impl_treeCounts)], narrowed := true }
def FnExactUnitSeriesUptoSaid : Prop := fnExactUnitSeriesUptoRow.holds Tryd.pinned (OpenSpec.upto fnExactUnitSeriesSpec)

/-- 'laws.FnExactSeriesOk', WHERE WHAT IT READS IS OF BULK AT MOST 1048576: true; the input reads as it did. -/
def fnExactSeriesOkUptoRow : OpenClaim := { program := "ytajalndghbbfdaadoor", sum := "5296e3fd10254cedbd60ca938431ffd173d90ff4c8f2cc3655767d07879b2002", func := "loop.example/g03110/laws.FnExactSeriesOk", spec := "fnExactSeriesOk", named := ["loop.example/g03110/impl.treeCounts"], apart := false, laid := [("loop.example/g03110/impl.treeCounts", laid_loop_example_g03110_impl_treeCounts)], narrowed := true }
def FnExactSeriesOkUptoSaid : Prop := fnExactSeriesOkUptoRow.holds Tryd.pinned (OpenSpec.upto fnExactSeriesOkSpec)

/-- 'laws.FnExactCoefficientOf', WHERE WHAT IT READS IS OF BULK AT MOST 1048576: true; the input reads as it did. -/
def fnExactCoefficientOfUptoRow : OpenClaim := { program := "ytajalndghbbfdaadoor", sum := "5296e3fd10254cedbd60ca938431ffd173d90ff4c8f2cc3655767d07879b2002", func := "loop.example/g03110/laws.FnExactCoefficientOf", spec := "fnExactCoefficientOf", named := ["loop.example/g03110/impl.treeCounts"], apart := false, laid := [("loop.example/g03110/impl.treeCounts", laid_loop_example_g03110_impl_treeCounts)], narrowed := true }
def FnExactCoefficientOfUptoSaid : Prop := fnExactCoefficientOfUptoRow.holds Tryd.pinned (OpenSpec.upto fnExactCoefficientOfSpec)

/-- 'laws.FnExactTruncateSeries', WHERE WHAT IT READS IS OF BULK AT MOST 1048576: true; the input reads as it did. -/
def fnExactTruncateSeriesUptoRow : OpenClaim := { program := "ytajalndghbbfdaadoor", sum := "5296e3fd10254cedbd60ca938431ffd173d90ff4c8f2cc3655767d07879b2002", func := "loop.example/g03110/laws.FnExactTruncateSeries", spec := "fnExactTruncateSeries", named := ["loop.example/g03110/impl.treeCounts"], apart := false, laid := [("loop.example/g03110/impl.treeCounts", laid_loop_example_g03110_impl_treeCounts)], narrowed := true }
def FnExactTruncateSeriesUptoSaid : Prop := fnExactTruncateSeriesUptoRow.holds Tryd.pinned (OpenSpec.upto fnExactTruncateSeriesSpec)

/-- 'laws.FnExactScaleSeries', WHERE WHAT IT READS IS OF BULK AT MOST 1048576: true; the input reads as it did. -/
def fnExactScaleSeriesUptoRow : OpenClaim := { program := "ytajalndghbbfdaadoor", sum := "5296e3fd10254cedbd60ca938431ffd173d90ff4c8f2cc3655767d07879b2002", func := "loop.example/g03110/laws.FnExactScaleSeries", spec := "fnExactScaleSeries", named := ["loop.example/g03110/impl.treeCounts"], apart := false, laid := [("loop.example/g03110/impl.treeCounts", laid_loop_example_g03110_impl_treeCounts)], narrowed := true }
def FnExactScaleSeriesUptoSaid : Prop := fnExactScaleSeriesUptoRow.holds Tryd.pinned (OpenSpec.upto fnExactScaleSeriesSpec)

end Rows
end Go.Proofs.YtajalndghbbfdaaDoor
