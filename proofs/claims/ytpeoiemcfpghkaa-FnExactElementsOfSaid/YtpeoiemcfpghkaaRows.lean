/-
  No cell of these rows narrows 'for every input' (looked for: loops, veiled, ifaces, maps, wideKeys, modest, calm, conditions, laid).
  DERIVED. THE GIVEN ROWS OF THIS SEAT. 12 by the template 'for every input the law returns true; each argument reads behind the call as it read before'; 0 by the template 'total and deterministic' (their statements: YtpeoiemcfpghkaaTotals.lean).
  GIVEN WITH THE SEED: the statements are not yours to turn. If you find one false, say at which input.
  Laid BY PROGRAM, IN A SANDBOX (cutbox-rows.mjs): the forced cells as the released guide's own fill.sh prints them over the translation f5d45ab05604a297… (all of the seat's roots in one cut). By AI agents, Wed Nov 11 2026. No macro, syntax, notation, axiom, sorry.
-/
import Derived.Test.YtpeoiemcfpghkaaChecked
import GoSem.Claim
import GoSem.ClaimJoined
import GoSem.ClaimMapViews
import Derived.JoinedTies
import Derived.KernelRfl
namespace Go.Proofs.Ytpeoiemcfpghkaa
/- THE CELL 'sum', in the pinned program and in every row, IS THE sha256 OF THE DUMP (.gsa) THAT YtpeoiemcfpghkaaProg.lean LOADS. Nothing in Lean hashes anything: it is a label: what it is worth is what the hold of that sum in a sandbox is worth. -/
noncomputable def Try.pinned : Pinned := { name := "ytpeoiemcfpghkaa", sum := "f5d45ab05604a297df53c39de360464c40f23038cd78d4176aa86f3cd562e317", checked := Try.checked }
namespace Rows
def none {H : Type} : Left H := { results := [], args := [] }

/-- 'laws.FnExactInterpolateAt': WHATEVER THE INPUT: true; the input reads as it did. -/
def fnExactInterpolateAtSpec : ChangeSpec := { name := "fnExactInterpolateAt", fn := fun _ => fun
  | [d1, d2, d3, d4] => { results := [.lit (.bool true)], args := [d1, d2, d3, d4] }
  | _ => none }
def fnExactInterpolateAtRow : OpenClaim := { program := "ytpeoiemcfpghkaa", sum := "f5d45ab05604a297df53c39de360464c40f23038cd78d4176aa86f3cd562e317", func := "loop.example/g00877/laws.FnExactInterpolateAt", spec := "fnExactInterpolateAt", unfollowed := true, recurses := true, apart := false }
def FnExactInterpolateAtSaid : Prop := fnExactInterpolateAtRow.holds Try.pinned (OpenSpec.ofChange fnExactInterpolateAtSpec)

/-- ITS FALSE NEIGHBOUR: 'it returns false'. Refute it at one input. -/
def fnExactInterpolateAtWrong : ChangeSpec := { name := "fnExactInterpolateAt", fn := fun _ => fun
  | [d1, d2, d3, d4] => { results := [.lit (.bool false)], args := [d1, d2, d3, d4] }
  | _ => none }
def FnExactInterpolateAtWrongFalsely : Prop := fnExactInterpolateAtRow.holds Try.pinned (OpenSpec.ofChange fnExactInterpolateAtWrong)

/-- 'laws.FnExactPolyThrough': WHATEVER THE INPUT: true; the input reads as it did. -/
def fnExactPolyThroughSpec : ChangeSpec := { name := "fnExactPolyThrough", fn := fun _ => fun
  | [d1, d2, d3] => { results := [.lit (.bool true)], args := [d1, d2, d3] }
  | _ => none }
def fnExactPolyThroughRow : OpenClaim := { program := "ytpeoiemcfpghkaa", sum := "f5d45ab05604a297df53c39de360464c40f23038cd78d4176aa86f3cd562e317", func := "loop.example/g00877/laws.FnExactPolyThrough", spec := "fnExactPolyThrough", unfollowed := true, recurses := true, apart := false }
def FnExactPolyThroughSaid : Prop := fnExactPolyThroughRow.holds Try.pinned (OpenSpec.ofChange fnExactPolyThroughSpec)

/-- ITS FALSE NEIGHBOUR: 'it returns false'. Refute it at one input. -/
def fnExactPolyThroughWrong : ChangeSpec := { name := "fnExactPolyThrough", fn := fun _ => fun
  | [d1, d2, d3] => { results := [.lit (.bool false)], args := [d1, d2, d3] }
  | _ => none }
def FnExactPolyThroughWrongFalsely : Prop := fnExactPolyThroughRow.holds Try.pinned (OpenSpec.ofChange fnExactPolyThroughWrong)

/-- 'laws.FnExactJoinThreshold': WHATEVER THE INPUT: true; the input reads as it did. -/
def fnExactJoinThresholdSpec : ChangeSpec := { name := "fnExactJoinThreshold", fn := fun _ => fun
  | [d1, d2, d3] => { results := [.lit (.bool true)], args := [d1, d2, d3] }
  | _ => none }
def fnExactJoinThresholdRow : OpenClaim := { program := "ytpeoiemcfpghkaa", sum := "f5d45ab05604a297df53c39de360464c40f23038cd78d4176aa86f3cd562e317", func := "loop.example/g00877/laws.FnExactJoinThreshold", spec := "fnExactJoinThreshold", unfollowed := true, recurses := true, apart := false }
def FnExactJoinThresholdSaid : Prop := fnExactJoinThresholdRow.holds Try.pinned (OpenSpec.ofChange fnExactJoinThresholdSpec)

/-- ITS FALSE NEIGHBOUR: 'it returns false'. Refute it at one input. -/
def fnExactJoinThresholdWrong : ChangeSpec := { name := "fnExactJoinThreshold", fn := fun _ => fun
  | [d1, d2, d3] => { results := [.lit (.bool false)], args := [d1, d2, d3] }
  | _ => none }
def FnExactJoinThresholdWrongFalsely : Prop := fnExactJoinThresholdRow.holds Try.pinned (OpenSpec.ofChange fnExactJoinThresholdWrong)

/-- 'laws.FnExactShareFor': WHATEVER THE INPUT: true; the input reads as it did. -/
def fnExactShareForSpec : ChangeSpec := { name := "fnExactShareFor", fn := fun _ => fun
  | [d1, d2, d3, d4] => { results := [.lit (.bool true)], args := [d1, d2, d3, d4] }
  | _ => none }
def fnExactShareForRow : OpenClaim := { program := "ytpeoiemcfpghkaa", sum := "f5d45ab05604a297df53c39de360464c40f23038cd78d4176aa86f3cd562e317", func := "loop.example/g00877/laws.FnExactShareFor", spec := "fnExactShareFor", unfollowed := true, recurses := true, apart := false }
def FnExactShareForSaid : Prop := fnExactShareForRow.holds Try.pinned (OpenSpec.ofChange fnExactShareForSpec)

/-- ITS FALSE NEIGHBOUR: 'it returns false'. Refute it at one input. -/
def fnExactShareForWrong : ChangeSpec := { name := "fnExactShareFor", fn := fun _ => fun
  | [d1, d2, d3, d4] => { results := [.lit (.bool false)], args := [d1, d2, d3, d4] }
  | _ => none }
def FnExactShareForWrongFalsely : Prop := fnExactShareForRow.holds Try.pinned (OpenSpec.ofChange fnExactShareForWrong)

/-- 'laws.FnExactLagrangeWeights': WHATEVER THE INPUT: true; the input reads as it did. -/
def fnExactLagrangeWeightsSpec : ChangeSpec := { name := "fnExactLagrangeWeights", fn := fun _ => fun
  | [d1, d2] => { results := [.lit (.bool true)], args := [d1, d2] }
  | _ => none }
def fnExactLagrangeWeightsRow : OpenClaim := { program := "ytpeoiemcfpghkaa", sum := "f5d45ab05604a297df53c39de360464c40f23038cd78d4176aa86f3cd562e317", func := "loop.example/g00877/laws.FnExactLagrangeWeights", spec := "fnExactLagrangeWeights", unfollowed := true, recurses := true, apart := false }
def FnExactLagrangeWeightsSaid : Prop := fnExactLagrangeWeightsRow.holds Try.pinned (OpenSpec.ofChange fnExactLagrangeWeightsSpec)

/-- ITS FALSE NEIGHBOUR: 'it returns false'. Refute it at one input. -/
def fnExactLagrangeWeightsWrong : ChangeSpec := { name := "fnExactLagrangeWeights", fn := fun _ => fun
  | [d1, d2] => { results := [.lit (.bool false)], args := [d1, d2] }
  | _ => none }
def FnExactLagrangeWeightsWrongFalsely : Prop := fnExactLagrangeWeightsRow.holds Try.pinned (OpenSpec.ofChange fnExactLagrangeWeightsWrong)

/-- 'laws.FnExactAreShares': WHATEVER THE INPUT: true; the input reads as it did. -/
def fnExactAreSharesSpec : ChangeSpec := { name := "fnExactAreShares", fn := fun _ => fun
  | [d1, d2, d3, d4] => { results := [.lit (.bool true)], args := [d1, d2, d3, d4] }
  | _ => none }
def fnExactAreSharesRow : OpenClaim := { program := "ytpeoiemcfpghkaa", sum := "f5d45ab05604a297df53c39de360464c40f23038cd78d4176aa86f3cd562e317", func := "loop.example/g00877/laws.FnExactAreShares", spec := "fnExactAreShares", unfollowed := true, recurses := true, apart := false }
def FnExactAreSharesSaid : Prop := fnExactAreSharesRow.holds Try.pinned (OpenSpec.ofChange fnExactAreSharesSpec)

/-- ITS FALSE NEIGHBOUR: 'it returns false'. Refute it at one input. -/
def fnExactAreSharesWrong : ChangeSpec := { name := "fnExactAreShares", fn := fun _ => fun
  | [d1, d2, d3, d4] => { results := [.lit (.bool false)], args := [d1, d2, d3, d4] }
  | _ => none }
def FnExactAreSharesWrongFalsely : Prop := fnExactAreSharesRow.holds Try.pinned (OpenSpec.ofChange fnExactAreSharesWrong)

/-- 'laws.FnExactCountPolynomials': WHATEVER THE INPUT: true; the input reads as it did. -/
def fnExactCountPolynomialsSpec : ChangeSpec := { name := "fnExactCountPolynomials", fn := fun _ => fun
  | [d1, d2, d3, d4, d5] => { results := [.lit (.bool true)], args := [d1, d2, d3, d4, d5] }
  | _ => none }
def fnExactCountPolynomialsRow : OpenClaim := { program := "ytpeoiemcfpghkaa", sum := "f5d45ab05604a297df53c39de360464c40f23038cd78d4176aa86f3cd562e317", func := "loop.example/g00877/laws.FnExactCountPolynomials", spec := "fnExactCountPolynomials", unfollowed := true, recurses := true, apart := false }
def FnExactCountPolynomialsSaid : Prop := fnExactCountPolynomialsRow.holds Try.pinned (OpenSpec.ofChange fnExactCountPolynomialsSpec)

/-- ITS FALSE NEIGHBOUR: 'it returns false'. Refute it at one input. -/
def fnExactCountPolynomialsWrong : ChangeSpec := { name := "fnExactCountPolynomials", fn := fun _ => fun
  | [d1, d2, d3, d4, d5] => { results := [.lit (.bool false)], args := [d1, d2, d3, d4, d5] }
  | _ => none }
def FnExactCountPolynomialsWrongFalsely : Prop := fnExactCountPolynomialsRow.holds Try.pinned (OpenSpec.ofChange fnExactCountPolynomialsWrong)

/-- 'laws.FnExactFindWrong': WHATEVER THE INPUT: true; the input reads as it did. -/
def fnExactFindWrongSpec : ChangeSpec := { name := "fnExactFindWrong", fn := fun _ => fun
  | [d1, d2, d3, d4] => { results := [.lit (.bool true)], args := [d1, d2, d3, d4] }
  | _ => none }
def fnExactFindWrongRow : OpenClaim := { program := "ytpeoiemcfpghkaa", sum := "f5d45ab05604a297df53c39de360464c40f23038cd78d4176aa86f3cd562e317", func := "loop.example/g00877/laws.FnExactFindWrong", spec := "fnExactFindWrong", unfollowed := true, recurses := true, apart := false }
def FnExactFindWrongSaid : Prop := fnExactFindWrongRow.holds Try.pinned (OpenSpec.ofChange fnExactFindWrongSpec)

/-- ITS FALSE NEIGHBOUR: 'it returns false'. Refute it at one input. -/
def fnExactFindWrongWrong : ChangeSpec := { name := "fnExactFindWrong", fn := fun _ => fun
  | [d1, d2, d3, d4] => { results := [.lit (.bool false)], args := [d1, d2, d3, d4] }
  | _ => none }
def FnExactFindWrongWrongFalsely : Prop := fnExactFindWrongRow.holds Try.pinned (OpenSpec.ofChange fnExactFindWrongWrong)

/-- 'laws.FnExactJoinDespite': WHATEVER THE INPUT: true; the input reads as it did. -/
def fnExactJoinDespiteSpec : ChangeSpec := { name := "fnExactJoinDespite", fn := fun _ => fun
  | [d1, d2, d3, d4] => { results := [.lit (.bool true)], args := [d1, d2, d3, d4] }
  | _ => none }
def fnExactJoinDespiteRow : OpenClaim := { program := "ytpeoiemcfpghkaa", sum := "f5d45ab05604a297df53c39de360464c40f23038cd78d4176aa86f3cd562e317", func := "loop.example/g00877/laws.FnExactJoinDespite", spec := "fnExactJoinDespite", unfollowed := true, recurses := true, apart := false }
def FnExactJoinDespiteSaid : Prop := fnExactJoinDespiteRow.holds Try.pinned (OpenSpec.ofChange fnExactJoinDespiteSpec)

/-- ITS FALSE NEIGHBOUR: 'it returns false'. Refute it at one input. -/
def fnExactJoinDespiteWrong : ChangeSpec := { name := "fnExactJoinDespite", fn := fun _ => fun
  | [d1, d2, d3, d4] => { results := [.lit (.bool false)], args := [d1, d2, d3, d4] }
  | _ => none }
def FnExactJoinDespiteWrongFalsely : Prop := fnExactJoinDespiteRow.holds Try.pinned (OpenSpec.ofChange fnExactJoinDespiteWrong)

/-- 'laws.FnExactRefreshHolders': WHATEVER THE INPUT: true; the input reads as it did. -/
def fnExactRefreshHoldersSpec : ChangeSpec := { name := "fnExactRefreshHolders", fn := fun _ => fun
  | [d1, d2, d3, d4] => { results := [.lit (.bool true)], args := [d1, d2, d3, d4] }
  | _ => none }
def fnExactRefreshHoldersRow : OpenClaim := { program := "ytpeoiemcfpghkaa", sum := "f5d45ab05604a297df53c39de360464c40f23038cd78d4176aa86f3cd562e317", func := "loop.example/g00877/laws.FnExactRefreshHolders", spec := "fnExactRefreshHolders", unfollowed := true, recurses := true, apart := false }
def FnExactRefreshHoldersSaid : Prop := fnExactRefreshHoldersRow.holds Try.pinned (OpenSpec.ofChange fnExactRefreshHoldersSpec)

/-- ITS FALSE NEIGHBOUR: 'it returns false'. Refute it at one input. -/
def fnExactRefreshHoldersWrong : ChangeSpec := { name := "fnExactRefreshHolders", fn := fun _ => fun
  | [d1, d2, d3, d4] => { results := [.lit (.bool false)], args := [d1, d2, d3, d4] }
  | _ => none }
def FnExactRefreshHoldersWrongFalsely : Prop := fnExactRefreshHoldersRow.holds Try.pinned (OpenSpec.ofChange fnExactRefreshHoldersWrong)

/-- 'laws.FnExactSolveLinear': WHATEVER THE INPUT: true; the input reads as it did. -/
def fnExactSolveLinearSpec : ChangeSpec := { name := "fnExactSolveLinear", fn := fun _ => fun
  | [d1, d2, d3] => { results := [.lit (.bool true)], args := [d1, d2, d3] }
  | _ => none }
def fnExactSolveLinearRow : OpenClaim := { program := "ytpeoiemcfpghkaa", sum := "f5d45ab05604a297df53c39de360464c40f23038cd78d4176aa86f3cd562e317", func := "loop.example/g00877/laws.FnExactSolveLinear", spec := "fnExactSolveLinear", unfollowed := true, recurses := true, apart := false }
def FnExactSolveLinearSaid : Prop := fnExactSolveLinearRow.holds Try.pinned (OpenSpec.ofChange fnExactSolveLinearSpec)

/-- ITS FALSE NEIGHBOUR: 'it returns false'. Refute it at one input. -/
def fnExactSolveLinearWrong : ChangeSpec := { name := "fnExactSolveLinear", fn := fun _ => fun
  | [d1, d2, d3] => { results := [.lit (.bool false)], args := [d1, d2, d3] }
  | _ => none }
def FnExactSolveLinearWrongFalsely : Prop := fnExactSolveLinearRow.holds Try.pinned (OpenSpec.ofChange fnExactSolveLinearWrong)

/-- 'laws.FnExactElementsOf': WHATEVER THE INPUT: true; the input reads as it did. -/
def fnExactElementsOfSpec : ChangeSpec := { name := "fnExactElementsOf", fn := fun _ => fun
  | [d] => { results := [.lit (.bool true)], args := [d] }
  | _ => none }
def fnExactElementsOfRow : OpenClaim := { program := "ytpeoiemcfpghkaa", sum := "f5d45ab05604a297df53c39de360464c40f23038cd78d4176aa86f3cd562e317", func := "loop.example/g00877/laws.FnExactElementsOf", spec := "fnExactElementsOf", recurses := true, apart := false }
def FnExactElementsOfSaid : Prop := fnExactElementsOfRow.holds Try.pinned (OpenSpec.ofChange fnExactElementsOfSpec)

/-- ITS FALSE NEIGHBOUR: 'it returns false'. Refute it at one input. -/
def fnExactElementsOfWrong : ChangeSpec := { name := "fnExactElementsOf", fn := fun _ => fun
  | [d] => { results := [.lit (.bool false)], args := [d] }
  | _ => none }
def FnExactElementsOfWrongFalsely : Prop := fnExactElementsOfRow.holds Try.pinned (OpenSpec.ofChange fnExactElementsOfWrong)

/- THE SECOND FORM. 'bulk': how many values and letters a reading holds, each counted each time it is reached (what is shared counts as often as it is met; a slice's spare places count too). A statement '..UptoSaid' is the law's where the arguments, and the package variables that the reading takes, are together of bulk at most 1048576: NARROWER than '..Said'. Prove '..Said' where nothing that the law and all that it calls make is longer than what came in: it says more and counts as full. Else prove '..UptoSaid'. A law counts once. -/
mutual
def uptoBulk {H : Type} : DataW H → Nat
  | .lit (.string bytes) => bytes.length + 1
  | .lit _ => 1
  | .nil => 1
  | .ptr d => uptoBulk d + 1
  | .slice elems spare => uptoBulkAll elems + uptoBulkAll spare + 1
  | .agg parts => uptoBulkAll parts + 1
  | .iface _ d => uptoBulk d + 1
  | .map entries => uptoBulkEntries entries + 1
  | .held _ => 1
def uptoBulkAll {H : Type} : List (DataW H) → Nat
  | [] => 0
  | d :: r => uptoBulk d + uptoBulkAll r
def uptoBulkEntries {H : Type} : List (Lit × DataW H) → Nat
  | [] => 0
  | x :: r => uptoBulkEntry x + uptoBulkEntries r
def uptoBulkEntry {H : Type} : Lit × DataW H → Nat
  | (.string bytes, d) => bytes.length + uptoBulk d + 1
  | (_, d) => uptoBulk d + 1
 end
def uptoSmall : (H : Type) → List (DataW H) → Bool := fun _ ds => decide (uptoBulkAll ds ≤ 1048576)
def OpenSpec.upto (s : _root_.Go.ChangeSpec) : _root_.Go.OpenSpec := { _root_.Go.OpenSpec.ofChange s with cond := some uptoSmall }

/-- 'laws.FnExactInterpolateAt', WHERE WHAT IT READS IS OF BULK AT MOST 1048576: true; the input reads as it did. -/
def fnExactInterpolateAtUptoRow : OpenClaim := { program := "ytpeoiemcfpghkaa", sum := "f5d45ab05604a297df53c39de360464c40f23038cd78d4176aa86f3cd562e317", func := "loop.example/g00877/laws.FnExactInterpolateAt", spec := "fnExactInterpolateAt", unfollowed := true, recurses := true, apart := false, narrowed := true }
def FnExactInterpolateAtUptoSaid : Prop := fnExactInterpolateAtUptoRow.holds Try.pinned (OpenSpec.upto fnExactInterpolateAtSpec)

/-- 'laws.FnExactPolyThrough', WHERE WHAT IT READS IS OF BULK AT MOST 1048576: true; the input reads as it did. -/
def fnExactPolyThroughUptoRow : OpenClaim := { program := "ytpeoiemcfpghkaa", sum := "f5d45ab05604a297df53c39de360464c40f23038cd78d4176aa86f3cd562e317", func := "loop.example/g00877/laws.FnExactPolyThrough", spec := "fnExactPolyThrough", unfollowed := true, recurses := true, apart := false, narrowed := true }
def FnExactPolyThroughUptoSaid : Prop := fnExactPolyThroughUptoRow.holds Try.pinned (OpenSpec.upto fnExactPolyThroughSpec)

/-- 'laws.FnExactJoinThreshold', WHERE WHAT IT READS IS OF BULK AT MOST 1048576: true; the input reads as it did. -/
def fnExactJoinThresholdUptoRow : OpenClaim := { program := "ytpeoiemcfpghkaa", sum := "f5d45ab05604a297df53c39de360464c40f23038cd78d4176aa86f3cd562e317", func := "loop.example/g00877/laws.FnExactJoinThreshold", spec := "fnExactJoinThreshold", unfollowed := true, recurses := true, apart := false, narrowed := true }
def FnExactJoinThresholdUptoSaid : Prop := fnExactJoinThresholdUptoRow.holds Try.pinned (OpenSpec.upto fnExactJoinThresholdSpec)

/-- 'laws.FnExactShareFor', WHERE WHAT IT READS IS OF BULK AT MOST 1048576: true; the input reads as it did. -/
def fnExactShareForUptoRow : OpenClaim := { program := "ytpeoiemcfpghkaa", sum := "f5d45ab05604a297df53c39de360464c40f23038cd78d4176aa86f3cd562e317", func := "loop.example/g00877/laws.FnExactShareFor", spec := "fnExactShareFor", unfollowed := true, recurses := true, apart := false, narrowed := true }
def FnExactShareForUptoSaid : Prop := fnExactShareForUptoRow.holds Try.pinned (OpenSpec.upto fnExactShareForSpec)

/-- 'laws.FnExactLagrangeWeights', WHERE WHAT IT READS IS OF BULK AT MOST 1048576: true; the input reads as it did. -/
def fnExactLagrangeWeightsUptoRow : OpenClaim := { program := "ytpeoiemcfpghkaa", sum := "f5d45ab05604a297df53c39de360464c40f23038cd78d4176aa86f3cd562e317", func := "loop.example/g00877/laws.FnExactLagrangeWeights", spec := "fnExactLagrangeWeights", unfollowed := true, recurses := true, apart := false, narrowed := true }
def FnExactLagrangeWeightsUptoSaid : Prop := fnExactLagrangeWeightsUptoRow.holds Try.pinned (OpenSpec.upto fnExactLagrangeWeightsSpec)

/-- 'laws.FnExactAreShares', WHERE WHAT IT READS IS OF BULK AT MOST 1048576: true; the input reads as it did. -/
def fnExactAreSharesUptoRow : OpenClaim := { program := "ytpeoiemcfpghkaa", sum := "f5d45ab05604a297df53c39de360464c40f23038cd78d4176aa86f3cd562e317", func := "loop.example/g00877/laws.FnExactAreShares", spec := "fnExactAreShares", unfollowed := true, recurses := true, apart := false, narrowed := true }
def FnExactAreSharesUptoSaid : Prop := fnExactAreSharesUptoRow.holds Try.pinned (OpenSpec.upto fnExactAreSharesSpec)

/-- 'laws.FnExactCountPolynomials', WHERE WHAT IT READS IS OF BULK AT MOST 1048576: true; the input reads as it did. -/
def fnExactCountPolynomialsUptoRow : OpenClaim := { program := "ytpeoiemcfpghkaa", sum := "f5d45ab05604a297df53c39de360464c40f23038cd78d4176aa86f3cd562e317", func := "loop.example/g00877/laws.FnExactCountPolynomials", spec := "fnExactCountPolynomials", unfollowed := true, recurses := true, apart := false, narrowed := true }
def FnExactCountPolynomialsUptoSaid : Prop := fnExactCountPolynomialsUptoRow.holds Try.pinned (OpenSpec.upto fnExactCountPolynomialsSpec)

/-- 'laws.FnExactFindWrong', WHERE WHAT IT READS IS OF BULK AT MOST 1048576: true; the input reads as it did. -/
def fnExactFindWrongUptoRow : OpenClaim := { program := "ytpeoiemcfpghkaa", sum := "f5d45ab05604a297df53c39de360464c40f23038cd78d4176aa86f3cd562e317", func := "loop.example/g00877/laws.FnExactFindWrong", spec := "fnExactFindWrong", unfollowed := true, recurses := true, apart := false, narrowed := true }
def FnExactFindWrongUptoSaid : Prop := fnExactFindWrongUptoRow.holds Try.pinned (OpenSpec.upto fnExactFindWrongSpec)

/-- 'laws.FnExactJoinDespite', WHERE WHAT IT READS IS OF BULK AT MOST 1048576: true; the input reads as it did. -/
def fnExactJoinDespiteUptoRow : OpenClaim := { program := "ytpeoiemcfpghkaa", sum := "f5d45ab05604a297df53c39de360464c40f23038cd78d4176aa86f3cd562e317", func := "loop.example/g00877/laws.FnExactJoinDespite", spec := "fnExactJoinDespite", unfollowed := true, recurses := true, apart := false, narrowed := true }
def FnExactJoinDespiteUptoSaid : Prop := fnExactJoinDespiteUptoRow.holds Try.pinned (OpenSpec.upto fnExactJoinDespiteSpec)

/-- 'laws.FnExactRefreshHolders', WHERE WHAT IT READS IS OF BULK AT MOST 1048576: true; the input reads as it did. -/
def fnExactRefreshHoldersUptoRow : OpenClaim := { program := "ytpeoiemcfpghkaa", sum := "f5d45ab05604a297df53c39de360464c40f23038cd78d4176aa86f3cd562e317", func := "loop.example/g00877/laws.FnExactRefreshHolders", spec := "fnExactRefreshHolders", unfollowed := true, recurses := true, apart := false, narrowed := true }
def FnExactRefreshHoldersUptoSaid : Prop := fnExactRefreshHoldersUptoRow.holds Try.pinned (OpenSpec.upto fnExactRefreshHoldersSpec)

/-- 'laws.FnExactSolveLinear', WHERE WHAT IT READS IS OF BULK AT MOST 1048576: true; the input reads as it did. -/
def fnExactSolveLinearUptoRow : OpenClaim := { program := "ytpeoiemcfpghkaa", sum := "f5d45ab05604a297df53c39de360464c40f23038cd78d4176aa86f3cd562e317", func := "loop.example/g00877/laws.FnExactSolveLinear", spec := "fnExactSolveLinear", unfollowed := true, recurses := true, apart := false, narrowed := true }
def FnExactSolveLinearUptoSaid : Prop := fnExactSolveLinearUptoRow.holds Try.pinned (OpenSpec.upto fnExactSolveLinearSpec)

/-- 'laws.FnExactElementsOf', WHERE WHAT IT READS IS OF BULK AT MOST 1048576: true; the input reads as it did. -/
def fnExactElementsOfUptoRow : OpenClaim := { program := "ytpeoiemcfpghkaa", sum := "f5d45ab05604a297df53c39de360464c40f23038cd78d4176aa86f3cd562e317", func := "loop.example/g00877/laws.FnExactElementsOf", spec := "fnExactElementsOf", recurses := true, apart := false, narrowed := true }
def FnExactElementsOfUptoSaid : Prop := fnExactElementsOfUptoRow.holds Try.pinned (OpenSpec.upto fnExactElementsOfSpec)

end Rows
end Go.Proofs.Ytpeoiemcfpghkaa
