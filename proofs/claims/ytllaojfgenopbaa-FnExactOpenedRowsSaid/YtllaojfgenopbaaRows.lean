/-
  No cell of these rows narrows 'for every input' (looked for: loops, veiled, ifaces, maps, wideKeys, modest, calm, conditions, laid).
  DERIVED. THE GIVEN ROWS OF THIS SEAT. 8 by the template 'for every input the law returns true; each argument reads behind the call as it read before'; 0 by the template 'total and deterministic' (their statements: YtllaojfgenopbaaTotals.lean).
  GIVEN WITH THE SEED: the statements are not yours to turn. If you find one false, say at which input.
  Laid BY PROGRAM, IN A SANDBOX (cutbox-rows.mjs): the forced cells as the released guide's own fill.sh prints them over the translation 711bc0c81d1820d5… (all of the seat's roots in one cut). By AI agents, Wed Nov 11 2026. No macro, syntax, notation, axiom, sorry.
-/
import Derived.Test.YtllaojfgenopbaaChecked
import GoSem.Claim
import GoSem.ClaimJoined
import GoSem.ClaimMapViews
import Derived.JoinedTies
import Derived.KernelRfl
namespace Go.Proofs.Ytllaojfgenopbaa
/- THE CELL 'sum', in the pinned program and in every row, IS THE sha256 OF THE DUMP (.gsa) THAT YtllaojfgenopbaaProg.lean LOADS. Nothing in Lean hashes anything: it is a label: what it is worth is what the hold of that sum in a sandbox is worth. -/
noncomputable def Try.pinned : Pinned := { name := "ytllaojfgenopbaa", sum := "711bc0c81d1820d599027e69f33e1f175201aa235f336b4eb01fcfc64b9cdbc4", checked := Try.checked }
namespace Rows
def none {H : Type} : Left H := { results := [], args := [] }

/-- 'laws.FnExactZeroLabels': WHATEVER THE INPUT: true; the input reads as it did. -/
def fnExactZeroLabelsSpec : ChangeSpec := { name := "fnExactZeroLabels", fn := fun _ => fun
  | [d1, d2, d3] => { results := [.lit (.bool true)], args := [d1, d2, d3] }
  | _ => none }
def fnExactZeroLabelsRow : OpenClaim := { program := "ytllaojfgenopbaa", sum := "711bc0c81d1820d599027e69f33e1f175201aa235f336b4eb01fcfc64b9cdbc4", func := "loop.example/g00877/laws.FnExactZeroLabels", spec := "fnExactZeroLabels", unfollowed := true, recurses := true, apart := false }
def FnExactZeroLabelsSaid : Prop := fnExactZeroLabelsRow.holds Try.pinned (OpenSpec.ofChange fnExactZeroLabelsSpec)

/-- ITS FALSE NEIGHBOUR: 'it returns false'. Refute it at one input. -/
def fnExactZeroLabelsWrong : ChangeSpec := { name := "fnExactZeroLabels", fn := fun _ => fun
  | [d1, d2, d3] => { results := [.lit (.bool false)], args := [d1, d2, d3] }
  | _ => none }
def FnExactZeroLabelsWrongFalsely : Prop := fnExactZeroLabelsRow.holds Try.pinned (OpenSpec.ofChange fnExactZeroLabelsWrong)

/-- 'laws.FnExactTrueLabels': WHATEVER THE INPUT: true; the input reads as it did. -/
def fnExactTrueLabelsSpec : ChangeSpec := { name := "fnExactTrueLabels", fn := fun _ => fun
  | [d1, d2, d3, d4] => { results := [.lit (.bool true)], args := [d1, d2, d3, d4] }
  | _ => none }
def fnExactTrueLabelsRow : OpenClaim := { program := "ytllaojfgenopbaa", sum := "711bc0c81d1820d599027e69f33e1f175201aa235f336b4eb01fcfc64b9cdbc4", func := "loop.example/g00877/laws.FnExactTrueLabels", spec := "fnExactTrueLabels", unfollowed := true, recurses := true, apart := false }
def FnExactTrueLabelsSaid : Prop := fnExactTrueLabelsRow.holds Try.pinned (OpenSpec.ofChange fnExactTrueLabelsSpec)

/-- ITS FALSE NEIGHBOUR: 'it returns false'. Refute it at one input. -/
def fnExactTrueLabelsWrong : ChangeSpec := { name := "fnExactTrueLabels", fn := fun _ => fun
  | [d1, d2, d3, d4] => { results := [.lit (.bool false)], args := [d1, d2, d3, d4] }
  | _ => none }
def FnExactTrueLabelsWrongFalsely : Prop := fnExactTrueLabelsRow.holds Try.pinned (OpenSpec.ofChange fnExactTrueLabelsWrong)

/-- 'laws.FnExactHalfZeros': WHATEVER THE INPUT: true; the input reads as it did. -/
def fnExactHalfZerosSpec : ChangeSpec := { name := "fnExactHalfZeros", fn := fun _ => fun
  | [d1, d2, d3] => { results := [.lit (.bool true)], args := [d1, d2, d3] }
  | _ => none }
def fnExactHalfZerosRow : OpenClaim := { program := "ytllaojfgenopbaa", sum := "711bc0c81d1820d599027e69f33e1f175201aa235f336b4eb01fcfc64b9cdbc4", func := "loop.example/g00877/laws.FnExactHalfZeros", spec := "fnExactHalfZeros", unfollowed := true, recurses := true, apart := false }
def FnExactHalfZerosSaid : Prop := fnExactHalfZerosRow.holds Try.pinned (OpenSpec.ofChange fnExactHalfZerosSpec)

/-- ITS FALSE NEIGHBOUR: 'it returns false'. Refute it at one input. -/
def fnExactHalfZerosWrong : ChangeSpec := { name := "fnExactHalfZeros", fn := fun _ => fun
  | [d1, d2, d3] => { results := [.lit (.bool false)], args := [d1, d2, d3] }
  | _ => none }
def FnExactHalfZerosWrongFalsely : Prop := fnExactHalfZerosRow.holds Try.pinned (OpenSpec.ofChange fnExactHalfZerosWrong)

/-- 'laws.FnExactHalveCircuit': WHATEVER THE INPUT: true; the input reads as it did. -/
def fnExactHalveCircuitSpec : ChangeSpec := { name := "fnExactHalveCircuit", fn := fun _ => fun
  | [d1, d2, d3] => { results := [.lit (.bool true)], args := [d1, d2, d3] }
  | _ => none }
def fnExactHalveCircuitRow : OpenClaim := { program := "ytllaojfgenopbaa", sum := "711bc0c81d1820d599027e69f33e1f175201aa235f336b4eb01fcfc64b9cdbc4", func := "loop.example/g00877/laws.FnExactHalveCircuit", spec := "fnExactHalveCircuit", unfollowed := true, recurses := true, apart := false }
def FnExactHalveCircuitSaid : Prop := fnExactHalveCircuitRow.holds Try.pinned (OpenSpec.ofChange fnExactHalveCircuitSpec)

/-- ITS FALSE NEIGHBOUR: 'it returns false'. Refute it at one input. -/
def fnExactHalveCircuitWrong : ChangeSpec := { name := "fnExactHalveCircuit", fn := fun _ => fun
  | [d1, d2, d3] => { results := [.lit (.bool false)], args := [d1, d2, d3] }
  | _ => none }
def FnExactHalveCircuitWrongFalsely : Prop := fnExactHalveCircuitRow.holds Try.pinned (OpenSpec.ofChange fnExactHalveCircuitWrong)

/-- 'laws.FnExactGarbleCircuit': WHATEVER THE INPUT: true; the input reads as it did. -/
def fnExactGarbleCircuitSpec : ChangeSpec := { name := "fnExactGarbleCircuit", fn := fun _ => fun
  | [d1, d2, d3] => { results := [.lit (.bool true)], args := [d1, d2, d3] }
  | _ => none }
def fnExactGarbleCircuitRow : OpenClaim := { program := "ytllaojfgenopbaa", sum := "711bc0c81d1820d599027e69f33e1f175201aa235f336b4eb01fcfc64b9cdbc4", func := "loop.example/g00877/laws.FnExactGarbleCircuit", spec := "fnExactGarbleCircuit", unfollowed := true, recurses := true, apart := false }
def FnExactGarbleCircuitSaid : Prop := fnExactGarbleCircuitRow.holds Try.pinned (OpenSpec.ofChange fnExactGarbleCircuitSpec)

/-- ITS FALSE NEIGHBOUR: 'it returns false'. Refute it at one input. -/
def fnExactGarbleCircuitWrong : ChangeSpec := { name := "fnExactGarbleCircuit", fn := fun _ => fun
  | [d1, d2, d3] => { results := [.lit (.bool false)], args := [d1, d2, d3] }
  | _ => none }
def FnExactGarbleCircuitWrongFalsely : Prop := fnExactGarbleCircuitRow.holds Try.pinned (OpenSpec.ofChange fnExactGarbleCircuitWrong)

/-- 'laws.FnExactOpenedRows': WHATEVER THE INPUT: true; the input reads as it did. -/
def fnExactOpenedRowsSpec : ChangeSpec := { name := "fnExactOpenedRows", fn := fun _ => fun
  | [d1, d2, d3, d4, d5] => { results := [.lit (.bool true)], args := [d1, d2, d3, d4, d5] }
  | _ => none }
def fnExactOpenedRowsRow : OpenClaim := { program := "ytllaojfgenopbaa", sum := "711bc0c81d1820d599027e69f33e1f175201aa235f336b4eb01fcfc64b9cdbc4", func := "loop.example/g00877/laws.FnExactOpenedRows", spec := "fnExactOpenedRows", unfollowed := true, recurses := true, apart := false }
def FnExactOpenedRowsSaid : Prop := fnExactOpenedRowsRow.holds Try.pinned (OpenSpec.ofChange fnExactOpenedRowsSpec)

/-- ITS FALSE NEIGHBOUR: 'it returns false'. Refute it at one input. -/
def fnExactOpenedRowsWrong : ChangeSpec := { name := "fnExactOpenedRows", fn := fun _ => fun
  | [d1, d2, d3, d4, d5] => { results := [.lit (.bool false)], args := [d1, d2, d3, d4, d5] }
  | _ => none }
def FnExactOpenedRowsWrongFalsely : Prop := fnExactOpenedRowsRow.holds Try.pinned (OpenSpec.ofChange fnExactOpenedRowsWrong)

/-- 'laws.FnExactRunHalved': WHATEVER THE INPUT: true; the input reads as it did. -/
def fnExactRunHalvedSpec : ChangeSpec := { name := "fnExactRunHalved", fn := fun _ => fun
  | [d1, d2, d3, d4] => { results := [.lit (.bool true)], args := [d1, d2, d3, d4] }
  | _ => none }
def fnExactRunHalvedRow : OpenClaim := { program := "ytllaojfgenopbaa", sum := "711bc0c81d1820d599027e69f33e1f175201aa235f336b4eb01fcfc64b9cdbc4", func := "loop.example/g00877/laws.FnExactRunHalved", spec := "fnExactRunHalved", unfollowed := true, recurses := true, apart := false }
def FnExactRunHalvedSaid : Prop := fnExactRunHalvedRow.holds Try.pinned (OpenSpec.ofChange fnExactRunHalvedSpec)

/-- ITS FALSE NEIGHBOUR: 'it returns false'. Refute it at one input. -/
def fnExactRunHalvedWrong : ChangeSpec := { name := "fnExactRunHalved", fn := fun _ => fun
  | [d1, d2, d3, d4] => { results := [.lit (.bool false)], args := [d1, d2, d3, d4] }
  | _ => none }
def FnExactRunHalvedWrongFalsely : Prop := fnExactRunHalvedRow.holds Try.pinned (OpenSpec.ofChange fnExactRunHalvedWrong)

/-- 'laws.FnExactRunGarbled': WHATEVER THE INPUT: true; the input reads as it did. -/
def fnExactRunGarbledSpec : ChangeSpec := { name := "fnExactRunGarbled", fn := fun _ => fun
  | [d1, d2, d3, d4] => { results := [.lit (.bool true)], args := [d1, d2, d3, d4] }
  | _ => none }
def fnExactRunGarbledRow : OpenClaim := { program := "ytllaojfgenopbaa", sum := "711bc0c81d1820d599027e69f33e1f175201aa235f336b4eb01fcfc64b9cdbc4", func := "loop.example/g00877/laws.FnExactRunGarbled", spec := "fnExactRunGarbled", unfollowed := true, recurses := true, apart := false }
def FnExactRunGarbledSaid : Prop := fnExactRunGarbledRow.holds Try.pinned (OpenSpec.ofChange fnExactRunGarbledSpec)

/-- ITS FALSE NEIGHBOUR: 'it returns false'. Refute it at one input. -/
def fnExactRunGarbledWrong : ChangeSpec := { name := "fnExactRunGarbled", fn := fun _ => fun
  | [d1, d2, d3, d4] => { results := [.lit (.bool false)], args := [d1, d2, d3, d4] }
  | _ => none }
def FnExactRunGarbledWrongFalsely : Prop := fnExactRunGarbledRow.holds Try.pinned (OpenSpec.ofChange fnExactRunGarbledWrong)

/- THE SECOND FORM. 'bulk': how many values and letters a reading holds, each counted each time it is reached (what is shared counts as often as it is met; a slice's spare places count too). A statement '..UptoSaid' is the law's where the arguments, and the package variables that the reading takes, are together of bulk at most 1048576: NARROWER than '..Said'. Prove '..Said' where nothing that the law and all that it calls make is longer than what came in: it says more and counts as full. Else prove '..UptoSaid'. A law counts once. -/
mutual
def uptoBulk {H : Type} : DataW H → Nat
  | .lit (.string bytes) => bytes.length + 1
  | .lit _ => 1
  | .nil => 1
  | .ptr d => uptoBulk d + 1
  | .slice elems spare => uptoBulkAll elems + uptoBulkAll spare + 1
  | .agg parts => uptoBulkAll parts + 1
  | .iface _ d => uptoBulk d + 1
  | .map entries => uptoBulkEntries entries + 1
  | .held _ => 1
def uptoBulkAll {H : Type} : List (DataW H) → Nat
  | [] => 0
  | d :: r => uptoBulk d + uptoBulkAll r
def uptoBulkEntries {H : Type} : List (Lit × DataW H) → Nat
  | [] => 0
  | x :: r => uptoBulkEntry x + uptoBulkEntries r
def uptoBulkEntry {H : Type} : Lit × DataW H → Nat
  | (.string bytes, d) => bytes.length + uptoBulk d + 1
  | (_, d) => uptoBulk d + 1
 end
def uptoSmall : (H : Type) → List (DataW H) → Bool := fun _ ds => decide (uptoBulkAll ds ≤ 1048576)
def OpenSpec.upto (s : _root_.Go.ChangeSpec) : _root_.Go.OpenSpec := { _root_.Go.OpenSpec.ofChange s with cond := some uptoSmall }

/-- 'laws.FnExactZeroLabels', WHERE WHAT IT READS IS OF BULK AT MOST 1048576: true; the input reads as it did. -/
def fnExactZeroLabelsUptoRow : OpenClaim := { program := "ytllaojfgenopbaa", sum := "711bc0c81d1820d599027e69f33e1f175201aa235f336b4eb01fcfc64b9cdbc4", func := "loop.example/g00877/laws.FnExactZeroLabels", spec := "fnExactZeroLabels", unfollowed := true, recurses := true, apart := false, narrowed := true }
def FnExactZeroLabelsUptoSaid : Prop := fnExactZeroLabelsUptoRow.holds Try.pinned (OpenSpec.upto fnExactZeroLabelsSpec)

/-- 'laws.FnExactTrueLabels', WHERE WHAT IT READS IS OF BULK AT MOST 1048576: true; the input reads as it did. -/
def fnExactTrueLabelsUptoRow : OpenClaim := { program := "ytllaojfgenopbaa", sum := "711bc0c81d1820d599027e69f33e1f175201aa235f336b4eb01fcfc64b9cdbc4", func := "loop.example/g00877/laws.FnExactTrueLabels", spec := "fnExactTrueLabels", unfollowed := true, recurses := true, apart := false, narrowed := true }
def FnExactTrueLabelsUptoSaid : Prop := fnExactTrueLabelsUptoRow.holds Try.pinned (OpenSpec.upto fnExactTrueLabelsSpec)

/-- 'laws.FnExactHalfZeros', WHERE WHAT IT READS IS OF BULK AT MOST 1048576: true; the input reads as it did. -/
def fnExactHalfZerosUptoRow : OpenClaim := { program := "ytllaojfgenopbaa", sum := "711bc0c81d1820d599027e69f33e1f175201aa235f336b4eb01fcfc64b9cdbc4", func := "loop.example/g00877/laws.FnExactHalfZeros", spec := "fnExactHalfZeros", unfollowed := true, recurses := true, apart := false, narrowed := true }
def FnExactHalfZerosUptoSaid : Prop := fnExactHalfZerosUptoRow.holds Try.pinned (OpenSpec.upto fnExactHalfZerosSpec)

/-- 'laws.FnExactHalveCircuit', WHERE WHAT IT READS IS OF BULK AT MOST 1048576: true; the input reads as it did. -/
def fnExactHalveCircuitUptoRow : OpenClaim := { program := "ytllaojfgenopbaa", sum := "711bc0c81d1820d599027e69f33e1f175201aa235f336b4eb01fcfc64b9cdbc4", func := "loop.example/g00877/laws.FnExactHalveCircuit", spec := "fnExactHalveCircuit", unfollowed := true, recurses := true, apart := false, narrowed := true }
def FnExactHalveCircuitUptoSaid : Prop := fnExactHalveCircuitUptoRow.holds Try.pinned (OpenSpec.upto fnExactHalveCircuitSpec)

/-- 'laws.FnExactGarbleCircuit', WHERE WHAT IT READS IS OF BULK AT MOST 1048576: true; the input reads as it did. -/
def fnExactGarbleCircuitUptoRow : OpenClaim := { program := "ytllaojfgenopbaa", sum := "711bc0c81d1820d599027e69f33e1f175201aa235f336b4eb01fcfc64b9cdbc4", func := "loop.example/g00877/laws.FnExactGarbleCircuit", spec := "fnExactGarbleCircuit", unfollowed := true, recurses := true, apart := false, narrowed := true }
def FnExactGarbleCircuitUptoSaid : Prop := fnExactGarbleCircuitUptoRow.holds Try.pinned (OpenSpec.upto fnExactGarbleCircuitSpec)

/-- 'laws.FnExactOpenedRows', WHERE WHAT IT READS IS OF BULK AT MOST 1048576: true; the input reads as it did. -/
def fnExactOpenedRowsUptoRow : OpenClaim := { program := "ytllaojfgenopbaa", sum := "711bc0c81d1820d599027e69f33e1f175201aa235f336b4eb01fcfc64b9cdbc4", func := "loop.example/g00877/laws.FnExactOpenedRows", spec := "fnExactOpenedRows", unfollowed := true, recurses := true, apart := false, narrowed := true }
def FnExactOpenedRowsUptoSaid : Prop := fnExactOpenedRowsUptoRow.holds Try.pinned (OpenSpec.upto fnExactOpenedRowsSpec)

/-- 'laws.FnExactRunHalved', WHERE WHAT IT READS IS OF BULK AT MOST 1048576: true; the input reads as it did. -/
def fnExactRunHalvedUptoRow : OpenClaim := { program := "ytllaojfgenopbaa", sum := "711bc0c81d1820d599027e69f33e1f175201aa235f336b4eb01fcfc64b9cdbc4", func := "loop.example/g00877/laws.FnExactRunHalved", spec := "fnExactRunHalved", unfollowed := true, recurses := true, apart := false, narrowed := true }
def FnExactRunHalvedUptoSaid : Prop := fnExactRunHalvedUptoRow.holds Try.pinned (OpenSpec.upto fnExactRunHalvedSpec)

/-- 'laws.FnExactRunGarbled', WHERE WHAT IT READS IS OF BULK AT MOST 1048576: true; the input reads as it did. -/
def fnExactRunGarbledUptoRow : OpenClaim := { program := "ytllaojfgenopbaa", sum := "711bc0c81d1820d599027e69f33e1f175201aa235f336b4eb01fcfc64b9cdbc4", func := "loop.example/g00877/laws.FnExactRunGarbled", spec := "fnExactRunGarbled", unfollowed := true, recurses := true, apart := false, narrowed := true }
def FnExactRunGarbledUptoSaid : Prop := fnExactRunGarbledUptoRow.holds Try.pinned (OpenSpec.upto fnExactRunGarbledSpec)

end Rows
end Go.Proofs.Ytllaojfgenopbaa
