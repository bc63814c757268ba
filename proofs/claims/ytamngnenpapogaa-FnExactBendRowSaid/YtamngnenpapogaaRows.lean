/-
  No cell of these rows narrows 'for every input' (looked for: loops, veiled, ifaces, maps, wideKeys, modest, calm, conditions, laid).
  DERIVED. THE GIVEN ROWS OF THIS SEAT. 12 by the template 'for every input the law returns true; each argument reads behind the call as it read before'; 0 by the template 'total and deterministic' (their statements: YtamngnenpapogaaTotals.lean).
  GIVEN WITH THE SEED: the statements are not yours to turn. If you find one false, say at which input.
  Laid BY PROGRAM, IN A SANDBOX (cutbox-rows.mjs): the forced cells as the released guide's own fill.sh prints them over the translation 107365ba832fe3a1… (all of the seat's roots in one cut). By AI agents, Wed Nov 11 2026. No macro, syntax, notation, axiom, sorry.
-/
import Derived.Test.YtamngnenpapogaaChecked
import GoSem.Claim
import GoSem.ClaimJoined
import GoSem.ClaimMapViews
import Derived.JoinedTies
import Derived.KernelRfl
namespace Go.Proofs.Ytamngnenpapogaa
/- THE CELL 'sum', in the pinned program and in every row, IS THE sha256 OF THE DUMP (.gsa) THAT YtamngnenpapogaaProg.lean LOADS. Nothing in Lean hashes anything: it is a label: what it is worth is what the hold of that sum in a sandbox is worth. -/
noncomputable def Try.pinned : Pinned := { name := "ytamngnenpapogaa", sum := "107365ba832fe3a14571169ee4cb18ef15ead9a5bc40a642cf458f6ce8ae3d42", checked := Try.checked }
namespace Rows
def none {H : Type} : Left H := { results := [], args := [] }

/-- 'laws.FnExactRowsFor': WHATEVER THE INPUT: true; the input reads as it did. -/
def fnExactRowsForSpec : ChangeSpec := { name := "fnExactRowsFor", fn := fun _ => fun
  | [d] => { results := [.lit (.bool true)], args := [d] }
  | _ => none }
def fnExactRowsForRow : OpenClaim := { program := "ytamngnenpapogaa", sum := "107365ba832fe3a14571169ee4cb18ef15ead9a5bc40a642cf458f6ce8ae3d42", func := "loop.example/g00877/laws.FnExactRowsFor", spec := "fnExactRowsFor", unfollowed := true, recurses := true, apart := false }
def FnExactRowsForSaid : Prop := fnExactRowsForRow.holds Try.pinned (OpenSpec.ofChange fnExactRowsForSpec)

/-- ITS FALSE NEIGHBOUR: 'it returns false'. Refute it at one input. -/
def fnExactRowsForWrong : ChangeSpec := { name := "fnExactRowsFor", fn := fun _ => fun
  | [d] => { results := [.lit (.bool false)], args := [d] }
  | _ => none }
def FnExactRowsForWrongFalsely : Prop := fnExactRowsForRow.holds Try.pinned (OpenSpec.ofChange fnExactRowsForWrong)

/-- 'laws.FnExactHalfRows': WHATEVER THE INPUT: true; the input reads as it did. -/
def fnExactHalfRowsSpec : ChangeSpec := { name := "fnExactHalfRows", fn := fun _ => fun
  | [d] => { results := [.lit (.bool true)], args := [d] }
  | _ => none }
def fnExactHalfRowsRow : OpenClaim := { program := "ytamngnenpapogaa", sum := "107365ba832fe3a14571169ee4cb18ef15ead9a5bc40a642cf458f6ce8ae3d42", func := "loop.example/g00877/laws.FnExactHalfRows", spec := "fnExactHalfRows", unfollowed := true, recurses := true, apart := false }
def FnExactHalfRowsSaid : Prop := fnExactHalfRowsRow.holds Try.pinned (OpenSpec.ofChange fnExactHalfRowsSpec)

/-- ITS FALSE NEIGHBOUR: 'it returns false'. Refute it at one input. -/
def fnExactHalfRowsWrong : ChangeSpec := { name := "fnExactHalfRows", fn := fun _ => fun
  | [d] => { results := [.lit (.bool false)], args := [d] }
  | _ => none }
def FnExactHalfRowsWrongFalsely : Prop := fnExactHalfRowsRow.holds Try.pinned (OpenSpec.ofChange fnExactHalfRowsWrong)

/-- 'laws.FnExactRowChunks': WHATEVER THE INPUT: true; the input reads as it did. -/
def fnExactRowChunksSpec : ChangeSpec := { name := "fnExactRowChunks", fn := fun _ => fun
  | [d1, d2] => { results := [.lit (.bool true)], args := [d1, d2] }
  | _ => none }
def fnExactRowChunksRow : OpenClaim := { program := "ytamngnenpapogaa", sum := "107365ba832fe3a14571169ee4cb18ef15ead9a5bc40a642cf458f6ce8ae3d42", func := "loop.example/g00877/laws.FnExactRowChunks", spec := "fnExactRowChunks", unfollowed := true, recurses := true, apart := false }
def FnExactRowChunksSaid : Prop := fnExactRowChunksRow.holds Try.pinned (OpenSpec.ofChange fnExactRowChunksSpec)

/-- ITS FALSE NEIGHBOUR: 'it returns false'. Refute it at one input. -/
def fnExactRowChunksWrong : ChangeSpec := { name := "fnExactRowChunks", fn := fun _ => fun
  | [d1, d2] => { results := [.lit (.bool false)], args := [d1, d2] }
  | _ => none }
def FnExactRowChunksWrongFalsely : Prop := fnExactRowChunksRow.holds Try.pinned (OpenSpec.ofChange fnExactRowChunksWrong)

/-- 'laws.FnExactIsGarbled': WHATEVER THE INPUT: true; the input reads as it did. -/
def fnExactIsGarbledSpec : ChangeSpec := { name := "fnExactIsGarbled", fn := fun _ => fun
  | [d1, d2] => { results := [.lit (.bool true)], args := [d1, d2] }
  | _ => none }
def fnExactIsGarbledRow : OpenClaim := { program := "ytamngnenpapogaa", sum := "107365ba832fe3a14571169ee4cb18ef15ead9a5bc40a642cf458f6ce8ae3d42", func := "loop.example/g00877/laws.FnExactIsGarbled", spec := "fnExactIsGarbled", unfollowed := true, recurses := true, apart := false }
def FnExactIsGarbledSaid : Prop := fnExactIsGarbledRow.holds Try.pinned (OpenSpec.ofChange fnExactIsGarbledSpec)

/-- ITS FALSE NEIGHBOUR: 'it returns false'. Refute it at one input. -/
def fnExactIsGarbledWrong : ChangeSpec := { name := "fnExactIsGarbled", fn := fun _ => fun
  | [d1, d2] => { results := [.lit (.bool false)], args := [d1, d2] }
  | _ => none }
def FnExactIsGarbledWrongFalsely : Prop := fnExactIsGarbledRow.holds Try.pinned (OpenSpec.ofChange fnExactIsGarbledWrong)

/-- 'laws.FnExactIsHalved': WHATEVER THE INPUT: true; the input reads as it did. -/
def fnExactIsHalvedSpec : ChangeSpec := { name := "fnExactIsHalved", fn := fun _ => fun
  | [d1, d2] => { results := [.lit (.bool true)], args := [d1, d2] }
  | _ => none }
def fnExactIsHalvedRow : OpenClaim := { program := "ytamngnenpapogaa", sum := "107365ba832fe3a14571169ee4cb18ef15ead9a5bc40a642cf458f6ce8ae3d42", func := "loop.example/g00877/laws.FnExactIsHalved", spec := "fnExactIsHalved", unfollowed := true, recurses := true, apart := false }
def FnExactIsHalvedSaid : Prop := fnExactIsHalvedRow.holds Try.pinned (OpenSpec.ofChange fnExactIsHalvedSpec)

/-- ITS FALSE NEIGHBOUR: 'it returns false'. Refute it at one input. -/
def fnExactIsHalvedWrong : ChangeSpec := { name := "fnExactIsHalved", fn := fun _ => fun
  | [d1, d2] => { results := [.lit (.bool false)], args := [d1, d2] }
  | _ => none }
def FnExactIsHalvedWrongFalsely : Prop := fnExactIsHalvedRow.holds Try.pinned (OpenSpec.ofChange fnExactIsHalvedWrong)

/-- 'laws.FnExactDecodeOuts': WHATEVER THE INPUT: true; the input reads as it did. -/
def fnExactDecodeOutsSpec : ChangeSpec := { name := "fnExactDecodeOuts", fn := fun _ => fun
  | [d1, d2, d3] => { results := [.lit (.bool true)], args := [d1, d2, d3] }
  | _ => none }
def fnExactDecodeOutsRow : OpenClaim := { program := "ytamngnenpapogaa", sum := "107365ba832fe3a14571169ee4cb18ef15ead9a5bc40a642cf458f6ce8ae3d42", func := "loop.example/g00877/laws.FnExactDecodeOuts", spec := "fnExactDecodeOuts", unfollowed := true, recurses := true, apart := false }
def FnExactDecodeOutsSaid : Prop := fnExactDecodeOutsRow.holds Try.pinned (OpenSpec.ofChange fnExactDecodeOutsSpec)

/-- ITS FALSE NEIGHBOUR: 'it returns false'. Refute it at one input. -/
def fnExactDecodeOutsWrong : ChangeSpec := { name := "fnExactDecodeOuts", fn := fun _ => fun
  | [d1, d2, d3] => { results := [.lit (.bool false)], args := [d1, d2, d3] }
  | _ => none }
def FnExactDecodeOutsWrongFalsely : Prop := fnExactDecodeOutsRow.holds Try.pinned (OpenSpec.ofChange fnExactDecodeOutsWrong)

/-- 'laws.FnExactDecodeHalved': WHATEVER THE INPUT: true; the input reads as it did. -/
def fnExactDecodeHalvedSpec : ChangeSpec := { name := "fnExactDecodeHalved", fn := fun _ => fun
  | [d1, d2, d3] => { results := [.lit (.bool true)], args := [d1, d2, d3] }
  | _ => none }
def fnExactDecodeHalvedRow : OpenClaim := { program := "ytamngnenpapogaa", sum := "107365ba832fe3a14571169ee4cb18ef15ead9a5bc40a642cf458f6ce8ae3d42", func := "loop.example/g00877/laws.FnExactDecodeHalved", spec := "fnExactDecodeHalved", unfollowed := true, recurses := true, apart := false }
def FnExactDecodeHalvedSaid : Prop := fnExactDecodeHalvedRow.holds Try.pinned (OpenSpec.ofChange fnExactDecodeHalvedSpec)

/-- ITS FALSE NEIGHBOUR: 'it returns false'. Refute it at one input. -/
def fnExactDecodeHalvedWrong : ChangeSpec := { name := "fnExactDecodeHalved", fn := fun _ => fun
  | [d1, d2, d3] => { results := [.lit (.bool false)], args := [d1, d2, d3] }
  | _ => none }
def FnExactDecodeHalvedWrongFalsely : Prop := fnExactDecodeHalvedRow.holds Try.pinned (OpenSpec.ofChange fnExactDecodeHalvedWrong)

/-- 'laws.FnExactBendHalf': WHATEVER THE INPUT: true; the input reads as it did. -/
def fnExactBendHalfSpec : ChangeSpec := { name := "fnExactBendHalf", fn := fun _ => fun
  | [d1, d2, d3, d4, d5] => { results := [.lit (.bool true)], args := [d1, d2, d3, d4, d5] }
  | _ => none }
def fnExactBendHalfRow : OpenClaim := { program := "ytamngnenpapogaa", sum := "107365ba832fe3a14571169ee4cb18ef15ead9a5bc40a642cf458f6ce8ae3d42", func := "loop.example/g00877/laws.FnExactBendHalf", spec := "fnExactBendHalf", unfollowed := true, recurses := true, apart := false }
def FnExactBendHalfSaid : Prop := fnExactBendHalfRow.holds Try.pinned (OpenSpec.ofChange fnExactBendHalfSpec)

/-- ITS FALSE NEIGHBOUR: 'it returns false'. Refute it at one input. -/
def fnExactBendHalfWrong : ChangeSpec := { name := "fnExactBendHalf", fn := fun _ => fun
  | [d1, d2, d3, d4, d5] => { results := [.lit (.bool false)], args := [d1, d2, d3, d4, d5] }
  | _ => none }
def FnExactBendHalfWrongFalsely : Prop := fnExactBendHalfRow.holds Try.pinned (OpenSpec.ofChange fnExactBendHalfWrong)

/-- 'laws.FnExactBendRow': WHATEVER THE INPUT: true; the input reads as it did. -/
def fnExactBendRowSpec : ChangeSpec := { name := "fnExactBendRow", fn := fun _ => fun
  | [d1, d2, d3, d4, d5] => { results := [.lit (.bool true)], args := [d1, d2, d3, d4, d5] }
  | _ => none }
def fnExactBendRowRow : OpenClaim := { program := "ytamngnenpapogaa", sum := "107365ba832fe3a14571169ee4cb18ef15ead9a5bc40a642cf458f6ce8ae3d42", func := "loop.example/g00877/laws.FnExactBendRow", spec := "fnExactBendRow", unfollowed := true, recurses := true, apart := false }
def FnExactBendRowSaid : Prop := fnExactBendRowRow.holds Try.pinned (OpenSpec.ofChange fnExactBendRowSpec)

/-- ITS FALSE NEIGHBOUR: 'it returns false'. Refute it at one input. -/
def fnExactBendRowWrong : ChangeSpec := { name := "fnExactBendRow", fn := fun _ => fun
  | [d1, d2, d3, d4, d5] => { results := [.lit (.bool false)], args := [d1, d2, d3, d4, d5] }
  | _ => none }
def FnExactBendRowWrongFalsely : Prop := fnExactBendRowRow.holds Try.pinned (OpenSpec.ofChange fnExactBendRowWrong)

/-- 'laws.FnExactEvalGarbled': WHATEVER THE INPUT: true; the input reads as it did. -/
def fnExactEvalGarbledSpec : ChangeSpec := { name := "fnExactEvalGarbled", fn := fun _ => fun
  | [d1, d2, d3] => { results := [.lit (.bool true)], args := [d1, d2, d3] }
  | _ => none }
def fnExactEvalGarbledRow : OpenClaim := { program := "ytamngnenpapogaa", sum := "107365ba832fe3a14571169ee4cb18ef15ead9a5bc40a642cf458f6ce8ae3d42", func := "loop.example/g00877/laws.FnExactEvalGarbled", spec := "fnExactEvalGarbled", unfollowed := true, recurses := true, apart := false }
def FnExactEvalGarbledSaid : Prop := fnExactEvalGarbledRow.holds Try.pinned (OpenSpec.ofChange fnExactEvalGarbledSpec)

/-- ITS FALSE NEIGHBOUR: 'it returns false'. Refute it at one input. -/
def fnExactEvalGarbledWrong : ChangeSpec := { name := "fnExactEvalGarbled", fn := fun _ => fun
  | [d1, d2, d3] => { results := [.lit (.bool false)], args := [d1, d2, d3] }
  | _ => none }
def FnExactEvalGarbledWrongFalsely : Prop := fnExactEvalGarbledRow.holds Try.pinned (OpenSpec.ofChange fnExactEvalGarbledWrong)

/-- 'laws.FnExactEvalHalved': WHATEVER THE INPUT: true; the input reads as it did. -/
def fnExactEvalHalvedSpec : ChangeSpec := { name := "fnExactEvalHalved", fn := fun _ => fun
  | [d1, d2, d3] => { results := [.lit (.bool true)], args := [d1, d2, d3] }
  | _ => none }
def fnExactEvalHalvedRow : OpenClaim := { program := "ytamngnenpapogaa", sum := "107365ba832fe3a14571169ee4cb18ef15ead9a5bc40a642cf458f6ce8ae3d42", func := "loop.example/g00877/laws.FnExactEvalHalved", spec := "fnExactEvalHalved", unfollowed := true, recurses := true, apart := false }
def FnExactEvalHalvedSaid : Prop := fnExactEvalHalvedRow.holds Try.pinned (OpenSpec.ofChange fnExactEvalHalvedSpec)

/-- ITS FALSE NEIGHBOUR: 'it returns false'. Refute it at one input. -/
def fnExactEvalHalvedWrong : ChangeSpec := { name := "fnExactEvalHalved", fn := fun _ => fun
  | [d1, d2, d3] => { results := [.lit (.bool false)], args := [d1, d2, d3] }
  | _ => none }
def FnExactEvalHalvedWrongFalsely : Prop := fnExactEvalHalvedRow.holds Try.pinned (OpenSpec.ofChange fnExactEvalHalvedWrong)

/-- 'laws.FnExactInputLabels': WHATEVER THE INPUT: true; the input reads as it did. -/
def fnExactInputLabelsSpec : ChangeSpec := { name := "fnExactInputLabels", fn := fun _ => fun
  | [d1, d2, d3, d4, d5] => { results := [.lit (.bool true)], args := [d1, d2, d3, d4, d5] }
  | _ => none }
def fnExactInputLabelsRow : OpenClaim := { program := "ytamngnenpapogaa", sum := "107365ba832fe3a14571169ee4cb18ef15ead9a5bc40a642cf458f6ce8ae3d42", func := "loop.example/g00877/laws.FnExactInputLabels", spec := "fnExactInputLabels", unfollowed := true, recurses := true, apart := false }
def FnExactInputLabelsSaid : Prop := fnExactInputLabelsRow.holds Try.pinned (OpenSpec.ofChange fnExactInputLabelsSpec)

/-- ITS FALSE NEIGHBOUR: 'it returns false'. Refute it at one input. -/
def fnExactInputLabelsWrong : ChangeSpec := { name := "fnExactInputLabels", fn := fun _ => fun
  | [d1, d2, d3, d4, d5] => { results := [.lit (.bool false)], args := [d1, d2, d3, d4, d5] }
  | _ => none }
def FnExactInputLabelsWrongFalsely : Prop := fnExactInputLabelsRow.holds Try.pinned (OpenSpec.ofChange fnExactInputLabelsWrong)

/- THE SECOND FORM. 'bulk': how many values and letters a reading holds, each counted each time it is reached (what is shared counts as often as it is met; a slice's spare places count too). A statement '..UptoSaid' is the law's where the arguments, and the package variables that the reading takes, are together of bulk at most 1048576: NARROWER than '..Said'. Prove '..Said' where nothing that the law and all that it calls make is longer than what came in: it says more and counts as full. Else prove '..UptoSaid'. A law counts once. -/
mutual
def uptoBulk {H : Type} : DataW H → Nat
  | .lit (.string bytes) => bytes.length + 1
  | .lit _ => 1
  | .nil => 1
  | .ptr d => uptoBulk d + 1
  | .slice elems spare => uptoBulkAll elems + uptoBulkAll spare + 1
  | .agg parts => uptoBulkAll parts + 1
  | .iface _ d => uptoBulk d + 1
  | .map entries => uptoBulkEntries entries + 1
  | .held _ => 1
def uptoBulkAll {H : Type} : List (DataW H) → Nat
  | [] => 0
  | d :: r => uptoBulk d + uptoBulkAll r
def uptoBulkEntries {H : Type} : List (Lit × DataW H) → Nat
  | [] => 0
  | x :: r => uptoBulkEntry x + uptoBulkEntries r
def uptoBulkEntry {H : Type} : Lit × DataW H → Nat
  | (.string bytes, d) => bytes.length + uptoBulk d + 1
  | (_, d) => uptoBulk d + 1
 end
def uptoSmall : (H : Type) → List (DataW H) → Bool := fun _ ds => decide (uptoBulkAll ds ≤ 1048576)
def OpenSpec.upto (s : _root_.Go.ChangeSpec) : _root_.Go.OpenSpec := { _root_.Go.OpenSpec.ofChange s with cond := some uptoSmall }

/-- 'laws.FnExactRowsFor', WHERE WHAT IT READS IS OF BULK AT MOST 1048576: true; the input reads as it did. -/
def fnExactRowsForUptoRow : OpenClaim := { program := "ytamngnenpapogaa", sum := "107365ba832fe3a14571169ee4cb18ef15ead9a5bc40a642cf458f6ce8ae3d42", func := "loop.example/g00877/laws.FnExactRowsFor", spec := "fnExactRowsFor", unfollowed := true, recurses := true, apart := false, narrowed := true }
def FnExactRowsForUptoSaid : Prop := fnExactRowsForUptoRow.holds Try.pinned (OpenSpec.upto fnExactRowsForSpec)

/-- 'laws.FnExactHalfRows', WHERE WHAT IT READS IS OF BULK AT MOST 1048576: true; the input reads as it did. -/
def fnExactHalfRowsUptoRow : OpenClaim := { program := "ytamngnenpapogaa", sum := "107365ba832fe3a14571169ee4cb18ef15ead9a5bc40a642cf458f6ce8ae3d42", func := "loop.example/g00877/laws.FnExactHalfRows", spec := "fnExactHalfRows", unfollowed := true, recurses := true, apart := false, narrowed := true }
def FnExactHalfRowsUptoSaid : Prop := fnExactHalfRowsUptoRow.holds Try.pinned (OpenSpec.upto fnExactHalfRowsSpec)

/-- 'laws.FnExactRowChunks', WHERE WHAT IT READS IS OF BULK AT MOST 1048576: true; the input reads as it did. -/
def fnExactRowChunksUptoRow : OpenClaim := { program := "ytamngnenpapogaa", sum := "107365ba832fe3a14571169ee4cb18ef15ead9a5bc40a642cf458f6ce8ae3d42", func := "loop.example/g00877/laws.FnExactRowChunks", spec := "fnExactRowChunks", unfollowed := true, recurses := true, apart := false, narrowed := true }
def FnExactRowChunksUptoSaid : Prop := fnExactRowChunksUptoRow.holds Try.pinned (OpenSpec.upto fnExactRowChunksSpec)

/-- 'laws.FnExactIsGarbled', WHERE WHAT IT READS IS OF BULK AT MOST 1048576: true; the input reads as it did. -/
def fnExactIsGarbledUptoRow : OpenClaim := { program := "ytamngnenpapogaa", sum := "107365ba832fe3a14571169ee4cb18ef15ead9a5bc40a642cf458f6ce8ae3d42", func := "loop.example/g00877/laws.FnExactIsGarbled", spec := "fnExactIsGarbled", unfollowed := true, recurses := true, apart := false, narrowed := true }
def FnExactIsGarbledUptoSaid : Prop := fnExactIsGarbledUptoRow.holds Try.pinned (OpenSpec.upto fnExactIsGarbledSpec)

/-- 'laws.FnExactIsHalved', WHERE WHAT IT READS IS OF BULK AT MOST 1048576: true; the input reads as it did. -/
def fnExactIsHalvedUptoRow : OpenClaim := { program := "ytamngnenpapogaa", sum := "107365ba832fe3a14571169ee4cb18ef15ead9a5bc40a642cf458f6ce8ae3d42", func := "loop.example/g00877/laws.FnExactIsHalved", spec := "fnExactIsHalved", unfollowed := true, recurses := true, apart := false, narrowed := true }
def FnExactIsHalvedUptoSaid : Prop := fnExactIsHalvedUptoRow.holds Try.pinned (OpenSpec.upto fnExactIsHalvedSpec)

/-- 'laws.FnExactDecodeOuts', WHERE WHAT IT READS IS OF BULK AT MOST 1048576: true; the input reads as it did. -/
def fnExactDecodeOutsUptoRow : OpenClaim := { program := "ytamngnenpapogaa", sum := "107365ba832fe3a14571169ee4cb18ef15ead9a5bc40a642cf458f6ce8ae3d42", func := "loop.example/g00877/laws.FnExactDecodeOuts", spec := "fnExactDecodeOuts", unfollowed := true, recurses := true, apart := false, narrowed := true }
def FnExactDecodeOutsUptoSaid : Prop := fnExactDecodeOutsUptoRow.holds Try.pinned (OpenSpec.upto fnExactDecodeOutsSpec)

/-- 'laws.FnExactDecodeHalved', WHERE WHAT IT READS IS OF BULK AT MOST 1048576: true; the input reads as it did. -/
def fnExactDecodeHalvedUptoRow : OpenClaim := { program := "ytamngnenpapogaa", sum := "107365ba832fe3a14571169ee4cb18ef15ead9a5bc40a642cf458f6ce8ae3d42", func := "loop.example/g00877/laws.FnExactDecodeHalved", spec := "fnExactDecodeHalved", unfollowed := true, recurses := true, apart := false, narrowed := true }
def FnExactDecodeHalvedUptoSaid : Prop := fnExactDecodeHalvedUptoRow.holds Try.pinned (OpenSpec.upto fnExactDecodeHalvedSpec)

/-- 'laws.FnExactBendHalf', WHERE WHAT IT READS IS OF BULK AT MOST 1048576: true; the input reads as it did. -/
def fnExactBendHalfUptoRow : OpenClaim := { program := "ytamngnenpapogaa", sum := "107365ba832fe3a14571169ee4cb18ef15ead9a5bc40a642cf458f6ce8ae3d42", func := "loop.example/g00877/laws.FnExactBendHalf", spec := "fnExactBendHalf", unfollowed := true, recurses := true, apart := false, narrowed := true }
def FnExactBendHalfUptoSaid : Prop := fnExactBendHalfUptoRow.holds Try.pinned (OpenSpec.upto fnExactBendHalfSpec)

/-- 'laws.FnExactBendRow', WHERE WHAT IT READS IS OF BULK AT MOST 1048576: true; the input reads as it did. -/
def fnExactBendRowUptoRow : OpenClaim := { program := "ytamngnenpapogaa", sum := "107365ba832fe3a14571169ee4cb18ef15ead9a5bc40a642cf458f6ce8ae3d42", func := "loop.example/g00877/laws.FnExactBendRow", spec := "fnExactBendRow", unfollowed := true, recurses := true, apart := false, narrowed := true }
def FnExactBendRowUptoSaid : Prop := fnExactBendRowUptoRow.holds Try.pinned (OpenSpec.upto fnExactBendRowSpec)

/-- 'laws.FnExactEvalGarbled', WHERE WHAT IT READS IS OF BULK AT MOST 1048576: true; the input reads as it did. -/
def fnExactEvalGarbledUptoRow : OpenClaim := { program := "ytamngnenpapogaa", sum := "107365ba832fe3a14571169ee4cb18ef15ead9a5bc40a642cf458f6ce8ae3d42", func := "loop.example/g00877/laws.FnExactEvalGarbled", spec := "fnExactEvalGarbled", unfollowed := true, recurses := true, apart := false, narrowed := true }
def FnExactEvalGarbledUptoSaid : Prop := fnExactEvalGarbledUptoRow.holds Try.pinned (OpenSpec.upto fnExactEvalGarbledSpec)

/-- 'laws.FnExactEvalHalved', WHERE WHAT IT READS IS OF BULK AT MOST 1048576: true; the input reads as it did. -/
def fnExactEvalHalvedUptoRow : OpenClaim := { program := "ytamngnenpapogaa", sum := "107365ba832fe3a14571169ee4cb18ef15ead9a5bc40a642cf458f6ce8ae3d42", func := "loop.example/g00877/laws.FnExactEvalHalved", spec := "fnExactEvalHalved", unfollowed := true, recurses := true, apart := false, narrowed := true }
def FnExactEvalHalvedUptoSaid : Prop := fnExactEvalHalvedUptoRow.holds Try.pinned (OpenSpec.upto fnExactEvalHalvedSpec)

/-- 'laws.FnExactInputLabels', WHERE WHAT IT READS IS OF BULK AT MOST 1048576: true; the input reads as it did. -/
def fnExactInputLabelsUptoRow : OpenClaim := { program := "ytamngnenpapogaa", sum := "107365ba832fe3a14571169ee4cb18ef15ead9a5bc40a642cf458f6ce8ae3d42", func := "loop.example/g00877/laws.FnExactInputLabels", spec := "fnExactInputLabels", unfollowed := true, recurses := true, apart := false, narrowed := true }
def FnExactInputLabelsUptoSaid : Prop := fnExactInputLabelsUptoRow.holds Try.pinned (OpenSpec.upto fnExactInputLabelsSpec)

end Rows
end Go.Proofs.Ytamngnenpapogaa
