/-
  No cell of these rows narrows 'for every input' (looked for: loops, veiled, ifaces, maps, wideKeys, modest, calm, conditions, laid).
  DERIVED. THE GIVEN ROWS OF THIS SEAT. 12 by the template 'for every input the law returns true; each argument reads behind the call as it read before'; 0 by the template 'total and deterministic' (their statements: YtpaajlmeifamdaaTotals.lean).
  GIVEN WITH THE SEED: the statements are not yours to turn. If you find one false, say at which input.
  Laid BY PROGRAM, IN A SANDBOX (cutbox-rows.mjs): the forced cells as the released guide's own fill.sh prints them over the translation a8cb182c61169511… (all of the seat's roots in one cut). By AI agents, Wed Nov 11 2026. No macro, syntax, notation, axiom, sorry.
-/
import Derived.Test.YtpaajlmeifamdaaChecked
import GoSem.Claim
import GoSem.ClaimJoined
import GoSem.ClaimMapViews
import Derived.JoinedTies
import Derived.KernelRfl
namespace Go.Proofs.Ytpaajlmeifamdaa
/- THE CELL 'sum', in the pinned program and in every row, IS THE sha256 OF THE DUMP (.gsa) THAT YtpaajlmeifamdaaProg.lean LOADS. Nothing in Lean hashes anything: it is a label: what it is worth is what the hold of that sum in a sandbox is worth. -/
noncomputable def Try.pinned : Pinned := { name := "ytpaajlmeifamdaa", sum := "a8cb182c61169511b6e9a12142f1dfb3d4e3293baa7f33776c86489ef3a764b3", checked := Try.checked }
namespace Rows
def none {H : Type} : Left H := { results := [], args := [] }

/-- 'laws.FnExactIsGroup': WHATEVER THE INPUT: true; the input reads as it did. -/
def fnExactIsGroupSpec : ChangeSpec := { name := "fnExactIsGroup", fn := fun _ => fun
  | [d] => { results := [.lit (.bool true)], args := [d] }
  | _ => none }
def fnExactIsGroupRow : OpenClaim := { program := "ytpaajlmeifamdaa", sum := "a8cb182c61169511b6e9a12142f1dfb3d4e3293baa7f33776c86489ef3a764b3", func := "loop.example/g00877/laws.FnExactIsGroup", spec := "fnExactIsGroup", apart := false }
def FnExactIsGroupSaid : Prop := fnExactIsGroupRow.holds Try.pinned (OpenSpec.ofChange fnExactIsGroupSpec)

/-- ITS FALSE NEIGHBOUR: 'it returns false'. Refute it at one input. -/
def fnExactIsGroupWrong : ChangeSpec := { name := "fnExactIsGroup", fn := fun _ => fun
  | [d] => { results := [.lit (.bool false)], args := [d] }
  | _ => none }
def FnExactIsGroupWrongFalsely : Prop := fnExactIsGroupRow.holds Try.pinned (OpenSpec.ofChange fnExactIsGroupWrong)

/-- 'laws.FnExactPowMod': WHATEVER THE INPUT: true; the input reads as it did. -/
def fnExactPowModSpec : ChangeSpec := { name := "fnExactPowMod", fn := fun _ => fun
  | [d1, d2, d3] => { results := [.lit (.bool true)], args := [d1, d2, d3] }
  | _ => none }
def fnExactPowModRow : OpenClaim := { program := "ytpaajlmeifamdaa", sum := "a8cb182c61169511b6e9a12142f1dfb3d4e3293baa7f33776c86489ef3a764b3", func := "loop.example/g00877/laws.FnExactPowMod", spec := "fnExactPowMod", apart := false }
def FnExactPowModSaid : Prop := fnExactPowModRow.holds Try.pinned (OpenSpec.ofChange fnExactPowModSpec)

/-- ITS FALSE NEIGHBOUR: 'it returns false'. Refute it at one input. -/
def fnExactPowModWrong : ChangeSpec := { name := "fnExactPowMod", fn := fun _ => fun
  | [d1, d2, d3] => { results := [.lit (.bool false)], args := [d1, d2, d3] }
  | _ => none }
def FnExactPowModWrongFalsely : Prop := fnExactPowModRow.holds Try.pinned (OpenSpec.ofChange fnExactPowModWrong)

/-- 'laws.FnExactDivideMod': WHATEVER THE INPUT: true; the input reads as it did. -/
def fnExactDivideModSpec : ChangeSpec := { name := "fnExactDivideMod", fn := fun _ => fun
  | [d1, d2, d3] => { results := [.lit (.bool true)], args := [d1, d2, d3] }
  | _ => none }
def fnExactDivideModRow : OpenClaim := { program := "ytpaajlmeifamdaa", sum := "a8cb182c61169511b6e9a12142f1dfb3d4e3293baa7f33776c86489ef3a764b3", func := "loop.example/g00877/laws.FnExactDivideMod", spec := "fnExactDivideMod", apart := false }
def FnExactDivideModSaid : Prop := fnExactDivideModRow.holds Try.pinned (OpenSpec.ofChange fnExactDivideModSpec)

/-- ITS FALSE NEIGHBOUR: 'it returns false'. Refute it at one input. -/
def fnExactDivideModWrong : ChangeSpec := { name := "fnExactDivideMod", fn := fun _ => fun
  | [d1, d2, d3] => { results := [.lit (.bool false)], args := [d1, d2, d3] }
  | _ => none }
def FnExactDivideModWrongFalsely : Prop := fnExactDivideModRow.holds Try.pinned (OpenSpec.ofChange fnExactDivideModWrong)

/-- 'laws.FnExactInverseMod': WHATEVER THE INPUT: true; the input reads as it did. -/
def fnExactInverseModSpec : ChangeSpec := { name := "fnExactInverseMod", fn := fun _ => fun
  | [d1, d2] => { results := [.lit (.bool true)], args := [d1, d2] }
  | _ => none }
def fnExactInverseModRow : OpenClaim := { program := "ytpaajlmeifamdaa", sum := "a8cb182c61169511b6e9a12142f1dfb3d4e3293baa7f33776c86489ef3a764b3", func := "loop.example/g00877/laws.FnExactInverseMod", spec := "fnExactInverseMod", apart := false }
def FnExactInverseModSaid : Prop := fnExactInverseModRow.holds Try.pinned (OpenSpec.ofChange fnExactInverseModSpec)

/-- ITS FALSE NEIGHBOUR: 'it returns false'. Refute it at one input. -/
def fnExactInverseModWrong : ChangeSpec := { name := "fnExactInverseMod", fn := fun _ => fun
  | [d1, d2] => { results := [.lit (.bool false)], args := [d1, d2] }
  | _ => none }
def FnExactInverseModWrongFalsely : Prop := fnExactInverseModRow.holds Try.pinned (OpenSpec.ofChange fnExactInverseModWrong)

/-- 'laws.FnExactIsElement': WHATEVER THE INPUT: true; the input reads as it did. -/
def fnExactIsElementSpec : ChangeSpec := { name := "fnExactIsElement", fn := fun _ => fun
  | [d1, d2] => { results := [.lit (.bool true)], args := [d1, d2] }
  | _ => none }
def fnExactIsElementRow : OpenClaim := { program := "ytpaajlmeifamdaa", sum := "a8cb182c61169511b6e9a12142f1dfb3d4e3293baa7f33776c86489ef3a764b3", func := "loop.example/g00877/laws.FnExactIsElement", spec := "fnExactIsElement", apart := false }
def FnExactIsElementSaid : Prop := fnExactIsElementRow.holds Try.pinned (OpenSpec.ofChange fnExactIsElementSpec)

/-- ITS FALSE NEIGHBOUR: 'it returns false'. Refute it at one input. -/
def fnExactIsElementWrong : ChangeSpec := { name := "fnExactIsElement", fn := fun _ => fun
  | [d1, d2] => { results := [.lit (.bool false)], args := [d1, d2] }
  | _ => none }
def FnExactIsElementWrongFalsely : Prop := fnExactIsElementRow.holds Try.pinned (OpenSpec.ofChange fnExactIsElementWrong)

/-- 'laws.FnExactElementFor': WHATEVER THE INPUT: true; the input reads as it did. -/
def fnExactElementForSpec : ChangeSpec := { name := "fnExactElementFor", fn := fun _ => fun
  | [d1, d2] => { results := [.lit (.bool true)], args := [d1, d2] }
  | _ => none }
def fnExactElementForRow : OpenClaim := { program := "ytpaajlmeifamdaa", sum := "a8cb182c61169511b6e9a12142f1dfb3d4e3293baa7f33776c86489ef3a764b3", func := "loop.example/g00877/laws.FnExactElementFor", spec := "fnExactElementFor", apart := false }
def FnExactElementForSaid : Prop := fnExactElementForRow.holds Try.pinned (OpenSpec.ofChange fnExactElementForSpec)

/-- ITS FALSE NEIGHBOUR: 'it returns false'. Refute it at one input. -/
def fnExactElementForWrong : ChangeSpec := { name := "fnExactElementFor", fn := fun _ => fun
  | [d1, d2] => { results := [.lit (.bool false)], args := [d1, d2] }
  | _ => none }
def FnExactElementForWrongFalsely : Prop := fnExactElementForRow.holds Try.pinned (OpenSpec.ofChange fnExactElementForWrong)

/-- 'laws.FnExactProductIn': WHATEVER THE INPUT: true; the input reads as it did. -/
def fnExactProductInSpec : ChangeSpec := { name := "fnExactProductIn", fn := fun _ => fun
  | [d1, d2, d3] => { results := [.lit (.bool true)], args := [d1, d2, d3] }
  | _ => none }
def fnExactProductInRow : OpenClaim := { program := "ytpaajlmeifamdaa", sum := "a8cb182c61169511b6e9a12142f1dfb3d4e3293baa7f33776c86489ef3a764b3", func := "loop.example/g00877/laws.FnExactProductIn", spec := "fnExactProductIn", apart := false }
def FnExactProductInSaid : Prop := fnExactProductInRow.holds Try.pinned (OpenSpec.ofChange fnExactProductInSpec)

/-- ITS FALSE NEIGHBOUR: 'it returns false'. Refute it at one input. -/
def fnExactProductInWrong : ChangeSpec := { name := "fnExactProductIn", fn := fun _ => fun
  | [d1, d2, d3] => { results := [.lit (.bool false)], args := [d1, d2, d3] }
  | _ => none }
def FnExactProductInWrongFalsely : Prop := fnExactProductInRow.holds Try.pinned (OpenSpec.ofChange fnExactProductInWrong)

/-- 'laws.FnExactPowerIn': WHATEVER THE INPUT: true; the input reads as it did. -/
def fnExactPowerInSpec : ChangeSpec := { name := "fnExactPowerIn", fn := fun _ => fun
  | [d1, d2, d3] => { results := [.lit (.bool true)], args := [d1, d2, d3] }
  | _ => none }
def fnExactPowerInRow : OpenClaim := { program := "ytpaajlmeifamdaa", sum := "a8cb182c61169511b6e9a12142f1dfb3d4e3293baa7f33776c86489ef3a764b3", func := "loop.example/g00877/laws.FnExactPowerIn", spec := "fnExactPowerIn", apart := false }
def FnExactPowerInSaid : Prop := fnExactPowerInRow.holds Try.pinned (OpenSpec.ofChange fnExactPowerInSpec)

/-- ITS FALSE NEIGHBOUR: 'it returns false'. Refute it at one input. -/
def fnExactPowerInWrong : ChangeSpec := { name := "fnExactPowerIn", fn := fun _ => fun
  | [d1, d2, d3] => { results := [.lit (.bool false)], args := [d1, d2, d3] }
  | _ => none }
def FnExactPowerInWrongFalsely : Prop := fnExactPowerInRow.holds Try.pinned (OpenSpec.ofChange fnExactPowerInWrong)

/-- 'laws.FnExactInverseIn': WHATEVER THE INPUT: true; the input reads as it did. -/
def fnExactInverseInSpec : ChangeSpec := { name := "fnExactInverseIn", fn := fun _ => fun
  | [d1, d2] => { results := [.lit (.bool true)], args := [d1, d2] }
  | _ => none }
def fnExactInverseInRow : OpenClaim := { program := "ytpaajlmeifamdaa", sum := "a8cb182c61169511b6e9a12142f1dfb3d4e3293baa7f33776c86489ef3a764b3", func := "loop.example/g00877/laws.FnExactInverseIn", spec := "fnExactInverseIn", apart := false }
def FnExactInverseInSaid : Prop := fnExactInverseInRow.holds Try.pinned (OpenSpec.ofChange fnExactInverseInSpec)

/-- ITS FALSE NEIGHBOUR: 'it returns false'. Refute it at one input. -/
def fnExactInverseInWrong : ChangeSpec := { name := "fnExactInverseIn", fn := fun _ => fun
  | [d1, d2] => { results := [.lit (.bool false)], args := [d1, d2] }
  | _ => none }
def FnExactInverseInWrongFalsely : Prop := fnExactInverseInRow.holds Try.pinned (OpenSpec.ofChange fnExactInverseInWrong)

/-- 'laws.FnExactOrderOf': WHATEVER THE INPUT: true; the input reads as it did. -/
def fnExactOrderOfSpec : ChangeSpec := { name := "fnExactOrderOf", fn := fun _ => fun
  | [d1, d2] => { results := [.lit (.bool true)], args := [d1, d2] }
  | _ => none }
def fnExactOrderOfRow : OpenClaim := { program := "ytpaajlmeifamdaa", sum := "a8cb182c61169511b6e9a12142f1dfb3d4e3293baa7f33776c86489ef3a764b3", func := "loop.example/g00877/laws.FnExactOrderOf", spec := "fnExactOrderOf", apart := false }
def FnExactOrderOfSaid : Prop := fnExactOrderOfRow.holds Try.pinned (OpenSpec.ofChange fnExactOrderOfSpec)

/-- ITS FALSE NEIGHBOUR: 'it returns false'. Refute it at one input. -/
def fnExactOrderOfWrong : ChangeSpec := { name := "fnExactOrderOf", fn := fun _ => fun
  | [d1, d2] => { results := [.lit (.bool false)], args := [d1, d2] }
  | _ => none }
def FnExactOrderOfWrongFalsely : Prop := fnExactOrderOfRow.holds Try.pinned (OpenSpec.ofChange fnExactOrderOfWrong)

/-- 'laws.FnExactLogIn': WHATEVER THE INPUT: true; the input reads as it did. -/
def fnExactLogInSpec : ChangeSpec := { name := "fnExactLogIn", fn := fun _ => fun
  | [d1, d2, d3] => { results := [.lit (.bool true)], args := [d1, d2, d3] }
  | _ => none }
def fnExactLogInRow : OpenClaim := { program := "ytpaajlmeifamdaa", sum := "a8cb182c61169511b6e9a12142f1dfb3d4e3293baa7f33776c86489ef3a764b3", func := "loop.example/g00877/laws.FnExactLogIn", spec := "fnExactLogIn", apart := false }
def FnExactLogInSaid : Prop := fnExactLogInRow.holds Try.pinned (OpenSpec.ofChange fnExactLogInSpec)

/-- ITS FALSE NEIGHBOUR: 'it returns false'. Refute it at one input. -/
def fnExactLogInWrong : ChangeSpec := { name := "fnExactLogIn", fn := fun _ => fun
  | [d1, d2, d3] => { results := [.lit (.bool false)], args := [d1, d2, d3] }
  | _ => none }
def FnExactLogInWrongFalsely : Prop := fnExactLogInRow.holds Try.pinned (OpenSpec.ofChange fnExactLogInWrong)

/-- 'laws.FnExactGroupFor': WHATEVER THE INPUT: true; the input reads as it did. -/
def fnExactGroupForSpec : ChangeSpec := { name := "fnExactGroupFor", fn := fun _ => fun
  | [d] => { results := [.lit (.bool true)], args := [d] }
  | _ => none }
def fnExactGroupForRow : OpenClaim := { program := "ytpaajlmeifamdaa", sum := "a8cb182c61169511b6e9a12142f1dfb3d4e3293baa7f33776c86489ef3a764b3", func := "loop.example/g00877/laws.FnExactGroupFor", spec := "fnExactGroupFor", apart := false }
def FnExactGroupForSaid : Prop := fnExactGroupForRow.holds Try.pinned (OpenSpec.ofChange fnExactGroupForSpec)

/-- ITS FALSE NEIGHBOUR: 'it returns false'. Refute it at one input. -/
def fnExactGroupForWrong : ChangeSpec := { name := "fnExactGroupFor", fn := fun _ => fun
  | [d] => { results := [.lit (.bool false)], args := [d] }
  | _ => none }
def FnExactGroupForWrongFalsely : Prop := fnExactGroupForRow.holds Try.pinned (OpenSpec.ofChange fnExactGroupForWrong)

/- THE SECOND FORM. 'bulk': how many values and letters a reading holds, each counted each time it is reached (what is shared counts as often as it is met; a slice's spare places count too). A statement '..UptoSaid' is the law's where the arguments, and the package variables that the reading takes, are together of bulk at most 1048576: NARROWER than '..Said'. Prove '..Said' where nothing that the law and all that it calls make is longer than what came in: it says more and counts as full. Else prove '..UptoSaid'. A law counts once. -/
mutual
def uptoBulk {H : Type} : DataW H → Nat
  | .lit (.string bytes) => bytes.length + 1
  | .lit _ => 1
  | .nil => 1
  | .ptr d => uptoBulk d + 1
  | .slice elems spare => uptoBulkAll elems + uptoBulkAll spare + 1
  | .agg parts => uptoBulkAll parts + 1
  | .iface _ d => uptoBulk d + 1
  | .map entries => uptoBulkEntries entries + 1
  | .held _ => 1
def uptoBulkAll {H : Type} : List (DataW H) → Nat
  | [] => 0
  | d :: r => uptoBulk d + uptoBulkAll r
def uptoBulkEntries {H : Type} : List (Lit × DataW H) → Nat
  | [] => 0
  | x :: r => uptoBulkEntry x + uptoBulkEntries r
def uptoBulkEntry {H : Type} : Lit × DataW H → Nat
  | (.string bytes, d) => bytes.length + uptoBulk d + 1
  | (_, d) => uptoBulk d + 1
 end
def uptoSmall : (H : Type) → List (DataW H) → Bool := fun _ ds => decide (uptoBulkAll ds ≤ 1048576)
def OpenSpec.upto (s : _root_.Go.ChangeSpec) : _root_.Go.OpenSpec := { _root_.Go.OpenSpec.ofChange s with cond := some uptoSmall }

/-- 'laws.FnExactIsGroup', WHERE WHAT IT READS IS OF BULK AT MOST 1048576: true; the input reads as it did. -/
def fnExactIsGroupUptoRow : OpenClaim := { program := "ytpaajlmeifamdaa", sum := "a8cb182c61169511b6e9a12142f1dfb3d4e3293baa7f33776c86489ef3a764b3", func := "loop.example/g00877/laws.FnExactIsGroup", spec := "fnExactIsGroup", apart := false, narrowed := true }
def FnExactIsGroupUptoSaid : Prop := fnExactIsGroupUptoRow.holds Try.pinned (OpenSpec.upto fnExactIsGroupSpec)

/-- 'laws.FnExactPowMod', WHERE WHAT IT READS IS OF BULK AT MOST 1048576: true; the input reads as it did. -/
def fnExactPowModUptoRow : OpenClaim := { program := "ytpaajlmeifamdaa", sum := "a8cb182c61169511b6e9a12142f1dfb3d4e3293baa7f33776c86489ef3a764b3", func := "loop.example/g00877/laws.FnExactPowMod", spec := "fnExactPowMod", apart := false, narrowed := true }
def FnExactPowModUptoSaid : Prop := fnExactPowModUptoRow.holds Try.pinned (OpenSpec.upto fnExactPowModSpec)

/-- 'laws.FnExactDivideMod', WHERE WHAT IT READS IS OF BULK AT MOST 1048576: true; the input reads as it did. -/
def fnExactDivideModUptoRow : OpenClaim := { program := "ytpaajlmeifamdaa", sum := "a8cb182c61169511b6e9a12142f1dfb3d4e3293baa7f33776c86489ef3a764b3", func := "loop.example/g00877/laws.FnExactDivideMod", spec := "fnExactDivideMod", apart := false, narrowed := true }
def FnExactDivideModUptoSaid : Prop := fnExactDivideModUptoRow.holds Try.pinned (OpenSpec.upto fnExactDivideModSpec)

/-- 'laws.FnExactInverseMod', WHERE WHAT IT READS IS OF BULK AT MOST 1048576: true; the input reads as it did. -/
def fnExactInverseModUptoRow : OpenClaim := { program := "ytpaajlmeifamdaa", sum := "a8cb182c61169511b6e9a12142f1dfb3d4e3293baa7f33776c86489ef3a764b3", func := "loop.example/g00877/laws.FnExactInverseMod", spec := "fnExactInverseMod", apart := false, narrowed := true }
def FnExactInverseModUptoSaid : Prop := fnExactInverseModUptoRow.holds Try.pinned (OpenSpec.upto fnExactInverseModSpec)

/-- 'laws.FnExactIsElement', WHERE WHAT IT READS IS OF BULK AT MOST 1048576: true; the input reads as it did. -/
def fnExactIsElementUptoRow : OpenClaim := { program := "ytpaajlmeifamdaa", sum := "a8cb182c61169511b6e9a12142f1dfb3d4e3293baa7f33776c86489ef3a764b3", func := "loop.example/g00877/laws.FnExactIsElement", spec := "fnExactIsElement", apart := false, narrowed := true }
def FnExactIsElementUptoSaid : Prop := fnExactIsElementUptoRow.holds Try.pinned (OpenSpec.upto fnExactIsElementSpec)

/-- 'laws.FnExactElementFor', WHERE WHAT IT READS IS OF BULK AT MOST 1048576: true; the input reads as it did. -/
def fnExactElementForUptoRow : OpenClaim := { program := "ytpaajlmeifamdaa", sum := "a8cb182c61169511b6e9a12142f1dfb3d4e3293baa7f33776c86489ef3a764b3", func := "loop.example/g00877/laws.FnExactElementFor", spec := "fnExactElementFor", apart := false, narrowed := true }
def FnExactElementForUptoSaid : Prop := fnExactElementForUptoRow.holds Try.pinned (OpenSpec.upto fnExactElementForSpec)

/-- 'laws.FnExactProductIn', WHERE WHAT IT READS IS OF BULK AT MOST 1048576: true; the input reads as it did. -/
def fnExactProductInUptoRow : OpenClaim := { program := "ytpaajlmeifamdaa", sum := "a8cb182c61169511b6e9a12142f1dfb3d4e3293baa7f33776c86489ef3a764b3", func := "loop.example/g00877/laws.FnExactProductIn", spec := "fnExactProductIn", apart := false, narrowed := true }
def FnExactProductInUptoSaid : Prop := fnExactProductInUptoRow.holds Try.pinned (OpenSpec.upto fnExactProductInSpec)

/-- 'laws.FnExactPowerIn', WHERE WHAT IT READS IS OF BULK AT MOST 1048576: true; the input reads as it did. -/
def fnExactPowerInUptoRow : OpenClaim := { program := "ytpaajlmeifamdaa", sum := "a8cb182c61169511b6e9a12142f1dfb3d4e3293baa7f33776c86489ef3a764b3", func := "loop.example/g00877/laws.FnExactPowerIn", spec := "fnExactPowerIn", apart := false, narrowed := true }
def FnExactPowerInUptoSaid : Prop := fnExactPowerInUptoRow.holds Try.pinned (OpenSpec.upto fnExactPowerInSpec)

/-- 'laws.FnExactInverseIn', WHERE WHAT IT READS IS OF BULK AT MOST 1048576: true; the input reads as it did. -/
def fnExactInverseInUptoRow : OpenClaim := { program := "ytpaajlmeifamdaa", sum := "a8cb182c61169511b6e9a12142f1dfb3d4e3293baa7f33776c86489ef3a764b3", func := "loop.example/g00877/laws.FnExactInverseIn", spec := "fnExactInverseIn", apart := false, narrowed := true }
def FnExactInverseInUptoSaid : Prop := fnExactInverseInUptoRow.holds Try.pinned (OpenSpec.upto fnExactInverseInSpec)

/-- 'laws.FnExactOrderOf', WHERE WHAT IT READS IS OF BULK AT MOST 1048576: true; the input reads as it did. -/
def fnExactOrderOfUptoRow : OpenClaim := { program := "ytpaajlmeifamdaa", sum := "a8cb182c61169511b6e9a12142f1dfb3d4e3293baa7f33776c86489ef3a764b3", func := "loop.example/g00877/laws.FnExactOrderOf", spec := "fnExactOrderOf", apart := false, narrowed := true }
def FnExactOrderOfUptoSaid : Prop := fnExactOrderOfUptoRow.holds Try.pinned (OpenSpec.upto fnExactOrderOfSpec)

/-- 'laws.FnExactLogIn', WHERE WHAT IT READS IS OF BULK AT MOST 1048576: true; the input reads as it did. -/
def fnExactLogInUptoRow : OpenClaim := { program := "ytpaajlmeifamdaa", sum := "a8cb182c61169511b6e9a12142f1dfb3d4e3293baa7f33776c86489ef3a764b3", func := "loop.example/g00877/laws.FnExactLogIn", spec := "fnExactLogIn", apart := false, narrowed := true }
def FnExactLogInUptoSaid : Prop := fnExactLogInUptoRow.holds Try.pinned (OpenSpec.upto fnExactLogInSpec)

/-- 'laws.FnExactGroupFor', WHERE WHAT IT READS IS OF BULK AT MOST 1048576: true; the input reads as it did. -/
def fnExactGroupForUptoRow : OpenClaim := { program := "ytpaajlmeifamdaa", sum := "a8cb182c61169511b6e9a12142f1dfb3d4e3293baa7f33776c86489ef3a764b3", func := "loop.example/g00877/laws.FnExactGroupFor", spec := "fnExactGroupFor", apart := false, narrowed := true }
def FnExactGroupForUptoSaid : Prop := fnExactGroupForUptoRow.holds Try.pinned (OpenSpec.upto fnExactGroupForSpec)

end Rows
end Go.Proofs.Ytpaajlmeifamdaa
