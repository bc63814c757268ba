/-
  No cell of these rows narrows 'for every input' (looked for: loops, veiled, ifaces, maps, wideKeys, modest, calm, conditions, laid).
  DERIVED. THE GIVEN ROWS OF THIS SEAT. 10 by the template 'for every input the law returns true; each argument reads behind the call as it read before'; 0 by the template 'total and deterministic' (their statements: YtacacaaappoliaaTotals.lean).
  GIVEN WITH THE SEED: the statements are not yours to turn. If you find one false, say at which input.
  Laid BY PROGRAM, IN A SANDBOX (cutbox-rows.mjs): the forced cells as the released guide's own fill.sh prints them over the translation e8e8dc3b5fffa6ac… (all of the seat's roots in one cut). By AI agents, Wed Nov 11 2026. No macro, syntax, notation, axiom, sorry.
-/
import Derived.Test.YtacacaaappoliaaChecked
import GoSem.Claim
import GoSem.ClaimJoined
import GoSem.ClaimMapViews
import Derived.JoinedTies
import Derived.KernelRfl
namespace Go.Proofs.Ytacacaaappoliaa
/- THE CELL 'sum', in the pinned program and in every row, IS THE sha256 OF THE DUMP (.gsa) THAT YtacacaaappoliaaProg.lean LOADS. Nothing in Lean hashes anything: it is a label: what it is worth is what the hold of that sum in a sandbox is worth. -/
noncomputable def Try.pinned : Pinned := { name := "ytacacaaappoliaa", sum := "e8e8dc3b5fffa6ac3e83826a86ce9c88b7b4bbae5cf9dc4a34710471a679dee9", checked := Try.checked }
namespace Rows
def none {H : Type} : Left H := { results := [], args := [] }

/-- 'laws.FnExactColourOf': WHATEVER THE INPUT: true; the input reads as it did. -/
def fnExactColourOfSpec : ChangeSpec := { name := "fnExactColourOf", fn := fun _ => fun
  | [d] => { results := [.lit (.bool true)], args := [d] }
  | _ => none }
def fnExactColourOfRow : OpenClaim := { program := "ytacacaaappoliaa", sum := "e8e8dc3b5fffa6ac3e83826a86ce9c88b7b4bbae5cf9dc4a34710471a679dee9", func := "loop.example/g00877/laws.FnExactColourOf", spec := "fnExactColourOf", apart := false }
def FnExactColourOfSaid : Prop := fnExactColourOfRow.holds Try.pinned (OpenSpec.ofChange fnExactColourOfSpec)

/-- ITS FALSE NEIGHBOUR: 'it returns false'. Refute it at one input. -/
def fnExactColourOfWrong : ChangeSpec := { name := "fnExactColourOf", fn := fun _ => fun
  | [d] => { results := [.lit (.bool false)], args := [d] }
  | _ => none }
def FnExactColourOfWrongFalsely : Prop := fnExactColourOfRow.holds Try.pinned (OpenSpec.ofChange fnExactColourOfWrong)

/-- 'laws.FnExactFreeXor': WHATEVER THE INPUT: true; the input reads as it did. -/
def fnExactFreeXorSpec : ChangeSpec := { name := "fnExactFreeXor", fn := fun _ => fun
  | [d1, d2] => { results := [.lit (.bool true)], args := [d1, d2] }
  | _ => none }
def fnExactFreeXorRow : OpenClaim := { program := "ytacacaaappoliaa", sum := "e8e8dc3b5fffa6ac3e83826a86ce9c88b7b4bbae5cf9dc4a34710471a679dee9", func := "loop.example/g00877/laws.FnExactFreeXor", spec := "fnExactFreeXor", apart := false }
def FnExactFreeXorSaid : Prop := fnExactFreeXorRow.holds Try.pinned (OpenSpec.ofChange fnExactFreeXorSpec)

/-- ITS FALSE NEIGHBOUR: 'it returns false'. Refute it at one input. -/
def fnExactFreeXorWrong : ChangeSpec := { name := "fnExactFreeXor", fn := fun _ => fun
  | [d1, d2] => { results := [.lit (.bool false)], args := [d1, d2] }
  | _ => none }
def FnExactFreeXorWrongFalsely : Prop := fnExactFreeXorRow.holds Try.pinned (OpenSpec.ofChange fnExactFreeXorWrong)

/-- 'laws.FnExactLabelOf': WHATEVER THE INPUT: true; the input reads as it did. -/
def fnExactLabelOfSpec : ChangeSpec := { name := "fnExactLabelOf", fn := fun _ => fun
  | [d1, d2, d3] => { results := [.lit (.bool true)], args := [d1, d2, d3] }
  | _ => none }
def fnExactLabelOfRow : OpenClaim := { program := "ytacacaaappoliaa", sum := "e8e8dc3b5fffa6ac3e83826a86ce9c88b7b4bbae5cf9dc4a34710471a679dee9", func := "loop.example/g00877/laws.FnExactLabelOf", spec := "fnExactLabelOf", apart := false }
def FnExactLabelOfSaid : Prop := fnExactLabelOfRow.holds Try.pinned (OpenSpec.ofChange fnExactLabelOfSpec)

/-- ITS FALSE NEIGHBOUR: 'it returns false'. Refute it at one input. -/
def fnExactLabelOfWrong : ChangeSpec := { name := "fnExactLabelOf", fn := fun _ => fun
  | [d1, d2, d3] => { results := [.lit (.bool false)], args := [d1, d2, d3] }
  | _ => none }
def FnExactLabelOfWrongFalsely : Prop := fnExactLabelOfRow.holds Try.pinned (OpenSpec.ofChange fnExactLabelOfWrong)

/-- 'laws.FnExactFreeNot': WHATEVER THE INPUT: true; the input reads as it did. -/
def fnExactFreeNotSpec : ChangeSpec := { name := "fnExactFreeNot", fn := fun _ => fun
  | [d1, d2] => { results := [.lit (.bool true)], args := [d1, d2] }
  | _ => none }
def fnExactFreeNotRow : OpenClaim := { program := "ytacacaaappoliaa", sum := "e8e8dc3b5fffa6ac3e83826a86ce9c88b7b4bbae5cf9dc4a34710471a679dee9", func := "loop.example/g00877/laws.FnExactFreeNot", spec := "fnExactFreeNot", apart := false }
def FnExactFreeNotSaid : Prop := fnExactFreeNotRow.holds Try.pinned (OpenSpec.ofChange fnExactFreeNotSpec)

/-- ITS FALSE NEIGHBOUR: 'it returns false'. Refute it at one input. -/
def fnExactFreeNotWrong : ChangeSpec := { name := "fnExactFreeNot", fn := fun _ => fun
  | [d1, d2] => { results := [.lit (.bool false)], args := [d1, d2] }
  | _ => none }
def FnExactFreeNotWrongFalsely : Prop := fnExactFreeNotRow.holds Try.pinned (OpenSpec.ofChange fnExactFreeNotWrong)

/-- 'laws.FnExactBitOf': WHATEVER THE INPUT: true; the input reads as it did. -/
def fnExactBitOfSpec : ChangeSpec := { name := "fnExactBitOf", fn := fun _ => fun
  | [d1, d2, d3] => { results := [.lit (.bool true)], args := [d1, d2, d3] }
  | _ => none }
def fnExactBitOfRow : OpenClaim := { program := "ytacacaaappoliaa", sum := "e8e8dc3b5fffa6ac3e83826a86ce9c88b7b4bbae5cf9dc4a34710471a679dee9", func := "loop.example/g00877/laws.FnExactBitOf", spec := "fnExactBitOf", apart := false }
def FnExactBitOfSaid : Prop := fnExactBitOfRow.holds Try.pinned (OpenSpec.ofChange fnExactBitOfSpec)

/-- ITS FALSE NEIGHBOUR: 'it returns false'. Refute it at one input. -/
def fnExactBitOfWrong : ChangeSpec := { name := "fnExactBitOf", fn := fun _ => fun
  | [d1, d2, d3] => { results := [.lit (.bool false)], args := [d1, d2, d3] }
  | _ => none }
def FnExactBitOfWrongFalsely : Prop := fnExactBitOfRow.holds Try.pinned (OpenSpec.ofChange fnExactBitOfWrong)

/-- 'laws.FnExactOffsetFrom': WHATEVER THE INPUT: true; the input reads as it did. -/
def fnExactOffsetFromSpec : ChangeSpec := { name := "fnExactOffsetFrom", fn := fun _ => fun
  | [d] => { results := [.lit (.bool true)], args := [d] }
  | _ => none }
def fnExactOffsetFromRow : OpenClaim := { program := "ytacacaaappoliaa", sum := "e8e8dc3b5fffa6ac3e83826a86ce9c88b7b4bbae5cf9dc4a34710471a679dee9", func := "loop.example/g00877/laws.FnExactOffsetFrom", spec := "fnExactOffsetFrom", apart := false }
def FnExactOffsetFromSaid : Prop := fnExactOffsetFromRow.holds Try.pinned (OpenSpec.ofChange fnExactOffsetFromSpec)

/-- ITS FALSE NEIGHBOUR: 'it returns false'. Refute it at one input. -/
def fnExactOffsetFromWrong : ChangeSpec := { name := "fnExactOffsetFrom", fn := fun _ => fun
  | [d] => { results := [.lit (.bool false)], args := [d] }
  | _ => none }
def FnExactOffsetFromWrongFalsely : Prop := fnExactOffsetFromRow.holds Try.pinned (OpenSpec.ofChange fnExactOffsetFromWrong)

/-- 'laws.FnExactZeroLabel': WHATEVER THE INPUT: true; the input reads as it did. -/
def fnExactZeroLabelSpec : ChangeSpec := { name := "fnExactZeroLabel", fn := fun _ => fun
  | [d1, d2] => { results := [.lit (.bool true)], args := [d1, d2] }
  | _ => none }
def fnExactZeroLabelRow : OpenClaim := { program := "ytacacaaappoliaa", sum := "e8e8dc3b5fffa6ac3e83826a86ce9c88b7b4bbae5cf9dc4a34710471a679dee9", func := "loop.example/g00877/laws.FnExactZeroLabel", spec := "fnExactZeroLabel", apart := false }
def FnExactZeroLabelSaid : Prop := fnExactZeroLabelRow.holds Try.pinned (OpenSpec.ofChange fnExactZeroLabelSpec)

/-- ITS FALSE NEIGHBOUR: 'it returns false'. Refute it at one input. -/
def fnExactZeroLabelWrong : ChangeSpec := { name := "fnExactZeroLabel", fn := fun _ => fun
  | [d1, d2] => { results := [.lit (.bool false)], args := [d1, d2] }
  | _ => none }
def FnExactZeroLabelWrongFalsely : Prop := fnExactZeroLabelRow.holds Try.pinned (OpenSpec.ofChange fnExactZeroLabelWrong)

/-- 'laws.FnExactHalfCipher': WHATEVER THE INPUT: true; the input reads as it did. -/
def fnExactHalfCipherSpec : ChangeSpec := { name := "fnExactHalfCipher", fn := fun _ => fun
  | [d1, d2, d3] => { results := [.lit (.bool true)], args := [d1, d2, d3] }
  | _ => none }
def fnExactHalfCipherRow : OpenClaim := { program := "ytacacaaappoliaa", sum := "e8e8dc3b5fffa6ac3e83826a86ce9c88b7b4bbae5cf9dc4a34710471a679dee9", func := "loop.example/g00877/laws.FnExactHalfCipher", spec := "fnExactHalfCipher", apart := false }
def FnExactHalfCipherSaid : Prop := fnExactHalfCipherRow.holds Try.pinned (OpenSpec.ofChange fnExactHalfCipherSpec)

/-- ITS FALSE NEIGHBOUR: 'it returns false'. Refute it at one input. -/
def fnExactHalfCipherWrong : ChangeSpec := { name := "fnExactHalfCipher", fn := fun _ => fun
  | [d1, d2, d3] => { results := [.lit (.bool false)], args := [d1, d2, d3] }
  | _ => none }
def FnExactHalfCipherWrongFalsely : Prop := fnExactHalfCipherRow.holds Try.pinned (OpenSpec.ofChange fnExactHalfCipherWrong)

/-- 'laws.FnExactColoursOf': WHATEVER THE INPUT: true; the input reads as it did. -/
def fnExactColoursOfSpec : ChangeSpec := { name := "fnExactColoursOf", fn := fun _ => fun
  | [d] => { results := [.lit (.bool true)], args := [d] }
  | _ => none }
def fnExactColoursOfRow : OpenClaim := { program := "ytacacaaappoliaa", sum := "e8e8dc3b5fffa6ac3e83826a86ce9c88b7b4bbae5cf9dc4a34710471a679dee9", func := "loop.example/g00877/laws.FnExactColoursOf", spec := "fnExactColoursOf", unfollowed := true, recurses := true, apart := false }
def FnExactColoursOfSaid : Prop := fnExactColoursOfRow.holds Try.pinned (OpenSpec.ofChange fnExactColoursOfSpec)

/-- ITS FALSE NEIGHBOUR: 'it returns false'. Refute it at one input. -/
def fnExactColoursOfWrong : ChangeSpec := { name := "fnExactColoursOf", fn := fun _ => fun
  | [d] => { results := [.lit (.bool false)], args := [d] }
  | _ => none }
def FnExactColoursOfWrongFalsely : Prop := fnExactColoursOfRow.holds Try.pinned (OpenSpec.ofChange fnExactColoursOfWrong)

/-- 'laws.FnExactHiddenBits': WHATEVER THE INPUT: true; the input reads as it did. -/
def fnExactHiddenBitsSpec : ChangeSpec := { name := "fnExactHiddenBits", fn := fun _ => fun
  | [d1, d2] => { results := [.lit (.bool true)], args := [d1, d2] }
  | _ => none }
def fnExactHiddenBitsRow : OpenClaim := { program := "ytacacaaappoliaa", sum := "e8e8dc3b5fffa6ac3e83826a86ce9c88b7b4bbae5cf9dc4a34710471a679dee9", func := "loop.example/g00877/laws.FnExactHiddenBits", spec := "fnExactHiddenBits", unfollowed := true, recurses := true, apart := false }
def FnExactHiddenBitsSaid : Prop := fnExactHiddenBitsRow.holds Try.pinned (OpenSpec.ofChange fnExactHiddenBitsSpec)

/-- ITS FALSE NEIGHBOUR: 'it returns false'. Refute it at one input. -/
def fnExactHiddenBitsWrong : ChangeSpec := { name := "fnExactHiddenBits", fn := fun _ => fun
  | [d1, d2] => { results := [.lit (.bool false)], args := [d1, d2] }
  | _ => none }
def FnExactHiddenBitsWrongFalsely : Prop := fnExactHiddenBitsRow.holds Try.pinned (OpenSpec.ofChange fnExactHiddenBitsWrong)

/- THE SECOND FORM. 'bulk': how many values and letters a reading holds, each counted each time it is reached (what is shared counts as often as it is met; a slice's spare places count too). A statement '..UptoSaid' is the law's where the arguments, and the package variables that the reading takes, are together of bulk at most 1048576: NARROWER than '..Said'. Prove '..Said' where nothing that the law and all that it calls make is longer than what came in: it says more and counts as full. Else prove '..UptoSaid'. A law counts once. -/
mutual
def uptoBulk {H : Type} : DataW H → Nat
  | .lit (.string bytes) => bytes.length + 1
  | .lit _ => 1
  | .nil => 1
  | .ptr d => uptoBulk d + 1
  | .slice elems spare => uptoBulkAll elems + uptoBulkAll spare + 1
  | .agg parts => uptoBulkAll parts + 1
  | .iface _ d => uptoBulk d + 1
  | .map entries => uptoBulkEntries entries + 1
  | .held _ => 1
def uptoBulkAll {H : Type} : List (DataW H) → Nat
  | [] => 0
  | d :: r => uptoBulk d + uptoBulkAll r
def uptoBulkEntries {H : Type} : List (Lit × DataW H) → Nat
  | [] => 0
  | x :: r => uptoBulkEntry x + uptoBulkEntries r
def uptoBulkEntry {H : Type} : Lit × DataW H → Nat
  | (.string bytes, d) => bytes.length + uptoBulk d + 1
  | (_, d) => uptoBulk d + 1
 end
def uptoSmall : (H : Type) → List (DataW H) → Bool := fun _ ds => decide (uptoBulkAll ds ≤ 1048576)
def OpenSpec.upto (s : _root_.Go.ChangeSpec) : _root_.Go.OpenSpec := { _root_.Go.OpenSpec.ofChange s with cond := some uptoSmall }

/-- 'laws.FnExactColourOf', WHERE WHAT IT READS IS OF BULK AT MOST 1048576: true; the input reads as it did. -/
def fnExactColourOfUptoRow : OpenClaim := { program := "ytacacaaappoliaa", sum := "e8e8dc3b5fffa6ac3e83826a86ce9c88b7b4bbae5cf9dc4a34710471a679dee9", func := "loop.example/g00877/laws.FnExactColourOf", spec := "fnExactColourOf", apart := false, narrowed := true }
def FnExactColourOfUptoSaid : Prop := fnExactColourOfUptoRow.holds Try.pinned (OpenSpec.upto fnExactColourOfSpec)

/-- 'laws.FnExactFreeXor', WHERE WHAT IT READS IS OF BULK AT MOST 1048576: true; the input reads as it did. -/
def fnExactFreeXorUptoRow : OpenClaim := { program := "ytacacaaappoliaa", sum := "e8e8dc3b5fffa6ac3e83826a86ce9c88b7b4bbae5cf9dc4a34710471a679dee9", func := "loop.example/g00877/laws.FnExactFreeXor", spec := "fnExactFreeXor", apart := false, narrowed := true }
def FnExactFreeXorUptoSaid : Prop := fnExactFreeXorUptoRow.holds Try.pinned (OpenSpec.upto fnExactFreeXorSpec)

/-- 'laws.FnExactLabelOf', WHERE WHAT IT READS IS OF BULK AT MOST 1048576: true; the input reads as it did. -/
def fnExactLabelOfUptoRow : OpenClaim := { program := "ytacacaaappoliaa", sum := "e8e8dc3b5fffa6ac3e83826a86ce9c88b7b4bbae5cf9dc4a34710471a679dee9", func := "loop.example/g00877/laws.FnExactLabelOf", spec := "fnExactLabelOf", apart := false, narrowed := true }
def FnExactLabelOfUptoSaid : Prop := fnExactLabelOfUptoRow.holds Try.pinned (OpenSpec.upto fnExactLabelOfSpec)

/-- 'laws.FnExactFreeNot', WHERE WHAT IT READS IS OF BULK AT MOST 1048576: true; the input reads as it did. -/
def fnExactFreeNotUptoRow : OpenClaim := { program := "ytacacaaappoliaa", sum := "e8e8dc3b5fffa6ac3e83826a86ce9c88b7b4bbae5cf9dc4a34710471a679dee9", func := "loop.example/g00877/laws.FnExactFreeNot", spec := "fnExactFreeNot", apart := false, narrowed := true }
def FnExactFreeNotUptoSaid : Prop := fnExactFreeNotUptoRow.holds Try.pinned (OpenSpec.upto fnExactFreeNotSpec)

/-- 'laws.FnExactBitOf', WHERE WHAT IT READS IS OF BULK AT MOST 1048576: true; the input reads as it did. -/
def fnExactBitOfUptoRow : OpenClaim := { program := "ytacacaaappoliaa", sum := "e8e8dc3b5fffa6ac3e83826a86ce9c88b7b4bbae5cf9dc4a34710471a679dee9", func := "loop.example/g00877/laws.FnExactBitOf", spec := "fnExactBitOf", apart := false, narrowed := true }
def FnExactBitOfUptoSaid : Prop := fnExactBitOfUptoRow.holds Try.pinned (OpenSpec.upto fnExactBitOfSpec)

/-- 'laws.FnExactOffsetFrom', WHERE WHAT IT READS IS OF BULK AT MOST 1048576: true; the input reads as it did. -/
def fnExactOffsetFromUptoRow : OpenClaim := { program := "ytacacaaappoliaa", sum := "e8e8dc3b5fffa6ac3e83826a86ce9c88b7b4bbae5cf9dc4a34710471a679dee9", func := "loop.example/g00877/laws.FnExactOffsetFrom", spec := "fnExactOffsetFrom", apart := false, narrowed := true }
def FnExactOffsetFromUptoSaid : Prop := fnExactOffsetFromUptoRow.holds Try.pinned (OpenSpec.upto fnExactOffsetFromSpec)

/-- 'laws.FnExactZeroLabel', WHERE WHAT IT READS IS OF BULK AT MOST 1048576: true; the input reads as it did. -/
def fnExactZeroLabelUptoRow : OpenClaim := { program := "ytacacaaappoliaa", sum := "e8e8dc3b5fffa6ac3e83826a86ce9c88b7b4bbae5cf9dc4a34710471a679dee9", func := "loop.example/g00877/laws.FnExactZeroLabel", spec := "fnExactZeroLabel", apart := false, narrowed := true }
def FnExactZeroLabelUptoSaid : Prop := fnExactZeroLabelUptoRow.holds Try.pinned (OpenSpec.upto fnExactZeroLabelSpec)

/-- 'laws.FnExactHalfCipher', WHERE WHAT IT READS IS OF BULK AT MOST 1048576: true; the input reads as it did. -/
def fnExactHalfCipherUptoRow : OpenClaim := { program := "ytacacaaappoliaa", sum := "e8e8dc3b5fffa6ac3e83826a86ce9c88b7b4bbae5cf9dc4a34710471a679dee9", func := "loop.example/g00877/laws.FnExactHalfCipher", spec := "fnExactHalfCipher", apart := false, narrowed := true }
def FnExactHalfCipherUptoSaid : Prop := fnExactHalfCipherUptoRow.holds Try.pinned (OpenSpec.upto fnExactHalfCipherSpec)

/-- 'laws.FnExactColoursOf', WHERE WHAT IT READS IS OF BULK AT MOST 1048576: true; the input reads as it did. -/
def fnExactColoursOfUptoRow : OpenClaim := { program := "ytacacaaappoliaa", sum := "e8e8dc3b5fffa6ac3e83826a86ce9c88b7b4bbae5cf9dc4a34710471a679dee9", func := "loop.example/g00877/laws.FnExactColoursOf", spec := "fnExactColoursOf", unfollowed := true, recurses := true, apart := false, narrowed := true }
def FnExactColoursOfUptoSaid : Prop := fnExactColoursOfUptoRow.holds Try.pinned (OpenSpec.upto fnExactColoursOfSpec)

/-- 'laws.FnExactHiddenBits', WHERE WHAT IT READS IS OF BULK AT MOST 1048576: true; the input reads as it did. -/
def fnExactHiddenBitsUptoRow : OpenClaim := { program := "ytacacaaappoliaa", sum := "e8e8dc3b5fffa6ac3e83826a86ce9c88b7b4bbae5cf9dc4a34710471a679dee9", func := "loop.example/g00877/laws.FnExactHiddenBits", spec := "fnExactHiddenBits", unfollowed := true, recurses := true, apart := false, narrowed := true }
def FnExactHiddenBitsUptoSaid : Prop := fnExactHiddenBitsUptoRow.holds Try.pinned (OpenSpec.upto fnExactHiddenBitsSpec)

end Rows
end Go.Proofs.Ytacacaaappoliaa
