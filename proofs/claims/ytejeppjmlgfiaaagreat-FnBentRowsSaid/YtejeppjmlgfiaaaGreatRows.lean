/-
  No cell of these rows narrows 'for every input' (looked for: loops, veiled, ifaces, maps, wideKeys, modest, calm, conditions, laid).
  DERIVED. THE GIVEN ROWS OF THIS SEAT. 3 by the template 'for every input the law returns true; each argument reads behind the call as it read before'; 0 by the template 'total and deterministic' (their statements: YtejeppjmlgfiaaaGreatTotals.lean).
  GIVEN WITH THE SEED: the statements are not yours to turn. If you find one false, say at which input.
  Laid BY PROGRAM, IN A SANDBOX (cutbox-rows.mjs): the forced cells as the released guide's own fill.sh prints them over the translation 809fd18489cc10ea… (all of the seat's roots in one cut). By AI agents, Wed Nov 11 2026. No macro, syntax, notation, axiom, sorry.
-/
import Derived.Test.YtejeppjmlgfiaaaGreatChecked
import GoSem.Claim
import GoSem.ClaimJoined
import GoSem.ClaimMapViews
import Derived.JoinedTies
import Derived.KernelRfl
namespace Go.Proofs.YtejeppjmlgfiaaaGreat
/- THE CELL 'sum', in the pinned program and in every row, IS THE sha256 OF THE DUMP (.gsa) THAT YtejeppjmlgfiaaaGreatProg.lean LOADS. Nothing in Lean hashes anything: it is a label: what it is worth is what the hold of that sum in a sandbox is worth. -/
noncomputable def Tryz.pinned : Pinned := { name := "ytejeppjmlgfiaaagreat", sum := "809fd18489cc10ea6588bb748f36aaced3929edb75dd0ae966a5bf80d17a2a62", checked := Tryz.checked }
namespace Rows
def none {H : Type} : Left H := { results := [], args := [] }

/-- 'laws.FnHalves': WHATEVER THE INPUT: true; the input reads as it did. -/
def fnHalvesSpec : ChangeSpec := { name := "fnHalves", fn := fun _ => fun
  | [d1, d2] => { results := [.lit (.bool true)], args := [d1, d2] }
  | _ => none }
def fnHalvesRow : OpenClaim := { program := "ytejeppjmlgfiaaagreat", sum := "809fd18489cc10ea6588bb748f36aaced3929edb75dd0ae966a5bf80d17a2a62", func := "loop.example/g00877/laws.FnHalves", spec := "fnHalves", unfollowed := true, recurses := true, apart := false }
def FnHalvesSaid : Prop := fnHalvesRow.holds Tryz.pinned (OpenSpec.ofChange fnHalvesSpec)

/-- ITS FALSE NEIGHBOUR: 'it returns false'. Refute it at one input. -/
def fnHalvesWrong : ChangeSpec := { name := "fnHalves", fn := fun _ => fun
  | [d1, d2] => { results := [.lit (.bool false)], args := [d1, d2] }
  | _ => none }
def FnHalvesWrongFalsely : Prop := fnHalvesRow.holds Tryz.pinned (OpenSpec.ofChange fnHalvesWrong)

/-- 'laws.FnGarbled': WHATEVER THE INPUT: true; the input reads as it did. -/
def fnGarbledSpec : ChangeSpec := { name := "fnGarbled", fn := fun _ => fun
  | [d1, d2] => { results := [.lit (.bool true)], args := [d1, d2] }
  | _ => none }
def fnGarbledRow : OpenClaim := { program := "ytejeppjmlgfiaaagreat", sum := "809fd18489cc10ea6588bb748f36aaced3929edb75dd0ae966a5bf80d17a2a62", func := "loop.example/g00877/laws.FnGarbled", spec := "fnGarbled", unfollowed := true, recurses := true, apart := false }
def FnGarbledSaid : Prop := fnGarbledRow.holds Tryz.pinned (OpenSpec.ofChange fnGarbledSpec)

/-- ITS FALSE NEIGHBOUR: 'it returns false'. Refute it at one input. -/
def fnGarbledWrong : ChangeSpec := { name := "fnGarbled", fn := fun _ => fun
  | [d1, d2] => { results := [.lit (.bool false)], args := [d1, d2] }
  | _ => none }
def FnGarbledWrongFalsely : Prop := fnGarbledRow.holds Tryz.pinned (OpenSpec.ofChange fnGarbledWrong)

/-- 'laws.FnBentRows': WHATEVER THE INPUT: true; the input reads as it did. -/
def fnBentRowsSpec : ChangeSpec := { name := "fnBentRows", fn := fun _ => fun
  | [d1, d2] => { results := [.lit (.bool true)], args := [d1, d2] }
  | _ => none }
def fnBentRowsRow : OpenClaim := { program := "ytejeppjmlgfiaaagreat", sum := "809fd18489cc10ea6588bb748f36aaced3929edb75dd0ae966a5bf80d17a2a62", func := "loop.example/g00877/laws.FnBentRows", spec := "fnBentRows", unfollowed := true, recurses := true, apart := false }
def FnBentRowsSaid : Prop := fnBentRowsRow.holds Tryz.pinned (OpenSpec.ofChange fnBentRowsSpec)

/-- ITS FALSE NEIGHBOUR: 'it returns false'. Refute it at one input. -/
def fnBentRowsWrong : ChangeSpec := { name := "fnBentRows", fn := fun _ => fun
  | [d1, d2] => { results := [.lit (.bool false)], args := [d1, d2] }
  | _ => none }
def FnBentRowsWrongFalsely : Prop := fnBentRowsRow.holds Tryz.pinned (OpenSpec.ofChange fnBentRowsWrong)

/- THE SECOND FORM. 'bulk': how many values and letters a reading holds, each counted each time it is reached (what is shared counts as often as it is met; a slice's spare places count too). A statement '..UptoSaid' is the law's where the arguments, and the package variables that the reading takes, are together of bulk at most 1048576: NARROWER than '..Said'. Prove '..Said' where nothing that the law and all that it calls make is longer than what came in: it says more and counts as full. Else prove '..UptoSaid'. A law counts once. -/
mutual
def uptoBulk {H : Type} : DataW H → Nat
  | .lit (.string bytes) => bytes.length + 1
  | .lit _ => 1
  | .nil => 1
  | .ptr d => uptoBulk d + 1
  | .slice elems spare => uptoBulkAll elems + uptoBulkAll spare + 1
  | .agg parts => uptoBulkAll parts + 1
  | .iface _ d => uptoBulk d + 1
  | .map entries => uptoBulkEntries entries + 1
  | .held _ => 1
def uptoBulkAll {H : Type} : List (DataW H) → Nat
  | [] => 0
  | d :: r => uptoBulk d + uptoBulkAll r
def uptoBulkEntries {H : Type} : List (Lit × DataW H) → Nat
  | [] => 0
  | x :: r => uptoBulkEntry x + uptoBulkEntries r
def uptoBulkEntry {H : Type} : Lit × DataW H → Nat
  | (.string bytes, d) => bytes.length + uptoBulk d + 1
  | (_, d) => uptoBulk d + 1
 end
def uptoSmall : (H : Type) → List (DataW H) → Bool := fun _ ds => decide (uptoBulkAll ds ≤ 1048576)
def OpenSpec.upto (s : _root_.Go.ChangeSpec) : _root_.Go.OpenSpec := { _root_.Go.OpenSpec.ofChange s with cond := some uptoSmall }

/-- 'laws.FnHalves', WHERE WHAT IT READS IS OF BULK AT MOST 1048576: true; the input reads as it did. -/
def fnHalvesUptoRow : OpenClaim := { program := "ytejeppjmlgfiaaagreat", sum := "809fd18489cc10ea6588bb748f36aaced3929edb75dd0ae966a5bf80d17a2a62", func := "loop.example/g00877/laws.FnHalves", spec := "fnHalves", unfollowed := true, recurses := true, apart := false, narrowed := true }
def FnHalvesUptoSaid : Prop := fnHalvesUptoRow.holds Tryz.pinned (OpenSpec.upto fnHalvesSpec)

/-- 'laws.FnGarbled', WHERE WHAT IT READS IS OF BULK AT MOST 1048576: true; the input reads as it did. -/
def fnGarbledUptoRow : OpenClaim := { program := "ytejeppjmlgfiaaagreat", sum := "809fd18489cc10ea6588bb748f36aaced3929edb75dd0ae966a5bf80d17a2a62", func := "loop.example/g00877/laws.FnGarbled", spec := "fnGarbled", unfollowed := true, recurses := true, apart := false, narrowed := true }
def FnGarbledUptoSaid : Prop := fnGarbledUptoRow.holds Tryz.pinned (OpenSpec.upto fnGarbledSpec)

/-- 'laws.FnBentRows', WHERE WHAT IT READS IS OF BULK AT MOST 1048576: true; the input reads as it did. -/
def fnBentRowsUptoRow : OpenClaim := { program := "ytejeppjmlgfiaaagreat", sum := "809fd18489cc10ea6588bb748f36aaced3929edb75dd0ae966a5bf80d17a2a62", func := "loop.example/g00877/laws.FnBentRows", spec := "fnBentRows", unfollowed := true, recurses := true, apart := false, narrowed := true }
def FnBentRowsUptoSaid : Prop := fnBentRowsUptoRow.holds Tryz.pinned (OpenSpec.upto fnBentRowsSpec)

end Rows
end Go.Proofs.YtejeppjmlgfiaaaGreat
