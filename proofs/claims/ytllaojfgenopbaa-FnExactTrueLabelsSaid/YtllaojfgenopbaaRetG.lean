/- The call returns tables and whether it could. Plain definitions. -/
import Derived.Test.YtllaojfgenopbaaGbK
namespace Go.Proofs.Ytllaojfgenopbaa
open Go.RowKit
set_option linter.unusedVariables false

def Gb.none : Gb := ⟨[], [], []⟩
def RetGbB (w : World) (o : Option Gb) (e : Ending) (w' : World) : Prop := ∃ rv ov cv vs, e = .returned (.tuple #[gbV rv ov cv, .bool o.isSome]) ∧ OwnGb w' w.heap.size rv ov cv vs (o.getD Gb.none) ∧ Below w.heap.size w w'
theorem OwnGb.empty (w : World) (B : Nat) : OwnGb w B (.slice none 0 0) (.slice none 0 0) (.slice none 0 0) [] Gb.none :=
  ⟨OwnRs.nil w B, World.ownsRow_nil w B _ 1, World.ownsRow_nil w B _ 1, by
    refine List.pairwise_cons.2 ⟨fun u hu => ?_, List.pairwise_cons.2 ⟨fun u hu => ?_, by simp⟩⟩ <;> (intro g e; cases e)⟩
theorem RetGbB.no {w w' : World} (h : Below w.heap.size w w') : RetGbB w none (.returned (.tuple #[gbV (.slice none 0 0) (.slice none 0 0) (.slice none 0 0), .bool false])) w' := ⟨_, _, _, [], rfl, OwnGb.empty w' _, h⟩
end Go.Proofs.Ytllaojfgenopbaa
