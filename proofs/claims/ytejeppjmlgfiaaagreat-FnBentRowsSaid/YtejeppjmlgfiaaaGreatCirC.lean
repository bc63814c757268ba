/- The laws' own helpers on circuits: sizes, comparisons, marks. Conditions: the lists are short. -/
import Derived.Test.YtejeppjmlgfiaaaGreatCirB
import Derived.Deep.RegionHeld3
namespace Go.Proofs.YtejeppjmlgfiaaaGreat
open Go.RowKit
set_option linter.unusedVariables false

def szM (left : Int) (n : Nat) : Int := if left - n < 0 then -1 else left - n
theorem szM_neg {left : Int} {n : Nat} (h : szM left n < 0) : szM left n = -1 := by unfold szM at h ⊢; split at h <;> simp_all
def szCM (left : Int) (c : Cir) : Int := if szM left c.gs.length < 0 then -1 else szM (szM left c.gs.length) c.outs.length
end Go.Proofs.YtejeppjmlgfiaaaGreat
