/- Contracts that the laws over draws share: the bytes' form, the test of their size. No condition. -/
import Derived.Test.YtmccfdaaneemfaaDraw
namespace Go.Proofs.Ytmccfdaaneemfaa
open Go.RowKit
set_option linter.unusedVariables false
section
variable {w : World} {cd : Value} {l : List Int}
theorem Byts.form (h : Byts w cd l) : ∃ A c, cd = .slice A l.length c := by obtain ⟨⟨A, c, e, -⟩, -⟩ := h; exact ⟨A, c, e⟩
def RetB (e : Ending) : Prop := ∃ b : Bool, e = .returned (.bool b)
theorem c_laws_big {l2 : List Int} {cd2 : Value} (h : Byts w cd l) (h2 : Byts w cd2 l2) : Calls Try.prog 7 #[cd, cd2] w fun e w' => RetB e ∧ w = w' := by
  obtain ⟨⟨A, c, rfl, h1, k1, -⟩, -⟩ := h
  obtain ⟨⟨A2, c2, rfl, h3, k3, -⟩, -⟩ := h2
  unfold maxLen at k1 k3
  go_enter Try.func7, Try.ntmps7
  go_wp2
  all_goals (go_ret; exact ⟨⟨_, rfl⟩, rfl⟩)
end
end Go.Proofs.Ytmccfdaaneemfaa
