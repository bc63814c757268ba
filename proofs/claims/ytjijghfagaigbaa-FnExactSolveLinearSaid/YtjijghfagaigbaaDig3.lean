/- Contracts of the reference's digest and of the ciphers. Conditions: the numbers are within 10^12. -/
import Derived.Test.YtjijghfagaigbaaDig2
import Derived.Test.YtjijghfagaigbaaBtMod
namespace Go.Proofs.Ytjijghfagaigbaa
open Go.RowKit
set_option linter.unusedVariables false

theorem c_spec_l1Own {v : Value} {l : List Int} {w : World} (h : Ints w v l) (hl : l.length ≤ 2097152) : Calls Try.prog 16 #[v] w (RetI w l) := by
  obtain ⟨A, c, rfl, hlc, hcm, hrd⟩ := h
  go_enter Try.func16, Try.ntmps16
  go_wp2_with (at_builtin; refine wp_appAll (B := w.heap.size) rfl rfl Try.underlying23 info_int rfl (own_empty 3 1 (Nat.le_refl _)) (hrd.alloc _) (List.length_map _) rfl rfl (ints_one l) (by unfold maxLen; omega) (by omega) (by simp) ?_; intro v' w' ho hg hb)
  go_ret
  refine RetI.mk (by simpa [OwnI] using ho) ((((Below.refl _ _).alloc (Nat.le_refl _) _).grown hg (by simp) (by simp [Value.ownBlock])))

theorem bd4 {a b c d : Int} (ha : -1000000000000 ≤ a ∧ a ≤ 1000000000000) (hb : -1000000000000 ≤ b ∧ b ≤ 1000000000000) (hc : -1000000000000 ≤ c ∧ c ≤ 1000000000000) (hd : -1000000000000 ≤ d ∧ d ≤ 1000000000000) :
    ∀ x ∈ [a, b, c, d], -1000000000000 ≤ x ∧ x ≤ 1000000000000 := by
  intro x hx; simp at hx; rcases hx with rfl | rfl | rfl | rfl <;> assumption

end Go.Proofs.Ytjijghfagaigbaa
