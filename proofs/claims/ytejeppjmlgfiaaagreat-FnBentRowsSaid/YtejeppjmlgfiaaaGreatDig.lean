/- The contract of the library's copy of a slice. Condition: the list is short. -/
import Derived.Test.YtejeppjmlgfiaaaGreatMem
namespace Go.Proofs.YtejeppjmlgfiaaaGreat
open Go.RowKit
set_option linter.unusedVariables false

theorem c_slices_Clone {v : Value} {l : List Int} {w : World} (h : Ints w v l) (hl : l.length ≤ 2097152) : Calls Tryz.prog 143 #[v] w (RetI w l) := by
  obtain ⟨A, c, rfl, hlc, hcm, hrd⟩ := h
  rcases A with _ | ad
  · have hl0 : l = [] := by
      rcases Nat.eq_zero_or_pos l.length with h0 | h0
      · exact List.eq_nil_of_length_eq_zero h0
      · obtain ⟨_, _, e, _⟩ := hrd (by simpa using h0); cases e
    subst hl0
    have heq := fun W => Lib.run_eql_slice_nil (P := Tryz.prog) W 24 3 none 0 c 0 0 Tryz.underlying24
    simp only [Option.isNone_none] at heq
    simp only [List.length_nil]
    go_enter Tryz.func143, Tryz.ntmps143
    go_wp2
    go_ret; exact RetI.mk (OwnI.nil _ _) (Below.refl _ _)
  · have heq := fun W => Lib.run_eql_slice_nil (P := Tryz.prog) W 24 3 (some ad) l.length c 0 0 Tryz.underlying24
    simp only [Option.isNone_some] at heq
    go_enter Tryz.func143, Tryz.ntmps143
    go_wp2_with (at_builtin; go_loud (refine wp_appAll (B := w.heap.size) rfl rfl Tryz.underlying24 info_int rfl (own_empty 3 1 (Nat.le_refl _)) (hrd.alloc _) (List.length_map _) rfl rfl (ints_one l) (by unfold maxLen; omega) (by omega) (by simp) ?_); intro v' w' ho hg hb)
    go_ret
    refine RetI.mk (by simpa [OwnI] using ho) ((((Below.refl _ _).alloc (Nat.le_refl _) _).grown hg (by simp) (by simp [Value.ownBlock])))
end Go.Proofs.YtejeppjmlgfiaaaGreat
