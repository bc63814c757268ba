/- Contracts of the digest and of what it stands on: a copy of a slice, a residue. Conditions: the lists are short, their numbers within 10^12. -/
import Derived.Test.YtacacaaappoliaaScal
import Derived.Lib.SliceRun
namespace Go.Proofs.Ytacacaaappoliaa
open Go.RowKit
set_option linter.unusedVariables false

theorem info_int : (Try.prog.info? 3).map (fun i => (i.zero, i.size, i.bytes)) = some (some (.int .i64 0), 1, 8) := by kernel_rfl

/-- The call returns a new slice that reads as l; nothing that was there has changed. -/
def RetI (w : World) (l : List Int) (e : Ending) (w' : World) : Prop := ∃ u, e = .returned u ∧ OwnI w' w.heap.size u l ∧ Below w.heap.size w w'
theorem RetI.mk {w w' : World} {l : List Int} {u : Value} (h : OwnI w' w.heap.size u l) (hb : Below w.heap.size w w') : RetI w l (.returned u) w' := ⟨u, rfl, h, hb⟩

theorem ints_one (l : List Int) : ∀ u ∈ l.map (Value.int .i64), u.oneCell' = true := ints_oneCell .i64 l

theorem c_slices_Clone {v : Value} {l : List Int} {w : World} (h : Ints w v l) (hl : l.length ≤ 2097152) : Calls Try.prog 63 #[v] w (RetI w l) := by
  obtain ⟨A, c, rfl, hlc, hcm, hrd⟩ := h
  rcases A with _ | ad
  · have hl0 : l = [] := by
      rcases Nat.eq_zero_or_pos l.length with h0 | h0
      · exact List.eq_nil_of_length_eq_zero h0
      · obtain ⟨_, _, e, _⟩ := hrd (by simpa using h0); cases e
    subst hl0
    have heq := fun W => Lib.run_eql_slice_nil (P := Try.prog) W 29 3 none 0 c 0 0 Try.underlying29
    simp only [Option.isNone_none] at heq
    simp only [List.length_nil]
    go_enter Try.func63, Try.ntmps63
    go_wp2
    go_ret; exact RetI.mk (OwnI.nil _ _) (Below.refl _ _)
  · have heq := fun W => Lib.run_eql_slice_nil (P := Try.prog) W 29 3 (some ad) l.length c 0 0 Try.underlying29
    simp only [Option.isNone_some] at heq
    go_enter Try.func63, Try.ntmps63
    go_wp2_with (at_builtin; go_loud (refine wp_appAll (B := w.heap.size) rfl rfl Try.underlying29 info_int rfl (own_empty 3 1 (Nat.le_refl _)) (hrd.alloc _) (List.length_map _) rfl rfl (ints_one l) (by unfold maxLen; omega) (by omega) (by simp) ?_); intro v' w' ho hg hb)
    go_ret
    refine RetI.mk (by simpa [OwnI] using ho) ((((Below.refl _ _).alloc (Nat.le_refl _) _).grown hg (by simp) (by simp [Value.ownBlock])))
end Go.Proofs.Ytacacaaappoliaa
