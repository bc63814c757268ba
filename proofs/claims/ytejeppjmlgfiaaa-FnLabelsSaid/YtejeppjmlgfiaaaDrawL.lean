/- Contracts of the draws of labels: some values of the right kind come back; only new blocks are laid. Condition: the bytes read as bytes. -/
import Derived.Test.YtejeppjmlgfiaaaDraw
namespace Go.Proofs.Ytejeppjmlgfiaaa
open Go.RowKit
set_option linter.unusedVariables false
set_option maxHeartbeats 1000000
section
variable {w : World} {cd : Value} {l : List Int}
theorem Byts.form (h : Byts w cd l) : ∃ A c, cd = .slice A l.length c := by obtain ⟨⟨A, c, e, -⟩, -⟩ := h; exact ⟨A, c, e⟩
def RetB (e : Ending) : Prop := ∃ b : Bool, e = .returned (.bool b)
theorem c_spec_DrawLabelOf (h : Byts w cd l) : Calls Try.prog 33 #[cd] w fun e w' => (∃ a b c : Int, e = .returned (.tuple #[.int .i64 a, .int .i64 b, .int .i64 c]) ∧ (-1 ≤ a ∧ a ≤ 66000) ∧ (-1 ≤ b ∧ b ≤ 66000) ∧ 0 ≤ c ∧ c ≤ 2) ∧ Below w.heap.size w w' := by
  obtain ⟨A0, c0, rfl⟩ := h.form
  replace h := cur_new h
  go_enter Try.func33, Try.ntmps33
  go_wp2_with fail
  refine (c_label h (by omega)).mono ?_
  rintro e w1 ⟨v, rfl, ⟨a, rfl, ha0, ha1⟩, hc1, hg1⟩
  replace hg1 := Lib.hid hg1
  clear h
  go_wp2_with fail
  refine (c_offset hc1 (by omega)).mono ?_
  rintro e w2 ⟨v, rfl, ⟨b, rfl, hb0, hb1⟩, hc2, hg2⟩
  replace hg2 := Lib.hid (only_trans hg1.out hg2)
  clear hc1 hg1
  go_wp2_with fail
  refine (c_pick hc2 (by omega) (by omega)).mono ?_
  rintro e w3 ⟨v, rfl, ⟨r, rfl, hr0, -, hr2⟩, hc3, hg3⟩
  replace hg3 := Lib.hid (only_trans hg2.out hg3)
  clear hc2 hg2
  go_wp2_with fail
  refine (c_pick hc3 (by omega) (by omega)).mono ?_
  rintro e w4 ⟨v, rfl, ⟨q, rfl, hq0, -, hq2⟩, hc4, hg4⟩
  replace hg4 := Lib.hid (only_trans hg3.out hg4)
  clear hc3 hg3 hc4
  go_wp2
  go_ret3
  exact ⟨⟨_, _, _, rfl, ⟨ha0, ha1⟩, ⟨hb0, hb1⟩, by omega, by omega⟩, cur_end hg4.out⟩
theorem c_spec_DrawBitOf (h : Byts w cd l) : Calls Try.prog 39 #[cd] w fun e w' => (∃ a b c : Int, e = .returned (.tuple #[.int .i64 a, .int .i64 b, .int .i64 c])) ∧ Below w.heap.size w w' := by
  obtain ⟨A0, c0, rfl⟩ := h.form
  replace h := cur_new h
  go_enter Try.func39, Try.ntmps39
  go_wp2_with fail
  refine (c_label h (by omega)).mono ?_
  rintro e w1 ⟨v, rfl, ⟨a, rfl, ha0, ha1⟩, hc1, hg1⟩
  replace hg1 := Lib.hid hg1
  clear h
  go_wp2_with fail
  refine (c_offset hc1 (by omega)).mono ?_
  rintro e w2 ⟨v, rfl, ⟨b, rfl, hb0, hb1⟩, hc2, hg2⟩
  replace hg2 := Lib.hid (only_trans hg1.out hg2)
  clear hc1 hg1
  go_wp2_with fail
  refine (c_pick hc2 (by omega) (by omega)).mono ?_
  rintro e w3 ⟨v, rfl, ⟨r, rfl, hr0, -, hr2⟩, hc3, hg3⟩
  replace hg3 := Lib.hid (only_trans hg2.out hg3)
  clear hc2 hg2
  by_cases hr : r = 0
  · subst hr
    go_wp2
    go_ret3
    exact ⟨⟨_, _, _, rfl⟩, cur_end hg3.out⟩
  · by_cases hr1 : r = 1
    · subst hr1
      go_wp2
      go_ret3
      exact ⟨⟨_, _, _, rfl⟩, cur_end hg3.out⟩
    · go_wp2_with fail
      refine (c_label hc3 (by omega)).mono ?_
      rintro e w4 ⟨v, rfl, ⟨q, rfl, hq0, hq2⟩, hc4, hg4⟩
      replace hg4 := Lib.hid (only_trans hg3.out hg4)
      clear hc3 hg3 hc4
      go_wp2
      go_ret3
      exact ⟨⟨_, _, _, rfl⟩, cur_end hg4.out⟩
theorem c_spec_DrawOffsetFrom (h : Byts w cd l) : Calls Try.prog 41 #[cd] w fun e w' => (∃ a : Int, e = .returned (.int .i64 a)) ∧ Below w.heap.size w w' := by
  obtain ⟨A0, c0, rfl⟩ := h.form
  replace h := cur_new h
  go_enter Try.func41, Try.ntmps41
  go_wp2_with fail
  refine (c_secret h (by omega)).mono ?_
  rintro e w1 ⟨v, rfl, ⟨a, rfl, ha0, ha1⟩, hc1, hg1⟩
  replace hg1 := Lib.hid hg1
  clear h
  go_wp2
  go_ret
  exact ⟨⟨_, rfl⟩, cur_end hg1.out⟩
theorem c_spec_DrawZeroLabel (h : Byts w cd l) : Calls Try.prog 44 #[cd] w fun e w' => (∃ a b : Int, e = .returned (.tuple #[.int .i64 a, .int .i64 b])) ∧ Below w.heap.size w w' := by
  obtain ⟨A0, c0, rfl⟩ := h.form
  replace h := cur_new h
  go_enter Try.func44, Try.ntmps44
  go_wp2_with fail
  refine (c_secret h (by omega)).mono ?_
  rintro e w1 ⟨v, rfl, ⟨a, rfl, ha0, ha1⟩, hc1, hg1⟩
  have hs := hg1.size
  have hgl := hc1.lt
  replace hg1 := Lib.hid hg1
  clear h
  go_wp2_with fail
  refine (c_among (l := [0, 1, 40, 1000, 1001, -1]) (hc1.below ((Below.refl _ _).alloc (Nat.le_refl _) _)) (by omega) (ints_lit _ _ _ rfl (by simp)) (by simp) (by simp) (by rintro b hb; simp [Value.ownBlock] at hb; omega)).mono ?_
  rintro e w2 ⟨v, rfl, ⟨r, rfl, hr⟩, hc2, hg2⟩
  replace hg2 := Lib.hid (only_trans hg1.out (only_trans (only_below ((Below.refl _ _).alloc (Nat.le_refl _) _) _) hg2))
  clear hc1 hg1 hc2
  go_wp2
  go_ret2
  exact ⟨⟨_, _, rfl⟩, cur_end hg2.out⟩
theorem c_laws_big {l2 : List Int} {cd2 : Value} (h : Byts w cd l) (h2 : Byts w cd2 l2) : Calls Try.prog 20 #[cd, cd2] w fun e w' => RetB e ∧ w = w' := by
  obtain ⟨⟨A, c, rfl, h1, k1, -⟩, -⟩ := h
  obtain ⟨⟨A2, c2, rfl, h3, k3, -⟩, -⟩ := h2
  unfold maxLen at k1 k3
  go_enter Try.func20, Try.ntmps20
  go_wp2
  all_goals (go_ret; exact ⟨⟨_, rfl⟩, rfl⟩)
end
end Go.Proofs.Ytejeppjmlgfiaaa
