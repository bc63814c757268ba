/- Contracts of the draws of fields' numbers. Conditions: the bounds that each names. -/
import Derived.Test.YtmccfdaaneemfaaDrawB
namespace Go.Proofs.Ytmccfdaaneemfaa
open Go.RowKit
set_option linter.unusedVariables false
set_option maxHeartbeats 1000000
section
variable {w : World} {g n : Nat} {cd : Value}
theorem c_spec_l1Most {a b : Int} {w : World} : Calls Try.prog 126 #[.int .i64 a, .int .i64 b] w fun e w' => e = .returned (.int .i64 (if b < a then a else b)) ∧ w = w' := by
  by_cases h : b < a
  · rw [if_pos h]
    go_enter Try.func126, Try.ntmps126
    go_wp2
    go_ret; exact ⟨rfl, rfl⟩
  · rw [if_neg h]
    go_enter Try.func126, Try.ntmps126
    go_wp2
    go_ret; exact ⟨rfl, rfl⟩
/-- The moduli that are drawn. -/
def primesL : List Int := [2, 3, 5, 7, 7, 11, 13, 13, 17, 31, 97, 251]
theorem c_prime (h : Cur w g cd n) (hn : n ≤ 10000000000) : Calls Try.prog 125 #[.pointer (some ⟨g, 0, none⟩)] w (Drew w g cd (n + 2) (IntR 2 251)) := by
  have hgl := h.lt
  go_enter Try.func125, Try.ntmps125
  go_wp2_with fail
  refine (c_among (l := primesL) (h.below ((Below.refl _ _).alloc (Nat.le_refl _) _)) (by omega) (ints_lit _ _ _ rfl (by simp [primesL])) (by simp [primesL]) (by simp [primesL]) (by rintro b hb; simp [Value.ownBlock] at hb; omega)).mono ?_
  rintro e w2 ⟨v, rfl, ⟨r, rfl, hr⟩, hc2, hg2⟩
  replace hg2 := Lib.hid (only_trans (only_below ((Below.refl _ _).alloc (Nat.le_refl _) _) _) hg2)
  replace hc2 := Lib.hid hc2
  have hr2 : 2 ≤ r ∧ r ≤ 251 := by simp [primesL] at hr; omega
  clear hr
  go_wp2
  go_ret
  exact ⟨_, rfl, ⟨_, rfl, hr2.1, hr2.2⟩, hc2.out, hg2.out⟩
theorem c_anyPrime (h : Cur w g cd n) (hn : n ≤ 1000000000) : Calls Try.prog 74 #[.pointer (some ⟨g, 0, none⟩)] w (Drew w g cd (n + 4) (IntR (-7) 257)) := by
  have hgl := h.lt
  go_enter Try.func74, Try.ntmps74
  go_wp2_with fail
  refine (c_one h (by omega) (by omega)).mono ?_
  rintro e w1 ⟨v, rfl, ⟨b, rfl⟩, hc1, hg1⟩
  have hs := hg1.size
  replace hg1 := Lib.hid hg1
  clear h
  cases b
  · go_wp2_with fail
    refine (c_prime hc1 (by omega)).mono ?_
    rintro e w2 ⟨v, rfl, ⟨r, rfl, hr0, hr1⟩, hc2, hg2⟩
    replace hg2 := Lib.hid (only_trans hg1.out hg2)
    replace hc2 := Lib.hid hc2
    clear hc1 hg1
    go_wp2
    go_ret
    exact ⟨_, rfl, ⟨_, rfl, by omega, by omega⟩, hc2.out, hg2.out⟩
  · go_wp2_with fail
    refine (c_among (l := [0, 1, 4, 9, 49, 249, 257, -7]) (hc1.below ((Below.refl _ _).alloc (Nat.le_refl _) _)) (by omega) (ints_lit _ _ _ rfl (by simp)) (by simp) (by simp) (by rintro b hb; simp [Value.ownBlock] at hb; omega)).mono ?_
    rintro e w2 ⟨v, rfl, ⟨r, rfl, hr⟩, hc2, hg2⟩
    replace hg2 := Lib.hid (only_trans hg1.out (only_trans (only_below ((Below.refl _ _).alloc (Nat.le_refl _) _) _) hg2))
    replace hc2 := Lib.hid hc2
    clear hc1 hg1
    have hr2 : -7 ≤ r ∧ r ≤ 257 := by simp at hr; omega
    go_wp2
    go_ret
    exact ⟨_, rfl, ⟨_, rfl, hr2.1, hr2.2⟩, hc2.out, hg2.out⟩
theorem c_element {p : Int} (h : Cur w g cd n) (hn : n ≤ 1000000000) (hp : -1000 ≤ p ∧ p ≤ 1000000) : Calls Try.prog 75 #[.pointer (some ⟨g, 0, none⟩), .int .i64 p] w (Drew w g cd (n + 4) (IntR (-1000) 1000000)) := by
  have hgl := h.lt
  go_enter Try.func75, Try.ntmps75
  go_wp2_with fail
  refine (c_one h (by omega) (by omega)).mono ?_
  rintro e w1 ⟨v, rfl, ⟨b, rfl⟩, hc1, hg1⟩
  have hs := hg1.size
  replace hg1 := Lib.hid hg1
  clear h
  cases b
  · have hm : (if (1 : Int) < p then p else 1) ≤ 1000000 := by split <;> omega
    go_wp2_with fail
    refine (c_spec_l1Most).mono ?_
    rintro e w' ⟨rfl, rfl⟩
    generalize (if (1 : Int) < p then p else 1) = m at *
    go_wp2_with fail
    refine (c_pick hc1 (by omega) (by omega)).mono ?_
    rintro e w2 ⟨v, rfl, ⟨r, rfl, hr0, hr1, hr2⟩, hc2, hg2⟩
    replace hg2 := Lib.hid (only_trans hg1.out hg2)
    replace hc2 := Lib.hid hc2
    clear hc1 hg1
    go_wp2
    go_ret
    exact ⟨_, rfl, ⟨_, rfl, by omega, by omega⟩, hc2.out, hg2.out⟩
  · go_wp2_with fail
    refine (c_among (l := [-1, p]) (hc1.below ((Below.refl _ _).alloc (Nat.le_refl _) _)) (by omega) (ints_lit _ _ _ rfl (by simp)) (by simp) (by simp) (by rintro b hb; simp [Value.ownBlock] at hb; omega)).mono ?_
    rintro e w2 ⟨v, rfl, ⟨r, rfl, hr⟩, hc2, hg2⟩
    replace hg2 := Lib.hid (only_trans hg1.out (only_trans (only_below ((Below.refl _ _).alloc (Nat.le_refl _) _) _) hg2))
    replace hc2 := Lib.hid hc2
    clear hc1 hg1
    have hr2 : -1000 ≤ r ∧ r ≤ 1000000 := by simp at hr; omega
    go_wp2
    go_ret
    exact ⟨_, rfl, ⟨_, rfl, hr2.1, hr2.2⟩, hc2.out, hg2.out⟩
variable {l : List Int}
theorem c_spec_DrawAddMod (h : Byts w cd l) : Calls Try.prog 19 #[cd] w fun e w' => (∃ a b c : Int, e = .returned (.tuple #[.int .i64 a, .int .i64 b, .int .i64 c])) ∧ Below w.heap.size w w' := by
  obtain ⟨A0, c0, rfl⟩ := h.form
  replace h := cur_new h
  go_enter Try.func19, Try.ntmps19
  go_wp2_with fail
  refine (c_anyPrime h (by omega)).mono ?_
  rintro e w1 ⟨v, rfl, ⟨a, rfl, ha0, ha1⟩, hc1, hg1⟩
  replace hg1 := Lib.hid hg1
  clear h
  go_wp2_with fail
  refine (c_element hc1 (by omega) (by omega)).mono ?_
  rintro e w2 ⟨v, rfl, ⟨b, rfl, hb0, hb1⟩, hc2, hg2⟩
  replace hg2 := Lib.hid (only_trans hg1.out hg2)
  clear hc1 hg1
  go_wp2_with fail
  refine (c_element hc2 (by omega) (by omega)).mono ?_
  rintro e w3 ⟨v, rfl, ⟨r, rfl, hr0, hr2⟩, hc3, hg3⟩
  replace hg3 := Lib.hid (only_trans hg2.out hg3)
  clear hc2 hg2 hc3
  go_wp2
  go_ret3
  exact ⟨⟨_, _, _, rfl⟩, cur_end hg3.out⟩
theorem c_spec_DrawDivideMod (h : Byts w cd l) : Calls Try.prog 8 #[cd] w fun e w' => (∃ a b c : Int, e = .returned (.tuple #[.int .i64 a, .int .i64 b, .int .i64 c])) ∧ Below w.heap.size w w' := by
  have H := Lib.hid h
  obtain ⟨A0, c0, rfl⟩ := h.form
  clear h
  go_enter Try.func8, Try.ntmps8
  go_wp2_with fail
  refine (c_spec_DrawAddMod H.out).mono ?_
  rintro e w1 ⟨⟨a, b, c, rfl⟩, hB⟩
  replace hB := Lib.hid hB
  go_wp2
  go_ret3
  exact ⟨⟨_, _, _, rfl⟩, hB.out⟩
theorem c_spec_DrawInverseMod (h : Byts w cd l) : Calls Try.prog 72 #[cd] w fun e w' => (∃ a b : Int, e = .returned (.tuple #[.int .i64 a, .int .i64 b])) ∧ Below w.heap.size w w' := by
  obtain ⟨A0, c0, rfl⟩ := h.form
  replace h := cur_new h
  go_enter Try.func72, Try.ntmps72
  go_wp2_with fail
  refine (c_anyPrime h (by omega)).mono ?_
  rintro e w1 ⟨v, rfl, ⟨a, rfl, ha0, ha1⟩, hc1, hg1⟩
  replace hg1 := Lib.hid hg1
  clear h
  go_wp2_with fail
  refine (c_element hc1 (by omega) (by omega)).mono ?_
  rintro e w2 ⟨v, rfl, ⟨b, rfl, hb0, hb1⟩, hc2, hg2⟩
  replace hg2 := Lib.hid (only_trans hg1.out hg2)
  clear hc1 hg1 hc2
  go_wp2
  go_ret2
  exact ⟨⟨_, _, rfl⟩, cur_end hg2.out⟩
theorem c_spec_DrawOrderMod (h : Byts w cd l) : Calls Try.prog 15 #[cd] w fun e w' => (∃ a b : Int, e = .returned (.tuple #[.int .i64 a, .int .i64 b])) ∧ Below w.heap.size w w' := by
  have H := Lib.hid h
  obtain ⟨A0, c0, rfl⟩ := h.form
  clear h
  go_enter Try.func15, Try.ntmps15
  go_wp2_with fail
  refine (c_spec_DrawInverseMod H.out).mono ?_
  rintro e w1 ⟨⟨a, b, rfl⟩, hB⟩
  replace hB := Lib.hid hB
  go_wp2
  go_ret2
  exact ⟨⟨_, _, rfl⟩, hB.out⟩
theorem c_spec_DrawPowMod (h : Byts w cd l) : Calls Try.prog 23 #[cd] w fun e w' => (∃ a b c : Int, e = .returned (.tuple #[.int .i64 a, .int .i64 b, .int .i64 c])) ∧ Below w.heap.size w w' := by
  obtain ⟨A0, c0, rfl⟩ := h.form
  replace h := cur_new h
  go_enter Try.func23, Try.ntmps23
  go_wp2_with fail
  refine (c_anyPrime h (by omega)).mono ?_
  rintro e w1 ⟨v, rfl, ⟨a, rfl, ha0, ha1⟩, hc1, hg1⟩
  replace hg1 := Lib.hid hg1
  clear h
  go_wp2_with fail
  refine (c_element hc1 (by omega) (by omega)).mono ?_
  rintro e w2 ⟨v, rfl, ⟨b, rfl, hb0, hb1⟩, hc2, hg2⟩
  replace hg2 := Lib.hid (only_trans hg1.out hg2)
  clear hc1 hg1
  go_wp2_with fail
  refine (c_pick hc2 (by omega) (by omega)).mono ?_
  rintro e w3 ⟨v, rfl, ⟨r, rfl, hr0, -, -⟩, hc3, hg3⟩
  have hgl := hc3.lt
  replace hg3 := Lib.hid (only_trans hg2.out hg3)
  clear hc2 hg2
  go_wp2_with fail
  refine (c_among (l := [0, 1, 2, 5, 1000000, 1000001, -1, r]) (hc3.below ((Below.refl _ _).alloc (Nat.le_refl _) _)) (by omega) (ints_lit _ _ _ rfl (by simp)) (by simp) (by simp) (by rintro b hb; simp [Value.ownBlock] at hb; omega)).mono ?_
  rintro e w4 ⟨v, rfl, ⟨q, rfl, -⟩, hc4, hg4⟩
  replace hg4 := Lib.hid (only_trans hg3.out (only_trans (only_below ((Below.refl _ _).alloc (Nat.le_refl _) _) _) hg4))
  clear hc3 hg3 hc4
  go_wp2
  go_ret3
  exact ⟨⟨_, _, _, rfl⟩, cur_end hg4.out⟩
end
end Go.Proofs.Ytmccfdaaneemfaa
