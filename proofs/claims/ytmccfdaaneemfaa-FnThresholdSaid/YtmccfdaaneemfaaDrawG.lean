/- Contracts of the draws of lists of elements, bits and values. Conditions: the bounds that each names. -/
import Derived.Test.YtmccfdaaneemfaaDrawE
namespace Go.Proofs.Ytmccfdaaneemfaa
open Go.RowKit
set_option linter.unusedVariables false
set_option maxHeartbeats 1000000
section
variable {w : World} {g n : Nat} {cd : Value}
/-- So many numbers, each from a to b. -/
def ListR (k : Nat) (a b : Int) (l : List Int) : Prop := l.length = k ∧ ∀ x ∈ l, a ≤ x ∧ x ≤ b
theorem ListR.snoc {k : Nat} {a b x : Int} {l : List Int} (h : ListR k a b l) (hx : a ≤ x ∧ x ≤ b) : ListR (k + 1) a b (l ++ [x]) := by
  refine ⟨by simp [h.1], fun y hy => ?_⟩
  rcases List.mem_append.1 hy with hy | hy
  · exact h.2 y hy
  · simp at hy; subst hy; exact hx
theorem c_elements {p : Int} {m : Nat} (h : Cur w g cd n) (hn : n ≤ 100000000) (hm : m ≤ 1000) (hp : -1000 ≤ p ∧ p ≤ 1000000) : Calls Try.prog 129 #[.pointer (some ⟨g, 0, none⟩), .int .i64 p, .int .i64 (m : Int)] w (DrewL w g cd (n + 4 * m) (ListR m (-1000) 1000000)) := by
  have hgl := h.lt
  have HC0 := Lib.hid h
  have HCD := Lib.hid h.1
  go_enter Try.func129, Try.ntmps129
  go_wp2
  go_loopw [2, 7] (fun i u wr => ∃ (k : Nat) (l : List Int), k ≤ m ∧ i = .int .i64 ((m : Int) - k) ∧ Hid (ListR k (-1000) 1000000 l) ∧ Hid (OwnI wr w.heap.size u l) ∧ Hid (Cur wr g cd (n + 4 * k)) ∧ Hid (w.grownBy wr (some g))) (fun i _ _ => (intOf i).toNat)
  case atStart => exact ⟨0, [], Nat.zero_le _, by simp, ⟨rfl, fun x hx => by simp at hx⟩, OwnI.nil _ _, HC0, Lib.hid (only_refl _ _)⟩
  case round =>
    obtain ⟨k, l, hk, rfl, HR, HO, HC, HG⟩ := hrel
    have hlen := HR.out.1
    have hs := HG.out.size
    by_cases hlt : k < m
    · have hpos : (0 : Int) < (m : Int) - k := by omega
      go_wp2_with fail
      refine (c_element HC.out (by omega) hp).mono ?_
      rintro e w1 ⟨v, rfl, ⟨r, rfl, hr0, hr1⟩, hc1, hg1⟩
      have HO1 := Lib.hid (own_app HO.out hgl hg1)
      have HC1 := Lib.hid hc1
      have HG1 := Lib.hid (only_trans HG.out hg1)
      have hsz : w.heap.size ≤ w1.heap.size := HG1.out.size
      clear hc1 hg1 HO HC HG
      go_wp2_with (at_builtin; refine wp_app1 (B := w.heap.size) rfl rfl Try.underlying32 info_int rfl HO1.out rfl rfl rfl (by unfold maxLen; omega) (by omega) hsz ?_; intro v' w9 ho hg hfr)
      have HA := Lib.hid (Cur.app HCD.out HC1.out HG1.out hg (fun b hb => HO1.out.ge b hb) hgl)
      go_roundw
      case rel => exact ⟨k + 1, _, by omega, by go_num, Lib.hid (HR.out.snoc (by omega)), Lib.hid (OwnI.snoc ho), Lib.hid (HA.out.1.mono (by omega)), Lib.hid HA.out.2⟩
      case measure => simp [intOf]; omega
    · obtain rfl : k = m := by omega
      have hpos : ¬ (0 : Int) < (k : Int) - k := by omega
      go_wp2
      go_ret
      exact ⟨_, l, rfl, HR.out, HO.out, HC.out, HG.out⟩
theorem c_bits {m : Nat} (h : Cur w g cd n) (hn : n ≤ 100000000) (hm : m ≤ 1000) : Calls Try.prog 133 #[.pointer (some ⟨g, 0, none⟩), .int .i64 (m : Int)] w (DrewL w g cd (n + 4 * m) (ListR m (0) 1)) := by
  have hgl := h.lt
  have HC0 := Lib.hid h
  have HCD := Lib.hid h.1
  go_enter Try.func133, Try.ntmps133
  go_wp2
  go_loopw [1, 5] (fun i u wr => ∃ (k : Nat) (l : List Int), k ≤ m ∧ i = .int .i64 ((m : Int) - k) ∧ Hid (ListR k (0) 1 l) ∧ Hid (OwnI wr w.heap.size u l) ∧ Hid (Cur wr g cd (n + 4 * k)) ∧ Hid (w.grownBy wr (some g))) (fun i _ _ => (intOf i).toNat)
  case atStart => exact ⟨0, [], Nat.zero_le _, by simp, ⟨rfl, fun x hx => by simp at hx⟩, OwnI.nil _ _, HC0, Lib.hid (only_refl _ _)⟩
  case round =>
    obtain ⟨k, l, hk, rfl, HR, HO, HC, HG⟩ := hrel
    have hlen := HR.out.1
    have hs := HG.out.size
    by_cases hlt : k < m
    · have hpos : (0 : Int) < (m : Int) - k := by omega
      go_wp2_with fail
      refine (c_pick HC.out (by omega) (by omega)).mono ?_
      rintro e w1 ⟨v, rfl, ⟨r, rfl, hr0, -, hr1⟩, hc1, hg1⟩
      have HO1 := Lib.hid (own_app HO.out hgl hg1)
      have HC1 := Lib.hid hc1
      have HG1 := Lib.hid (only_trans HG.out hg1)
      have hsz : w.heap.size ≤ w1.heap.size := HG1.out.size
      clear hc1 hg1 HO HC HG
      go_wp2_with (at_builtin; refine wp_app1 (B := w.heap.size) rfl rfl Try.underlying32 info_int rfl HO1.out rfl rfl rfl (by unfold maxLen; omega) (by omega) hsz ?_; intro v' w9 ho hg hfr)
      have HA := Lib.hid (Cur.app HCD.out HC1.out HG1.out hg (fun b hb => HO1.out.ge b hb) hgl)
      go_roundw
      case rel => exact ⟨k + 1, _, by omega, by go_num, Lib.hid (HR.out.snoc (by omega)), Lib.hid (OwnI.snoc ho), Lib.hid (HA.out.1.mono (by omega)), Lib.hid HA.out.2⟩
      case measure => simp [intOf]; omega
    · obtain rfl : k = m := by omega
      have hpos : ¬ (0 : Int) < (k : Int) - k := by omega
      go_wp2
      go_ret
      exact ⟨_, l, rfl, HR.out, HO.out, HC.out, HG.out⟩
/-- At most so many numbers, each from a to b. -/
def LeR (k : Nat) (a b : Int) (l : List Int) : Prop := l.length ≤ k ∧ ∀ x ∈ l, a ≤ x ∧ x ≤ b
theorem ListR.le {k m : Nat} {a b a' b' : Int} {l : List Int} (h : ListR k a b l) (hk : k ≤ m) (ha : a' ≤ a) (hb : b ≤ b') : LeR m a' b' l := ⟨by rw [h.1]; exact hk, fun x hx => by have := h.2 x hx; omega⟩
theorem c_anyBits (h : Cur w g cd n) (hn : n ≤ 10000000) : Calls Try.prog 96 #[.pointer (some ⟨g, 0, none⟩)] w (DrewL w g cd (n + 1000) (LeR 66 (-1) 2)) := by
  have hgl := h.lt
  have HCD := Lib.hid h.1
  go_enter Try.func96, Try.ntmps96
  go_wp2_with fail
  refine (c_pick h (by omega) (by omega)).mono ?_
  rintro e w1 ⟨v, rfl, ⟨r, rfl, hr0, -, hr1⟩, hc1, hg1⟩
  obtain ⟨m, rfl⟩ := Int.eq_ofNat_of_zero_le hr0
  replace hg1 := Lib.hid hg1
  have hs1 := hg1.out.size
  clear h
  go_wp2_with fail
  refine (c_bits hc1 (by omega) (by omega)).mono ?_
  rintro e w2 ⟨u, l, rfl, hl, ho, hc2, hg2⟩
  have HL := Lib.hid hl
  have hll : l.length ≤ 10 := by have := hl.1; omega
  have HO := Lib.hid (ho.mono hs1)
  replace hg2 := Lib.hid (only_trans hg1.out hg2)
  clear hc1 hg1 ho hl
  obtain ⟨A, c, rfl, -⟩ := HO.out.ints
  go_wp2_with fail
  refine (c_pick hc2 (by omega) (by omega)).mono ?_
  rintro e w3 ⟨v, rfl, ⟨r, rfl, hr2, -, hr3⟩, hc3, hg3⟩
  replace HO := Lib.hid (own_app HO.out hgl hg3)
  replace hg3 := Lib.hid (only_trans hg2.out hg3)
  have hs3 := hg3.out.size
  clear hc2 hg2
  by_cases h0 : r = 0
  · subst h0
    go_wp2_with fail
    refine (c_among (l := [-1, 2]) (hc3.below ((Below.refl _ _).alloc (Nat.le_refl _) _)) (by omega) (ints_lit _ _ _ rfl (by simp)) (by simp) (by simp) (by rintro b hb; simp [Value.ownBlock] at hb; omega)).mono ?_
    rintro e w4 ⟨v, rfl, ⟨q, rfl, hq⟩, hc4, hg4⟩
    replace hg4 := Lib.hid (only_trans (only_below ((Below.refl _ _).alloc (Nat.le_refl _) _) _) hg4)
    replace HO := Lib.hid (own_app HO.out hgl hg4.out)
    replace hg4 := Lib.hid (only_trans hg3.out hg4.out)
    have hs4 := hg4.out.size
    have hq2 : -1 ≤ q ∧ q ≤ 2 := by simp at hq; omega
    replace hc4 := Lib.hid hc4
    clear hc3 hg3 hq
    go_wp2_with (at_builtin; refine wp_app1 (B := w.heap.size) rfl rfl Try.underlying32 info_int rfl HO.out rfl rfl rfl (by unfold maxLen; omega) (by omega) hs4 ?_; intro v' w9 ho hg hfr)
    have HA := Lib.hid (Cur.app HCD.out hc4.out hg4.out hg (fun b hb => HO.out.ge b hb) hgl)
    go_wp2
    go_ret
    refine ⟨_, l ++ [q], rfl, ⟨by simp; omega, fun x hx => ?_⟩, OwnI.snoc ho, HA.out.1.mono (by omega), HA.out.2⟩
    rcases List.mem_append.1 hx with hx | hx
    · have := HL.out.2 x hx; omega
    · simp at hx; subst hx; exact hq2
  · by_cases h1 : r = 1
    · subst h1
      go_wp2_with fail
      refine (c_pick hc3 (by omega) (by omega)).mono ?_
      rintro e w4 ⟨v, rfl, ⟨q, rfl, hq0, -, hq1⟩, hc4, hg4⟩
      replace hg4 := Lib.hid (only_trans hg3.out hg4)
      have hs4 := hg4.out.size
      obtain ⟨m2, hm2⟩ := Int.eq_ofNat_of_zero_le (show 0 ≤ 16 + q by omega)
      clear hc3 hg3
      go_wp2_with fail
      refine (c_bits hc4 (by omega) (by omega)).mono ?_
      rintro e w5 ⟨u, l2, rfl, hl, ho, hc5, hg5⟩
      replace hg5 := Lib.hid (only_trans hg4.out hg5)
      have HO5 := Lib.hid (ho.mono hs4)
      replace hc5 := Lib.hid (hc5.mono (show _ ≤ n + 1000 by omega))
      have HL5 := Lib.hid (hl.le (m := 66) (a' := -1) (b' := 2) (by omega) (by omega) (by omega))
      clear hc4 hg4 ho hl
      go_wp2
      go_ret
      exact ⟨_, _, rfl, HL5.out, HO5.out, hc5.out, hg5.out⟩
    · by_cases h2 : r = 2
      · subst h2
        go_wp2_with fail
        refine (c_pick hc3 (by omega) (by omega)).mono ?_
        rintro e w4 ⟨v, rfl, ⟨q, rfl, hq0, -, hq1⟩, hc4, hg4⟩
        replace hg4 := Lib.hid (only_trans hg3.out hg4)
        have hs4 := hg4.out.size
        obtain ⟨m2, hm2⟩ := Int.eq_ofNat_of_zero_le (show 0 ≤ 64 + q by omega)
        clear hc3 hg3
        go_wp2_with fail
        refine (c_bits hc4 (by omega) (by omega)).mono ?_
        rintro e w5 ⟨u, l2, rfl, hl, ho, hc5, hg5⟩
        replace hg5 := Lib.hid (only_trans hg4.out hg5)
        have HO5 := Lib.hid (ho.mono hs4)
        replace hc5 := Lib.hid (hc5.mono (show _ ≤ n + 1000 by omega))
        have HL5 := Lib.hid (hl.le (m := 66) (a' := -1) (b' := 2) (by omega) (by omega) (by omega))
        clear hc4 hg4 ho hl
        go_wp2
        go_ret
        exact ⟨_, _, rfl, HL5.out, HO5.out, hc5.out, hg5.out⟩
      · have HL5 := Lib.hid (HL.out.le (m := 66) (a' := -1) (b' := 2) (by omega) (by omega) (by omega))
        replace hc3 := Lib.hid (hc3.mono (show _ ≤ n + 1000 by omega))
        go_wp2
        go_ret
        exact ⟨_, _, rfl, HL5.out, HO.out, hc3.out, hg3.out⟩
theorem c_values (h : Cur w g cd n) (hn : n ≤ 10000000) : Calls Try.prog 82 #[.pointer (some ⟨g, 0, none⟩)] w fun e w' => ∃ (p : Int) (u : Value) (l : List Int), e = .returned (.tuple #[.int .i64 p, u]) ∧ (-7 ≤ p ∧ p ≤ 257) ∧ LeR 41 (-1000) 1000000 l ∧ OwnI w' w.heap.size u l ∧ Cur w' g cd (n + 300) ∧ w.grownBy w' (some g) := by
  have hgl := h.lt
  go_enter Try.func82, Try.ntmps82
  go_wp2_with fail
  refine (c_anyPrime h (by omega)).mono ?_
  rintro e w1 ⟨v, rfl, ⟨p, rfl, hp0, hp1⟩, hc1, hg1⟩
  replace hg1 := Lib.hid hg1
  clear h
  go_wp2_with fail
  refine (c_pick hc1 (by omega) (by omega)).mono ?_
  rintro e w2 ⟨v, rfl, ⟨r, rfl, hr0, -, hr1⟩, hc2, hg2⟩
  obtain ⟨m, rfl⟩ := Int.eq_ofNat_of_zero_le hr0
  replace hg2 := Lib.hid (only_trans hg1.out hg2)
  clear hc1 hg1
  go_wp2_with fail
  refine (c_one hc2 (by omega) (by omega)).mono ?_
  rintro e w3 ⟨v, rfl, ⟨b, rfl⟩, hc3, hg3⟩
  replace hg3 := Lib.hid (only_trans hg2.out hg3)
  have hs3 := hg3.out.size
  clear hc2 hg2
  cases b
  · go_wp2_with fail
    refine (c_elements hc3 (by omega) (by omega) (by omega)).mono ?_
    rintro e w5 ⟨u, l, rfl, hl, ho, hc5, hg5⟩
    replace hg5 := Lib.hid (only_trans hg3.out hg5)
    have HO5 := Lib.hid (ho.mono hs3)
    replace hc5 := Lib.hid (hc5.mono (show _ ≤ n + 300 by omega))
    have HL5 := Lib.hid (hl.le (m := 41) (a' := -1000) (b' := 1000000) (by omega) (by omega) (by omega))
    clear hc3 hg3 ho hl
    go_wp2
    go_ret2
    exact ⟨_, _, _, rfl, ⟨hp0, hp1⟩, HL5.out, HO5.out, hc5.out, hg5.out⟩
  · go_wp2_with fail
    refine (c_pick hc3 (by omega) (by omega)).mono ?_
    rintro e w4 ⟨v, rfl, ⟨q, rfl, hq0, -, hq1⟩, hc4, hg4⟩
    replace hg4 := Lib.hid (only_trans hg3.out hg4)
    have hs4 := hg4.out.size
    obtain ⟨m2, hm2⟩ := Int.eq_ofNat_of_zero_le (show 0 ≤ 40 + q by omega)
    clear hc3 hg3
    go_wp2_with fail
    refine (c_elements hc4 (by omega) (by omega) (by omega)).mono ?_
    rintro e w5 ⟨u, l, rfl, hl, ho, hc5, hg5⟩
    replace hg5 := Lib.hid (only_trans hg4.out hg5)
    have HO5 := Lib.hid (ho.mono hs4)
    replace hc5 := Lib.hid (hc5.mono (show _ ≤ n + 300 by omega))
    have HL5 := Lib.hid (hl.le (m := 41) (a' := -1000) (b' := 1000000) (by omega) (by omega) (by omega))
    clear hc4 hg4 ho hl
    go_wp2
    go_ret2
    exact ⟨_, _, _, rfl, ⟨hp0, hp1⟩, HL5.out, HO5.out, hc5.out, hg5.out⟩
end
end Go.Proofs.Ytmccfdaaneemfaa
