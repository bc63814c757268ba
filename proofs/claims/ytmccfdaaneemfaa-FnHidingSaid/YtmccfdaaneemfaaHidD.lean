/- Contracts of the draws that FnHiding makes, of the laws' comparison of equal lists of lists, and the plain laws of hiding. Conditions: the lists are short. -/
import Derived.Test.YtmccfdaaneemfaaHidA
import Derived.Test.YtmccfdaaneemfaaHidC
import Derived.Test.YtmccfdaaneemfaaShrM
import Derived.Test.YtmccfdaaneemfaaDrawH
namespace Go.Proofs.Ytmccfdaaneemfaa
open Go.RowKit
set_option linter.unusedVariables false
set_option maxHeartbeats 1000000
theorem c_laws_sameLists {va vb : Value} {rows : List (List Int)} {w : World} (ha : RowsIn w va rows) (hb' : RowsIn w vb rows) (hl : rows.length ≤ 2097152) (hr : ∀ r ∈ rows, r.length ≤ 2097152) :
    Calls Try.prog 31 #[va, vb] w fun e w' => e = .returned (.bool true) ∧ Below w.heap.size w w' := by
  have HR := Lib.hid hr
  obtain ⟨A, c, rfl, hlc, hcm, hat⟩ := ha.form
  obtain ⟨A', c', rfl, hlc', hcm', hat'⟩ := hb'.form
  have HA := Lib.hid hat
  have HB' := Lib.hid hat'
  clear hr hat hat' ha hb'
  go_enter Try.func31, Try.ntmps31
  go_wp2
  go_loopw [13] (fun i wr => ∃ k : Nat, k ≤ rows.length ∧ i = .int .i64 k ∧ Hid (Below w.heap.size w wr)) (fun i _ => rows.length - (intOf i).toNat)
  case atStart => exact ⟨0, Nat.zero_le _, rfl, Lib.hid (Below.refl _ _)⟩
  case round =>
    obtain ⟨k, hk, rfl, HB⟩ := hrel
    obtain ⟨wa, rfl⟩ : ∃ W, W = wr := ⟨wr, rfl⟩
    by_cases hlt : k < rows.length
    · obtain ⟨b1, o1, A1, r1, c1, rfl, hbl, hrk, hcell, hi1⟩ := HA.out k hlt
      obtain ⟨b2, o2, A2, r2, c2, rfl, hbl2, hrk2, hcell2, hi2⟩ := HB'.out k hlt
      obtain rfl : r1 = r2 := by rw [hrk] at hrk2; injection hrk2
      have e1 := (HB.out.cell (p := ⟨b1, o1 + k, none⟩) hbl).trans hcell
      have e2 := (HB.out.cell (p := ⟨b2, o2 + k, none⟩) hbl2).trans hcell2
      have H1 := Lib.hid (hi1.below HB.out)
      have H2 := Lib.hid (hi2.below HB.out)
      have hrl := HR.out r1 (List.mem_of_getElem? hrk)
      have hk0 : (0 : Int) ≤ (k : Int) := Int.natCast_nonneg _
      have hk1 : (k : Int) < (rows.length : Int) := by omega
      clear hrk hrk2 hcell hcell2 hi1 hi2
      have hw1 := Nat.lt_of_lt_of_le hbl HB.out.size
      have hw2 := Nat.lt_of_lt_of_le hbl2 HB.out.size
      go_wp2_with fail
      go_region_held3 (fun w' => w'.cell? ⟨b1, o1 + k, none⟩ = some (.slice A1 r1.length c1) ∧ w'.cell? ⟨b2, o2 + k, none⟩ = some (.slice A2 r1.length c2))
        (first | exact KP.out | exact ⟨e1, e2⟩)
        (first
          | (go_at_call 28; refine (c_laws_sameInts (H1.out.below (Below.refl _ _).drew) (H2.out.below (Below.refl _ _).drew) hrl).mono ?_; rintro e w2 ⟨rfl, hb2⟩; have HB2 := Lib.hid (below_step HB.out (below_step (Below.refl _ _).drew hb2)); have KP := Lib.hid (And.intro ((hb2.cell (p := ⟨b1, o1 + k, none⟩) hw1).trans e1) ((hb2.cell (p := ⟨b2, o2 + k, none⟩) hw2).trans e2)); clear hb2))
      go_wp2
      go_roundw
      case rel => exact ⟨k + 1, by omega, by go_num, HB2⟩
      case measure => simp [intOf]; omega
    · go_wp2
      go_ret
      exact ⟨rfl, HB.out⟩
theorem c_laws_pMod {a m : Int} {w : World} (hm : 1 ≤ m ∧ m ≤ 1000000000) (ha : -4000000000000000000 ≤ a ∧ a ≤ 4000000000000000000) : Calls Try.prog 36 #[.int .i64 a, .int .i64 m] w fun e w' => e = .returned (.int .i64 (a % m)) ∧ w = w' := by
  have h1 := tmod_bd a (m := m) (by omega)
  have h2 := Lib.hid (tmod_mod a m)
  have h3 : ¬ m = 0 := by omega
  go_enter Try.func36, Try.ntmps36
  go_wp2
  go_ret
  exact ⟨by rw [← h2.out]; rfl, rfl⟩
section
variable {w : World} {cd : Value} {l0 : List Int}
theorem c_spec_DrawShareCounts (h : Byts w cd l0) : Calls Try.prog 25 #[cd] w fun e w' => (∃ p v t : Int, e = .returned (.tuple #[.int .i64 p, .int .i64 v, .int .i64 t])) ∧ Below w.heap.size w w' := by
  obtain ⟨A0, c0, rfl⟩ := h.form
  replace h := cur_new h
  go_enter Try.func25, Try.ntmps25
  go_wp2_with fail
  refine (c_anyPrime h (by omega)).mono ?_
  rintro e w1 ⟨v, rfl, ⟨p, rfl, hp0, hp1⟩, hc1, hg1⟩
  replace hg1 := Lib.hid hg1
  clear h
  go_wp2_with fail
  refine (c_element hc1 (by omega) (by omega)).mono ?_
  rintro e w2 ⟨v, rfl, ⟨b, rfl, hb0, hb1⟩, hc2, hg2⟩
  replace hg2 := Lib.hid (only_trans hg1.out hg2)
  clear hc1 hg1
  go_wp2_with fail
  refine (c_pick hc2 (by omega) (by omega)).mono ?_
  rintro e w3 ⟨v, rfl, ⟨r, rfl, hr0, -, hr1⟩, hc3, hg3⟩
  replace hg3 := Lib.hid (only_trans hg2.out hg3)
  clear hc2 hg2
  go_wp2_with fail
  refine (c_pick hc3 (by omega) (by omega)).mono ?_
  rintro e w4 ⟨v, rfl, ⟨s, rfl, hs0, -, hs1⟩, hc4, hg4⟩
  replace hg4 := Lib.hid (only_trans hg3.out hg4)
  clear hc3 hg3 hc4
  have hq : s.tdiv 23 = 0 ∨ s.tdiv 23 = 1 := by rw [Int.tdiv_eq_ediv_of_nonneg hs0]; omega
  go_wp2
  go_ret3
  exact ⟨⟨_, _, _, rfl⟩, cur_end hg4.out⟩
theorem c_spec_DrawScaleShare (h : Byts w cd l0) : Calls Try.prog 37 #[cd] w fun e w' => (∃ (p k : Int) (u : Value) (l : List Int), e = .returned (.tuple #[.int .i64 p, u, .int .i64 k]) ∧ LeR 41 (-1000) 1000000 l ∧ Ints w' u l) ∧ Below w.heap.size w w' := by
  obtain ⟨A0, c0, rfl⟩ := h.form
  replace h := cur_new h
  go_enter Try.func37, Try.ntmps37
  go_wp2_with fail
  refine (c_values h (by omega)).mono ?_
  rintro e w1 ⟨p, u, l, rfl, hp, hl, ho, hc1, hg1⟩
  have HL := Lib.hid hl
  have HO := Lib.hid ho
  obtain ⟨A, c, rfl, -⟩ := ho.ints
  replace hg1 := Lib.hid hg1
  clear h hl ho
  go_wp2_with fail
  refine (c_element hc1 (by omega) (by omega)).mono ?_
  rintro e w2 ⟨v, rfl, ⟨b, rfl, hb0, hb1⟩, hc2, hg2⟩
  replace HO := Lib.hid (own_draw (g := 0) HO.out hg2)
  replace hg2 := Lib.hid (only_trans hg1.out hg2)
  clear hc1 hg1 hc2
  go_wp2
  go_ret3
  exact ⟨⟨_, _, _, _, rfl, HL.out, HO.out.ints⟩, cur_end hg2.out⟩
theorem c_spec_DrawShiftShare (h : Byts w cd l0) : Calls Try.prog 32 #[cd] w fun e w' => (∃ (p t k : Int) (u : Value) (l : List Int), e = .returned (.tuple #[.int .i64 p, .int .i64 t, u, .int .i64 k]) ∧ LeR 41 (-1000) 1000000 l ∧ Ints w' u l) ∧ Below w.heap.size w w' := by
  obtain ⟨A0, c0, rfl⟩ := h.form
  replace h := cur_new h
  go_enter Try.func32, Try.ntmps32
  go_wp2_with fail
  refine (c_values h (by omega)).mono ?_
  rintro e w1 ⟨p, u, l, rfl, hp, hl, ho, hc1, hg1⟩
  have HL := Lib.hid hl
  have HO := Lib.hid ho
  obtain ⟨A, c, rfl, -⟩ := ho.ints
  replace hg1 := Lib.hid hg1
  clear h hl ho
  go_wp2_with fail
  refine (c_pick hc1 (by omega) (by omega)).mono ?_
  rintro e w2 ⟨v, rfl, ⟨r, rfl, hr0, -, hr1⟩, hc2, hg2⟩
  replace HO := Lib.hid (own_draw (g := 0) HO.out hg2)
  replace hg2 := Lib.hid (only_trans hg1.out hg2)
  clear hc1 hg1
  go_wp2_with fail
  refine (c_pick hc2 (by omega) (by omega)).mono ?_
  rintro e w3 ⟨v, rfl, ⟨s, rfl, hs0, -, hs1⟩, hc3, hg3⟩
  replace HO := Lib.hid (own_draw (g := 0) HO.out hg3)
  replace hg3 := Lib.hid (only_trans hg2.out hg3)
  clear hc2 hg2
  have hq : s.tdiv 23 = 0 ∨ s.tdiv 23 = 1 := by rw [Int.tdiv_eq_ediv_of_nonneg hs0]; omega
  go_wp2_with fail
  refine (c_pick hc3 (by omega) (by omega)).mono ?_
  rintro e w4 ⟨v, rfl, ⟨z, rfl, hz0, -, hz1⟩, hc4, hg4⟩
  replace HO := Lib.hid (own_draw (g := 0) HO.out hg4)
  replace hg4 := Lib.hid (only_trans hg3.out hg4)
  clear hc3 hg3
  have hq2 : z.tdiv 23 = 0 ∨ z.tdiv 23 = 1 := by rw [Int.tdiv_eq_ediv_of_nonneg hz0]; omega
  go_wp2_with fail
  refine (c_element hc4 (by omega) (by omega)).mono ?_
  rintro e w5 ⟨v, rfl, ⟨b, rfl, hb0, hb1⟩, hc5, hg5⟩
  replace HO := Lib.hid (own_draw (g := 0) HO.out hg5)
  replace hg5 := Lib.hid (only_trans hg4.out hg5)
  clear hc4 hg4 hc5
  go_wp2
  refine bodyPost_ret (by simp [results, Try.results32, go_sem]; rfl) rfl ?_
  exact ⟨⟨_, _, _, _, _, rfl, HL.out, HO.out.ints⟩, cur_end hg5.out⟩
end
end Go.Proofs.Ytmccfdaaneemfaa
