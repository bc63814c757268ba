/- Contracts of the draws of shares: some values of the right kind come back; only new blocks are laid. Condition: the bytes read as bytes. -/
import Derived.Test.YtmccfdaaneemfaaDrawG
namespace Go.Proofs.Ytmccfdaaneemfaa
open Go.RowKit
set_option linter.unusedVariables false
set_option maxHeartbeats 1000000
section
variable {w : World} {cd : Value} {l0 : List Int}
theorem own_draw {w w1 w2 : World} {g : Nat} {o : Obj} {u : Value} {l : List Int} (h : OwnI w1 (w.alloc o).heap.size u l) (h2 : w1.grownBy w2 (some w.heap.size)) : OwnI w2 (w.alloc o).heap.size u l :=
  h.grown h2 (fun b hb e => by have := h.ge b hb; injection e with e; simp at this; omega)
theorem c_spec_DrawSplitSum (h : Byts w cd l0) : Calls Try.prog 40 #[cd] w fun e w' => (∃ (p k : Int) (u : Value) (l : List Int), e = .returned (.tuple #[.int .i64 p, .int .i64 k, u]) ∧ LeR 41 (-1000) 1000000 l ∧ Ints w' u l) ∧ Below w.heap.size w w' := by
  obtain ⟨A0, c0, rfl⟩ := h.form
  replace h := cur_new h
  go_enter Try.func40, Try.ntmps40
  go_wp2_with fail
  refine (c_values h (by omega)).mono ?_
  rintro e w1 ⟨p, u, l, rfl, hp, hl, ho, hc1, hg1⟩
  have HL := Lib.hid hl
  have HO := Lib.hid ho
  obtain ⟨A, c, rfl, -⟩ := ho.ints
  replace hg1 := Lib.hid hg1
  clear h hl ho
  go_wp2_with fail
  refine (c_secret hc1 (by omega)).mono ?_
  rintro e w2 ⟨v, rfl, ⟨b, rfl, hb0, hb1⟩, hc2, hg2⟩
  replace HO := Lib.hid (own_draw (g := 0) HO.out hg2)
  replace hg2 := Lib.hid (only_trans hg1.out hg2)
  clear hc1 hg1 hc2
  go_wp2
  go_ret3
  exact ⟨⟨_, _, _, _, rfl, HL.out, HO.out.ints⟩, cur_end hg2.out⟩
theorem c_spec_DrawSplitBits (h : Byts w cd l0) : Calls Try.prog 44 #[cd] w fun e w' => (∃ (k : Int) (u : Value) (l : List Int), e = .returned (.tuple #[.int .i64 k, u]) ∧ LeR 66 (-1) 2 l ∧ Ints w' u l) ∧ Below w.heap.size w w' := by
  obtain ⟨A0, c0, rfl⟩ := h.form
  replace h := cur_new h
  go_enter Try.func44, Try.ntmps44
  go_wp2_with fail
  refine (c_secret h (by omega)).mono ?_
  rintro e w1 ⟨v, rfl, ⟨b, rfl, hb0, hb1⟩, hc1, hg1⟩
  replace hg1 := Lib.hid hg1
  clear h
  go_wp2_with fail
  refine (c_anyBits hc1 (by omega)).mono ?_
  rintro e w2 ⟨u, l, rfl, hl, ho, hc2, hg2⟩
  have HL := Lib.hid hl
  have HO := Lib.hid ho
  obtain ⟨A, c, rfl, -⟩ := ho.ints
  replace hg2 := Lib.hid (only_trans hg1.out hg2)
  clear hc1 hg1 hc2 hl ho
  go_wp2
  go_ret2
  exact ⟨⟨_, _, _, rfl, HL.out, HO.out.ints⟩, cur_end hg2.out⟩
theorem c_spec_DrawJoinSum (h : Byts w cd l0) : Calls Try.prog 103 #[cd] w fun e w' => (∃ (p : Int) (u v : Value) (l m : List Int), e = .returned (.tuple #[.int .i64 p, u, v]) ∧ LeR 42 (-1000) 1000000 l ∧ LeR 42 (-1000) 1000000 m ∧ Ints w' u l ∧ Ints w' v m) ∧ Below w.heap.size w w' := by
  obtain ⟨A0, c0, rfl⟩ := h.form
  replace h := cur_new h
  go_enter Try.func103, Try.ntmps103
  go_wp2_with fail
  refine (c_values h (by omega)).mono ?_
  rintro e w1 ⟨p, u, l, rfl, hp, hl, ho, hc1, hg1⟩
  have HL := Lib.hid hl
  have hll := hl.1
  have HO := Lib.hid ho
  obtain ⟨A, c, rfl, -⟩ := ho.ints
  replace hg1 := Lib.hid hg1
  clear h hl ho
  go_wp2_with fail
  refine (c_one hc1 (by omega) (by omega)).mono ?_
  rintro e w2 ⟨v, rfl, ⟨b, rfl⟩, hc2, hg2⟩
  replace HO := Lib.hid (own_draw (g := 0) HO.out hg2)
  replace hg2 := Lib.hid (only_trans hg1.out hg2)
  clear hc1 hg1
  cases b
  · go_wp2_with fail
    refine (c_elements hc2 (by omega) (by omega) (by omega)).mono ?_
    rintro e w3 ⟨u2, l2, rfl, hl2, ho2, hc3, hg3⟩
    replace HO := Lib.hid (own_draw (g := 0) HO.out hg3)
    replace hg3 := Lib.hid (only_trans hg2.out hg3)
    have HM := Lib.hid (hl2.le (m := 42) (a' := -1000) (b' := 1000000) (by omega) (by omega) (by omega))
    have HO2 := Lib.hid ho2
    obtain ⟨A2, c2, rfl, -⟩ := ho2.ints
    clear hc2 hg2 hc3 hl2 ho2
    go_wp2
    go_ret3
    exact ⟨⟨_, _, _, _, _, rfl, ⟨by have := HL.out.1; omega, HL.out.2⟩, HM.out, HO.out.ints, HO2.out.ints⟩, cur_end hg3.out⟩
  · have hln : ((l.length + 1 : Nat) : Int) = (l.length : Int) + 1 := by omega
    obtain ⟨m1, hm1⟩ : ∃ m : Nat, (l.length : Int) + 1 = (m : Int) := ⟨l.length + 1, by omega⟩
    have hm42 : m1 ≤ 42 := by omega
    clear hln
    go_wp2_with fail
    refine (c_elements hc2 (by omega) (by omega) (by omega)).mono ?_
    rintro e w3 ⟨u2, l2, rfl, hl2, ho2, hc3, hg3⟩
    replace HO := Lib.hid (own_draw (g := 0) HO.out hg3)
    replace hg3 := Lib.hid (only_trans hg2.out hg3)
    have HM := Lib.hid (hl2.le (m := 42) (a' := -1000) (b' := 1000000) (by omega) (by omega) (by omega))
    have HO2 := Lib.hid ho2
    obtain ⟨A2, c2, rfl, -⟩ := ho2.ints
    clear hc2 hg2 hc3 hl2 ho2
    go_wp2
    go_ret3
    exact ⟨⟨_, _, _, _, _, rfl, ⟨by have := HL.out.1; omega, HL.out.2⟩, HM.out, HO.out.ints, HO2.out.ints⟩, cur_end hg3.out⟩
theorem c_spec_DrawInnerShares (h : Byts w cd l0) : Calls Try.prog 49 #[cd] w fun e w' => (∃ (p : Int) (u v : Value) (l m : List Int), e = .returned (.tuple #[.int .i64 p, u, v]) ∧ LeR 42 (-1000) 1000000 l ∧ LeR 42 (-1000) 1000000 m ∧ Ints w' u l ∧ Ints w' v m) ∧ Below w.heap.size w w' := by
  have H := Lib.hid h
  obtain ⟨A0, c0, rfl⟩ := h.form
  clear h
  go_enter Try.func49, Try.ntmps49
  go_wp2_with fail
  refine (c_spec_DrawJoinSum H.out).mono ?_
  rintro e w1 ⟨⟨p, u, v, l, m, rfl, hl, hm, hu, hv⟩, hB⟩
  have HU := Lib.hid hu
  have HV := Lib.hid hv
  have HR := Lib.hid (And.intro hl hm)
  replace hB := Lib.hid hB
  obtain ⟨A, c, rfl, -⟩ := hu
  obtain ⟨A2, c2, rfl, -⟩ := hv
  clear hl hm
  go_wp2
  go_ret3
  exact ⟨⟨_, _, _, _, _, rfl, HR.out.1, HR.out.2, HU.out, HV.out⟩, hB.out⟩
theorem c_spec_DrawJoinBits (h : Byts w cd l0) : Calls Try.prog 106 #[cd] w fun e w' => (∃ (u v : Value) (l m : List Int), e = .returned (.tuple #[u, v]) ∧ LeR 66 (-1) 2 l ∧ LeR 66 (-1) 2 m ∧ OwnI w' w.heap.size u l ∧ OwnI w' w.heap.size v m) ∧ Below w.heap.size w w' := by
  obtain ⟨A0, c0, rfl⟩ := h.form
  replace h := cur_new h
  go_enter Try.func106, Try.ntmps106
  go_wp2_with fail
  refine (c_anyBits h (by omega)).mono ?_
  rintro e w1 ⟨u, l, rfl, hl, ho, hc1, hg1⟩
  have HL := Lib.hid hl
  have hll := hl.1
  have HO := Lib.hid ho
  obtain ⟨A, c, rfl, -⟩ := ho.ints
  replace hg1 := Lib.hid hg1
  clear h hl ho
  go_wp2_with fail
  refine (c_one hc1 (by omega) (by omega)).mono ?_
  rintro e w2 ⟨v, rfl, ⟨b, rfl⟩, hc2, hg2⟩
  replace HO := Lib.hid (own_draw (g := 0) HO.out hg2)
  replace hg2 := Lib.hid (only_trans hg1.out hg2)
  have hs2 := hg2.out.size
  clear hc1 hg1
  cases b
  · go_wp2_with fail
    refine (c_bits hc2 (by omega) (by omega)).mono ?_
    rintro e w3 ⟨u2, l2, rfl, hl2, ho2, hc3, hg3⟩
    replace HO := Lib.hid (own_draw (g := 0) HO.out hg3)
    replace hg3 := Lib.hid (only_trans hg2.out hg3)
    have HM := Lib.hid (hl2.le (m := 66) (a' := -1) (b' := 2) (by omega) (by omega) (by omega))
    have HO2 := Lib.hid ho2
    obtain ⟨A2, c2, rfl, -⟩ := ho2.ints
    clear hc2 hg2 hc3 hl2 ho2
    go_wp2
    go_ret2
    exact ⟨⟨_, _, _, _, rfl, HL.out, HM.out, HO.out.mono (by simp), HO2.out.mono (Nat.le_trans (by simp) hs2)⟩, cur_end hg3.out⟩
  · go_wp2_with fail
    refine (c_anyBits hc2 (by omega)).mono ?_
    rintro e w3 ⟨u2, l2, rfl, hl2, ho2, hc3, hg3⟩
    replace HO := Lib.hid (own_draw (g := 0) HO.out hg3)
    replace hg3 := Lib.hid (only_trans hg2.out hg3)
    have HM := Lib.hid hl2
    have HO2 := Lib.hid ho2
    obtain ⟨A2, c2, rfl, -⟩ := ho2.ints
    clear hc2 hg2 hc3 hl2 ho2
    go_wp2
    go_ret2
    exact ⟨⟨_, _, _, _, rfl, HL.out, HM.out, HO.out.mono (by simp), HO2.out.mono (Nat.le_trans (by simp) hs2)⟩, cur_end hg3.out⟩
theorem c_spec_DrawRefreshBits (h : Byts w cd l0) : Calls Try.prog 52 #[cd] w fun e w' => (∃ (k : Int) (u v : Value) (l m : List Int), e = .returned (.tuple #[.int .i64 k, u, v]) ∧ LeR 66 (-1) 2 l ∧ LeR 66 (-1) 2 m ∧ Ints w' u l ∧ Ints w' v m) ∧ Below w.heap.size w w' := by
  have H := Lib.hid h
  obtain ⟨A0, c0, rfl⟩ := h.form
  replace h := cur_new h
  have HBL := Lib.hid ((Below.refl w.heap.size w).alloc (Nat.le_refl _) (.cells #[.slice A0 l0.length c0, .int .i64 0, .int .u64 0] 75))
  go_enter Try.func52, Try.ntmps52
  go_wp2_with fail
  refine (c_spec_DrawJoinBits (H.out.below HBL.out)).mono ?_
  rintro e w1 ⟨⟨u, v, l, m, rfl, hl, hm, hu, hv⟩, hB⟩
  have HU := Lib.hid hu
  have HV := Lib.hid hv
  have HR := Lib.hid (And.intro hl hm)
  replace hu := hu.ints
  replace hv := hv.ints
  have hc1 := h.below hB
  have HG := Lib.hid (only_below hB (some w.heap.size))
  obtain ⟨A, c, rfl, -⟩ := hu
  obtain ⟨A2, c2, rfl, -⟩ := hv
  clear hl hm hB h
  go_wp2_with fail
  refine (c_secret hc1 (by omega)).mono ?_
  rintro e w2 ⟨v, rfl, ⟨b, rfl, hb0, hb1⟩, hc2, hg2⟩
  replace HU := Lib.hid (own_draw (g := 0) HU.out hg2).ints
  replace HV := Lib.hid (own_draw (g := 0) HV.out hg2).ints
  replace hg2 := Lib.hid (only_trans HG.out hg2)
  clear hc1 hc2 HG
  go_wp2
  go_ret3
  exact ⟨⟨_, _, _, _, _, rfl, HR.out.1, HR.out.2, HU.out, HV.out⟩, cur_end hg2.out⟩
end
end Go.Proofs.Ytmccfdaaneemfaa
