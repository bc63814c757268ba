/- Contracts of ElementsOf, both sides, over the library's sort. No condition. -/
import Derived.Test.YtpeoiemcfpghkaaElm
import Derived.Test.YtpeoiemcfpghkaaShelf
import Derived.Sort.OwnSortedInts
namespace Go.Proofs.Ytpeoiemcfpghkaa
open Go.RowKit Go.Sort
set_option linter.unusedVariables false

/-- The library's sort, on a slice that the call owns. -/
theorem c_slices_Sort {w : World} {B g c : Nat} {l : List Int} (h : OwnI w B (.slice (some ⟨g, 0, none⟩) l.length c) l) (hl : l.length ≤ 1000000) :
    Calls Try.prog 88 #[.slice (some ⟨g, 0, none⟩) l.length c] w fun e w' => e = .returned (.tuple #[]) ∧ OwnI w' B (.slice (some ⟨g, 0, none⟩) l.length c) (l.mergeSort fun x y => decide (x ≤ y)) ∧ w.grownBy w' (some g) := by
  rcases h.2 with ⟨hn, _⟩ | ⟨g', cap, cur, e, hB, hh, hnc, hm, hcs, ht⟩
  · injection hn with h1; cases h1
  · injection e with e1 e2 e3
    injection e1 with e1
    injection e1 with e1
    subst e1 e3
    have hH := holds_of_blockI (ss := l) hh (by rw [Nat.mul_one] at ht; exact ht)
    refine (Try.slices_Sort_int g 0 c l w hH (Array.getElem?_eq_some_iff.1 hh).1 (by omega)).mono ?_
    rintro e w' ⟨rfl, n, os, rfl⟩
    refine ⟨rfl, ?_, grownBy_sortedI _⟩
    have := ownsRow_sortedI (ss := l) (ts := l.mergeSort fun x y => decide (x ≤ y)) (n := n) (os := os) (w := w) (base := B) (g := g) (cap := c) (List.length_mergeSort l) hB hh hnc hm hcs
    unfold OwnI
    rw [List.length_mergeSort]
    exact this
set_option maxRecDepth 100000 in
set_option maxHeartbeats 1000000 in
theorem c_impl_ElementsOf {P Q G : Int} {w : World} : Calls Try.prog 47 #[.agg #[.int .i64 P, .int .i64 Q, .int .i64 G]] w (RetIB w (elOM P Q G)) := by
  obtain ⟨w0, hw0⟩ : ∃ W, w.alloc (.cells #[.int .i64 P, .int .i64 Q, .int .i64 G] 50) = W := ⟨_, rfl⟩
  have HK0 := Lib.hid (Blk.new w 50 #[.int .i64 P, .int .i64 Q, .int .i64 G])
  rw [hw0] at HK0
  have HB0 : Hid (Below w.heap.size w w0) := by rw [← hw0]; exact (Below.refl w.heap.size w).alloc (Nat.le_refl _) _
  have x0 : w0.cell? ⟨w.heap.size, 0, none⟩ = some (.int .i64 P) := HK0.out.cell 0
  have x1 : w0.cell? ⟨w.heap.size, 1, none⟩ = some (.int .i64 Q) := HK0.out.cell 1
  have x2 : w0.cell? ⟨w.heap.size, 2, none⟩ = some (.int .i64 G) := HK0.out.cell 2
  rcases hg : grpB P Q G with _ | _
  · have HM := Lib.hid (show elOM P Q G = none by unfold elOM; rw [hg]; rfl)
    go_enter Try.func47, Try.ntmps47
    go_wp2_with fail
    refine (c_impl_IsGroup).mono ?_
    rintro e w1 ⟨rfl, hb1⟩
    go_wp2
    go_ret2; rw [HM.out]; exact RetIB.no_below (below_step HB0.out hb1)
  · have HM := Lib.hid (show elOM P Q G = some (elemsN P Q (P - 1).toNat) by unfold elOM; rw [hg]; rfl)
    have hb := grpB_bd hg
    obtain ⟨hP, hQ, hpw⟩ := grpB_of hg
    have HS := Lib.hid (elems_sort hP hQ (by omega) hpw)
    have HL := Lib.hid (powsL_length P Q G)
    clear hP hQ hpw
    go_enter Try.func47, Try.ntmps47
    go_wp2_with fail
    refine (c_impl_IsGroup).mono ?_
    rintro e w1 ⟨rfl, hb1⟩
    clear x0 x1 x2
    have HB1 := Lib.hid (below_step HB0.out hb1)
    have HK1 := Lib.hid (HK0.out.step hb1)
    have x0 : w1.cell? ⟨w.heap.size, 0, none⟩ = some (.int .i64 P) := HK1.out.cell 0
    have x1 : w1.cell? ⟨w.heap.size, 1, none⟩ = some (.int .i64 Q) := HK1.out.cell 1
    have x2 : w1.cell? ⟨w.heap.size, 2, none⟩ = some (.int .i64 G) := HK1.out.cell 2
    clear hb1
    go_wp2_with fail
    refine (c_G_elements (by omega) (by omega)).mono ?_
    rintro e w2 ⟨u, rfl, hu, hb2⟩
    obtain ⟨g, c, rfl, hg1, hg2, hlc, hcm⟩ := own_pos hu (by rw [HL.out]; omega)
    have HU := Lib.hid hu
    have HB2 := Lib.hid (below_step HB1.out hb2)
    have hz1 := HB1.out.size
    clear hu hb2 x0 x1 x2
    go_wp2_with fail
    refine (c_slices_Sort HU.out (by rw [HL.out]; omega)).mono ?_
    rintro e w3 ⟨rfl, ho, hgr⟩
    have HO := Lib.hid (ho.mono hz1)
    have HB3 := Lib.hid (HB2.out.grown hgr HB2.out.size (fun k hk => by injection hk with hk; omega))
    clear ho hgr
    go_wp2
    go_ret2; rw [HM.out]
    exact RetIB.yes (by rw [← HS.out]; exact HO.out) HB3.out
set_option maxRecDepth 100000 in
set_option maxHeartbeats 1000000 in
theorem c_spec_ElementsOf {P Q G : Int} {w : World} : Calls Try.prog 45 #[.agg #[.int .i64 P, .int .i64 Q, .int .i64 G]] w (RetIB w (elOM P Q G)) := by
  obtain ⟨w0, hw0⟩ : ∃ W, w.alloc (.cells #[.int .i64 P, .int .i64 Q, .int .i64 G] 50) = W := ⟨_, rfl⟩
  have HK0 := Lib.hid (Blk.new w 50 #[.int .i64 P, .int .i64 Q, .int .i64 G])
  rw [hw0] at HK0
  have HB0 : Hid (Below w.heap.size w w0) := by rw [← hw0]; exact (Below.refl w.heap.size w).alloc (Nat.le_refl _) _
  have hz0 : w.heap.size + 1 ≤ w0.heap.size := by rw [← hw0]; simp
  have x0 : w0.cell? ⟨w.heap.size, 0, none⟩ = some (.int .i64 P) := HK0.out.cell 0
  have x1 : w0.cell? ⟨w.heap.size, 1, none⟩ = some (.int .i64 Q) := HK0.out.cell 1
  have x2 : w0.cell? ⟨w.heap.size, 2, none⟩ = some (.int .i64 G) := HK0.out.cell 2
  rcases hg : grpB P Q G with _ | _
  · have HM := Lib.hid (show elOM P Q G = none by unfold elOM; rw [hg]; rfl)
    go_enter Try.func45, Try.ntmps45
    go_wp2_with fail
    refine (c_spec_grGood).mono ?_
    rintro e w1 ⟨rfl, hb1⟩
    go_wp2
    go_ret2; rw [HM.out]; exact RetIB.no_below (below_step HB0.out hb1)
  · have HM := Lib.hid (show elOM P Q G = some (elemsN P Q (P - 1).toNat) by unfold elOM; rw [hg]; rfl)
    have hb := grpB_bd hg
    go_enter Try.func45, Try.ntmps45
    go_wp2_with fail
    refine (c_spec_grGood).mono ?_
    rintro e w1 ⟨rfl, hb1⟩
    clear x0 x1 x2
    have HB1 := Lib.hid (below_step HB0.out hb1)
    have HK1 := Lib.hid (HK0.out.step hb1)
    have hz1 : w.heap.size + 1 ≤ w1.heap.size := Nat.le_trans hz0 hb1.size
    clear hb1
    go_wp2
    go_loopw [4, 5] (fun o a wr => ∃ k : Nat, (k : Int) ≤ P - 1 ∧ a = .int .i64 ((k : Int) + 1) ∧ Hid (OwnI wr (w.heap.size + 1) o (elemsN P Q k)) ∧ Hid (Blk wr w.heap.size 50 #[.int .i64 P, .int .i64 Q, .int .i64 G]) ∧ Hid (Below w.heap.size w wr) ∧ w.heap.size + 1 ≤ wr.heap.size) (fun _ a _ => (P - intOf a).toNat)
    case atStart => exact ⟨0, by omega, rfl, Lib.hid (OwnI.nil _ _), HK1, HB1, hz1⟩
    case round =>
      obtain ⟨k, hk, rfl, HO, HK, HB, hz⟩ := hrel
      have y0 : wr.cell? ⟨w.heap.size, 0, none⟩ = some (.int .i64 P) := HK.out.cell 0
      by_cases hlt : (k : Int) + 1 < P
      · have y1 : wr.cell? ⟨w.heap.size, 1, none⟩ = some (.int .i64 Q) := HK.out.cell 1
        have y2 : wr.cell? ⟨w.heap.size, 2, none⟩ = some (.int .i64 G) := HK.out.cell 2
        have HSN := Lib.hid (elemsN_snoc P Q k)
        have hel : (elemsN P Q k).length ≤ 2003 := Nat.le_trans (elemsN_length P Q k) (by omega)
        have HH := Lib.hid (show hasB P Q ((k : Int) + 1) = (((k : Int) + 1) ^ Q.toNat % P == 1) by unfold hasB powM; rw [inB_mk (by omega) (by omega)]; rfl)
        generalize elemsN P Q k = S at *
        rcases hh : (((k : Int) + 1) ^ Q.toNat % P == 1) with _ | _
        · have HSF := Lib.hid (show elemsN P Q (k + 1) = S by rw [HSN.out, hh]; simp)
          go_wp2_with fail
          refine (c_spec_grHas (by omega)).mono ?_
          rintro e w2 ⟨rfl, hb2⟩
          rw [HH.out, hh]
          have HO2 := Lib.hid (HO.out.below hb2)
          have HK2 := Lib.hid (HK.out.step hb2)
          have HB2 := Lib.hid (below_step HB.out hb2)
          have hz2 := Nat.le_trans hz hb2.size
          clear hb2 y0 y1 y2
          go_wp2
          go_roundw
          case rel => exact ⟨k + 1, by omega, by go_num, by rw [HSF.out]; exact HO2, HK2, HB2, hz2⟩
          case measure => simp [intOf]; omega
        · have HSF := Lib.hid (show elemsN P Q (k + 1) = S ++ [(k : Int) + 1] by rw [HSN.out, hh]; simp)
          go_wp2_with fail
          refine (c_spec_grHas (by omega)).mono ?_
          rintro e w2 ⟨rfl, hb2⟩
          rw [HH.out, hh]
          have HO2 := Lib.hid (HO.out.below hb2)
          have HK2 := Lib.hid (HK.out.step hb2)
          have HB2 := Lib.hid (below_step HB.out hb2)
          have hz2 := Nat.le_trans hz hb2.size
          clear hb2 y0 y1 y2
          go_wp2_with (at_builtin; refine wp_app1 (B := w.heap.size + 1) rfl rfl Try.underlying22 info_int rfl HO2.out rfl rfl rfl (by unfold maxLen; omega) (by omega) hz2 ?_; intro v' w3 ho hg3 hfr; have HO3 := Lib.hid (OwnI.snoc ho); have HK3 := Lib.hid (HK2.out.grown hg3 (fun e => by have := own_ge HO2.out _ e.symm; omega)); have HB3 := Lib.hid (HB2.out.grown hg3 HB2.out.size (fun g hg' => by have := own_ge HO2.out g hg'; omega)); have hz3 := Nat.le_trans hz2 hg3.size; clear ho hg3 hfr)
          go_roundw
          case rel => exact ⟨k + 1, by omega, by go_num, by rw [HSF.out]; exact HO3, HK3, HB3, hz3⟩
          case measure => simp [intOf]; omega
      · have HE := Lib.hid (show k = (P - 1).toNat by omega)
        go_wp2
        go_ret2; rw [HM.out]
        exact RetIB.yes (by have := HO.out; rw [HE.out] at this; exact this.mono (by omega)) HB.out
end Go.Proofs.Ytpeoiemcfpghkaa
