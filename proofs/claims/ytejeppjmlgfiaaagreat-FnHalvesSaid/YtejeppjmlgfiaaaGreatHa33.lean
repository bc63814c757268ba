/- Contracts of the program's functions that make the zero label and the rows of a gate GtAnd. Conditions: labels and offset in range. -/
import Derived.Test.YtejeppjmlgfiaaaGreatHa29
import Derived.Test.YtejeppjmlgfiaaaGreatHa32
import Derived.Deep.DeepCutAuto
namespace Go.Proofs.YtejeppjmlgfiaaaGreat
open Go.RowKit
set_option linter.unusedVariables false

theorem bits_and_bit {a b : Int} (ha : a = 0 ∨ a = 1) (hb : b = 0 ∨ b = 1) : bits .and .i64 a b = a * b := by
  rcases ha with rfl | rfl <;> rcases hb with rfl | rfl <;> decide
/-- The call returns a label and a row, the row in a new slice. -/
def RetZR (w : World) (z : Int) (r : List Int) (e : Ending) (w' : World) : Prop := ∃ u, e = .returned (.tuple #[.int .i64 z, u]) ∧ OwnI w' w.heap.size u r ∧ Below w.heap.size w w'
theorem c_impl_garbledAnd {off : Int} {w : World} : Calls Tryz.prog 90 #[.int .i64 off] w fun e w' => e = .returned (.func (.func 144) #[] #[.pointer (some ⟨w.heap.size, 0, none⟩)]) ∧ w' = w.alloc (.cells #[.int .i64 off] 3) := by
  go_enter Tryz.func90, Tryz.ntmps90
  go_wp2
  go_ret
  exact ⟨rfl, rfl⟩
theorem c_impl_halvedAnd {off : Int} {w : World} : Calls Tryz.prog 58 #[.int .i64 off] w fun e w' => e = .returned (.func (.func 126) #[] #[.pointer (some ⟨w.heap.size, 0, none⟩)]) ∧ w' = w.alloc (.cells #[.int .i64 off] 3) := by
  go_enter Tryz.func58, Tryz.ntmps58
  go_wp2
  go_ret
  exact ⟨rfl, rfl⟩
theorem c_impl_coloured {z r c : Int} {w : World} (hz : 0 ≤ z ∧ z ≤ 65535) (hr : 0 ≤ r ∧ r ≤ 65535) (hc : c = 0 ∨ c = 1) :
    Calls Tryz.prog 145 #[.int .i64 z, .int .i64 r, .int .i64 c] w fun e w' => e = .returned (.tuple #[.int .i64 (xorI z (r * xorI (z % 2) c)), .int .i64 (xorI (z % 2) c)]) ∧ w = w' := by
  have h1 := bits_and_one hz.1 (by omega)
  have h2 := bits_xor (a := z % 2) (b := c) (by omega) (by omega) (by omega) (by omega)
  have hv := xor_bit (bit2 z) hc
  generalize xorI (z % 2) c = v at *
  go_enter Tryz.func145, Tryz.ntmps145
  go_wp2_with (go_at_call 83; refine (c_impl_labelOf hz hr hv).mono ?_; rintro e w' ⟨rfl, rfl⟩)
  go_ret2
  exact ⟨rfl, rfl⟩

set_option maxRecDepth 100000 in
set_option maxHeartbeats 2000000 in
theorem c_garbledAnd1 {off n x y : Int} {q : Nat} {w : World} (hq : w.cell? ⟨q, 0, none⟩ = some (.int .i64 off)) (ho : 0 ≤ off ∧ off ≤ 65535) (hn : 0 ≤ n ∧ n ≤ 1000000) (hx : 0 ≤ x ∧ x ≤ 65535) (hy : 0 ≤ y ∧ y ≤ 65535) :
    Calls Tryz.prog 144 #[.int .i64 n, .int .i64 x, .int .i64 y, .pointer (some ⟨q, 0, none⟩)] w (RetZR w (gbZ off n x y) (gbR off n x y)) := by
  have hz := gbZ_bd ho n x y
  have hql : q < w.heap.size := World.block_lt_of_cell? _ _ hq
  go_enter Tryz.func144, Tryz.ntmps144
  go_wp2
  go_loopw [9, 10, 18] (fun z u i wr => ∃ k : Nat, k ≤ 4 ∧ i = .int .i64 k ∧ z = .int .i64 (if k = 0 then 0 else gbZ off n x y) ∧ Hid (OwnI wr w.heap.size u ((gbR off n x y).take (k - 1))) ∧ Hid (Below w.heap.size w wr) ∧ wr.cell? ⟨q, 0, none⟩ = some (.int .i64 off)) (fun _ _ i _ => 4 - (intOf i).toNat)
  case atStart => exact ⟨0, by omega, rfl, rfl, Lib.hid (OwnI.empty (Nat.le_refl _)), Lib.hid ((Below.refl _ _).alloc (Nat.le_refl _) _), (((Below.refl w.heap.size w).alloc (Nat.le_refl _) _).cell (p := ⟨q, 0, none⟩) hql).trans hq⟩
  case round =>
    obtain ⟨k, hk, rfl, rfl, HU, HB, hqr⟩ := hrel
    clear hq
    have hk5 : k = 0 ∨ k = 1 ∨ k = 2 ∨ k = 3 ∨ k = 4 := by omega
    rcases hk5 with rfl | rfl | rfl | rfl | rfl
    · replace HU := Lib.hid (show OwnI wr w.heap.size _ [] from HU.out)
      rw [if_pos rfl]
      have hu := xor_bit (b := 0) (bit2 x) (Or.inl rfl)
      have hv := xor_bit (b := 0) (bit2 y) (Or.inl rfl)
      have hown := gbOwnM_bd off n x y 0 0
      have HC1 := Lib.hid (fun W => c_impl_coloured (w := W) (c := 0) hx ho (Or.inl rfl))
      have HC2 := Lib.hid (fun W => c_impl_coloured (w := W) (c := 0) hy ho (Or.inl rfl))
      have HO := Lib.hid (show digM [n, 14, xorI x (off * xorI (x % 2) 0), xorI y (off * xorI (y % 2) 0)] = gbOwnM off n x y 0 0 from rfl)
      have HZ := Lib.hid (show gbZ off n x y = xorI (gbOwnM off n x y 0 0) (off * (xorI (x % 2) 0 * xorI (y % 2) 0)) from rfl)
      have ha := xorI_bd hx.1 (off_bit ho hu).1 hx.2 (off_bit ho hu).2
      have hb := xorI_bd hy.1 (off_bit ho hv).1 hy.2 (off_bit ho hv).2
      generalize xorI (x % 2) 0 = u at *
      generalize xorI (y % 2) 0 = v at *
      have HC3 := Lib.hid (fun W => c_impl_cipher (w := W) (n := n) (x := xorI x (off * u)) (y := xorI y (off * v)) (by omega) (by omega) (by omega))
      rw [HO.out] at HC3
      generalize xorI x (off * u) = a at *
      generalize xorI y (off * v) = b at *
      generalize gbOwnM off n x y 0 0 = own at *
      have huv := bits_and_bit hu hv
      have hm := mul_bit hu hv
      have hom := off_bit ho hm
      have HC4 := Lib.hid (fun W => c_impl_labelOf (w := W) hown ho hm)
      rw [← HZ.out] at HC4
      generalize u * v = uv at *
      clear hu hv ha hb hown hm hom HO HZ
      go_wp2_with fail
      refine (HC1.out _).mono ?_
      rintro e w' ⟨rfl, rfl⟩
      go_wp2_with fail
      refine (HC2.out _).mono ?_
      rintro e w' ⟨rfl, rfl⟩
      go_wp2_with fail
      refine (HC3.out _).mono ?_
      rintro e w1 ⟨rfl, hb1⟩
      replace hqr := (hb1.cell (World.block_lt_of_cell? _ _ hqr)).trans hqr
      have HB1 := Lib.hid (below_step HB.out hb1)
      have HO1 := Lib.hid (HU.out.below hb1)
      clear hb1 HC1 HC2 HC3
      go_wp2_with fail
      refine (HC4.out _).mono ?_
      rintro e w' ⟨rfl, rfl⟩
      clear HC4
      go_wp2
      go_roundw
      case rel => exact ⟨1, by omega, by go_num, rfl, Lib.hid (by show OwnI _ _ _ []; exact HO1.out), HB1, hqr⟩
      case measure => simp [intOf]
    · replace HU := Lib.hid (show OwnI wr w.heap.size _ [] from HU.out)
      rw [if_neg (by decide)]
      have hu := xor_bit (b := 0) (bit2 x) (Or.inl rfl)
      have hv := xor_bit (b := 1) (bit2 y) (Or.inr rfl)
      have hown := gbOwnM_bd off n x y 0 1
      have HC1 := Lib.hid (fun W => c_impl_coloured (w := W) (c := 0) hx ho (Or.inl rfl))
      have HC2 := Lib.hid (fun W => c_impl_coloured (w := W) (c := 1) hy ho (Or.inr rfl))
      have HO := Lib.hid (show digM [n, 14, xorI x (off * xorI (x % 2) 0), xorI y (off * xorI (y % 2) 1)] = gbOwnM off n x y 0 1 from rfl)
      have HR := Lib.hid (show gbRow off n x y 0 1 = xorI (gbOwnM off n x y 0 1) (xorI (gbZ off n x y) (off * (xorI (x % 2) 0 * xorI (y % 2) 1))) from rfl)
      have HRE := Lib.hid (show (gbR off n x y).take 1 = [] ++ [gbRow off n x y 0 1] from rfl)
      generalize gbZ off n x y = z at *
      have ha := xorI_bd hx.1 (off_bit ho hu).1 hx.2 (off_bit ho hu).2
      have hb := xorI_bd hy.1 (off_bit ho hv).1 hy.2 (off_bit ho hv).2
      generalize xorI (x % 2) 0 = u at *
      generalize xorI (y % 2) 1 = v at *
      have HC3 := Lib.hid (fun W => c_impl_cipher (w := W) (n := n) (x := xorI x (off * u)) (y := xorI y (off * v)) (by omega) (by omega) (by omega))
      rw [HO.out] at HC3
      generalize xorI x (off * u) = a at *
      generalize xorI y (off * v) = b at *
      generalize gbOwnM off n x y 0 1 = own at *
      have huv := bits_and_bit hu hv
      have hm := mul_bit hu hv
      have hom := off_bit ho hm
      have HC4 := Lib.hid (fun W => c_impl_labelOf (w := W) hz ho hm)
      have hzb := xorI_bd hz.1 hom.1 hz.2 hom.2
      generalize xorI z (off * (u * v)) = zl at *
      have hxr := bits_xor hown.1 hzb.1 (by omega) (by omega)
      rw [← HR.out] at hxr
      generalize gbRow off n x y 0 1 = row at *
      generalize u * v = uv at *
      clear hu hv ha hb hown hm hom HO HR hzb
      go_wp2_with fail
      refine (HC1.out _).mono ?_
      rintro e w' ⟨rfl, rfl⟩
      go_wp2_with fail
      refine (HC2.out _).mono ?_
      rintro e w' ⟨rfl, rfl⟩
      go_wp2_with fail
      refine (HC3.out _).mono ?_
      rintro e w1 ⟨rfl, hb1⟩
      replace hqr := (hb1.cell (World.block_lt_of_cell? _ _ hqr)).trans hqr
      have HB1 := Lib.hid (below_step HB.out hb1)
      have HO1 := Lib.hid (HU.out.below hb1)
      clear hb1 HC1 HC2 HC3
      go_wp2_with fail
      refine (HC4.out _).mono ?_
      rintro e w' ⟨rfl, rfl⟩
      clear HC4
      have hsz := HB1.out.size
      obtain ⟨Au, cu, rfl, -⟩ := HO1.out.ints
      have HO2 := HO1
      go_wp2_with (at_builtin; refine wp_app1 (B := w.heap.size) rfl rfl Tryz.underlying24 info_int rfl HO1.out rfl rfl rfl (by unfold maxLen; simp) (by simp) hsz ?_; intro v' w2 ho2 hg hfr)
      have HB2 := Lib.hid (below_app HB1.out HO1.out hg (Nat.le_refl _))
      have hq2 := hg.cell (a := ⟨q, 0, none⟩) hqr (fun e => by have := HO1.out.ge q e.symm; omega)
      go_roundw
      case rel => exact ⟨2, by omega, by go_num, rfl, Lib.hid (by show OwnI _ _ _ ((gbR off n x y).take 1); rw [HRE.out]; exact OwnI.snoc ho2), HB2, hq2⟩
      case measure => simp [intOf]
    · replace HU := Lib.hid (show OwnI wr w.heap.size _ [gbRow off n x y 0 1] from HU.out)
      rw [if_neg (by decide)]
      have hu := xor_bit (b := 1) (bit2 x) (Or.inr rfl)
      have hv := xor_bit (b := 0) (bit2 y) (Or.inl rfl)
      have hown := gbOwnM_bd off n x y 1 0
      have HC1 := Lib.hid (fun W => c_impl_coloured (w := W) (c := 1) hx ho (Or.inr rfl))
      have HC2 := Lib.hid (fun W => c_impl_coloured (w := W) (c := 0) hy ho (Or.inl rfl))
      have HO := Lib.hid (show digM [n, 14, xorI x (off * xorI (x % 2) 1), xorI y (off * xorI (y % 2) 0)] = gbOwnM off n x y 1 0 from rfl)
      have HR := Lib.hid (show gbRow off n x y 1 0 = xorI (gbOwnM off n x y 1 0) (xorI (gbZ off n x y) (off * (xorI (x % 2) 1 * xorI (y % 2) 0))) from rfl)
      have HRE := Lib.hid (show (gbR off n x y).take 2 = [gbRow off n x y 0 1] ++ [gbRow off n x y 1 0] from rfl)
      generalize gbZ off n x y = z at *
      have ha := xorI_bd hx.1 (off_bit ho hu).1 hx.2 (off_bit ho hu).2
      have hb := xorI_bd hy.1 (off_bit ho hv).1 hy.2 (off_bit ho hv).2
      generalize xorI (x % 2) 1 = u at *
      generalize xorI (y % 2) 0 = v at *
      have HC3 := Lib.hid (fun W => c_impl_cipher (w := W) (n := n) (x := xorI x (off * u)) (y := xorI y (off * v)) (by omega) (by omega) (by omega))
      rw [HO.out] at HC3
      generalize xorI x (off * u) = a at *
      generalize xorI y (off * v) = b at *
      generalize gbOwnM off n x y 1 0 = own at *
      have huv := bits_and_bit hu hv
      have hm := mul_bit hu hv
      have hom := off_bit ho hm
      have HC4 := Lib.hid (fun W => c_impl_labelOf (w := W) hz ho hm)
      have hzb := xorI_bd hz.1 hom.1 hz.2 hom.2
      generalize xorI z (off * (u * v)) = zl at *
      have hxr := bits_xor hown.1 hzb.1 (by omega) (by omega)
      rw [← HR.out] at hxr
      generalize gbRow off n x y 1 0 = row at *
      generalize u * v = uv at *
      clear hu hv ha hb hown hm hom HO HR hzb
      go_wp2_with fail
      refine (HC1.out _).mono ?_
      rintro e w' ⟨rfl, rfl⟩
      go_wp2_with fail
      refine (HC2.out _).mono ?_
      rintro e w' ⟨rfl, rfl⟩
      go_wp2_with fail
      refine (HC3.out _).mono ?_
      rintro e w1 ⟨rfl, hb1⟩
      replace hqr := (hb1.cell (World.block_lt_of_cell? _ _ hqr)).trans hqr
      have HB1 := Lib.hid (below_step HB.out hb1)
      have HO1 := Lib.hid (HU.out.below hb1)
      clear hb1 HC1 HC2 HC3
      go_wp2_with fail
      refine (HC4.out _).mono ?_
      rintro e w' ⟨rfl, rfl⟩
      clear HC4
      have hsz := HB1.out.size
      obtain ⟨Au, cu, rfl, -⟩ := HO1.out.ints
      have HO2 := HO1
      go_wp2_with (at_builtin; refine wp_app1 (B := w.heap.size) rfl rfl Tryz.underlying24 info_int rfl HO1.out rfl rfl rfl (by unfold maxLen; simp) (by simp) hsz ?_; intro v' w2 ho2 hg hfr)
      have HB2 := Lib.hid (below_app HB1.out HO1.out hg (Nat.le_refl _))
      have hq2 := hg.cell (a := ⟨q, 0, none⟩) hqr (fun e => by have := HO1.out.ge q e.symm; omega)
      go_roundw
      case rel => exact ⟨3, by omega, by go_num, rfl, Lib.hid (by show OwnI _ _ _ ((gbR off n x y).take 2); rw [HRE.out]; exact OwnI.snoc ho2), HB2, hq2⟩
      case measure => simp [intOf]
    · replace HU := Lib.hid (show OwnI wr w.heap.size _ [gbRow off n x y 0 1, gbRow off n x y 1 0] from HU.out)
      rw [if_neg (by decide)]
      have hu := xor_bit (b := 1) (bit2 x) (Or.inr rfl)
      have hv := xor_bit (b := 1) (bit2 y) (Or.inr rfl)
      have hown := gbOwnM_bd off n x y 1 1
      have HC1 := Lib.hid (fun W => c_impl_coloured (w := W) (c := 1) hx ho (Or.inr rfl))
      have HC2 := Lib.hid (fun W => c_impl_coloured (w := W) (c := 1) hy ho (Or.inr rfl))
      have HO := Lib.hid (show digM [n, 14, xorI x (off * xorI (x % 2) 1), xorI y (off * xorI (y % 2) 1)] = gbOwnM off n x y 1 1 from rfl)
      have HR := Lib.hid (show gbRow off n x y 1 1 = xorI (gbOwnM off n x y 1 1) (xorI (gbZ off n x y) (off * (xorI (x % 2) 1 * xorI (y % 2) 1))) from rfl)
      have HRE := Lib.hid (show (gbR off n x y).take 3 = [gbRow off n x y 0 1, gbRow off n x y 1 0] ++ [gbRow off n x y 1 1] from rfl)
      generalize gbZ off n x y = z at *
      have ha := xorI_bd hx.1 (off_bit ho hu).1 hx.2 (off_bit ho hu).2
      have hb := xorI_bd hy.1 (off_bit ho hv).1 hy.2 (off_bit ho hv).2
      generalize xorI (x % 2) 1 = u at *
      generalize xorI (y % 2) 1 = v at *
      have HC3 := Lib.hid (fun W => c_impl_cipher (w := W) (n := n) (x := xorI x (off * u)) (y := xorI y (off * v)) (by omega) (by omega) (by omega))
      rw [HO.out] at HC3
      generalize xorI x (off * u) = a at *
      generalize xorI y (off * v) = b at *
      generalize gbOwnM off n x y 1 1 = own at *
      have huv := bits_and_bit hu hv
      have hm := mul_bit hu hv
      have hom := off_bit ho hm
      have HC4 := Lib.hid (fun W => c_impl_labelOf (w := W) hz ho hm)
      have hzb := xorI_bd hz.1 hom.1 hz.2 hom.2
      generalize xorI z (off * (u * v)) = zl at *
      have hxr := bits_xor hown.1 hzb.1 (by omega) (by omega)
      rw [← HR.out] at hxr
      generalize gbRow off n x y 1 1 = row at *
      generalize u * v = uv at *
      clear hu hv ha hb hown hm hom HO HR hzb
      go_wp2_with fail
      refine (HC1.out _).mono ?_
      rintro e w' ⟨rfl, rfl⟩
      go_wp2_with fail
      refine (HC2.out _).mono ?_
      rintro e w' ⟨rfl, rfl⟩
      go_wp2_with fail
      refine (HC3.out _).mono ?_
      rintro e w1 ⟨rfl, hb1⟩
      replace hqr := (hb1.cell (World.block_lt_of_cell? _ _ hqr)).trans hqr
      have HB1 := Lib.hid (below_step HB.out hb1)
      have HO1 := Lib.hid (HU.out.below hb1)
      clear hb1 HC1 HC2 HC3
      go_wp2_with fail
      refine (HC4.out _).mono ?_
      rintro e w' ⟨rfl, rfl⟩
      clear HC4
      have hsz := HB1.out.size
      obtain ⟨Au, cu, rfl, -⟩ := HO1.out.ints
      have HO2 := HO1
      go_wp2_with (at_builtin; refine wp_app1 (B := w.heap.size) rfl rfl Tryz.underlying24 info_int rfl HO1.out rfl rfl rfl (by unfold maxLen; simp) (by simp) hsz ?_; intro v' w2 ho2 hg hfr)
      have HB2 := Lib.hid (below_app HB1.out HO1.out hg (Nat.le_refl _))
      have hq2 := hg.cell (a := ⟨q, 0, none⟩) hqr (fun e => by have := HO1.out.ge q e.symm; omega)
      go_roundw
      case rel => exact ⟨4, by omega, by go_num, rfl, Lib.hid (by show OwnI _ _ _ ((gbR off n x y).take 3); rw [HRE.out]; exact OwnI.snoc ho2), HB2, hq2⟩
      case measure => simp [intOf]
    · go_wp2
      go_ret2
      exact ⟨_, rfl, HU.out, HB.out⟩
set_option maxRecDepth 100000 in
set_option maxHeartbeats 2000000 in
theorem c_halvedAnd1 {off n x y : Int} {q : Nat} {w : World} (hq : w.cell? ⟨q, 0, none⟩ = some (.int .i64 off)) (ho : 0 ≤ off ∧ off ≤ 65535) (hn : 0 ≤ n ∧ n ≤ 1000000) (hx : 0 ≤ x ∧ x ≤ 65535) (hy : 0 ≤ y ∧ y ≤ 65535) :
    Calls Tryz.prog 126 #[.int .i64 n, .int .i64 x, .int .i64 y, .pointer (some ⟨q, 0, none⟩)] w (RetZR w (hgZ off n x y) (hgR off n x y)) := by
  have hax := bits_and_one hx.1 (by omega)
  have hay := bits_and_one hy.1 (by omega)
  have q0 := belowCell hq
  have hxo := bits_xor hx.1 ho.1 (by omega) (by omega)
  have hyo := bits_xor hy.1 ho.1 (by omega) (by omega)
  have bxo := xorI_bd hx.1 ho.1 hx.2 ho.2
  have byo := xorI_bd hy.1 ho.1 hy.2 ho.2
  have HA := Lib.hid (show hgA off n x y = xorI (xorI (digM [n, 15, x, 0]) (digM [n, 15, xorI x off, 0])) (off * (y % 2)) from rfl)
  have HB := Lib.hid (show hgB off n x y = xorI (xorI (digM [n, 15, y, 1]) (digM [n, 15, xorI y off, 1])) x from rfl)
  have HZ := Lib.hid (show hgZ off n x y = xorI (xorI (xorI (digM [n, 15, x, 0]) (hgA off n x y * (x % 2))) (digM [n, 15, y, 1])) (xorI (hgB off n x y) x * (y % 2)) from rfl)
  have HR := Lib.hid (show hgR off n x y = [hgA off n x y, hgB off n x y] from rfl)
  have hA := hgA_bd ho n x y
  have hB := hgB_bd hx off n y
  have b0 := digM_bd [n, 15, x, 0]
  have b1 := digM_bd [n, 15, xorI x off, 0]
  have b2 := digM_bd [n, 15, y, 1]
  have b3 := digM_bd [n, 15, xorI y off, 1]
  have HX0 := Lib.hid (fun W => c_impl_half (w := W) (n := n) (l := x) (s := 0) (by omega) (by omega) (by omega))
  have HX1 := Lib.hid (fun W => c_impl_half (w := W) (n := n) (l := xorI x off) (s := 0) (by omega) (by omega) (by omega))
  have HY0 := Lib.hid (fun W => c_impl_half (w := W) (n := n) (l := y) (s := 1) (by omega) (by omega) (by omega))
  have HY1 := Lib.hid (fun W => c_impl_half (w := W) (n := n) (l := xorI y off) (s := 1) (by omega) (by omega) (by omega))
  generalize digM [n, 15, x, 0] = d0 at *
  generalize digM [n, 15, xorI x off, 0] = d1 at *
  generalize digM [n, 15, y, 1] = d2 at *
  generalize digM [n, 15, xorI y off, 1] = d3 at *
  generalize xorI x off = xo at *
  generalize xorI y off = yo at *
  generalize hgA off n x y = A at *
  generalize hgB off n x y = B at *
  generalize hgZ off n x y = Z at *
  have hi := bit2 x
  have hk := bit2 y
  generalize x % 2 = i at *
  generalize y % 2 = k at *
  have mk := off_bit ho hk
  have mi := off_bit hA hi
  have bBx := xorI_bd hB.1 hx.1 hB.2 hx.2
  have mB := off_bit bBx hk
  have wk : IntKind.i64.wrap (off * k) = off * k := IntWalk.i64_in _ (by omega)
  have wi : IntKind.i64.wrap (A * i) = A * i := IntWalk.i64_in _ (by omega)
  have wB : IntKind.i64.wrap (xorI B x * k) = xorI B x * k := IntWalk.i64_in _ (by omega)
  have z1 := bits_xor b0.1 b1.1 (by omega) (by omega)
  have c1 := xorI_bd b0.1 b1.1 b0.2 b1.2
  have z2 := bits_xor c1.1 mk.1 (by omega) (by omega)
  rw [← HA.out] at z2
  have z3 := bits_xor b2.1 b3.1 (by omega) (by omega)
  have c3 := xorI_bd b2.1 b3.1 b2.2 b3.2
  have z4 := bits_xor c3.1 hx.1 (by omega) (by omega)
  rw [← HB.out] at z4
  have z5 := bits_xor b0.1 mi.1 (by omega) (by omega)
  have c5 := xorI_bd b0.1 mi.1 b0.2 mi.2
  have z6 := bits_xor c5.1 b2.1 (by omega) (by omega)
  have c6 := xorI_bd c5.1 b2.1 c5.2 b2.2
  have z7 := bits_xor hB.1 hx.1 (by omega) (by omega)
  have z8 := bits_xor c6.1 mB.1 (by omega) (by omega)
  rw [← HZ.out] at z8
  clear HA HB HZ hq hi hk
  generalize xorI d0 d1 = e1 at *
  generalize xorI d2 d3 = e2 at *
  generalize xorI (xorI d0 (A * i)) d2 = e4 at *
  generalize xorI d0 (A * i) = e3 at *
  generalize xorI B x = e5 at *
  go_enter Tryz.func126, Tryz.ntmps126
  go_upto_region 2 with fail
  go_cut [11] (fun s wx => s = .int .i64 A ∧ Hid (Below w.heap.size w wx))
  case first =>
    go_region_held3 (fun w' => Below w.heap.size w w')
      (first | assumption | (refine below_step ?_ HD.out; assumption) | (exact (Below.refl _ _).drew))
      (first
        | (go_at_call_of 127 (Value.int IntKind.i64 x); refine (HX0.out _).mono ?_; rintro e wz ⟨rfl, hb⟩; have HD := Lib.hid hb)
        | (go_at_call_of 127 (Value.int IntKind.i64 xo); refine (HX1.out _).mono ?_; rintro e wz ⟨rfl, hb⟩; have HD := Lib.hid hb))
    all_goals
      have hE : Below w.heap.size w wz := by assumption
      go_wp2_with fail
      go_meet
      exact ⟨rfl, Lib.hid hE⟩
  case rest =>
    obtain ⟨rfl, HB1⟩ := hcut
    obtain ⟨W1, hW1⟩ : ∃ W, wc = W := ⟨_, rfl⟩
    rw [hW1] at HB1 ⊢
    clear hW1
    have q1 : ∀ w', Below W1.heap.size W1 w' → w'.cell? ⟨q, 0, none⟩ = some (.int .i64 off) := fun w' h => q0 w' (below_step HB1.out h)
    go_upto_region 3 with fail
    go_cut [12] (fun s wx => s = .int .i64 B ∧ Hid (Below w.heap.size w wx))
    case first =>
      go_region_held3 (fun w' => Below W1.heap.size W1 w')
        (first | assumption | (refine below_step ?_ HD.out; assumption) | (exact (Below.refl _ _).drew))
        (first
          | (go_at_call_of 127 (Value.int IntKind.i64 y); refine (HY0.out _).mono ?_; rintro e wz ⟨rfl, hb⟩; have HD := Lib.hid hb)
          | (go_at_call_of 127 (Value.int IntKind.i64 yo); refine (HY1.out _).mono ?_; rintro e wz ⟨rfl, hb⟩; have HD := Lib.hid hb))
      all_goals
        have hE : Below W1.heap.size W1 wz := by assumption
        go_wp2_with fail
        go_meet
        exact ⟨rfl, Lib.hid (below_step HB1.out hE)⟩
    case rest =>
      obtain ⟨rfl, HB2⟩ := hcut
      obtain ⟨W2, hW2⟩ : ∃ W, wc = W := ⟨_, rfl⟩
      rw [hW2] at HB2 ⊢
      clear hW2
      go_wp2_with fail
      refine (HX0.out _).mono ?_
      rintro e w3 ⟨rfl, hb3⟩
      have HB3 := Lib.hid (below_step HB2.out hb3)
      go_wp2_with fail
      refine (HY0.out _).mono ?_
      rintro e w4 ⟨rfl, hb4⟩
      have HB4 := Lib.hid (below_step HB3.out hb4)
      go_wp2
      go_ret2
      rw [HR.out]
      exact ⟨_, rfl, (OwnI.lit [A, B] _ rfl HB4.out.size (by simp)), HB4.out.alloc HB4.out.size _⟩
end Go.Proofs.YtejeppjmlgfiaaaGreat
