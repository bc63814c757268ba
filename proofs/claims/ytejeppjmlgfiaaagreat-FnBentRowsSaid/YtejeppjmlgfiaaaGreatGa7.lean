/- Contracts of the program's functions that make the zero label and the rows of a gate GtAnd. Conditions: labels and offset in range. -/
import Derived.Test.YtejeppjmlgfiaaaGreatZer
import Derived.Test.YtejeppjmlgfiaaaGreatWirI
import Derived.Deep.DeepCutAuto
import Derived.Test.YtejeppjmlgfiaaaGreatWirL
import Derived.Test.YtejeppjmlgfiaaaGreatGbL
import Derived.Deep.RegionHeld3
namespace Go.Proofs.YtejeppjmlgfiaaaGreat
open Go.RowKit
set_option linter.unusedVariables false

theorem bits_and_bit {a b : Int} (ha : a = 0 ∨ a = 1) (hb : b = 0 ∨ b = 1) : bits .and .i64 a b = a * b := by
  rcases ha with rfl | rfl <;> rcases hb with rfl | rfl <;> decide
/-- The call returns a label and a row, the row in a new slice. -/
def RetZR (w : World) (z : Int) (r : List Int) (e : Ending) (w' : World) : Prop := ∃ u, e = .returned (.tuple #[.int .i64 z, u]) ∧ OwnI w' w.heap.size u r ∧ Below w.heap.size w w'
theorem c_impl_garbledAnd {off : Int} {w : World} : Calls Tryz.prog 90 #[.int .i64 off] w fun e w' => e = .returned (.func (.func 144) #[] #[.pointer (some ⟨w.heap.size, 0, none⟩)]) ∧ w' = w.alloc (.cells #[.int .i64 off] 3) := by
  go_enter Tryz.func90, Tryz.ntmps90
  go_wp2
  go_ret
  exact ⟨rfl, rfl⟩
theorem c_impl_halvedAnd {off : Int} {w : World} : Calls Tryz.prog 58 #[.int .i64 off] w fun e w' => e = .returned (.func (.func 126) #[] #[.pointer (some ⟨w.heap.size, 0, none⟩)]) ∧ w' = w.alloc (.cells #[.int .i64 off] 3) := by
  go_enter Tryz.func58, Tryz.ntmps58
  go_wp2
  go_ret
  exact ⟨rfl, rfl⟩
theorem c_impl_coloured {z r c : Int} {w : World} (hz : 0 ≤ z ∧ z ≤ 65535) (hr : 0 ≤ r ∧ r ≤ 65535) (hc : c = 0 ∨ c = 1) :
    Calls Tryz.prog 145 #[.int .i64 z, .int .i64 r, .int .i64 c] w fun e w' => e = .returned (.tuple #[.int .i64 (xorI z (r * xorI (z % 2) c)), .int .i64 (xorI (z % 2) c)]) ∧ w = w' := by
  have h1 := bits_and_one hz.1 (by omega)
  have h2 := bits_xor (a := z % 2) (b := c) (by omega) (by omega) (by omega) (by omega)
  have hv := xor_bit (bit2 z) hc
  generalize xorI (z % 2) c = v at *
  go_enter Tryz.func145, Tryz.ntmps145
  go_wp2_with (go_at_call 83; refine (c_impl_labelOf hz hr hv).mono ?_; rintro e w' ⟨rfl, rfl⟩)
  go_ret2
  exact ⟨rfl, rfl⟩

set_option maxRecDepth 100000 in
set_option maxHeartbeats 2000000 in
theorem c_garbledAnd1 {off n x y : Int} {q : Nat} {w : World} (hq : w.cell? ⟨q, 0, none⟩ = some (.int .i64 off)) (ho : 0 ≤ off ∧ off ≤ 65535) (hn : 0 ≤ n ∧ n ≤ 1000000) (hx : 0 ≤ x ∧ x ≤ 65535) (hy : 0 ≤ y ∧ y ≤ 65535) :
    Calls Tryz.prog 144 #[.int .i64 n, .int .i64 x, .int .i64 y, .pointer (some ⟨q, 0, none⟩)] w (RetZR w (gbZ off n x y) (gbR off n x y)) := by
  have hz := gbZ_bd ho n x y
  have hql : q < w.heap.size := World.block_lt_of_cell? _ _ hq
  go_enter Tryz.func144, Tryz.ntmps144
  go_wp2
  go_loopw [9, 10, 18] (fun z u i wr => ∃ k : Nat, k ≤ 4 ∧ i = .int .i64 k ∧ z = .int .i64 (if k = 0 then 0 else gbZ off n x y) ∧ Hid (OwnI wr w.heap.size u ((gbR off n x y).take (k - 1))) ∧ Hid (Below w.heap.size w wr) ∧ wr.cell? ⟨q, 0, none⟩ = some (.int .i64 off)) (fun _ _ i _ => 4 - (intOf i).toNat)
  case atStart => exact ⟨0, by omega, rfl, rfl, Lib.hid (OwnI.empty (Nat.le_refl _)), Lib.hid ((Below.refl _ _).alloc (Nat.le_refl _) _), (((Below.refl w.heap.size w).alloc (Nat.le_refl _) _).cell (p := ⟨q, 0, none⟩) hql).trans hq⟩
  case round =>
    obtain ⟨k, hk, rfl, rfl, HU, HB, hqr⟩ := hrel
    clear hq
    have hk5 : k = 0 ∨ k = 1 ∨ k = 2 ∨ k = 3 ∨ k = 4 := by omega
    rcases hk5 with rfl | rfl | rfl | rfl | rfl
    · replace HU := Lib.hid (show OwnI wr w.heap.size _ [] from HU.out)
      rw [if_pos rfl]
      have hu := xor_bit (b := 0) (bit2 x) (Or.inl rfl)
      have hv := xor_bit (b := 0) (bit2 y) (Or.inl rfl)
      have hown := gbOwnM_bd off n x y 0 0
      have HC1 := Lib.hid (fun W => c_impl_coloured (w := W) (c := 0) hx ho (Or.inl rfl))
      have HC2 := Lib.hid (fun W => c_impl_coloured (w := W) (c := 0) hy ho (Or.inl rfl))
      have HO := Lib.hid (show digM [n, 14, xorI x (off * xorI (x % 2) 0), xorI y (off * xorI (y % 2) 0)] = gbOwnM off n x y 0 0 from rfl)
      have HZ := Lib.hid (show gbZ off n x y = xorI (gbOwnM off n x y 0 0) (off * (xorI (x % 2) 0 * xorI (y % 2) 0)) from rfl)
      have ha := xorI_bd hx.1 (off_bit ho hu).1 hx.2 (off_bit ho hu).2
      have hb := xorI_bd hy.1 (off_bit ho hv).1 hy.2 (off_bit ho hv).2
      generalize xorI (x % 2) 0 = u at *
      generalize xorI (y % 2) 0 = v at *
      have HC3 := Lib.hid (fun W => c_impl_cipher (w := W) (n := n) (x := xorI x (off * u)) (y := xorI y (off * v)) (by omega) (by omega) (by omega))
      rw [HO.out] at HC3
      generalize xorI x (off * u) = a at *
      generalize xorI y (off * v) = b at *
      generalize gbOwnM off n x y 0 0 = own at *
      have huv := bits_and_bit hu hv
      have hm := mul_bit hu hv
      have hom := off_bit ho hm
      have HC4 := Lib.hid (fun W => c_impl_labelOf (w := W) hown ho hm)
      rw [← HZ.out] at HC4
      generalize u * v = uv at *
      clear hu hv ha hb hown hm hom HO HZ
      go_wp2_with fail
      refine (HC1.out _).mono ?_
      rintro e w' ⟨rfl, rfl⟩
      go_wp2_with fail
      refine (HC2.out _).mono ?_
      rintro e w' ⟨rfl, rfl⟩
      go_wp2_with fail
      refine (HC3.out _).mono ?_
      rintro e w1 ⟨rfl, hb1⟩
      replace hqr := (hb1.cell (World.block_lt_of_cell? _ _ hqr)).trans hqr
      have HB1 := Lib.hid (below_step HB.out hb1)
      have HO1 := Lib.hid (HU.out.below hb1)
      clear hb1 HC1 HC2 HC3
      go_wp2_with fail
      refine (HC4.out _).mono ?_
      rintro e w' ⟨rfl, rfl⟩
      clear HC4
      go_wp2
      go_roundw
      case rel => exact ⟨1, by omega, by go_num, rfl, Lib.hid (by show OwnI _ _ _ []; exact HO1.out), HB1, hqr⟩
      case measure => simp [intOf]
    · replace HU := Lib.hid (show OwnI wr w.heap.size _ [] from HU.out)
      rw [if_neg (by decide)]
      have hu := xor_bit (b := 0) (bit2 x) (Or.inl rfl)
      have hv := xor_bit (b := 1) (bit2 y) (Or.inr rfl)
      have hown := gbOwnM_bd off n x y 0 1
      have HC1 := Lib.hid (fun W => c_impl_coloured (w := W) (c := 0) hx ho (Or.inl rfl))
      have HC2 := Lib.hid (fun W => c_impl_coloured (w := W) (c := 1) hy ho (Or.inr rfl))
      have HO := Lib.hid (show digM [n, 14, xorI x (off * xorI (x % 2) 0), xorI y (off * xorI (y % 2) 1)] = gbOwnM off n x y 0 1 from rfl)
      have HR := Lib.hid (show gbRow off n x y 0 1 = xorI (gbOwnM off n x y 0 1) (xorI (gbZ off n x y) (off * (xorI (x % 2) 0 * xorI (y % 2) 1))) from rfl)
      have HRE := Lib.hid (show (gbR off n x y).take 1 = [] ++ [gbRow off n x y 0 1] from rfl)
      generalize gbZ off n x y = z at *
      have ha := xorI_bd hx.1 (off_bit ho hu).1 hx.2 (off_bit ho hu).2
      have hb := xorI_bd hy.1 (off_bit ho hv).1 hy.2 (off_bit ho hv).2
      generalize xorI (x % 2) 0 = u at *
      generalize xorI (y % 2) 1 = v at *
      have HC3 := Lib.hid (fun W => c_impl_cipher (w := W) (n := n) (x := xorI x (off * u)) (y := xorI y (off * v)) (by omega) (by omega) (by omega))
      rw [HO.out] at HC3
      generalize xorI x (off * u) = a at *
      generalize xorI y (off * v) = b at *
      generalize gbOwnM off n x y 0 1 = own at *
      have huv := bits_and_bit hu hv
      have hm := mul_bit hu hv
      have hom := off_bit ho hm
      have HC4 := Lib.hid (fun W => c_impl_labelOf (w := W) hz ho hm)
      have hzb := xorI_bd hz.1 hom.1 hz.2 hom.2
      generalize xorI z (off * (u * v)) = zl at *
      have hxr := bits_xor hown.1 hzb.1 (by omega) (by omega)
      rw [← HR.out] at hxr
      generalize gbRow off n x y 0 1 = row at *
      generalize u * v = uv at *
      clear hu hv ha hb hown hm hom HO HR hzb
      go_wp2_with fail
      refine (HC1.out _).mono ?_
      rintro e w' ⟨rfl, rfl⟩
      go_wp2_with fail
      refine (HC2.out _).mono ?_
      rintro e w' ⟨rfl, rfl⟩
      go_wp2_with fail
      refine (HC3.out _).mono ?_
      rintro e w1 ⟨rfl, hb1⟩
      replace hqr := (hb1.cell (World.block_lt_of_cell? _ _ hqr)).trans hqr
      have HB1 := Lib.hid (below_step HB.out hb1)
      have HO1 := Lib.hid (HU.out.below hb1)
      clear hb1 HC1 HC2 HC3
      go_wp2_with fail
      refine (HC4.out _).mono ?_
      rintro e w' ⟨rfl, rfl⟩
      clear HC4
      have hsz := HB1.out.size
      obtain ⟨Au, cu, rfl, -⟩ := HO1.out.ints
      have HO2 := HO1
      go_wp2_with (at_builtin; refine wp_app1 (B := w.heap.size) rfl rfl Tryz.underlying24 info_int rfl HO1.out rfl rfl rfl (by unfold maxLen; simp) (by simp) hsz ?_; intro v' w2 ho2 hg hfr)
      have HB2 := Lib.hid (below_app HB1.out HO1.out hg (Nat.le_refl _))
      have hq2 := hg.cell (a := ⟨q, 0, none⟩) hqr (fun e => by have := HO1.out.ge q e.symm; omega)
      go_roundw
      case rel => exact ⟨2, by omega, by go_num, rfl, Lib.hid (by show OwnI _ _ _ ((gbR off n x y).take 1); rw [HRE.out]; exact OwnI.snoc ho2), HB2, hq2⟩
      case measure => simp [intOf]
    · replace HU := Lib.hid (show OwnI wr w.heap.size _ [gbRow off n x y 0 1] from HU.out)
      rw [if_neg (by decide)]
      have hu := xor_bit (b := 1) (bit2 x) (Or.inr rfl)
      have hv := xor_bit (b := 0) (bit2 y) (Or.inl rfl)
      have hown := gbOwnM_bd off n x y 1 0
      have HC1 := Lib.hid (fun W => c_impl_coloured (w := W) (c := 1) hx ho (Or.inr rfl))
      have HC2 := Lib.hid (fun W => c_impl_coloured (w := W) (c := 0) hy ho (Or.inl rfl))
      have HO := Lib.hid (show digM [n, 14, xorI x (off * xorI (x % 2) 1), xorI y (off * xorI (y % 2) 0)] = gbOwnM off n x y 1 0 from rfl)
      have HR := Lib.hid (show gbRow off n x y 1 0 = xorI (gbOwnM off n x y 1 0) (xorI (gbZ off n x y) (off * (xorI (x % 2) 1 * xorI (y % 2) 0))) from rfl)
      have HRE := Lib.hid (show (gbR off n x y).take 2 = [gbRow off n x y 0 1] ++ [gbRow off n x y 1 0] from rfl)
      generalize gbZ off n x y = z at *
      have ha := xorI_bd hx.1 (off_bit ho hu).1 hx.2 (off_bit ho hu).2
      have hb := xorI_bd hy.1 (off_bit ho hv).1 hy.2 (off_bit ho hv).2
      generalize xorI (x % 2) 1 = u at *
      generalize xorI (y % 2) 0 = v at *
      have HC3 := Lib.hid (fun W => c_impl_cipher (w := W) (n := n) (x := xorI x (off * u)) (y := xorI y (off * v)) (by omega) (by omega) (by omega))
      rw [HO.out] at HC3
      generalize xorI x (off * u) = a at *
      generalize xorI y (off * v) = b at *
      generalize gbOwnM off n x y 1 0 = own at *
      have huv := bits_and_bit hu hv
      have hm := mul_bit hu hv
      have hom := off_bit ho hm
      have HC4 := Lib.hid (fun W => c_impl_labelOf (w := W) hz ho hm)
      have hzb := xorI_bd hz.1 hom.1 hz.2 hom.2
      generalize xorI z (off * (u * v)) = zl at *
      have hxr := bits_xor hown.1 hzb.1 (by omega) (by omega)
      rw [← HR.out] at hxr
      generalize gbRow off n x y 1 0 = row at *
      generalize u * v = uv at *
      clear hu hv ha hb hown hm hom HO HR hzb
      go_wp2_with fail
      refine (HC1.out _).mono ?_
      rintro e w' ⟨rfl, rfl⟩
      go_wp2_with fail
      refine (HC2.out _).mono ?_
      rintro e w' ⟨rfl, rfl⟩
      go_wp2_with fail
      refine (HC3.out _).mono ?_
      rintro e w1 ⟨rfl, hb1⟩
      replace hqr := (hb1.cell (World.block_lt_of_cell? _ _ hqr)).trans hqr
      have HB1 := Lib.hid (below_step HB.out hb1)
      have HO1 := Lib.hid (HU.out.below hb1)
      clear hb1 HC1 HC2 HC3
      go_wp2_with fail
      refine (HC4.out _).mono ?_
      rintro e w' ⟨rfl, rfl⟩
      clear HC4
      have hsz := HB1.out.size
      obtain ⟨Au, cu, rfl, -⟩ := HO1.out.ints
      have HO2 := HO1
      go_wp2_with (at_builtin; refine wp_app1 (B := w.heap.size) rfl rfl Tryz.underlying24 info_int rfl HO1.out rfl rfl rfl (by unfold maxLen; simp) (by simp) hsz ?_; intro v' w2 ho2 hg hfr)
      have HB2 := Lib.hid (below_app HB1.out HO1.out hg (Nat.le_refl _))
      have hq2 := hg.cell (a := ⟨q, 0, none⟩) hqr (fun e => by have := HO1.out.ge q e.symm; omega)
      go_roundw
      case rel => exact ⟨3, by omega, by go_num, rfl, Lib.hid (by show OwnI _ _ _ ((gbR off n x y).take 2); rw [HRE.out]; exact OwnI.snoc ho2), HB2, hq2⟩
      case measure => simp [intOf]
    · replace HU := Lib.hid (show OwnI wr w.heap.size _ [gbRow off n x y 0 1, gbRow off n x y 1 0] from HU.out)
      rw [if_neg (by decide)]
      have hu := xor_bit (b := 1) (bit2 x) (Or.inr rfl)
      have hv := xor_bit (b := 1) (bit2 y) (Or.inr rfl)
      have hown := gbOwnM_bd off n x y 1 1
      have HC1 := Lib.hid (fun W => c_impl_coloured (w := W) (c := 1) hx ho (Or.inr rfl))
      have HC2 := Lib.hid (fun W => c_impl_coloured (w := W) (c := 1) hy ho (Or.inr rfl))
      have HO := Lib.hid (show digM [n, 14, xorI x (off * xorI (x % 2) 1), xorI y (off * xorI (y % 2) 1)] = gbOwnM off n x y 1 1 from rfl)
      have HR := Lib.hid (show gbRow off n x y 1 1 = xorI (gbOwnM off n x y 1 1) (xorI (gbZ off n x y) (off * (xorI (x % 2) 1 * xorI (y % 2) 1))) from rfl)
      have HRE := Lib.hid (show (gbR off n x y).take 3 = [gbRow off n x y 0 1, gbRow off n x y 1 0] ++ [gbRow off n x y 1 1] from rfl)
      generalize gbZ off n x y = z at *
      have ha := xorI_bd hx.1 (off_bit ho hu).1 hx.2 (off_bit ho hu).2
      have hb := xorI_bd hy.1 (off_bit ho hv).1 hy.2 (off_bit ho hv).2
      generalize xorI (x % 2) 1 = u at *
      generalize xorI (y % 2) 1 = v at *
      have HC3 := Lib.hid (fun W => c_impl_cipher (w := W) (n := n) (x := xorI x (off * u)) (y := xorI y (off * v)) (by omega) (by omega) (by omega))
      rw [HO.out] at HC3
      generalize xorI x (off * u) = a at *
      generalize xorI y (off * v) = b at *
      generalize gbOwnM off n x y 1 1 = own at *
      have huv := bits_and_bit hu hv
      have hm := mul_bit hu hv
      have hom := off_bit ho hm
      have HC4 := Lib.hid (fun W => c_impl_labelOf (w := W) hz ho hm)
      have hzb := xorI_bd hz.1 hom.1 hz.2 hom.2
      generalize xorI z (off * (u * v)) = zl at *
      have hxr := bits_xor hown.1 hzb.1 (by omega) (by omega)
      rw [← HR.out] at hxr
      generalize gbRow off n x y 1 1 = row at *
      generalize u * v = uv at *
      clear hu hv ha hb hown hm hom HO HR hzb
      go_wp2_with fail
      refine (HC1.out _).mono ?_
      rintro e w' ⟨rfl, rfl⟩
      go_wp2_with fail
      refine (HC2.out _).mono ?_
      rintro e w' ⟨rfl, rfl⟩
      go_wp2_with fail
      refine (HC3.out _).mono ?_
      rintro e w1 ⟨rfl, hb1⟩
      replace hqr := (hb1.cell (World.block_lt_of_cell? _ _ hqr)).trans hqr
      have HB1 := Lib.hid (below_step HB.out hb1)
      have HO1 := Lib.hid (HU.out.below hb1)
      clear hb1 HC1 HC2 HC3
      go_wp2_with fail
      refine (HC4.out _).mono ?_
      rintro e w' ⟨rfl, rfl⟩
      clear HC4
      have hsz := HB1.out.size
      obtain ⟨Au, cu, rfl, -⟩ := HO1.out.ints
      have HO2 := HO1
      go_wp2_with (at_builtin; refine wp_app1 (B := w.heap.size) rfl rfl Tryz.underlying24 info_int rfl HO1.out rfl rfl rfl (by unfold maxLen; simp) (by simp) hsz ?_; intro v' w2 ho2 hg hfr)
      have HB2 := Lib.hid (below_app HB1.out HO1.out hg (Nat.le_refl _))
      have hq2 := hg.cell (a := ⟨q, 0, none⟩) hqr (fun e => by have := HO1.out.ge q e.symm; omega)
      go_roundw
      case rel => exact ⟨4, by omega, by go_num, rfl, Lib.hid (by show OwnI _ _ _ ((gbR off n x y).take 3); rw [HRE.out]; exact OwnI.snoc ho2), HB2, hq2⟩
      case measure => simp [intOf]
    · go_wp2
      go_ret2
      exact ⟨_, rfl, HU.out, HB.out⟩
set_option maxRecDepth 100000 in
set_option maxHeartbeats 2000000 in
theorem c_halvedAnd1 {off n x y : Int} {q : Nat} {w : World} (hq : w.cell? ⟨q, 0, none⟩ = some (.int .i64 off)) (ho : 0 ≤ off ∧ off ≤ 65535) (hn : 0 ≤ n ∧ n ≤ 1000000) (hx : 0 ≤ x ∧ x ≤ 65535) (hy : 0 ≤ y ∧ y ≤ 65535) :
    Calls Tryz.prog 126 #[.int .i64 n, .int .i64 x, .int .i64 y, .pointer (some ⟨q, 0, none⟩)] w (RetZR w (hgZ off n x y) (hgR off n x y)) := by
  have hax := bits_and_one hx.1 (by omega)
  have hay := bits_and_one hy.1 (by omega)
  have q0 := belowCell hq
  have hxo := bits_xor hx.1 ho.1 (by omega) (by omega)
  have hyo := bits_xor hy.1 ho.1 (by omega) (by omega)
  have bxo := xorI_bd hx.1 ho.1 hx.2 ho.2
  have byo := xorI_bd hy.1 ho.1 hy.2 ho.2
  have HA := Lib.hid (show hgA off n x y = xorI (xorI (digM [n, 15, x, 0]) (digM [n, 15, xorI x off, 0])) (off * (y % 2)) from rfl)
  have HB := Lib.hid (show hgB off n x y = xorI (xorI (digM [n, 15, y, 1]) (digM [n, 15, xorI y off, 1])) x from rfl)
  have HZ := Lib.hid (show hgZ off n x y = xorI (xorI (xorI (digM [n, 15, x, 0]) (hgA off n x y * (x % 2))) (digM [n, 15, y, 1])) (xorI (hgB off n x y) x * (y % 2)) from rfl)
  have HR := Lib.hid (show hgR off n x y = [hgA off n x y, hgB off n x y] from rfl)
  have hA := hgA_bd ho n x y
  have hB := hgB_bd hx off n y
  have b0 := digM_bd [n, 15, x, 0]
  have b1 := digM_bd [n, 15, xorI x off, 0]
  have b2 := digM_bd [n, 15, y, 1]
  have b3 := digM_bd [n, 15, xorI y off, 1]
  have HX0 := Lib.hid (fun W => c_impl_half (w := W) (n := n) (l := x) (s := 0) (by omega) (by omega) (by omega))
  have HX1 := Lib.hid (fun W => c_impl_half (w := W) (n := n) (l := xorI x off) (s := 0) (by omega) (by omega) (by omega))
  have HY0 := Lib.hid (fun W => c_impl_half (w := W) (n := n) (l := y) (s := 1) (by omega) (by omega) (by omega))
  have HY1 := Lib.hid (fun W => c_impl_half (w := W) (n := n) (l := xorI y off) (s := 1) (by omega) (by omega) (by omega))
  generalize digM [n, 15, x, 0] = d0 at *
  generalize digM [n, 15, xorI x off, 0] = d1 at *
  generalize digM [n, 15, y, 1] = d2 at *
  generalize digM [n, 15, xorI y off, 1] = d3 at *
  generalize xorI x off = xo at *
  generalize xorI y off = yo at *
  generalize hgA off n x y = A at *
  generalize hgB off n x y = B at *
  generalize hgZ off n x y = Z at *
  have hi := bit2 x
  have hk := bit2 y
  generalize x % 2 = i at *
  generalize y % 2 = k at *
  have mk := off_bit ho hk
  have mi := off_bit hA hi
  have bBx := xorI_bd hB.1 hx.1 hB.2 hx.2
  have mB := off_bit bBx hk
  have wk : IntKind.i64.wrap (off * k) = off * k := IntWalk.i64_in _ (by omega)
  have wi : IntKind.i64.wrap (A * i) = A * i := IntWalk.i64_in _ (by omega)
  have wB : IntKind.i64.wrap (xorI B x * k) = xorI B x * k := IntWalk.i64_in _ (by omega)
  have z1 := bits_xor b0.1 b1.1 (by omega) (by omega)
  have c1 := xorI_bd b0.1 b1.1 b0.2 b1.2
  have z2 := bits_xor c1.1 mk.1 (by omega) (by omega)
  rw [← HA.out] at z2
  have z3 := bits_xor b2.1 b3.1 (by omega) (by omega)
  have c3 := xorI_bd b2.1 b3.1 b2.2 b3.2
  have z4 := bits_xor c3.1 hx.1 (by omega) (by omega)
  rw [← HB.out] at z4
  have z5 := bits_xor b0.1 mi.1 (by omega) (by omega)
  have c5 := xorI_bd b0.1 mi.1 b0.2 mi.2
  have z6 := bits_xor c5.1 b2.1 (by omega) (by omega)
  have c6 := xorI_bd c5.1 b2.1 c5.2 b2.2
  have z7 := bits_xor hB.1 hx.1 (by omega) (by omega)
  have z8 := bits_xor c6.1 mB.1 (by omega) (by omega)
  rw [← HZ.out] at z8
  clear HA HB HZ hq hi hk
  generalize xorI d0 d1 = e1 at *
  generalize xorI d2 d3 = e2 at *
  generalize xorI (xorI d0 (A * i)) d2 = e4 at *
  generalize xorI d0 (A * i) = e3 at *
  generalize xorI B x = e5 at *
  go_enter Tryz.func126, Tryz.ntmps126
  go_upto_region 2 with fail
  go_cut [11] (fun s wx => s = .int .i64 A ∧ Hid (Below w.heap.size w wx))
  case first =>
    go_region_held3 (fun w' => Below w.heap.size w w')
      (first | assumption | (refine below_step ?_ HD.out; assumption) | (exact (Below.refl _ _).drew))
      (first
        | (go_at_call_of 127 (Value.int IntKind.i64 x); refine (HX0.out _).mono ?_; rintro e wz ⟨rfl, hb⟩; have HD := Lib.hid hb)
        | (go_at_call_of 127 (Value.int IntKind.i64 xo); refine (HX1.out _).mono ?_; rintro e wz ⟨rfl, hb⟩; have HD := Lib.hid hb))
    all_goals
      have hE : Below w.heap.size w wz := by assumption
      go_wp2_with fail
      go_meet
      exact ⟨rfl, Lib.hid hE⟩
  case rest =>
    obtain ⟨rfl, HB1⟩ := hcut
    obtain ⟨W1, hW1⟩ : ∃ W, wc = W := ⟨_, rfl⟩
    rw [hW1] at HB1 ⊢
    clear hW1
    have q1 : ∀ w', Below W1.heap.size W1 w' → w'.cell? ⟨q, 0, none⟩ = some (.int .i64 off) := fun w' h => q0 w' (below_step HB1.out h)
    go_upto_region 3 with fail
    go_cut [12] (fun s wx => s = .int .i64 B ∧ Hid (Below w.heap.size w wx))
    case first =>
      go_region_held3 (fun w' => Below W1.heap.size W1 w')
        (first | assumption | (refine below_step ?_ HD.out; assumption) | (exact (Below.refl _ _).drew))
        (first
          | (go_at_call_of 127 (Value.int IntKind.i64 y); refine (HY0.out _).mono ?_; rintro e wz ⟨rfl, hb⟩; have HD := Lib.hid hb)
          | (go_at_call_of 127 (Value.int IntKind.i64 yo); refine (HY1.out _).mono ?_; rintro e wz ⟨rfl, hb⟩; have HD := Lib.hid hb))
      all_goals
        have hE : Below W1.heap.size W1 wz := by assumption
        go_wp2_with fail
        go_meet
        exact ⟨rfl, Lib.hid (below_step HB1.out hE)⟩
    case rest =>
      obtain ⟨rfl, HB2⟩ := hcut
      obtain ⟨W2, hW2⟩ : ∃ W, wc = W := ⟨_, rfl⟩
      rw [hW2] at HB2 ⊢
      clear hW2
      go_wp2_with fail
      refine (HX0.out _).mono ?_
      rintro e w3 ⟨rfl, hb3⟩
      have HB3 := Lib.hid (below_step HB2.out hb3)
      go_wp2_with fail
      refine (HY0.out _).mono ?_
      rintro e w4 ⟨rfl, hb4⟩
      have HB4 := Lib.hid (below_step HB3.out hb4)
      go_wp2
      go_ret2
      rw [HR.out]
      exact ⟨_, rfl, (OwnI.lit [A, B] _ rfl HB4.out.size (by simp)), HB4.out.alloc HB4.out.size _⟩
end Go.Proofs.YtejeppjmlgfiaaaGreat

/- Contracts of the zero labels of all wires, the program's. Conditions: the circuit, the key and the offset are valid. -/
namespace Go.Proofs.YtejeppjmlgfiaaaGreat
open Go.RowKit
set_option linter.unusedVariables false

/-- The labels so far and the rows so far, in memory of the call's own. -/
structure ZP (w : World) (B : Nat) (u : Value) (l : List Int) (rv : Value) (vs : List Value) (rows : List (List Int)) : Prop where
  own : OwnI w B u l
  rs : OwnRs w B rv vs rows
  apt : ∀ y ∈ rv :: vs, Apt u y
section
variable {w w1 w2 : World} {B : Nat} {u rv v' : Value} {l l' : List Int} {vs : List Value} {rows : List (List Int)}
theorem ZP.below (h : ZP w B u l rv vs rows) (hb : Below w.heap.size w w1) : ZP w1 B u l rv vs rows := ⟨h.own.below hb, h.rs.below hb, h.apt⟩
theorem ZP.mono {B' : Nat} (h : ZP w B u l rv vs rows) (hB : B' ≤ B) : ZP w B' u l rv vs rows := ⟨h.own.mono hB, h.rs.mono hB, h.apt⟩
theorem ZP.appU (h : ZP w B u l rv vs rows) (ho : OwnI w1 B v' l') (hg : w.grownBy w1 u.ownBlock) (hfr : ∀ g, v'.ownBlock = some g → u.ownBlock = some g ∨ w.heap.size ≤ g) : ZP w1 B v' l' rv vs rows := by
  refine ⟨ho, h.rs.only (F := [u]) (Only.ofGrown hg (by simp)) (fun x hx y hy => ?_), fun y hy g hg' e => ?_⟩
  · simp at hx; subst hx; exact h.apt y hy
  · rcases hfr g hg' with h1 | h1
    · exact h.apt y hy g h1 e
    · have := (h.rs.bd y hy g e).2; omega
theorem ZP.rowR {u1 : Value} {r : List Int} (h : ZP w B u l rv vs rows) (hb : Below w.heap.size w w1) (hB : B ≤ w.heap.size) (hu : OwnI w1 w.heap.size u1 r)
    (ho : w2.ownsRow B 24 1 v' (rows.length + 1) (vs ++ [u1])) (hg : w1.grownBy w2 rv.ownBlock) (hfr : ∀ g, v'.ownBlock = some g → rv.ownBlock = some g ∨ w1.heap.size ≤ g) : ZP w2 B u l v' (vs ++ [u1]) (rows ++ [r]) := by
  have hs := hb.size
  refine ⟨(h.own.below hb).grown hg (fun g hg' e => h.apt rv (by simp) g hg' e.symm), h.rs.snoc hb hB hu ho hg hfr, fun y hy a e e' => ?_⟩
  have hlt := h.own.lt a e
  rcases List.mem_cons.1 hy with rfl | hy
  · rcases hfr a e' with h1 | h1
    · exact h.apt rv (by simp) a e h1
    · omega
  · rcases List.mem_append.1 hy with hy | hy
    · exact h.apt y (List.mem_cons_of_mem _ hy) a e e'
    · simp at hy; subst hy
      have := hu.ge a e'; omega
end
/-- The call returns the zero labels and the rows. -/
def RetZ (w : World) (s : Zr) (e : Ending) (w' : World) : Prop := ∃ u rv vs, e = .returned (.tuple #[u, rv]) ∧ ZP w' w.heap.size u s.zs rv vs s.rows ∧ Below w.heap.size w w'
theorem nil_ZP {w : World} {B : Nat} (hB : B ≤ w.heap.size) : ZP ((w.alloc (.cells #[] 3)).alloc (.cells #[] 24)) B (.slice (some ⟨w.heap.size, 0, none⟩) 0 0) [] (.slice (some ⟨w.heap.size + 1, 0, none⟩) 0 0) [] [] := by
  refine ⟨(OwnI.empty hB).alloc _, ?_, fun y hy g e e' => ?_⟩
  · have := OwnRs.empty (w := w.alloc (.cells #[] 3)) (B := B) (by simp; omega)
    simpa using this
  · simp at hy; subst hy
    simp [Value.ownBlock] at e e'
    omega
set_option maxRecDepth 100000 in
set_option maxHeartbeats 4000000 in
theorem c_zeros_garbledAnd {c : Cir} {gv ov : Value} {key off : Int} {q : Nat} {w : World} (h : CirIn w gv ov c) (hc : cirB c = true) (hk : 0 ≤ key ∧ key ≤ 1000000000) (ho : 0 ≤ off ∧ off ≤ 65535) (hq : w.cell? ⟨q, 0, none⟩ = some (.int .i64 off)) :
    Calls Tryz.prog 72 #[cirV c gv ov, .int .i64 key, .int .i64 off, .func (.func 144) #[] #[.pointer (some ⟨q, 0, none⟩)]] w (RetZ w (zrM (gbZ off) (gbR off) key off c.ins.toNat c.gs)) := by
  have hbd := cirB_bd hc
  have hgl : c.gs.length ≤ 300 := hbd.2.2.2.2.1
  have hins : 0 ≤ c.ins ∧ c.ins ≤ 40 := by unfold Cir.ins; omega
  have HGB := Lib.hid (cirB_gates hc)
  have HKB := Lib.hid (cirB_kinds hc)
  have HBD := Lib.hid (zr_bd (m := (gbR off 0 0 0).length) (F := gbZ off) (R := gbR off) ho (by first | exact fun w x y _ _ => gbZ_bd ho w x y | exact fun w x y hx _ => hgZ_bd ho hx w y) (by first | exact fun w x y _ _ => gbR_bd ho w x y | exact fun w x y hx _ => hgR_bd ho hx w y) key c.ins.toNat)
  have hi4 : 0 ≤ c.i0 ∧ c.i0 ≤ 20 ∧ 0 ≤ c.i1 ∧ c.i1 ≤ 20 := by omega
  have H := Lib.hid h
  have hql : q < w.heap.size := World.block_lt_of_cell? _ _ hq
  have QC := Lib.hid hq
  obtain ⟨hg, hoo⟩ := h
  obtain ⟨A, cg, rfl, hlg, hmg, hrg⟩ := hg
  obtain ⟨A', co, rfl, -⟩ := hoo
  have HRG := Lib.hid hrg
  unfold maxLen at hmg
  clear hc hbd hrg hq
  unfold cirV
  obtain ⟨w0, hw0⟩ : ∃ W, ((w.alloc (.cells #[.int .i64 c.i0, .int .i64 c.i1, .slice A c.gs.length cg, .slice A' c.outs.length co] 26)).alloc (.cells #[] 3)).alloc (.cells #[] 24) = W := ⟨_, rfl⟩
  have HZ0 : Hid (ZP w0 (w.heap.size + 1) (.slice (some ⟨w.heap.size + 1, 0, none⟩) 0 0) [] (.slice (some ⟨w.heap.size + 2, 0, none⟩) 0 0) [] []) := by
    rw [← hw0]
    have := nil_ZP (w := w.alloc (.cells #[.int .i64 c.i0, .int .i64 c.i1, .slice A c.gs.length cg, .slice A' c.outs.length co] 26)) (B := w.heap.size + 1) (by simp)
    simp only [World.size_alloc] at this
    exact this
  have HKC : Hid (Blk w0 w.heap.size 26 #[.int .i64 c.i0, .int .i64 c.i1, .slice A c.gs.length cg, .slice A' c.outs.length co]) := by rw [← hw0]; exact ((Blk.new _ _ _).alloc _).alloc _
  have HB : Hid (Below w.heap.size w w0) := by rw [← hw0]; exact (((Below.refl w.heap.size w).alloc (Nat.le_refl _) _).alloc (by simp) _).alloc (by simp; omega) _
  have hz0 : w.heap.size + 3 ≤ w0.heap.size := by rw [← hw0]; simp
  have x0 : w0.cell? ⟨w.heap.size, 0, none⟩ = some (.int .i64 c.i0) := HKC.out.cell 0
  have x1 : w0.cell? ⟨w.heap.size, 1, none⟩ = some (.int .i64 c.i1) := HKC.out.cell 1
  have x2 : w0.cell? ⟨w.heap.size, 2, none⟩ = some (.slice A c.gs.length cg) := HKC.out.cell 2
  have x3 : w0.cell? ⟨w.heap.size, 3, none⟩ = some (.slice A' c.outs.length co) := HKC.out.cell 3
  go_enter Tryz.func72, Tryz.ntmps72
  go_wp2_with fail
  clear hw0 x0 x1 x2 x3
  refine (c_C_inputs (H.out.below HB.out) hi4).mono ?_
  rintro e w1 ⟨rfl, hb1⟩
  replace HZ0 := Lib.hid (HZ0.out.below hb1)
  replace HKC := Lib.hid (HKC.out.step hb1)
  replace HB := Lib.hid (below_step HB.out hb1)
  have hz1 := Nat.le_trans hz0 hb1.size
  clear hb1 hz0
  obtain ⟨N, hN⟩ : ∃ N : Nat, c.ins = (N : Int) := ⟨c.ins.toNat, by omega⟩
  have hN2 : c.ins.toNat = N := by omega
  rw [hN2] at HBD ⊢
  have HN := Lib.hid hN
  go_wp2
  go_loopw [10, 22] (fun u i wr => ∃ k : Nat, k ≤ N ∧ i = .int .i64 k ∧ Hid (ZP wr (w.heap.size + 1) u (zIns key k) (.slice (some ⟨w.heap.size + 2, 0, none⟩) 0 0) [] []) ∧ Hid (Below w.heap.size w wr) ∧ w.heap.size + 3 ≤ wr.heap.size ∧ Hid (Blk wr w.heap.size 26 #[.int .i64 c.i0, .int .i64 c.i1, .slice A c.gs.length cg, .slice A' c.outs.length co])) (fun _ i _ => N - (intOf i).toNat)
  case atStart => exact ⟨0, Nat.zero_le _, rfl, HZ0, HB, hz1, HKC⟩
  case round =>
    obtain ⟨k, hk2, rfl, HZ, HB, hzr, HKC⟩ := hrel
    clear HZ0
    by_cases hlt : k < N
    · go_wp2_with fail
      refine (c_impl_zeroLabel (by omega) (by omega)).mono ?_
      rintro e w2 ⟨rfl, hb2⟩
      have hdb := digM_bd [key, (k : Int), 13, 0]
      have HS := Lib.hid (zIns_snoc key k)
      generalize digM [key, (k : Int), 13, 0] = z at *
      have HZ2 := Lib.hid (HZ.out.below hb2)
      have HB2 := Lib.hid (below_step HB.out hb2)
      have HKC2 := Lib.hid (HKC.out.step hb2)
      have hz2 := Nat.le_trans hzr hb2.size
      have hlen : (zIns key k).length ≤ 40 := by rw [zIns_length]; omega
      clear hb2 HZ HB HKC
      go_wp2_with (at_builtin; refine wp_app1 (B := w.heap.size + 1) rfl rfl Tryz.underlying24 info_int rfl HZ2.out.own rfl rfl rfl (by unfold maxLen; omega) (by omega) (Nat.le_trans (Nat.le_add_right _ 2) hz2) ?_; intro v' w9 ho hg hfr)
      have HZn := Lib.hid (HZ2.out.appU (OwnI.snoc ho) hg hfr)
      have HBn := Lib.hid (below_app HB2.out (own_mono HZ2.out.own (Nat.le_add_right _ 1)) hg (Nat.le_refl _))
      have HKn := Lib.hid (HKC2.out.grown hg (fun e => by have := HZ2.out.own.ge _ e.symm; omega))
      have hzn := Nat.le_trans hz2 hg.size
      go_roundw
      case rel => exact ⟨k + 1, by omega, by go_num, by rw [HS.out]; exact HZn, HBn, hzn, HKn⟩
      case measure => simp [intOf]; omega
    · obtain rfl : k = N := by omega
      obtain ⟨wa, rfl⟩ : ∃ W, W = wr := ⟨wr, rfl⟩
      have x2 : wa.cell? ⟨w.heap.size, 2, none⟩ = some (.slice A c.gs.length cg) := HKC.out.cell 2
      have HZ1 := HZ
      have HB1 := HB
      clear HKC HZ HB
      go_wp2
      clear x2
      go_loopw [10, 11, 35] (fun u rv i wr => ∃ (j : Nat) (vs : List Value), j ≤ c.gs.length ∧ i = .int .i64 j ∧ Hid (ZP wr (w.heap.size + 1) u (zrM (gbZ off) (gbR off) key off k (c.gs.take j)).zs rv vs (zrM (gbZ off) (gbR off) key off k (c.gs.take j)).rows) ∧ Hid (Below w.heap.size w wr) ∧ w.heap.size + 3 ≤ wr.heap.size) (fun _ _ i _ => c.gs.length - (intOf i).toNat)
      case atStart => exact ⟨0, [], Nat.zero_le _, rfl, HZ1, HB1, hzr⟩
      case round =>
        obtain ⟨j, vs, hj, rfl, HZ, HB, hzw⟩ := hrel
        clear HZ1 HB1
        by_cases hjl : j < c.gs.length
        · obtain ⟨b, o, g, rfl, hbl, hgk, c0, c1', c2'⟩ := (HRG.out.below HB.out).gate_at hjl
          have hgb := gate_ab (gatesB_at _ _ j g HGB.out hgk)
          obtain ⟨i1, i2, i3⟩ := zr_inv (F := gbZ off) (R := gbR off) (key := key) (off := off) (n := k) HKB.out j (by omega)
          have HS := Lib.hid (zr_snoc (F := gbZ off) (R := gbR off) (key := key) (off := off) (n := k) hgk)
          obtain ⟨hbs, hbr, -⟩ := HBD.out (c.gs.take j)
          have hcl1 := cnt_le 1 c.gs j
          have hcb1 := cnt_bd 1 c.gs
          generalize hs : zrM (gbZ off) (gbR off) key off k (c.gs.take j) = s at *
          clear hs hgk
          obtain ⟨gk, ga, gb⟩ := g
          obtain ⟨l, rows, ones⟩ := s
          simp only at c0 c1' c2' hgb i1 i2 i3 hbs hbr HZ
          obtain ⟨Au, cu, rfl, hlu, hmu, hru⟩ := own_form HZ.out.own
          unfold maxLen at hmu
          have hll : (l.length : Int) = k + j := by omega
          have hl340 : l.length ≤ 340 := by have := HN.out; omega
          have hrl : rows.length ≤ 300 := by omega
          have HLL := Lib.hid hll
          have HBS := Lib.hid hbs
          have HRU := Lib.hid hru
          have HNN := HN.out
          rw [HNN] at hgb
          obtain ⟨wb, hwb⟩ : ∃ W, wr.alloc (.cells #[.int .i64 gk, .int .i64 ga, .int .i64 gb] 117) = W := ⟨_, rfl⟩
          have hbb : Below wr.heap.size wr wb := by rw [← hwb]; exact (Below.refl _ _).alloc (Nat.le_refl _) _
          have HBX : Hid (Blk wb wr.heap.size 117 #[.int .i64 gk, .int .i64 ga, .int .i64 gb]) := by rw [← hwb]; exact Blk.new _ _ _
          have y0 : wb.cell? ⟨wr.heap.size, 0, none⟩ = some (.int .i64 gk) := HBX.out.cell 0
          have y1 : wb.cell? ⟨wr.heap.size, 1, none⟩ = some (.int .i64 ga) := HBX.out.cell 1
          have y2 : wb.cell? ⟨wr.heap.size, 2, none⟩ = some (.int .i64 gb) := HBX.out.cell 2
          have HBB := Lib.hid hbb
          have HB2 := Lib.hid (below_step HB.out hbb)
          have HZ2 := Lib.hid (HZ.out.below hbb)
          have hsz3 : w.heap.size + 3 ≤ wb.heap.size := Nat.le_trans hzw HBB.out.size
          have hsz : w.heap.size + 1 ≤ wb.heap.size := by omega
          clear hbb hll hbs hru HB HZ hlu hmu HNN hcl1 hcb1 i2 i3 hbr hlt hN hN2
          have hkk : gk = 0 ∨ gk = 1 ∨ gk = 2 ∨ gk = 3 := by omega
          rcases hkk with rfl | rfl | rfl | rfl
          · -- exclusive-or
            have hab := hgb.2.1 (Or.inl rfl)
            obtain ⟨ja, rfl, hja, hea⟩ := elt_at (l := l) hab.1 (by have := HLL.out; omega)
            obtain ⟨jb, rfl, hjb, heb⟩ := elt_at (l := l) hab.2.2.1 (by have := HLL.out; omega)
            obtain ⟨bo, oo, xa, rfl, hbo, hxa, hca⟩ := (HRU.out.below HBB.out).int_at hja
            obtain ⟨bo2, oo2, xb, e2, hbo2, hxb, hcb⟩ := (HRU.out.below HBB.out).int_at hjb
            injection e2 with e2; injection e2 with e2 e2'; subst e2 e2'
            have exa := hea.symm.trans hxa
            have exb := heb.symm.trans hxb
            injection exa with exa
            injection exb with exb
            have ba := elt_bd (k := (ja : Int)) HBS.out
            have bb := elt_bd (k := (jb : Int)) HBS.out
            rw [exa] at ba
            rw [exb] at bb
            have hxor := bits_xor ba.1 bb.1 (by omega) (by omega)
            have HW := Lib.hid (show zStep (gbZ off) (gbR off) key off ⟨l, rows, ones⟩ ⟨0, (ja : Int), (jb : Int)⟩ = ⟨l ++ [xorI xa xb], rows, ones⟩ by unfold zStep; simp only [if_true]; rw [exa, exb])
            clear hgb hea heb hxa hxb exa exb hab i1
            have hja0 : (0 : Int) ≤ (ja : Int) := Int.natCast_nonneg _
            have hja1 : (ja : Int) < (l.length : Int) := by omega
            have hjb0 : (0 : Int) ≤ (jb : Int) := Int.natCast_nonneg _
            have hjb1 : (jb : Int) < (l.length : Int) := by omega
            go_wp2_with fail
            go_region_held3 (fun w' => w'.cell? ⟨wr.heap.size, 1, none⟩ = some (.int .i64 (ja : Int)) ∧ w'.cell? ⟨wr.heap.size, 2, none⟩ = some (.int .i64 (jb : Int)) ∧ w'.cell? ⟨bo, oo + ja, none⟩ = some (.int .i64 xa) ∧ w'.cell? ⟨bo, oo + jb, none⟩ = some (.int .i64 xb)) (exact ⟨y1, y2, hca, hcb⟩) (fail)
            have HZ3 := Lib.hid (HZ2.out.below ((Below.refl wb.heap.size wb).drew))
            go_wp2_with (at_builtin; refine wp_app1 (B := w.heap.size + 1) rfl rfl Tryz.underlying24 info_int rfl HZ3.out.own rfl rfl rfl (by unfold maxLen; omega) (by omega) hsz ?_; intro v' w9 ho hg hfr)
            have HZn := Lib.hid (HZ3.out.appU (OwnI.snoc ho) hg hfr)
            have HBn := Lib.hid (below_app HB2.out.drew (own_mono HZ3.out.own (Nat.le_add_right _ 1)) hg (Nat.le_refl _))
            have hzn : w.heap.size + 3 ≤ w9.heap.size := Nat.le_trans hsz3 hg.size
            go_roundw
            case rel => exact ⟨j + 1, vs, by omega, by go_num, by rw [HS.out, HW.out]; exact HZn, HBn, hzn⟩
            case measure => simp [intOf]; omega
          · -- and
            have hab := hgb.2.1 (Or.inr rfl)
            obtain ⟨ja, rfl, hja, hea⟩ := elt_at (l := l) hab.1 (by have := HLL.out; omega)
            obtain ⟨jb, rfl, hjb, heb⟩ := elt_at (l := l) hab.2.2.1 (by have := HLL.out; omega)
            obtain ⟨bo, oo, xa, rfl, hbo, hxa, hca⟩ := (HRU.out.below HBB.out).int_at hja
            obtain ⟨bo2, oo2, xb, e2, hbo2, hxb, hcb⟩ := (HRU.out.below HBB.out).int_at hjb
            injection e2 with e2; injection e2 with e2 e2'; subst e2 e2'
            have exa := hea.symm.trans hxa
            have exb := heb.symm.trans hxb
            injection exa with exa
            injection exb with exb
            have ba := elt_bd (k := (ja : Int)) HBS.out
            have bb := elt_bd (k := (jb : Int)) HBS.out
            rw [exa] at ba
            rw [exb] at bb
            have HW := Lib.hid (show zStep (gbZ off) (gbR off) key off ⟨l, rows, ones⟩ ⟨1, (ja : Int), (jb : Int)⟩ = ⟨l ++ [gbZ off (l.length : Int) xa xb], rows ++ [gbR off (l.length : Int) xa xb], ones⟩ by unfold zStep; simp only [Int.reduceEq, if_false]; rw [exa, exb])
            have qq := belowCell ((HB2.out.cell (p := ⟨q, 0, none⟩) hql).trans QC.out)
            have q1 := belowCell y1
            have q2 := belowCell y2
            have q3 := belowCell hca
            have q4 := belowCell hcb
            clear hgb hea heb hxa hxb exa exb hab i1 y1 y2 hca hcb
            have hja0 : (0 : Int) ≤ (ja : Int) := Int.natCast_nonneg _
            have hja1 : (ja : Int) < (l.length : Int) := by omega
            have hjb0 : (0 : Int) ≤ (jb : Int) := Int.natCast_nonneg _
            have hjb1 : (jb : Int) < (l.length : Int) := by omega
            go_wp2_with fail
            go_region_held3 (fun w' => Below wb.heap.size wb w')
              (first | (refine below_step ?_ HD.out; assumption) | (exact (Below.refl _ _).drew))
              (first
                | (go_at_call 144; refine (c_garbledAnd1 (qq _ (by assumption)) ho (by omega) ba bb).mono ?_; rintro e wz ⟨u1, rfl, hu1, hb⟩; obtain ⟨A1, k1, rfl, -⟩ := hu1.ints; replace hu1 := Lib.hid (hu1.mono (Below.size (B := wb.heap.size) (w := wb) (by assumption))); have HD := Lib.hid hb))
            have hE : Below wb.heap.size wb wz := by assumption
            have HEE := Lib.hid hE
            have hszz := Nat.le_trans hsz hE.size
            have hszz3 := Nat.le_trans hsz3 hE.size
            have HB3 := Lib.hid (below_step HB2.out hE)
            have HZ3 := Lib.hid (HZ2.out.below hE)
            clear hE q1 q2 q3 q4 qq
            generalize gbZ off (l.length : Int) xa xb = zz at *
            generalize gbR off (l.length : Int) xa xb = rr at *
            have hlr := HZ3.out.rs.len
            go_wp2_with (at_builtin; first
              | (refine wp_app1 (B := w.heap.size + 1) rfl rfl Tryz.underlying33 info_ints rfl HZ3.out.rs.outer rfl rfl rfl (by unfold maxLen; omega) (by omega) hszz ?_; intro v' w8 ho8 hg8 hfr8; have HZ4 := Lib.hid (HZ2.out.rowR HEE.out hsz hu1.out ho8 hg8 hfr8); have HB4 := Lib.hid (below_app HB3.out (own_mono HZ3.out.rs.outer (Nat.le_add_right _ 1)) hg8 (Nat.le_refl _)); have hsz8 := Nat.le_trans hszz3 hg8.size; clear ho8 hg8 hfr8)
              | (refine wp_app1 (B := w.heap.size + 1) rfl rfl Tryz.underlying24 info_int rfl HZ4.out.own rfl rfl rfl (by unfold maxLen; omega) (by omega) (by omega) ?_; intro v9 w9 ho hg hfr))
            have HZn := Lib.hid (HZ4.out.appU (OwnI.snoc ho) hg hfr)
            have HBn := Lib.hid (below_app HB4.out (own_mono HZ4.out.own (Nat.le_add_right _ 1)) hg (Nat.le_refl _))
            have hzn : w.heap.size + 3 ≤ w9.heap.size := Nat.le_trans hsz8 hg.size
            go_roundw
            case rel => exact ⟨j + 1, _, by omega, by go_num, by rw [HS.out, HW.out]; exact HZn, HBn, hzn⟩
            case measure => simp [intOf]; omega
          · -- not
            have hab := hgb.2.2 rfl
            obtain ⟨ja, rfl, hja, hea⟩ := elt_at (l := l) hab.1 (by have := HLL.out; omega)
            obtain ⟨bo, oo, xa, rfl, hbo, hxa, hca⟩ := (HRU.out.below HBB.out).int_at hja
            have exa := hea.symm.trans hxa
            injection exa with exa
            have ba := elt_bd (k := (ja : Int)) HBS.out
            rw [exa] at ba
            have hxor := bits_xor ba.1 ho.1 (by omega) (by omega)
            have HW := Lib.hid (show zStep (gbZ off) (gbR off) key off ⟨l, rows, ones⟩ ⟨2, (ja : Int), gb⟩ = ⟨l ++ [xorI xa off], rows, ones⟩ by unfold zStep; simp only [Int.reduceEq, if_false, if_true]; rw [exa])
            clear hgb hea hxa exa hab i1
            have hja0 : (0 : Int) ≤ (ja : Int) := Int.natCast_nonneg _
            have hja1 : (ja : Int) < (l.length : Int) := by omega
            go_wp2_with (at_builtin; refine wp_app1 (B := w.heap.size + 1) rfl rfl Tryz.underlying24 info_int rfl HZ2.out.own rfl rfl rfl (by unfold maxLen; omega) (by omega) hsz ?_; intro v' w9 ho hg hfr)
            have HZn := Lib.hid (HZ2.out.appU (OwnI.snoc ho) hg hfr)
            have HBn := Lib.hid (below_app HB2.out (own_mono HZ2.out.own (Nat.le_add_right _ 1)) hg (Nat.le_refl _))
            have hzn : w.heap.size + 3 ≤ w9.heap.size := Nat.le_trans hsz3 hg.size
            go_roundw
            case rel => exact ⟨j + 1, vs, by omega, by go_num, by rw [HS.out, HW.out]; exact HZn, HBn, hzn⟩
            case measure => simp [intOf]; omega
          · -- one
            have HW := Lib.hid (show zStep (gbZ off) (gbR off) key off ⟨l, rows, ones⟩ ⟨3, ga, gb⟩ = ⟨l ++ [digM [key, (l.length : Int), 13, 0]], rows, ones ++ [xorI (digM [key, (l.length : Int), 13, 0]) off]⟩ by unfold zStep; simp only [Int.reduceEq, if_false, if_true])
            have HC := Lib.hid (fun W => c_impl_zeroLabel (w := W) (k := key) (n := (l.length : Int)) (by omega) (by omega))
            generalize digM [key, (l.length : Int), 13, 0] = z at *
            clear hgb i1
            go_wp2_with fail
            refine (HC.out _).mono ?_
            rintro e w2 ⟨rfl, hb2⟩
            have HZ3 := Lib.hid (HZ2.out.below hb2)
            have HB3 := Lib.hid (below_step HB2.out hb2)
            have hsz8 := Nat.le_trans hsz3 hb2.size
            clear hb2 HC
            go_wp2_with (at_builtin; refine wp_app1 (B := w.heap.size + 1) rfl rfl Tryz.underlying24 info_int rfl HZ3.out.own rfl rfl rfl (by unfold maxLen; omega) (by omega) (by omega) ?_; intro v' w9 ho hg hfr)
            have HZn := Lib.hid (HZ3.out.appU (OwnI.snoc ho) hg hfr)
            have HBn := Lib.hid (below_app HB3.out (own_mono HZ3.out.own (Nat.le_add_right _ 1)) hg (Nat.le_refl _))
            have hzn : w.heap.size + 3 ≤ w9.heap.size := Nat.le_trans hsz8 hg.size
            go_roundw
            case rel => exact ⟨j + 1, vs, by omega, by go_num, by rw [HS.out, HW.out]; exact HZn, HBn, hzn⟩
            case measure => simp [intOf]; omega
        · obtain rfl : j = c.gs.length := by omega
          have HE := Lib.hid (show c.gs.take c.gs.length = c.gs from List.take_of_length_le (Nat.le_refl _))
          have HZ3 := Lib.hid (show ZP wr (w.heap.size + 1) _ (zrM (gbZ off) (gbR off) key off k c.gs).zs _ vs (zrM (gbZ off) (gbR off) key off k c.gs).rows by have := HZ.out; rw [HE.out] at this; exact this)
          clear HZ HE
          go_wp2
          go_ret2
          rw [show c.ins.toNat = k by have := HN.out; omega]
          exact ⟨_, _, vs, rfl, HZ3.out.mono (Nat.le_add_right _ 1), HB.out⟩
set_option maxRecDepth 100000 in
set_option maxHeartbeats 4000000 in
theorem c_zeros_halvedAnd {c : Cir} {gv ov : Value} {key off : Int} {q : Nat} {w : World} (h : CirIn w gv ov c) (hc : cirB c = true) (hk : 0 ≤ key ∧ key ≤ 1000000000) (ho : 0 ≤ off ∧ off ≤ 65535) (hq : w.cell? ⟨q, 0, none⟩ = some (.int .i64 off)) :
    Calls Tryz.prog 72 #[cirV c gv ov, .int .i64 key, .int .i64 off, .func (.func 126) #[] #[.pointer (some ⟨q, 0, none⟩)]] w (RetZ w (zrM (hgZ off) (hgR off) key off c.ins.toNat c.gs)) := by
  have hbd := cirB_bd hc
  have hgl : c.gs.length ≤ 300 := hbd.2.2.2.2.1
  have hins : 0 ≤ c.ins ∧ c.ins ≤ 40 := by unfold Cir.ins; omega
  have HGB := Lib.hid (cirB_gates hc)
  have HKB := Lib.hid (cirB_kinds hc)
  have HBD := Lib.hid (zr_bd (m := (hgR off 0 0 0).length) (F := hgZ off) (R := hgR off) ho (by first | exact fun w x y _ _ => gbZ_bd ho w x y | exact fun w x y hx _ => hgZ_bd ho hx w y) (by first | exact fun w x y _ _ => gbR_bd ho w x y | exact fun w x y hx _ => hgR_bd ho hx w y) key c.ins.toNat)
  have hi4 : 0 ≤ c.i0 ∧ c.i0 ≤ 20 ∧ 0 ≤ c.i1 ∧ c.i1 ≤ 20 := by omega
  have H := Lib.hid h
  have hql : q < w.heap.size := World.block_lt_of_cell? _ _ hq
  have QC := Lib.hid hq
  obtain ⟨hg, hoo⟩ := h
  obtain ⟨A, cg, rfl, hlg, hmg, hrg⟩ := hg
  obtain ⟨A', co, rfl, -⟩ := hoo
  have HRG := Lib.hid hrg
  unfold maxLen at hmg
  clear hc hbd hrg hq
  unfold cirV
  obtain ⟨w0, hw0⟩ : ∃ W, ((w.alloc (.cells #[.int .i64 c.i0, .int .i64 c.i1, .slice A c.gs.length cg, .slice A' c.outs.length co] 26)).alloc (.cells #[] 3)).alloc (.cells #[] 24) = W := ⟨_, rfl⟩
  have HZ0 : Hid (ZP w0 (w.heap.size + 1) (.slice (some ⟨w.heap.size + 1, 0, none⟩) 0 0) [] (.slice (some ⟨w.heap.size + 2, 0, none⟩) 0 0) [] []) := by
    rw [← hw0]
    have := nil_ZP (w := w.alloc (.cells #[.int .i64 c.i0, .int .i64 c.i1, .slice A c.gs.length cg, .slice A' c.outs.length co] 26)) (B := w.heap.size + 1) (by simp)
    simp only [World.size_alloc] at this
    exact this
  have HKC : Hid (Blk w0 w.heap.size 26 #[.int .i64 c.i0, .int .i64 c.i1, .slice A c.gs.length cg, .slice A' c.outs.length co]) := by rw [← hw0]; exact ((Blk.new _ _ _).alloc _).alloc _
  have HB : Hid (Below w.heap.size w w0) := by rw [← hw0]; exact (((Below.refl w.heap.size w).alloc (Nat.le_refl _) _).alloc (by simp) _).alloc (by simp; omega) _
  have hz0 : w.heap.size + 3 ≤ w0.heap.size := by rw [← hw0]; simp
  have x0 : w0.cell? ⟨w.heap.size, 0, none⟩ = some (.int .i64 c.i0) := HKC.out.cell 0
  have x1 : w0.cell? ⟨w.heap.size, 1, none⟩ = some (.int .i64 c.i1) := HKC.out.cell 1
  have x2 : w0.cell? ⟨w.heap.size, 2, none⟩ = some (.slice A c.gs.length cg) := HKC.out.cell 2
  have x3 : w0.cell? ⟨w.heap.size, 3, none⟩ = some (.slice A' c.outs.length co) := HKC.out.cell 3
  go_enter Tryz.func72, Tryz.ntmps72
  go_wp2_with fail
  clear hw0 x0 x1 x2 x3
  refine (c_C_inputs (H.out.below HB.out) hi4).mono ?_
  rintro e w1 ⟨rfl, hb1⟩
  replace HZ0 := Lib.hid (HZ0.out.below hb1)
  replace HKC := Lib.hid (HKC.out.step hb1)
  replace HB := Lib.hid (below_step HB.out hb1)
  have hz1 := Nat.le_trans hz0 hb1.size
  clear hb1 hz0
  obtain ⟨N, hN⟩ : ∃ N : Nat, c.ins = (N : Int) := ⟨c.ins.toNat, by omega⟩
  have hN2 : c.ins.toNat = N := by omega
  rw [hN2] at HBD ⊢
  have HN := Lib.hid hN
  go_wp2
  go_loopw [10, 22] (fun u i wr => ∃ k : Nat, k ≤ N ∧ i = .int .i64 k ∧ Hid (ZP wr (w.heap.size + 1) u (zIns key k) (.slice (some ⟨w.heap.size + 2, 0, none⟩) 0 0) [] []) ∧ Hid (Below w.heap.size w wr) ∧ w.heap.size + 3 ≤ wr.heap.size ∧ Hid (Blk wr w.heap.size 26 #[.int .i64 c.i0, .int .i64 c.i1, .slice A c.gs.length cg, .slice A' c.outs.length co])) (fun _ i _ => N - (intOf i).toNat)
  case atStart => exact ⟨0, Nat.zero_le _, rfl, HZ0, HB, hz1, HKC⟩
  case round =>
    obtain ⟨k, hk2, rfl, HZ, HB, hzr, HKC⟩ := hrel
    clear HZ0
    by_cases hlt : k < N
    · go_wp2_with fail
      refine (c_impl_zeroLabel (by omega) (by omega)).mono ?_
      rintro e w2 ⟨rfl, hb2⟩
      have hdb := digM_bd [key, (k : Int), 13, 0]
      have HS := Lib.hid (zIns_snoc key k)
      generalize digM [key, (k : Int), 13, 0] = z at *
      have HZ2 := Lib.hid (HZ.out.below hb2)
      have HB2 := Lib.hid (below_step HB.out hb2)
      have HKC2 := Lib.hid (HKC.out.step hb2)
      have hz2 := Nat.le_trans hzr hb2.size
      have hlen : (zIns key k).length ≤ 40 := by rw [zIns_length]; omega
      clear hb2 HZ HB HKC
      go_wp2_with (at_builtin; refine wp_app1 (B := w.heap.size + 1) rfl rfl Tryz.underlying24 info_int rfl HZ2.out.own rfl rfl rfl (by unfold maxLen; omega) (by omega) (Nat.le_trans (Nat.le_add_right _ 2) hz2) ?_; intro v' w9 ho hg hfr)
      have HZn := Lib.hid (HZ2.out.appU (OwnI.snoc ho) hg hfr)
      have HBn := Lib.hid (below_app HB2.out (own_mono HZ2.out.own (Nat.le_add_right _ 1)) hg (Nat.le_refl _))
      have HKn := Lib.hid (HKC2.out.grown hg (fun e => by have := HZ2.out.own.ge _ e.symm; omega))
      have hzn := Nat.le_trans hz2 hg.size
      go_roundw
      case rel => exact ⟨k + 1, by omega, by go_num, by rw [HS.out]; exact HZn, HBn, hzn, HKn⟩
      case measure => simp [intOf]; omega
    · obtain rfl : k = N := by omega
      obtain ⟨wa, rfl⟩ : ∃ W, W = wr := ⟨wr, rfl⟩
      have x2 : wa.cell? ⟨w.heap.size, 2, none⟩ = some (.slice A c.gs.length cg) := HKC.out.cell 2
      have HZ1 := HZ
      have HB1 := HB
      clear HKC HZ HB
      go_wp2
      clear x2
      go_loopw [10, 11, 35] (fun u rv i wr => ∃ (j : Nat) (vs : List Value), j ≤ c.gs.length ∧ i = .int .i64 j ∧ Hid (ZP wr (w.heap.size + 1) u (zrM (hgZ off) (hgR off) key off k (c.gs.take j)).zs rv vs (zrM (hgZ off) (hgR off) key off k (c.gs.take j)).rows) ∧ Hid (Below w.heap.size w wr) ∧ w.heap.size + 3 ≤ wr.heap.size) (fun _ _ i _ => c.gs.length - (intOf i).toNat)
      case atStart => exact ⟨0, [], Nat.zero_le _, rfl, HZ1, HB1, hzr⟩
      case round =>
        obtain ⟨j, vs, hj, rfl, HZ, HB, hzw⟩ := hrel
        clear HZ1 HB1
        by_cases hjl : j < c.gs.length
        · obtain ⟨b, o, g, rfl, hbl, hgk, c0, c1', c2'⟩ := (HRG.out.below HB.out).gate_at hjl
          have hgb := gate_ab (gatesB_at _ _ j g HGB.out hgk)
          obtain ⟨i1, i2, i3⟩ := zr_inv (F := hgZ off) (R := hgR off) (key := key) (off := off) (n := k) HKB.out j (by omega)
          have HS := Lib.hid (zr_snoc (F := hgZ off) (R := hgR off) (key := key) (off := off) (n := k) hgk)
          obtain ⟨hbs, hbr, -⟩ := HBD.out (c.gs.take j)
          have hcl1 := cnt_le 1 c.gs j
          have hcb1 := cnt_bd 1 c.gs
          generalize hs : zrM (hgZ off) (hgR off) key off k (c.gs.take j) = s at *
          clear hs hgk
          obtain ⟨gk, ga, gb⟩ := g
          obtain ⟨l, rows, ones⟩ := s
          simp only at c0 c1' c2' hgb i1 i2 i3 hbs hbr HZ
          obtain ⟨Au, cu, rfl, hlu, hmu, hru⟩ := own_form HZ.out.own
          unfold maxLen at hmu
          have hll : (l.length : Int) = k + j := by omega
          have hl340 : l.length ≤ 340 := by have := HN.out; omega
          have hrl : rows.length ≤ 300 := by omega
          have HLL := Lib.hid hll
          have HBS := Lib.hid hbs
          have HRU := Lib.hid hru
          have HNN := HN.out
          rw [HNN] at hgb
          obtain ⟨wb, hwb⟩ : ∃ W, wr.alloc (.cells #[.int .i64 gk, .int .i64 ga, .int .i64 gb] 117) = W := ⟨_, rfl⟩
          have hbb : Below wr.heap.size wr wb := by rw [← hwb]; exact (Below.refl _ _).alloc (Nat.le_refl _) _
          have HBX : Hid (Blk wb wr.heap.size 117 #[.int .i64 gk, .int .i64 ga, .int .i64 gb]) := by rw [← hwb]; exact Blk.new _ _ _
          have y0 : wb.cell? ⟨wr.heap.size, 0, none⟩ = some (.int .i64 gk) := HBX.out.cell 0
          have y1 : wb.cell? ⟨wr.heap.size, 1, none⟩ = some (.int .i64 ga) := HBX.out.cell 1
          have y2 : wb.cell? ⟨wr.heap.size, 2, none⟩ = some (.int .i64 gb) := HBX.out.cell 2
          have HBB := Lib.hid hbb
          have HB2 := Lib.hid (below_step HB.out hbb)
          have HZ2 := Lib.hid (HZ.out.below hbb)
          have hsz3 : w.heap.size + 3 ≤ wb.heap.size := Nat.le_trans hzw HBB.out.size
          have hsz : w.heap.size + 1 ≤ wb.heap.size := by omega
          clear hbb hll hbs hru HB HZ hlu hmu HNN hcl1 hcb1 i2 i3 hbr hlt hN hN2
          have hkk : gk = 0 ∨ gk = 1 ∨ gk = 2 ∨ gk = 3 := by omega
          rcases hkk with rfl | rfl | rfl | rfl
          · -- exclusive-or
            have hab := hgb.2.1 (Or.inl rfl)
            obtain ⟨ja, rfl, hja, hea⟩ := elt_at (l := l) hab.1 (by have := HLL.out; omega)
            obtain ⟨jb, rfl, hjb, heb⟩ := elt_at (l := l) hab.2.2.1 (by have := HLL.out; omega)
            obtain ⟨bo, oo, xa, rfl, hbo, hxa, hca⟩ := (HRU.out.below HBB.out).int_at hja
            obtain ⟨bo2, oo2, xb, e2, hbo2, hxb, hcb⟩ := (HRU.out.below HBB.out).int_at hjb
            injection e2 with e2; injection e2 with e2 e2'; subst e2 e2'
            have exa := hea.symm.trans hxa
            have exb := heb.symm.trans hxb
            injection exa with exa
            injection exb with exb
            have ba := elt_bd (k := (ja : Int)) HBS.out
            have bb := elt_bd (k := (jb : Int)) HBS.out
            rw [exa] at ba
            rw [exb] at bb
            have hxor := bits_xor ba.1 bb.1 (by omega) (by omega)
            have HW := Lib.hid (show zStep (hgZ off) (hgR off) key off ⟨l, rows, ones⟩ ⟨0, (ja : Int), (jb : Int)⟩ = ⟨l ++ [xorI xa xb], rows, ones⟩ by unfold zStep; simp only [if_true]; rw [exa, exb])
            clear hgb hea heb hxa hxb exa exb hab i1
            have hja0 : (0 : Int) ≤ (ja : Int) := Int.natCast_nonneg _
            have hja1 : (ja : Int) < (l.length : Int) := by omega
            have hjb0 : (0 : Int) ≤ (jb : Int) := Int.natCast_nonneg _
            have hjb1 : (jb : Int) < (l.length : Int) := by omega
            go_wp2_with fail
            go_region_held3 (fun w' => w'.cell? ⟨wr.heap.size, 1, none⟩ = some (.int .i64 (ja : Int)) ∧ w'.cell? ⟨wr.heap.size, 2, none⟩ = some (.int .i64 (jb : Int)) ∧ w'.cell? ⟨bo, oo + ja, none⟩ = some (.int .i64 xa) ∧ w'.cell? ⟨bo, oo + jb, none⟩ = some (.int .i64 xb)) (exact ⟨y1, y2, hca, hcb⟩) (fail)
            have HZ3 := Lib.hid (HZ2.out.below ((Below.refl wb.heap.size wb).drew))
            go_wp2_with (at_builtin; refine wp_app1 (B := w.heap.size + 1) rfl rfl Tryz.underlying24 info_int rfl HZ3.out.own rfl rfl rfl (by unfold maxLen; omega) (by omega) hsz ?_; intro v' w9 ho hg hfr)
            have HZn := Lib.hid (HZ3.out.appU (OwnI.snoc ho) hg hfr)
            have HBn := Lib.hid (below_app HB2.out.drew (own_mono HZ3.out.own (Nat.le_add_right _ 1)) hg (Nat.le_refl _))
            have hzn : w.heap.size + 3 ≤ w9.heap.size := Nat.le_trans hsz3 hg.size
            go_roundw
            case rel => exact ⟨j + 1, vs, by omega, by go_num, by rw [HS.out, HW.out]; exact HZn, HBn, hzn⟩
            case measure => simp [intOf]; omega
          · -- and
            have hab := hgb.2.1 (Or.inr rfl)
            obtain ⟨ja, rfl, hja, hea⟩ := elt_at (l := l) hab.1 (by have := HLL.out; omega)
            obtain ⟨jb, rfl, hjb, heb⟩ := elt_at (l := l) hab.2.2.1 (by have := HLL.out; omega)
            obtain ⟨bo, oo, xa, rfl, hbo, hxa, hca⟩ := (HRU.out.below HBB.out).int_at hja
            obtain ⟨bo2, oo2, xb, e2, hbo2, hxb, hcb⟩ := (HRU.out.below HBB.out).int_at hjb
            injection e2 with e2; injection e2 with e2 e2'; subst e2 e2'
            have exa := hea.symm.trans hxa
            have exb := heb.symm.trans hxb
            injection exa with exa
            injection exb with exb
            have ba := elt_bd (k := (ja : Int)) HBS.out
            have bb := elt_bd (k := (jb : Int)) HBS.out
            rw [exa] at ba
            rw [exb] at bb
            have HW := Lib.hid (show zStep (hgZ off) (hgR off) key off ⟨l, rows, ones⟩ ⟨1, (ja : Int), (jb : Int)⟩ = ⟨l ++ [hgZ off (l.length : Int) xa xb], rows ++ [hgR off (l.length : Int) xa xb], ones⟩ by unfold zStep; simp only [Int.reduceEq, if_false]; rw [exa, exb])
            have qq := belowCell ((HB2.out.cell (p := ⟨q, 0, none⟩) hql).trans QC.out)
            have q1 := belowCell y1
            have q2 := belowCell y2
            have q3 := belowCell hca
            have q4 := belowCell hcb
            clear hgb hea heb hxa hxb exa exb hab i1 y1 y2 hca hcb
            have hja0 : (0 : Int) ≤ (ja : Int) := Int.natCast_nonneg _
            have hja1 : (ja : Int) < (l.length : Int) := by omega
            have hjb0 : (0 : Int) ≤ (jb : Int) := Int.natCast_nonneg _
            have hjb1 : (jb : Int) < (l.length : Int) := by omega
            go_wp2_with fail
            go_region_held3 (fun w' => Below wb.heap.size wb w')
              (first | (refine below_step ?_ HD.out; assumption) | (exact (Below.refl _ _).drew))
              (first
                | (go_at_call 126; refine (c_halvedAnd1 (qq _ (by assumption)) ho (by omega) ba bb).mono ?_; rintro e wz ⟨u1, rfl, hu1, hb⟩; obtain ⟨A1, k1, rfl, -⟩ := hu1.ints; replace hu1 := Lib.hid (hu1.mono (Below.size (B := wb.heap.size) (w := wb) (by assumption))); have HD := Lib.hid hb))
            have hE : Below wb.heap.size wb wz := by assumption
            have HEE := Lib.hid hE
            have hszz := Nat.le_trans hsz hE.size
            have hszz3 := Nat.le_trans hsz3 hE.size
            have HB3 := Lib.hid (below_step HB2.out hE)
            have HZ3 := Lib.hid (HZ2.out.below hE)
            clear hE q1 q2 q3 q4 qq
            generalize hgZ off (l.length : Int) xa xb = zz at *
            generalize hgR off (l.length : Int) xa xb = rr at *
            have hlr := HZ3.out.rs.len
            go_wp2_with (at_builtin; first
              | (refine wp_app1 (B := w.heap.size + 1) rfl rfl Tryz.underlying33 info_ints rfl HZ3.out.rs.outer rfl rfl rfl (by unfold maxLen; omega) (by omega) hszz ?_; intro v' w8 ho8 hg8 hfr8; have HZ4 := Lib.hid (HZ2.out.rowR HEE.out hsz hu1.out ho8 hg8 hfr8); have HB4 := Lib.hid (below_app HB3.out (own_mono HZ3.out.rs.outer (Nat.le_add_right _ 1)) hg8 (Nat.le_refl _)); have hsz8 := Nat.le_trans hszz3 hg8.size; clear ho8 hg8 hfr8)
              | (refine wp_app1 (B := w.heap.size + 1) rfl rfl Tryz.underlying24 info_int rfl HZ4.out.own rfl rfl rfl (by unfold maxLen; omega) (by omega) (by omega) ?_; intro v9 w9 ho hg hfr))
            have HZn := Lib.hid (HZ4.out.appU (OwnI.snoc ho) hg hfr)
            have HBn := Lib.hid (below_app HB4.out (own_mono HZ4.out.own (Nat.le_add_right _ 1)) hg (Nat.le_refl _))
            have hzn : w.heap.size + 3 ≤ w9.heap.size := Nat.le_trans hsz8 hg.size
            go_roundw
            case rel => exact ⟨j + 1, _, by omega, by go_num, by rw [HS.out, HW.out]; exact HZn, HBn, hzn⟩
            case measure => simp [intOf]; omega
          · -- not
            have hab := hgb.2.2 rfl
            obtain ⟨ja, rfl, hja, hea⟩ := elt_at (l := l) hab.1 (by have := HLL.out; omega)
            obtain ⟨bo, oo, xa, rfl, hbo, hxa, hca⟩ := (HRU.out.below HBB.out).int_at hja
            have exa := hea.symm.trans hxa
            injection exa with exa
            have ba := elt_bd (k := (ja : Int)) HBS.out
            rw [exa] at ba
            have hxor := bits_xor ba.1 ho.1 (by omega) (by omega)
            have HW := Lib.hid (show zStep (hgZ off) (hgR off) key off ⟨l, rows, ones⟩ ⟨2, (ja : Int), gb⟩ = ⟨l ++ [xorI xa off], rows, ones⟩ by unfold zStep; simp only [Int.reduceEq, if_false, if_true]; rw [exa])
            clear hgb hea hxa exa hab i1
            have hja0 : (0 : Int) ≤ (ja : Int) := Int.natCast_nonneg _
            have hja1 : (ja : Int) < (l.length : Int) := by omega
            go_wp2_with (at_builtin; refine wp_app1 (B := w.heap.size + 1) rfl rfl Tryz.underlying24 info_int rfl HZ2.out.own rfl rfl rfl (by unfold maxLen; omega) (by omega) hsz ?_; intro v' w9 ho hg hfr)
            have HZn := Lib.hid (HZ2.out.appU (OwnI.snoc ho) hg hfr)
            have HBn := Lib.hid (below_app HB2.out (own_mono HZ2.out.own (Nat.le_add_right _ 1)) hg (Nat.le_refl _))
            have hzn : w.heap.size + 3 ≤ w9.heap.size := Nat.le_trans hsz3 hg.size
            go_roundw
            case rel => exact ⟨j + 1, vs, by omega, by go_num, by rw [HS.out, HW.out]; exact HZn, HBn, hzn⟩
            case measure => simp [intOf]; omega
          · -- one
            have HW := Lib.hid (show zStep (hgZ off) (hgR off) key off ⟨l, rows, ones⟩ ⟨3, ga, gb⟩ = ⟨l ++ [digM [key, (l.length : Int), 13, 0]], rows, ones ++ [xorI (digM [key, (l.length : Int), 13, 0]) off]⟩ by unfold zStep; simp only [Int.reduceEq, if_false, if_true])
            have HC := Lib.hid (fun W => c_impl_zeroLabel (w := W) (k := key) (n := (l.length : Int)) (by omega) (by omega))
            generalize digM [key, (l.length : Int), 13, 0] = z at *
            clear hgb i1
            go_wp2_with fail
            refine (HC.out _).mono ?_
            rintro e w2 ⟨rfl, hb2⟩
            have HZ3 := Lib.hid (HZ2.out.below hb2)
            have HB3 := Lib.hid (below_step HB2.out hb2)
            have hsz8 := Nat.le_trans hsz3 hb2.size
            clear hb2 HC
            go_wp2_with (at_builtin; refine wp_app1 (B := w.heap.size + 1) rfl rfl Tryz.underlying24 info_int rfl HZ3.out.own rfl rfl rfl (by unfold maxLen; omega) (by omega) (by omega) ?_; intro v' w9 ho hg hfr)
            have HZn := Lib.hid (HZ3.out.appU (OwnI.snoc ho) hg hfr)
            have HBn := Lib.hid (below_app HB3.out (own_mono HZ3.out.own (Nat.le_add_right _ 1)) hg (Nat.le_refl _))
            have hzn : w.heap.size + 3 ≤ w9.heap.size := Nat.le_trans hsz8 hg.size
            go_roundw
            case rel => exact ⟨j + 1, vs, by omega, by go_num, by rw [HS.out, HW.out]; exact HZn, HBn, hzn⟩
            case measure => simp [intOf]; omega
        · obtain rfl : j = c.gs.length := by omega
          have HE := Lib.hid (show c.gs.take c.gs.length = c.gs from List.take_of_length_le (Nat.le_refl _))
          have HZ3 := Lib.hid (show ZP wr (w.heap.size + 1) _ (zrM (hgZ off) (hgR off) key off k c.gs).zs _ vs (zrM (hgZ off) (hgR off) key off k c.gs).rows by have := HZ.out; rw [HE.out] at this; exact this)
          clear HZ HE
          go_wp2
          go_ret2
          rw [show c.ins.toNat = k by have := HN.out; omega]
          exact ⟨_, _, vs, rfl, HZ3.out.mono (Nat.le_add_right _ 1), HB.out⟩
end Go.Proofs.YtejeppjmlgfiaaaGreat
