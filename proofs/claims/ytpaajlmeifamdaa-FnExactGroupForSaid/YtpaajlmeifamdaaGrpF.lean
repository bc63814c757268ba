/- Contracts of the exported functions on groups. No condition. -/
import Derived.Test.YtpaajlmeifamdaaGrp2
namespace Go.Proofs.Ytpaajlmeifamdaa
open Go.RowKit
set_option linter.unusedVariables false

theorem one_pow_emod (P : Int) (k : Nat) (hP : 2 ≤ P) : (1 : Int) ^ k % P = 1 := by
  rw [Int.one_pow]; exact Int.emod_eq_of_lt (by omega) (by omega)
theorem has_one {P Q : Int} (hP : 3 ≤ P) : hasB P Q 1 = true := by
  have h := one_pow_emod P Q.toNat (by omega)
  simp [hasB, powM, h, inB]; omega
theorem asked_one {P Q G a : Int} : askedB P Q G a 1 = inGB P Q G a := by
  unfold askedB inGB
  rcases h : grpB P Q G with _ | _
  · simp
  · rw [has_one (grpB_bd h).1]; simp
theorem inGB_bd {P Q G a : Int} (h : inGB P Q G a = true) : 3 ≤ P ∧ P ≤ 2003 ∧ 2 ≤ Q ∧ Q ≤ P - 1 ∧ 2 ≤ G ∧ G ≤ P - 1 ∧ 1 ≤ a ∧ a ≤ P - 1 := by
  simp only [inGB, Bool.and_eq_true] at h
  have h1 := grpB_bd h.1
  have h2 := h.2
  simp only [hasB, Bool.and_eq_true] at h2
  have h3 := inB_bd h2.1
  omega
noncomputable def elemForM (P Q G n : Int) : Option Int := if grpB P Q G && inB n 0 1000000000 then some (gpowM P Q G n) else none
noncomputable def productM (P Q G a b : Int) : Option Int := if inGB P Q G a && inGB P Q G b then some (a * b % P) else none
noncomputable def powerInM (P Q G a n : Int) : Option Int := if inGB P Q G a && inB n (-1000000) 1000000 then some (gpowM P Q a n) else none
noncomputable def inverseInM (P Q G a : Int) : Option Int := if inGB P Q G a then some (gpowM P Q a (-1)) else none
noncomputable def orderM (P Q G a : Int) : Option Int := if inGB P Q G a then some (if a = 1 then 1 else Q) else none
theorem b2 {w w1 w2 : World} {o : Obj} (h1 : Below (w.alloc o).heap.size (w.alloc o) w1) (h2 : Below w1.heap.size w1 w2) : Below w.heap.size w w2 := lit_trans (h1.trans (h2.mono h1.size))
theorem b3 {w w1 w2 w3 : World} {o : Obj} (h1 : Below (w.alloc o).heap.size (w.alloc o) w1) (h2 : Below w1.heap.size w1 w2) (h3 : Below w2.heap.size w2 w3) : Below w.heap.size w w3 :=
  b2 h1 (h2.trans (h3.mono h2.size))
/-- The struct's box behind a call. -/
theorem box_cell {w w1 : World} {o : Obj} (h1 : Below (w.alloc o).heap.size (w.alloc o) w1) (j : Nat) : w1.cell? ⟨w.heap.size, j, none⟩ = (w.alloc o).cell? ⟨w.heap.size, j, none⟩ := h1.cell (p := ⟨w.heap.size, j, none⟩) (by simp)
theorem box_cell2 {w w1 w2 : World} {o : Obj} (h1 : Below (w.alloc o).heap.size (w.alloc o) w1) (h2 : Below w1.heap.size w1 w2) (j : Nat) : w2.cell? ⟨w.heap.size, j, none⟩ = (w.alloc o).cell? ⟨w.heap.size, j, none⟩ :=
  box_cell (h1.trans (h2.mono h1.size)) j

theorem c_impl_IsElement {P Q G a : Int} {w : World} : Calls Try.prog 25 #[.agg #[.int .i64 P, .int .i64 Q, .int .i64 G], .int .i64 a] w fun e w' => e = .returned (.tuple #[.bool (inGB P Q G a), .bool (grpB P Q G)]) ∧ Below w.heap.size w w' := by
  rcases h1 : grpB P Q G with _ | _
  · go_enter Try.func25, Try.ntmps25
    go_wp2_with (go_at_call 17; refine (c_impl_IsGroup).mono ?_; rintro e w1 ⟨rfl, hb1⟩)
    go_ret2; exact ⟨by simp [inGB, h1], lit_trans hb1⟩
  · have hb := grpB_bd h1
    go_enter Try.func25, Try.ntmps25
    go_wp2_with fail
    refine c_impl_IsGroup.mono ?_
    rintro e w1 ⟨rfl, hb1⟩
    have hcell := box_cell hb1
    go_wp2_with (go_at_call 53; refine (c_G_has (by omega)).mono ?_; rintro e w2 ⟨rfl, hb2⟩)
    go_ret2; exact ⟨by simp [inGB, h1], b2 hb1 hb2⟩
theorem c_impl_ElementFor {P Q G n : Int} {w : World} : Calls Try.prog 27 #[.agg #[.int .i64 P, .int .i64 Q, .int .i64 G], .int .i64 n] w fun e w' => e = .returned (.tuple #[.int .i64 (oV (elemForM P Q G n)), .bool (oB (elemForM P Q G n))]) ∧ Below w.heap.size w w' := by
  rcases h1 : grpB P Q G with _ | _
  · have HM := Lib.hid (show elemForM P Q G n = none by simp [elemForM, h1])
    go_enter Try.func27, Try.ntmps27
    go_wp2_with (go_at_call 17; refine (c_impl_IsGroup).mono ?_; rintro e w1 ⟨rfl, hb1⟩)
    go_ret2; exact ⟨by rw [HM.out]; rfl, lit_trans hb1⟩
  · have hb := grpB_bd h1
    rcases h2 : inB n 0 1000000000 with _ | _
    · have HM := Lib.hid (show elemForM P Q G n = none by simp [elemForM, h2])
      go_enter Try.func27, Try.ntmps27
      go_wp2_with (first | (go_at_call 17; refine (c_impl_IsGroup).mono ?_; rintro e w1 ⟨rfl, hb1⟩) | (go_at_call 44; refine (c_impl_within).mono ?_; rintro e w' ⟨rfl, rfl⟩))
      go_ret2; exact ⟨by rw [HM.out]; rfl, lit_trans hb1⟩
    · have hb2 := inB_bd h2
      have HM := Lib.hid (show elemForM P Q G n = some (gpowM P Q G n) by simp [elemForM, h1, h2])
      go_enter Try.func27, Try.ntmps27
      go_wp2_with fail
      refine c_impl_IsGroup.mono ?_
      rintro e w1 ⟨rfl, hb1⟩
      have hcell := box_cell hb1
      go_wp2_with (first | (go_at_call 44; refine (c_impl_within).mono ?_; rintro e w' ⟨rfl, rfl⟩) | (go_at_call 55; refine (c_G_power (by omega) (by omega) (by omega)).mono ?_; rintro e w2 ⟨rfl, hb2⟩))
      go_ret2; exact ⟨by rw [HM.out]; rfl, b2 hb1 hb2⟩

theorem c_spec_IsElement {P Q G a : Int} {w : World} : Calls Try.prog 24 #[.agg #[.int .i64 P, .int .i64 Q, .int .i64 G], .int .i64 a] w fun e w' => e = .returned (.tuple #[.bool (inGB P Q G a), .bool (grpB P Q G)]) ∧ Below w.heap.size w w' := by
  rcases h1 : grpB P Q G with _ | _
  · go_enter Try.func24, Try.ntmps24
    go_wp2_with (go_at_call 41; refine (c_spec_grGood).mono ?_; rintro e w1 ⟨rfl, hb1⟩)
    go_ret2; exact ⟨by simp [inGB, h1], lit_trans hb1⟩
  · have hb := grpB_bd h1
    go_enter Try.func24, Try.ntmps24
    go_wp2_with fail
    refine c_spec_grGood.mono ?_
    rintro e w1 ⟨rfl, hb1⟩
    have hcell := box_cell hb1
    go_wp2_with (go_at_call 52; refine (c_spec_grHas (by omega)).mono ?_; rintro e w2 ⟨rfl, hb2⟩)
    go_ret2; exact ⟨by simp [inGB, h1], b2 hb1 hb2⟩
theorem c_spec_ElementFor {P Q G n : Int} {w : World} : Calls Try.prog 26 #[.agg #[.int .i64 P, .int .i64 Q, .int .i64 G], .int .i64 n] w fun e w' => e = .returned (.tuple #[.int .i64 (oV (elemForM P Q G n)), .bool (oB (elemForM P Q G n))]) ∧ Below w.heap.size w w' := by
  rcases h1 : grpB P Q G with _ | _
  · have HM := Lib.hid (show elemForM P Q G n = none by simp [elemForM, h1])
    go_enter Try.func26, Try.ntmps26
    go_wp2_with (go_at_call 41; refine (c_spec_grGood).mono ?_; rintro e w1 ⟨rfl, hb1⟩)
    go_ret2; exact ⟨by rw [HM.out]; rfl, lit_trans hb1⟩
  · have hb := grpB_bd h1
    rcases h2 : inB n 0 1000000000 with _ | _
    · have HM := Lib.hid (show elemForM P Q G n = none by simp [elemForM, h2])
      go_enter Try.func26, Try.ntmps26
      go_wp2_with (first | (go_at_call 41; refine (c_spec_grGood).mono ?_; rintro e w1 ⟨rfl, hb1⟩) | (go_at_call 47; refine (c_spec_l1In).mono ?_; rintro e w' ⟨rfl, rfl⟩))
      go_ret2; exact ⟨by rw [HM.out]; rfl, lit_trans hb1⟩
    · have hb2 := inB_bd h2
      have HM := Lib.hid (show elemForM P Q G n = some (gpowM P Q G n) by simp [elemForM, h1, h2])
      go_enter Try.func26, Try.ntmps26
      go_wp2_with fail
      refine c_spec_grGood.mono ?_
      rintro e w1 ⟨rfl, hb1⟩
      have hcell := box_cell hb1
      go_wp2_with (first | (go_at_call 47; refine (c_spec_l1In).mono ?_; rintro e w' ⟨rfl, rfl⟩) | (go_at_call 54; refine (c_spec_grTo (by omega) (by omega) (by omega)).mono ?_; rintro e w2 ⟨rfl, hb2⟩))
      go_ret2; exact ⟨by rw [HM.out]; rfl, b2 hb1 hb2⟩

theorem c_impl_PowerIn {P Q G a n : Int} {w : World} : Calls Try.prog 31 #[.agg #[.int .i64 P, .int .i64 Q, .int .i64 G], .int .i64 a, .int .i64 n] w fun e w' => e = .returned (.tuple #[.int .i64 (oV (powerInM P Q G a n)), .bool (oB (powerInM P Q G a n))]) ∧ Below w.heap.size w w' := by
  rcases h1 : inGB P Q G a with _ | _
  · have HM := Lib.hid (show powerInM P Q G a n = none by simp [powerInM, h1])
    go_enter Try.func31, Try.ntmps31
    go_wp2_with fail
    refine (c_impl_inGroup).mono ?_
    rintro e w1 ⟨rfl, hb1⟩
    rw [h1]
    go_wp2
    go_ret2; exact ⟨by rw [HM.out]; rfl, lit_trans hb1⟩
  · have hb := inGB_bd h1

    rcases h2 : inB n (-1000000) 1000000 with _ | _
    · have HM := Lib.hid (show powerInM P Q G a n = none by simp [powerInM, h2])
      go_enter Try.func31, Try.ntmps31
      go_wp2_with fail
      refine (c_impl_inGroup).mono ?_
      rintro e w1 ⟨rfl, hb1⟩
      rw [h1]
      have hcell := box_cell hb1
      go_wp2_with (go_at_call 44; refine (c_impl_within).mono ?_; rintro e w' ⟨rfl, rfl⟩)
      go_ret2; exact ⟨by rw [HM.out]; rfl, lit_trans hb1⟩
    · have hb2 := inB_bd h2
      have HM := Lib.hid (show powerInM P Q G a n = some (gpowM P Q a n) by simp [powerInM, h1, h2])
      go_enter Try.func31, Try.ntmps31
      go_wp2_with fail
      refine (c_impl_inGroup).mono ?_
      rintro e w1 ⟨rfl, hb1⟩
      rw [h1]
      have hcell := box_cell hb1
      go_wp2_with (first | (go_at_call 44; refine (c_impl_within).mono ?_; rintro e w' ⟨rfl, rfl⟩) | (go_at_call 55; refine (c_G_power (by omega) (by omega) (by omega)).mono ?_; rintro e w2 ⟨rfl, hb2⟩))
      go_ret2; exact ⟨by rw [HM.out]; rfl, b2 hb1 hb2⟩


theorem c_spec_PowerIn {P Q G a n : Int} {w : World} : Calls Try.prog 30 #[.agg #[.int .i64 P, .int .i64 Q, .int .i64 G], .int .i64 a, .int .i64 n] w fun e w' => e = .returned (.tuple #[.int .i64 (oV (powerInM P Q G a n)), .bool (oB (powerInM P Q G a n))]) ∧ Below w.heap.size w w' := by
  rcases h1 : inGB P Q G a with _ | _
  · have HM := Lib.hid (show powerInM P Q G a n = none by simp [powerInM, h1])
    go_enter Try.func30, Try.ntmps30
    go_wp2_with fail
    refine (c_spec_grAsked (b := 1)).mono ?_
    rintro e w1 ⟨rfl, hb1⟩
    rw [asked_one]
    rw [h1]
    go_wp2
    go_ret2; exact ⟨by rw [HM.out]; rfl, lit_trans hb1⟩
  · have hb := inGB_bd h1

    rcases h2 : inB n (-1000000) 1000000 with _ | _
    · have HM := Lib.hid (show powerInM P Q G a n = none by simp [powerInM, h2])
      go_enter Try.func30, Try.ntmps30
      go_wp2_with fail
      refine (c_spec_grAsked (b := 1)).mono ?_
      rintro e w1 ⟨rfl, hb1⟩
      rw [asked_one]
      rw [h1]
      have hcell := box_cell hb1
      go_wp2_with (go_at_call 47; refine (c_spec_l1In).mono ?_; rintro e w' ⟨rfl, rfl⟩)
      go_ret2; exact ⟨by rw [HM.out]; rfl, lit_trans hb1⟩
    · have hb2 := inB_bd h2
      have HM := Lib.hid (show powerInM P Q G a n = some (gpowM P Q a n) by simp [powerInM, h1, h2])
      go_enter Try.func30, Try.ntmps30
      go_wp2_with fail
      refine (c_spec_grAsked (b := 1)).mono ?_
      rintro e w1 ⟨rfl, hb1⟩
      rw [asked_one]
      rw [h1]
      have hcell := box_cell hb1
      go_wp2_with (first | (go_at_call 47; refine (c_spec_l1In).mono ?_; rintro e w' ⟨rfl, rfl⟩) | (go_at_call 54; refine (c_spec_grTo (by omega) (by omega) (by omega)).mono ?_; rintro e w2 ⟨rfl, hb2⟩))
      go_ret2; exact ⟨by rw [HM.out]; rfl, b2 hb1 hb2⟩


theorem c_impl_InverseIn {P Q G a : Int} {w : World} : Calls Try.prog 33 #[.agg #[.int .i64 P, .int .i64 Q, .int .i64 G], .int .i64 a] w fun e w' => e = .returned (.tuple #[.int .i64 (oV (inverseInM P Q G a)), .bool (oB (inverseInM P Q G a))]) ∧ Below w.heap.size w w' := by
  rcases h1 : inGB P Q G a with _ | _
  · have HM := Lib.hid (show inverseInM P Q G a = none by simp [inverseInM, h1])
    go_enter Try.func33, Try.ntmps33
    go_wp2_with fail
    refine (c_impl_inGroup).mono ?_
    rintro e w1 ⟨rfl, hb1⟩
    rw [h1]
    go_wp2
    go_ret2; exact ⟨by rw [HM.out]; rfl, lit_trans hb1⟩
  · have hb := inGB_bd h1

    have HM := Lib.hid (show inverseInM P Q G a = some (gpowM P Q a (-1)) by simp [inverseInM, h1])
    go_enter Try.func33, Try.ntmps33
    go_wp2_with fail
    refine (c_impl_inGroup).mono ?_
    rintro e w1 ⟨rfl, hb1⟩
    rw [h1]
    have hcell := box_cell hb1
    go_wp2_with (go_at_call 58; refine (c_G_inverse (by omega) (by omega)).mono ?_; rintro e w2 ⟨rfl, hb2⟩)
    go_ret2; exact ⟨by rw [HM.out]; rfl, b2 hb1 hb2⟩


theorem c_spec_InverseIn {P Q G a : Int} {w : World} : Calls Try.prog 32 #[.agg #[.int .i64 P, .int .i64 Q, .int .i64 G], .int .i64 a] w fun e w' => e = .returned (.tuple #[.int .i64 (oV (inverseInM P Q G a)), .bool (oB (inverseInM P Q G a))]) ∧ Below w.heap.size w w' := by
  rcases h1 : inGB P Q G a with _ | _
  · have HM := Lib.hid (show inverseInM P Q G a = none by simp [inverseInM, h1])
    go_enter Try.func32, Try.ntmps32
    go_wp2_with fail
    refine (c_spec_grAsked (b := 1)).mono ?_
    rintro e w1 ⟨rfl, hb1⟩
    rw [asked_one]
    rw [h1]
    go_wp2
    go_ret2; exact ⟨by rw [HM.out]; rfl, lit_trans hb1⟩
  · have hb := inGB_bd h1

    have HM := Lib.hid (show inverseInM P Q G a = some (gpowM P Q a (-1)) by simp [inverseInM, h1])
    go_enter Try.func32, Try.ntmps32
    go_wp2_with fail
    refine (c_spec_grAsked (b := 1)).mono ?_
    rintro e w1 ⟨rfl, hb1⟩
    rw [asked_one]
    rw [h1]
    have hcell := box_cell hb1
    go_wp2_with (go_at_call 54; refine (c_spec_grTo (by omega) (by omega) (by omega)).mono ?_; rintro e w2 ⟨rfl, hb2⟩)
    go_ret2; exact ⟨by rw [HM.out]; rfl, b2 hb1 hb2⟩


theorem c_impl_OrderOf {P Q G a : Int} {w : World} : Calls Try.prog 35 #[.agg #[.int .i64 P, .int .i64 Q, .int .i64 G], .int .i64 a] w fun e w' => e = .returned (.tuple #[.int .i64 (oV (orderM P Q G a)), .bool (oB (orderM P Q G a))]) ∧ Below w.heap.size w w' := by
  rcases h1 : inGB P Q G a with _ | _
  · have HM := Lib.hid (show orderM P Q G a = none by simp [orderM, h1])
    go_enter Try.func35, Try.ntmps35
    go_wp2_with fail
    refine (c_impl_inGroup).mono ?_
    rintro e w1 ⟨rfl, hb1⟩
    rw [h1]
    go_wp2
    go_ret2; exact ⟨by rw [HM.out]; rfl, lit_trans hb1⟩
  · have hb := inGB_bd h1
    rcases h2 : (a == 1) with _ | _
    · have HM := Lib.hid (show orderM P Q G a = some Q by simp only [orderM, h1, if_true]; rw [if_neg (by simpa using h2)])
      go_enter Try.func35, Try.ntmps35
      go_wp2_with fail
      refine (c_impl_inGroup).mono ?_
      rintro e w1 ⟨rfl, hb1⟩
      rw [h1]
      have hcell := box_cell hb1
      go_wp2
      go_ret2; exact ⟨by rw [HM.out]; rfl, lit_trans hb1⟩
    · have HM := Lib.hid (show orderM P Q G a = some 1 by simp only [orderM, h1, if_true]; rw [if_pos (by simpa using h2)])
      go_enter Try.func35, Try.ntmps35
      go_wp2_with fail
      refine (c_impl_inGroup).mono ?_
      rintro e w1 ⟨rfl, hb1⟩
      rw [h1]
      have hcell := box_cell hb1
      go_wp2
      go_ret2; exact ⟨by rw [HM.out]; rfl, lit_trans hb1⟩

theorem c_spec_OrderOf {P Q G a : Int} {w : World} : Calls Try.prog 34 #[.agg #[.int .i64 P, .int .i64 Q, .int .i64 G], .int .i64 a] w fun e w' => e = .returned (.tuple #[.int .i64 (oV (orderM P Q G a)), .bool (oB (orderM P Q G a))]) ∧ Below w.heap.size w w' := by
  rcases h1 : inGB P Q G a with _ | _
  · have HM := Lib.hid (show orderM P Q G a = none by simp [orderM, h1])
    go_enter Try.func34, Try.ntmps34
    go_wp2_with fail
    refine (c_spec_grAsked (b := 1)).mono ?_
    rintro e w1 ⟨rfl, hb1⟩
    rw [asked_one]
    rw [h1]
    go_wp2
    go_ret2; exact ⟨by rw [HM.out]; rfl, lit_trans hb1⟩
  · have hb := inGB_bd h1
    rcases h2 : (a == 1) with _ | _
    · have HM := Lib.hid (show orderM P Q G a = some Q by simp only [orderM, h1, if_true]; rw [if_neg (by simpa using h2)])
      go_enter Try.func34, Try.ntmps34
      go_wp2_with fail
      refine (c_spec_grAsked (b := 1)).mono ?_
      rintro e w1 ⟨rfl, hb1⟩
      rw [asked_one]
      rw [h1]
      have hcell := box_cell hb1
      go_wp2
      go_ret2; exact ⟨by rw [HM.out]; rfl, lit_trans hb1⟩
    · have HM := Lib.hid (show orderM P Q G a = some 1 by simp only [orderM, h1, if_true]; rw [if_pos (by simpa using h2)])
      go_enter Try.func34, Try.ntmps34
      go_wp2_with fail
      refine (c_spec_grAsked (b := 1)).mono ?_
      rintro e w1 ⟨rfl, hb1⟩
      rw [asked_one]
      rw [h1]
      have hcell := box_cell hb1
      go_wp2
      go_ret2; exact ⟨by rw [HM.out]; rfl, lit_trans hb1⟩

theorem c_impl_ProductIn {P Q G a b : Int} {w : World} : Calls Try.prog 29 #[.agg #[.int .i64 P, .int .i64 Q, .int .i64 G], .int .i64 a, .int .i64 b] w fun e w' => e = .returned (.tuple #[.int .i64 (oV (productM P Q G a b)), .bool (oB (productM P Q G a b))]) ∧ Below w.heap.size w w' := by
  rcases h1 : inGB P Q G a with _ | _
  · have HM := Lib.hid (show productM P Q G a b = none by simp [productM, h1])
    go_enter Try.func29, Try.ntmps29
    go_wp2_with (go_at_call 57; refine (c_impl_inGroup).mono ?_; rintro e w1 ⟨rfl, hb1⟩)
    go_ret2; exact ⟨by rw [HM.out]; rfl, lit_trans hb1⟩
  · have hb := inGB_bd h1
    rcases h2 : inGB P Q G b with _ | _
    all_goals
      go_enter Try.func29, Try.ntmps29
      go_wp2_with fail
      refine c_impl_inGroup.mono ?_
      rintro e w1 ⟨rfl, hb1⟩
      rw [h1]
      have hcell := box_cell hb1
      go_wp2_with fail
      refine c_impl_inGroup.mono ?_
      rintro e w2 ⟨rfl, hb2⟩
      rw [h2]
    · have HM := Lib.hid (show productM P Q G a b = none by simp [productM, h2])
      go_wp2
      go_ret2; exact ⟨by rw [HM.out]; rfl, b2 hb1 hb2⟩
    · have hbb := inGB_bd h2
      have HM := Lib.hid (show productM P Q G a b = some (a * b % P) by simp [productM, h1, h2])
      have hcell2 := box_cell2 hb1 hb2
      have hm := mul_bd (show 0 ≤ a by omega) (show a ≤ 3000 by omega) (show 0 ≤ b by omega) (show b ≤ 3000 by omega)
      have hp0 : ¬ P = 0 := by omega
      clear hcell
      go_wp2
      go_ret2; exact ⟨by rw [HM.out]; rfl, b2 hb1 hb2⟩
theorem asked_two {P Q G a b : Int} : askedB P Q G a b = (inGB P Q G a && inGB P Q G b) := by
  unfold askedB inGB
  cases grpB P Q G <;> simp
theorem c_spec_ProductIn {P Q G a b : Int} {w : World} : Calls Try.prog 28 #[.agg #[.int .i64 P, .int .i64 Q, .int .i64 G], .int .i64 a, .int .i64 b] w fun e w' => e = .returned (.tuple #[.int .i64 (oV (productM P Q G a b)), .bool (oB (productM P Q G a b))]) ∧ Below w.heap.size w w' := by
  rcases h1 : askedB P Q G a b with _ | _
  · have HM := Lib.hid (show productM P Q G a b = none by unfold productM; rw [← asked_two, h1]; rfl)
    go_enter Try.func28, Try.ntmps28
    go_wp2_with (go_at_call 56; refine (c_spec_grAsked).mono ?_; rintro e w1 ⟨rfl, hb1⟩)
    go_ret2; exact ⟨by rw [HM.out]; rfl, lit_trans hb1⟩
  · have h12 := h1
    rw [asked_two, Bool.and_eq_true] at h12
    have hb := inGB_bd h12.1
    have hbb := inGB_bd h12.2
    have HM := Lib.hid (show productM P Q G a b = some (a * b % P) by unfold productM; rw [← asked_two, h1]; rfl)
    have hm := mul_bd (show 0 ≤ a by omega) (show a ≤ 3000 by omega) (show 0 ≤ b by omega) (show b ≤ 3000 by omega)
    have hp0 : ¬ P = 0 := by omega
    clear h12
    go_enter Try.func28, Try.ntmps28
    go_wp2_with fail
    refine c_spec_grAsked.mono ?_
    rintro e w1 ⟨rfl, hb1⟩
    rw [h1]
    have hcell := box_cell hb1
    go_wp2
    go_ret2; exact ⟨by rw [HM.out]; rfl, lit_trans hb1⟩

end Go.Proofs.Ytpaajlmeifamdaa
