/- Contracts of elements and powers in a group, and of the reference's. Conditions: the group is valid, the numbers small. -/
import Derived.Test.YtpaajlmeifamdaaGrp
import Derived.Test.YtpaajlmeifamdaaBtMod
namespace Go.Proofs.Ytpaajlmeifamdaa
open Go.RowKit
set_option linter.unusedVariables false

noncomputable def hasB (P Q a : Int) : Bool := inB a 1 (P - 1) && (powM P a Q == 1)
def gpowM (P Q a n : Int) : Int := powM P a (n % Q)
theorem below_box {w : World} (o : Obj) : Below w.heap.size w (w.alloc o) := (Below.refl _ _).alloc (Nat.le_refl _) _
theorem tmod2 (n : Int) {Q : Int} (hq : 0 < Q) : (n.tmod Q + Q).tmod Q = n % Q := by
  have h := tmod_bd n hq
  rw [Int.tmod_eq_emod_of_nonneg (by omega)]
  exact tmod_mod n Q

theorem c_G_has {P Q G a : Int} {w : World} (hg : 3 ≤ P ∧ P ≤ 2003 ∧ 2 ≤ Q ∧ Q ≤ P - 1) : Calls Try.prog 53 #[.agg #[.int .i64 P, .int .i64 Q, .int .i64 G], .int .i64 a] w fun e w' => e = .returned (.bool (hasB P Q a)) ∧ Below w.heap.size w w' := by
  rcases h1 : inB a 1 (P - 1) with _ | _
  · go_enter Try.func53, Try.ntmps53
    go_wp2_with (go_at_call 44; refine (c_impl_within).mono ?_; rintro e w' ⟨rfl, rfl⟩)
    go_ret; exact ⟨by simp [hasB, h1], below_box _⟩
  · have hb := inB_bd h1
    go_enter Try.func53, Try.ntmps53
    go_wp2_with (first | (go_at_call 44; refine (c_impl_within).mono ?_; rintro e w' ⟨rfl, rfl⟩) | (go_at_call 45; refine (c_impl_power (by omega) (by omega) (by omega)).mono ?_; rintro e w' ⟨rfl, rfl⟩))
    go_ret; exact ⟨by simp [hasB, h1], below_box _⟩
theorem c_G_power {P Q G a n : Int} {w : World} (hg : 3 ≤ P ∧ P ≤ 2003 ∧ 2 ≤ Q ∧ Q ≤ P - 1) (ha : 0 ≤ a ∧ a ≤ 3000) (hn : -1000000000 ≤ n ∧ n ≤ 1000000000) :
    Calls Try.prog 55 #[.agg #[.int .i64 P, .int .i64 Q, .int .i64 G], .int .i64 a, .int .i64 n] w fun e w' => e = .returned (.int .i64 (gpowM P Q a n)) ∧ Below w.heap.size w w' := by
  have hq0 : ¬ Q = 0 := by omega
  have ht := tmod_bd n (m := Q) (by omega)
  have hm : 0 ≤ n % Q ∧ n % Q < Q := ⟨Int.emod_nonneg _ (by omega), Int.emod_lt_of_pos _ (by omega)⟩
  have e2 := tmod2 n (Q := Q) (by omega)
  have e1 : IntKind.i64.wrap (n.tmod Q + Q) = n.tmod Q + Q := IntWalk.i64_in _ (by omega)
  go_enter Try.func55, Try.ntmps55
  go_wp2
  go_quiet ((go_at_call 45; exact quiet_left (c_impl_power (by omega) (by omega) (by omega))))
  go_wp2
  go_ret
  exact ⟨rfl, below_drewN (below_box _) _⟩
theorem c_G_inverse {P Q G a : Int} {w : World} (hg : 3 ≤ P ∧ P ≤ 2003 ∧ 2 ≤ Q ∧ Q ≤ P - 1) (ha : 0 ≤ a ∧ a ≤ 3000) :
    Calls Try.prog 58 #[.agg #[.int .i64 P, .int .i64 Q, .int .i64 G], .int .i64 a] w fun e w' => e = .returned (.int .i64 (gpowM P Q a (-1))) ∧ Below w.heap.size w w' := by
  go_enter Try.func58, Try.ntmps58
  go_wp2_with (go_at_call 55; refine (c_G_power hg ha (by omega)).mono ?_; rintro e w1 ⟨rfl, hb1⟩)
  go_ret; exact ⟨rfl, lit_trans hb1⟩
noncomputable def inGB (P Q G a : Int) : Bool := grpB P Q G && hasB P Q a
theorem c_impl_inGroup {P Q G a : Int} {w : World} : Calls Try.prog 57 #[.agg #[.int .i64 P, .int .i64 Q, .int .i64 G], .int .i64 a] w fun e w' => e = .returned (.bool (inGB P Q G a)) ∧ Below w.heap.size w w' := by
  rcases h1 : grpB P Q G with _ | _
  · go_enter Try.func57, Try.ntmps57
    go_wp2_with (go_at_call 17; refine (c_impl_IsGroup).mono ?_; rintro e w1 ⟨rfl, hb1⟩)
    go_ret; exact ⟨by simp [inGB, h1], lit_trans hb1⟩
  · have hb := grpB_bd h1
    go_enter Try.func57, Try.ntmps57
    go_wp2_with fail
    refine c_impl_IsGroup.mono ?_
    rintro e w1 ⟨rfl, hb1⟩
    have hcell := fun j => hb1.cell (p := ⟨w.heap.size, j, none⟩) (by simp)
    go_wp2_with (go_at_call 53; refine (c_G_has (by omega)).mono ?_; rintro e w2 ⟨rfl, hb2⟩)
    go_ret; exact ⟨by simp [inGB, h1], lit_trans (hb1.trans (hb2.mono hb1.size))⟩
set_option maxHeartbeats 400000 in
theorem c_spec_grGood {P Q G : Int} {w : World} : Calls Try.prog 41 #[.agg #[.int .i64 P, .int .i64 Q, .int .i64 G]] w fun e w' => e = .returned (.bool (grpB P Q G)) ∧ Below w.heap.size w w' := by
  rcases h0 : inB P 3 2003 with _ | _
  · have HM := Lib.hid (show grpB P Q G = false by simp [grpB, modB, h0])
    go_enter Try.func41, Try.ntmps41
    go_wp2_with (go_at_call 47; refine (c_spec_l1In).mono ?_; rintro e w' ⟨rfl, rfl⟩)
    go_ret; exact ⟨by rw [HM.out]; rfl, below_box _⟩
  · have hb0 := inB_bd h0
    rcases h1 : primeB P with _ | _
    · have HM := Lib.hid (show grpB P Q G = false by simp [grpB, modB, h1])
      go_enter Try.func41, Try.ntmps41
      go_wp2_with (first | (go_at_call 47; refine (c_spec_l1In).mono ?_; rintro e w' ⟨rfl, rfl⟩) | (go_at_call 59; refine (c_spec_grPrime (by omega)).mono ?_; rintro e w' ⟨rfl, rfl⟩))
      go_ret; exact ⟨by rw [HM.out]; rfl, below_box _⟩
    · rcases h2 : inB Q 2 (P - 1) with _ | _
      · have HM := Lib.hid (show grpB P Q G = false by simp [grpB, uptoB, h2])
        go_enter Try.func41, Try.ntmps41
        go_wp2_with (first | (go_at_call 47; refine (c_spec_l1In).mono ?_; rintro e w' ⟨rfl, rfl⟩) | (go_at_call 59; refine (c_spec_grPrime (by omega)).mono ?_; rintro e w' ⟨rfl, rfl⟩))
        go_ret; exact ⟨by rw [HM.out]; rfl, below_box _⟩
      · have hb2 := inB_bd h2
        have hq0 : ¬ Q = 0 := by omega
        rcases h22 : primeB Q with _ | _
        · have HM := Lib.hid (show grpB P Q G = false by simp [grpB, uptoB, h22])
          go_enter Try.func41, Try.ntmps41
          go_wp2_with (first | (go_at_call 47; refine (c_spec_l1In).mono ?_; rintro e w' ⟨rfl, rfl⟩) | (go_at_call 59; refine (c_spec_grPrime (by omega)).mono ?_; rintro e w' ⟨rfl, rfl⟩))
          go_ret; exact ⟨by rw [HM.out]; rfl, below_box _⟩
        · rcases h3 : ((P - 1) % Q == 0) with _ | _
          · have HM := Lib.hid (show grpB P Q G = false by simp only [grpB, h3]; simp)
            go_enter Try.func41, Try.ntmps41
            go_wp2_with (first | (go_at_call 47; refine (c_spec_l1In).mono ?_; rintro e w' ⟨rfl, rfl⟩) | (go_at_call 59; refine (c_spec_grPrime (by omega)).mono ?_; rintro e w' ⟨rfl, rfl⟩))
            go_ret; exact ⟨by rw [HM.out]; rfl, below_box _⟩
          · rcases h4 : inB G 2 (P - 1) with _ | _
            · have HM := Lib.hid (show grpB P Q G = false by simp [grpB, h4])
              go_enter Try.func41, Try.ntmps41
              go_wp2_with (first | (go_at_call 47; refine (c_spec_l1In).mono ?_; rintro e w' ⟨rfl, rfl⟩) | (go_at_call 59; refine (c_spec_grPrime (by omega)).mono ?_; rintro e w' ⟨rfl, rfl⟩))
              go_ret; exact ⟨by rw [HM.out]; rfl, below_box _⟩
            · have hb4 := inB_bd h4
              rcases h5 : (powM P G Q == 1) with _ | _
              · have HM := Lib.hid (show grpB P Q G = false by simp only [grpB, h5]; simp)
                go_enter Try.func41, Try.ntmps41
                go_wp2_with (first | (go_at_call 47; refine (c_spec_l1In).mono ?_; rintro e w' ⟨rfl, rfl⟩) | (go_at_call 59; refine (c_spec_grPrime (by omega)).mono ?_; rintro e w' ⟨rfl, rfl⟩) | (go_at_call 61; refine (c_spec_grPower (by omega) (by omega) (by omega)).mono ?_; rintro e w' ⟨rfl, rfl⟩))
                go_ret; exact ⟨by rw [HM.out]; rfl, below_box _⟩
              · have HM := Lib.hid (show grpB P Q G = true by simp only [grpB, modB, uptoB, h0, h1, h2, h22, h3, h4, h5]; rfl)
                go_enter Try.func41, Try.ntmps41
                go_wp2_with (first | (go_at_call 47; refine (c_spec_l1In).mono ?_; rintro e w' ⟨rfl, rfl⟩) | (go_at_call 59; refine (c_spec_grPrime (by omega)).mono ?_; rintro e w' ⟨rfl, rfl⟩) | (go_at_call 61; refine (c_spec_grPower (by omega) (by omega) (by omega)).mono ?_; rintro e w' ⟨rfl, rfl⟩))
                go_ret; exact ⟨by rw [HM.out]; rfl, below_box _⟩
theorem c_spec_IsGroup {P Q G : Int} {w : World} : Calls Try.prog 15 #[.agg #[.int .i64 P, .int .i64 Q, .int .i64 G]] w fun e w' => e = .returned (.bool (grpB P Q G)) ∧ Below w.heap.size w w' := by
  go_enter Try.func15, Try.ntmps15
  go_wp2_with (go_at_call 41; refine (c_spec_grGood).mono ?_; rintro e w1 ⟨rfl, hb1⟩)
  go_ret; exact ⟨rfl, lit_trans hb1⟩
theorem c_spec_grHas {P Q G a : Int} {w : World} (hg : 3 ≤ P ∧ P ≤ 2003 ∧ 2 ≤ Q ∧ Q ≤ P - 1) : Calls Try.prog 52 #[.agg #[.int .i64 P, .int .i64 Q, .int .i64 G], .int .i64 a] w fun e w' => e = .returned (.bool (hasB P Q a)) ∧ Below w.heap.size w w' := by
  rcases h1 : inB a 1 (P - 1) with _ | _
  · go_enter Try.func52, Try.ntmps52
    go_wp2_with (go_at_call 47; refine (c_spec_l1In).mono ?_; rintro e w' ⟨rfl, rfl⟩)
    go_ret; exact ⟨by simp [hasB, h1], below_box _⟩
  · have hb := inB_bd h1
    go_enter Try.func52, Try.ntmps52
    go_wp2_with (first | (go_at_call 47; refine (c_spec_l1In).mono ?_; rintro e w' ⟨rfl, rfl⟩) | (go_at_call 61; refine (c_spec_grPower (by omega) (by omega) (by omega)).mono ?_; rintro e w' ⟨rfl, rfl⟩))
    go_ret; exact ⟨by simp [hasB, h1], below_box _⟩
theorem c_spec_grTo {P Q G a n : Int} {w : World} (hg : 3 ≤ P ∧ P ≤ 2003 ∧ 2 ≤ Q ∧ Q ≤ P - 1) (ha : 0 ≤ a ∧ a ≤ 3000) (hn : -1000000000 ≤ n ∧ n ≤ 1000000000) :
    Calls Try.prog 54 #[.agg #[.int .i64 P, .int .i64 Q, .int .i64 G], .int .i64 a, .int .i64 n] w fun e w' => e = .returned (.int .i64 (gpowM P Q a n)) ∧ Below w.heap.size w w' := by
  have hm : 0 ≤ n % Q ∧ n % Q < Q := ⟨Int.emod_nonneg _ (by omega), Int.emod_lt_of_pos _ (by omega)⟩
  go_enter Try.func54, Try.ntmps54
  go_wp2
  go_quiet ((first | (go_at_call 65; exact quiet_left (c_spec_btMod (by omega) (by omega))) | (go_at_call 61; first | exact quiet_left (c_spec_grPower (by omega) (by omega) (by omega)) | exact quiet_add_left (c_spec_grPower (by omega) (by omega) (by omega)))))
  go_wp2
  go_ret
  exact ⟨rfl, below_drewN (below_box _) _⟩
noncomputable def askedB (P Q G a b : Int) : Bool := grpB P Q G && hasB P Q a && hasB P Q b
theorem c_spec_grAsked {P Q G a b : Int} {w : World} : Calls Try.prog 56 #[.agg #[.int .i64 P, .int .i64 Q, .int .i64 G], .int .i64 a, .int .i64 b] w fun e w' => e = .returned (.bool (askedB P Q G a b)) ∧ Below w.heap.size w w' := by
  rcases h1 : grpB P Q G with _ | _
  · go_enter Try.func56, Try.ntmps56
    go_wp2_with (go_at_call 41; refine (c_spec_grGood).mono ?_; rintro e w1 ⟨rfl, hb1⟩)
    go_ret; exact ⟨by simp [askedB, h1], lit_trans hb1⟩
  · have hb := grpB_bd h1
    rcases h2 : hasB P Q a with _ | _
    · go_enter Try.func56, Try.ntmps56
      go_wp2_with fail
      refine c_spec_grGood.mono ?_
      rintro e w1 ⟨rfl, hb1⟩
      have hcell := fun j => hb1.cell (p := ⟨w.heap.size, j, none⟩) (by simp)
      go_wp2_with (go_at_call 52; refine (c_spec_grHas (by omega)).mono ?_; rintro e w2 ⟨rfl, hb2⟩)
      go_ret; exact ⟨by simp [askedB, h1, h2], lit_trans (hb1.trans (hb2.mono hb1.size))⟩
    · go_enter Try.func56, Try.ntmps56
      go_wp2_with fail
      refine c_spec_grGood.mono ?_
      rintro e w1 ⟨rfl, hb1⟩
      have hcell := fun j => hb1.cell (p := ⟨w.heap.size, j, none⟩) (by simp)
      go_wp2_with fail
      refine (c_spec_grHas (by omega)).mono ?_
      rintro e w2 ⟨rfl, hb2⟩
      have hs1 := hb1.size
      have hcell2 := fun j => hb2.cell (p := ⟨w.heap.size, j, none⟩) (by simp at hs1; simp; omega)
      rw [h2]
      go_wp2_with fail
      refine (c_spec_grHas (by omega)).mono ?_
      rintro e w3 ⟨rfl, hb3⟩
      go_wp2
      have hb12 := hb1.trans (hb2.mono hb1.size)
      go_ret; exact ⟨by simp [askedB, h1, h2], lit_trans (hb12.trans (hb3.mono hb12.size))⟩
end Go.Proofs.Ytpaajlmeifamdaa
