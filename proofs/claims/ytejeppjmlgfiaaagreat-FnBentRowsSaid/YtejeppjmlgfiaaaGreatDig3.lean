/- Contracts of the reference's digest and of the ciphers. Conditions: the numbers are within 10^12. -/
import Derived.Test.YtejeppjmlgfiaaaGreatDig2
import Derived.Test.YtejeppjmlgfiaaaGreatBtMod
namespace Go.Proofs.YtejeppjmlgfiaaaGreat
open Go.RowKit
set_option linter.unusedVariables false

theorem c_spec_l1Own {v : Value} {l : List Int} {w : World} (h : Ints w v l) (hl : l.length ≤ 2097152) : Calls Tryz.prog 133 #[v] w (RetI w l) := by
  obtain ⟨A, c, rfl, hlc, hcm, hrd⟩ := h
  go_enter Tryz.func133, Tryz.ntmps133
  go_wp2_with (at_builtin; refine wp_appAll (B := w.heap.size) rfl rfl Tryz.underlying24 info_int rfl (own_empty 3 1 (Nat.le_refl _)) (hrd.alloc _) (List.length_map _) rfl rfl (ints_one l) (by unfold maxLen; omega) (by omega) (by simp) ?_; intro v' w' ho hg hb)
  go_ret
  refine RetI.mk (by simpa [OwnI] using ho) ((((Below.refl _ _).alloc (Nat.le_refl _) _).grown hg (by simp) (by simp [Value.ownBlock])))

set_option maxHeartbeats 400000 in
theorem c_spec_dgMix {v : Value} {l : List Int} {w : World} (h : Ints w v l) (hl : l.length ≤ 1000) (hx : ∀ x ∈ l, -1000000000000 ≤ x ∧ x ≤ 1000000000000) :
    Calls Tryz.prog 129 #[v] w fun e w' => e = .returned (.int .i64 (digM l)) ∧ Below w.heap.size w w' := by
  have hx2 : ∀ x ∈ l ++ [8, 1], -1000000000000 ≤ x ∧ x ≤ 1000000000000 := by
    intro x hm; simp at hm; rcases hm with hm | rfl | rfl
    · exact hx x hm
    · omega
    · omega
  have H := Lib.hid h
  obtain ⟨A, c, rfl, hlc, hcm, hrd⟩ := h
  go_enter Tryz.func129, Tryz.ntmps129
  go_wp2_with fail
  refine (c_spec_l1Own H.out (by omega)).mono ?_
  rintro e w1 ⟨u, rfl, hu, hb1⟩
  go_wp2_with (at_builtin; refine wp_appAll (B := w.heap.size) rfl rfl Tryz.underlying24 info_int rfl (World.ownsRow.alloc hu _) (Rd.lit w1 _ _) rfl rfl rfl (ints_one [8, 1]) (by unfold maxLen; simp; omega) (by simp; omega) (by have := hb1.size; simp; omega) ?_; intro v' w' ho hg hb; rw [dig_tail] at ho; obtain ⟨A2, c2, rfl, hn2, hm2, hrd2⟩ := own_form ho)
  have hb2 : Below w.heap.size w w' := (hb1.alloc (hb1.size) _).grown hg (by have := hb1.size; simp; omega) (fun g hg' => own_ge hu g hg')
  have hlen : (l ++ [8, 1]).length = l.length + 2 := by simp
  have hd0 : (0 : Int) ≤ 40503 + (l.length : Int) ∧ 40503 + (l.length : Int) ≤ 1000002 := by omega
  have HLen := Lib.hid hlen
  have HB := Lib.hid hb2
  clear hlen ho hg hb hu hb1 hb2 hx hrd H
  go_loop [3, 14] (fun a i => ∃ k : Nat, k ≤ l.length + 2 ∧ i = .int .i64 k ∧ a = .int .i64 (digFold (40503 + (l.length : Int)) ((l ++ [8, 1]).take k))) (fun _ i => l.length + 2 - (intOf i).toNat)
  case atStart => exact ⟨0, Nat.zero_le _, rfl, rfl⟩
  case round =>
    obtain ⟨k, hk, rfl, rfl⟩ := hrel
    have hd := digFold_bd hd0 ((l ++ [8, 1]).take k)
    by_cases hlt : k < l.length + 2
    · obtain ⟨b, o, x, rfl, hbl, hxk, hcell⟩ := hrd2.int_at (k := k) (by rw [HLen.out]; exact hlt)
      have hxb := hx2 x (List.mem_of_getElem? hxk)
      have HT := Lib.hid (take_snoc hxk)
      have HS := Lib.hid (digFold_snoc (40503 + (l.length : Int)) ((l ++ [8, 1]).take k) x)
      clear hx2 hxk
      generalize digFold (40503 + (l.length : Int)) ((l ++ [8, 1]).take k) = d at hd HS ⊢
      obtain ⟨X, hX, hXb⟩ : ∃ X, (25214 * d + x + 17) % 1000003 = X ∧ 0 ≤ X ∧ X ≤ 1000002 := ⟨_, rfl, by omega, by omega⟩
      have hp := prod_bd hXb
      have HX2 := Lib.hid hX
      have HX : Hid (digStep d x = X * (X / 64 + 5) % 1000003) := by unfold digStep; rw [hX]; exact rfl
      clear hX
      go_wp2_with (go_at_call 158; refine (c_spec_btMod (by omega) (by omega)).mono ?_; rintro e w2 ⟨rfl, rfl⟩; rw [HX2.out])
      go_round
      case rel => exact ⟨k + 1, by omega, by go_num, by rw [HT.out, HS.out, HX.out]⟩
      case measure => simp [intOf]; omega
    · have HE := Lib.hid (show digM l = digFold (40503 + (l.length : Int)) ((l ++ [8, 1]).take k) % 65536 by rw [List.take_of_length_le (by rw [HLen.out]; omega)]; rfl)
      go_wp2
      go_ret
      exact ⟨by rw [HE.out]; rfl, HB.out⟩

theorem bd4 {a b c d : Int} (ha : -1000000000000 ≤ a ∧ a ≤ 1000000000000) (hb : -1000000000000 ≤ b ∧ b ≤ 1000000000000) (hc : -1000000000000 ≤ c ∧ c ≤ 1000000000000) (hd : -1000000000000 ≤ d ∧ d ≤ 1000000000000) :
    ∀ x ∈ [a, b, c, d], -1000000000000 ≤ x ∧ x ≤ 1000000000000 := by
  intro x hx; simp at hx; rcases hx with rfl | rfl | rfl | rfl <;> assumption

theorem c_spec_dgLabel {a b c d : Int} {w : World} (ha : -1000000000000 ≤ a ∧ a ≤ 1000000000000) (hb : -1000000000000 ≤ b ∧ b ≤ 1000000000000) (hc : -1000000000000 ≤ c ∧ c ≤ 1000000000000) (hd : -1000000000000 ≤ d ∧ d ≤ 1000000000000) :
    Calls Tryz.prog 159 #[.int .i64 a, .int .i64 b, .int .i64 c, .int .i64 d] w fun e w' => e = .returned (.int .i64 (digM [a, b, c, d])) ∧ Below w.heap.size w w' := by
  go_enter Tryz.func159, Tryz.ntmps159
  go_wp2_with fail
  refine (c_spec_dgMix (l := [a, b, c, d]) (ints_lit w [a, b, c, d] _ rfl (by simp)) (by simp) (bd4 ha hb hc hd)).mono ?_
  rintro e w1 ⟨rfl, hb1⟩
  go_wp2
  go_ret
  exact ⟨rfl, ((Below.refl _ _).alloc (Nat.le_refl _) _).trans (hb1.mono (by simp))⟩
theorem c_impl_zeroLabel {k n : Int} {w : World} (hk : -1000000000000 ≤ k ∧ k ≤ 1000000000000) (hn : -1000000000000 ≤ n ∧ n ≤ 1000000000000) :
    Calls Tryz.prog 84 #[.int .i64 k, .int .i64 n] w fun e w' => e = .returned (.int .i64 (digM [k, n, 13, 0])) ∧ Below w.heap.size w w' := by
  go_enter Tryz.func84, Tryz.ntmps84
  go_wp2_with fail
  refine (c_impl_digest (l := [k, n, 13, 0]) (ints_lit w [k, n, 13, 0] _ rfl (by simp)) (by simp) (bd4 hk hn (by omega) (by omega))).mono ?_
  rintro e w1 ⟨rfl, hb1⟩
  go_wp2
  go_ret
  exact ⟨rfl, ((Below.refl _ _).alloc (Nat.le_refl _) _).trans (hb1.mono (by simp))⟩
theorem c_spec_lbZero {k n : Int} {w : World} (hk : -1000000000000 ≤ k ∧ k ≤ 1000000000000) (hn : -1000000000000 ≤ n ∧ n ≤ 1000000000000) :
    Calls Tryz.prog 130 #[.int .i64 k, .int .i64 n] w fun e w' => e = .returned (.int .i64 (digM [k, n, 13, 0])) ∧ Below w.heap.size w w' := by
  go_enter Tryz.func130, Tryz.ntmps130
  go_wp2_with fail
  refine (c_spec_dgLabel hk hn (by omega) (by omega)).mono ?_
  rintro e w1 ⟨rfl, hb1⟩
  go_wp2
  go_ret
  exact ⟨rfl, hb1⟩
end Go.Proofs.YtejeppjmlgfiaaaGreat
