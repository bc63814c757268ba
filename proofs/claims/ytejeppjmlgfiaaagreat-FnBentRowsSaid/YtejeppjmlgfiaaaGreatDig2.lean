/- Contracts of the digest. Conditions: the list is short, its numbers within 10^12. -/
import Derived.Test.YtejeppjmlgfiaaaGreatDig
namespace Go.Proofs.YtejeppjmlgfiaaaGreat
open Go.RowKit
set_option linter.unusedVariables false

/-- One step of the digest. -/
def digStep (a x : Int) : Int := ((25214 * a + x + 17) % 1000003) * (((25214 * a + x + 17) % 1000003) / 64 + 5) % 1000003
def digFold (a : Int) (l : List Int) : Int := l.foldl digStep a
/-- The digest of a list. -/
def digM (l : List Int) : Int := digFold (40503 + (l.length : Int)) (l ++ [8, 1]) % 65536

theorem digStep_bd (a x : Int) : 0 ≤ digStep a x ∧ digStep a x ≤ 1000002 := by unfold digStep; omega
theorem digFold_bd {a : Int} (h : 0 ≤ a ∧ a ≤ 1000002) (l : List Int) : 0 ≤ digFold a l ∧ digFold a l ≤ 1000002 := by
  induction l generalizing a with
  | nil => exact h
  | cons x l ih => exact ih (digStep_bd a x)
theorem digFold_snoc (a : Int) (l : List Int) (x : Int) : digFold a (l ++ [x]) = digStep (digFold a l) x := by simp [digFold]
theorem digM_bd (l : List Int) : 0 ≤ digM l ∧ digM l ≤ 65535 := by unfold digM; omega
theorem prod_bd {X : Int} (h : 0 ≤ X ∧ X ≤ 1000002) : 0 ≤ X * (X / 64 + 5) ∧ X * (X / 64 + 5) ≤ 100000000000 := by
  have h1 : 0 ≤ X / 64 + 5 := by omega
  have h2 : X / 64 + 5 ≤ 15631 := by omega
  have h3 := Int.mul_nonneg h.1 h1
  have h4 : X * (X / 64 + 5) ≤ 1000002 * 15631 := Int.mul_le_mul h.2 h2 h1 (by omega)
  omega

/-- The list that the digest goes over, as the call has laid it. -/
theorem dig_tail (l : List Int) : l.map (Value.int .i64) ++ [.int .i64 8, .int .i64 1] = (l ++ [8, 1]).map (Value.int .i64) := by simp

set_option maxHeartbeats 400000 in
theorem c_impl_digest {v : Value} {l : List Int} {w : World} (h : Ints w v l) (hl : l.length ≤ 1000) (hx : ∀ x ∈ l, -1000000000000 ≤ x ∧ x ≤ 1000000000000) :
    Calls Tryz.prog 80 #[v] w fun e w' => e = .returned (.int .i64 (digM l)) ∧ Below w.heap.size w w' := by
  have hx2 : ∀ x ∈ l ++ [8, 1], -1000000000000 ≤ x ∧ x ≤ 1000000000000 := by
    intro x hm; simp at hm; rcases hm with hm | rfl | rfl
    · exact hx x hm
    · omega
    · omega
  have H := Lib.hid h
  obtain ⟨A, c, rfl, hlc, hcm, hrd⟩ := h
  go_enter Tryz.func80, Tryz.ntmps80
  go_wp2_with fail
  refine (c_slices_Clone H.out (by omega)).mono ?_
  rintro e w1 ⟨u, rfl, hu, hb1⟩
  go_wp2_with (at_builtin; refine wp_appAll (B := w.heap.size) rfl rfl Tryz.underlying24 info_int rfl (World.ownsRow.alloc hu _) (Rd.lit w1 _ _) rfl rfl rfl (ints_one [8, 1]) (by unfold maxLen; simp; omega) (by simp; omega) (by have := hb1.size; simp; omega) ?_; intro v' w' ho hg hb; rw [dig_tail] at ho; obtain ⟨A2, c2, rfl, hn2, hm2, hrd2⟩ := own_form ho)
  have hb2 : Below w.heap.size w w' := (hb1.alloc (hb1.size) _).grown hg (by have := hb1.size; simp; omega) (fun g hg' => own_ge hu g hg')
  have hlen : (l ++ [8, 1]).length = l.length + 2 := by simp
  have hd0 : (0 : Int) ≤ 40503 + (l.length : Int) ∧ 40503 + (l.length : Int) ≤ 1000002 := by omega
  have HLen := Lib.hid hlen
  have HB := Lib.hid hb2
  clear hlen ho hg hb hu hb1 hb2 hx hrd H
  go_loop [3, 14] (fun a i => ∃ k : Nat, k ≤ l.length + 2 ∧ i = .int .i64 k ∧ a = .int .i64 (digFold (40503 + (l.length : Int)) ((l ++ [8, 1]).take k))) (fun _ i => l.length + 2 - (intOf i).toNat)
  case atStart => exact ⟨0, Nat.zero_le _, rfl, rfl⟩
  case round =>
    obtain ⟨k, hk, rfl, rfl⟩ := hrel
    have hd := digFold_bd hd0 ((l ++ [8, 1]).take k)
    by_cases hlt : k < l.length + 2
    · obtain ⟨b, o, x, rfl, hbl, hxk, hcell⟩ := hrd2.int_at (k := k) (by rw [HLen.out]; exact hlt)
      have hxb := hx2 x (List.mem_of_getElem? hxk)
      have HT := Lib.hid (take_snoc hxk)
      have HS := Lib.hid (digFold_snoc (40503 + (l.length : Int)) ((l ++ [8, 1]).take k) x)
      clear hx2 hxk
      generalize digFold (40503 + (l.length : Int)) ((l ++ [8, 1]).take k) = d at hd HS ⊢
      have ht := tmod_bd (25214 * d + x + 17) (m := 1000003) (by omega)
      have hm := tmod_mod (25214 * d + x + 17) 1000003
      obtain ⟨X, hX, hXb⟩ : ∃ X, (25214 * d + x + 17) % 1000003 = X ∧ 0 ≤ X ∧ X ≤ 1000002 := ⟨_, rfl, by omega, by omega⟩
      rw [hX] at hm
      have hp := prod_bd hXb
      have HX : Hid (digStep d x = X * (X / 64 + 5) % 1000003) := by unfold digStep; rw [hX]; exact rfl
      clear hX
      go_wp2
      go_round
      case rel => exact ⟨k + 1, by omega, by go_num, by rw [HT.out, HS.out, HX.out]⟩
      case measure => simp [intOf]; omega
    · have HE := Lib.hid (show digM l = digFold (40503 + (l.length : Int)) ((l ++ [8, 1]).take k) % 65536 by rw [List.take_of_length_le (by rw [HLen.out]; omega)]; rfl)
      go_wp2
      go_ret
      exact ⟨by rw [HE.out]; rfl, HB.out⟩
end Go.Proofs.YtejeppjmlgfiaaaGreat
