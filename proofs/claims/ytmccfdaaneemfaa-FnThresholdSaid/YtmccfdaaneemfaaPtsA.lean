/- Contracts of values of polynomials, of lists of elements, of lists of different numbers and of points. Conditions: the lists are short, the numbers small. -/
import Derived.Test.YtmccfdaaneemfaaOwnK
import Derived.Test.YtmccfdaaneemfaaField
import Derived.Test.YtmccfdaaneemfaaPoly2
import Derived.Test.YtmccfdaaneemfaaMet
namespace Go.Proofs.Ytmccfdaaneemfaa
open Go.RowKit
set_option linter.unusedVariables false

set_option maxHeartbeats 400000 in
theorem c_impl_evalPoly {v : Value} {l : List Int} {p x : Int} {w : World} (h : Ints w v l) (hl : l.length ≤ 1048576) (hp : 1 ≤ p ∧ p ≤ 3000) (hb : ∀ c ∈ l, 0 ≤ c ∧ c ≤ 3000) (hx : 0 ≤ x ∧ x ≤ 3000) :
    Calls Try.prog 115 #[.int .i64 p, v, .int .i64 x] w fun e w' => e = .returned (.int .i64 (evalM p l x)) ∧ w = w' := by
  obtain ⟨A, c, rfl, hlc, hcm, hrd⟩ := h
  have hp0 : ¬ p = 0 := by omega
  have HB := Lib.hid hb
  clear hb
  go_enter Try.func115, Try.ntmps115
  go_wp2
  go_loop [7, 8] (fun o i => ∃ k : Nat, k ≤ l.length ∧ i = .int .i64 ((k : Int) - 1) ∧ o = .int .i64 (evalM p (l.drop k) x)) (fun _ i => (intOf i + 1).toNat)
  case atStart => exact ⟨l.length, Nat.le_refl _, rfl, by rw [List.drop_length]; rfl⟩
  case round =>
    obtain ⟨k, hk, rfl, rfl⟩ := hrel
    have hd := evalM_bd (p := p) (by omega) (l.drop k) x
    rcases k with _ | k
    · go_wp2
      go_ret
      exact ⟨rfl, rfl⟩
    · obtain ⟨b, o, y, rfl, hbl, hxk, hcell⟩ := hrd.int_at (k := k) (by omega)
      have hy := HB.out y (List.mem_of_getElem? hxk)
      have HS := Lib.hid (show evalM p (l.drop k) x = (evalM p (l.drop (k + 1)) x * x + y) % p by
        obtain ⟨hk', e⟩ := List.getElem?_eq_some_iff.1 hxk
        rw [List.drop_eq_getElem_cons hk', e]; rfl)
      clear hxk
      generalize evalM p (l.drop (k + 1)) x = d at hd HS ⊢
      have hm := mul_bd hd.1 (show d ≤ 3000 by omega) hx.1 hx.2
      rw [show ((k + 1 : Nat) : Int) - 1 = (k : Int) by omega]
      have hk0 : (0 : Int) ≤ (k : Int) := Int.natCast_nonneg _
      go_wp2
      go_round
      case rel => exact ⟨k, by omega, rfl, by rw [HS.out]⟩
      case measure => simp [intOf]
set_option maxHeartbeats 400000 in
theorem c_spec_fpEval {v : Value} {l : List Int} {p x : Int} {w : World} (h : Ints w v l) (hl : l.length ≤ 1048576) (hp : 1 ≤ p ∧ p ≤ 3000) (hb : ∀ c ∈ l, 0 ≤ c ∧ c ≤ 3000) (hx : 0 ≤ x ∧ x ≤ 3000) :
    Calls Try.prog 139 #[.int .i64 p, v, .int .i64 x] w fun e w' => e = .returned (.int .i64 (evalM p l x)) ∧ w = w' := by
  obtain ⟨A, c, rfl, hlc, hcm, hrd⟩ := h
  have hp0 : ¬ p = 0 := by omega
  have HB := Lib.hid hb
  clear hb
  go_enter Try.func139, Try.ntmps139
  go_wp2
  go_loop [7, 8] (fun o i => ∃ k : Nat, k ≤ l.length ∧ i = .int .i64 ((k : Int) - 1) ∧ o = .int .i64 (evalM p (l.drop k) x)) (fun _ i => (intOf i + 1).toNat)
  case atStart => exact ⟨l.length, Nat.le_refl _, rfl, by rw [List.drop_length]; rfl⟩
  case round =>
    obtain ⟨k, hk, rfl, rfl⟩ := hrel
    have hd := evalM_bd (p := p) (by omega) (l.drop k) x
    rcases k with _ | k
    · go_wp2
      go_ret
      exact ⟨rfl, rfl⟩
    · obtain ⟨b, o, y, rfl, hbl, hxk, hcell⟩ := hrd.int_at (k := k) (by omega)
      have hy := HB.out y (List.mem_of_getElem? hxk)
      have HS := Lib.hid (show evalM p (l.drop k) x = (evalM p (l.drop (k + 1)) x * x + y) % p by
        obtain ⟨hk', e⟩ := List.getElem?_eq_some_iff.1 hxk
        rw [List.drop_eq_getElem_cons hk', e]; rfl)
      clear hxk
      generalize evalM p (l.drop (k + 1)) x = d at hd HS ⊢
      have hm := mul_bd hd.1 (show d ≤ 3000 by omega) hx.1 hx.2
      rw [show ((k + 1 : Nat) : Int) - 1 = (k : Int) by omega]
      have hk0 : (0 : Int) ≤ (k : Int) := Int.natCast_nonneg _
      go_wp2
      go_round
      case rel => exact ⟨k, by omega, rfl, by rw [HS.out]⟩
      case measure => simp [intOf]

/-! ### lists of elements -/
theorem enters_elements1 : Enters 145 := by intro args w; simp [callFunc, Try.func145]; kernel_rfl
theorem c_elements1 {w : World} {q : Addr} {p : Int} {l : List Int} (hp : 2 ≤ p ∧ p ≤ 251) (hq : w.cell? q = some (.int .i64 p)) :
    PredB w 145 [.pointer (some q)] (fun x => inB x 0 (p - 1)) l := by
  intro W x hW hx
  have hq2 : W.cell? q = some (.int .i64 p) := (hW.cell (World.block_lt_of_cell? w _ hq)).trans hq
  show Calls Try.prog 145 #[.int .i64 x, .pointer (some q)] W _
  go_enter Try.func145, Try.ntmps145
  go_wp2_with (go_at_call 70; refine (c_impl_within).mono ?_; rintro e w' ⟨rfl, rfl⟩)
  go_ret
  exact ⟨rfl, Below.refl _ _⟩
theorem c_impl_areElements {v : Value} {l : List Int} {p : Int} {w : World} (h : Ints w v l) (hl : l.length ≤ 2097152) :
    Calls Try.prog 130 #[.int .i64 p, v] w fun e w' => e = .returned (.bool (fpInB p l)) ∧ Below w.heap.size w w' := by
  have H := Lib.hid h
  obtain ⟨A, c, rfl, -⟩ := h
  rcases hf : fldB p with _ | _
  · go_enter Try.func130, Try.ntmps130
    go_wp2_with (go_at_call 11; refine (k_impl_IsPrime).mono ?_; rintro e w' ⟨rfl, rfl⟩)
    go_ret; exact ⟨by simp [fpInB, hf], (Below.refl _ _).alloc (Nat.le_refl _) _⟩
  · have hb := fldB_bd hf
    go_enter Try.func130, Try.ntmps130
    go_wp2_with (go_at_call 11; refine (k_impl_IsPrime).mono ?_; rintro e w' ⟨rfl, rfl⟩)
    refine (c_impl_areAll (K := 145) (caps := [.pointer (some ⟨w.heap.size, 0, none⟩)]) (p := fun x => inB x 0 (p - 1)) enters_elements1 (H.out.alloc _) hl (c_elements1 hb (cell_new w _ _))).mono ?_
    rintro e w1 ⟨rfl, hb1⟩
    go_wp2
    go_ret
    exact ⟨by simp [fpInB, hf, allB], lit_trans hb1⟩

/-! ### different numbers -/
theorem c_slices_Index {v : Value} {l : List Int} {n : Int} {w : World} (h : Ints w v l) (hl : l.length ≤ 2097152) :
    Calls Try.prog 153 #[v, .int .i64 n] w fun e w' => (∃ r : Int, e = .returned (.int .i64 r) ∧ decide (0 ≤ r) = decide (n ∈ l)) ∧ w = w' := by
  obtain ⟨A, c, rfl, hlc, hcm, hrd⟩ := h
  go_enter Try.func153, Try.ntmps153
  go_wp2
  go_loop [8] (fun i => ∃ k : Nat, k ≤ l.length ∧ i = .int .i64 k ∧ Hid (n ∉ l.take k)) (fun i => l.length - (intOf i).toNat)
  case atStart => exact ⟨0, Nat.zero_le _, rfl, Lib.hid (by simp)⟩
  case round =>
    obtain ⟨k, hk, rfl, HN⟩ := hrel
    by_cases hlt : k < l.length
    · obtain ⟨b, o, x, rfl, hbl, hxk, hcell⟩ := hrd.int_at hlt
      have hmem : x ∈ l := List.mem_of_getElem? hxk
      have HT := Lib.hid (take_snoc hxk)
      clear hxk
      rcases he : n == x with _ | _
      · have hne : ¬ n = x := by simpa using he
        go_wp2
        go_round
        case rel => exact ⟨k + 1, by omega, by go_num, Lib.hid (by rw [HT.out]; simp [hne]; exact HN.out)⟩
        case measure => simp [intOf]; omega
      · have hne : n = x := by simpa using he
        go_wp2
        go_ret
        exact ⟨⟨_, rfl, by simp⟩, rfl⟩
    · have HE := Lib.hid (show l.take k = l from List.take_of_length_le (by omega))
      go_wp2
      go_ret
      exact ⟨⟨_, rfl, by have := HN.out; rw [HE.out] at this; simp [this]⟩, rfl⟩
theorem c_slices_Contains {v : Value} {l : List Int} {n : Int} {w : World} (h : Ints w v l) (hl : l.length ≤ 2097152) :
    Calls Try.prog 152 #[v, .int .i64 n] w fun e w' => e = .returned (.bool (decide (n ∈ l))) ∧ w = w' := by
  have H := Lib.hid h
  obtain ⟨A, c, rfl, -⟩ := h
  go_enter Try.func152, Try.ntmps152
  go_wp2_with fail
  refine (c_slices_Index H.out hl).mono ?_
  rintro e w1 ⟨⟨r, rfl, hr⟩, rfl⟩
  go_wp2
  all_goals (go_ret; exact ⟨by rw [← hr]; simp [*], rfl⟩)
theorem c_impl_areDifferent {v : Value} {l : List Int} {w : World} (h : Ints w v l) (hl : l.length ≤ 2097152) :
    Calls Try.prog 149 #[v] w fun e w' => e = .returned (.bool (decide l.Nodup)) ∧ w = w' := by
  have H := Lib.hid h
  obtain ⟨A, c, rfl, hlc, hcm, hrd⟩ := h
  go_enter Try.func149, Try.ntmps149
  go_wp2
  go_loop [7] (fun i => ∃ k : Nat, k ≤ l.length ∧ i = .int .i64 k ∧ Hid (l.take k).Nodup) (fun i => l.length - (intOf i).toNat)
  case atStart => exact ⟨0, Nat.zero_le _, rfl, Lib.hid (by simp)⟩
  case round =>
    obtain ⟨k, hk, rfl, HN⟩ := hrel
    by_cases hlt : k < l.length
    · obtain ⟨b, o, x, rfl, hbl, hxk, hcell⟩ := hrd.int_at hlt
      have HT := Lib.hid (take_snoc hxk)
      have HH := Lib.hid (H.out.head hk)
      clear hxk
      unfold maxLen at hcm
      go_wp2_with fail
      refine (c_slices_Contains HH.out (by simp; omega)).mono ?_
      rintro e w1 ⟨rfl, rfl⟩
      by_cases hm : x ∈ l.take k
      · rw [decide_eq_true hm]
        go_wp2
        go_ret
        exact ⟨by
          have : ¬ l.Nodup := fun hn => by
            have h2 : (l.take (k + 1)).Nodup := hn.sublist (List.take_sublist _ _)
            rw [HT.out] at h2
            exact (nodup_snoc.1 h2).2 hm
          simp [this], rfl⟩
      · rw [decide_eq_false hm]
        go_wp2
        go_round
        case rel => exact ⟨k + 1, by omega, by go_num, Lib.hid (by rw [HT.out]; exact nodup_snoc.2 ⟨HN.out, hm⟩)⟩
        case measure => simp [intOf]; omega
    · have HE := Lib.hid (show l.take k = l from List.take_of_length_le (by omega))
      go_wp2
      go_ret
      exact ⟨by have := HN.out; rw [HE.out] at this; simp [this], rfl⟩
end Go.Proofs.Ytmccfdaaneemfaa
