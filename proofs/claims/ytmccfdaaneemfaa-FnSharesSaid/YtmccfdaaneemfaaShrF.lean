/- Contracts of the sum of products of shares. Conditions: the lists are short. -/
import Derived.Test.YtmccfdaaneemfaaShrD
namespace Go.Proofs.Ytmccfdaaneemfaa
open Go.RowKit
set_option linter.unusedVariables false

noncomputable def innM (p : Int) (a b : List Int) : Option Int := if shB p a && shB p b && decide ((a.length : Int) = (b.length : Int)) then some ((combN (fun x y => x * y) p a b).sum % p) else none
theorem sum_bd {m : Int} (hm : 0 ≤ m) : ∀ {l : List Int}, (∀ x ∈ l, 0 ≤ x ∧ x ≤ m) → 0 ≤ l.sum ∧ l.sum ≤ m * l.length
  | [], _ => by simp
  | x :: l, h => by
    have h1 := h x (by simp)
    have h2 := sum_bd hm (l := l) fun y hy => h y (by simp [hy])
    simp only [List.sum_cons, List.length_cons]
    have : m * ((l.length + 1 : Nat) : Int) = m * l.length + m := by rw [Int.natCast_succ, Int.mul_add, Int.mul_one]
    omega
theorem sum_take_snoc {l : List Int} {k : Nat} {x : Int} (h : l[k]? = some x) : (l.take (k + 1)).sum = (l.take k).sum + x := by rw [take_snoc h]; simp
theorem mem_take_bd {l : List Int} {m : Int} (h : ∀ x ∈ l, 0 ≤ x ∧ x ≤ m) (k : Nat) : ∀ x ∈ l.take k, 0 ≤ x ∧ x ≤ m := fun x hx => h x (List.mem_of_mem_take hx)
theorem c_impl_sumOf {v : Value} {l : List Int} {w : World} (h : Ints w v l) (hl : l.length ≤ 1000) (hx : ∀ x ∈ l, 0 ≤ x ∧ x ≤ 1000000) : Calls Try.prog 105 #[v] w fun e w' => e = .returned (.int .i64 l.sum) ∧ w = w' := by
  have HX := Lib.hid hx
  obtain ⟨A, c, rfl, hlc, hcm, hrd⟩ := h
  clear hx
  go_enter Try.func105, Try.ntmps105
  go_wp2
  go_loopw [3, 8] (fun s i wr => ∃ k : Nat, k ≤ l.length ∧ i = .int .i64 k ∧ s = .int .i64 (l.take k).sum ∧ w = wr) (fun _ i _ => l.length - (intOf i).toNat)
  case atStart => exact ⟨0, Nat.zero_le _, rfl, rfl, rfl⟩
  case round =>
    obtain ⟨k, hk, rfl, rfl, rfl⟩ := hrel
    by_cases hlt : k < l.length
    · obtain ⟨b, o, x, rfl, hbl, hxk, hcell⟩ := hrd.int_at hlt
      have HT := Lib.hid (sum_take_snoc hxk)
      have hb := sum_bd (m := 1000000) (by omega) (mem_take_bd HX.out k)
      have hx1 := HX.out x (List.mem_of_getElem? hxk)
      have hlen : (l.take k).length ≤ 1000 := by simp; omega
      have hbd : 0 ≤ (l.take k).sum ∧ (l.take k).sum ≤ 1000000000 := by omega
      generalize (l.take k).sum = S at *
      clear hxk hb
      go_wp2
      go_roundw
      case rel => exact ⟨k + 1, by omega, by go_num, by rw [HT.out], trivial⟩
      case measure => simp [intOf]; omega
    · have HE := Lib.hid (show l.take k = l from List.take_of_length_le (by omega))
      go_wp2
      go_ret
      exact ⟨by rw [HE.out]; rfl, rfl⟩
theorem c_impl_InnerShares {va vb : Value} {a b : List Int} {p : Int} {w : World} (ha : Ints w va a) (hb' : Ints w vb b) (hla : a.length ≤ 2097152) (hlb : b.length ≤ 2097152) :
    Calls Try.prog 50 #[.int .i64 p, va, vb] w fun e w' => e = .returned (.tuple #[.int .i64 (oV (innM p a b)), .bool (oB (innM p a b))]) ∧ Below w.heap.size w w' := by
  have HA := Lib.hid ha
  have HB := Lib.hid hb'
  obtain ⟨A, c, rfl, -⟩ := ha
  obtain ⟨A', c', rfl, -⟩ := hb'
  rcases hc : (shB p a && shB p b && decide ((a.length : Int) = (b.length : Int))) with _ | _
  · have HM := Lib.hid (show innM p a b = none by unfold innM; rw [hc]; rfl)
    have HC := Lib.hid (show combM (fun x y => x * y) p a b = none by unfold combM; rw [hc]; rfl)
    go_enter Try.func50, Try.ntmps50
    go_wp2_with fail
    refine (c_combined_InnerShares HA.out HB.out hla hlb).mono ?_
    rintro e w1 ⟨u, rfl, hu, hb1⟩
    rw [HC.out] at hu ⊢
    have HB1 := Lib.hid hb1
    clear hb1 hu
    go_wp2
    go_ret2; rw [HM.out]; exact ⟨rfl, HB1.out⟩
  · have HM := Lib.hid (show innM p a b = some ((combN (fun x y => x * y) p a b).sum % p) by unfold innM; rw [hc]; rfl)
    have HC := Lib.hid (show combM (fun x y => x * y) p a b = some (combN (fun x y => x * y) p a b) by unfold combM; rw [hc]; rfl)
    simp only [Bool.and_eq_true, decide_eq_true_eq] at hc
    have hs := shB_of hc.1.1
    have hpb := fldB_bd hs.1
    have hcl := combN_length (fun x y => x * y) p a b (by omega)
    have HCB := Lib.hid (combN_bd (p := p) (by omega) (fun x y => x * y) a b)
    have hc40 : (combN (fun x y => x * y) p a b).length ≤ 40 := by rw [hcl]; exact hs.2.2
    have hsb := sum_bd (m := 251) (by omega) (fun x hx => by have := HCB.out x hx; omega : ∀ x ∈ combN (fun x y => x * y) p a b, 0 ≤ x ∧ x ≤ 251)
    have hsn : 0 ≤ (combN (fun x y => x * y) p a b).sum ∧ (combN (fun x y => x * y) p a b).sum ≤ 100000 := by omega
    have hp0 : ¬ p = 0 := by omega
    clear hc hs hcl hsb
    generalize combN (fun x y => x * y) p a b = L at *
    go_enter Try.func50, Try.ntmps50
    go_wp2_with fail
    refine (c_combined_InnerShares HA.out HB.out hla hlb).mono ?_
    rintro e w1 ⟨u, rfl, hu, hb1⟩
    rw [HC.out] at hu ⊢
    have HU := Lib.hid (show Ints w1 u L from OwnI.ints hu)
    obtain ⟨A1, c1, rfl, -⟩ := HU.out
    have HB1 := Lib.hid hb1
    clear hb1 hu
    go_wp2_with fail
    refine (c_impl_sumOf HU.out (by omega) (fun x hx => by have := HCB.out x hx; omega)).mono ?_
    rintro e w' ⟨rfl, rfl⟩
    have HE := Lib.hid (Int.tmod_eq_emod_of_nonneg (b := p) hsn.1)
    go_wp2
    go_ret2; rw [HM.out]
    first | exact ⟨rfl, HB1.out⟩ | exact ⟨by rw [HE.out]; rfl, HB1.out⟩ | exact ⟨by rw [← HE.out]; rfl, HB1.out⟩
set_option maxHeartbeats 1000000 in
theorem c_spec_InnerShares {va vb : Value} {a b : List Int} {p : Int} {w : World} (ha : Ints w va a) (hb' : Ints w vb b) (hla : a.length ≤ 2097152) (hlb : b.length ≤ 2097152) :
    Calls Try.prog 51 #[.int .i64 p, va, vb] w fun e w' => e = .returned (.tuple #[.int .i64 (oV (innM p a b)), .bool (oB (innM p a b))]) ∧ w = w' := by
  have HA := Lib.hid ha
  have HB := Lib.hid hb'
  obtain ⟨A, c, rfl, hlc, hcm, hrd⟩ := ha
  obtain ⟨A', c', rfl, hlc', hcm', hrd'⟩ := hb'
  rcases h1 : shB p a with _ | _
  · have HM := Lib.hid (show innM p a b = none by unfold innM; rw [h1]; rfl)
    go_enter Try.func51, Try.ntmps51
    go_wp2_with fail
    refine (c_spec_shValues HA.out hla).mono ?_
    rintro e w' ⟨rfl, rfl⟩
    rw [h1]
    go_wp2
    go_ret2; rw [HM.out]; exact ⟨rfl, rfl⟩
  rcases h2 : shB p b with _ | _
  · have HM := Lib.hid (show innM p a b = none by unfold innM; rw [h1, h2]; rfl)
    go_enter Try.func51, Try.ntmps51
    go_wp2_with fail
    refine (c_spec_shValues HA.out hla).mono ?_
    rintro e w' ⟨rfl, rfl⟩
    rw [h1]
    go_wp2_with fail
    refine (c_spec_shValues HB.out hlb).mono ?_
    rintro e w' ⟨rfl, rfl⟩
    rw [h2]
    go_wp2
    go_ret2; rw [HM.out]; exact ⟨rfl, rfl⟩
  rcases hn : ((a.length : Int) != (b.length : Int)) with _ | _
  rotate_left
  · have HM := Lib.hid (show innM p a b = none by
      have hab : ¬ (a.length : Int) = (b.length : Int) := by simpa using hn
      unfold innM; rw [decide_eq_false hab]; simp)
    go_enter Try.func51, Try.ntmps51
    go_wp2_with fail
    refine (c_spec_shValues HA.out hla).mono ?_
    rintro e w' ⟨rfl, rfl⟩
    rw [h1]
    go_wp2_with fail
    refine (c_spec_shValues HB.out hlb).mono ?_
    rintro e w' ⟨rfl, rfl⟩
    rw [h2]
    go_wp2
    go_ret2; rw [HM.out]; exact ⟨rfl, rfl⟩
  have hab : (a.length : Int) = (b.length : Int) := by simpa using hn
  have HM := Lib.hid (show innM p a b = some ((combN (fun x y => x * y) p a b).sum % p) by unfold innM; rw [h1, h2, decide_eq_true hab]; rfl)
  have hs := shB_of h1
  have hs2 := shB_of h2
  have hpb := fldB_bd hs.1
  have HXA := Lib.hid hs.2.1
  have HXB := Lib.hid hs2.2.1
  have hl40 := hs.2.2
  have HAB := Lib.hid (show a.length = b.length by omega)
  have hp0 : ¬ p = 0 := by omega
  clear hs hs2 hab
  go_enter Try.func51, Try.ntmps51
  go_wp2_with fail
  refine (c_spec_shValues HA.out hla).mono ?_
  rintro e w' ⟨rfl, rfl⟩
  rw [h1]
  go_wp2_with fail
  refine (c_spec_shValues HB.out hlb).mono ?_
  rintro e w' ⟨rfl, rfl⟩
  rw [h2]
  go_wp2
  go_loopw [8, 30] (fun s i wr => ∃ k : Nat, k ≤ a.length ∧ i = .int .i64 k ∧ s = .int .i64 ((combN (fun x y => x * y) p (a.take k) (b.take k)).sum % p) ∧ w = wr) (fun _ i _ => a.length - (intOf i).toNat)
  case atStart => exact ⟨0, Nat.zero_le _, rfl, by simp [combN], rfl⟩
  case round =>
    obtain ⟨k, hk, rfl, rfl, rfl⟩ := hrel
    by_cases hlt : k < a.length
    · obtain ⟨b1, o1, x, rfl, hbl, hxk, hcell⟩ := hrd.int_at hlt
      obtain ⟨b2, o2, y, rfl, hbl2, hyk, hcell2⟩ := hrd'.int_at (k := k) (by rw [← HAB.out]; exact hlt)
      have hx1 := HXA.out x (List.mem_of_getElem? hxk)
      have hy1 := HXB.out y (List.mem_of_getElem? hyk)
      have hxy := mulBd2 (x := x) (y := y) (a := 300) (b := 300) (by omega) (by omega)
      have HT := Lib.hid (combN_snoc (f := fun x y => x * y) (p := p) hxk hyk)
      have hk0 : (0 : Int) ≤ (k : Int) := Int.natCast_nonneg _
      have hk2 : (k : Int) < (b.length : Int) := by have := HAB.out; omega
      generalize combN (fun x y => x * y) p (a.take k) (b.take k) = Sk at *
      have hSb := mod_bd Sk.sum (p := p) (by omega)
      have HS := Lib.hid (show (Sk ++ [x * y % p]).sum % p = (Sk.sum % p + x * y) % p by rw [List.sum_append]; simp [Int.add_emod])
      generalize Sk.sum % p = S at *
      have HE := Lib.hid (Int.tmod_eq_emod_of_nonneg (b := p) (show 0 ≤ S + x * y by omega))
      clear hxk hyk
      go_wp2
      go_roundw
      case rel => exact ⟨k + 1, by omega, by go_num, by rw [HT.out, HS.out], trivial⟩
      case measure => simp [intOf]; omega
    · have HE := Lib.hid (show a.take k = a from List.take_of_length_le (by omega))
      have HE2 := Lib.hid (show b.take k = b from List.take_of_length_le (by rw [← HAB.out]; omega))
      go_wp2
      go_ret2; rw [HM.out, HE.out, HE2.out]; exact ⟨rfl, rfl⟩
end Go.Proofs.Ytmccfdaaneemfaa
