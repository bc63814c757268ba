/- Lists that are made of two lists of shares; the laws' comparison of equal lists; the joining of shares. Conditions: the lists are short. -/
import Derived.Test.YtejeppjmlgfiaaaRefA
import Derived.Deep.RegionHeld3
namespace Go.Proofs.Ytejeppjmlgfiaaa
open Go.RowKit
set_option linter.unusedVariables false

def combN (f : Int → Int → Int) (p : Int) (a b : List Int) : List Int := List.zipWith (fun x y => f x y % p) a b
noncomputable def combM (f : Int → Int → Int) (p : Int) (a b : List Int) : Option (List Int) := if shB p a && shB p b && decide ((a.length : Int) = (b.length : Int)) then some (combN f p a b) else none
theorem combN_snoc {f : Int → Int → Int} {p : Int} {a b : List Int} {k : Nat} {x y : Int} (hx : a[k]? = some x) (hy : b[k]? = some y) : combN f p (a.take (k + 1)) (b.take (k + 1)) = combN f p (a.take k) (b.take k) ++ [f x y % p] := by
  have ha : k < a.length := (List.getElem?_eq_some_iff.1 hx).1
  have hb : k < b.length := (List.getElem?_eq_some_iff.1 hy).1
  rw [take_snoc hx, take_snoc hy]
  unfold combN
  rw [List.zipWith_append (by simp; omega)]; rfl
theorem mulBd2 {x y a b : Int} (hx : 0 ≤ x ∧ x ≤ a) (hy : 0 ≤ y ∧ y ≤ b) : 0 ≤ x * y ∧ x * y ≤ a * b :=
  ⟨Int.mul_nonneg hx.1 hy.1, Int.mul_le_mul hx.2 hy.2 hy.1 (by omega)⟩
theorem shB_of {p : Int} {l : List Int} (h : shB p l = true) : fldB p = true ∧ (∀ x ∈ l, 0 ≤ x ∧ x < p) ∧ l.length ≤ 40 := by
  simp only [shB, Bool.and_eq_true, decide_eq_true_eq] at h
  have := fpInB_of h.1
  exact ⟨this.1, this.2, by omega⟩
theorem shB_mk {p : Int} {l : List Int} (hf : fldB p = true) (h : ∀ x ∈ l, 0 ≤ x ∧ x < p) (hl : l.length ≤ 40) : shB p l = true := by
  unfold shB fpInB allB
  rw [hf, decide_eq_true (by omega : (l.length : Int) ≤ 40)]
  have : l.all (fun x => inB x 0 (p - 1)) = true := List.all_eq_true.2 fun x hx => inB_mk (h x hx).1 (by have := (h x hx).2; omega)
  simp [this]
theorem combN_length (f : Int → Int → Int) (p : Int) (a b : List Int) (h : a.length = b.length) : (combN f p a b).length = a.length := by unfold combN; rw [List.length_zipWith, h, Nat.min_self]
theorem combN_bd {p : Int} (hp : 0 < p) (f : Int → Int → Int) (a b : List Int) : ∀ z ∈ combN f p a b, 0 ≤ z ∧ z < p := by
  intro z hz
  unfold combN at hz
  obtain ⟨i, hi, rfl⟩ := List.getElem_of_mem hz
  rw [List.getElem_zipWith]
  exact mod_bd _ hp
theorem add_length {p : Int} {a b : List Int} (h : a.length = b.length) : (addM p a b).length = a.length := by unfold addM; rw [List.length_zipWith, h, Nat.min_self]
theorem add_bd {p : Int} (hp : 0 < p) (a b : List Int) : ∀ z ∈ addM p a b, 0 ≤ z ∧ z < p := by
  intro z hz
  unfold addM at hz
  obtain ⟨i, hi, rfl⟩ := List.getElem_of_mem hz
  rw [List.getElem_zipWith]
  exact mod_bd _ hp
theorem addOM_some {p : Int} {a b : List Int} (ha : shB p a = true) (hb : shB p b = true) (h : a.length = b.length) : addOM p a b = some (addM p a b) := by
  unfold addOM; rw [ha, hb, decide_eq_true (by omega : (a.length : Int) = (b.length : Int))]; rfl
set_option maxHeartbeats 1000000 in
theorem c_laws_sameInts {va vb : Value} {l : List Int} {w : World} (ha : Ints w va l) (hb' : Ints w vb l) (hl : l.length ≤ 2097152) :
    Calls Try.prog 24 #[va, vb] w fun e w' => e = .returned (.bool true) ∧ Below w.heap.size w w' := by
  obtain ⟨A, c, rfl, hlc, hcm, hrd⟩ := ha
  obtain ⟨A', c', rfl, hlc', hcm', hrd'⟩ := hb'
  go_enter Try.func24, Try.ntmps24
  go_wp2
  go_loopw [13] (fun i wr => ∃ k : Nat, k ≤ l.length ∧ i = .int .i64 k ∧ Hid (Below w.heap.size w wr)) (fun i _ => l.length - (intOf i).toNat)
  case atStart => exact ⟨0, Nat.zero_le _, rfl, Lib.hid (Below.refl _ _)⟩
  case round =>
    obtain ⟨k, hk, rfl, HB⟩ := hrel
    obtain ⟨wa, rfl⟩ : ∃ W, W = wr := ⟨wr, rfl⟩
    by_cases hlt : k < l.length
    · obtain ⟨b1, o1, x, rfl, hbl, hxk, hcell⟩ := hrd.int_at hlt
      obtain ⟨b2, o2, y, rfl, hbl2, hyk, hcell2⟩ := hrd'.int_at hlt
      obtain rfl : x = y := by rw [hxk] at hyk; injection hyk
      have e1 := (HB.out.cell (p := ⟨b1, o1 + k, none⟩) hbl).trans hcell
      have e2 := (HB.out.cell (p := ⟨b2, o2 + k, none⟩) hbl2).trans hcell2
      have hk0 : (0 : Int) ≤ (k : Int) := Int.natCast_nonneg _
      have hk1 : (k : Int) < (l.length : Int) := by omega
      clear hxk hyk hcell hcell2
      go_wp2_with fail
      go_region_held3 (fun w' => w'.cell? ⟨b1, o1 + k, none⟩ = some (.int .i64 x) ∧ w'.cell? ⟨b2, o2 + k, none⟩ = some (.int .i64 x)) (exact ⟨e1, e2⟩) (fail)
      go_wp2
      go_roundw
      case rel => exact ⟨k + 1, by omega, by go_num, Lib.hid HB.out.drew⟩
      case measure => simp [intOf]; omega
    · go_wp2
      go_ret
      exact ⟨rfl, HB.out⟩
set_option maxHeartbeats 1000000 in
theorem c_laws_qInts {va vb : Value} {l : List Int} {w : World} (ha : Ints w va l) (hb' : Ints w vb l) (hl : l.length ≤ 2097152) :
    Calls Try.prog 18 #[va, vb] w fun e w' => e = .returned (.bool true) ∧ Below w.heap.size w w' := by
  obtain ⟨A, c, rfl, hlc, hcm, hrd⟩ := ha
  obtain ⟨A', c', rfl, hlc', hcm', hrd'⟩ := hb'
  go_enter Try.func18, Try.ntmps18
  go_wp2
  go_loopw [13] (fun i wr => ∃ k : Nat, k ≤ l.length ∧ i = .int .i64 k ∧ Hid (Below w.heap.size w wr)) (fun i _ => l.length - (intOf i).toNat)
  case atStart => exact ⟨0, Nat.zero_le _, rfl, Lib.hid (Below.refl _ _)⟩
  case round =>
    obtain ⟨k, hk, rfl, HB⟩ := hrel
    obtain ⟨wa, rfl⟩ : ∃ W, W = wr := ⟨wr, rfl⟩
    by_cases hlt : k < l.length
    · obtain ⟨b1, o1, x, rfl, hbl, hxk, hcell⟩ := hrd.int_at hlt
      obtain ⟨b2, o2, y, rfl, hbl2, hyk, hcell2⟩ := hrd'.int_at hlt
      obtain rfl : x = y := by rw [hxk] at hyk; injection hyk
      have e1 := (HB.out.cell (p := ⟨b1, o1 + k, none⟩) hbl).trans hcell
      have e2 := (HB.out.cell (p := ⟨b2, o2 + k, none⟩) hbl2).trans hcell2
      have hk0 : (0 : Int) ≤ (k : Int) := Int.natCast_nonneg _
      have hk1 : (k : Int) < (l.length : Int) := by omega
      clear hxk hyk hcell hcell2
      go_wp2_with fail
      go_region_held3 (fun w' => w'.cell? ⟨b1, o1 + k, none⟩ = some (.int .i64 x) ∧ w'.cell? ⟨b2, o2 + k, none⟩ = some (.int .i64 x)) (exact ⟨e1, e2⟩) (fail)
      go_wp2
      go_roundw
      case rel => exact ⟨k + 1, by omega, by go_num, Lib.hid HB.out.drew⟩
      case measure => simp [intOf]; omega
    · go_wp2
      go_ret
      exact ⟨rfl, HB.out⟩
end Go.Proofs.Ytejeppjmlgfiaaa
