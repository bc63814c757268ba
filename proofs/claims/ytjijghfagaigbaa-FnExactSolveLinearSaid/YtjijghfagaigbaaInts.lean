/- Contracts of the laws' own helpers on slices of integers: the copy, the comparison, the marks. Conditions: the lists are short. -/
import Derived.Test.YtjijghfagaigbaaDig2
import Derived.Deep.QuietTactic
import Derived.BigQuiet
namespace Go.Proofs.Ytjijghfagaigbaa
open Go.RowKit
set_option linter.unusedVariables false

theorem fill_set (l : List Int) (k : Nat) (x : Int) (hk : k < l.length) (hx : l[k]? = some x) :
    (((l.take k).map (Value.int .i64)) ++ List.replicate (l.length - k) (Value.int .i64 0)).set k (.int .i64 x) = ((l.take (k + 1)).map (Value.int .i64)) ++ List.replicate (l.length - (k + 1)) (Value.int .i64 0) := by
  have h1 : l.take (k + 1) = l.take k ++ [x] := by
    rw [List.take_add_one, hx]; rfl
  have h2 : l.length - k = (l.length - (k + 1)) + 1 := by omega
  rw [h1, h2, List.replicate_succ, List.set_append_right _ _ (by simp; omega)]
  simp [Nat.min_eq_left (Nat.le_of_lt hk)]

set_option maxHeartbeats 400000 in
theorem c_laws_toIntS {v : Value} {l : List Int} {w : World} (h : Ints w v l) (hl : l.length ≤ 1048576) : Calls Try.prog 7 #[v] w (RetI w l) := by
  obtain ⟨A, c, rfl, hlc, hcm, hrd⟩ := h
  obtain ⟨i0, hi0, hz0, hz1, hz2⟩ := info_parts info_int
  go_enter Try.func7, Try.ntmps7
  go_wp2_with (at_make; refine wpList_make_full _ rfl _ _ 23 rfl w.heap.size 3 i0 (.int .i64 0) 1 Try.underlying23 hi0 hz0 hz1 _ _ _ _ l.length rfl rfl rfl rfl (by rw [hz2]; omega) (by unfold maxLen; omega) (Nat.le_refl _) ?_; intro w1 hown hg)
  have hown1 : w1.ownsRow w.heap.size 3 1 (.slice (some ⟨w.heap.size, 0, none⟩) l.length l.length) l.length (((l.take 0).map (Value.int .i64)) ++ List.replicate (l.length - 0) (Value.int .i64 0)) := by
    have e := toList_madeCells_one (.int .i64 0) l.length
    simp only [Nat.mul_one] at hown
    rw [show (Value.int IntKind.i64 0).cells = #[.int .i64 0] from rfl, e] at hown
    simpa using hown
  have hb1 : Below w.heap.size w w1 := (Below.refl _ _).grown hg (Nat.le_refl _) (by simp)
  clear hown hg
  go_loopw [4] (fun i wr => ∃ k : Nat, k ≤ l.length ∧ i = .int .i64 k ∧ wr.ownsRow w.heap.size 3 1 (.slice (some ⟨w.heap.size, 0, none⟩) l.length l.length) l.length (((l.take k).map (Value.int .i64)) ++ List.replicate (l.length - k) (Value.int .i64 0)) ∧ Below w.heap.size w wr) (fun i _ => l.length - (intOf i).toNat)
  case atStart => exact ⟨0, Nat.zero_le _, rfl, hown1, hb1⟩
  case round =>
    obtain ⟨k, hk, rfl, hown, hb⟩ := hrel
    clear hown1 hb1
    by_cases hlt : k < l.length
    · obtain ⟨b, o, x, rfl, hbl, hx, hcell⟩ := (hrd.below hb).int_at hlt
      have hfr := hown.frozenAt k
      have hold : wr.cell? ⟨w.heap.size, k, none⟩ = some ((((l.take k).map (Value.int .i64)) ++ List.replicate (l.length - k) (Value.int .i64 0))[k]'(by simp; omega)) := by
        rw [hown.cellAt k (by omega)]; exact List.getElem?_eq_getElem _
      generalize ((((l.take k).map (Value.int .i64)) ++ List.replicate (l.length - k) (Value.int .i64 0))[k]'(by simp; omega)) = old at hold
      have HS := Lib.hid (hown.stored k (.int .i64 x)).1
      have HF := Lib.hid (fill_set l k x hlt hx)
      have hb2 : Below w.heap.size w (wr.setCell ⟨w.heap.size, k, none⟩ (.int .i64 x)) := hb.setCell (Nat.le_refl _) _
      have HB := Lib.hid hb2
      clear hb2 hown hx hb
      go_wp2
      go_roundw
      case rel => exact ⟨k + 1, by omega, by go_num, by have := HS.out; rw [HF.out] at this; exact this, HB.out⟩
      case measure => simp [intOf]; omega
    · obtain rfl : k = l.length := by omega
      have HO := Lib.hid hown
      have HB := Lib.hid hb
      clear hown hb
      go_wp2
      go_ret
      exact RetI.mk (by have := HO.out; simpa [OwnI] using this) HB.out

/-- The comparison of two slices that read as one list: true. -/
theorem c_laws_eqIntS {va vb : Value} {l : List Int} {w : World} (ha : Ints w va l) (hb : Ints w vb l) (hl : l.length ≤ 2097152) :
    Calls Try.prog 9 #[va, vb] w fun e w' => e = .returned (.bool true) ∧ Below w.heap.size w w' := by
  obtain ⟨A, c, rfl, hlc, hcm, hrd⟩ := ha
  obtain ⟨A', c', rfl, hlc', hcm', hrd'⟩ := hb
  go_enter Try.func9, Try.ntmps9
  go_wp2
  go_loopw [5] (fun i wr => ∃ k n : Nat, k ≤ l.length ∧ i = .int .i64 k ∧ wr = w.drewN n) (fun i _ => l.length - (intOf i).toNat)
  case atStart => exact ⟨0, 0, Nat.zero_le _, rfl, rfl⟩
  case round =>
    obtain ⟨k, n, hk, rfl, rfl⟩ := hrel
    by_cases hlt : k < l.length
    · obtain ⟨b, o, x, rfl, hbl, hx, hcell⟩ := hrd.int_at hlt
      obtain ⟨b', o', x', rfl, hbl', hx', hcell'⟩ := hrd'.int_at hlt
      obtain rfl : x = x' := by rw [hx] at hx'; exact Option.some.inj hx'
      clear hx hx'
      go_wp2
      go_quiet (fail)
      go_wp2
      go_roundw
      case rel => exact ⟨k + 1, _, by omega, by go_num, rfl⟩
      case measure => simp [intOf]; omega
    · go_wp2
      go_ret
      exact ⟨rfl, below_drewN (Below.refl _ _) n⟩

/-- The marks k, k + 1, .. of n places. -/
def marks (k : Int) (n : Nat) : List Int := (List.range n).map fun (i : Nat) => k + (i : Int)
theorem marks_length (k : Int) (n : Nat) : (marks k n).length = n := by simp [marks]
theorem marks_set (l : List Int) (k : Int) (j : Nat) (hj : j < l.length) :
    ((marks k j ++ l.drop j).map (Value.int .i64)).set j (.int .i64 (k + j)) = (marks k (j + 1) ++ l.drop (j + 1)).map (Value.int .i64) := by
  have h1 : l.drop j = l[j] :: l.drop (j + 1) := List.drop_eq_getElem_cons hj
  have h2 : marks k (j + 1) = marks k j ++ [k + (j : Int)] := by simp [marks, List.range_succ]
  rw [h1, h2, List.map_append, List.set_append_right _ _ (by simp [marks_length]), List.map_append, List.map_append]
  simp only [List.length_map, marks_length, Nat.sub_self, List.map_cons, List.set_cons_zero, List.map_nil, List.append_assoc, List.singleton_append]

theorem c_laws_markIntS {v : Value} {l : List Int} {w : World} {B : Nat} {k : Int} (h : OwnI w B v l) (hl : l.length ≤ 2097152) (hk : 0 ≤ k ∧ k ≤ 1000000000) :
    Calls Try.prog 12 #[v, .int .i64 k] w fun e w' => e = .returned (.int .i64 (k + l.length)) ∧ OwnI w' B v (marks k l.length) ∧ w.grownBy w' v.ownBlock := by
  obtain ⟨A, c, rfl, hlc, hcm, hrd⟩ := own_form h
  have hst : w.ownsRow B 3 1 (.slice A l.length c) l.length ((marks k 0 ++ l.drop 0).map (Value.int .i64)) := by simpa [marks, OwnI] using h
  clear h hrd
  go_enter Try.func12, Try.ntmps12
  go_wp2
  go_loopw [1, 5] (fun q i wr => ∃ j : Nat, j ≤ l.length ∧ i = .int .i64 j ∧ q = .int .i64 (k + j) ∧ wr.ownsRow B 3 1 (.slice A l.length c) l.length ((marks k j ++ l.drop j).map (Value.int .i64)) ∧ w.grownBy wr (Value.slice A l.length c).ownBlock) (fun _ i _ => l.length - (intOf i).toNat)
  case atStart => exact ⟨0, Nat.zero_le _, rfl, by simp, hst, only_refl _ _⟩
  case round =>
    obtain ⟨j, hj, rfl, rfl, hown, hgr⟩ := hrel
    clear hst
    by_cases hlt : j < l.length
    · obtain ⟨g, c', e, hB, hg, _, _⟩ := own_pos hown (by omega)
      injection e with e1 e2 e3
      subst e1
      clear e2 e3
      have hfr := hown.frozenAt j
      obtain ⟨old, hold⟩ : ∃ old, wr.cell? ⟨g, j, none⟩ = some old := by
        rw [hown.cellAt j (by omega)]; exact ⟨_, List.getElem?_eq_getElem (by simp [marks_length]; omega)⟩
      have HS := Lib.hid (hown.stored j (.int .i64 (k + j)))
      have HF := Lib.hid (marks_set l k j hlt)
      have HG := Lib.hid hgr
      clear hown hgr
      go_wp2
      go_roundw
      case rel => exact ⟨j + 1, by omega, by go_num, by rw [show ((j + 1 : Nat) : Int) = (j : Int) + 1 by omega]; congr 1; omega, by have := HS.out.1; rw [HF.out] at this; exact this, only_trans HG.out HS.out.2⟩
      case measure => simp [intOf]; omega
    · obtain rfl : j = l.length := by omega
      have HO := Lib.hid hown
      have HG := Lib.hid hgr
      clear hown hgr
      go_wp2
      go_ret
      exact ⟨rfl, by have := HO.out; simpa [OwnI, marks_length] using this, HG.out⟩

theorem c_laws_heldIntS {v : Value} {n : Nat} {w : World} {k : Int} (h : Ints w v (marks k n)) (hl : n ≤ 2097152) (hk : 0 ≤ k ∧ k ≤ 1000000000) :
    Calls Try.prog 13 #[v, .int .i64 k] w fun e w' => e = .returned (.int .i64 (k + n)) ∧ w = w' := by
  obtain ⟨A, c, rfl, hlc, hcm, hrd⟩ := h
  have hml := Lib.hid (marks_length k n)
  rw [hml.out] at hlc ⊢
  go_enter Try.func13, Try.ntmps13
  go_wp2
  go_loop [1, 5] (fun q i => ∃ j : Nat, j ≤ n ∧ i = .int .i64 j ∧ q = .int .i64 (k + j)) (fun _ i => n - (intOf i).toNat)
  case atStart => exact ⟨0, Nat.zero_le _, rfl, by simp⟩
  case round =>
    obtain ⟨j, hj, rfl, rfl⟩ := hrel
    by_cases hlt : j < n
    · obtain ⟨b, o, x, rfl, hbl, hx, hcell⟩ := hrd.int_at (k := j) (by rw [hml.out]; exact hlt)
      obtain rfl : x = k + j := by simp [marks, hlt] at hx; omega
      clear hx
      go_wp2
      go_round
      case rel => exact ⟨j + 1, by omega, by go_num, by rw [show ((j + 1 : Nat) : Int) = (j : Int) + 1 by omega]; congr 1; omega⟩
      case measure => simp [intOf]; omega
    · obtain rfl : j = n := by omega
      go_wp2
      go_ret
      exact ⟨rfl, rfl⟩

/-- Two owned slices, the one below B, the other from B on, lie apart. -/
theorem apart_new {B : Nat} {u v : Value} (hv : ∀ g, v.ownBlock = some g → B ≤ g) (hu : ∀ g, u.ownBlock = some g → g < B) : ∀ g, v.ownBlock = some g → some g ≠ u.ownBlock :=
  fun g hg e => by have h1 := hv g hg; have h2 := hu g e.symm; omega
theorem apart_old {B : Nat} {u v : Value} (hv : ∀ g, v.ownBlock = some g → B ≤ g) (hu : ∀ g, u.ownBlock = some g → g < B) : ∀ g, u.ownBlock = some g → some g ≠ v.ownBlock :=
  fun g hg e => by have h1 := hu g hg; have h2 := hv g e.symm; omega
theorem below_row {w a b : World} {row : Option Nat} (h : Below w.heap.size w a) (k : a.grownBy b row) (hr : ∀ g, row = some g → w.heap.size ≤ g) : Below w.heap.size w b := h.grown k h.size hr
end Go.Proofs.Ytjijghfagaigbaa
