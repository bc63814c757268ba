/- Contracts of the exported functions on single labels. They leave memory alone. No condition. -/
import Derived.Test.YtejeppjmlgfiaaaGreatHa3
import Derived.Test.YtejeppjmlgfiaaaGreatHa7
import Derived.StillTailTactics
namespace Go.Proofs.YtejeppjmlgfiaaaGreat
open Go.RowKit
set_option linter.unusedVariables false

def colourM (l : Int) : Option Int := if inB l 0 65535 then some (l % 2) else none
def labelM (z r b : Int) : Option Int := if inB z 0 65535 && offB r && inB b 0 1 then some (xorI z (r * b)) else none
def bitM (z r l : Int) : Option Int := if inB z 0 65535 && offB r then (if l = z then some 0 else if l = xorI z r then some 1 else none) else none
def freeXorM (x y : Int) : Option Int := if inB x 0 65535 && inB y 0 65535 then some (xorI x y) else none

theorem offB_bd {r : Int} (h : offB r = true) : 0 ≤ r ∧ r ≤ 65535 ∧ r % 2 = 1 := by
  simp [offB] at h; exact ⟨(inB_bd h.1).1, (inB_bd h.1).2, h.2⟩

theorem c_impl_labelOf {z r b : Int} {w : World} (hz : 0 ≤ z ∧ z ≤ 65535) (hr : 0 ≤ r ∧ r ≤ 65535) (hb : b = 0 ∨ b = 1) :
    Calls Tryz.prog 83 #[.int .i64 z, .int .i64 r, .int .i64 b] w fun e w' => e = .returned (.int .i64 (xorI z (r * b))) ∧ w = w' := by
  rcases hb with rfl | rfl
  · have hx := bits_xor hz.1 (show (0 : Int) ≤ 0 by omega) (by omega) (by omega)
    go_enter Tryz.func83, Tryz.ntmps83
    go_wp2
    go_ret; exact ⟨by simp [*], rfl⟩
  · have hx := bits_xor hz.1 hr.1 (by omega) (by omega)
    go_enter Tryz.func83, Tryz.ntmps83
    go_wp2
    go_ret; exact ⟨by simp [*], rfl⟩
theorem bit_of {b : Int} (h : inB b 0 1 = true) : b = 0 ∨ b = 1 := by have := inB_bd h; omega
theorem c_impl_BitOf {z r l : Int} {w : World} : Calls Tryz.prog 96 #[.int .i64 z, .int .i64 r, .int .i64 l] w fun e w' => e = .returned (.tuple #[.int .i64 (oV (bitM z r l)), .bool (oB (bitM z r l))]) ∧ w = w' := by
  rcases h1 : inB z 0 65535 with _ | _ <;> rcases h2 : offB r with _ | _
  case true.true =>
    have hx := bits_xor (inB_bd h1).1 (offB_bd h2).1 (by have := inB_bd h1; omega) (by have := offB_bd h2; omega)
    by_cases e1 : l = z
    · subst e1
      have hm : bitM l r l = some 0 := by simp [bitM, h1, h2]
      have b1 : (l != l) = false := by simp
      go_enter Tryz.func96, Tryz.ntmps96
      go_wp2_with (first | (go_at_call 114; refine (c_impl_isLabel).mono ?_; rintro e w' ⟨rfl, rfl⟩) | (go_at_call 81; refine (c_impl_isOffset).mono ?_; rintro e w' ⟨rfl, rfl⟩) | (go_at_call 149; go_in))
      go_ret2; exact ⟨by rw [hm]; rfl, rfl⟩
    · have b1 : (l != z) = true := by simpa using e1
      by_cases e2 : l = xorI z r
      · have b2 : (l != xorI z r) = false := by simpa using e2
        have hm := Lib.hid (show bitM z r l = some 1 by simp only [bitM, h1, h2, Bool.and_self, if_true]; rw [if_neg e1, if_pos e2])
        clear e2
        go_enter Tryz.func96, Tryz.ntmps96
        go_wp2_with (first | (go_at_call 114; refine (c_impl_isLabel).mono ?_; rintro e w' ⟨rfl, rfl⟩) | (go_at_call 81; refine (c_impl_isOffset).mono ?_; rintro e w' ⟨rfl, rfl⟩) | (go_at_call 149; go_in))
        go_ret2; exact ⟨by rw [hm.out]; rfl, rfl⟩
      · have b2 : (l != xorI z r) = true := by simpa using e2
        have hm := Lib.hid (show bitM z r l = none by simp [bitM, h1, h2, e1, e2])
        go_enter Tryz.func96, Tryz.ntmps96
        go_wp2_with (first | (go_at_call 114; refine (c_impl_isLabel).mono ?_; rintro e w' ⟨rfl, rfl⟩) | (go_at_call 81; refine (c_impl_isOffset).mono ?_; rintro e w' ⟨rfl, rfl⟩) | (go_at_call 149; go_in))
        go_ret2; exact ⟨by rw [hm.out]; rfl, rfl⟩
  all_goals
    go_enter Tryz.func96, Tryz.ntmps96
    go_wp2_with (first | (go_at_call 114; refine (c_impl_isLabel).mono ?_; rintro e w' ⟨rfl, rfl⟩) | (go_at_call 81; refine (c_impl_isOffset).mono ?_; rintro e w' ⟨rfl, rfl⟩))
    all_goals (go_ret2; exact ⟨by simp [bitM, oV, oB, *], rfl⟩)
end Go.Proofs.YtejeppjmlgfiaaaGreat

/- Contracts of the colours of labels and of exclusive-ors of lists. Conditions: the lists are short, the labels in range. -/
namespace Go.Proofs.YtejeppjmlgfiaaaGreat
open Go.RowKit
set_option linter.unusedVariables false

/-- The call returns 'list, ok', the list in a new slice; nothing that was there has changed. -/
def RetIB (w : World) (o : Option (List Int)) (e : Ending) (w' : World) : Prop := ∃ u, e = .returned (.tuple #[u, .bool o.isSome]) ∧ OwnI w' w.heap.size u (o.getD []) ∧ Below w.heap.size w w'
theorem RetIB.no (w : World) : RetIB w none (.returned (.tuple #[.slice none 0 0, .bool false])) w := ⟨_, rfl, OwnI.nil _ _, Below.refl _ _⟩
theorem RetIB.no_below {w w' : World} (h : Below w.heap.size w w') : RetIB w none (.returned (.tuple #[.slice none 0 0, .bool false])) w' := ⟨_, rfl, OwnI.nil _ _, h⟩
theorem RetIB.yes {w w' : World} {l : List Int} {u : Value} (h : OwnI w' w.heap.size u l) (hb : Below w.heap.size w w') : RetIB w (some l) (.returned (.tuple #[u, .bool true])) w' := ⟨u, rfl, h, hb⟩

theorem OwnI.snoc {w : World} {B : Nat} {v : Value} {l : List Int} {x : Int} (h : w.ownsRow B 3 1 v (l.length + 1) (l.map (Value.int .i64) ++ [.int .i64 x])) : OwnI w B v (l ++ [x]) := by
  simpa [OwnI] using h
/-- Behind an append onto a row of the call's own. -/
theorem below_app {B E sz n : Nat} {w wr w' : World} {v : Value} {xs : List Value} (h : Below B w wr) (hown : wr.ownsRow B E sz v n xs) (hg : wr.grownBy w' v.ownBlock) (hB : B ≤ w.heap.size) : Below B w w' :=
  h.grown hg (Nat.le_trans hB h.size) (fun g hg' => own_ge hown g hg')

def coloursM (l : List Int) : List Int := l.map (· % 2)

set_option maxHeartbeats 400000 in
theorem c_impl_colours {v : Value} {l : List Int} {w : World} (h : Ints w v l) (hl : l.length ≤ 2097152) (hx : ∀ x ∈ l, 0 ≤ x ∧ x ≤ 9223372036854775807) :
    Calls Tryz.prog 98 #[v] w (RetI w (coloursM l)) := by
  obtain ⟨A, c, rfl, hlc, hcm, hrd⟩ := h
  go_enter Tryz.func98, Tryz.ntmps98
  go_wp2
  go_loopw [3, 9] (fun u i wr => ∃ k : Nat, k ≤ l.length ∧ i = .int .i64 k ∧ OwnI wr w.heap.size u (coloursM (l.take k)) ∧ Below w.heap.size w wr) (fun _ i _ => l.length - (intOf i).toNat)
  case atStart => exact ⟨0, Nat.zero_le _, rfl, OwnI.empty (Nat.le_refl _), (Below.refl _ _).alloc (Nat.le_refl _) _⟩
  case round =>
    obtain ⟨k, hk, rfl, hown, hb⟩ := hrel
    by_cases hlt : k < l.length
    · obtain ⟨b, o, x, rfl, hbl, hxk, hcell⟩ := (hrd.below hb).int_at hlt
      have hxb := hx x (List.mem_of_getElem? hxk)
      have hand := bits_and_one hxb.1 hxb.2
      have HT := Lib.hid (take_snoc hxk)
      have hlen : (coloursM (l.take k)).length ≤ l.length := by simp [coloursM]; omega
      have hsz := hb.size
      clear hxk hx
      go_wp2_with (at_builtin; refine wp_app1 (B := w.heap.size) rfl rfl Tryz.underlying24 info_int rfl hown rfl rfl rfl (by unfold maxLen; omega) (by omega) hsz ?_; intro v' w1 ho hg hfr)
      have HB := Lib.hid (below_app hb hown hg (Nat.le_refl _))
      clear hand
      go_roundw
      case rel => exact ⟨k + 1, by omega, by go_num, by rw [HT.out]; have := OwnI.snoc ho; simpa [coloursM] using this, HB.out⟩
      case measure => simp [intOf]; omega
    · have HE := Lib.hid (show l.take k = l from List.take_of_length_le (by omega))
      go_wp2
      go_ret
      exact RetI.mk (by rw [HE.out] at hown; exact hown) hb

set_option maxHeartbeats 400000 in
theorem c_spec_lbColours {v : Value} {l : List Int} {w : World} (h : Ints w v l) (hl : l.length ≤ 2097152) (hx : ∀ x ∈ l, 0 ≤ x ∧ x ≤ 9223372036854775807) :
    Calls Tryz.prog 68 #[v] w (RetI w (coloursM l)) := by
  obtain ⟨A, c, rfl, hlc, hcm, hrd⟩ := h
  go_enter Tryz.func68, Tryz.ntmps68
  go_wp2
  go_loopw [3, 8] (fun u i wr => ∃ k : Nat, k ≤ l.length ∧ i = .int .i64 k ∧ OwnI wr w.heap.size u (coloursM (l.take k)) ∧ Below w.heap.size w wr) (fun _ i _ => l.length - (intOf i).toNat)
  case atStart => exact ⟨0, Nat.zero_le _, rfl, OwnI.nil _ _, Below.refl _ _⟩
  case round =>
    obtain ⟨k, hk, rfl, hown, hb⟩ := hrel
    by_cases hlt : k < l.length
    · obtain ⟨b, o, x, rfl, hbl, hxk, hcell⟩ := (hrd.below hb).int_at hlt
      have hxb := hx x (List.mem_of_getElem? hxk)
      have HT := Lib.hid (take_snoc hxk)
      have hlen : (coloursM (l.take k)).length ≤ l.length := by simp [coloursM]; omega
      have hsz := hb.size
      clear hxk hx
      go_wp2_with (at_builtin; refine wp_app1 (B := w.heap.size) rfl rfl Tryz.underlying24 info_int rfl hown rfl rfl rfl (by unfold maxLen; omega) (by omega) hsz ?_; intro v' w1 ho hg hfr)
      have HB := Lib.hid (below_app hb hown hg (Nat.le_refl _))
      go_roundw
      case rel => exact ⟨k + 1, by omega, by go_num, by rw [HT.out]; have := OwnI.snoc ho; simpa [coloursM] using this, HB.out⟩
      case measure => simp [intOf]; omega
    · have HE := Lib.hid (show l.take k = l from List.take_of_length_le (by omega))
      go_wp2
      go_ret
      exact RetI.mk (by rw [HE.out] at hown; exact hown) hb
end Go.Proofs.YtejeppjmlgfiaaaGreat
