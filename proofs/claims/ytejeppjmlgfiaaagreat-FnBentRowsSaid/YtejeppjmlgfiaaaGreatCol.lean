/- Contracts of the colours of labels and of exclusive-ors of lists. Conditions: the lists are short, the labels in range. -/
import Derived.Test.YtejeppjmlgfiaaaGreatAll
import Derived.Test.YtejeppjmlgfiaaaGreatLabF
import Derived.StillTailTactics
namespace Go.Proofs.YtejeppjmlgfiaaaGreat
open Go.RowKit
set_option linter.unusedVariables false

/-- The call returns 'list, ok', the list in a new slice; nothing that was there has changed. -/
def RetIB (w : World) (o : Option (List Int)) (e : Ending) (w' : World) : Prop := ∃ u, e = .returned (.tuple #[u, .bool o.isSome]) ∧ OwnI w' w.heap.size u (o.getD []) ∧ Below w.heap.size w w'
theorem RetIB.no (w : World) : RetIB w none (.returned (.tuple #[.slice none 0 0, .bool false])) w := ⟨_, rfl, OwnI.nil _ _, Below.refl _ _⟩
theorem RetIB.no_below {w w' : World} (h : Below w.heap.size w w') : RetIB w none (.returned (.tuple #[.slice none 0 0, .bool false])) w' := ⟨_, rfl, OwnI.nil _ _, h⟩
theorem RetIB.yes {w w' : World} {l : List Int} {u : Value} (h : OwnI w' w.heap.size u l) (hb : Below w.heap.size w w') : RetIB w (some l) (.returned (.tuple #[u, .bool true])) w' := ⟨u, rfl, h, hb⟩

theorem OwnI.snoc {w : World} {B : Nat} {v : Value} {l : List Int} {x : Int} (h : w.ownsRow B 3 1 v (l.length + 1) (l.map (Value.int .i64) ++ [.int .i64 x])) : OwnI w B v (l ++ [x]) := by
  simpa [OwnI] using h
/-- Behind an append onto a row of the call's own. -/
theorem below_app {B E sz n : Nat} {w wr w' : World} {v : Value} {xs : List Value} (h : Below B w wr) (hown : wr.ownsRow B E sz v n xs) (hg : wr.grownBy w' v.ownBlock) (hB : B ≤ w.heap.size) : Below B w w' :=
  h.grown hg (Nat.le_trans hB h.size) (fun g hg' => own_ge hown g hg')

def coloursM (l : List Int) : List Int := l.map (· % 2)

set_option maxHeartbeats 400000 in
theorem c_impl_colours {v : Value} {l : List Int} {w : World} (h : Ints w v l) (hl : l.length ≤ 2097152) (hx : ∀ x ∈ l, 0 ≤ x ∧ x ≤ 9223372036854775807) :
    Calls Tryz.prog 98 #[v] w (RetI w (coloursM l)) := by
  obtain ⟨A, c, rfl, hlc, hcm, hrd⟩ := h
  go_enter Tryz.func98, Tryz.ntmps98
  go_wp2
  go_loopw [3, 9] (fun u i wr => ∃ k : Nat, k ≤ l.length ∧ i = .int .i64 k ∧ OwnI wr w.heap.size u (coloursM (l.take k)) ∧ Below w.heap.size w wr) (fun _ i _ => l.length - (intOf i).toNat)
  case atStart => exact ⟨0, Nat.zero_le _, rfl, OwnI.empty (Nat.le_refl _), (Below.refl _ _).alloc (Nat.le_refl _) _⟩
  case round =>
    obtain ⟨k, hk, rfl, hown, hb⟩ := hrel
    by_cases hlt : k < l.length
    · obtain ⟨b, o, x, rfl, hbl, hxk, hcell⟩ := (hrd.below hb).int_at hlt
      have hxb := hx x (List.mem_of_getElem? hxk)
      have hand := bits_and_one hxb.1 hxb.2
      have HT := Lib.hid (take_snoc hxk)
      have hlen : (coloursM (l.take k)).length ≤ l.length := by simp [coloursM]; omega
      have hsz := hb.size
      clear hxk hx
      go_wp2_with (at_builtin; refine wp_app1 (B := w.heap.size) rfl rfl Tryz.underlying24 info_int rfl hown rfl rfl rfl (by unfold maxLen; omega) (by omega) hsz ?_; intro v' w1 ho hg hfr)
      have HB := Lib.hid (below_app hb hown hg (Nat.le_refl _))
      clear hand
      go_roundw
      case rel => exact ⟨k + 1, by omega, by go_num, by rw [HT.out]; have := OwnI.snoc ho; simpa [coloursM] using this, HB.out⟩
      case measure => simp [intOf]; omega
    · have HE := Lib.hid (show l.take k = l from List.take_of_length_le (by omega))
      go_wp2
      go_ret
      exact RetI.mk (by rw [HE.out] at hown; exact hown) hb

set_option maxHeartbeats 400000 in
theorem c_spec_lbColours {v : Value} {l : List Int} {w : World} (h : Ints w v l) (hl : l.length ≤ 2097152) (hx : ∀ x ∈ l, 0 ≤ x ∧ x ≤ 9223372036854775807) :
    Calls Tryz.prog 68 #[v] w (RetI w (coloursM l)) := by
  obtain ⟨A, c, rfl, hlc, hcm, hrd⟩ := h
  go_enter Tryz.func68, Tryz.ntmps68
  go_wp2
  go_loopw [3, 8] (fun u i wr => ∃ k : Nat, k ≤ l.length ∧ i = .int .i64 k ∧ OwnI wr w.heap.size u (coloursM (l.take k)) ∧ Below w.heap.size w wr) (fun _ i _ => l.length - (intOf i).toNat)
  case atStart => exact ⟨0, Nat.zero_le _, rfl, OwnI.nil _ _, Below.refl _ _⟩
  case round =>
    obtain ⟨k, hk, rfl, hown, hb⟩ := hrel
    by_cases hlt : k < l.length
    · obtain ⟨b, o, x, rfl, hbl, hxk, hcell⟩ := (hrd.below hb).int_at hlt
      have hxb := hx x (List.mem_of_getElem? hxk)
      have HT := Lib.hid (take_snoc hxk)
      have hlen : (coloursM (l.take k)).length ≤ l.length := by simp [coloursM]; omega
      have hsz := hb.size
      clear hxk hx
      go_wp2_with (at_builtin; refine wp_app1 (B := w.heap.size) rfl rfl Tryz.underlying24 info_int rfl hown rfl rfl rfl (by unfold maxLen; omega) (by omega) hsz ?_; intro v' w1 ho hg hfr)
      have HB := Lib.hid (below_app hb hown hg (Nat.le_refl _))
      go_roundw
      case rel => exact ⟨k + 1, by omega, by go_num, by rw [HT.out]; have := OwnI.snoc ho; simpa [coloursM] using this, HB.out⟩
      case measure => simp [intOf]; omega
    · have HE := Lib.hid (show l.take k = l from List.take_of_length_le (by omega))
      go_wp2
      go_ret
      exact RetI.mk (by rw [HE.out] at hown; exact hown) hb
end Go.Proofs.YtejeppjmlgfiaaaGreat
