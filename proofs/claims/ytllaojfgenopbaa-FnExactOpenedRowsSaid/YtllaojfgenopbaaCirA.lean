/- The laws' own copies of gates. Conditions: the lists are short. -/
import Derived.Test.YtllaojfgenopbaaMem
import Derived.Test.YtllaojfgenopbaaCirM
namespace Go.Proofs.Ytllaojfgenopbaa
open Go.RowKit
set_option linter.unusedVariables false

theorem info_gate : (Try.prog.info? 94).map (fun i => (i.zero, i.size, i.bytes)) = some (some (.agg #[.int .i64 0, .int .i64 0, .int .i64 0]), 3, 24) := by kernel_rfl

theorem c_laws_toGate {k a b : Int} {w : World} : Calls Try.prog 88 #[.agg #[.int .i64 k, .int .i64 a, .int .i64 b]] w fun e w' => e = .returned (.agg #[.int .i64 k, .int .i64 a, .int .i64 b]) ∧ Below w.heap.size w w' := by
  go_enter Try.func88, Try.ntmps88
  go_wp2
  refine bodyPost_ret (v := .agg #[.int .i64 k, .int .i64 a, .int .i64 b]) (by simp [results, Try.results88, go_sem]) rfl ⟨rfl, ?_⟩
  exact (((Below.refl _ _).alloc (Nat.le_refl _) _).alloc (by simp) _).alloc (by simp; omega) _

/-- The call returns a new slice of gates that reads as gs. -/
def OwnG (w : World) (B : Nat) (v : Value) (gs : List Gt) : Prop := w.ownsRow B 94 3 v gs.length (gcells gs)
theorem OwnG.gates {w : World} {B : Nat} {v : Value} {gs : List Gt} (h : OwnG w B v gs) : Gates w v gs := own_form h
theorem OwnG.below {w w' : World} {B : Nat} {v : Value} {gs : List Gt} (h : OwnG w B v gs) (hb : Below w.heap.size w w') : OwnG w' B v gs := own_below h hb
theorem OwnG.grown {w w' : World} {B : Nat} {v : Value} {gs : List Gt} {row : Option Nat} (h : OwnG w B v gs) (hg : w.grownBy w' row) (hne : ∀ g, v.ownBlock = some g → some g ≠ row) : OwnG w' B v gs := own_grown h hg hne
theorem OwnG.ge {w : World} {B : Nat} {v : Value} {gs : List Gt} (h : OwnG w B v gs) : ∀ g, v.ownBlock = some g → B ≤ g := own_ge h
theorem OwnG.lt {w : World} {B : Nat} {v : Value} {gs : List Gt} (h : OwnG w B v gs) : ∀ g, v.ownBlock = some g → g < w.heap.size := own_lt h
def RetG (w : World) (gs : List Gt) (e : Ending) (w' : World) : Prop := ∃ u, e = .returned u ∧ OwnG w' w.heap.size u gs ∧ Below w.heap.size w w'

set_option maxHeartbeats 400000 in
theorem c_laws_toGateS {v : Value} {gs : List Gt} {w : World} (h : Gates w v gs) (hl : gs.length ≤ 1048576) : Calls Try.prog 45 #[v] w (RetG w gs) := by
  obtain ⟨A, c, rfl, hlc, hcm, hrd⟩ := h
  obtain ⟨i0, hi0, hz0, hz1, hz2⟩ := info_parts info_gate
  go_enter Try.func45, Try.ntmps45
  go_wp2_with (at_make; refine wpList_make_full _ rfl _ _ 29 rfl w.heap.size 94 i0 (.agg #[.int .i64 0, .int .i64 0, .int .i64 0]) 3 Try.underlying29 hi0 hz0 hz1 _ _ _ _ gs.length rfl rfl rfl rfl (by rw [hz2]; omega) (by unfold maxLen; omega) (Nat.le_refl _) ?_; intro w1 hown hg)
  have hown1 : ∃ xs, w1.ownsRow w.heap.size 94 3 (.slice (some ⟨w.heap.size, 0, none⟩) gs.length gs.length) gs.length xs ∧ xs.take (0 * 3) = gcells (gs.take 0) := ⟨_, hown, by simp [gcells]⟩
  have hb1 : Below w.heap.size w w1 := (Below.refl _ _).grown hg (Nat.le_refl _) (by simp)
  clear hown hg
  go_loopw [4] (fun i wr => ∃ k : Nat, k ≤ gs.length ∧ i = .int .i64 k ∧ Hid (∃ xs, wr.ownsRow w.heap.size 94 3 (.slice (some ⟨w.heap.size, 0, none⟩) gs.length gs.length) gs.length xs ∧ xs.take (k * 3) = gcells (gs.take k)) ∧ Below w.heap.size w wr) (fun i _ => gs.length - (intOf i).toNat)
  case atStart => exact ⟨0, Nat.zero_le _, rfl, hown1, hb1⟩
  case round =>
    obtain ⟨k, hk, rfl, hown, hb⟩ := hrel
    clear hown1 hb1
    by_cases hlt : k < gs.length
    · obtain ⟨b, o, g, rfl, hbl, hgk, c0, c1, c2⟩ := (hrd.below hb).gate_at hlt
      have HGk := Lib.hid hgk
      have HO := Lib.hid hown
      have HB := Lib.hid hb
      clear hgk hown hb
      go_wp2_with fail
      refine c_laws_toGate.mono ?_
      rintro e w2 ⟨rfl, hb2⟩
      obtain ⟨xs, hxo, hxt⟩ := HO.out.out
      have ho2 := own_below hxo hb2
      have HX := Lib.hid hxt
      have f0 := ho2.frozenAt (k * 3)
      have f1 := ho2.frozenAt (k * 3 + 1)
      have f2 := ho2.frozenAt (k * 3 + 2)
      obtain ⟨u0, hu0⟩ : ∃ u, w2.cell? ⟨w.heap.size, k * 3, none⟩ = some u := by
        rw [ho2.cellAt (k * 3) (by omega)]; exact ⟨_, List.getElem?_eq_getElem (by rw [ho2.1]; omega)⟩
      obtain ⟨u1, hu1⟩ : ∃ u, w2.cell? ⟨w.heap.size, k * 3 + 1, none⟩ = some u := by
        rw [ho2.cellAt (k * 3 + 1) (by omega)]; exact ⟨_, List.getElem?_eq_getElem (by rw [ho2.1]; omega)⟩
      obtain ⟨u2, hu2⟩ : ∃ u, w2.cell? ⟨w.heap.size, k * 3 + 2, none⟩ = some u := by
        rw [ho2.cellAt (k * 3 + 2) (by omega)]; exact ⟨_, List.getElem?_eq_getElem (by rw [ho2.1]; omega)⟩
      have HO2 := Lib.hid ho2
      have HB2 := Lib.hid (HB.out.trans (hb2.mono HB.out.size))
      clear ho2 hxo hxt hb2 c0 c1 c2
      go_wp2
      go_roundw
      case rel =>
        refine ⟨k + 1, by omega, by go_num, ⟨_, (((HO2.out.stored (k * 3) _).1.stored (k * 3 + 1) _).1.stored (k * 3 + 2) _).1, ?_⟩, ?_⟩
        · rw [show (k + 1) * 3 = k * 3 + 3 by omega, take_set3 _ _ _ _ _ _ HX.out (by rw [HO2.out.1]; omega), take_snoc HGk.out, gcells_snoc]
        · exact ((HB2.out.setCell (p := ⟨w.heap.size, k * 3, none⟩) (Nat.le_refl _) _).setCell (p := ⟨w.heap.size, k * 3 + 1, none⟩) (Nat.le_refl _) _).setCell (p := ⟨w.heap.size, k * 3 + 2, none⟩) (Nat.le_refl _) _
      case measure => simp [intOf]; omega
    · have HO := Lib.hid hown
      have HB := Lib.hid hb
      clear hown hb
      go_wp2
      go_ret
      refine ⟨_, rfl, ?_, HB.out⟩
      obtain ⟨xs, hxo, hxt⟩ := HO.out.out
      have e1 : xs.take (k * 3) = xs := List.take_of_length_le (by rw [hxo.1]; omega)
      have e2 : gs.take k = gs := List.take_of_length_le (by omega)
      rw [e1, e2] at hxt
      rw [hxt] at hxo; exact hxo
end Go.Proofs.Ytllaojfgenopbaa
