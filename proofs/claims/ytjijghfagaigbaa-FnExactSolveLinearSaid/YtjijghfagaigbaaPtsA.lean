/- Contracts of values of polynomials, of lists of elements, of lists of different numbers and of points. Conditions: the lists are short, the numbers small. -/
import Derived.Test.YtjijghfagaigbaaOwnK
import Derived.Test.YtjijghfagaigbaaField
import Derived.Test.YtjijghfagaigbaaPoly2
import Derived.Test.YtjijghfagaigbaaMet
namespace Go.Proofs.Ytjijghfagaigbaa
open Go.RowKit
set_option linter.unusedVariables false


/-! ### lists of elements -/
theorem enters_elements1 : Enters 30 := by intro args w; simp [callFunc, Try.func30]; kernel_rfl
theorem c_elements1 {w : World} {q : Addr} {p : Int} {l : List Int} (hp : 2 ≤ p ∧ p ≤ 251) (hq : w.cell? q = some (.int .i64 p)) :
    PredB w 30 [.pointer (some q)] (fun x => inB x 0 (p - 1)) l := by
  intro W x hW hx
  have hq2 : W.cell? q = some (.int .i64 p) := (hW.cell (World.block_lt_of_cell? w _ hq)).trans hq
  show Calls Try.prog 30 #[.int .i64 x, .pointer (some q)] W _
  go_enter Try.func30, Try.ntmps30
  go_wp2_with (go_at_call 19; refine (c_impl_within).mono ?_; rintro e w' ⟨rfl, rfl⟩)
  go_ret
  exact ⟨rfl, Below.refl _ _⟩
theorem c_impl_areElements {v : Value} {l : List Int} {p : Int} {w : World} (h : Ints w v l) (hl : l.length ≤ 2097152) :
    Calls Try.prog 20 #[.int .i64 p, v] w fun e w' => e = .returned (.bool (fpInB p l)) ∧ Below w.heap.size w w' := by
  have H := Lib.hid h
  obtain ⟨A, c, rfl, -⟩ := h
  rcases hf : fldB p with _ | _
  · go_enter Try.func20, Try.ntmps20
    go_wp2_with (go_at_call 28; refine (k_impl_IsPrime).mono ?_; rintro e w' ⟨rfl, rfl⟩)
    go_ret; exact ⟨by simp [fpInB, hf], (Below.refl _ _).alloc (Nat.le_refl _) _⟩
  · have hb := fldB_bd hf
    go_enter Try.func20, Try.ntmps20
    go_wp2_with (go_at_call 28; refine (k_impl_IsPrime).mono ?_; rintro e w' ⟨rfl, rfl⟩)
    refine (c_impl_areAll (K := 30) (caps := [.pointer (some ⟨w.heap.size, 0, none⟩)]) (p := fun x => inB x 0 (p - 1)) enters_elements1 (H.out.alloc _) hl (c_elements1 hb (cell_new w _ _))).mono ?_
    rintro e w1 ⟨rfl, hb1⟩
    go_wp2
    go_ret
    exact ⟨by simp [fpInB, hf, allB], lit_trans hb1⟩

/-! ### different numbers -/
end Go.Proofs.Ytjijghfagaigbaa
