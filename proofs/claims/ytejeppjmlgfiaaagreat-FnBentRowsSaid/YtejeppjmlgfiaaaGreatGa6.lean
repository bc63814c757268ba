/- What a walk is told of an argument that came in: integers fit their kind, slices of integers read as lists. No condition. -/
import Derived.Test.YtejeppjmlgfiaaaGreatChecked
import Derived.WalkKit
import Derived.ProofKit
import Derived.OpenShut
import Derived.Carry
import Derived.Below
import Derived.Lib.SmallJoins
import Derived.Test.YtejeppjmlgfiaaaGreatBase
import Derived.Test.YtejeppjmlgfiaaaGreatByt
namespace Go.Proofs.YtejeppjmlgfiaaaGreat.YtejeppjmlgfiaaaGreatOpen
open Go.ChangeShapes Go.WideShapes Go.ChangeAt Go.RowKit
set_option linter.unusedVariables false

theorem laidOut : laidOutB Tryz.prog = true := by kernel_rfl

section
variable {H : Type} {enc : TypeId × Value → H} {W : World} {b0 : Nat} {base : Nat} {spare : Nat → Bool} {held : Bool} {r : Reach}

set_option maxRecDepth 100000 in
theorem in_int {v : Value} {d : DataW H} {p : List MemPlace} (hv : Value.okWide Tryz.prog W r b0 3 v) (h : DataW.Trod enc Tryz.prog W base spare held 3 v d p) :
    ∃ a : Int, v = .int .i64 a ∧ -9223372036854775808 ≤ a ∧ a ≤ 9223372036854775807 := by
  obtain ⟨a, e, _, _, hw⟩ := open_int Tryz.underlying3 hv h
  exact ⟨a, e, bounds_i64 hw⟩

end
end Go.Proofs.YtejeppjmlgfiaaaGreat.YtejeppjmlgfiaaaGreatOpen

/- What a walk is told of a slice of bytes that came in. No condition. -/
namespace Go.Proofs.YtejeppjmlgfiaaaGreat.YtejeppjmlgfiaaaGreatOpen
open Go.ChangeShapes Go.WideShapes Go.ChangeAt Go.RowKit
set_option linter.unusedVariables false
section
variable {H : Type} {enc : TypeId × Value → H} {W : World} {b0 : Nat} {base : Nat} {spare : Nat → Bool} {held : Bool} {r : Reach}
set_option maxRecDepth 100000 in
theorem in_b {v : Value} {d : DataW H} {p : List MemPlace} (hv : Value.okWide Tryz.prog W r b0 22 v) (h : DataW.Trod enc Tryz.prog W base spare held 22 v d p) :
    ∃ l : List Int, Byts W v l := by
  obtain ⟨a0, len, cap, rfl⟩ := okWide_slice Tryz.underlying22 hv
  obtain ⟨fuel, hf⟩ := h
  rcases open_ints Tryz.underlying22 Tryz.underlying5 (by kernel_rfl) hf with ⟨hcs, _⟩ | ⟨x, n, c, zs, hcs, _, hl, hm, hz, _, hcell, hwz⟩
  · simp [Value.cells] at hcs
    obtain ⟨rfl, rfl, rfl⟩ := hcs
    exact ⟨[], ⟨none, 0, rfl, Nat.le_refl _, Nat.zero_le _, fun h => by simp at h⟩, by simp⟩
  · simp [Value.cells] at hcs
    obtain ⟨rfl, rfl, rfl⟩ := hcs
    have hz' : len ≤ zs.length := by rw [hz]; split <;> omega
    have hlen : (zs.take len).length = len := by simp; omega
    refine ⟨zs.take len, ⟨some x, cap, by rw [hlen], by rw [hlen]; exact hl, hm, fun hpos => ?_⟩, fun y hy => bounds_u8 (hwz y (List.mem_of_mem_take hy))⟩
    obtain ⟨b, off, spot⟩ := x
    have hp : 0 < zs.length := by simp at hpos; omega
    have hc := hcell 0 hp
    have hspot : spot = none := by simpa [Addr.add] using World.cell?_spot hc
    subst hspot
    refine ⟨b, off, rfl, World.block_lt_of_cell? W _ (by simpa [Addr.add] using hc), fun j u hu => ?_⟩
    obtain ⟨y, hy, rfl⟩ : ∃ y, (zs.take len)[j]? = some y ∧ Value.int .u8 y = u := by rw [List.getElem?_map] at hu; exact Option.map_eq_some_iff.1 hu
    have hjl : j < len := by have := (List.getElem?_eq_some_iff.1 hy).1; omega
    have hcj := hcell j (by omega)
    rw [Addr.add_lit] at hcj
    rw [hcj]
    rw [List.getElem?_take, if_pos hjl] at hy
    simp [List.getD, hy]
end
end Go.Proofs.YtejeppjmlgfiaaaGreat.YtejeppjmlgfiaaaGreatOpen
