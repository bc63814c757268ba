/- A bent table is as large as it was; a struct of three slices, stored. Plain lemmas. -/
import Derived.Test.YtamngnenpapogaaBendX
namespace Go.Proofs.Ytamngnenpapogaa
open Go.RowKit
set_option linter.unusedVariables false

theorem map_set_len (rows : List (List Int)) (k : Nat) (r : List Int) (h : (rows.getD k []).length = r.length) : (rows.set k r).map List.length = rows.map List.length := by
  by_cases hk : k < rows.length
  · rw [List.map_set, ← h]
    refine List.ext_getElem (by simp) fun i h1 h2 => ?_
    rw [List.getElem_set]
    split
    · rename_i e; subst e; simp [List.getD_eq_getElem?_getD, List.getElem?_eq_getElem hk]
    · rfl
  · rw [List.set_eq_of_length_le (by omega)]
theorem bendG_sz (g : Gb) (k row : Nat) (m : Int) : (bendG g k row m).sz = g.sz := by
  have h := map_set_len g.rows k (bendRow (g.rows.getD k []) row m) (by simp [bendRow])
  show (bendR g.rows k row m).length + cntR (bendR g.rows k row m) + g.ones.length + g.cols.length = _
  unfold cntR bendR
  rw [h]; simp [Gb.sz, cntR]
theorem bendM_sz (n lo hi : Int) (c : Cir) (g : Gb) (k row m : Int) : ((bendM n lo hi c g k row m).getD Gb.none).sz ≤ g.sz := by
  unfold bendM
  split
  · exact Nat.le_of_eq (bendG_sz g _ _ _)
  · exact Nat.zero_le _
theorem blk3 {w : World} {b : Nat} {t : TypeId} {x y z : Value} (h : Blk w b t #[x, y, z]) (x' y' z' : Value) : Blk (((w.setCell ⟨b, 0, none⟩ x').setCell ⟨b, 1, none⟩ y').setCell ⟨b, 2, none⟩ z') b t #[x', y', z'] := by
  have := ((h.set_ 0 x').set_ 1 y').set_ 2 z'
  simpa using this
end Go.Proofs.Ytamngnenpapogaa
