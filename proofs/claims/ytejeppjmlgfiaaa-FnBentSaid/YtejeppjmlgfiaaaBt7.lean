/- Contracts of the program's functions that make the zero label and the rows of a gate GtAnd. Conditions: labels and offset in range. -/
import Derived.Test.YtejeppjmlgfiaaaZer
import Derived.Test.YtejeppjmlgfiaaaWirI
import Derived.Deep.DeepCutAuto
import Derived.Test.YtejeppjmlgfiaaaWirL
import Derived.Test.YtejeppjmlgfiaaaGbL
import Derived.Deep.RegionHeld3
namespace Go.Proofs.Ytejeppjmlgfiaaa
open Go.RowKit
set_option linter.unusedVariables false

theorem bits_and_bit {a b : Int} (ha : a = 0 ∨ a = 1) (hb : b = 0 ∨ b = 1) : bits .and .i64 a b = a * b := by
  rcases ha with rfl | rfl <;> rcases hb with rfl | rfl <;> decide
/-- The call returns a label and a row, the row in a new slice. -/
def RetZR (w : World) (z : Int) (r : List Int) (e : Ending) (w' : World) : Prop := ∃ u, e = .returned (.tuple #[.int .i64 z, u]) ∧ OwnI w' w.heap.size u r ∧ Below w.heap.size w w'

end Go.Proofs.Ytejeppjmlgfiaaa

/- Contracts of the zero labels of all wires, the program's. Conditions: the circuit, the key and the offset are valid. -/
namespace Go.Proofs.Ytejeppjmlgfiaaa
open Go.RowKit
set_option linter.unusedVariables false

/-- The labels so far and the rows so far, in memory of the call's own. -/
structure ZP (w : World) (B : Nat) (u : Value) (l : List Int) (rv : Value) (vs : List Value) (rows : List (List Int)) : Prop where
  own : OwnI w B u l
  rs : OwnRs w B rv vs rows
  apt : ∀ y ∈ rv :: vs, Apt u y
section
variable {w w1 w2 : World} {B : Nat} {u rv v' : Value} {l l' : List Int} {vs : List Value} {rows : List (List Int)}
theorem ZP.below (h : ZP w B u l rv vs rows) (hb : Below w.heap.size w w1) : ZP w1 B u l rv vs rows := ⟨h.own.below hb, h.rs.below hb, h.apt⟩
theorem ZP.mono {B' : Nat} (h : ZP w B u l rv vs rows) (hB : B' ≤ B) : ZP w B' u l rv vs rows := ⟨h.own.mono hB, h.rs.mono hB, h.apt⟩
theorem ZP.appU (h : ZP w B u l rv vs rows) (ho : OwnI w1 B v' l') (hg : w.grownBy w1 u.ownBlock) (hfr : ∀ g, v'.ownBlock = some g → u.ownBlock = some g ∨ w.heap.size ≤ g) : ZP w1 B v' l' rv vs rows := by
  refine ⟨ho, h.rs.only (F := [u]) (Only.ofGrown hg (by simp)) (fun x hx y hy => ?_), fun y hy g hg' e => ?_⟩
  · simp at hx; subst hx; exact h.apt y hy
  · rcases hfr g hg' with h1 | h1
    · exact h.apt y hy g h1 e
    · have := (h.rs.bd y hy g e).2; omega
theorem ZP.rowR {u1 : Value} {r : List Int} (h : ZP w B u l rv vs rows) (hb : Below w.heap.size w w1) (hB : B ≤ w.heap.size) (hu : OwnI w1 w.heap.size u1 r)
    (ho : w2.ownsRow B 24 1 v' (rows.length + 1) (vs ++ [u1])) (hg : w1.grownBy w2 rv.ownBlock) (hfr : ∀ g, v'.ownBlock = some g → rv.ownBlock = some g ∨ w1.heap.size ≤ g) : ZP w2 B u l v' (vs ++ [u1]) (rows ++ [r]) := by
  have hs := hb.size
  refine ⟨(h.own.below hb).grown hg (fun g hg' e => h.apt rv (by simp) g hg' e.symm), h.rs.snoc hb hB hu ho hg hfr, fun y hy a e e' => ?_⟩
  have hlt := h.own.lt a e
  rcases List.mem_cons.1 hy with rfl | hy
  · rcases hfr a e' with h1 | h1
    · exact h.apt rv (by simp) a e h1
    · omega
  · rcases List.mem_append.1 hy with hy | hy
    · exact h.apt y (List.mem_cons_of_mem _ hy) a e e'
    · simp at hy; subst hy
      have := hu.ge a e'; omega
end
/-- The call returns the zero labels and the rows. -/
def RetZ (w : World) (s : Zr) (e : Ending) (w' : World) : Prop := ∃ u rv vs, e = .returned (.tuple #[u, rv]) ∧ ZP w' w.heap.size u s.zs rv vs s.rows ∧ Below w.heap.size w w'
theorem nil_ZP {w : World} {B : Nat} (hB : B ≤ w.heap.size) : ZP ((w.alloc (.cells #[] 3)).alloc (.cells #[] 24)) B (.slice (some ⟨w.heap.size, 0, none⟩) 0 0) [] (.slice (some ⟨w.heap.size + 1, 0, none⟩) 0 0) [] [] := by
  refine ⟨(OwnI.empty hB).alloc _, ?_, fun y hy g e e' => ?_⟩
  · have := OwnRs.empty (w := w.alloc (.cells #[] 3)) (B := B) (by simp; omega)
    simpa using this
  · simp at hy; subst hy
    simp [Value.ownBlock] at e e'
    omega
end Go.Proofs.Ytejeppjmlgfiaaa
