/- Circuits as data, and how they lie in memory. Plain definitions and lemmas. -/
import Derived.Test.YtejeppjmlgfiaaaGreatBase
namespace Go.Proofs.YtejeppjmlgfiaaaGreat
open Go.RowKit
set_option linter.unusedVariables false

structure Gt where
  k : Int
  a : Int
  b : Int
structure Cir where
  i0 : Int
  i1 : Int
  gs : List Gt
  outs : List Int

def Gt.cells (g : Gt) : List Value := [.int .i64 g.k, .int .i64 g.a, .int .i64 g.b]
def Gt.val (g : Gt) : Value := .agg #[.int .i64 g.k, .int .i64 g.a, .int .i64 g.b]
def gcells (gs : List Gt) : List Value := gs.flatMap Gt.cells
theorem gcells_length (gs : List Gt) : (gcells gs).length = gs.length * 3 := by
  induction gs with
  | nil => rfl
  | cons g gs ih => simp only [gcells, List.flatMap_cons, List.length_append, List.length_cons] at ih ⊢; rw [ih]; simp [Gt.cells]; omega
theorem gcells_append (a b : List Gt) : gcells (a ++ b) = gcells a ++ gcells b := by simp [gcells]
theorem gcells_at : ∀ (gs : List Gt) (i : Nat) (g : Gt), gs[i]? = some g → (gcells gs)[i * 3]? = some (.int .i64 g.k) ∧ (gcells gs)[i * 3 + 1]? = some (.int .i64 g.a) ∧ (gcells gs)[i * 3 + 2]? = some (.int .i64 g.b)
  | [], i, g, h => by simp at h
  | x :: gs, 0, g, h => by
    simp at h; subst h
    simp [gcells, Gt.cells]
  | x :: gs, i + 1, g, h => by
    have ih := gcells_at gs i g (by simpa using h)
    have e : gcells (x :: gs) = x.cells ++ gcells gs := by simp [gcells]
    rw [e]
    have hl : x.cells.length = 3 := rfl
    refine ⟨?_, ?_, ?_⟩
    · rw [List.getElem?_append_right (by rw [hl]; omega), hl, show (i + 1) * 3 - 3 = i * 3 by omega]; exact ih.1
    · rw [List.getElem?_append_right (by rw [hl]; omega), hl, show (i + 1) * 3 + 1 - 3 = i * 3 + 1 by omega]; exact ih.2.1
    · rw [List.getElem?_append_right (by rw [hl]; omega), hl, show (i + 1) * 3 + 2 - 3 = i * 3 + 2 by omega]; exact ih.2.2

theorem take_set3 {α : Type} (xs P : List α) (m : Nat) (x y z : α) (hP : xs.take m = P) (hl : m + 3 ≤ xs.length) :
    (((xs.set m x).set (m + 1) y).set (m + 2) z).take (m + 3) = P ++ [x, y, z] := by
  have hPl : P.length = m := by rw [← hP, List.length_take]; omega
  obtain ⟨r0, r1, r2, rest, hr⟩ : ∃ r0 r1 r2 rest, xs.drop m = r0 :: r1 :: r2 :: rest := by
    match hd : xs.drop m with
    | [] => have := congrArg List.length hd; simp at this; omega
    | [_] => have := congrArg List.length hd; simp at this; omega
    | [_, _] => have := congrArg List.length hd; simp at this; omega
    | a :: b :: c :: r => exact ⟨a, b, c, r, rfl⟩
  have hx : xs = P ++ r0 :: r1 :: r2 :: rest := by rw [← hP, ← hr]; exact (List.take_append_drop m xs).symm
  rw [hx, List.set_append_right _ _ (by omega), List.set_append_right _ _ (by omega), List.set_append_right _ _ (by omega), hPl]
  simp only [Nat.sub_self, Nat.add_sub_cancel_left, List.set_cons_zero, List.set_cons_succ]
  rw [List.take_append, hPl, List.take_of_length_le (by omega)]
  simp
theorem gcells_take (gs : List Gt) (k : Nat) : (gcells gs).take (k * 3) = gcells (gs.take k) := by
  induction gs generalizing k with
  | nil => simp [gcells]
  | cons g gs ih =>
    cases k with
    | zero => simp [gcells]
    | succ k =>
      have e : gcells (g :: gs) = g.cells ++ gcells gs := by simp [gcells]
      have e2 : gcells ((g :: gs).take (k + 1)) = g.cells ++ gcells (gs.take k) := by simp [gcells]
      rw [e, e2, List.take_append, ← ih]
      have hl : g.cells.length = 3 := rfl
      rw [hl, List.take_of_length_le (by rw [hl]; omega), show (k + 1) * 3 - 3 = k * 3 by omega]
theorem gcells_snoc (gs : List Gt) (g : Gt) : gcells (gs ++ [g]) = gcells gs ++ [.int .i64 g.k, .int .i64 g.a, .int .i64 g.b] := by rw [gcells_append]; simp [gcells, Gt.cells]

/-- The value v is a slice of gates that reads as gs. -/
def Gates (w : World) (v : Value) (gs : List Gt) : Prop := Sl w v gs.length (gcells gs)
theorem Gates.below {w w' : World} {v : Value} {gs : List Gt} (h : Gates w v gs) (hb : Below w.heap.size w w') : Gates w' v gs := Sl.below h hb
theorem Gates.alloc {w : World} {v : Value} {gs : List Gt} (h : Gates w v gs) (o : Obj) : Gates (w.alloc o) v gs := Sl.alloc h o
theorem Gates.grown {w w' : World} {v : Value} {gs : List Gt} {row : Option Nat} (h : Gates w v gs) (hg : w.grownBy w' row) (hne : ∀ g, v.ownBlock = some g → some g ≠ row) : Gates w' v gs := Sl.grown h hg hne
theorem Rd.gate_at {w : World} {A : Option Addr} {gs : List Gt} (h : Rd w A (gcells gs)) {k : Nat} (hk : k < gs.length) :
    ∃ b o g, A = some ⟨b, o, none⟩ ∧ b < w.heap.size ∧ gs[k]? = some g ∧ w.cell? ⟨b, o + k * 3, none⟩ = some (.int .i64 g.k) ∧ w.cell? ⟨b, o + k * 3 + 1, none⟩ = some (.int .i64 g.a) ∧ w.cell? ⟨b, o + k * 3 + 2, none⟩ = some (.int .i64 g.b) := by
  obtain ⟨b, o, e, hb, hc⟩ := h (by rw [gcells_length]; omega)
  have h3 := gcells_at gs k gs[k] (List.getElem?_eq_getElem hk)
  exact ⟨b, o, gs[k], e, hb, List.getElem?_eq_getElem hk, hc _ _ h3.1, hc _ _ h3.2.1, hc _ _ h3.2.2⟩

/-- A circuit as a value over its two slices. -/
def cirV (c : Cir) (gv ov : Value) : Value := .agg #[.int .i64 c.i0, .int .i64 c.i1, gv, ov]
structure CirIn (w : World) (gv ov : Value) (c : Cir) : Prop where
  gates : Gates w gv c.gs
  outs : Ints w ov c.outs
theorem CirIn.below {w w' : World} {gv ov : Value} {c : Cir} (h : CirIn w gv ov c) (hb : Below w.heap.size w w') : CirIn w' gv ov c := ⟨h.gates.below hb, h.outs.below hb⟩
theorem CirIn.alloc {w : World} {gv ov : Value} {c : Cir} (h : CirIn w gv ov c) (o : Obj) : CirIn (w.alloc o) gv ov c := ⟨h.gates.alloc o, h.outs.alloc o⟩

/-- A gate is valid before a wire. -/
def gateB (g : Gt) (own : Int) : Bool :=
  if g.k = 0 ∨ g.k = 1 then inB g.a 0 (own - 1) && inB g.b 0 (own - 1)
  else if g.k = 2 then inB g.a 0 (own - 1) && (g.b == 0)
  else if g.k = 3 then (g.a == 0) && (g.b == 0)
  else false
def gatesB : List Gt → Int → Bool
  | [], _ => true
  | g :: gs, own => gateB g own && gatesB gs (own + 1)
theorem gatesB_append : ∀ (a b : List Gt) (own : Int), gatesB (a ++ b) own = (gatesB a own && gatesB b (own + a.length))
  | [], b, own => by simp [gatesB]
  | g :: a, b, own => by
    simp only [List.cons_append, gatesB, gatesB_append a b, List.length_cons, Bool.and_assoc]
    congr 3; omega
theorem gatesB_snoc (a : List Gt) (g : Gt) (own : Int) : gatesB (a ++ [g]) own = (gatesB a own && gateB g (own + a.length)) := by
  rw [gatesB_append]; simp [gatesB]
/-- All numbers of a list are in a range. -/
def allB (l : List Int) (lo hi : Int) : Bool := l.all fun x => inB x lo hi
/-- The wires of a circuit. -/
def Cir.ins (c : Cir) : Int := c.i0 + c.i1
def Cir.wires (c : Cir) : Int := c.ins + c.gs.length
/-- A circuit is valid. -/
def headB (c : Cir) : Bool := inB c.i0 0 20 && inB c.i1 0 20 && decide (c.gs.length ≤ 300) && decide (c.outs.length ≤ 40)
def cirB (c : Cir) : Bool := headB c && gatesB c.gs c.ins && allB c.outs 0 (c.wires - 1)
theorem headB_bd {c : Cir} (h : headB c = true) : 0 ≤ c.i0 ∧ c.i0 ≤ 20 ∧ 0 ≤ c.i1 ∧ c.i1 ≤ 20 ∧ c.gs.length ≤ 300 ∧ c.outs.length ≤ 40 := by
  simp only [headB, Bool.and_eq_true, decide_eq_true_eq] at h
  have h1 := inB_bd h.1.1.1
  have h2 := inB_bd h.1.1.2
  exact ⟨h1.1, h1.2, h2.1, h2.2, h.1.2, h.2⟩
theorem cirB_head {c : Cir} (h : cirB c = true) : headB c = true := by simp only [cirB, Bool.and_eq_true] at h; exact h.1.1
theorem cirB_bd {c : Cir} (h : cirB c = true) : 0 ≤ c.i0 ∧ c.i0 ≤ 20 ∧ 0 ≤ c.i1 ∧ c.i1 ≤ 20 ∧ c.gs.length ≤ 300 ∧ c.outs.length ≤ 40 := headB_bd (cirB_head h)
end Go.Proofs.YtejeppjmlgfiaaaGreat
