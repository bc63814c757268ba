/- Words for slices of integers in memory: a slice that reads as a list, a slice that the call owns; what draws, new blocks, stores and appends leave of them. Plain lemmas; no condition but those that each names. -/
import Derived.Below
import Derived.Carry
import Derived.Laws.OwnMore
import Derived.Laws.NewBlocks
import Derived.Maps.AppendAt
import Derived.Deep.Draws
import Derived.OwnWalk
import Derived.WalkKit
import Derived.Lib.Hide
namespace Go.Proofs.YtejeppjmlgfiaaaGreat
open Go.RowKit
set_option linter.unusedVariables false

/-! ### booleans of ranges -/
def inB (n lo hi : Int) : Bool := decide (lo ≤ n) && decide (n ≤ hi)
theorem inB_mk {n lo hi : Int} (h1 : lo ≤ n) (h2 : n ≤ hi) : inB n lo hi = true := by simp [inB, h1, h2]
theorem inB_lo {n lo hi : Int} (h1 : n < lo) : inB n lo hi = false := by simp [inB]; omega
theorem inB_hi {n lo hi : Int} (h1 : hi < n) : inB n lo hi = false := by simp [inB]; omega
theorem inB_bd {n lo hi : Int} (h : inB n lo hi = true) : lo ≤ n ∧ n ≤ hi := by simpa [inB] using h
theorem inB_not {n lo hi : Int} (h : inB n lo hi = false) : ¬ (lo ≤ n ∧ n ≤ hi) := by simp [inB] at h; omega

/-! ### worlds: 'w' has changed row 'row' and new blocks only -/
theorem only_refl (w : World) (row : Option Nat) : w.grownBy w row := World.grownBy.refl w row
theorem only_below {w w' : World} (h : Below w.heap.size w w') (row : Option Nat) : w.grownBy w' row := ⟨h.os, h.tape, h.output, h.size, fun i hi _ => h.block i hi⟩
theorem below_only {w w' : World} {row : Option Nat} {B : Nat} (h : w.grownBy w' row) (hB : B ≤ w.heap.size) (hr : ∀ g, row = some g → B ≤ g) : Below B w w' :=
  (Below.refl B w).grown h hB hr
theorem only_trans {a b c : World} {row : Option Nat} (h : a.grownBy b row) (k : b.grownBy c row) : a.grownBy c row :=
  ⟨k.os.trans h.os, k.tape.trans h.tape, k.output.trans h.output, Nat.le_trans h.size k.size, fun i hi hn => (k.block i (Nat.lt_of_lt_of_le hi h.size) hn).trans (h.block i hi hn)⟩
/-- Behind a first step that changed 'row', a step that changed one row of the new blocks. -/
theorem only_trans_new {a b c : World} {row row' : Option Nat} (h : a.grownBy b row) (k : b.grownBy c row') (hr : row' = row ∨ ∀ g, row' = some g → a.heap.size ≤ g) : a.grownBy c row :=
  ⟨k.os.trans h.os, k.tape.trans h.tape, k.output.trans h.output, Nat.le_trans h.size k.size, fun i hi hn => by
    refine (k.block i (Nat.lt_of_lt_of_le hi h.size) ?_).trans (h.block i hi hn)
    rcases hr with rfl | hr
    · exact hn
    · intro e; have := hr i e.symm; omega⟩
theorem only_drewN {a w : World} {row : Option Nat} (h : a.grownBy w row) (n : Nat) : a.grownBy (w.drewN n) row := ⟨h.os, h.tape, h.output, h.size, h.block⟩
theorem below_drewN {B : Nat} {a w : World} (h : Below B a w) (n : Nat) : Below B a (w.drewN n) := ⟨h.os, h.tape, h.output, h.size, h.block⟩
theorem below_grown_trans {B : Nat} {a b c : World} {row : Option Nat} (h : Below B a b) (hg : b.grownBy c row) (hB : B ≤ b.heap.size) (hr : ∀ k, row = some k → B ≤ k) : Below B a c := h.grown hg hB hr

/-! ### a slice that reads as cells -/
/-- The address A leads to the cells xs in w (nothing is said where xs is empty). -/
def Rd (w : World) (A : Option Addr) (xs : List Value) : Prop :=
  0 < xs.length → ∃ b o, A = some ⟨b, o, none⟩ ∧ b < w.heap.size ∧ ∀ j u, xs[j]? = some u → w.cell? ⟨b, o + j, none⟩ = some u

theorem Rd.keep {w w' : World} {A : Option Addr} {xs : List Value} (h : Rd w A xs) (hs : w.heap.size ≤ w'.heap.size) (hk : ∀ b o, A = some ⟨b, o, none⟩ → b < w.heap.size → w'.heap[b]? = w.heap[b]?) : Rd w' A xs := fun hn => by
  obtain ⟨b, o, e, hb, hc⟩ := h hn
  exact ⟨b, o, e, Nat.lt_of_lt_of_le hb hs, fun j u hu => (World.cell?_of_block (w := w) (a := ⟨b, o + j, none⟩) (hk b o e hb)).trans (hc j u hu)⟩
theorem Rd.below {w w' : World} {A : Option Addr} {xs : List Value} (h : Rd w A xs) (hb : Below w.heap.size w w') : Rd w' A xs := h.keep hb.size fun b _ _ hlt => hb.block b hlt
theorem Rd.drewN {w : World} {A : Option Addr} {xs : List Value} (h : Rd w A xs) (k : Nat) : Rd (w.drewN k) A xs := h
theorem Rd.drew {w : World} {A : Option Addr} {xs : List Value} (h : Rd w A xs) : Rd w.drew A xs := h
theorem Rd.alloc {w : World} {A : Option Addr} {xs : List Value} (h : Rd w A xs) (o : Obj) : Rd (w.alloc o) A xs := h.below ((Below.refl _ _).alloc (Nat.le_refl _) o)
theorem Rd.grown {w w' : World} {A : Option Addr} {xs : List Value} {row : Option Nat} (h : Rd w A xs) (hg : w.grownBy w' row) (hne : ∀ a, A = some a → some a.block ≠ row) : Rd w' A xs :=
  h.keep hg.size fun b o e hlt => hg.block b hlt (hne _ e)
theorem Rd.at_ {w : World} {A : Option Addr} {xs : List Value} (h : Rd w A xs) (hn : 0 < xs.length) : ∃ b o, A = some ⟨b, o, none⟩ ∧ b < w.heap.size ∧ ∀ j u, xs[j]? = some u → w.cell? ⟨b, o + j, none⟩ = some u := h hn

/-- The value v is a slice of n elements that reads as the cells xs. -/
def Sl (w : World) (v : Value) (n : Nat) (xs : List Value) : Prop := ∃ A c, v = .slice A n c ∧ n ≤ c ∧ c ≤ maxLen ∧ Rd w A xs
/-- The value v is a slice of integers that reads as l. -/
def Ints (w : World) (v : Value) (l : List Int) : Prop := Sl w v l.length (l.map (Value.int .i64))

theorem Sl.below {w w' : World} {v : Value} {n : Nat} {xs : List Value} (h : Sl w v n xs) (hb : Below w.heap.size w w') : Sl w' v n xs := by
  obtain ⟨A, c, e, h1, h2, h3⟩ := h; exact ⟨A, c, e, h1, h2, h3.below hb⟩
theorem Sl.alloc {w : World} {v : Value} {n : Nat} {xs : List Value} (h : Sl w v n xs) (o : Obj) : Sl (w.alloc o) v n xs := h.below ((Below.refl _ _).alloc (Nat.le_refl _) o)
theorem Sl.grown {w w' : World} {v : Value} {n : Nat} {xs : List Value} {row : Option Nat} (h : Sl w v n xs) (hg : w.grownBy w' row) (hne : ∀ g, v.ownBlock = some g → some g ≠ row) : Sl w' v n xs := by
  obtain ⟨A, c, rfl, h1, h2, h3⟩ := h
  exact ⟨A, c, rfl, h1, h2, h3.grown hg fun a e => hne _ (by subst e; rfl)⟩
theorem Ints.below {w w' : World} {v : Value} {l : List Int} (h : Ints w v l) (hb : Below w.heap.size w w') : Ints w' v l := Sl.below h hb
theorem Ints.alloc {w : World} {v : Value} {l : List Int} (h : Ints w v l) (o : Obj) : Ints (w.alloc o) v l := Sl.alloc h o
theorem Ints.drew {w : World} {v : Value} {l : List Int} (h : Ints w v l) : Ints w.drew v l := h
theorem Ints.drewN {w : World} {v : Value} {l : List Int} (h : Ints w v l) (n : Nat) : Ints (w.drewN n) v l := h
theorem Ints.grown {w w' : World} {v : Value} {l : List Int} {row : Option Nat} (h : Ints w v l) (hg : w.grownBy w' row) (hne : ∀ g, v.ownBlock = some g → some g ≠ row) : Ints w' v l := Sl.grown h hg hne
theorem Ints.nil (w : World) : Ints w (.slice none 0 0) [] := ⟨none, 0, rfl, Nat.le_refl _, Nat.zero_le _, fun h => by simp at h⟩

/-- An integer of the list, where it lies. -/
theorem Rd.int_at {w : World} {A : Option Addr} {l : List Int} (h : Rd w A (l.map (Value.int .i64))) {k : Nat} (hk : k < l.length) :
    ∃ b o x, A = some ⟨b, o, none⟩ ∧ b < w.heap.size ∧ l[k]? = some x ∧ w.cell? ⟨b, o + k, none⟩ = some (.int .i64 x) := by
  obtain ⟨b, o, e, hb, hc⟩ := h (by simp; omega)
  exact ⟨b, o, l[k], e, hb, List.getElem?_eq_getElem hk, hc k _ (by simp [hk])⟩

/-! ### slices that the call owns -/
/-- The value v is a slice of integers, in a row of its own (a block from B on, from its head on, not frozen), and reads as l. -/
def OwnI (w : World) (B : Nat) (v : Value) (l : List Int) : Prop := w.ownsRow B 3 1 v l.length (l.map (Value.int .i64))

section
variable {w w' : World} {B E sz n : Nat} {v : Value} {xs : List Value} {l : List Int}
theorem own_mono {B' : Nat} (h : w.ownsRow B E sz v n xs) (hB : B' ≤ B) : w.ownsRow B' E sz v n xs := by
  refine ⟨h.1, ?_⟩
  rcases h.2 with h2 | ⟨g, cap, cur, e, hb, r⟩
  · exact .inl h2
  · exact .inr ⟨g, cap, cur, e, by omega, r⟩
theorem own_below (h : w.ownsRow B E sz v n xs) (hb : Below w.heap.size w w') : w'.ownsRow B E sz v n xs :=
  h.kept (only_below hb none) (by cases v.ownBlock <;> simp)
/-- Below a number that the row lies below. -/
theorem own_belowN {N : Nat} (h : w.ownsRow B E sz v n xs) (hb : Below N w w') (hlt : ∀ g, v.ownBlock = some g → g < N) : w'.ownsRow B E sz v n xs := by
  refine ⟨h.1, ?_⟩
  rcases h.2 with h2 | ⟨g, cap, cur, rfl, hB, hh, r⟩
  · exact .inl h2
  · exact .inr ⟨g, cap, cur, rfl, hB, (hb.block g (hlt g rfl)).trans hh, r⟩
theorem own_grown {row : Option Nat} (h : w.ownsRow B E sz v n xs) (hg : w.grownBy w' row) (hne : ∀ g, v.ownBlock = some g → some g ≠ row) : w'.ownsRow B E sz v n xs :=
  h.kept hg (by cases hv : v.ownBlock with
    | none => exact .inl rfl
    | some g => exact .inr (hne g hv))
theorem own_drewN (h : w.ownsRow B E sz v n xs) (k : Nat) : (w.drewN k).ownsRow B E sz v n xs := h
theorem own_drew (h : w.ownsRow B E sz v n xs) : w.drew.ownsRow B E sz v n xs := h
theorem own_ge (h : w.ownsRow B E sz v n xs) : ∀ g, v.ownBlock = some g → B ≤ g := fun g hg => (h.lt g hg).1
theorem own_lt (h : w.ownsRow B E sz v n xs) : ∀ g, v.ownBlock = some g → g < w.heap.size := fun g hg => (h.lt g hg).2
/-- What it looks like: nil, or a slice at the head of its row. -/
theorem own_form (h : w.ownsRow B E sz v n xs) : ∃ A c, v = .slice A n c ∧ n ≤ c ∧ c ≤ maxLen ∧ Rd w A xs := by
  rcases h.2 with ⟨rfl, rfl⟩ | ⟨g, cap, cur, rfl, hB, hh, hnc, hm, hcs, htake⟩
  · refine ⟨none, 0, rfl, Nat.le_refl _, Nat.zero_le _, fun hn => ?_⟩
    have := h.1; simp at this; simp [this] at hn
  · refine ⟨_, cap, rfl, hnc, hm, fun _ => ⟨g, 0, rfl, (Array.getElem?_eq_some_iff.1 hh).1, fun j u hu => ?_⟩⟩
    have hc := h.cellAt j (by have := (List.getElem?_eq_some_iff.1 hu).1; rw [h.1] at this; exact this)
    rw [Nat.zero_add, hc]; exact hu
theorem own_sl (h : w.ownsRow B E sz v n xs) : Sl w v n xs := own_form h
/-- Where something is owned the slice stands at the head of a row. -/
theorem own_pos (h : w.ownsRow B E sz v n xs) (hn : 0 < n) : ∃ g c, v = .slice (some ⟨g, 0, none⟩) n c ∧ B ≤ g ∧ g < w.heap.size ∧ n ≤ c ∧ c ≤ maxLen := by
  rcases h.2 with ⟨_, rfl⟩ | ⟨g, cap, cur, rfl, hB, hh, hnc, hm, _⟩
  · omega
  · exact ⟨g, cap, rfl, hB, (Array.getElem?_eq_some_iff.1 hh).1, hnc, hm⟩

/-- A store into another block. -/
theorem own_set (h : w.ownsRow B E sz v n xs) {p : Addr} (hne : ∀ g, v.ownBlock = some g → g ≠ p.block) (u : Value) : (w.setCell p u).ownsRow B E sz v n xs :=
  own_grown (row := some p.block) h ⟨rfl, rfl, rfl, by simp, fun k _ hk => Below.heap_setCell _ _ _ _ (fun e => hk (by rw [e]))⟩ (fun g hg e => by injection e with e; exact hne g hg e)

theorem OwnI.ints (h : OwnI w B v l) : Ints w v l := own_form h
theorem OwnI.mono {B' : Nat} (h : OwnI w B v l) (hB : B' ≤ B) : OwnI w B' v l := own_mono h hB
theorem OwnI.below (h : OwnI w B v l) (hb : Below w.heap.size w w') : OwnI w' B v l := own_below h hb
theorem OwnI.belowN {N : Nat} (h : OwnI w B v l) (hb : Below N w w') (hlt : ∀ g, v.ownBlock = some g → g < N) : OwnI w' B v l := own_belowN h hb hlt
theorem OwnI.grown {row : Option Nat} (h : OwnI w B v l) (hg : w.grownBy w' row) (hne : ∀ g, v.ownBlock = some g → some g ≠ row) : OwnI w' B v l := own_grown h hg hne
theorem OwnI.alloc (h : OwnI w B v l) (o : Obj) : OwnI (w.alloc o) B v l := World.ownsRow.alloc h o
theorem OwnI.ge (h : OwnI w B v l) : ∀ g, v.ownBlock = some g → B ≤ g := own_ge h
theorem OwnI.lt (h : OwnI w B v l) : ∀ g, v.ownBlock = some g → g < w.heap.size := own_lt h
theorem OwnI.nil (w : World) (B : Nat) : OwnI w B (.slice none 0 0) [] := World.ownsRow_nil w B 3 1
/-- A slice literal of integers. -/
theorem OwnI.lit {w : World} {B : Nat} (l : List Int) (cs : Array Value) (hcs : cs.toList = l.map (Value.int .i64)) (hB : B ≤ w.heap.size) (hl : l.length ≤ 1000) :
    OwnI (w.alloc (.cells cs 3)) B (.slice (some ⟨w.heap.size, 0, none⟩) l.length l.length) l := by
  have h := World.ownsRow_lit (base := B) (e := 3) (size := 1) w cs l.length hB (by unfold maxLen; omega) (by rw [← Array.length_toList, hcs]; simp)
  rw [hcs] at h; exact h
theorem own_empty {w : World} {B : Nat} (E sz : Nat) (hB : B ≤ w.heap.size) : (w.alloc (.cells #[] E)).ownsRow B E sz (.slice (some ⟨w.heap.size, 0, none⟩) 0 0) 0 [] := by
  have h := World.ownsRow_lit (base := B) (e := E) (size := sz) w #[] 0 hB (Nat.zero_le _) (by simp)
  simpa using h
theorem OwnI.empty {w : World} {B : Nat} (hB : B ≤ w.heap.size) : OwnI (w.alloc (.cells #[] 3)) B (.slice (some ⟨w.heap.size, 0, none⟩) 0 0) [] := own_empty 3 1 hB
end

theorem cell_new (w : World) (u : Value) (E : TypeId) : (w.alloc (.cells #[u] E)).cell? ⟨w.heap.size, 0, none⟩ = some u := by
  rw [cell_of_row _ w.heap.size 0 #[u] E (0, 0) (heap_alloc_new w _)]; rfl

/-- A literal just laid reads as its cells. -/
theorem Rd.lit (w : World) (cs : Array Value) (E : TypeId) : Rd (w.alloc (.cells cs E)) (some ⟨w.heap.size, 0, none⟩) cs.toList := fun hn =>
  ⟨w.heap.size, 0, rfl, by simp, fun j u hu => by
    rw [Nat.zero_add, cell_of_row _ w.heap.size j cs E (0, 0) (heap_alloc_new w _)]
    simpa using hu⟩
theorem tmod_mod (y m : Int) : (y.tmod m + m) % m = y % m := by
  rw [Int.tmod_def]
  have e : y - m * y.tdiv m + m = y + m * (1 - y.tdiv m) := by rw [Int.mul_sub]; omega
  rw [e]
  exact Int.add_mul_emod_self_left _ _ _
theorem tmod_bd (y : Int) {m : Int} (hm : 0 < m) : -m < y.tmod m ∧ y.tmod m < m := ⟨Int.lt_tmod_of_pos y hm, Int.tmod_lt_of_pos y hm⟩

theorem take_snoc {α : Type} {l : List α} {k : Nat} {x : α} (hx : l[k]? = some x) : l.take (k + 1) = l.take k ++ [x] := by
  rw [List.take_add_one, hx]; rfl

/-! ### a block that is known whole -/
def Blk (w : World) (g : Nat) (t : TypeId) (cs : Array Value) : Prop := w.heap[g]? = some (.cells cs t (0, 0))
section
variable {w w' : World} {g : Nat} {t : TypeId} {cs : Array Value}
theorem Blk.lt (h : Blk w g t cs) : g < w.heap.size := (Array.getElem?_eq_some_iff.1 h).1
theorem Blk.cell (h : Blk w g t cs) (i : Nat) : w.cell? ⟨g, i, none⟩ = cs[i]? := cell_of_row w g i cs t (0, 0) h
theorem Blk.free (h : Blk w g t cs) (i : Nat) : w.frozen? ⟨g, i, none⟩ = false := by
  unfold Blk at h
  simp [World.frozen?, h]
theorem Blk.new (w : World) (t : TypeId) (cs : Array Value) : Blk (w.alloc (.cells cs t)) w.heap.size t cs := heap_alloc_new w _
theorem Blk.drewN (h : Blk w g t cs) (n : Nat) : Blk (w.drewN n) g t cs := h
theorem Blk.drew (h : Blk w g t cs) : Blk w.drew g t cs := h
theorem Blk.alloc (h : Blk w g t cs) (o : Obj) : Blk (w.alloc o) g t cs := (Below.heap_alloc w o g h.lt).trans h
theorem Blk.set_ (h : Blk w g t cs) (i : Nat) (u : Value) : Blk (w.setCell ⟨g, i, none⟩ u) g t (cs.setIfInBounds i u) := by
  unfold Blk at h ⊢
  simp [World.setCell, Array.getElem?_modify, h]
theorem Blk.far (h : Blk w g t cs) {p : Addr} (hp : g ≠ p.block) (u : Value) : Blk (w.setCell p u) g t cs := (Below.heap_setCell w p u g hp).trans h
theorem Blk.below {B : Nat} (h : Blk w g t cs) (hb : Below B w w') (hg : g < B) : Blk w' g t cs := (hb.block g hg).trans h
theorem Blk.step (h : Blk w g t cs) (hb : Below w.heap.size w w') : Blk w' g t cs := (hb.block g h.lt).trans h
theorem Blk.grown {row : Option Nat} (h : Blk w g t cs) (hb : w.grownBy w' row) (hg : some g ≠ row) : Blk w' g t cs := (hb.block g h.lt hg).trans h
end

/-- The number in a cell: for a loop's measure. -/
def cellN (w : World) (a : Addr) : Nat := match w.cell? a with | some v => (intOf v).toNat | none => 0
theorem cellN_of {w : World} {a : Addr} {n : Int} (h : w.cell? a = some (.int .i64 n)) : cellN w a = n.toNat := by unfold cellN; rw [h]; rfl

/-! ### append at the list of operations -/
section
variable {P : Program} {ops : Array Oper} {rest : List Oper} {o : Oper} {a : Act} {Q : Exit → Act → World → Prop}

/-- 'append(out, x)' of one element of one cell (the element has just been laid in a block of its own). -/
theorem wp_app1 {w0 : World} (hg : o.guard = none) {s x : Operand} {t : TypeId} (hop : o.op = Op.call { callee := Callee.builtin Builtin.append, args := #[s, x], argTypes := #[t, t] })
    {B : Nat} {E : TypeId} {z0 : Value} {by_ : Nat} (ht : P.underlying t = some (.slice E)) (hinfo : (P.info? E).map (fun i => (i.zero, i.size, i.bytes)) = some (some z0, 1, by_)) (hz : z0.cells.size = 1)
    {v : Value} {n : Nat} {xs : List Value} {u : Value} {c : Nat} (hown : w0.ownsRow B E 1 v n xs) (hs : a.eval s = v) (hx : a.eval x = .slice (some ⟨w0.heap.size, 0, none⟩) 1 c) (hu : u.oneCell' = true)
    (h63 : n + 1 ≤ maxLen) (hn : (n + 1) * by_ ≤ 140737488355328) (hB : B ≤ w0.heap.size)
    (hK : ∀ v' w', w'.ownsRow B E 1 v' (n + 1) (xs ++ [u]) → w0.grownBy w' v.ownBlock → (∀ g, v'.ownBlock = some g → v.ownBlock = some g ∨ w0.heap.size ≤ g) → wpList P ops Q rest (a.put o.dst v') w') :
    wpList P ops Q (o :: rest) a (w0.alloc (.cells #[u] E)) := by
  obtain ⟨i, hi, hz0, hz1, hz2⟩ := info_parts hinfo
  refine wpList_plain hg fun K hK' => ?_
  obtain ⟨v', w', hrun, h1, h2, _, h4⟩ := run_append_own_at (P := P) (w0.alloc (.cells #[u] E)) B t o.type E i z0 1 by_ ht hi hz0 hz1 hz2 hz (by omega) v n xs (hown.alloc _) ⟨w0.heap.size, 0, none⟩ 1 c [u] rfl
    (by intro j u' hj; match j, hj with | 0, hj => simp at hj; subst hj; rw [Addr.add_lit]; exact cell_new w0 u E) (by intro u' hu'; simp at hu'; subst hu'; exact hu) h63 hn (by simp; omega)
  unfold Oper.wp
  simp [execOp, hop, resolve, invoke, builtin, hs, hx, hrun, Result.andThen]
  refine hK' _ _ (hK v' w' h1 ?_ ?_)
  · exact ⟨h2.os, h2.tape, h2.output, Nat.le_trans (by simp) h2.size, fun k hk hne => (h2.block k (by simp; omega) hne).trans (heap_alloc_old w0 _ hk)⟩
  · intro g hg'
    rcases h4 with h4 | h4
    · exact .inl (h4.symm.trans hg')
    · rw [h4] at hg'; simp at hg'; right; omega

/-- 'append(out, xs...)' of any slice of one-cell elements. -/
theorem wp_appAll {w0 : World} (hg : o.guard = none) {s x : Operand} {t : TypeId} (hop : o.op = Op.call { callee := Callee.builtin Builtin.append, args := #[s, x], argTypes := #[t, t] })
    {B : Nat} {E : TypeId} {z0 : Value} {by_ : Nat} (ht : P.underlying t = some (.slice E)) (hinfo : (P.info? E).map (fun i => (i.zero, i.size, i.bytes)) = some (some z0, 1, by_)) (hz : z0.cells.size = 1)
    {v : Value} {n : Nat} {xs : List Value} {A : Option Addr} {m c : Nat} {news : List Value} (hown : w0.ownsRow B E 1 v n xs) (hrd : Rd w0 A news) (hnl : news.length = m) (hs : a.eval s = v) (hx : a.eval x = .slice A m c) (hu : ∀ u ∈ news, u.oneCell' = true)
    (h63 : n + m ≤ maxLen) (hn : (n + m) * by_ ≤ 140737488355328) (hB : B ≤ w0.heap.size)
    (hK : ∀ v' w', w'.ownsRow B E 1 v' (n + m) (xs ++ news) → w0.grownBy w' v.ownBlock → (∀ g, v'.ownBlock = some g → v.ownBlock = some g ∨ w0.heap.size ≤ g) → wpList P ops Q rest (a.put o.dst v') w') :
    wpList P ops Q (o :: rest) a w0 := by
  obtain ⟨i, hi, hz0, hz1, hz2⟩ := info_parts hinfo
  refine wpList_plain hg fun K hK' => ?_
  rcases A with _ | ad
  · have hm : m = 0 := by
      rcases Nat.eq_zero_or_pos m with h0 | h0
      · exact h0
      · obtain ⟨_, _, e, _⟩ := hrd (by omega); cases e
    subst hm
    have hnews : news = [] := List.eq_nil_of_length_eq_zero hnl
    subst hnews
    have hrun : (Builtin.append_ #[t, t] o.type #[v, .slice none 0 c]).run P w0 = .ok v w0 := by
      rcases hown.2 with ⟨rfl, rfl⟩ | ⟨g, cap, cur, rfl, _, _, hnc, _⟩
      · simp [Builtin.append_, run_underlying ht, sizeOf, typeInfo, hi, Builtin.lenOf, Builtin.firstCells]
      · simp [Builtin.append_, run_underlying ht, sizeOf, typeInfo, hi, Builtin.lenOf, Builtin.firstCells, hnc, storeCells]
    unfold Oper.wp
    simp [execOp, hop, resolve, invoke, builtin, hs, hx, hrun, Result.andThen]
    exact hK' _ _ (hK v w0 (by simpa using hown) (World.grownBy.refl _ _) (fun g hg' => .inl hg'))
  · obtain ⟨v', w', hrun, h1, h2, _, h4⟩ := run_append_own_at (P := P) w0 B t o.type E i z0 1 by_ ht hi hz0 hz1 hz2 hz (by omega) v n xs hown ad m c news (by omega)
      (by
        intro j u hj
        obtain ⟨b, o', e, _, hc⟩ := hrd (by have := (List.getElem?_eq_some_iff.1 hj).1; omega)
        injection e with e; subst e
        rw [Addr.add_lit]; exact hc j u hj) hu h63 hn hB
    unfold Oper.wp
    simp [execOp, hop, resolve, invoke, builtin, hs, hx, hrun, Result.andThen]
    refine hK' _ _ (hK v' w' h1 h2 ?_)
    intro g hg'
    rcases h4 with h4 | h4
    · exact .inl (h4.symm.trans hg')
    · rw [h4] at hg'; simp at hg'; right; omega

/-- The append of one element at a step of a region that draws its order. -/
theorem step_app1 {W : World} {K : Act → World → Prop} {Z : Prop} (hg : o.guard = none) {s x : Operand} {t : TypeId} (hop : o.op = Op.call { callee := Callee.builtin Builtin.append, args := #[s, x], argTypes := #[t, t] })
    {B : Nat} {E : TypeId} {z0 : Value} {by_ : Nat} (ht : P.underlying t = some (.slice E)) (hinfo : (P.info? E).map (fun i => (i.zero, i.size, i.bytes)) = some (some z0, 1, by_)) (hz : z0.cells.size = 1)
    {v : Value} {n : Nat} {xs : List Value} {u : Value} {ad : Addr} {c : Nat} (hown : W.ownsRow B E 1 v n xs) (hcell : W.cell? ad = some u) (hs : a.eval s = v) (hx : a.eval x = .slice (some ad) 1 c) (hu : u.oneCell' = true)
    (h63 : n + 1 ≤ maxLen) (hn : (n + 1) * by_ ≤ 140737488355328) (hB : B ≤ W.heap.size)
    (hK : ∀ v' w', w'.ownsRow B E 1 v' (n + 1) (xs ++ [u]) → W.grownBy w' v.ownBlock → (∀ g, v'.ownBlock = some g → v.ownBlock = some g ∨ W.heap.size ≤ g) → K (a.put o.dst v') w') :
    if Region.wanted o (yielded ops a.tmps) = true then Oper.wp P o a W K Q else Z := by
  have hw : Region.wanted o (yielded ops a.tmps) = true := by simp [Region.wanted, hg]
  rw [if_pos hw]
  obtain ⟨i, hi, hz0, hz1, hz2⟩ := info_parts hinfo
  obtain ⟨v', w', hrun, h1, h2, _, h4⟩ := run_append_own_at (P := P) W B t o.type E i z0 1 by_ ht hi hz0 hz1 hz2 hz (by omega) v n xs hown ad 1 c [u] rfl
    (by intro j u' hj; match j, hj with | 0, hj => simp at hj; subst hj; simpa [Addr.add] using hcell) (by intro u' hu'; simp at hu'; subst hu'; exact hu) h63 hn hB
  unfold Oper.wp
  simp [execOp, hop, resolve, invoke, builtin, hs, hx, hrun, Result.andThen]
  refine hK v' w' h1 h2 ?_
  intro g hg'
  rcases h4 with h4 | h4
  · exact .inl (h4.symm.trans hg')
  · rw [h4] at hg'; simp at hg'; right; omega
end
end Go.Proofs.YtejeppjmlgfiaaaGreat
