/- Contracts of the laws' own helpers on tables of garbled and halved circuits. Conditions: the lists are short. -/
import Derived.Test.YtejeppjmlgfiaaaGreatGbL
namespace Go.Proofs.YtejeppjmlgfiaaaGreat
open Go.RowKit
set_option linter.unusedVariables false

/-! ### words for worlds -/
/-- The blocks from lo on and below hi are as they were. -/
structure Kept (lo hi : Nat) (w w' : World) : Prop where
  size : w.heap.size ≤ w'.heap.size
  block : ∀ b, lo ≤ b → b < hi → w'.heap[b]? = w.heap[b]?
section
variable {lo hi : Nat} {a b c w w' : World}
theorem Kept.refl : Kept lo hi w w := ⟨Nat.le_refl _, fun _ _ _ => rfl⟩
theorem Kept.below {N : Nat} (h : Kept lo hi a b) (k : Below N b c) (hN : hi ≤ N) : Kept lo hi a c := ⟨Nat.le_trans h.size k.size, fun x h1 h2 => (k.block x (by omega)).trans (h.block x h1 h2)⟩
theorem Kept.step (h : Kept lo hi a b) (k : Below b.heap.size b c) (hN : hi ≤ a.heap.size) : Kept lo hi a c := h.below k (Nat.le_trans hN h.size)
theorem Kept.set (h : Kept lo hi a b) {p : Addr} (hp : p.block < lo) (u : Value) : Kept lo hi a (b.setCell p u) :=
  ⟨by simpa using h.size, fun x h1 h2 => (Below.heap_setCell _ _ _ _ (by omega)).trans (h.block x h1 h2)⟩
theorem own_kept {B E sz n hi : Nat} {v : Value} {xs : List Value} (h : w.ownsRow B E sz v n xs) (k : Kept B w.heap.size w w') : w'.ownsRow B E sz v n xs := by
  refine ⟨h.1, ?_⟩
  rcases h.2 with h2 | ⟨g, cap, cur, rfl, hB, hh, r⟩
  · exact .inl h2
  · have hg : g < w.heap.size := (Array.getElem?_eq_some_iff.1 hh).1
    exact .inr ⟨g, cap, cur, rfl, hB, (k.block g hB hg).trans hh, r⟩
theorem OwnI.kept {B : Nat} {v : Value} {l : List Int} (h : OwnI w B v l) (k : Kept B w.heap.size w w') : OwnI w' B v l := own_kept (hi := 0) h k
theorem OwnRs.kept {B : Nat} {v : Value} {vs : List Value} {rows : List (List Int)} (h : OwnRs w B v vs rows) (k : Kept B w.heap.size w w') : OwnRs w' B v vs rows :=
  ⟨h.len, own_kept (hi := 0) h.outer k, fun i u r hu hr => (h.inner i u r hu hr).kept k, h.apart⟩
end
/-- All old cells and marks read as before. -/
theorem bcell {W w1 : World} (hb : Below W.heap.size W w1) : (∀ b o, b < W.heap.size → w1.cell? ⟨b, o, none⟩ = W.cell? ⟨b, o, none⟩) ∧ (∀ b o, b < W.heap.size → w1.frozen? ⟨b, o, none⟩ = W.frozen? ⟨b, o, none⟩) :=
  ⟨fun b o h => hb.cell (p := ⟨b, o, none⟩) h, fun b o h => hb.frozen (p := ⟨b, o, none⟩) h⟩

def Gb.sz (g : Gb) : Nat := g.rows.length + cntR g.rows + g.ones.length + g.cols.length
theorem Gb.row_le {g : Gb} {N : Nat} (h : g.sz ≤ N) : ∀ r ∈ g.rows, r.length ≤ N := fun r hr => by
  obtain ⟨i, hi⟩ := List.getElem?_of_mem hr
  have := cntR_len hi
  unfold Gb.sz at h; omega
theorem apt3 {w1 w2 w3 : World} {B B2 B3 : Nat} {rv ov cv : Value} {vs : List Value} {rows : List (List Int)} {l l' : List Int} (hr : OwnRs w1 B rv vs rows) (ho : OwnI w2 B2 ov l) (hc : OwnI w3 B3 cv l')
    (h12 : w1.heap.size ≤ B2) (h23 : w2.heap.size ≤ B3) (h13 : w1.heap.size ≤ B3) : (ov :: cv :: rv :: vs).Pairwise Apt := by
  refine List.pairwise_cons.2 ⟨fun u hu => ?_, List.pairwise_cons.2 ⟨fun u hu => ?_, hr.apart⟩⟩
  · rcases List.mem_cons.1 hu with rfl | hu
    · exact Apt.ofLt ho.lt fun b hb => Nat.le_trans h23 (hc.ge b hb)
    · exact (Apt.ofLt (fun b hb => (hr.bd u hu b hb).2) fun b hb => Nat.le_trans h12 (ho.ge b hb)).symm
  · exact (Apt.ofLt (fun b hb => (hr.bd u hu b hb).2) fun b hb => Nat.le_trans h13 (hc.ge b hb)).symm
def RetGb (w : World) (g : Gb) (e : Ending) (w' : World) : Prop := ∃ rv ov cv vs, e = .returned (gbV rv ov cv) ∧ OwnGb w' w.heap.size rv ov cv vs g ∧ Below w.heap.size w w'

theorem ret_int {k : IntKind} {a b : Int} (h : a = b) : Ending.returned (.int k a) = .returned (.int k b) := by rw [h]
theorem Blk.only {w w' : World} {g : Nat} {t : TypeId} {cs : Array Value} {F : List Value} (h : Blk w g t cs) (ho : Only F w w') (hF : ∀ u ∈ F, ∀ b, u.ownBlock = some b → b < g) : Blk w' g t cs :=
  (ho.2 g h.lt fun u hu e => by have := hF u hu g e; omega).trans h
theorem Only.allocFirst {w w' : World} {o : Obj} {F : List Value} (h : Only F (w.alloc o) w') : Only F w w' := (Only.ofBelow ((Below.refl w.heap.size w).alloc (Nat.le_refl _) o) (Nat.le_refl _)).trans h
def szGM (left : Int) (g : Gb) : Int := if left - g.sz < 0 then -1 else left - g.sz
theorem szGM_bd {left : Int} {g : Gb} (h : ¬ szGM left g < 0) : szGM left g = left - g.sz ∧ 0 ≤ left - (g.sz : Int) := by
  unfold szGM at h ⊢
  split at h
  · omega
  · rename_i h2; rw [if_neg h2]; omega
theorem szM_not {left : Int} {n : Nat} (h : ¬ szM left n < 0) : szM left n = left - n ∧ 0 ≤ left - (n : Int) := by
  unfold szM at h ⊢
  split at h
  · omega
  · rename_i h2; rw [if_neg h2]; omega

end Go.Proofs.YtejeppjmlgfiaaaGreat
