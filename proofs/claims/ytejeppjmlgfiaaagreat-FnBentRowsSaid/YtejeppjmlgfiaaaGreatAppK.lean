/- The append of one element, and that what the slice held stays readable where it was. Plain lemmas; no condition but those that each names. -/
import Derived.Test.YtejeppjmlgfiaaaGreatCol
namespace Go.Proofs.YtejeppjmlgfiaaaGreat
open Go.RowKit
set_option linter.unusedVariables false

section
variable {P : Program} {ops : Array Oper} {rest : List Oper} {o : Oper} {a : Act} {Q : Exit → Act → World → Prop}
/-- What the old slice held is there still. -/
def OldKept (v : Value) (n : Nat) (w w' : World) : Prop := ∀ g j, v.ownBlock = some g → j < n → w'.cell? ⟨g, j, none⟩ = w.cell? ⟨g, j, none⟩

theorem run_app1_keep {w : World} {t ty E : TypeId} {B by_ n c : Nat} {z0 v u : Value} {xs : List Value} {ad : Addr} (ht : P.underlying t = some (.slice E)) (hinfo : (P.info? E).map (fun i => (i.zero, i.size, i.bytes)) = some (some z0, 1, by_)) (hz : z0.cells.size = 1)
    (hown : w.ownsRow B E 1 v n xs) (hcell : w.cell? ad = some u) (hu : u.oneCell' = true) (h63 : n + 1 ≤ maxLen) (hn : (n + 1) * by_ ≤ 140737488355328) (hB : B ≤ w.heap.size) :
    ∃ v' w', (Builtin.append_ #[t, t] ty #[v, .slice (some ad) 1 c]).run P w = .ok v' w' ∧ w'.ownsRow B E 1 v' (n + 1) (xs ++ [u]) ∧ w.grownBy w' v.ownBlock ∧ (∀ g, v'.ownBlock = some g → v.ownBlock = some g ∨ w.heap.size ≤ g) ∧ OldKept v n w w' := by
  obtain ⟨i, hi, hz0, hz1, hz2⟩ := info_parts hinfo
  have hnews : ∀ j u', [u][j]? = some u' → w.cell? (ad.add j) = some u' := by
    intro j u' hj; match j, hj with | 0, hj => simp at hj; subst hj; simpa [Addr.add] using hcell
  have hone : ∀ u' ∈ [u], u'.oneCell' = true := by intro u' hu'; simp at hu'; subst hu'; exact hu
  obtain ⟨v', w', hrun, h1, h2, _, h4⟩ := run_append_own_at (P := P) w B t ty E i z0 1 by_ ht hi hz0 hz1 hz2 hz (by omega) v n xs hown ad 1 c [u] rfl hnews hone h63 hn hB
  refine ⟨v', w', hrun, h1, h2, fun g hg' => ?_, fun g j hg hj => ?_⟩
  · rcases h4 with h4 | h4
    · exact .inl (h4.symm.trans hg')
    · rw [h4] at hg'; simp at hg'; right; omega
  · rcases hown.2 with ⟨rfl, _⟩ | ⟨g0, cap, cur, rfl, hbg, hgg, hnc, hcm, hcs, htake⟩
    · cases hg
    · simp [Value.ownBlock] at hg
      subst hg
      by_cases hroom : n + 1 ≤ cap
      · have hr := run_append_room (P := P) w t ty E i ht hi g0 n cap cur hgg ad 1 c [u] (by rw [hz1]; rfl) hnews hone hroom (by simp [hz1]; omega)
        rw [hrun] at hr
        injection hr with e1 e2
        subst e1
        have hc := h1.cellAt j (by omega)
        rw [hc, hown.cellAt j (by omega), List.getElem?_append_left (by rw [hown.1]; omega)]
      · have hr := run_append_grow (P := P) w t ty E i z0 ht hi hz0 ⟨g0, 0, none⟩ n cap xs (by rw [hown.1, hz1]) (hown.cells (g := g0) rfl) ad 1 c [u] (by rw [hz1]; rfl) hnews (by omega) (by simp only [maxLen] at h63; omega) (growslice_fits (by omega) (by rw [hz2]; exact hn))
        rw [hrun] at hr
        injection hr with e1 e2
        subst e2
        exact World.cell?_of_block (a := ⟨g0, j, none⟩) (heap_alloc_old w.drew _ (Array.getElem?_eq_some_iff.1 hgg).1)

/-- The append of one element at a step of a region that draws its order: the slice is also read there. -/
theorem step_app1K {W : World} {K : Act → World → Prop} {Z : Prop} (hg : o.guard = none) {s x : Operand} {t : TypeId} (hop : o.op = Op.call { callee := Callee.builtin Builtin.append, args := #[s, x], argTypes := #[t, t] })
    {B : Nat} {E : TypeId} {z0 : Value} {by_ : Nat} (ht : P.underlying t = some (.slice E)) (hinfo : (P.info? E).map (fun i => (i.zero, i.size, i.bytes)) = some (some z0, 1, by_)) (hz : z0.cells.size = 1)
    {v : Value} {n : Nat} {xs : List Value} {u : Value} {ad : Addr} {c : Nat} (hown : W.ownsRow B E 1 v n xs) (hcell : W.cell? ad = some u) (hs : a.eval s = v) (hx : a.eval x = .slice (some ad) 1 c) (hu : u.oneCell' = true)
    (h63 : n + 1 ≤ maxLen) (hn : (n + 1) * by_ ≤ 140737488355328) (hB : B ≤ W.heap.size)
    (hK : ∀ v' w', w'.ownsRow B E 1 v' (n + 1) (xs ++ [u]) → W.grownBy w' v.ownBlock → (∀ g, v'.ownBlock = some g → v.ownBlock = some g ∨ W.heap.size ≤ g) → OldKept v n W w' → K (a.put o.dst v') w') :
    if Region.wanted o (yielded ops a.tmps) = true then Oper.wp P o a W K Q else Z := by
  have hw : Region.wanted o (yielded ops a.tmps) = true := by simp [Region.wanted, hg]
  rw [if_pos hw]
  obtain ⟨v', w', hrun, h1, h2, h3, h4⟩ := run_app1_keep (P := P) (w := W) (ty := o.type) (c := c) ht hinfo hz hown hcell hu h63 hn hB
  unfold Oper.wp
  simp [execOp, hop, resolve, invoke, builtin, hs, hx, hrun, Result.andThen]
  exact hK v' w' h1 h2 h3 h4
end
end Go.Proofs.YtejeppjmlgfiaaaGreat
