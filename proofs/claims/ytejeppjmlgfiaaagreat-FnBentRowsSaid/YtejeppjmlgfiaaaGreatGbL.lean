/- Contracts of the laws' own helpers on slices of slices: the copy, the sizes, the comparison, the marks. Conditions: the lists are short. -/
import Derived.Test.YtejeppjmlgfiaaaGreatGbM
import Derived.Test.YtejeppjmlgfiaaaGreatCirC
namespace Go.Proofs.YtejeppjmlgfiaaaGreat
open Go.RowKit
set_option linter.unusedVariables false

theorem info_ints : (Tryz.prog.info? 24).map (fun i => (i.zero, i.size, i.bytes)) = some (some (.slice none 0 0), 1, 24) := by kernel_rfl

section
variable {B n : Nat} {v : Value}
theorem OwnRs.made {w : World} (ho : w.ownsRow B 24 1 v n (List.replicate n (.slice none 0 0))) : OwnRs w B v (List.replicate n (.slice none 0 0)) (List.replicate n []) := by
  refine ⟨by simp, by simpa using ho, fun i u r hu hr => ?_, List.pairwise_cons.2 ⟨fun u hu => ?_, List.pairwise_replicate.2 (Or.inr fun g hg => by cases hg)⟩⟩
  · have h1 := List.eq_of_mem_replicate (List.mem_of_getElem? hu)
    have h2 := List.eq_of_mem_replicate (List.mem_of_getElem? hr)
    subst h1 h2
    exact OwnI.nil w B
  · have h1 := List.eq_of_mem_replicate hu
    subst h1
    exact fun g _ e => by cases e
/-- A row of its own is stored at a place. -/
theorem OwnRs.store {w0 w1 : World} {g c i : Nat} {vs : List Value} {u : Value} {r : List Int} {rows : List (List Int)} (h : OwnRs w0 B (.slice (some ⟨g, 0, none⟩) rows.length c) vs rows) (hb : Below w0.heap.size w0 w1) (hB : B ≤ w0.heap.size)
    (hu : OwnI w1 w0.heap.size u r) (hi : i < rows.length) : OwnRs (w1.setCell ⟨g, i, none⟩ u) B (.slice (some ⟨g, 0, none⟩) rows.length c) (vs.set i u) (rows.set i r) := by
  have hbd := h.bd
  have hap := List.pairwise_cons.1 h.apart
  have h1 := h.below hb
  have hg0 := (hbd (.slice (some ⟨g, 0, none⟩) rows.length c) (by simp) g rfl)
  have hst := h1.outer.stored i u
  have hlt : ∀ x ∈ vs, ∀ b, x.ownBlock = some b → b < w0.heap.size := fun x hx b hb' => (hbd x (List.mem_cons_of_mem _ hx) b hb').2
  refine ⟨by simp [h.len], by simpa using hst.1, fun j u' r' hu' hr' => ?_, List.pairwise_cons.2 ⟨fun u' hu' => ?_, ?_⟩⟩
  · by_cases hji : j = i
    · subst hji
      rw [List.getElem?_set_self (by have := h.len; omega)] at hu'
      rw [List.getElem?_set_self hi] at hr'
      injection hu' with hu'; injection hr' with hr'
      subst hu' hr'
      refine (hu.grown hst.2 fun b hb' e => ?_).mono hB
      have := hu.ge b hb'
      injection e with e; omega
    · rw [List.getElem?_set_ne (fun e => hji e.symm)] at hu' hr'
      refine (h1.inner j u' r' hu' hr').grown hst.2 fun b hb' e => ?_
      injection e with e; subst e
      exact hap.1 u' (List.mem_of_getElem? hu') _ rfl hb'
  · rcases List.mem_or_eq_of_mem_set hu' with hm | rfl
    · exact hap.1 u' hm
    · exact Apt.ofLt (N := w0.heap.size) (fun b hb' => by cases hb'; exact hg0.2) hu.ge
  · refine List.pairwise_iff_getElem.2 fun a b ha hb' hab => ?_
    simp only [List.length_set] at ha hb'
    have hp := List.pairwise_iff_getElem.1 hap.2 a b ha hb' hab
    by_cases e1 : i = a
    · subst e1
      rw [List.getElem_set_self, List.getElem_set_ne (by omega)]
      exact (Apt.ofLt (hlt _ (List.getElem_mem _)) hu.ge).symm
    · rw [List.getElem_set_ne e1]
      by_cases e2 : i = b
      · subst e2
        rw [List.getElem_set_self]
        exact Apt.ofLt (hlt _ (List.getElem_mem _)) hu.ge
      · rw [List.getElem_set_ne e2]; exact hp
end
theorem fillR_set (l : List (List Int)) (k : Nat) (x : List Int) (hx : l[k]? = some x) :
    (l.take k ++ List.replicate (l.length - k) []).set k x = l.take (k + 1) ++ List.replicate (l.length - (k + 1)) [] := by
  have hk : k < l.length := (List.getElem?_eq_some_iff.1 hx).1
  have h2 : l.length - k = (l.length - (k + 1)) + 1 := by omega
  rw [take_snoc hx, h2, List.replicate_succ, List.set_append_right _ _ (by simp; omega)]
  simp [Nat.min_eq_left (Nat.le_of_lt hk)]
theorem fillR_length (l : List (List Int)) (k : Nat) (hk : k ≤ l.length) : (l.take k ++ List.replicate (l.length - k) ([] : List Int)).length = l.length := by simp; omega

def RetRs (w : World) (rows : List (List Int)) (e : Ending) (w' : World) : Prop := ∃ u vs, e = .returned u ∧ OwnRs w' w.heap.size u vs rows ∧ Below w.heap.size w w'

/-- What is left of a size, over rows. -/
def szRM (left : Int) (rows : List (List Int)) : Int := if left - rows.length - cntR rows < 0 then -1 else left - rows.length - cntR rows
theorem szRM_bd {left : Int} {rows : List (List Int)} (h : ¬ szRM left rows < 0) : szRM left rows = left - rows.length - cntR rows ∧ 0 ≤ left - (rows.length : Int) - (cntR rows : Int) := by
  unfold szRM at h ⊢
  split at h
  · omega
  · rename_i h2; rw [if_neg h2]; omega
theorem szRM_neg {left : Int} {rows : List (List Int)} (h : szRM left rows < 0) : szRM left rows = -1 := by
  unfold szRM at h ⊢
  split at h
  · rename_i h2; rw [if_pos h2]
  · omega

end Go.Proofs.YtejeppjmlgfiaaaGreat
