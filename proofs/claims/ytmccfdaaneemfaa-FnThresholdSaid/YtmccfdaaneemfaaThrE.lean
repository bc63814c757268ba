/- Contracts of FindWrong and JoinDespite. Conditions: the lists are short. -/
import Derived.Test.YtmccfdaaneemfaaThrD
namespace Go.Proofs.Ytmccfdaaneemfaa
open Go.RowKit
set_option linter.unusedVariables false

theorem ptsB_mk {p : Int} {xs ys : List Int} (hf : fldB p = true) (hx : ∀ x ∈ xs, 0 ≤ x ∧ x < p) (hy : ∀ y ∈ ys, 0 ≤ y ∧ y < p) (h12 : xs.length ≤ 12) (hl : xs.length = ys.length) (hn : xs.Nodup) : ptsB p xs ys = true := by
  have k : ∀ l : List Int, (∀ x ∈ l, 0 ≤ x ∧ x < p) → fpInB p l = true := by
    intro l h
    unfold fpInB allB
    rw [hf, Bool.true_and]
    exact List.all_eq_true.2 fun x hx => inB_mk (h x hx).1 (by have := (h x hx).2; omega)
  unfold ptsB
  rw [k xs hx, k ys hy, decide_eq_true (by omega), decide_eq_true (by omega), decide_eq_true hn]; rfl
theorem ptsB_fld {p : Int} {xs ys : List Int} (h : ptsB p xs ys = true) : fldB p = true := by
  simp only [ptsB, Bool.and_eq_true] at h; exact (fpInB_of h.1.1.1.1).1
theorem ptsB_erase {p : Int} {xs ys : List Int} (h : ptsB p xs ys = true) (i : Nat) : ptsB p (xs.eraseIdx i) (ys.eraseIdx i) = true := by
  obtain ⟨hpr, hp, hxb, hyb, hlen, hll, hnd⟩ := ptsB_of h
  refine ptsB_mk (ptsB_fld h) (fun x hx => hxb x (List.mem_of_mem_eraseIdx hx)) (fun y hy => hyb y (List.mem_of_mem_eraseIdx hy)) ?_ ?_ (hnd.sublist (List.eraseIdx_sublist _ _))
  · rw [List.length_eraseIdx]; split <;> omega
  · rw [List.length_eraseIdx, List.length_eraseIdx, hll]
theorem holdB_erase {p : Int} {xs ys : List Int} (h : holdB p xs ys = true) (i : Nat) : holdB p (xs.eraseIdx i) (ys.eraseIdx i) = true := by
  obtain ⟨h1, h2, h3⟩ := holdB_of h
  unfold holdB
  rw [ptsB_erase h1 i, decide_eq_true (by rw [List.length_eraseIdx]; split <;> omega), decide_eq_false (fun hm => h3 (List.mem_of_mem_eraseIdx hm))]; rfl
def lastM (g : Nat → Bool) : Nat → Int
  | 0 => -1
  | k + 1 => if g k = true then (k : Int) else lastM g k
theorem lastM_cases (g : Nat → Bool) : ∀ k, lastM g k = -1 ∨ ∃ j : Nat, j < k ∧ lastM g k = (j : Int) ∧ g j = true
  | 0 => .inl rfl
  | k + 1 => by
    rcases hg : g k with _ | _
    · rcases lastM_cases g k with h | ⟨j, hj, h, hgj⟩
      · left; simp [lastM, hg, h]
      · right; exact ⟨j, by omega, by simp [lastM, hg, h], hgj⟩
    · right; exact ⟨k, by omega, by simp [lastM, hg], hg⟩
noncomputable def gB (p : Int) (xs ys : List Int) (t : Nat) (i : Nat) : Bool := fitS p (xs.eraseIdx i) (ys.eraseIdx i) t
theorem wrong_uniq {p : Int} {xs ys : List Int} {t : Nat} (h : ptsB p xs ys = true) (hf : fitS p xs ys t = false) (ht : t + 2 ≤ xs.length) {i j : Nat} (hij : i < j) (hj : j < xs.length) (h1 : gB p xs ys t i = true) (h2 : gB p xs ys t j = true) : False := by
  obtain ⟨hpr, hp, hxb, hyb, hlen, hll, hnd⟩ := ptsB_of h
  have hd := dis_of hnd hxb
  have e : ∀ k, gB p xs ys t k = true → Fits p (xs.eraseIdx k) (ys.eraseIdx k) t := fun k hk =>
    (fitS_iff hpr (hd.sub (List.eraseIdx_sublist _ _)) (by rw [List.length_eraseIdx, List.length_eraseIdx, hll]) (fun y hy => hyb y (List.mem_of_mem_eraseIdx hy)) t).1 hk
  have := (fitS_iff hpr hd hll hyb t).2 (wrong_one hpr hd hll hij hj ht (e i h1) (e j h2))
  rw [hf] at this; cases this
end Go.Proofs.Ytmccfdaaneemfaa
