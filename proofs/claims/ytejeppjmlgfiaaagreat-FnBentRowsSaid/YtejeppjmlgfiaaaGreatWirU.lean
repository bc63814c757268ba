/- The rows that are used, gate by gate; the reference's small functions on labels. Plain definitions and lemmas, and two contracts. -/
import Derived.Test.YtejeppjmlgfiaaaGreatWirI
import Derived.Test.YtejeppjmlgfiaaaGreatWirL
import Derived.Test.YtejeppjmlgfiaaaGreatAppK
namespace Go.Proofs.YtejeppjmlgfiaaaGreat
open Go.RowKit
set_option linter.unusedVariables false

def uStep (F : Int → Int → Int → List Int → Int) (T : Gb) (s : (List Int × Nat × Nat) × List Int) (x : Gt) : (List Int × Nat × Nat) × List Int :=
  (wireStep F T s.1 x, if x.k = 1 then s.2 ++ [elt s.1.1 x.a % 2 * 2 + elt s.1.1 x.b % 2] else s.2)
def usedM (F : Int → Int → Int → List Int → Int) (T : Gb) (inp : List Int) (gs : List Gt) : (List Int × Nat × Nat) × List Int := gs.foldl (uStep F T) ((inp, 0, 0), [])
section
variable {F : Int → Int → Int → List Int → Int} {T : Gb} {inp : List Int} {gs : List Gt} {k : Nat} {g : Gt}
theorem used_snoc (h : gs[k]? = some g) : usedM F T inp (gs.take (k + 1)) = uStep F T (usedM F T inp (gs.take k)) g := by rw [take_snoc h]; simp [usedM]
theorem used_fst (F : Int → Int → Int → List Int → Int) (T : Gb) (inp : List Int) (gs : List Gt) : (usedM F T inp gs).1 = wiresM F T inp gs := by
  have key : ∀ (gs : List Gt) (s : (List Int × Nat × Nat) × List Int), (gs.foldl (uStep F T) s).1 = gs.foldl (wireStep F T) s.1 := by
    intro gs
    induction gs with
    | nil => intro s; rfl
    | cons g gs ih => intro s; exact ih _
  exact key gs _
theorem used_len (hk : kindsB gs) : ∀ k, k ≤ gs.length → ((usedM F T inp (gs.take k)).2.length : Int) = cnt 1 (gs.take k)
  | 0, _ => by simp [usedM, cnt]
  | k + 1, h => by
    have ih := used_len hk k (by omega)
    have hg : gs[k]? = some gs[k] := List.getElem?_eq_getElem (by omega)
    rw [used_snoc hg, cnt_take hg]
    unfold uStep
    by_cases h1 : gs[k].k = 1
    · simp only [h1, if_true, List.length_append, List.length_singleton]; omega
    · simp only [h1, if_false]; omega
end
theorem c_spec_hgIf {a b : Int} {w : World} (ha : a = 0 ∨ a = 1) : Calls Tryz.prog 132 #[.int .i64 a, .int .i64 b] w fun e w' => e = .returned (.int .i64 (b * a)) ∧ w = w' := by
  rcases ha with rfl | rfl
  · go_enter Tryz.func132, Tryz.ntmps132
    go_wp2
    go_ret; exact ⟨by rw [Int.mul_zero]; rfl, rfl⟩
  · go_enter Tryz.func132, Tryz.ntmps132
    go_wp2
    go_ret; exact ⟨by rw [Int.mul_one]; rfl, rfl⟩
theorem tmod2 {x : Int} (h : 0 ≤ x) : x.tmod 2 = x % 2 := by rw [Int.tmod_eq_emod_of_nonneg h]
end Go.Proofs.YtejeppjmlgfiaaaGreat
