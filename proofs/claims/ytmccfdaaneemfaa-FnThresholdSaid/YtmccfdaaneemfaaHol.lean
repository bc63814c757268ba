/- Short lists of holders, and of the lesser of two numbers. Conditions: the bounds that each names. -/
import Derived.Test.YtmccfdaaneemfaaDrawG
import Derived.Test.YtmccfdaaneemfaaRef
import Derived.Deep.RegionLaw
import Derived.Deep.DeepCutAuto
namespace Go.Proofs.Ytmccfdaaneemfaa
open Go.RowKit
set_option linter.unusedVariables false
set_option maxHeartbeats 2000000
section
variable {w : World} {g n : Nat} {cd : Value}
theorem results_tmp4 {fn : Func} {t u v x : Tmp} (h : fn.results = #[.tmp t, .tmp u, .tmp v, .tmp x]) (tmps : Array Value) (P : Program) (w : World) :
    (results fn tmps).run P w = .ok (.tuple #[tmps.getD t undef, tmps.getD u undef, tmps.getD v undef, tmps.getD x undef]) w := by
  simp [results, h]
theorem results_tmp5 {fn : Func} {t u v x y : Tmp} (h : fn.results = #[.tmp t, .tmp u, .tmp v, .tmp x, .tmp y]) (tmps : Array Value) (P : Program) (w : World) :
    (results fn tmps).run P w = .ok (.tuple #[tmps.getD t undef, tmps.getD u undef, tmps.getD v undef, tmps.getD x undef, tmps.getD y undef]) w := by
  simp [results, h]
theorem OwnI.cut {w : World} {B k m c : Nat} {A : Option Addr} {l : List Int} (h : OwnI w B (.slice A m c) l) (hk : k ≤ l.length) : OwnI w B (.slice A k c) (l.take k) := by
  refine ⟨by simp, ?_⟩
  rcases h.2 with ⟨e, h0⟩ | ⟨g, cap, cur, e, hB, hh, hnc, hm, hcs, htake⟩
  · injection e with e1 e2 e3
    subst e1 e3
    exact .inl ⟨by rw [show k = 0 by omega], by simp; omega⟩
  · injection e with e1 e2 e3
    subst e1 e3
    refine .inr ⟨g, c, cur, by rw [List.length_take, Nat.min_eq_left hk], hB, hh, by simp; omega, hm, hcs, ?_⟩
    rw [List.length_take, Nat.min_eq_left hk, Nat.mul_one, List.map_take, ← htake, Nat.mul_one, List.take_take, Nat.min_eq_left hk]
theorem c_spec_l1Least {a b : Int} {w : World} : Calls Try.prog 140 #[.int .i64 a, .int .i64 b] w fun e w' => e = .returned (.int .i64 (if a < b then a else b)) ∧ w = w' := by
  by_cases h : a < b
  · rw [if_pos h]
    go_enter Try.func140, Try.ntmps140
    go_wp2
    go_ret; exact ⟨rfl, rfl⟩
  · rw [if_neg h]
    go_enter Try.func140, Try.ntmps140
    go_wp2
    go_ret; exact ⟨rfl, rfl⟩
/-- Holders 1, 2, .. -/
def rngN (k : Nat) : List Int := (List.range k).map fun (i : Nat) => (i : Int) + 1
theorem rngN_snoc (k : Nat) : rngN (k + 1) = rngN k ++ [(k : Int) + 1] := by simp [rngN, List.range_succ]
theorem rngN_length (k : Nat) : (rngN k).length = k := by simp [rngN]
/-- A short list of small numbers. -/
def Sm (l : List Int) : Prop := l.length ≤ 12 ∧ ∀ x ∈ l, -1000 ≤ x ∧ x ≤ 1000
theorem Sm.put {l : List Int} (h : Sm l) (k : Nat) {x : Int} (hx : -1000 ≤ x ∧ x ≤ 1000) : Sm (l.set k x) := ⟨by rw [List.length_set]; exact h.1, fun y hy => by
  rcases List.mem_or_eq_of_mem_set hy with h1 | rfl
  · exact h.2 y h1
  · exact hx⟩
theorem Sm.head {l : List Int} (h : Sm l) (k : Nat) : Sm (l.take k) := ⟨by have := h.1; simp; omega, fun y hy => h.2 y (List.mem_of_mem_take hy)⟩
theorem rngN_sm {k : Nat} (h : k ≤ 12) : Sm (rngN k) := ⟨by rw [rngN_length]; exact h, fun x hx => by
  obtain ⟨i, hi, rfl⟩ := List.mem_map.1 hx
  have := List.mem_range.1 hi; omega⟩
theorem splitN_sm {p : Int} (hp : 2 ≤ p ∧ p ≤ 251) (cs : List Int) {k : Nat} (h : k ≤ 12) : Sm (splitN p cs k) := ⟨by rw [splitN_length]; exact h, fun x hx => by have := splitN_bd (p := p) (by omega) cs k x hx; omega⟩
end
end Go.Proofs.Ytmccfdaaneemfaa
