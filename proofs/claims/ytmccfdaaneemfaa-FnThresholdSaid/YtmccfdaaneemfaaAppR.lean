/- The append of a whole slice at a step of a region that draws its order; a list behind a list, the program's. Conditions: the lists are short. -/
import Derived.Test.YtmccfdaaneemfaaOwnK
import Derived.Deep.RegionHeld3
namespace Go.Proofs.Ytmccfdaaneemfaa
open Go.RowKit
set_option linter.unusedVariables false
section
variable {P : Program} {ops : Array Oper} {rest : List Oper} {o : Oper} {a : Act} {Q : Exit → Act → World → Prop}
theorem step_appAll {W : World} {K : Act → World → Prop} {Z : Prop} (hg : o.guard = none) {s x : Operand} {t : TypeId} (hop : o.op = Op.call { callee := Callee.builtin Builtin.append, args := #[s, x], argTypes := #[t, t] })
    {B : Nat} {E : TypeId} {z0 : Value} {by_ : Nat} (ht : P.underlying t = some (.slice E)) (hinfo : (P.info? E).map (fun i => (i.zero, i.size, i.bytes)) = some (some z0, 1, by_)) (hz : z0.cells.size = 1)
    {v : Value} {n : Nat} {xs : List Value} {ba oa m c : Nat} {news : List Value} (hown : W.ownsRow B E 1 v n xs) (hrd : Rd W (some ⟨ba, oa, none⟩) news) (hnl : news.length = m) (hs : a.eval s = v) (hx : a.eval x = .slice (some ⟨ba, oa, none⟩) m c) (hu : ∀ u ∈ news, u.oneCell' = true)
    (h63 : n + m ≤ maxLen) (hn : (n + m) * by_ ≤ 140737488355328) (hB : B ≤ W.heap.size)
    (hK : ∀ v' w', w'.ownsRow B E 1 v' (n + m) (xs ++ news) → W.grownBy w' v.ownBlock → (∀ g, v'.ownBlock = some g → v.ownBlock = some g ∨ W.heap.size ≤ g) → K (a.put o.dst v') w') :
    if Region.wanted o (yielded ops a.tmps) = true then Oper.wp P o a W K Q else Z := by
  have hw : Region.wanted o (yielded ops a.tmps) = true := by simp [Region.wanted, hg]
  rw [if_pos hw]
  obtain ⟨i, hi, hz0, hz1, hz2⟩ := info_parts hinfo
  obtain ⟨v', w', hrun, h1, h2, _, h4⟩ := run_append_own_at (P := P) W B t o.type E i z0 1 by_ ht hi hz0 hz1 hz2 hz (by omega) v n xs hown ⟨ba, oa, none⟩ m c news (by omega)
    (by
      intro j u hj
      obtain ⟨b, o', e, _, hc⟩ := hrd (by have := (List.getElem?_eq_some_iff.1 hj).1; omega)
      injection e with e; injection e with e1 e2; subst e1 e2
      rw [Addr.add_lit]; exact hc j u hj) hu h63 hn hB
  unfold Oper.wp
  simp [execOp, hop, resolve, invoke, builtin, hs, hx, hrun, Result.andThen]
  refine hK v' w' h1 h2 ?_
  intro g hg'
  rcases h4 with h4 | h4
  · exact .inl (h4.symm.trans hg')
  · rw [h4] at hg'; simp at hg'; right; omega
end
theorem c_impl_with2 {va vb : Value} {a b : List Int} {w : World} (ha : Ints w va a) (hb : Ints w vb b) (hla : a.length ≤ 1048576) (hlb : b.length ≤ 1048576) : Calls Try.prog 122 #[va, vb] w (RetI w (a ++ b)) := by
  have HA := Lib.hid ha
  have HB := Lib.hid hb
  obtain ⟨A, c, rfl, -⟩ := ha
  obtain ⟨A', c', rfl, -⟩ := hb
  go_enter Try.func122, Try.ntmps122
  go_wp2_with fail
  refine (c_slices_Clone HA.out (by omega)).mono ?_
  rintro e w1 ⟨u, rfl, hu, hb1⟩
  obtain ⟨A2, c2, e2, _, _, hrd⟩ := HB.out.below hb1
  injection e2 with e3 e4 e5
  subst e3 e5
  go_wp2_with (at_builtin; refine wp_appAll (B := w.heap.size) rfl rfl Try.underlying32 info_int rfl hu hrd (List.length_map _) rfl rfl (ints_one b) (by unfold maxLen; omega) (by omega) hb1.size ?_; intro v' w' ho hg hb)
  go_ret
  refine RetI.mk (by simpa [OwnI] using ho) (hb1.grown hg hb1.size (fun g hg' => own_ge hu g hg'))
end Go.Proofs.Ytmccfdaaneemfaa
