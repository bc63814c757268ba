/- The laws' marks on circuits. Conditions: the lists are short. -/
import Derived.Test.YtllaojfgenopbaaCirC
namespace Go.Proofs.Ytllaojfgenopbaa
open Go.RowKit
set_option linter.unusedVariables false

theorem only_setCell {a w : World} {g : Nat} (h : a.grownBy w (some g)) (j : Nat) (u : Value) : a.grownBy (w.setCell ⟨g, j, none⟩ u) (some g) :=
  only_trans h ⟨rfl, rfl, rfl, by simp, fun k _ hk => Below.heap_setCell _ _ _ _ (fun e => hk (by rw [e]))⟩

set_option maxHeartbeats 400000 in
theorem c_laws_markGateS {v : Value} {gs : List Gt} {w : World} {B : Nat} {k : Int} (h : OwnG w B v gs) (hl : gs.length ≤ 2097152) (hk : 0 ≤ k ∧ k ≤ 1000000000) :
    Calls Try.prog 50 #[v, .int .i64 k] w fun e w' => e = .returned (.int .i64 (k + 3 * gs.length)) ∧ w.grownBy w' v.ownBlock := by
  obtain ⟨A, c, rfl, hlc, hcm, hrd⟩ := own_form h
  have hst : Hid (∃ xs, w.ownsRow B 94 3 (.slice A gs.length c) gs.length xs) := ⟨_, h⟩
  clear h hrd
  go_enter Try.func50, Try.ntmps50
  go_wp2
  go_loopw [1, 5] (fun q i wr => ∃ j : Nat, j ≤ gs.length ∧ i = .int .i64 j ∧ q = .int .i64 (k + 3 * j) ∧ Hid (∃ xs, wr.ownsRow B 94 3 (.slice A gs.length c) gs.length xs) ∧ Hid (w.grownBy wr (Value.slice A gs.length c).ownBlock)) (fun _ i _ => gs.length - (intOf i).toNat)
  case atStart => exact ⟨0, Nat.zero_le _, rfl, by simp, hst, only_refl _ _⟩
  case round =>
    obtain ⟨j, hj, rfl, rfl, HO, HG⟩ := hrel
    clear hst
    by_cases hlt : j < gs.length
    · obtain ⟨xs, hxo⟩ := HO.out
      obtain ⟨g, c', e, hB, hg, _, _⟩ := own_pos hxo (by omega)
      injection e with e1 e2 e3
      subst e1
      clear e2 e3
      have f0 := hxo.frozenAt (j * 3)
      have f1 := hxo.frozenAt (j * 3 + 1)
      have f2 := hxo.frozenAt (j * 3 + 2)
      obtain ⟨u0, hu0⟩ : ∃ u, wr.cell? ⟨g, j * 3, none⟩ = some u := by
        rw [hxo.cellAt (j * 3) (by omega)]; exact ⟨_, List.getElem?_eq_getElem (by rw [hxo.1]; omega)⟩
      obtain ⟨u1, hu1⟩ : ∃ u, wr.cell? ⟨g, j * 3 + 1, none⟩ = some u := by
        rw [hxo.cellAt (j * 3 + 1) (by omega)]; exact ⟨_, List.getElem?_eq_getElem (by rw [hxo.1]; omega)⟩
      obtain ⟨u2, hu2⟩ : ∃ u, wr.cell? ⟨g, j * 3 + 2, none⟩ = some u := by
        rw [hxo.cellAt (j * 3 + 2) (by omega)]; exact ⟨_, List.getElem?_eq_getElem (by rw [hxo.1]; omega)⟩
      have HX := Lib.hid hxo
      clear hxo HO
      go_wp2
      go_roundw
      case rel =>
        refine ⟨j + 1, by omega, by go_num, by rw [show ((j + 1 : Nat) : Int) = (j : Int) + 1 by omega]; congr 1; omega, ⟨_, (((HX.out.stored (j * 3) _).1.stored (j * 3 + 1) _).1.stored (j * 3 + 2) _).1⟩, ?_⟩
        exact only_setCell (only_setCell (only_setCell HG.out _ _) _ _) _ _
      case measure => simp [intOf]; omega
    · obtain rfl : j = gs.length := by omega
      go_wp2
      go_ret
      exact ⟨rfl, HG.out⟩
set_option maxHeartbeats 400000 in
theorem c_laws_markCircuit {gv ov : Value} {c : Cir} {w : World} {B m : Nat} {k : Int} (h : OwnC w B gv ov c m) (hl : c.gs.length ≤ 2097152) (hl2 : c.outs.length ≤ 2097152) (hk : 0 ≤ k ∧ k ≤ 100000000) :
    Calls Try.prog 17 #[cirV c gv ov, .int .i64 k] w fun e w' => e = .returned (.int .i64 (k + 3 * c.gs.length + c.outs.length)) ∧
      (∀ N, (∀ g, gv.ownBlock = some g → N ≤ g) → (∀ g, ov.ownBlock = some g → N ≤ g) → N ≤ w.heap.size → Below N w w') ∧
      (∀ x, x < w.heap.size → gv.ownBlock ≠ some x → ov.ownBlock ≠ some x → w'.heap[x]? = w.heap[x]?) := by
  have H := Lib.hid h
  obtain ⟨Ag, cg, rfl, _, _, _⟩ := own_form h.gates
  obtain ⟨Ao, co, rfl, _, _, _⟩ := own_form h.outs
  clear h
  unfold cirV
  go_enter Try.func17, Try.ntmps17
  go_wp2_with fail
  have hH : OwnG (w.alloc (.cells #[.int .i64 c.i0, .int .i64 c.i1, .slice Ag c.gs.length cg, .slice Ao c.outs.length co] 31)) B (.slice Ag c.gs.length cg) c.gs := H.out.gates.below ((Below.refl _ _).alloc (Nat.le_refl _) _)
  have hO : OwnI (w.alloc (.cells #[.int .i64 c.i0, .int .i64 c.i1, .slice Ag c.gs.length cg, .slice Ao c.outs.length co] 31)) m (.slice Ao c.outs.length co) c.outs := H.out.outs.below ((Below.refl _ _).alloc (Nat.le_refl _) _)
  have hne : some w.heap.size ≠ (Value.slice Ag c.gs.length cg).ownBlock := fun e => by have := H.out.gates.lt _ e.symm; omega
  have hbk := Blk.new w 31 #[.int .i64 c.i0, .int .i64 c.i1, .slice Ag c.gs.length cg, .slice Ao c.outs.length co]
  refine (c_laws_markGateS hH hl (by omega)).mono ?_
  rintro e w1 ⟨rfl, g1⟩
  have k1 : w1.cell? ⟨w.heap.size, 3, none⟩ = some (.slice Ao c.outs.length co) := (hbk.grown g1 hne).cell 3
  have hO1 := Lib.hid (hO.grown g1 (fun g hg => by
    have h1 := H.out.outs.ge g hg
    intro e
    have h2 := H.out.lt g e.symm
    omega))
  have G1 := Lib.hid g1
  clear hH hO hne hbk g1
  go_wp2_with fail
  refine (c_laws_markIntS hO1.out hl2 (by omega)).mono ?_
  rintro e w2 ⟨rfl, _, g2⟩
  have G2 := Lib.hid g2
  clear g2
  go_wp2
  go_ret
  refine ⟨rfl, fun N h1 h2 h3 => ?_, fun x hx h1 h2 => ?_⟩
  · exact (((Below.refl _ _).alloc h3 _).grown G1.out (by simp; omega) h1).grown G2.out (by have := G1.out.size; simp at this; omega) h2
  · rw [G2.out.block x (by have := G1.out.size; simp at this; omega) (fun e => h2 e.symm), G1.out.block x (by simp; omega) (fun e => h1 e.symm)]
    exact heap_alloc_old w _ hx
end Go.Proofs.Ytllaojfgenopbaa
