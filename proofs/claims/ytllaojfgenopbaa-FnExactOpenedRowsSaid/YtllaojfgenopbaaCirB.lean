/- The laws' own copies of circuits. Conditions: the lists are short. -/
import Derived.Test.YtllaojfgenopbaaCirA
import Derived.Test.YtllaojfgenopbaaInts
namespace Go.Proofs.Ytllaojfgenopbaa
open Go.RowKit
set_option linter.unusedVariables false

/-- The two slices of a circuit are owned and lie apart. -/
structure OwnC (w : World) (B : Nat) (gv ov : Value) (c : Cir) (m : Nat) : Prop where
  gates : OwnG w B gv c.gs
  outs : OwnI w m ov c.outs
  le : B ≤ m
  lt : ∀ g, gv.ownBlock = some g → g < m
theorem OwnC.cir {w : World} {B m : Nat} {gv ov : Value} {c : Cir} (h : OwnC w B gv ov c m) : CirIn w gv ov c := ⟨h.gates.gates, h.outs.ints⟩
theorem OwnC.below {w w' : World} {B m : Nat} {gv ov : Value} {c : Cir} (h : OwnC w B gv ov c m) (hb : Below w.heap.size w w') : OwnC w' B gv ov c m := ⟨h.gates.below hb, h.outs.below hb, h.le, h.lt⟩
def RetC (w : World) (c : Cir) (e : Ending) (w' : World) : Prop := ∃ gv ov m, e = .returned (cirV c gv ov) ∧ OwnC w' w.heap.size gv ov c m ∧ Below w.heap.size w w'

/-- Three blocks laid one behind the other. -/
theorem three {w : World} {cA cB cC : Array Value} {tA tB tC : TypeId} {w1 : World} (hb : Below (((w.alloc (.cells cA tA)).alloc (.cells cB tB)).alloc (.cells cC tC)).heap.size (((w.alloc (.cells cA tA)).alloc (.cells cB tB)).alloc (.cells cC tC)) w1) :
    Blk w1 w.heap.size tA cA ∧ Blk w1 (w.heap.size + 1) tB cB ∧ Blk w1 (w.heap.size + 1 + 1) tC cC ∧ Below w.heap.size w w1 ∧ w.heap.size + 3 ≤ w1.heap.size := by
  have h1 : Blk (((w.alloc (.cells cA tA)).alloc (.cells cB tB)).alloc (.cells cC tC)) w.heap.size tA cA := ((Blk.new w tA cA).alloc _).alloc _
  have h2 : Blk (((w.alloc (.cells cA tA)).alloc (.cells cB tB)).alloc (.cells cC tC)) (w.heap.size + 1) tB cB := by
    have := (Blk.new (w.alloc (.cells cA tA)) tB cB).alloc (.cells cC tC); simpa using this
  have h3 : Blk (((w.alloc (.cells cA tA)).alloc (.cells cB tB)).alloc (.cells cC tC)) (w.heap.size + 1 + 1) tC cC := by
    have := Blk.new ((w.alloc (.cells cA tA)).alloc (.cells cB tB)) tC cC; simpa using this
  have h4 := hb.size
  refine ⟨h1.step hb, h2.step hb, h3.step hb, ?_, by simp at h4; omega⟩
  exact ((((Below.refl _ _).alloc (Nat.le_refl _) _).alloc (by simp) _).alloc (by simp; omega) _).trans (hb.mono (by simp; omega))

set_option maxHeartbeats 800000 in
theorem c_laws_toCircuit {gv ov : Value} {c : Cir} {w : World} (h : CirIn w gv ov c) (hl : c.gs.length ≤ 1048576) (hl2 : c.outs.length ≤ 1048576) : Calls Try.prog 13 #[cirV c gv ov] w (RetC w c) := by
  have H := Lib.hid h
  obtain ⟨hg, ho⟩ := h
  obtain ⟨A, cg, rfl, hlc, hcm, hrd⟩ := hg
  obtain ⟨A', co, rfl, hlc', hcm', hrd'⟩ := ho
  clear hcm hrd hcm' hrd'
  unfold cirV
  go_enter Try.func13, Try.ntmps13
  go_wp2_with fail
  refine (c_laws_toGateS (((H.out.alloc _).alloc _).alloc _).gates hl).mono ?_
  rintro e w1 ⟨u, rfl, hu, hb1⟩
  obtain ⟨k1, k2, k3, HB1, hs1⟩ := three hb1
  have HU := Lib.hid hu
  have hu1 := own_form hu
  obtain ⟨A2, c2, rfl, _, _, _⟩ := hu1
  have K1 := Lib.hid k1
  have K2 := Lib.hid k2
  have K3 := Lib.hid k3
  have HB := Lib.hid HB1
  have b3 : w1.cell? ⟨w.heap.size, 3, none⟩ = some (.slice A' c.outs.length co) := k1.cell 3
  have d2 : w1.cell? ⟨w.heap.size + 1 + 1, 2, none⟩ = some (.slice none 0 0) := k3.cell 2
  have f2 : w1.frozen? ⟨w.heap.size + 1 + 1, 2, none⟩ = false := k3.free 2
  clear hb1 k1 k2 k3 HB1 hu
  go_wp2_with fail
  have hb2' : w1.grownBy (w1.setCell ⟨w.heap.size + 1 + 1, 2, none⟩ (.slice A2 c.gs.length c2)) (some (w.heap.size + 1 + 1)) := ⟨rfl, rfl, rfl, by simp, fun k _ hk => Below.heap_setCell _ _ _ _ (fun e => hk (by rw [e]))⟩
  have HB2 : Hid (Below w.heap.size w (w1.setCell ⟨w.heap.size + 1 + 1, 2, none⟩ (.slice A2 c.gs.length c2))) := HB.out.setCell (p := ⟨w.heap.size + 1 + 1, 2, none⟩) (by simp; omega) _
  have KK2 : Hid (Blk (w1.setCell ⟨w.heap.size + 1 + 1, 2, none⟩ (.slice A2 c.gs.length c2)) (w.heap.size + 1) 31 #[.int .i64 0, .int .i64 0, .slice none 0 0, .slice none 0 0]) := K2.out.far (p := ⟨w.heap.size + 1 + 1, 2, none⟩) (by simp) _
  have KK3 : Hid (Blk (w1.setCell ⟨w.heap.size + 1 + 1, 2, none⟩ (.slice A2 c.gs.length c2)) (w.heap.size + 1 + 1) 31 #[.int .i64 c.i0, .int .i64 c.i1, .slice A2 c.gs.length c2, .slice none 0 0]) := K3.out.set_ 2 _
  have HU2 : Hid (OwnG (w1.setCell ⟨w.heap.size + 1 + 1, 2, none⟩ (.slice A2 c.gs.length c2)) w.heap.size (.slice A2 c.gs.length c2) c.gs) :=
    own_mono (own_grown HU.out hb2' (fun g hg e => by have h1 := own_ge HU.out g hg; injection e with e; simp at h1; omega)) (by simp; omega)
  have HLT : Hid (∀ g, (Value.slice A2 c.gs.length c2).ownBlock = some g → g < w1.heap.size) := HU.out.lt
  clear b3 d2 f2 hb2'
  refine (c_laws_toIntS (H.out.outs.below HB2.out) hl2).mono ?_
  rintro e w2 ⟨u2, rfl, hu2, hb2⟩
  obtain ⟨A3, c3, rfl, _, _, _⟩ := own_form hu2
  have KA := Lib.hid (KK2.out.step hb2)
  have KB := Lib.hid (KK3.out.step hb2)
  have HU3 := Lib.hid (HU2.out.below hb2)
  have HV := Lib.hid hu2
  have HB3 : Hid (Below w.heap.size w w2) := below_step HB2.out hb2
  have hs2 : w1.heap.size ≤ w2.heap.size := by have := hb2.size; simpa using this
  have a0 : w2.cell? ⟨w.heap.size + 1, 0, none⟩ = some (.int .i64 0) := KA.out.cell 0
  have a1 : w2.cell? ⟨w.heap.size + 1, 1, none⟩ = some (.int .i64 0) := KA.out.cell 1
  have a2 : w2.cell? ⟨w.heap.size + 1, 2, none⟩ = some (.slice none 0 0) := KA.out.cell 2
  have a3 : w2.cell? ⟨w.heap.size + 1, 3, none⟩ = some (.slice none 0 0) := KA.out.cell 3
  have e0 : w2.frozen? ⟨w.heap.size + 1, 0, none⟩ = false := KA.out.free 0
  have e1 : w2.frozen? ⟨w.heap.size + 1, 1, none⟩ = false := KA.out.free 1
  have e2 : w2.frozen? ⟨w.heap.size + 1, 2, none⟩ = false := KA.out.free 2
  have e3 : w2.frozen? ⟨w.heap.size + 1, 3, none⟩ = false := KA.out.free 3
  have b0 : w2.cell? ⟨w.heap.size + 1 + 1, 0, none⟩ = some (.int .i64 c.i0) := KB.out.cell 0
  have b1 : w2.cell? ⟨w.heap.size + 1 + 1, 1, none⟩ = some (.int .i64 c.i1) := KB.out.cell 1
  have b2 : w2.cell? ⟨w.heap.size + 1 + 1, 2, none⟩ = some (.slice A2 c.gs.length c2) := KB.out.cell 2
  have b3 : w2.cell? ⟨w.heap.size + 1 + 1, 3, none⟩ = some (.slice none 0 0) := KB.out.cell 3
  have f3 : w2.frozen? ⟨w.heap.size + 1 + 1, 3, none⟩ = false := KB.out.free 3
  clear hu2 hb2
  go_wp2
  have hge1 : ∀ g, (Value.slice A2 c.gs.length c2).ownBlock = some g → g ≠ w.heap.size + 1 ∧ g ≠ w.heap.size + 1 + 1 := fun g hg => by have h1 := own_ge HU.out g hg; simp at h1; omega
  have hge2 : ∀ g, (Value.slice A3 c.outs.length c3).ownBlock = some g → g ≠ w.heap.size + 1 ∧ g ≠ w.heap.size + 1 + 1 := fun g hg => by have h1 := own_ge HV.out g hg; simp at h1; omega
  have HF := (((((KA.out.far (p := ⟨w.heap.size + 1 + 1, 3, none⟩) (by simp) (.slice A3 c.outs.length c3)).set_ 0 (.int .i64 c.i0)).set_ 1 (.int .i64 c.i1)).set_ 2 (.slice A2 c.gs.length c2)).set_ 3 (.slice A3 c.outs.length c3))
  have k0 := HF.cell 0
  have k1 := HF.cell 1
  have k2 := HF.cell 2
  have k3 := HF.cell 3
  refine bodyPost_ret (v := cirV c (.slice A2 c.gs.length c2) (.slice A3 c.outs.length c3)) (by simp [results, Try.results13, go_sem, k0, k1, k2, k3, cirV]) rfl ⟨_, _, w1.heap.size, rfl, ⟨?_, ?_, ?_, HLT.out⟩, ?_⟩
  · exact own_set (own_set (own_set (own_set (own_set HU3.out (fun g hg => (hge1 g hg).2) _) (fun g hg => (hge1 g hg).1) _) (fun g hg => (hge1 g hg).1) _) (fun g hg => (hge1 g hg).1) _) (fun g hg => (hge1 g hg).1) _
  · exact own_set (own_set (own_set (own_set (own_set (own_mono HV.out (by simp)) (fun g hg => (hge2 g hg).2) _) (fun g hg => (hge2 g hg).1) _) (fun g hg => (hge2 g hg).1) _) (fun g hg => (hge2 g hg).1) _) (fun g hg => (hge2 g hg).1) _
  · omega
  · exact ((((HB3.out.setCell (p := ⟨w.heap.size + 1 + 1, 3, none⟩) (by simp; omega) _).setCell (p := ⟨w.heap.size + 1, 0, none⟩) (by simp) _).setCell (p := ⟨w.heap.size + 1, 1, none⟩) (by simp) _).setCell (p := ⟨w.heap.size + 1, 2, none⟩) (by simp) _).setCell (p := ⟨w.heap.size + 1, 3, none⟩) (by simp) _
end Go.Proofs.Ytllaojfgenopbaa
