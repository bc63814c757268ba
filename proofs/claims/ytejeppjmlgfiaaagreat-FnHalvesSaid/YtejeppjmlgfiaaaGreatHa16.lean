/- The contract of a draw for a run of halved circuits. Condition: the bytes read as bytes. -/
import Derived.Test.YtejeppjmlgfiaaaGreatHa15
import Derived.Test.YtejeppjmlgfiaaaGreatHa5
import Derived.Deep.RegionHeld3
namespace Go.Proofs.YtejeppjmlgfiaaaGreat
open Go.RowKit
set_option linter.unusedVariables false
set_option maxHeartbeats 4000000
section
variable {w : World} {cd : Value} {l0 : List Int}
set_option maxRecDepth 100000 in
theorem c_spec_DrawRunHalved (h : Byts w cd l0) : Calls Tryz.prog 6 #[cd] w fun e w' => (∃ (c : Cir) (gv ov u v : Value) (k : Int) (a b : List Int), e = .returned (.tuple #[cirV c gv ov, .int .i64 k, u, v]) ∧ AnC c ∧ a.length ≤ 601 ∧ b.length ≤ 601 ∧ CirIn w' gv ov c ∧ Ints w' u a ∧ Ints w' v b) ∧ Below w.heap.size w w' := by
  obtain ⟨A0, c0, rfl⟩ := h.form
  obtain ⟨hC, hR, hB, hS⟩ := pk_new h
  have HW := Lib.hid (And.intro hR (And.intro hB hS))
  have HC := Lib.hid hC
  clear h hR hB hS hC
  go_enter Tryz.func6, Tryz.ntmps6
  go_wp2_with fail
  refine (c_anyCircuit HC.out (by omega)).mono ?_
  rintro e w1 ⟨c, gv, ov, rfl, hs, hog, hoo, -, hc1, hg1⟩
  obtain ⟨Ag, cg, eg, -⟩ := own_form hog
  obtain ⟨Ao, co, eo, -⟩ := own_form hoo
  subst eg eo
  have hP := Pk.start HC.out HW.out.1 (by have := HW.out.2.2; omega) hog hoo hc1 hg1
  have HP := Lib.hid hP
  have hi0 : c.i0 ≤ 21 := hs.1.2.1
  have hi1 : c.i1 ≤ 21 := hs.1.2.2.2
  have HS := Lib.hid hs
  have HX := Lib.hid (show w1.heap.size = w1.heap.size from rfl)
  obtain ⟨x0, x1, x2, x3⟩ := hP.four
  clear hog hoo hc1 hg1 hP hs
  unfold cirV
  go_wp2_with fail
  refine (c_inputs HP.out.cur (by omega) hi0 hi1).mono ?_
  rintro e w2 ⟨u, v, rfl, a, b, ha, hb, hoa, hob, hd⟩
  obtain ⟨Aa, ca, ea, -⟩ := own_form hoa
  obtain ⟨Ab, cb, eb, -⟩ := own_form hob
  subst ea eb
  have hQ := HP.out.two hoa hob hd
  have HQ := Lib.hid hQ
  have hP0 := hQ.drew
  have HAB := Lib.hid (And.intro ha hb)
  generalize w1.heap.size = x at *
  clear hoa hob hd HP hQ x0 x1 x2 x3 ha hb
  go_wp2_with fail
  go_region_held3 (fun w' => w'.cell? ⟨x, 0, none⟩ = some (.int .i64 c.i0) ∧ w'.cell? ⟨x, 1, none⟩ = some (.int .i64 c.i1) ∧ w'.cell? ⟨x, 2, none⟩ = some (.slice Ag c.gs.length cg) ∧ w'.cell? ⟨x, 3, none⟩ = some (.slice Ao c.outs.length co))
    (first | with_reducible exact hP3.four | with_reducible exact hP3.stored _ _ _ _ | with_reducible exact hP2.four | with_reducible exact (hP2.alloc _).four | with_reducible exact hP1.four | with_reducible exact hP0.four)
    (first
      | (go_at_call 55; (first | ((with_reducible refine (hP1.c_pick (by omega) (by omega)).mono ?_); rintro e wb ⟨r2, rfl, h20, h21, hP2⟩; have hgl := hP2.cur.lt) | ((with_reducible refine (hP0.c_pick (by omega) (by omega)).mono ?_); rintro e wa ⟨r1, rfl, h10, h11, hP1⟩)))
      | (go_at_call 54; (refine (Pk.c_among (lv := .slice (some ⟨wb.heap.size, 0, none⟩) 4 4) (hP2.alloc (.cells #[.int .i64 r1, .int .i64 r2, .int .i64 0, .int .i64 (-1)] 3)) (by omega) (ints_lit wb [r1, r2, 0, -1] #[.int .i64 r1, .int .i64 r2, .int .i64 0, .int .i64 (-1)] rfl (by simp)) (by simp) (by simp) (by rintro b hb; simp [Value.ownBlock] at hb; omega)).mono ?_); rintro e wm ⟨k, rfl, hP3⟩; obtain ⟨r0, r1, r2, r3, f0, f1, f2, f3⟩ := hP3.resf))
  all_goals
    go_wp2
    obtain ⟨d1, d2, d3, d4, k0, k1, k2, k3⟩ := hP3.done HW.out.2.1 (Nat.le_refl _) (Nat.le_succ _) HW.out.2.1.size
    exact bodyPost_ret (v := .tuple #[cirV c (.slice Ag c.gs.length cg) (.slice Ao c.outs.length co), .int .i64 k, .slice Aa a.length ca, .slice Ab b.length cb]) (by simp [results, Tryz.results6, go_sem, k0, k1, k2, k3, cirV]) rfl ⟨⟨c, _, _, _, _, k, a, b, rfl, HS.out, HAB.out.1, HAB.out.2, d1, d2, d3⟩, d4⟩
end
end Go.Proofs.YtejeppjmlgfiaaaGreat

/- The laws' own helpers on circuits: sizes, comparisons, marks. Conditions: the lists are short. -/
namespace Go.Proofs.YtejeppjmlgfiaaaGreat
open Go.RowKit
set_option linter.unusedVariables false

def szM (left : Int) (n : Nat) : Int := if left - n < 0 then -1 else left - n
theorem szM_neg {left : Int} {n : Nat} (h : szM left n < 0) : szM left n = -1 := by unfold szM at h ⊢; split at h <;> simp_all
def szCM (left : Int) (c : Cir) : Int := if szM left c.gs.length < 0 then -1 else szM (szM left c.gs.length) c.outs.length
end Go.Proofs.YtejeppjmlgfiaaaGreat
