/- The laws' own helpers on circuits: sizes, comparisons, marks. Conditions: the lists are short. -/
import Derived.Test.YtllaojfgenopbaaCirB
import Derived.Deep.RegionHeld3
namespace Go.Proofs.Ytllaojfgenopbaa
open Go.RowKit
set_option linter.unusedVariables false

def szM (left : Int) (n : Nat) : Int := if left - n < 0 then -1 else left - n
theorem szM_neg {left : Int} {n : Nat} (h : szM left n < 0) : szM left n = -1 := by unfold szM at h ⊢; split at h <;> simp_all
theorem c_laws_szGateS {v : Value} {gs : List Gt} {w : World} {left : Int} (h : Gates w v gs) (hl : 0 ≤ left ∧ left ≤ 1048576) : Calls Try.prog 41 #[v, .int .i64 left] w fun e w' => e = .returned (.int .i64 (szM left gs.length)) ∧ w = w' := by
  obtain ⟨A, c, rfl, hlc, hcm, hrd⟩ := h
  unfold maxLen at hcm
  by_cases hs : left - (gs.length : Int) < 0
  · have HM := Lib.hid (show szM left gs.length = -1 by unfold szM; rw [if_pos hs])
    go_enter Try.func41, Try.ntmps41
    go_wp2
    go_ret; exact ⟨by rw [HM.out]; rfl, rfl⟩
  · have HM := Lib.hid (show szM left gs.length = left - (gs.length : Int) by unfold szM; rw [if_neg hs])
    go_enter Try.func41, Try.ntmps41
    go_wp2
    go_ret; exact ⟨by rw [HM.out]; rfl, rfl⟩
theorem c_laws_szIntS {v : Value} {l : List Int} {w : World} {left : Int} (h : Ints w v l) (hl : 0 ≤ left ∧ left ≤ 1048576) : Calls Try.prog 42 #[v, .int .i64 left] w fun e w' => e = .returned (.int .i64 (szM left l.length)) ∧ w = w' := by
  obtain ⟨A, c, rfl, hlc, hcm, hrd⟩ := h
  unfold maxLen at hcm
  by_cases hs : left - (l.length : Int) < 0
  · have HM := Lib.hid (show szM left l.length = -1 by unfold szM; rw [if_pos hs])
    go_enter Try.func42, Try.ntmps42
    go_wp2
    go_ret; exact ⟨by rw [HM.out]; rfl, rfl⟩
  · have HM := Lib.hid (show szM left l.length = left - (l.length : Int) by unfold szM; rw [if_neg hs])
    go_enter Try.func42, Try.ntmps42
    go_wp2
    go_ret; exact ⟨by rw [HM.out]; rfl, rfl⟩
def szCM (left : Int) (c : Cir) : Int := if szM left c.gs.length < 0 then -1 else szM (szM left c.gs.length) c.outs.length
theorem c_laws_szCircuit {gv ov : Value} {c : Cir} {w : World} {left : Int} (h : CirIn w gv ov c) (hl : 0 ≤ left ∧ left ≤ 1048576) : Calls Try.prog 11 #[cirV c gv ov, .int .i64 left] w fun e w' => e = .returned (.int .i64 (szCM left c)) ∧ Below w.heap.size w w' := by
  have H := Lib.hid h
  obtain ⟨hg, ho⟩ := h
  obtain ⟨A, cg, rfl, hlc, hcm, hrd⟩ := hg
  obtain ⟨A', co, rfl, hlc', hcm', hrd'⟩ := ho
  clear hcm hrd hcm' hrd'
  unfold cirV
  by_cases hs : szM left c.gs.length < 0
  · have HM := Lib.hid (show szCM left c = -1 by unfold szCM; rw [if_pos hs])
    go_enter Try.func11, Try.ntmps11
    go_wp2_with (go_at_call 41; refine (c_laws_szGateS (H.out.alloc _).gates hl).mono ?_; rintro e w' ⟨rfl, rfl⟩)
    go_ret; exact ⟨by rw [HM.out]; rfl, (Below.refl _ _).alloc (Nat.le_refl _) _⟩
  · have HM := Lib.hid (show szCM left c = szM (szM left c.gs.length) c.outs.length by unfold szCM; rw [if_neg hs])
    have hb : 0 ≤ szM left c.gs.length ∧ szM left c.gs.length ≤ 1048576 := by
      refine ⟨by omega, ?_⟩
      unfold szM; split <;> omega
    by_cases hs2 : szM (szM left c.gs.length) c.outs.length < 0
    · have HM2 := Lib.hid (szM_neg hs2)
      go_enter Try.func11, Try.ntmps11
      go_wp2_with (first | (go_at_call 41; refine (c_laws_szGateS (H.out.alloc _).gates hl).mono ?_; rintro e w' ⟨rfl, rfl⟩) | (go_at_call 42; refine (c_laws_szIntS (H.out.alloc _).outs hb).mono ?_; rintro e w' ⟨rfl, rfl⟩))
      go_ret; exact ⟨by rw [HM.out, HM2.out]; rfl, (Below.refl _ _).alloc (Nat.le_refl _) _⟩
    · go_enter Try.func11, Try.ntmps11
      go_wp2_with (first | (go_at_call 41; refine (c_laws_szGateS (H.out.alloc _).gates hl).mono ?_; rintro e w' ⟨rfl, rfl⟩) | (go_at_call 42; refine (c_laws_szIntS (H.out.alloc _).outs hb).mono ?_; rintro e w' ⟨rfl, rfl⟩))
      go_ret; exact ⟨by rw [HM.out]; rfl, (Below.refl _ _).alloc (Nat.le_refl _) _⟩

theorem c_laws_eqGate {k a b : Int} {w : World} : Calls Try.prog 98 #[.agg #[.int .i64 k, .int .i64 a, .int .i64 b], .agg #[.int .i64 k, .int .i64 a, .int .i64 b]] w fun e w' => e = .returned (.bool true) ∧ Below w.heap.size w w' := by
  go_enter Try.func98, Try.ntmps98
  go_wp2
  go_ret; exact ⟨rfl, ((Below.refl _ _).alloc (Nat.le_refl _) _).alloc (by simp) _⟩

theorem c_laws_eqGateS {va vb : Value} {gs : List Gt} {w : World} (ha : Gates w va gs) (hb : Gates w vb gs) (hl : gs.length ≤ 2097152) :
    Calls Try.prog 49 #[va, vb] w fun e w' => e = .returned (.bool true) ∧ Below w.heap.size w w' := by
  obtain ⟨A, c, rfl, hlc, hcm, hrd⟩ := ha
  obtain ⟨A', c', rfl, hlc', hcm', hrd'⟩ := hb
  go_enter Try.func49, Try.ntmps49
  go_wp2
  go_loopw [5] (fun i wr => ∃ k : Nat, k ≤ gs.length ∧ i = .int .i64 k ∧ Below w.heap.size w wr) (fun i _ => gs.length - (intOf i).toNat)
  case atStart => exact ⟨0, Nat.zero_le _, rfl, Below.refl _ _⟩
  case round =>
    obtain ⟨k, hk, rfl, hb⟩ := hrel
    by_cases hlt : k < gs.length
    · obtain ⟨b1, o1, g, rfl, hbl, hgk, c0, c1, c2⟩ := hrd.gate_at hlt
      obtain ⟨b2, o2, g', rfl, hbl2, hgk', d0, d1, d2⟩ := hrd'.gate_at hlt
      obtain rfl : g = g' := by rw [hgk] at hgk'; exact Option.some.inj hgk'
      have hk0 : (0 : Int) ≤ (k : Int) := Int.natCast_nonneg _
      have hk1 : (k : Int) < (gs.length : Int) := by omega
      have q0 := (hb.cell (p := ⟨b1, o1 + k * 3, none⟩) hbl).trans c0
      have q1 := (hb.cell (p := ⟨b1, o1 + k * 3 + 1, none⟩) hbl).trans c1
      have q2 := (hb.cell (p := ⟨b1, o1 + k * 3 + 2, none⟩) hbl).trans c2
      have r0 := (hb.cell (p := ⟨b2, o2 + k * 3, none⟩) hbl2).trans d0
      have r1 := (hb.cell (p := ⟨b2, o2 + k * 3 + 1, none⟩) hbl2).trans d1
      have r2 := (hb.cell (p := ⟨b2, o2 + k * 3 + 2, none⟩) hbl2).trans d2
      have HB := Lib.hid hb
      have C := Lib.hid (And.intro c0 (And.intro c1 (And.intro c2 (And.intro d0 (And.intro d1 d2)))))
      clear c0 c1 c2 d0 d1 d2 hgk hgk' hb
      go_wp2_with fail
      go_region_held3 (fun w' => w'.cell? ⟨b1, o1 + k * 3, none⟩ = some (.int .i64 g.k) ∧ w'.cell? ⟨b1, o1 + k * 3 + 1, none⟩ = some (.int .i64 g.a) ∧ w'.cell? ⟨b1, o1 + k * 3 + 2, none⟩ = some (.int .i64 g.b) ∧
          w'.cell? ⟨b2, o2 + k * 3, none⟩ = some (.int .i64 g.k) ∧ w'.cell? ⟨b2, o2 + k * 3 + 1, none⟩ = some (.int .i64 g.a) ∧ w'.cell? ⟨b2, o2 + k * 3 + 2, none⟩ = some (.int .i64 g.b))
        (first | go_keep | exact ⟨(HB2.out.cell (p := ⟨b1, o1 + k * 3, none⟩) hbl).trans C.out.1, (HB2.out.cell (p := ⟨b1, o1 + k * 3 + 1, none⟩) hbl).trans C.out.2.1, (HB2.out.cell (p := ⟨b1, o1 + k * 3 + 2, none⟩) hbl).trans C.out.2.2.1, (HB2.out.cell (p := ⟨b2, o2 + k * 3, none⟩) hbl2).trans C.out.2.2.2.1, (HB2.out.cell (p := ⟨b2, o2 + k * 3 + 1, none⟩) hbl2).trans C.out.2.2.2.2.1, (HB2.out.cell (p := ⟨b2, o2 + k * 3 + 2, none⟩) hbl2).trans C.out.2.2.2.2.2⟩)
        ((go_at_call 98; refine c_laws_eqGate.mono ?_; rintro e w2 ⟨rfl, hb2⟩; have HB2 := Lib.hid (HB.out.drew.trans (hb2.mono HB.out.size)); clear hb2))
      go_wp2
      go_roundw
      case rel => exact ⟨k + 1, by omega, by go_num, HB2.out⟩
      case measure => simp [intOf]; omega
    · go_wp2
      go_ret
      exact ⟨rfl, hb⟩

set_option maxHeartbeats 400000 in
theorem c_laws_eqCircuit {ga oa gb ob : Value} {c : Cir} {w : World} (ha : CirIn w ga oa c) (hb : CirIn w gb ob c) (hl : c.gs.length ≤ 2097152) (hl2 : c.outs.length ≤ 2097152) :
    Calls Try.prog 16 #[cirV c ga oa, cirV c gb ob] w fun e w' => e = .returned (.bool true) ∧ Below w.heap.size w w' := by
  have HA := Lib.hid ha
  have HB := Lib.hid hb
  obtain ⟨hg, ho⟩ := ha
  obtain ⟨A, cg, rfl, _, _, _⟩ := hg
  obtain ⟨A', co, rfl, _, _, _⟩ := ho
  obtain ⟨hg, ho⟩ := hb
  obtain ⟨B, dg, rfl, _, _, _⟩ := hg
  obtain ⟨B', dp, rfl, _, _, _⟩ := ho
  unfold cirV
  go_enter Try.func16, Try.ntmps16
  go_wp2_with fail
  refine (c_laws_eqGateS ((HA.out.alloc _).alloc _).gates ((HB.out.alloc _).alloc _).gates hl).mono ?_
  rintro e w1 ⟨rfl, hb1⟩
  have h0 := Lib.hid (((Below.refl w.heap.size w).alloc (Nat.le_refl _) (.cells #[.int .i64 c.i0, .int .i64 c.i1, .slice A c.gs.length cg, .slice A' c.outs.length co] 31)).alloc (by simp) (.cells #[.int .i64 c.i0, .int .i64 c.i1, .slice B c.gs.length dg, .slice B' c.outs.length dp] 31))
  have h1 := Lib.hid (h0.out.trans (hb1.mono h0.out.size))
  have k1 : w1.cell? ⟨w.heap.size, 3, none⟩ = some (.slice A' c.outs.length co) := (((Blk.new w 31 _).alloc _).step hb1).cell 3
  have k2 : w1.cell? ⟨w.heap.size + 1, 3, none⟩ = some (.slice B' c.outs.length dp) := by
    have := ((Blk.new (w.alloc (.cells #[.int .i64 c.i0, .int .i64 c.i1, .slice A c.gs.length cg, .slice A' c.outs.length co] 31)) 31 #[.int .i64 c.i0, .int .i64 c.i1, .slice B c.gs.length dg, .slice B' c.outs.length dp]).step hb1).cell 3
    simpa using this
  clear hb1
  go_wp2_with fail
  refine (c_laws_eqIntS (HA.out.outs.below h1.out) (HB.out.outs.below h1.out) hl2).mono ?_
  rintro e w2 ⟨rfl, hb2⟩
  go_wp2
  go_ret
  exact ⟨rfl, below_step h1.out hb2⟩
end Go.Proofs.Ytllaojfgenopbaa
