/- The walk of the law on the group of a modulus: the Go text returns true for all integers. No condition. -/
import Derived.Test.YtpaajlmeifamdaaGrpN
namespace Go.Proofs.Ytpaajlmeifamdaa
open Go.RowKit
set_option linter.unusedVariables false

theorem modB_def (p : Int) : modB p = (inB p 3 2003 && primeB p) := rfl
theorem c_spec_GroupFor_no {p : Int} {w : World} (h : modB p = false) : Calls Try.prog 38 #[.int .i64 p] w fun e w' => e = .returned (.tuple #[.agg #[.int .i64 0, .int .i64 0, .int .i64 0], .bool false]) ∧ Below w.heap.size w w' := by
  rcases h1 : inB p 3 2003 with _ | _
  · go_enter Try.func38, Try.ntmps38
    go_wp2_with (go_at_call 47; refine (c_spec_l1In).mono ?_; rintro e w' ⟨rfl, rfl⟩)
    refine bodyPost_ret (v := .tuple #[.agg #[.int .i64 0, .int .i64 0, .int .i64 0], .bool false]) (by simp [results, Try.results38, go_sem]) rfl ⟨rfl, ?_⟩
    exact (Below.refl _ _).alloc (Nat.le_refl _) _
  · have hb := inB_bd h1
    have h2 : primeB p = false := by rw [modB_def, h1] at h; simpa using h
    go_enter Try.func38, Try.ntmps38
    go_wp2_with (first | (go_at_call 47; refine (c_spec_l1In).mono ?_; rintro e w' ⟨rfl, rfl⟩) | (go_at_call 59; refine (c_spec_grPrime (by omega)).mono ?_; rintro e w' ⟨rfl, rfl⟩))
    refine bodyPost_ret (v := .tuple #[.agg #[.int .i64 0, .int .i64 0, .int .i64 0], .bool false]) (by simp [results, Try.results38, go_sem]) rfl ⟨rfl, ?_⟩
    exact (Below.refl _ _).alloc (Nat.le_refl _) _
theorem c_spec_GroupFor {p Q G : Int} {w : World} (h : modB p = true) (hq : TopQ p Q) (hg : LeastG p Q G) : Calls Try.prog 38 #[.int .i64 p] w fun e w' => e = .returned (.tuple #[.agg #[.int .i64 p, .int .i64 Q, .int .i64 G], .bool true]) ∧ Below w.heap.size w w' := by
  have hb := modB_bd h
  have h1 : inB p 3 2003 = true := inB_mk hb.1 hb.2
  have h2 : primeB p = true := by rw [modB_def, h1] at h; simpa using h
  have HQ := Lib.hid hq
  have HG := Lib.hid hg
  clear hq hg
  go_enter Try.func38, Try.ntmps38
  go_wp2_with (first | (go_at_call 47; refine (c_spec_l1In).mono ?_; rintro e w' ⟨rfl, rfl⟩) | (go_at_call 59; refine (c_spec_grPrime (by omega)).mono ?_; rintro e w' ⟨rfl, rfl⟩))
  refine (c_spec_grFor h HQ.out HG.out).mono ?_
  rintro e w1 ⟨rfl, hb1⟩
  have HK : Hid (Blk w1 w.heap.size 25 #[.int .i64 0, .int .i64 0, .int .i64 0]) := (Blk.new w 25 #[.int .i64 0, .int .i64 0, .int .i64 0]).step hb1
  have c0 : w1.cell? ⟨w.heap.size, 0, none⟩ = some (.int .i64 0) := HK.out.cell 0
  have c1 : w1.cell? ⟨w.heap.size, 1, none⟩ = some (.int .i64 0) := HK.out.cell 1
  have c2 : w1.cell? ⟨w.heap.size, 2, none⟩ = some (.int .i64 0) := HK.out.cell 2
  have e0 : w1.frozen? ⟨w.heap.size, 0, none⟩ = false := HK.out.free 0
  have e1 : w1.frozen? ⟨w.heap.size, 1, none⟩ = false := HK.out.free 1
  have e2 : w1.frozen? ⟨w.heap.size, 2, none⟩ = false := HK.out.free 2
  have HB : Hid (Below w.heap.size w w1) := lit_trans hb1
  clear hb1
  go_wp2
  have HF : Blk (((w1.setCell ⟨w.heap.size, 0, none⟩ (.int .i64 p)).setCell ⟨w.heap.size, 1, none⟩ (.int .i64 Q)).setCell ⟨w.heap.size, 2, none⟩ (.int .i64 G)) w.heap.size 25 #[.int .i64 p, .int .i64 Q, .int .i64 G] := ((HK.out.set_ 0 _).set_ 1 _).set_ 2 _
  have k0 := HF.cell 0
  have k1 := HF.cell 1
  have k2 := HF.cell 2
  refine bodyPost_ret (v := .tuple #[.agg #[.int .i64 p, .int .i64 Q, .int .i64 G], .bool true]) (by simp [results, Try.results38, go_sem, k0, k1, k2]) rfl ⟨rfl, ?_⟩
  exact ((HB.out.setCell (p := ⟨w.heap.size, 0, none⟩) (Nat.le_refl _) _).setCell (p := ⟨w.heap.size, 1, none⟩) (Nat.le_refl _) _).setCell (p := ⟨w.heap.size, 2, none⟩) (Nat.le_refl _) _
theorem c_laws_eqGroup {P Q G : Int} {w : World} : Calls Try.prog 40 #[.agg #[.int .i64 P, .int .i64 Q, .int .i64 G], .agg #[.int .i64 P, .int .i64 Q, .int .i64 G]] w fun e w' => e = .returned (.bool true) ∧ Below w.heap.size w w' := by
  go_enter Try.func40, Try.ntmps40
  go_wp2
  go_ret; exact ⟨rfl, ((Below.refl _ _).alloc (Nat.le_refl _) _).alloc (by simp) _⟩
theorem w_FnExactGroupFor (w : World) {p : Int} (hp : -9223372036854775808 ≤ p ∧ p ≤ 9223372036854775807) :
    Calls Try.prog 14 #[.int .i64 p] w fun e w' => e = .returned (.bool true) ∧ Below w.heap.size w w' := by
  rcases h : modB p with _ | _
  · go_enter Try.func14, Try.ntmps14
    go_wp2_with fail
    refine (c_spec_GroupFor_no h).mono ?_
    rintro e w1 ⟨rfl, hb1⟩
    go_wp2_with fail
    refine (c_impl_GroupFor_no h).mono ?_
    rintro e w2 ⟨rfl, hb2⟩
    have hcell := box_cell hb2
    have hz : w1.heap.size < w2.heap.size := by have := hb2.size; simp at this; omega
    go_wp2_with fail
    refine c_laws_eqGroup.mono ?_
    rintro e w3 ⟨rfl, hb3⟩
    go_wp2
    have h12 := hb1.trans ((lit_trans hb2).mono hb1.size)
    go_ret; exact ⟨rfl, h12.trans ((lit_trans hb3).mono h12.size)⟩
  · obtain ⟨Q, hq⟩ := top_exists h
    obtain ⟨G, hg⟩ := leastG_exists h hq
    have HQ := Lib.hid hq
    have HG := Lib.hid hg
    clear hq hg
    go_enter Try.func14, Try.ntmps14
    go_wp2_with fail
    refine (c_spec_GroupFor h HQ.out HG.out).mono ?_
    rintro e w1 ⟨rfl, hb1⟩
    go_wp2_with fail
    refine (c_impl_GroupFor h HQ.out HG.out).mono ?_
    rintro e w2 ⟨rfl, hb2⟩
    have hcell := box_cell hb2
    have hz : w1.heap.size < w2.heap.size := by have := hb2.size; simp at this; omega
    go_wp2_with fail
    refine c_laws_eqGroup.mono ?_
    rintro e w3 ⟨rfl, hb3⟩
    go_wp2
    have h12 := hb1.trans ((lit_trans hb2).mono hb1.size)
    go_ret; exact ⟨rfl, h12.trans ((lit_trans hb3).mono h12.size)⟩
end Go.Proofs.Ytpaajlmeifamdaa
