/- The walk of the law on the elements of a group: its Go text returns true for all arguments. No condition. -/
import Derived.Test.YtpeoiemcfpghkaaElmS
import Derived.Test.YtpeoiemcfpghkaaInts
namespace Go.Proofs.Ytpeoiemcfpghkaa
open Go.RowKit
set_option linter.unusedVariables false

theorem c_laws_toGroup {P Q G : Int} {w : World} : Calls Try.prog 46 #[.agg #[.int .i64 P, .int .i64 Q, .int .i64 G]] w fun e w' => e = .returned (.agg #[.int .i64 P, .int .i64 Q, .int .i64 G]) ∧ Below w.heap.size w w' := by
  go_enter Try.func46, Try.ntmps46
  go_wp2
  refine bodyPost_ret (v := .agg #[.int .i64 P, .int .i64 Q, .int .i64 G]) (by simp [results, Try.results46, go_sem]) rfl ⟨rfl, ?_⟩
  exact (((Below.refl _ _).alloc (Nat.le_refl _) _).alloc (by simp) _).alloc (by simp; omega) _
set_option maxRecDepth 100000 in
set_option maxHeartbeats 2000000 in
theorem w_FnExactElementsOf (w : World) {P Q G : Int} :
    Calls Try.prog 14 #[.agg #[.int .i64 P, .int .i64 Q, .int .i64 G]] w fun e w' => e = .returned (.bool true) ∧ Below w.heap.size w w' := by
  obtain ⟨w0, hw0⟩ : ∃ W, w.alloc (.cells #[.int .i64 P, .int .i64 Q, .int .i64 G] 48) = W := ⟨_, rfl⟩
  have HK := Lib.hid (Blk.new w 48 #[.int .i64 P, .int .i64 Q, .int .i64 G])
  rw [hw0] at HK
  have HB : Hid (Below w.heap.size w w0) := by rw [← hw0]; exact (Below.refl w.heap.size w).alloc (Nat.le_refl _) _
  have hM : ((elOM P Q G).getD []).length ≤ 2097152 := Nat.le_trans (elOM_len P Q G) (by omega)
  have x0 : w0.cell? ⟨w.heap.size, 0, none⟩ = some (.int .i64 P) := HK.out.cell 0
  have x1 : w0.cell? ⟨w.heap.size, 1, none⟩ = some (.int .i64 Q) := HK.out.cell 1
  have x2 : w0.cell? ⟨w.heap.size, 2, none⟩ = some (.int .i64 G) := HK.out.cell 2
  go_enter Try.func14, Try.ntmps14
  go_wp2_with fail
  clear hw0
  refine c_laws_toGroup.mono ?_
  rintro e w1 ⟨rfl, hb⟩
  clear x0 x1 x2
  replace HB := Lib.hid (below_step HB.out hb)
  replace HK := Lib.hid (HK.out.step hb)
  clear hb
  go_wp2_with fail
  refine c_spec_ElementsOf.mono ?_
  rintro e w2 ⟨u, rfl, hu, hb⟩
  have HU := Lib.hid hu
  have hlu := HU.out.lt
  clear hu
  replace HB := Lib.hid (below_step HB.out hb)
  replace HK := Lib.hid (HK.out.step hb)
  clear hb
  have hsw : w.heap.size < w2.heap.size := HK.out.lt
  have x0 : w2.cell? ⟨w.heap.size, 0, none⟩ = some (.int .i64 P) := HK.out.cell 0
  have x1 : w2.cell? ⟨w.heap.size, 1, none⟩ = some (.int .i64 Q) := HK.out.cell 1
  have x2 : w2.cell? ⟨w.heap.size, 2, none⟩ = some (.int .i64 G) := HK.out.cell 2
  go_wp2_with fail
  refine c_laws_toGroup.mono ?_
  rintro e w3 ⟨rfl, hb⟩
  clear x0 x1 x2
  have hs3 := hb.size
  replace HB := Lib.hid (below_step HB.out hb)
  replace HK := Lib.hid (HK.out.step hb)
  replace HU := Lib.hid (HU.out.below hb)
  clear hb
  go_wp2_with fail
  refine c_impl_ElementsOf.mono ?_
  rintro e w4 ⟨g, rfl, hg, hb⟩
  have HG := Lib.hid (hg.mono hs3)
  clear hg
  replace HB := Lib.hid (below_step HB.out hb)
  replace HK := Lib.hid (HK.out.step hb)
  replace HU := Lib.hid (HU.out.below hb)
  clear hb
  go_wp2_with fail
  refine (c_laws_eqIntS HG.out.ints HU.out.ints hM).mono ?_
  rintro e w5 ⟨rfl, hb⟩
  replace HB := Lib.hid (below_step HB.out hb)
  replace HK := Lib.hid (HK.out.step hb)
  replace HU := Lib.hid (HU.out.below hb)
  replace HG := Lib.hid (HG.out.below hb)
  clear hb
  go_wp2_with fail
  refine (c_laws_markIntS HG.out hM (by omega)).mono ?_
  have hgg := HG.out.ge
  rintro e w6 ⟨rfl, ho, hgr⟩
  replace HU := Lib.hid (HU.out.grown hgr (fun b hb e => by have h1 := hlu b hb; have h2 := hgg b e.symm; omega))
  replace HK := Lib.hid (HK.out.grown hgr (fun e => by have h2 := hgg _ e.symm; omega))
  replace HB := Lib.hid (HB.out.grown hgr HB.out.size (fun b hb => by have h2 := hgg b hb; omega))
  replace HG := Lib.hid ho
  clear ho hgr
  go_wp2_with fail
  refine (c_laws_heldIntS (n := ((elOM P Q G).getD []).length) HG.out.ints hM (by omega)).mono ?_
  rintro e w' ⟨rfl, rfl⟩
  have x0 : w6.cell? ⟨w.heap.size, 0, none⟩ = some (.int .i64 P) := HK.out.cell 0
  have x1 : w6.cell? ⟨w.heap.size, 1, none⟩ = some (.int .i64 Q) := HK.out.cell 1
  have x2 : w6.cell? ⟨w.heap.size, 2, none⟩ = some (.int .i64 G) := HK.out.cell 2
  go_wp2_with fail
  refine c_laws_toGroup.mono ?_
  rintro e w7 ⟨rfl, hb⟩
  clear x0 x1 x2
  replace HB := Lib.hid (below_step HB.out hb)
  replace HK := Lib.hid (HK.out.step hb)
  replace HU := Lib.hid (HU.out.below hb)
  replace HG := Lib.hid (HG.out.below hb)
  clear hb
  go_wp2_with fail
  refine c_impl_ElementsOf.mono ?_
  rintro e w8 ⟨h, rfl, hh, hb⟩
  have HH := Lib.hid hh
  clear hh
  replace HB := Lib.hid (below_step HB.out hb)
  replace HK := Lib.hid (HK.out.step hb)
  replace HU := Lib.hid (HU.out.below hb)
  replace HG := Lib.hid (HG.out.below hb)
  clear hb
  go_wp2_with fail
  refine (c_laws_eqIntS HH.out.ints HU.out.ints hM).mono ?_
  rintro e w9 ⟨rfl, hb⟩
  replace HB := Lib.hid (below_step HB.out hb)
  replace HK := Lib.hid (HK.out.step hb)
  replace HU := Lib.hid (HU.out.below hb)
  replace HG := Lib.hid (HG.out.below hb)
  clear hb
  go_wp2_with fail
  refine (c_laws_heldIntS (n := ((elOM P Q G).getD []).length) HG.out.ints hM (by omega)).mono ?_
  rintro e w' ⟨rfl, rfl⟩
  go_wp2
  go_ret
  exact ⟨rfl, HB.out⟩
end Go.Proofs.Ytpeoiemcfpghkaa
