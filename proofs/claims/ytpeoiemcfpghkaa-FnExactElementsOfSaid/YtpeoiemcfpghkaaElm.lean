/- Contracts of the elements of a group: the program's (by the library's sort), the reference's. No condition. -/
import Derived.Test.YtpeoiemcfpghkaaElmM
import Derived.Test.YtpeoiemcfpghkaaGrp3
import Derived.Test.YtpeoiemcfpghkaaCol
import Derived.Test.YtpeoiemcfpghkaaOwnK
import Derived.Deep.RegionHeld3
namespace Go.Proofs.Ytpeoiemcfpghkaa
open Go.RowKit
set_option linter.unusedVariables false

theorem mod_bdP (a : Int) {P : Int} (hp : 0 < P) : 0 ≤ a % P ∧ a % P < P := ⟨Int.emod_nonneg _ (by omega), Int.emod_lt_of_pos _ hp⟩
noncomputable def elOM (P Q G : Int) : Option (List Int) := if grpB P Q G then some (elemsN P Q (P - 1).toNat) else none
theorem elOM_len (P Q G : Int) : ((elOM P Q G).getD []).length ≤ 2003 := by
  unfold elOM; split
  · rename_i h
    have := elemsN_length P Q (P - 1).toNat
    have := grpB_bd h
    simp only [Option.getD_some]; omega
  · simp
theorem grpB_of {P Q G : Int} (h : grpB P Q G = true) : PrimeP P ∧ PrimeP Q ∧ G ^ Q.toNat % P = 1 := by
  simp only [grpB, modB, uptoB, Bool.and_eq_true, beq_iff_eq, powM] at h
  exact ⟨primeB_iff.1 h.1.1.1.1.2, primeB_iff.1 h.1.1.1.2.2, h.2⟩
set_option maxRecDepth 100000 in
set_option maxHeartbeats 2000000 in
theorem c_G_elements {P Q G : Int} {w : World} (hg : 3 ≤ P ∧ P ≤ 2003 ∧ 2 ≤ Q ∧ Q ≤ P - 1) (hG : 2 ≤ G ∧ G ≤ P - 1) : Calls Try.prog 87 #[.agg #[.int .i64 P, .int .i64 Q, .int .i64 G]] w (RetI w (powsL P Q G)) := by
  have hP0 : ¬ P = 0 := by omega
  obtain ⟨w0, hw0⟩ : ∃ W, w.alloc (.cells #[.int .i64 P, .int .i64 Q, .int .i64 G] 50) = W := ⟨_, rfl⟩
  have HK0 := Lib.hid (Blk.new w 50 #[.int .i64 P, .int .i64 Q, .int .i64 G])
  rw [hw0] at HK0
  have HB0 : Hid (Below w.heap.size w w0) := by rw [← hw0]; exact (Below.refl w.heap.size w).alloc (Nat.le_refl _) _
  have hz0 : w.heap.size + 1 ≤ w0.heap.size := by rw [← hw0]; simp
  have HPW := Lib.hid (show ∀ k : Nat, G ^ k % P * G % P = G ^ (k + 1) % P from fun k => by rw [Int.mul_emod, Int.emod_emod, ← Int.mul_emod, Int.pow_succ])
  have x1 : (w0.alloc (.cells #[] 3)).cell? ⟨w.heap.size, 1, none⟩ = some (.int .i64 Q) := (HK0.out.alloc _).cell 1
  go_enter Try.func87, Try.ntmps87
  go_wp2
  clear x1
  go_loopw [3, 4, 8] (fun o a i wr => ∃ k : Nat, (k : Int) ≤ Q ∧ i = .int .i64 k ∧ a = .int .i64 (G ^ k % P) ∧ Hid (OwnI wr (w.heap.size + 1) o ((List.range k).map fun (i : Nat) => G ^ i % P)) ∧ Hid (Blk wr w.heap.size 50 #[.int .i64 P, .int .i64 Q, .int .i64 G]) ∧ Hid (Below w.heap.size w wr) ∧ w.heap.size + 1 ≤ wr.heap.size) (fun _ _ i _ => (Q - intOf i).toNat)
  case atStart => exact ⟨0, by omega, rfl, by rw [Int.pow_zero, Int.emod_eq_of_lt (by omega) (by omega)], Lib.hid (OwnI.empty hz0), Lib.hid (HK0.out.alloc _), Lib.hid (HB0.out.alloc HB0.out.size _), by simp; omega⟩
  case round =>
    obtain ⟨k, hk, rfl, rfl, HO, HK, HB, hz⟩ := hrel
    by_cases hlt : (k : Int) < Q
    · have hpb := mod_bdP (G ^ k) (P := P) (by omega)
      have HP := Lib.hid (HPW.out k)
      have HSN := Lib.hid (show (List.range (k + 1)).map (fun (i : Nat) => G ^ i % P) = (List.range k).map (fun (i : Nat) => G ^ i % P) ++ [G ^ k % P] by rw [List.range_succ, List.map_append]; rfl)
      have hsl : ((List.range k).map fun (i : Nat) => G ^ i % P).length ≤ 2003 := by simp; omega
      generalize ((List.range k).map fun (i : Nat) => G ^ i % P) = S at *
      generalize G ^ k % P = X at *
      have hm := mul_bd hpb.1 (show X ≤ 2003 by omega) (show 0 ≤ G by omega) (show G ≤ 2003 by omega)
      have ew : IntKind.i64.wrap (X * G) = X * G := IntWalk.i64_in _ (by omega)
      have y0 : wr.cell? ⟨w.heap.size, 0, none⟩ = some (.int .i64 P) := HK.out.cell 0
      have y2 : wr.cell? ⟨w.heap.size, 2, none⟩ = some (.int .i64 G) := HK.out.cell 2
      go_wp2_with fail
      go_region_held3 (fun w' => w'.cell? ⟨w.heap.size, 0, none⟩ = some (.int .i64 P) ∧ w'.cell? ⟨w.heap.size, 2, none⟩ = some (.int .i64 G))
        (first | exact ⟨KP.out.cell 0, KP.out.cell 2⟩ | exact ⟨y0, y2⟩ | exact ⟨(HK.out.alloc _).cell 0, (HK.out.alloc _).cell 2⟩)
        ((refine step_app1 (B := w.heap.size + 1) (by rfl) (by rfl) Try.underlying22 info_int rfl ((World.ownsRow.alloc HO.out _).drew) (cell_new wr _ _) (by rfl) (by rfl) rfl (by unfold maxLen; omega) (by omega) (by simp; omega) ?_; intro v' w1 ho hg hfr; have KP := Lib.hid ((HK.out.alloc (.cells #[.int .i64 X] 3)).drew.grown hg (fun e => by have := own_ge HO.out _ e.symm; omega)); have HBQ := Lib.hid ((HB.out.alloc HB.out.size (.cells #[.int .i64 X] 3)).drew.grown hg (by have := HB.out.size; simp; omega) (fun g hg' => by have := own_ge HO.out g hg'; omega)); have hz1 : w.heap.size + 1 ≤ w1.heap.size := Nat.le_trans (by simp; omega) hg.size))
      go_wp2
      go_roundw
      case rel => exact ⟨k + 1, by omega, by go_num, by rw [← HP.out, Int.tmod_eq_emod_of_nonneg hm.1], by rw [HSN.out]; exact Lib.hid (OwnI.snoc ho), KP, HBQ, hz1⟩
      case measure => simp [intOf]; omega
    · have HE := Lib.hid (show k = Q.toNat by omega)
      go_wp2
      go_ret
      exact RetI.mk (by have := HO.out; rw [HE.out] at this; exact this.mono (by omega)) HB.out
end Go.Proofs.Ytpeoiemcfpghkaa
