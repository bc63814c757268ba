/- Contracts of the pairs of shares of a value. No condition. -/
import Derived.Test.YtmccfdaaneemfaaGbM
import Derived.Test.YtmccfdaaneemfaaField
import Derived.Test.YtmccfdaaneemfaaBtMod
import Derived.Test.YtmccfdaaneemfaaCol
namespace Go.Proofs.Ytmccfdaaneemfaa
open Go.RowKit
set_option linter.unusedVariables false

theorem info_ints : (Try.prog.info? 32).map (fun i => (i.zero, i.size, i.bytes)) = some (some (.slice none 0 0), 1, 24) := by kernel_rfl
def pairsN (p v : Int) (n : Nat) : List (List Int) := (List.range n).map fun (x : Nat) => [(x : Int), (v - x) % p]
theorem pairsN_snoc (p v : Int) (n : Nat) : pairsN p v (n + 1) = pairsN p v n ++ [[(n : Int), (v - n) % p]] := by simp [pairsN, List.range_succ]
theorem pairsN_length (p v : Int) (n : Nat) : (pairsN p v n).length = n := by simp [pairsN]
theorem pairsN_at {p v : Int} {n k : Nat} (h : k < n) : (pairsN p v n)[k]? = some [(k : Int), (v - k) % p] := by simp [pairsN, h]
noncomputable def pairsM (p v : Int) : Option (List (List Int)) := if elemB p v then some (pairsN p v p.toNat) else none
def RetRs (w : World) (rows : List (List Int)) (e : Ending) (w' : World) : Prop := ∃ v vs, e = .returned v ∧ OwnRs w' w.heap.size v vs rows ∧ Below w.heap.size w w'
def RetRsB (w : World) (o : Option (List (List Int))) (e : Ending) (w' : World) : Prop := ∃ v vs, e = .returned (.tuple #[v, .bool o.isSome]) ∧ OwnRs w' w.heap.size v vs (o.getD []) ∧ Below w.heap.size w w'
theorem RetRsB.no {w w' : World} (h : Below w.heap.size w w') : RetRsB w none (.returned (.tuple #[.slice none 0 0, .bool false])) w' := ⟨_, [], rfl, OwnRs.nil w' _, h⟩
set_option maxRecDepth 100000 in
set_option maxHeartbeats 2000000 in
theorem c_impl_PairsFor {p v : Int} {w : World} : Calls Try.prog 29 #[.int .i64 p, .int .i64 v] w (RetRsB w (pairsM p v)) := by
  rcases he : elemB p v with _ | _
  · have HM := Lib.hid (show pairsM p v = none by unfold pairsM; rw [he]; rfl)
    go_enter Try.func29, Try.ntmps29
    go_wp2_with fail
    refine (c_impl_isElement).mono ?_
    rintro e w' ⟨rfl, rfl⟩
    rw [he]
    go_wp2
    go_ret2; rw [HM.out]; exact RetRsB.no (Below.refl _ _)
  have hb := elemB_bd he
  obtain ⟨P, rfl⟩ := Int.eq_ofNat_of_zero_le (show 0 ≤ p by omega)
  have HM := Lib.hid (show pairsM (P : Int) v = some (pairsN P v P) by unfold pairsM; rw [he]; rfl)
  have hp0 : ¬ (P : Int) = 0 := by omega
  go_enter Try.func29, Try.ntmps29
  go_wp2_with fail
  refine (c_impl_isElement).mono ?_
  rintro e w' ⟨rfl, rfl⟩
  rw [he]
  go_wp2
  go_loopw [6, 14] (fun u i wr => ∃ (k : Nat) (vs : List Value), k ≤ P ∧ i = .int .i64 k ∧ Hid (OwnRs wr w.heap.size u vs (pairsN P v k)) ∧ Hid (Below w.heap.size w wr)) (fun _ i _ => P - (intOf i).toNat)
  case atStart => exact ⟨0, [], Nat.zero_le _, rfl, Lib.hid (OwnRs.empty (Nat.le_refl _)), Lib.hid ((Below.refl _ _).alloc (Nat.le_refl _) _)⟩
  case round =>
    obtain ⟨k, vs, hk, rfl, HO, HB⟩ := hrel
    obtain ⟨wa, rfl⟩ : ∃ W, W = wr := ⟨wr, rfl⟩
    have hlen := pairsN_length (P : Int) v k
    have hsz := HB.out.size
    by_cases hlt : k < P
    · have HSN := Lib.hid (pairsN_snoc (P : Int) v k)
      have hd := And.intro (Int.emod_nonneg (v - k) (show (P : Int) ≠ 0 by omega)) (Int.emod_lt_of_pos (v - k) (show (0 : Int) < P by omega))
      obtain ⟨w3, hw3⟩ : ∃ W, wa.alloc (.cells #[.int .i64 (k : Int), .int .i64 ((v - k) % (P : Int))] 3) = W := ⟨_, rfl⟩
      have HR : Hid (OwnI w3 wa.heap.size (.slice (some ⟨wa.heap.size, 0, none⟩) 2 2) [(k : Int), (v - k) % (P : Int)]) := by rw [← hw3]; exact Lib.hid (OwnI.lit (w := wa) (B := wa.heap.size) [(k : Int), (v - k) % (P : Int)] #[.int .i64 (k : Int), .int .i64 ((v - k) % (P : Int))] rfl (Nat.le_refl _) (by simp))
      have HB3 : Hid (Below wa.heap.size wa w3) := by rw [← hw3]; exact Lib.hid ((Below.refl _ _).alloc (Nat.le_refl _) _)
      have hs3 := Nat.le_trans hsz HB3.out.size
      have HOW := HO.out.outer
      rw [hlen] at HOW
      replace HOW := World.ownsRow.alloc HOW (.cells #[.int .i64 (k : Int), .int .i64 ((v - k) % (P : Int))] 3)
      rw [hw3] at HOW
      replace HOW := Lib.hid HOW
      generalize hS : pairsN (P : Int) v k = Sk at *
      have HS := Lib.hid hS
      clear hS
      go_wp2_with (at_builtin; go_loud (refine wp_app1 (B := w.heap.size) rfl rfl Try.underlying36 info_ints rfl HOW.out rfl rfl rfl (by unfold maxLen; omega) (by omega) hs3 ?_); intro v' w9 ho hg hfr)
      have HN := Lib.hid (HO.out.snoc HB3.out hsz HR.out (by rw [hlen]; exact ho) hg hfr)
      have HB9 := Lib.hid (below_app (below_step HB.out HB3.out) HOW.out hg (Nat.le_refl _))
      go_roundw
      case rel => exact ⟨k + 1, _, by omega, by go_num, by rw [HSN.out]; exact HN, HB9⟩
      case measure => simp [intOf]; omega
    · obtain rfl : k = P := by omega
      go_wp2
      go_ret2; rw [HM.out]
      exact ⟨_, _, rfl, HO.out, HB.out⟩
set_option maxRecDepth 100000 in
set_option maxHeartbeats 2000000 in
theorem c_spec_shPairs {v : Int} {P : Nat} {w : World} (hb : 2 ≤ (P : Int) ∧ (P : Int) ≤ 251 ∧ 0 ≤ v ∧ v ≤ (P : Int) - 1) : Calls Try.prog 81 #[.int .i64 (P : Int), .int .i64 v] w (RetRs w (pairsN P v P)) := by
  have hp0 : ¬ (P : Int) = 0 := by omega
  go_enter Try.func81, Try.ntmps81
  go_wp2
  go_loopw [5, 6] (fun u i wr => ∃ (k : Nat) (vs : List Value), k ≤ P ∧ i = .int .i64 k ∧ Hid (OwnRs wr w.heap.size u vs (pairsN P v k)) ∧ Hid (Below w.heap.size w wr)) (fun _ i _ => P - (intOf i).toNat)
  case atStart => exact ⟨0, [], Nat.zero_le _, rfl, Lib.hid (OwnRs.nil _ _), Lib.hid (Below.refl _ _)⟩
  case round =>
    obtain ⟨k, vs, hk, rfl, HO, HB⟩ := hrel
    obtain ⟨wa, rfl⟩ : ∃ W, W = wr := ⟨wr, rfl⟩
    have hlen := pairsN_length (P : Int) v k
    have hsz := HB.out.size
    by_cases hlt : k < P
    · have HSN := Lib.hid (pairsN_snoc (P : Int) v k)
      have hd := And.intro (Int.emod_nonneg (v - k) (show (P : Int) ≠ 0 by omega)) (Int.emod_lt_of_pos (v - k) (show (0 : Int) < P by omega))
      obtain ⟨w3, hw3⟩ : ∃ W, wa.alloc (.cells #[.int .i64 (k : Int), .int .i64 ((v - k) % (P : Int))] 3) = W := ⟨_, rfl⟩
      have HR : Hid (OwnI w3 wa.heap.size (.slice (some ⟨wa.heap.size, 0, none⟩) 2 2) [(k : Int), (v - k) % (P : Int)]) := by rw [← hw3]; exact Lib.hid (OwnI.lit (w := wa) (B := wa.heap.size) [(k : Int), (v - k) % (P : Int)] #[.int .i64 (k : Int), .int .i64 ((v - k) % (P : Int))] rfl (Nat.le_refl _) (by simp))
      have HB3 : Hid (Below wa.heap.size wa w3) := by rw [← hw3]; exact Lib.hid ((Below.refl _ _).alloc (Nat.le_refl _) _)
      have hs3 := Nat.le_trans hsz HB3.out.size
      have HOW := HO.out.outer
      rw [hlen] at HOW
      replace HOW := World.ownsRow.alloc HOW (.cells #[.int .i64 (k : Int), .int .i64 ((v - k) % (P : Int))] 3)
      rw [hw3] at HOW
      replace HOW := Lib.hid HOW
      generalize hS : pairsN (P : Int) v k = Sk at *
      have HS := Lib.hid hS
      clear hS
      go_wp2_with fail
      refine (c_spec_btMod (by omega) (by omega)).mono ?_
      rintro e w' ⟨rfl, rfl⟩
      go_wp2_with (at_builtin; go_loud (refine wp_app1 (B := w.heap.size) rfl rfl Try.underlying36 info_ints rfl HOW.out rfl rfl rfl (by unfold maxLen; omega) (by omega) hs3 ?_); intro v' w9 ho hg hfr)
      have HN := Lib.hid (HO.out.snoc HB3.out hsz HR.out (by rw [hlen]; exact ho) hg hfr)
      have HB9 := Lib.hid (below_app (below_step HB.out HB3.out) HOW.out hg (Nat.le_refl _))
      go_roundw
      case rel => exact ⟨k + 1, _, by omega, by go_num, by rw [HSN.out]; exact HN, HB9⟩
      case measure => simp [intOf]; omega
    · obtain rfl : k = P := by omega
      go_wp2
      go_ret
      exact ⟨_, _, rfl, HO.out, HB.out⟩
theorem c_spec_PairsFor {p v : Int} {w : World} : Calls Try.prog 30 #[.int .i64 p, .int .i64 v] w (RetRsB w (pairsM p v)) := by
  have HL := Lib.hid ((Below.refl w.heap.size w).alloc (Nat.le_refl _) (.cells #[.int .i64 v] 3))
  have HF := Lib.hid (c_spec_fpIn (p := p) (ints_lit w [v] #[.int .i64 v] rfl (by simp)) (by simp))
  rw [fpInB_one] at HF
  rcases he : elemB p v with _ | _
  · have HM := Lib.hid (show pairsM p v = none by unfold pairsM; rw [he]; rfl)
    go_enter Try.func30, Try.ntmps30
    go_wp2_with fail
    refine HF.out.mono ?_
    rintro e w' ⟨rfl, rfl⟩
    rw [he]
    go_wp2
    go_ret2; rw [HM.out]; exact RetRsB.no HL.out
  have hb := elemB_bd he
  obtain ⟨P, rfl⟩ := Int.eq_ofNat_of_zero_le (show 0 ≤ p by omega)
  have HM := Lib.hid (show pairsM (P : Int) v = some (pairsN P v P) by unfold pairsM; rw [he]; rfl)
  go_enter Try.func30, Try.ntmps30
  go_wp2_with fail
  refine HF.out.mono ?_
  rintro e w' ⟨rfl, rfl⟩
  rw [he]
  go_wp2_with fail
  refine (c_spec_shPairs hb).mono ?_
  rintro e w1 ⟨u, vs, rfl, hu, hb1⟩
  have HU := Lib.hid (hu.mono HL.out.size)
  have HB1 := Lib.hid (below_step HL.out hb1)
  clear hu hb1
  go_wp2
  go_ret2; rw [HM.out]
  exact ⟨_, _, rfl, HU.out, HB1.out⟩
end Go.Proofs.Ytmccfdaaneemfaa
