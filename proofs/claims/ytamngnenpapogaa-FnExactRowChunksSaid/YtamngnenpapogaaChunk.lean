/- Contracts of the numbers of rows in chunks. No condition. -/
import Derived.Test.YtamngnenpapogaaCirH
import Derived.Test.YtamngnenpapogaaCirF
import Derived.Test.YtamngnenpapogaaCol
import Derived.Test.YtamngnenpapogaaGbK
namespace Go.Proofs.Ytamngnenpapogaa
open Go.RowKit
set_option linter.unusedVariables false

def chunkF : Nat → Int → Int → List Int
  | 0, _, _ => []
  | f + 1, n, m => if 0 < n then (if n ≤ m then n else m) :: chunkF f (n - m) m else []
theorem chunkF_done (f : Nat) {n : Int} (m : Int) (h : ¬ 0 < n) : chunkF f n m = [] := by cases f <;> simp [chunkF, h]
theorem chunkF_length : ∀ (f : Nat) (n m : Int), (chunkF f n m).length ≤ f
  | 0, _, _ => Nat.le_refl _
  | f + 1, n, m => by
    unfold chunkF; split
    · have := chunkF_length f (n - m) m; simp; omega
    · simp
def chunksM (c : Cir) (m : Int) : Option (List Int) := if cirB c && inB m 1 300 then some (chunkF 300 (cnt 1 c.gs) m) else none

theorem chunksM_len (c : Cir) (m : Int) : ((chunksM c m).getD []).length ≤ 2097152 := by
  unfold chunksM; split
  · have := chunkF_length 300 (cnt 1 c.gs) m; simp; omega
  · simp
set_option maxHeartbeats 400000 in
theorem c_impl_RowChunks {c : Cir} {gv ov : Value} {w : World} {m : Int} (h : CirIn w gv ov c) : Calls Try.prog 23 #[cirV c gv ov, .int .i64 m] w (RetIB w (chunksM c m)) := by
  have H := Lib.hid h
  obtain ⟨hg, ho⟩ := h
  obtain ⟨A, cg, rfl, -⟩ := hg
  obtain ⟨A', co, rfl, -⟩ := ho
  unfold cirV
  go_enter Try.func23, Try.ntmps23
  go_wp2_with fail
  refine (c_impl_IsCircuit (H.out.alloc _)).mono ?_
  rintro e w1 ⟨rfl, hb1⟩
  obtain ⟨hc1, hf1⟩ := bcell hb1
  have hx1 : w.heap.size < w1.heap.size := by have := hb1.size; simp at this; omega
  have HB1 := Lib.hid (lit_trans hb1)
  clear hb1
  rcases hc : cirB c with _ | _
  · have HM := Lib.hid (show chunksM c m = none by simp [chunksM, hc])
    go_wp2
    go_ret2; rw [HM.out]; exact RetIB.no_below HB1.out
  · rcases hm : inB m 1 300 with _ | _
    · have HM := Lib.hid (show chunksM c m = none by simp [chunksM, hm])
      go_wp2_with (go_at_call 67; refine (c_impl_within).mono ?_; rintro e w' ⟨rfl, rfl⟩)
      go_ret2; rw [HM.out]; exact RetIB.no_below HB1.out
    · have HM := Lib.hid (show chunksM c m = some (chunkF 300 (cnt 1 c.gs) m) by simp [chunksM, hm, hc])
      have hmb := inB_bd hm
      have hbd := cirB_bd hc
      have HC := Lib.hid hc
      go_wp2_with (go_at_call 67; refine (c_impl_within).mono ?_; rintro e w' ⟨rfl, rfl⟩)
      refine (c_impl_countKinds ((H.out.below HB1.out).alloc _).gates hbd.2.2.2.2.1 (cirB_kinds HC.out)).mono ?_
      rintro e w2 ⟨u, rfl, hu, hb2⟩
      obtain ⟨g, cc, rfl, _, _, hcell⟩ := own_at hu (by simp [kinds])
      have k1 : w2.cell? ⟨g, 1, none⟩ = some (.int .i64 (cnt 1 c.gs)) := hcell 1 _ rfl
      rw [show (kinds c.gs).length = 4 from rfl]
      have hcb := cnt_bd 1 c.gs
      have HO := Lib.hid ((OwnI.empty (B := w.heap.size) (w := w1) HB1.out.size).below hb2)
      have HB2 := Lib.hid (HB1.out.trans ((lit_trans hb2).mono HB1.out.size))
      have hgl := hbd.2.2.2.2.1
      generalize cnt 1 c.gs = n0 at *
      have HT := Lib.hid (chunkF_length 300 n0 m)
      clear hc1 hf1 hcell hu hb2 hc hbd
      go_wp2
      go_loopw [6, 7] (fun u i wr => ∃ (n : Int) (l : List Int) (f : Nat), i = .int .i64 n ∧ -300 ≤ n ∧ n ≤ 300 ∧ n ≤ f ∧ OwnI wr w.heap.size u l ∧ Hid (l ++ chunkF f n m = chunkF 300 n0 m) ∧ Hid (Below w.heap.size w wr)) (fun _ i _ => (intOf i).toNat)
      case atStart => exact ⟨n0, [], 300, rfl, by omega, by omega, by omega, HO.out, rfl, HB2⟩
      case round =>
        obtain ⟨n, l, f, rfl, hn1, hn2, hnf, hown, HE, HB⟩ := hrel
        clear HO HB2
        have hll : l.length ≤ 300 := by have h1 := congrArg List.length HE.out; have h2 := HT.out; rw [List.length_append] at h1; omega
        by_cases hlt : 0 < n
        · have hsz := HB.out.size
          obtain ⟨f', rfl⟩ : ∃ f', f = f' + 1 := ⟨f - 1, by omega⟩
          by_cases hle : n ≤ m
          · have HN := Lib.hid (show l ++ [n] ++ chunkF f' (n - m) m = chunkF 300 n0 m by have := HE.out; unfold chunkF at this; rw [if_pos hlt, if_pos hle] at this; rw [List.append_assoc]; exact this)
            go_wp2_with (at_builtin; refine wp_app1 (B := w.heap.size) rfl rfl Try.underlying23 info_int rfl hown rfl rfl rfl (by unfold maxLen; omega) (by omega) hsz ?_; intro v' w1 ho hg hfr)
            have HBn := Lib.hid (below_app HB.out hown hg (Nat.le_refl _))
            go_roundw
            case rel => exact ⟨n - m, l ++ [n], f', rfl, by omega, by omega, by omega, OwnI.snoc ho, HN, HBn⟩
            case measure => simp [intOf]; omega
          · have HN := Lib.hid (show l ++ [m] ++ chunkF f' (n - m) m = chunkF 300 n0 m by have := HE.out; unfold chunkF at this; rw [if_pos hlt, if_neg hle] at this; rw [List.append_assoc]; exact this)
            go_wp2_with (at_builtin; refine wp_app1 (B := w.heap.size) rfl rfl Try.underlying23 info_int rfl hown rfl rfl rfl (by unfold maxLen; omega) (by omega) hsz ?_; intro v' w1 ho hg hfr)
            have HBn := Lib.hid (below_app HB.out hown hg (Nat.le_refl _))
            go_roundw
            case rel => exact ⟨n - m, l ++ [m], f', rfl, by omega, by omega, by omega, OwnI.snoc ho, HN, HBn⟩
            case measure => simp [intOf]; omega
        · have HE2 := Lib.hid (show l = chunkF 300 n0 m by have := HE.out; rw [chunkF_done f m hlt, List.append_nil] at this; exact this)
          go_wp2
          go_ret2
          rw [HM.out]
          exact RetIB.yes (by rw [← HE2.out]; exact hown) HB.out
theorem c_spec_l1Least {a b : Int} {w : World} : Calls Try.prog 66 #[.int .i64 a, .int .i64 b] w fun e w' => e = .returned (.int .i64 (if a < b then a else b)) ∧ w = w' := by
  by_cases h : a < b
  · rw [if_pos h]
    go_enter Try.func66, Try.ntmps66
    go_wp2
    go_ret; exact ⟨rfl, rfl⟩
  · rw [if_neg h]
    go_enter Try.func66, Try.ntmps66
    go_wp2
    go_ret; exact ⟨rfl, rfl⟩
set_option maxHeartbeats 400000 in
theorem c_spec_RowChunks {c : Cir} {gv ov : Value} {w : World} {m : Int} (h : CirIn w gv ov c) : Calls Try.prog 22 #[cirV c gv ov, .int .i64 m] w (RetIB w (chunksM c m)) := by
  have H := Lib.hid h
  obtain ⟨hg, ho⟩ := h
  obtain ⟨A, cg, rfl, -⟩ := hg
  obtain ⟨A', co, rfl, -⟩ := ho
  unfold cirV
  go_enter Try.func22, Try.ntmps22
  go_wp2_with fail
  refine (c_spec_ciGood (H.out.alloc _)).mono ?_
  rintro e w1 ⟨rfl, hb1⟩
  obtain ⟨hc1, hf1⟩ := bcell hb1
  have hx1 : w.heap.size < w1.heap.size := by have := hb1.size; simp at this; omega
  have HB1 := Lib.hid (lit_trans hb1)
  clear hb1
  rcases hc : cirB c with _ | _
  · have HM := Lib.hid (show chunksM c m = none by simp [chunksM, hc])
    go_wp2
    go_ret2; rw [HM.out]; exact RetIB.no_below HB1.out
  · rcases hm : inB m 1 300 with _ | _
    · have HM := Lib.hid (show chunksM c m = none by simp [chunksM, hm])
      go_wp2_with (go_at_call 65; refine (c_spec_l1In).mono ?_; rintro e w' ⟨rfl, rfl⟩)
      go_ret2; rw [HM.out]; exact RetIB.no_below HB1.out
    · have HM := Lib.hid (show chunksM c m = some (chunkF 300 (cnt 1 c.gs) m) by simp [chunksM, hm, hc])
      have hmb := inB_bd hm
      have hbd := cirB_bd hc
      have HC := Lib.hid hc
      go_wp2_with (go_at_call 65; refine (c_spec_l1In).mono ?_; rintro e w' ⟨rfl, rfl⟩)
      refine (c_spec_ciCounts (H.out.below HB1.out) hbd.2.2.2.2.1 (cirB_kinds HC.out)).mono ?_
      rintro e w2 ⟨u, rfl, hu, hb2⟩
      obtain ⟨g, cc, rfl, _, _, hcell⟩ := own_at hu (by simp [kinds])
      have k1 : w2.cell? ⟨g, 1, none⟩ = some (.int .i64 (cnt 1 c.gs)) := hcell 1 _ rfl
      rw [show (kinds c.gs).length = 4 from rfl]
      have hcb := cnt_bd 1 c.gs
      have HO := Lib.hid (OwnI.nil w2 w.heap.size)
      have HB2 := Lib.hid (below_step HB1.out hb2)
      have hgl := hbd.2.2.2.2.1
      generalize cnt 1 c.gs = n0 at *
      have HT := Lib.hid (chunkF_length 300 n0 m)
      clear hc1 hf1 hcell hu hb2 hc hbd
      go_wp2
      go_loopw [6, 7] (fun u i wr => ∃ (n : Int) (l : List Int) (f : Nat), i = .int .i64 n ∧ -300 ≤ n ∧ n ≤ 300 ∧ n ≤ f ∧ OwnI wr w.heap.size u l ∧ Hid (l ++ chunkF f n m = chunkF 300 n0 m) ∧ Hid (Below w.heap.size w wr)) (fun _ i _ => (intOf i).toNat)
      case atStart => exact ⟨n0, [], 300, rfl, by omega, by omega, by omega, HO.out, rfl, HB2⟩
      case round =>
        obtain ⟨n, l, f, rfl, hn1, hn2, hnf, hown, HE, HB⟩ := hrel
        clear HO HB2
        have hll : l.length ≤ 300 := by have h1 := congrArg List.length HE.out; have h2 := HT.out; rw [List.length_append] at h1; omega
        by_cases hlt : 0 < n
        · have hsz := HB.out.size
          obtain ⟨f', rfl⟩ : ∃ f', f = f' + 1 := ⟨f - 1, by omega⟩
          by_cases hle : n ≤ m
          · have HQ := Lib.hid (show (if n < m then n else m) = n by split <;> omega)
            have HN := Lib.hid (show l ++ [n] ++ chunkF f' (n - m) m = chunkF 300 n0 m by have := HE.out; unfold chunkF at this; rw [if_pos hlt, if_pos hle] at this; rw [List.append_assoc]; exact this)
            go_wp2_with fail
            refine (c_spec_l1Least).mono ?_
            rw [HQ.out]
            rintro e w' ⟨rfl, rfl⟩
            go_wp2_with (at_builtin; refine wp_app1 (B := w.heap.size) rfl rfl Try.underlying23 info_int rfl hown rfl rfl rfl (by unfold maxLen; omega) (by omega) hsz ?_; intro v' w1 ho hg hfr)
            have HBn := Lib.hid (below_app HB.out hown hg (Nat.le_refl _))
            go_roundw
            case rel => exact ⟨n - m, l ++ [n], f', rfl, by omega, by omega, by omega, OwnI.snoc ho, HN, HBn⟩
            case measure => simp [intOf]; omega
          · have HQ := Lib.hid (show (if n < m then n else m) = m by split <;> omega)
            have HN := Lib.hid (show l ++ [m] ++ chunkF f' (n - m) m = chunkF 300 n0 m by have := HE.out; unfold chunkF at this; rw [if_pos hlt, if_neg hle] at this; rw [List.append_assoc]; exact this)
            go_wp2_with fail
            refine (c_spec_l1Least).mono ?_
            rw [HQ.out]
            rintro e w' ⟨rfl, rfl⟩
            go_wp2_with (at_builtin; refine wp_app1 (B := w.heap.size) rfl rfl Try.underlying23 info_int rfl hown rfl rfl rfl (by unfold maxLen; omega) (by omega) hsz ?_; intro v' w1 ho hg hfr)
            have HBn := Lib.hid (below_app HB.out hown hg (Nat.le_refl _))
            go_roundw
            case rel => exact ⟨n - m, l ++ [m], f', rfl, by omega, by omega, by omega, OwnI.snoc ho, HN, HBn⟩
            case measure => simp [intOf]; omega
        · have HE2 := Lib.hid (show l = chunkF 300 n0 m by have := HE.out; rw [chunkF_done f m hlt, List.append_nil] at this; exact this)
          go_wp2
          go_ret2
          rw [HM.out]
          exact RetIB.yes (by rw [← HE2.out]; exact hown) HB.out
end Go.Proofs.Ytamngnenpapogaa
