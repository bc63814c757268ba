/- Contracts: the counts of gates of all kinds. Conditions: the gates are few and valid. -/
import Derived.Test.YtejeppjmlgfiaaaGreatInts
import Derived.Test.YtejeppjmlgfiaaaGreatCirM
namespace Go.Proofs.YtejeppjmlgfiaaaGreat
open Go.RowKit
set_option linter.unusedVariables false

def cnt (k : Int) (gs : List Gt) : Int := ((gs.countP fun g => g.k == k : Nat) : Int)
def kinds (gs : List Gt) : List Int := [cnt 0 gs, cnt 1 gs, cnt 2 gs, cnt 3 gs]
def kindsB (gs : List Gt) : Prop := ∀ g ∈ gs, 0 ≤ g.k ∧ g.k ≤ 3
theorem cnt_bd (k : Int) (gs : List Gt) : 0 ≤ cnt k gs ∧ cnt k gs ≤ gs.length := by
  unfold cnt
  have := List.countP_le_length (p := fun g : Gt => g.k == k) (l := gs)
  omega
theorem cnt_snoc (k : Int) (gs : List Gt) (g : Gt) : cnt k (gs ++ [g]) = cnt k gs + (if g.k = k then 1 else 0) := by
  unfold cnt; rw [List.countP_append, List.countP_singleton]
  by_cases h : g.k = k <;> simp [h]
theorem kinds_snoc (gs : List Gt) (g : Gt) (h : 0 ≤ g.k ∧ g.k ≤ 3) : ∃ j : Nat, g.k = j ∧ j < 4 ∧ ∃ n, (kinds gs)[j]? = some n ∧ 0 ≤ n ∧ n ≤ gs.length ∧ (kinds gs).set j (n + 1) = kinds (gs ++ [g]) := by
  have b0 := cnt_bd 0 gs
  have b1 := cnt_bd 1 gs
  have b2 := cnt_bd 2 gs
  have b3 := cnt_bd 3 gs
  refine ⟨g.k.toNat, by omega, by omega, ?_⟩
  have e : g.k = 0 ∨ g.k = 1 ∨ g.k = 2 ∨ g.k = 3 := by omega
  rcases e with e | e | e | e
  · refine ⟨cnt 0 gs, by simp [kinds, e], b0.1, b0.2, ?_⟩
    simp [kinds, cnt_snoc, e]
  · refine ⟨cnt 1 gs, by simp [kinds, e], b1.1, b1.2, ?_⟩
    simp [kinds, cnt_snoc, e]
  · refine ⟨cnt 2 gs, by simp [kinds, e], b2.1, b2.2, ?_⟩
    simp [kinds, cnt_snoc, e]
  · refine ⟨cnt 3 gs, by simp [kinds, e], b3.1, b3.2, ?_⟩
    simp [kinds, cnt_snoc, e]
theorem gatesB_kinds : ∀ (gs : List Gt) (own : Int), gatesB gs own = true → kindsB gs
  | [], _, _ => by intro g hg; simp at hg
  | x :: gs, own, h => by
    simp only [gatesB, Bool.and_eq_true] at h
    intro g hg
    rcases List.mem_cons.1 hg with rfl | hg
    · have h1 := h.1
      unfold gateB at h1
      split at h1
      · omega
      · split at h1
        · omega
        · split at h1
          · omega
          · simp at h1
    · exact gatesB_kinds gs _ h.2 g hg
theorem cirB_gates {c : Cir} (h : cirB c = true) : gatesB c.gs c.ins = true := by simp only [cirB, Bool.and_eq_true] at h; exact h.1.2
theorem cirB_kinds {c : Cir} (h : cirB c = true) : kindsB c.gs := gatesB_kinds _ _ (cirB_gates h)
theorem cirB_outs {c : Cir} (h : cirB c = true) : allB c.outs 0 (c.wires - 1) = true := by simp only [cirB, Bool.and_eq_true] at h; exact h.2

set_option maxHeartbeats 400000 in
theorem c_impl_countKinds {v : Value} {gs : List Gt} {w : World} (h : Gates w v gs) (hl : gs.length ≤ 300) (hk4 : kindsB gs) : Calls Tryz.prog 76 #[v] w (RetI w (kinds gs)) := by
  have HK4 := Lib.hid hk4
  clear hk4
  obtain ⟨A, c, rfl, hlc, hcm, hrd⟩ := h
  obtain ⟨i0, hi0, hz0, hz1, hz2⟩ := info_parts info_int
  go_enter Tryz.func76, Tryz.ntmps76
  go_wp2_with (at_make; refine wpList_make_full _ rfl _ _ 24 rfl w.heap.size 3 i0 (.int .i64 0) 1 Tryz.underlying24 hi0 hz0 hz1 _ _ _ _ 4 rfl rfl rfl rfl (by rw [hz2]; omega) (by unfold maxLen; omega) (Nat.le_refl _) ?_; intro w1 hown hg)
  have hown1 : Hid (OwnI w1 w.heap.size (.slice (some ⟨w.heap.size, 0, none⟩) 4 4) (kinds (gs.take 0))) := by
    have e := toList_madeCells_one (.int .i64 0) 4
    simp only [Nat.mul_one] at hown
    rw [show (Value.int IntKind.i64 0).cells = #[.int .i64 0] from rfl, e] at hown
    show OwnI _ _ _ _
    simpa [OwnI, kinds, cnt] using hown
  have hb1 : Hid (Below w.heap.size w w1) := (Below.refl _ _).grown hg (Nat.le_refl _) (by simp)
  clear hown hg
  go_loopw [9] (fun i wr => ∃ k : Nat, k ≤ gs.length ∧ i = .int .i64 k ∧ Hid (OwnI wr w.heap.size (.slice (some ⟨w.heap.size, 0, none⟩) 4 4) (kinds (gs.take k))) ∧ Hid (Below w.heap.size w wr)) (fun i _ => gs.length - (intOf i).toNat)
  case atStart => exact ⟨0, Nat.zero_le _, rfl, hown1, hb1⟩
  case round =>
    obtain ⟨k, hk, rfl, HO, HB⟩ := hrel
    clear hown1 hb1
    by_cases hlt : k < gs.length
    · obtain ⟨b, o, g, rfl, hbl, hgk, c0, c1, c2⟩ := (hrd.below HB.out).gate_at hlt
      have hg4 := HK4.out g (List.mem_of_getElem? hgk)
      obtain ⟨gk, ga, gb⟩ := g
      simp only at c0 c1 c2 hg4
      obtain ⟨j, rfl, hj4, n, hn, hn0, hn1, hset⟩ := kinds_snoc (gs.take k) ⟨gk, ga, gb⟩ hg4
      have hn2 : n ≤ 300 := by have : (gs.take k).length ≤ gs.length := by simp; omega
                               omega
      have HT := Lib.hid (take_snoc hgk)
      have hO2 : OwnI (wr.alloc (.cells #[.int .i64 (j : Int), .int .i64 ga, .int .i64 gb] 117)) w.heap.size (.slice (some ⟨w.heap.size, 0, none⟩) 4 4) (kinds (gs.take k)) := HO.out.alloc _
      have hszw : w.heap.size < wr.heap.size := HO.out.lt _ rfl
      have hfr : (wr.alloc (.cells #[.int .i64 (j : Int), .int .i64 ga, .int .i64 gb] 117)).frozen? ⟨w.heap.size, j, none⟩ = false := by simpa using hO2.frozenAt j
      have hold : (wr.alloc (.cells #[.int .i64 (j : Int), .int .i64 ga, .int .i64 gb] 117)).cell? ⟨w.heap.size, j, none⟩ = some (.int .i64 n) := by
        have := hO2.cellAt j (by omega)
        rw [this]; simp [hn]
      have HS := Lib.hid (show OwnI ((wr.setCell ⟨w.heap.size, j, none⟩ (.int .i64 (n + 1))).alloc (.cells #[.int .i64 (j : Int), .int .i64 ga, .int .i64 gb] 117)) w.heap.size (.slice (some ⟨w.heap.size, 0, none⟩) 4 4) (kinds (gs.take (k + 1))) by
        have := (HO.out.stored j (.int .i64 (n + 1))).1
        rw [← List.map_set, hset, ← HT.out] at this
        exact OwnI.alloc this _)
      have HB2 := Lib.hid ((HB.out.setCell (p := ⟨w.heap.size, j, none⟩) (Nat.le_refl _) (.int .i64 (n + 1))).alloc (by simp; exact HB.out.size) (.cells #[.int .i64 (j : Int), .int .i64 ga, .int .i64 gb] 117))
      clear hO2 hset hn hgk
      go_wp2
      go_roundw
      case rel => exact ⟨k + 1, by omega, by go_num, HS, HB2⟩
      case measure => simp [intOf]; omega
    · obtain rfl : k = gs.length := by omega
      go_wp2
      go_ret
      exact RetI.mk (by have := HO.out; rwa [List.take_of_length_le (Nat.le_refl _)] at this) HB.out
set_option maxRecDepth 100000 in
set_option maxHeartbeats 400000 in
theorem c_spec_ciCounts {gv ov : Value} {c : Cir} {w : World} (h : CirIn w gv ov c) (hl : c.gs.length ≤ 300) (hk4 : kindsB c.gs) : Calls Tryz.prog 152 #[cirV c gv ov] w (RetI w (kinds c.gs)) := by
  have HK4 := Lib.hid hk4
  clear hk4
  have H := Lib.hid h
  obtain ⟨hg0, ho0⟩ := h
  obtain ⟨A, cg, rfl, hlc, hcm, hrd0⟩ := hg0
  obtain ⟨A', co, rfl, hlc', hcm', hrd'⟩ := ho0
  have hrd := hrd0.alloc (.cells #[.int .i64 c.i0, .int .i64 c.i1, .slice A c.gs.length cg, .slice A' c.outs.length co] 26)
  have HBW := Lib.hid ((Below.refl w.heap.size w).alloc (Nat.le_refl _) (.cells #[.int .i64 c.i0, .int .i64 c.i1, .slice A c.gs.length cg, .slice A' c.outs.length co] 26))
  have hbox := Lib.hid (Blk.new w 26 #[.int .i64 c.i0, .int .i64 c.i1, .slice A c.gs.length cg, .slice A' c.outs.length co])
  clear hrd0 hrd'
  unfold cirV
  obtain ⟨i0, hi0, hz0, hz1, hz2⟩ := info_parts info_int
  go_enter Tryz.func152, Tryz.ntmps152
  go_wp2_with (at_make; refine wpList_make_full _ rfl _ _ 24 rfl (w.heap.size + 1) 3 i0 (.int .i64 0) 1 Tryz.underlying24 hi0 hz0 hz1 _ _ _ _ 4 rfl rfl rfl rfl (by rw [hz2]; omega) (by unfold maxLen; omega) (by simp) ?_; intro w1 hown hg; simp only [World.size_alloc] at hown hg; have kc : w1.cell? ⟨w.heap.size, 2, none⟩ = some (.slice A c.gs.length cg) := (hbox.out.below (B := w.heap.size + 1) ((Below.refl _ _).grown hg (by simp) (by simp)) (by omega)).cell 2)
  have hown1 : Hid (OwnI w1 (w.heap.size + 1) (.slice (some ⟨(w.heap.size + 1), 0, none⟩) 4 4) (kinds (c.gs.take 0))) := by
    have e := toList_madeCells_one (.int .i64 0) 4
    simp only [Nat.mul_one] at hown
    rw [show (Value.int IntKind.i64 0).cells = #[.int .i64 0] from rfl, e] at hown
    show OwnI _ _ _ _
    simpa [OwnI, kinds, cnt] using hown
  have hb1 : Hid (Below (w.heap.size + 1) (w.alloc (.cells #[.int .i64 c.i0, .int .i64 c.i1, .slice A c.gs.length cg, .slice A' c.outs.length co] 26)) w1) := (Below.refl _ _).grown hg (by simp) (by simp)
  clear hown hg
  go_loopw [10] (fun i wr => ∃ k : Nat, k ≤ c.gs.length ∧ i = .int .i64 k ∧ Hid (OwnI wr (w.heap.size + 1) (.slice (some ⟨(w.heap.size + 1), 0, none⟩) 4 4) (kinds (c.gs.take k))) ∧ Hid (Below (w.heap.size + 1) (w.alloc (.cells #[.int .i64 c.i0, .int .i64 c.i1, .slice A c.gs.length cg, .slice A' c.outs.length co] 26)) wr)) (fun i _ => c.gs.length - (intOf i).toNat)
  case atStart => exact ⟨0, Nat.zero_le _, rfl, hown1, hb1⟩
  case round =>
    obtain ⟨k, hk, rfl, HO, HB⟩ := hrel
    clear hown1 hb1 kc
    by_cases hlt : k < c.gs.length
    · obtain ⟨b, o, g, rfl, hbl, hgk, c0, c1, c2⟩ := (hrd.below (by have := HB.out; simpa using this)).gate_at hlt
      have hg4 := HK4.out g (List.mem_of_getElem? hgk)
      obtain ⟨gk, ga, gb⟩ := g
      simp only at c0 c1 c2 hg4
      obtain ⟨j, rfl, hj4, n, hn, hn0, hn1, hset⟩ := kinds_snoc (c.gs.take k) ⟨gk, ga, gb⟩ hg4
      have hn2 : n ≤ 300 := by have : (c.gs.take k).length ≤ c.gs.length := by simp; omega
                               omega
      have HT := Lib.hid (take_snoc hgk)
      have hO2 : OwnI (wr.alloc (.cells #[.int .i64 (j : Int), .int .i64 ga, .int .i64 gb] 117)) (w.heap.size + 1) (.slice (some ⟨(w.heap.size + 1), 0, none⟩) 4 4) (kinds (c.gs.take k)) := HO.out.alloc _
      have hszw : (w.heap.size + 1) < wr.heap.size := HO.out.lt _ rfl
      have hfr : (wr.alloc (.cells #[.int .i64 (j : Int), .int .i64 ga, .int .i64 gb] 117)).frozen? ⟨(w.heap.size + 1), j, none⟩ = false := by simpa using hO2.frozenAt j
      have hold : (wr.alloc (.cells #[.int .i64 (j : Int), .int .i64 ga, .int .i64 gb] 117)).cell? ⟨(w.heap.size + 1), j, none⟩ = some (.int .i64 n) := by
        have := hO2.cellAt j (by omega)
        rw [this]; simp [hn]
      have HS := Lib.hid (show OwnI ((wr.setCell ⟨(w.heap.size + 1), j, none⟩ (.int .i64 (n + 1))).alloc (.cells #[.int .i64 (j : Int), .int .i64 ga, .int .i64 gb] 117)) (w.heap.size + 1) (.slice (some ⟨(w.heap.size + 1), 0, none⟩) 4 4) (kinds (c.gs.take (k + 1))) by
        have := (HO.out.stored j (.int .i64 (n + 1))).1
        rw [← List.map_set, hset, ← HT.out] at this
        exact OwnI.alloc this _)
      have HB2 := Lib.hid ((HB.out.setCell (p := ⟨(w.heap.size + 1), j, none⟩) (Nat.le_refl _) (.int .i64 (n + 1))).alloc (by have := HB.out.size; simp at this ⊢; omega) (.cells #[.int .i64 (j : Int), .int .i64 ga, .int .i64 gb] 117))
      clear hO2 hset hn hgk
      go_wp2
      go_roundw
      case rel => exact ⟨k + 1, by omega, by go_num, HS, HB2⟩
      case measure => simp [intOf]; omega
    · obtain rfl : k = c.gs.length := by omega
      go_wp2
      go_ret
      exact RetI.mk (by have := HO.out; rw [List.take_of_length_le (Nat.le_refl _)] at this; exact this.mono (by omega)) (HBW.out.trans (HB.out.mono (by omega)))
end Go.Proofs.YtejeppjmlgfiaaaGreat
