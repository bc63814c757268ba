/- Contracts: the counts of gates of all kinds. Conditions: the gates are few and valid. -/
import Derived.Test.YtllaojfgenopbaaInts
import Derived.Test.YtllaojfgenopbaaCirM
namespace Go.Proofs.Ytllaojfgenopbaa
open Go.RowKit
set_option linter.unusedVariables false

def cnt (k : Int) (gs : List Gt) : Int := ((gs.countP fun g => g.k == k : Nat) : Int)
def kinds (gs : List Gt) : List Int := [cnt 0 gs, cnt 1 gs, cnt 2 gs, cnt 3 gs]
def kindsB (gs : List Gt) : Prop := ∀ g ∈ gs, 0 ≤ g.k ∧ g.k ≤ 3
theorem cnt_bd (k : Int) (gs : List Gt) : 0 ≤ cnt k gs ∧ cnt k gs ≤ gs.length := by
  unfold cnt
  have := List.countP_le_length (p := fun g : Gt => g.k == k) (l := gs)
  omega
theorem cnt_snoc (k : Int) (gs : List Gt) (g : Gt) : cnt k (gs ++ [g]) = cnt k gs + (if g.k = k then 1 else 0) := by
  unfold cnt; rw [List.countP_append, List.countP_singleton]
  by_cases h : g.k = k <;> simp [h]
theorem kinds_snoc (gs : List Gt) (g : Gt) (h : 0 ≤ g.k ∧ g.k ≤ 3) : ∃ j : Nat, g.k = j ∧ j < 4 ∧ ∃ n, (kinds gs)[j]? = some n ∧ 0 ≤ n ∧ n ≤ gs.length ∧ (kinds gs).set j (n + 1) = kinds (gs ++ [g]) := by
  have b0 := cnt_bd 0 gs
  have b1 := cnt_bd 1 gs
  have b2 := cnt_bd 2 gs
  have b3 := cnt_bd 3 gs
  refine ⟨g.k.toNat, by omega, by omega, ?_⟩
  have e : g.k = 0 ∨ g.k = 1 ∨ g.k = 2 ∨ g.k = 3 := by omega
  rcases e with e | e | e | e
  · refine ⟨cnt 0 gs, by simp [kinds, e], b0.1, b0.2, ?_⟩
    simp [kinds, cnt_snoc, e]
  · refine ⟨cnt 1 gs, by simp [kinds, e], b1.1, b1.2, ?_⟩
    simp [kinds, cnt_snoc, e]
  · refine ⟨cnt 2 gs, by simp [kinds, e], b2.1, b2.2, ?_⟩
    simp [kinds, cnt_snoc, e]
  · refine ⟨cnt 3 gs, by simp [kinds, e], b3.1, b3.2, ?_⟩
    simp [kinds, cnt_snoc, e]
theorem gatesB_kinds : ∀ (gs : List Gt) (own : Int), gatesB gs own = true → kindsB gs
  | [], _, _ => by intro g hg; simp at hg
  | x :: gs, own, h => by
    simp only [gatesB, Bool.and_eq_true] at h
    intro g hg
    rcases List.mem_cons.1 hg with rfl | hg
    · have h1 := h.1
      unfold gateB at h1
      split at h1
      · omega
      · split at h1
        · omega
        · split at h1
          · omega
          · simp at h1
    · exact gatesB_kinds gs _ h.2 g hg
theorem cirB_gates {c : Cir} (h : cirB c = true) : gatesB c.gs c.ins = true := by simp only [cirB, Bool.and_eq_true] at h; exact h.1.2
theorem cirB_kinds {c : Cir} (h : cirB c = true) : kindsB c.gs := gatesB_kinds _ _ (cirB_gates h)
theorem cirB_outs {c : Cir} (h : cirB c = true) : allB c.outs 0 (c.wires - 1) = true := by simp only [cirB, Bool.and_eq_true] at h; exact h.2

set_option maxHeartbeats 400000 in
theorem c_impl_countKinds {v : Value} {gs : List Gt} {w : World} (h : Gates w v gs) (hl : gs.length ≤ 300) (hk4 : kindsB gs) : Calls Try.prog 134 #[v] w (RetI w (kinds gs)) := by
  have HK4 := Lib.hid hk4
  clear hk4
  obtain ⟨A, c, rfl, hlc, hcm, hrd⟩ := h
  obtain ⟨i0, hi0, hz0, hz1, hz2⟩ := info_parts info_int
  go_enter Try.func134, Try.ntmps134
  go_wp2_with (at_make; refine wpList_make_full _ rfl _ _ 23 rfl w.heap.size 3 i0 (.int .i64 0) 1 Try.underlying23 hi0 hz0 hz1 _ _ _ _ 4 rfl rfl rfl rfl (by rw [hz2]; omega) (by unfold maxLen; omega) (Nat.le_refl _) ?_; intro w1 hown hg)
  have hown1 : Hid (OwnI w1 w.heap.size (.slice (some ⟨w.heap.size, 0, none⟩) 4 4) (kinds (gs.take 0))) := by
    have e := toList_madeCells_one (.int .i64 0) 4
    simp only [Nat.mul_one] at hown
    rw [show (Value.int IntKind.i64 0).cells = #[.int .i64 0] from rfl, e] at hown
    show OwnI _ _ _ _
    simpa [OwnI, kinds, cnt] using hown
  have hb1 : Hid (Below w.heap.size w w1) := (Below.refl _ _).grown hg (Nat.le_refl _) (by simp)
  clear hown hg
  go_loopw [9] (fun i wr => ∃ k : Nat, k ≤ gs.length ∧ i = .int .i64 k ∧ Hid (OwnI wr w.heap.size (.slice (some ⟨w.heap.size, 0, none⟩) 4 4) (kinds (gs.take k))) ∧ Hid (Below w.heap.size w wr)) (fun i _ => gs.length - (intOf i).toNat)
  case atStart => exact ⟨0, Nat.zero_le _, rfl, hown1, hb1⟩
  case round =>
    obtain ⟨k, hk, rfl, HO, HB⟩ := hrel
    clear hown1 hb1
    by_cases hlt : k < gs.length
    · obtain ⟨b, o, g, rfl, hbl, hgk, c0, c1, c2⟩ := (hrd.below HB.out).gate_at hlt
      have hg4 := HK4.out g (List.mem_of_getElem? hgk)
      obtain ⟨gk, ga, gb⟩ := g
      simp only at c0 c1 c2 hg4
      obtain ⟨j, rfl, hj4, n, hn, hn0, hn1, hset⟩ := kinds_snoc (gs.take k) ⟨gk, ga, gb⟩ hg4
      have hn2 : n ≤ 300 := by have : (gs.take k).length ≤ gs.length := by simp; omega
                               omega
      have HT := Lib.hid (take_snoc hgk)
      have hO2 : OwnI (wr.alloc (.cells #[.int .i64 (j : Int), .int .i64 ga, .int .i64 gb] 94)) w.heap.size (.slice (some ⟨w.heap.size, 0, none⟩) 4 4) (kinds (gs.take k)) := HO.out.alloc _
      have hszw : w.heap.size < wr.heap.size := HO.out.lt _ rfl
      have hfr : (wr.alloc (.cells #[.int .i64 (j : Int), .int .i64 ga, .int .i64 gb] 94)).frozen? ⟨w.heap.size, j, none⟩ = false := by simpa using hO2.frozenAt j
      have hold : (wr.alloc (.cells #[.int .i64 (j : Int), .int .i64 ga, .int .i64 gb] 94)).cell? ⟨w.heap.size, j, none⟩ = some (.int .i64 n) := by
        have := hO2.cellAt j (by omega)
        rw [this]; simp [hn]
      have HS := Lib.hid (show OwnI ((wr.setCell ⟨w.heap.size, j, none⟩ (.int .i64 (n + 1))).alloc (.cells #[.int .i64 (j : Int), .int .i64 ga, .int .i64 gb] 94)) w.heap.size (.slice (some ⟨w.heap.size, 0, none⟩) 4 4) (kinds (gs.take (k + 1))) by
        have := (HO.out.stored j (.int .i64 (n + 1))).1
        rw [← List.map_set, hset, ← HT.out] at this
        exact OwnI.alloc this _)
      have HB2 := Lib.hid ((HB.out.setCell (p := ⟨w.heap.size, j, none⟩) (Nat.le_refl _) (.int .i64 (n + 1))).alloc (by simp; exact HB.out.size) (.cells #[.int .i64 (j : Int), .int .i64 ga, .int .i64 gb] 94))
      clear hO2 hset hn hgk
      go_wp2
      go_roundw
      case rel => exact ⟨k + 1, by omega, by go_num, HS, HB2⟩
      case measure => simp [intOf]; omega
    · obtain rfl : k = gs.length := by omega
      go_wp2
      go_ret
      exact RetI.mk (by have := HO.out; rwa [List.take_of_length_le (Nat.le_refl _)] at this) HB.out
end Go.Proofs.Ytllaojfgenopbaa
