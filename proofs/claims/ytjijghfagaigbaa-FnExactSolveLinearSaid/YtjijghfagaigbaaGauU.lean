/- The contract of the program's answer to a system of equations. Conditions: the lists are short. -/
import Derived.Test.YtjijghfagaigbaaGauT
namespace Go.Proofs.Ytjijghfagaigbaa
open Go.RowKit
set_option linter.unusedVariables false

theorem keepc {w1 w' : World} {p : Addr} {v : Value} (HB : Hid (Below w1.heap.size w1 w')) (h : w1.cell? p = some v) : w'.cell? p = some v := (HB.out.cell (World.block_lt_of_cell? w1 _ h)).trans h

/-- What is asked of a predicate on rows. -/
def PredR (w : World) (K : Nat) (caps : List Value) (p : List Int → Bool) (rows : List (List Int)) : Prop :=
  ∀ W u r, Below w.heap.size w W → r ∈ rows → Ints W u r → Calls Try.prog K (u :: caps).toArray W fun e w' => e = .returned (.bool (p r)) ∧ Below W.heap.size W w'
theorem PredR.step {w w1 : World} {K : Nat} {caps : List Value} {p : List Int → Bool} {rows : List (List Int)} (h : PredR w K caps p rows) (hb : Below w.heap.size w w1) : PredR w1 K caps p rows :=
  fun W u r hW hr hu => h W u r (below_step hb hW) hr hu

set_option maxRecDepth 100000 in
theorem c_slices_IndexFunc_SolveLinear {v : Value} {rows : List (List Int)} {w : World} {q q2 : Value} {p : List Int → Bool} (h : RowsIn w v rows) (hl : rows.length ≤ 2097152)
    (hp : PredR w 22 [q, q2] (fun x => !p x) rows) :
    Calls Try.prog 31 #[v, .func (.func 22) #[] #[q, q2]] w (IdxPost w (!(rows.all p))) := by
  obtain ⟨A, c, rfl, hlc, hcm, hat⟩ := h.form
  have HAT := Lib.hid hat
  have HP := Lib.hid hp
  clear hp hat h
  go_enter Try.func31, Try.ntmps31
  go_wp2
  go_loopw [8] (fun i wr => ∃ k : Nat, k ≤ rows.length ∧ i = .int .i64 k ∧ Hid ((rows.take k).all p = true) ∧ Hid (Below w.heap.size w wr)) (fun i _ => rows.length - (intOf i).toNat)
  case atStart => exact ⟨0, Nat.zero_le _, rfl, show ((rows.take 0).all p = true) from rfl, Below.refl _ _⟩
  case round =>
    obtain ⟨k, hk, rfl, HA, HB⟩ := hrel
    by_cases hlt : k < rows.length
    · obtain ⟨b, o, A', r, c', rfl, hbl, hrk, hc0, hi⟩ := HAT.out k hlt
      have hcell := (HB.out.cell (p := ⟨b, o + k, none⟩) hbl).trans hc0
      have hmem : r ∈ rows := List.mem_of_getElem? hrk
      have HT := Lib.hid (take_snoc hrk)
      have HI := Lib.hid (hi.below HB.out)
      clear hrk hc0 hi
      rcases hpx : p r with _ | _
      · go_wp2_with fail
        refine (HP.out _ _ r HB.out hmem HI.out).mono ?_
        rintro e w1 ⟨rfl, hb1⟩
        simp only [hpx]
        go_wp2
        go_ret
        exact ⟨_, rfl, by
          have : rows.all p = false := by simpa using ⟨r, hmem, hpx⟩
          rw [this]; simp, below_step HB.out hb1⟩
      · go_wp2_with fail
        refine (HP.out _ _ r HB.out hmem HI.out).mono ?_
        rintro e w1 ⟨rfl, hb1⟩
        simp only [hpx]
        go_wp2
        go_roundw
        case rel => exact ⟨k + 1, by omega, by go_num, show ((rows.take (k + 1)).all p = true) by rw [HT.out, List.all_append, HA.out]; simp [hpx], below_step HB.out hb1⟩
        case measure => simp [intOf]; omega
    · go_wp2
      go_ret
      exact ⟨_, rfl, by
        have := HA.out
        rw [List.take_of_length_le (by omega)] at this
        rw [this]; decide, HB.out⟩

set_option maxRecDepth 100000 in
theorem c_slices_ContainsFunc_SolveLinear {v : Value} {rows : List (List Int)} {w : World} {q q2 : Value} {p : List Int → Bool} (h : RowsIn w v rows) (hl : rows.length ≤ 2097152)
    (hp : PredR w 22 [q, q2] (fun x => !p x) rows) :
    Calls Try.prog 21 #[v, .func (.func 22) #[] #[q, q2]] w fun e w' => e = .returned (.bool (!(rows.all p))) ∧ Below w.heap.size w w' := by
  have H := Lib.hid h
  have HP := Lib.hid hp
  obtain ⟨A, c, rfl, -⟩ := h.form
  clear hp h
  go_enter Try.func21, Try.ntmps21
  go_wp2_with fail
  refine (c_slices_IndexFunc_SolveLinear H.out hl HP.out).mono ?_
  rintro e w1 ⟨r, rfl, hr, hb1⟩
  go_wp2
  all_goals (go_ret; exact ⟨by rw [← hr]; simp [*], hb1⟩)


set_option maxRecDepth 100000 in
theorem c_SolveLinear1 {w : World} {q q2 : Addr} {n : Nat} {p : Int} {rows : List (List Int)} (hf : fldB p = true) (hq : w.cell? q = some (.int .i64 n)) (hq2 : w.cell? q2 = some (.int .i64 p)) (hr : ∀ r ∈ rows, r.length ≤ 1048576) : PredR w 22 [.pointer (some q), .pointer (some q2)] (fun x => !sysR p n x) rows := by
  intro W u r hW hm hu
  have hq' : W.cell? q = some (.int .i64 n) := (hW.cell (World.block_lt_of_cell? w _ hq)).trans hq
  have hq2' : W.cell? q2 = some (.int .i64 p) := (hW.cell (World.block_lt_of_cell? w _ hq2)).trans hq2
  have hrl := hr r hm
  have H := Lib.hid hu
  obtain ⟨A, c, rfl, hlc, hcm, hrd⟩ := hu
  clear hq hq2 hr hrd
  show Calls Try.prog 22 #[.slice A r.length c, .pointer (some q), .pointer (some q2)] W _
  rcases hn : ((r.length : Int) != (n : Int)) with _ | _
  · have HM := Lib.hid (show (!sysR p n r) = !(fpInB p r) by
      have h9 : ((r.length : Int) == (n : Int)) = true := by simpa [bne] using hn
      unfold sysR fpInB; rw [h9, hf])
    go_enter Try.func22, Try.ntmps22
    go_wp2_with (go_at_call 20; refine (c_impl_areElements H.out (by omega)).mono ?_; rintro e w1 ⟨rfl, hb1⟩)
    go_ret
    exact ⟨by rw [HM.out]; simp, hb1⟩
  · have HM := Lib.hid (show (!sysR p n r) = true by
      have h9 : ((r.length : Int) == (n : Int)) = false := by simpa [bne] using hn
      unfold sysR; rw [h9]; rfl)
    go_enter Try.func22, Try.ntmps22
    go_wp2
    go_ret
    exact ⟨by rw [HM.out]; rfl, Below.refl _ _⟩

set_option maxRecDepth 100000 in
set_option maxHeartbeats 1000000 in
theorem c_impl_SolveLinear {vr vy : Value} {rows : List (List Int)} {right : List Int} {p : Int} {w : World} (hx : RowsIn w vr rows) (hy : Ints w vy right) (hl : rows.length ≤ 2097152) (hl2 : right.length ≤ 2097152) (hr : ∀ r ∈ rows, r.length ≤ 1048576) :
    Calls Try.prog 8 #[.int .i64 p, vr, vy] w (RetIB w (linM p rows right)) := by
  have HX := Lib.hid hx
  have HY := Lib.hid hy
  have HR := Lib.hid hr
  obtain ⟨A, c, rfl, -⟩ := hx.form
  obtain ⟨A', c', rfl, -⟩ := hy
  clear hx hr
  rcases h1 : inB (rows.length : Int) 1 6 with _ | _
  · have HM := Lib.hid (show linM p rows right = none by unfold linM sysB; rw [h1]; simp)
    go_enter Try.func8, Try.ntmps8
    go_wp2_with (go_at_call 19; refine (c_impl_within).mono ?_; rintro e w' ⟨rfl, rfl⟩)
    go_ret2; rw [HM.out]; exact RetIB.no_below (((Below.refl _ _).alloc (Nat.le_refl _) _).alloc (by simp) _)
  rcases h2 : ((right.length : Int) != (rows.length : Int)) with _ | _
  rotate_left
  · have HM := Lib.hid (show linM p rows right = none by
      have h9 : ((right.length : Int) == (rows.length : Int)) = false := by simpa [bne] using h2
      unfold linM sysB; rw [h9]; simp)
    go_enter Try.func8, Try.ntmps8
    go_wp2_with (go_at_call 19; refine (c_impl_within).mono ?_; rintro e w' ⟨rfl, rfl⟩)
    go_ret2; rw [HM.out]; exact RetIB.no_below (((Below.refl _ _).alloc (Nat.le_refl _) _).alloc (by simp) _)
  have h2e : ((right.length : Int) == (rows.length : Int)) = true := by simpa [bne] using h2
  have H2E := Lib.hid h2e
  clear h2e
  rcases h3 : fpInB p right with _ | _
  · have HM := Lib.hid (show linM p rows right = none by
      have : sysB p rows right = false := by
        have h4 : (fldB p && allB right 0 (p - 1)) = false := h3
        unfold sysB
        cases hf : fldB p with
        | false => simp
        | true => rw [hf] at h4; rw [show allB right 0 (p - 1) = false from h4]; simp
      unfold linM; rw [this]; rfl)
    go_enter Try.func8, Try.ntmps8
    go_wp2_with (go_at_call 19; refine (c_impl_within).mono ?_; rintro e w' ⟨rfl, rfl⟩)
    refine (c_impl_areElements ((HY.out.alloc _).alloc _) hl2).mono ?_
    rintro e w1 ⟨rfl, hb1⟩
    go_wp2
    go_ret2; rw [HM.out]; exact RetIB.no_below (lit_trans (lit_trans hb1))
  have hf : fldB p = true := by
    have h4 : (fldB p && allB right 0 (p - 1)) = true := h3
    cases hf : fldB p with
    | false => rw [hf] at h4; cases h4
    | true => rfl
  have ha : allB right 0 (p - 1) = true := by
    have h4 : (fldB p && allB right 0 (p - 1)) = true := h3
    rw [hf] at h4; exact h4
  have HSY := Lib.hid (show sysB p rows right = rows.all (sysR p rows.length) by
    unfold sysB; rw [hf, h1, H2E.out, ha]; simp only [Bool.true_and]; rfl)
  have HF := Lib.hid hf
  clear hf ha
  rcases h4 : rows.all (sysR p rows.length) with _ | _
  · have HM := Lib.hid (show linM p rows right = none by unfold linM; rw [HSY.out, h4]; rfl)
    go_enter Try.func8, Try.ntmps8
    go_wp2_with (go_at_call 19; refine (c_impl_within).mono ?_; rintro e w' ⟨rfl, rfl⟩)
    refine (c_impl_areElements ((HY.out.alloc _).alloc _) hl2).mono ?_
    rintro e w1 ⟨rfl, hb1⟩
    have KP := Lib.hid (((Blk.new w 3 #[.int .i64 p]).alloc (.cells #[.int .i64 (rows.length : Int)] 3)).step hb1)
    have KN : Hid (Blk w1 (w.heap.size + 1) 3 #[.int .i64 (rows.length : Int)]) := Lib.hid (by have h := (Blk.new (w.alloc (.cells #[.int .i64 p] 3)) 3 #[.int .i64 (rows.length : Int)]).step hb1; rw [show (w.alloc (.cells #[.int .i64 p] 3)).heap.size = w.heap.size + 1 by simp] at h; exact h)
    have HB1 := Lib.hid (lit_trans (lit_trans hb1))
    clear hb1
    go_wp2_with fail
    refine (c_slices_ContainsFunc_SolveLinear (p := sysR p rows.length) (HX.out.below HB1.out) hl (c_SolveLinear1 HF.out (KN.out.cell 0) (KP.out.cell 0) HR.out)).mono ?_
    rintro e w2 ⟨rfl, hb2⟩
    rw [h4]
    go_wp2
    go_ret2; rw [HM.out]; exact RetIB.no_below (below_step HB1.out hb2)
  · have HM := Lib.hid (show linM p rows right = squareM p rows right by unfold linM; rw [HSY.out, h4]; rfl)
    go_enter Try.func8, Try.ntmps8
    go_wp2_with (go_at_call 19; refine (c_impl_within).mono ?_; rintro e w' ⟨rfl, rfl⟩)
    refine (c_impl_areElements ((HY.out.alloc _).alloc _) hl2).mono ?_
    rintro e w1 ⟨rfl, hb1⟩
    have KP := Lib.hid (((Blk.new w 3 #[.int .i64 p]).alloc (.cells #[.int .i64 (rows.length : Int)] 3)).step hb1)
    have KN : Hid (Blk w1 (w.heap.size + 1) 3 #[.int .i64 (rows.length : Int)]) := Lib.hid (by have h := (Blk.new (w.alloc (.cells #[.int .i64 p] 3)) 3 #[.int .i64 (rows.length : Int)]).step hb1; rw [show (w.alloc (.cells #[.int .i64 p] 3)).heap.size = w.heap.size + 1 by simp] at h; exact h)
    have HB1 := Lib.hid (lit_trans (lit_trans hb1))
    clear hb1
    go_wp2_with fail
    refine (c_slices_ContainsFunc_SolveLinear (p := sysR p rows.length) (HX.out.below HB1.out) hl (c_SolveLinear1 HF.out (KN.out.cell 0) (KP.out.cell 0) HR.out)).mono ?_
    rintro e w2 ⟨rfl, hb2⟩
    rw [h4]
    have HB2 := Lib.hid (below_step HB1.out hb2)
    have hcp := (KP.out.step hb2).cell 0
    clear hb2
    go_wp2_with fail
    refine (c_impl_solveSquare (HX.out.below HB2.out) (HY.out.below HB2.out) (by rw [HSY.out]; exact h4)).mono ?_
    rintro e w3 ⟨u, rfl, hu, hb3⟩
    obtain ⟨Au, cu, rfl, -⟩ := hu.ints
    go_wp2
    go_ret2; rw [HM.out]; exact ⟨_, rfl, hu.mono HB2.out.size, below_step HB2.out hb3⟩
end Go.Proofs.Ytjijghfagaigbaa
