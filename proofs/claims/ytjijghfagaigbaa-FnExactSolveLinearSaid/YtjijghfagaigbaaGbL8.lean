/- Contracts of the laws' own helpers on slices of slices: the copy, the sizes, the comparison, the marks. Conditions: the lists are short. -/
import Derived.Test.YtjijghfagaigbaaGbM
import Derived.Test.YtjijghfagaigbaaSzI
namespace Go.Proofs.Ytjijghfagaigbaa
open Go.RowKit
set_option linter.unusedVariables false

theorem info_ints : (Try.prog.info? 23).map (fun i => (i.zero, i.size, i.bytes)) = some (some (.slice none 0 0), 1, 24) := by kernel_rfl

section
variable {B n : Nat} {v : Value}
theorem OwnRs.made {w : World} (ho : w.ownsRow B 23 1 v n (List.replicate n (.slice none 0 0))) : OwnRs w B v (List.replicate n (.slice none 0 0)) (List.replicate n []) := by
  refine ⟨by simp, by simpa using ho, fun i u r hu hr => ?_, List.pairwise_cons.2 ⟨fun u hu => ?_, List.pairwise_replicate.2 (Or.inr fun g hg => by cases hg)⟩⟩
  · have h1 := List.eq_of_mem_replicate (List.mem_of_getElem? hu)
    have h2 := List.eq_of_mem_replicate (List.mem_of_getElem? hr)
    subst h1 h2
    exact OwnI.nil w B
  · have h1 := List.eq_of_mem_replicate hu
    subst h1
    exact fun g _ e => by cases e
/-- A row of its own is stored at a place. -/
theorem OwnRs.store {w0 w1 : World} {g c i : Nat} {vs : List Value} {u : Value} {r : List Int} {rows : List (List Int)} (h : OwnRs w0 B (.slice (some ⟨g, 0, none⟩) rows.length c) vs rows) (hb : Below w0.heap.size w0 w1) (hB : B ≤ w0.heap.size)
    (hu : OwnI w1 w0.heap.size u r) (hi : i < rows.length) : OwnRs (w1.setCell ⟨g, i, none⟩ u) B (.slice (some ⟨g, 0, none⟩) rows.length c) (vs.set i u) (rows.set i r) := by
  have hbd := h.bd
  have hap := List.pairwise_cons.1 h.apart
  have h1 := h.below hb
  have hg0 := (hbd (.slice (some ⟨g, 0, none⟩) rows.length c) (by simp) g rfl)
  have hst := h1.outer.stored i u
  have hlt : ∀ x ∈ vs, ∀ b, x.ownBlock = some b → b < w0.heap.size := fun x hx b hb' => (hbd x (List.mem_cons_of_mem _ hx) b hb').2
  refine ⟨by simp [h.len], by simpa using hst.1, fun j u' r' hu' hr' => ?_, List.pairwise_cons.2 ⟨fun u' hu' => ?_, ?_⟩⟩
  · by_cases hji : j = i
    · subst hji
      rw [List.getElem?_set_self (by have := h.len; omega)] at hu'
      rw [List.getElem?_set_self hi] at hr'
      injection hu' with hu'; injection hr' with hr'
      subst hu' hr'
      refine (hu.grown hst.2 fun b hb' e => ?_).mono hB
      have := hu.ge b hb'
      injection e with e; omega
    · rw [List.getElem?_set_ne (fun e => hji e.symm)] at hu' hr'
      refine (h1.inner j u' r' hu' hr').grown hst.2 fun b hb' e => ?_
      injection e with e; subst e
      exact hap.1 u' (List.mem_of_getElem? hu') _ rfl hb'
  · rcases List.mem_or_eq_of_mem_set hu' with hm | rfl
    · exact hap.1 u' hm
    · exact Apt.ofLt (N := w0.heap.size) (fun b hb' => by cases hb'; exact hg0.2) hu.ge
  · refine List.pairwise_iff_getElem.2 fun a b ha hb' hab => ?_
    simp only [List.length_set] at ha hb'
    have hp := List.pairwise_iff_getElem.1 hap.2 a b ha hb' hab
    by_cases e1 : i = a
    · subst e1
      rw [List.getElem_set_self, List.getElem_set_ne (by omega)]
      exact (Apt.ofLt (hlt _ (List.getElem_mem _)) hu.ge).symm
    · rw [List.getElem_set_ne e1]
      by_cases e2 : i = b
      · subst e2
        rw [List.getElem_set_self]
        exact Apt.ofLt (hlt _ (List.getElem_mem _)) hu.ge
      · rw [List.getElem_set_ne e2]; exact hp
end
theorem fillR_set (l : List (List Int)) (k : Nat) (x : List Int) (hx : l[k]? = some x) :
    (l.take k ++ List.replicate (l.length - k) []).set k x = l.take (k + 1) ++ List.replicate (l.length - (k + 1)) [] := by
  have hk : k < l.length := (List.getElem?_eq_some_iff.1 hx).1
  have h2 : l.length - k = (l.length - (k + 1)) + 1 := by omega
  rw [take_snoc hx, h2, List.replicate_succ, List.set_append_right _ _ (by simp; omega)]
  simp [Nat.min_eq_left (Nat.le_of_lt hk)]
theorem fillR_length (l : List (List Int)) (k : Nat) (hk : k ≤ l.length) : (l.take k ++ List.replicate (l.length - k) ([] : List Int)).length = l.length := by simp; omega

def RetRs (w : World) (rows : List (List Int)) (e : Ending) (w' : World) : Prop := ∃ u vs, e = .returned u ∧ OwnRs w' w.heap.size u vs rows ∧ Below w.heap.size w w'

set_option maxHeartbeats 400000 in
theorem c_laws_toIntSS {v : Value} {rows : List (List Int)} {w : World} (h : RowsIn w v rows) (hl : rows.length ≤ 1048576) (hr : ∀ r ∈ rows, r.length ≤ 1048576) : Calls Try.prog 6 #[v] w (RetRs w rows) := by
  obtain ⟨A, c, rfl, hlc, hcm, hat⟩ := h.form
  clear h
  obtain ⟨i0, hi0, hz0, hz1, hz2⟩ := info_parts info_ints
  have HAT := Lib.hid hat
  have HR := Lib.hid hr
  clear hat hr
  go_enter Try.func6, Try.ntmps6
  go_wp2_with (at_make; refine wpList_make_full _ rfl _ _ 22 rfl w.heap.size 23 i0 (.slice none 0 0) 1 Try.underlying22 hi0 hz0 hz1 _ _ _ _ rows.length rfl rfl rfl rfl (by rw [hz2]; omega) (by unfold maxLen; omega) (Nat.le_refl _) ?_; intro w1 hown hg)
  have hown1 : ∃ vs, OwnRs w1 w.heap.size (.slice (some ⟨w.heap.size, 0, none⟩) rows.length rows.length) vs (rows.take 0 ++ List.replicate (rows.length - 0) []) := by
    have e := toList_madeCells_one (.slice none 0 0) rows.length
    simp only [Nat.mul_one] at hown
    rw [show (Value.slice none 0 0).cells = #[.slice none 0 0] from rfl, e] at hown
    exact ⟨_, by simpa using OwnRs.made hown⟩
  have hb1 : Below w.heap.size w w1 := (Below.refl _ _).grown hg (Nat.le_refl _) (by simp)
  clear hown hg hi0 hz0 hz1 hz2
  go_loopw [4] (fun i wr => ∃ k : Nat, k ≤ rows.length ∧ i = .int .i64 k ∧ Hid (∃ vs, OwnRs wr w.heap.size (.slice (some ⟨w.heap.size, 0, none⟩) rows.length rows.length) vs (rows.take k ++ List.replicate (rows.length - k) [])) ∧ Hid (Below w.heap.size w wr)) (fun i _ => rows.length - (intOf i).toNat)
  case atStart => exact ⟨0, Nat.zero_le _, rfl, hown1, hb1⟩
  case round =>
    obtain ⟨k, hk, rfl, HO, HB⟩ := hrel
    clear hown1 hb1
    by_cases hlt : k < rows.length
    · obtain ⟨b, o, A', r, c', rfl, hbl, hrk, hcell, hi⟩ := HAT.out k hlt
      have hrl := HR.out r (List.mem_of_getElem? hrk)
      have hc2 := (HB.out.cell (p := ⟨b, o + k, none⟩) hbl).trans hcell
      have HI := Lib.hid (hi.below HB.out)
      have HRK := Lib.hid hrk
      clear hcell hi hrk
      go_wp2_with fail
      refine (c_laws_toIntS HI.out hrl).mono ?_
      rintro e w2 ⟨u, rfl, hu, hb2⟩
      obtain ⟨vs, ho⟩ := HO.out
      have hlen := fillR_length rows k hk
      have hst := OwnRs.store (c := rows.length) (i := k) (by rw [hlen]; exact ho) hb2 HB.out.size hu (by rw [hlen]; exact hlt)
      rw [hlen, fillR_set rows k r HRK.out] at hst
      have hob := (ho.below hb2).outer
      rw [hlen] at hob
      have hfr := hob.frozenAt k
      obtain ⟨old, hold⟩ : ∃ old, w2.cell? ⟨w.heap.size, k, none⟩ = some old := by
        rw [hob.cellAt k (by omega)]; exact ⟨_, List.getElem?_eq_getElem (by have := ho.len; omega)⟩
      have HST := Lib.hid hst
      have HB2 := Lib.hid ((below_step HB.out hb2).setCell (p := ⟨w.heap.size, k, none⟩) (Nat.le_refl _) u)
      obtain ⟨Au, cu, rfl, _⟩ := hu.ints
      clear hst hob ho hlen hb2 hu
      go_wp2
      go_roundw
      case rel => exact ⟨k + 1, by omega, by go_num, ⟨_, HST.out⟩, HB2.out⟩
      case measure => simp [intOf]; omega
    · obtain rfl : k = rows.length := by omega
      go_wp2
      go_ret
      obtain ⟨vs, ho⟩ := HO.out
      exact ⟨_, vs, rfl, by simpa using ho, HB.out⟩

/-- What is left of a size, over rows. -/
def szRM (left : Int) (rows : List (List Int)) : Int := if left - rows.length - cntR rows < 0 then -1 else left - rows.length - cntR rows
theorem c_laws_szIntSS {v : Value} {rows : List (List Int)} {w : World} {left : Int} (h : RowsIn w v rows) (hl : 0 ≤ left ∧ left ≤ 1048576) : Calls Try.prog 4 #[v, .int .i64 left] w fun e w' => e = .returned (.int .i64 (szRM left rows)) ∧ w = w' := by
  obtain ⟨A, c, rfl, hlc, hcm, hat⟩ := h.form
  clear h
  unfold maxLen at hcm
  have HAT := Lib.hid hat
  clear hat
  by_cases hs : left - (rows.length : Int) < 0
  · have HM := Lib.hid (show szRM left rows = -1 by unfold szRM; rw [if_pos (by omega)])
    go_enter Try.func4, Try.ntmps4
    go_wp2
    go_ret; exact ⟨by rw [HM.out]; rfl, rfl⟩
  · go_enter Try.func4, Try.ntmps4
    go_wp2
    go_loop [1, 5] (fun q i => ∃ k : Nat, k ≤ rows.length ∧ i = .int .i64 k ∧ q = .int .i64 (left - rows.length - cntR (rows.take k)) ∧ 0 ≤ left - (rows.length : Int) - (cntR (rows.take k) : Int)) (fun _ i => rows.length - (intOf i).toNat)
    case atStart => exact ⟨0, Nat.zero_le _, rfl, by simp [cntR], by simp [cntR]; omega⟩
    case round =>
      obtain ⟨k, hk, rfl, rfl, hge⟩ := hrel
      by_cases hlt : k < rows.length
      · obtain ⟨b, o, A', r, c', rfl, hbl, hrk, hcell, hi⟩ := HAT.out k hlt
        have hct := cntR_take hrk
        have hle := cntR_take_le rows (k + 1)
        have HI := Lib.hid hi
        clear hi hrk
        generalize hC : cntR (rows.take k) = C at *
        clear hC
        have HCT := Lib.hid hct
        have hsz : szM (left - (rows.length : Int) - (C : Int)) r.length = if left - (rows.length : Int) - (C : Int) - (r.length : Int) < 0 then -1 else left - (rows.length : Int) - (C : Int) - (r.length : Int) := rfl
        by_cases hneg : left - (rows.length : Int) - (C : Int) - (r.length : Int) < 0
        · rw [if_pos hneg] at hsz
          have HM := Lib.hid (show szRM left rows = -1 by unfold szRM; rw [if_pos (by omega)])
          have HS := Lib.hid hsz
          clear hsz hct
          go_wp2_with fail
          refine (c_laws_szIntS HI.out (by omega)).mono ?_
          rw [HS.out]
          rintro e w' ⟨rfl, rfl⟩
          go_wp2
          go_ret; exact ⟨by rw [HM.out]; rfl, rfl⟩
        · rw [if_neg hneg] at hsz
          have HS := Lib.hid hsz
          clear hsz hct
          go_wp2_with fail
          refine (c_laws_szIntS HI.out (by omega)).mono ?_
          rw [HS.out]
          rintro e w' ⟨rfl, rfl⟩
          go_wp2
          go_round
          case rel => exact ⟨k + 1, by omega, by go_num, by rw [HCT.out]; congr 1; omega, by rw [HCT.out]; omega⟩
          case measure => simp [intOf]; omega
      · have HM := Lib.hid (show szRM left rows = left - (rows.length : Int) - (cntR (rows.take k) : Int) by
          rw [List.take_of_length_le (by omega)] at hge ⊢
          unfold szRM; rw [if_neg (by omega)])
        go_wp2
        go_ret; exact ⟨by rw [HM.out]; rfl, rfl⟩
theorem szRM_bd {left : Int} {rows : List (List Int)} (h : ¬ szRM left rows < 0) : szRM left rows = left - rows.length - cntR rows ∧ 0 ≤ left - (rows.length : Int) - (cntR rows : Int) := by
  unfold szRM at h ⊢
  split at h
  · omega
  · rename_i h2; rw [if_neg h2]; omega
theorem szRM_neg {left : Int} {rows : List (List Int)} (h : szRM left rows < 0) : szRM left rows = -1 := by
  unfold szRM at h ⊢
  split at h
  · rename_i h2; rw [if_pos h2]
  · omega

set_option maxHeartbeats 400000 in
theorem c_laws_markIntSS {v : Value} {vs : List Value} {rows : List (List Int)} {w : World} {B : Nat} {k : Int} (h : OwnRs w B v vs rows) (hl : rows.length ≤ 2097152) (hc : cntR rows ≤ 2097152) (hk : 0 ≤ k ∧ k ≤ 900000000) :
    Calls Try.prog 11 #[v, .int .i64 k] w fun e w' => e = .returned (.int .i64 (k + cntR rows)) ∧ OwnRs w' B v vs (marksR k rows) ∧ Only (v :: vs) w w' := by
  obtain ⟨A, c, rfl, hlc, hcm, hrd⟩ := own_form h.outer
  have hst : Hid (OwnRs w B (.slice A rows.length c) vs (marksR k (rows.take 0) ++ rows.drop 0)) := Lib.hid (by simpa [marksR] using h)
  clear h hrd
  go_enter Try.func11, Try.ntmps11
  go_wp2
  go_loopw [1, 5] (fun q i wr => ∃ j : Nat, j ≤ rows.length ∧ i = .int .i64 j ∧ q = .int .i64 (k + cntR (rows.take j)) ∧ Hid (OwnRs wr B (.slice A rows.length c) vs (marksR k (rows.take j) ++ rows.drop j)) ∧ Hid (Only (.slice A rows.length c :: vs) w wr)) (fun _ i _ => rows.length - (intOf i).toNat)
  case atStart => exact ⟨0, Nat.zero_le _, rfl, by simp [cntR], hst, Only.refl _ _⟩
  case round =>
    obtain ⟨j, hj, rfl, rfl, HO, HG⟩ := hrel
    clear hst
    by_cases hlt : j < rows.length
    · have hr0 : rows[j]? = some rows[j] := List.getElem?_eq_getElem hlt
      obtain ⟨g, c2, u, r, A2, c3, e, _, _, hvs, hr, rfl, hcell, hui⟩ := HO.out.at_ (k := j) (by rw [List.length_append, marksR_length]; simp; omega)
      rw [markedRest_at k hr0] at hr
      injection hr with hr
      injection e with e1 e2 e3
      subst e1
      subst hr
      clear e2 e3
      have hct := cntR_take hr0
      have hle := cntR_take_le rows (j + 1)
      have hrl := cntR_len hr0
      have HU := Lib.hid hui
      have HVS := Lib.hid hvs
      have HSET := Lib.hid (marksR_set k hr0)
      generalize hX : rows[j] = r at *
      clear hui hvs hr0 hX
      generalize hC : cntR (rows.take j) = C at *
      clear hC
      have hcb : C + r.length ≤ 2097152 := by omega
      have HCT := Lib.hid hct
      clear hct
      go_wp2_with fail
      refine (c_laws_markIntS HU.out (by omega) (by omega)).mono ?_
      rintro e w2 ⟨rfl, hm, hg2⟩
      have HP := Lib.hid (HO.out.put HVS.out hg2 hm)
      have HG2 := Lib.hid (HG.out.trans (Only.ofGrown hg2 (List.mem_cons_of_mem _ (List.mem_of_getElem? HVS.out))))
      clear hm hg2
      go_wp2
      go_roundw
      case rel => exact ⟨j + 1, by omega, by go_num, by rw [HCT.out]; congr 1; omega, by have := HP.out; rw [HSET.out] at this; exact this, HG2.out⟩
      case measure => simp [intOf]; omega
    · obtain rfl : j = rows.length := by omega
      go_wp2
      go_ret
      exact ⟨by simp, by simpa using HO.out, HG.out⟩

set_option maxHeartbeats 400000 in
theorem c_laws_eqIntSS {va vb : Value} {rows : List (List Int)} {w : World} (ha : RowsIn w va rows) (hb : RowsIn w vb rows) (hl : rows.length ≤ 2097152) (hr : ∀ r ∈ rows, r.length ≤ 2097152) :
    Calls Try.prog 10 #[va, vb] w fun e w' => e = .returned (.bool true) ∧ Below w.heap.size w w' := by
  obtain ⟨A, c, rfl, hlc, hcm, hat⟩ := ha.form
  obtain ⟨B, d, rfl, hld, hdm, hbt⟩ := hb.form
  clear ha hb
  have HAT := Lib.hid hat
  have HBT := Lib.hid hbt
  have HR := Lib.hid hr
  clear hat hbt hr
  go_enter Try.func10, Try.ntmps10
  go_wp2
  go_loopw [5] (fun i wr => ∃ k : Nat, k ≤ rows.length ∧ i = .int .i64 k ∧ Hid (Below w.heap.size w wr)) (fun i _ => rows.length - (intOf i).toNat)
  case atStart => exact ⟨0, Nat.zero_le _, rfl, Below.refl _ _⟩
  case round =>
    obtain ⟨k, hk, rfl, HB⟩ := hrel
    by_cases hlt : k < rows.length
    · obtain ⟨b1, o1, A1, r, c1, rfl, hb1, hr1, hc1, hi1⟩ := HAT.out k hlt
      obtain ⟨b2, o2, A2, r2, c2, rfl, hb2, hr2, hc2, hi2⟩ := HBT.out k hlt
      obtain rfl : r = r2 := by rw [hr1] at hr2; exact Option.some.inj hr2
      have hrl := HR.out r (List.mem_of_getElem? hr1)
      have e1 := (HB.out.cell (p := ⟨b1, o1 + k, none⟩) hb1).trans hc1
      have e2 := (HB.out.cell (p := ⟨b2, o2 + k, none⟩) hb2).trans hc2
      have hk0 : (0 : Int) ≤ (k : Int) := Int.natCast_nonneg _
      have hk1 : (k : Int) < (rows.length : Int) := by omega
      have C := Lib.hid (And.intro hc1 hc2)
      have HI1 := Lib.hid hi1
      have HI2 := Lib.hid hi2
      clear hc1 hc2 hi1 hi2 hr1 hr2
      go_wp2_with fail
      go_region_held3 (fun w' => w'.cell? ⟨b1, o1 + k, none⟩ = some (.slice A1 r.length c1) ∧ w'.cell? ⟨b2, o2 + k, none⟩ = some (.slice A2 r.length c2))
        (first | go_keep | exact ⟨(HB2.out.cell (p := ⟨b1, o1 + k, none⟩) hb1).trans C.out.1, (HB2.out.cell (p := ⟨b2, o2 + k, none⟩) hb2).trans C.out.2⟩)
        ((go_at_call 9; refine (c_laws_eqIntS (HI1.out.below HB.out.drew) (HI2.out.below HB.out.drew) hrl).mono ?_; rintro e w2 ⟨rfl, hb3⟩; have HB2 := Lib.hid (below_step HB.out.drew hb3); clear hb3))
      go_wp2
      go_roundw
      case rel => exact ⟨k + 1, by omega, by go_num, HB2.out⟩
      case measure => simp [intOf]; omega
    · go_wp2
      go_ret
      exact ⟨rfl, HB.out⟩
end Go.Proofs.Ytjijghfagaigbaa
