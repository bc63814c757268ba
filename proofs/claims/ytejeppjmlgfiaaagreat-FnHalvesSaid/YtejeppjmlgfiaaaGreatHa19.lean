/- A region that draws its order, by what holds whatever has come up: each operation is walked once. Plain definitions and lemmas; no condition but those that each names. -/
import Derived.Test.YtejeppjmlgfiaaaGreatHa2
import Derived.Deep.RegionHeld3
import Derived.Test.YtejeppjmlgfiaaaGreatHa18
namespace Go.Proofs.YtejeppjmlgfiaaaGreat
open Go.RowKit
set_option linter.unusedVariables false
/-- A goal shut away: while data are opened nothing looks into it. -/
structure Shut (p : Prop) : Prop where
  out : p
section
variable {P : Program} {ops : Array Oper} {Q : Exit → Act → World → Prop}
/-- Each operation waits only for those in front of it. -/
def acyc (ops : Array Oper) : Bool := (List.range ops.size).all fun i => ((ops[i]?).map fun o => o.after.all fun e => !Region.binds .any e || decide (e.on < i)).getD true
theorem all_of_ready (hac : acyc ops = true) {L : Array Bool} (hsz : L.size = ops.size) (hr : Region.ready .any ops L = []) : ∀ i, i < ops.size → L.getD i false = true := by
  intro i
  induction i using Nat.strongRecOn with
  | _ i ih =>
    intro hi
    cases hl : L.getD i false with
    | true => rfl
    | false =>
      exfalso
      have ho : ops[i]? = some ops[i] := Array.getElem?_eq_getElem hi
      have hmem : i ∈ Region.ready .any ops L := by
        unfold Region.ready
        rw [List.mem_filter]
        refine ⟨List.mem_range.2 hi, ?_⟩
        have hli : i < L.size := by omega
        have hl2 : L.getD i true = false := by simp [hli] at hl ⊢; exact hl
        rw [hl2, ho]
        simp only [Bool.not_false, Option.map_some, Option.getD_some, Bool.true_and, Array.all_eq_true_iff_forall_mem]
        intro e he
        have h1 := List.all_eq_true.1 hac i (List.mem_range.2 hi)
        rw [ho] at h1
        simp only [Option.map_some, Option.getD_some, Array.all_eq_true_iff_forall_mem, Bool.or_eq_true, Bool.not_eq_true', decide_eq_true_eq] at h1
        rcases h1 e he with h2 | h2
        · rw [h2]; rfl
        · rw [ih e.on h2 (by omega)]
          simp
      rw [hr] at hmem
      cases hmem
def unl (L : Array Bool) : Nat := L.toList.count false
def usd (L : Array Bool) : Nat := L.toList.count true
theorem unl_set {L : Array Bool} {i : Nat} (h : L.getD i true = false) : unl (L.setIfInBounds i true) + 1 = unl L := by
  have hi : i < L.size := by
    rcases Nat.lt_or_ge i L.size with h' | h'
    · exact h'
    · simp [Nat.not_lt.2 h'] at h
  have hv : L.toList[i]'(by simpa using hi) = false := by simp [hi] at h; simpa using h
  unfold unl
  rw [Array.toList_setIfInBounds, List.count_set (by simpa using hi), hv]
  have h0 : 0 < L.toList.count false := List.count_pos_iff.2 (by rw [← hv]; exact List.getElem_mem _)
  have h1 : (true == false) = false := rfl
  simp only [beq_self_eq_true, if_true, h1, Bool.false_eq_true, if_false]
  omega
theorem usd_set {L : Array Bool} {i : Nat} (h : L.getD i true = false) : usd (L.setIfInBounds i true) = usd L + 1 := by
  have hi : i < L.size := by
    rcases Nat.lt_or_ge i L.size with h' | h'
    · exact h'
    · simp [Nat.not_lt.2 h'] at h
  have hv : L.toList[i]'(by simpa using hi) = false := by simp [hi] at h; simpa using h
  unfold usd
  rw [Array.toList_setIfInBounds, List.count_set (by simpa using hi), hv]
  simp
theorem usd_le (L : Array Bool) : usd L ≤ L.size := by unfold usd; exact List.count_le_length
theorem usd_new (n : Nat) : usd (Array.replicate n false) = 0 := by simp [usd, List.count_replicate]
/-- Every operation, from number k on: from whatever holds it goes on to what holds behind it. -/
inductive Steps1 (P : Program) (I : Array Bool → Act → World → Prop) : Nat → List Oper → Prop
  | nil (k : Nat) : Steps1 P I k []
  | cons (k : Nat) (o : Oper) (os : List Oper) (hg : o.guard = none)
      (h : ∀ (Q : Exit → Act → World → Prop) L a w K, I L a w → (∀ e ∈ o.after, Region.binds .any e = true → L.getD e.on false = true) → L.getD k true = false → Hid (∀ a' w', I (L.setIfInBounds k true) a' w' → K a' w') → o.wp P a w K Q)
      (t : Steps1 P I (k + 1) os) : Steps1 P I k (o :: os)
theorem Steps1.at_ {I : Array Bool → Act → World → Prop} : ∀ {k : Nat} {os : List Oper}, Steps1 P I k os → ∀ i o, os[i]? = some o → o.guard = none ∧
    ∀ (Q : Exit → Act → World → Prop) L a w K, I L a w → (∀ e ∈ o.after, Region.binds .any e = true → L.getD e.on false = true) → L.getD (k + i) true = false → Hid (∀ a' w', I (L.setIfInBounds (k + i) true) a' w' → K a' w') → o.wp P a w K Q := by
  intro k os h
  induction h with
  | nil k => intro i o h; simp at h
  | cons k o os hg h t ih =>
    intro i o' ho
    cases i with
    | zero => simp at ho; subst ho; exact ⟨hg, h⟩
    | succ i =>
      have := ih i o' (by simpa using ho)
      rw [show k + 1 + i = k + (i + 1) by omega] at this
      exact this
theorem wpAny_inv {I : Array Bool → Act → World → Prop} (hac : acyc ops = true) (hsz : ∀ L a w, I L a w → L.size = ops.size) (hst : Steps1 P I 0 ops.toList)
    (hdone : ∀ L a w, I L a w → (∀ i, i < ops.size → L.getD i false = true) → Q .normal a w) :
    ∀ (fuel : Nat) (L : Array Bool) (a : Act) (w : World), I L a w → unl L ≤ fuel → wpAny P .any ops Q fuel L a w
  | 0, L, a, w, hI, hu => by
    have h0 : ∀ i, i < ops.size → L.getD i false = true := by
      intro i hi
      have hli : i < L.size := by rw [hsz L a w hI]; exact hi
      have h1 : L.toList.count false = 0 := by unfold unl at hu; omega
      cases hv : L.getD i false with
      | true => rfl
      | false =>
        exfalso
        simp [hli] at hv
        exact List.count_eq_zero.1 h1 (by rw [← hv]; simp)
    refine ⟨?_, hdone L a w hI h0⟩
    unfold Region.ready
    rw [List.filter_eq_nil_iff]
    intro i hi
    have hi' := List.mem_range.1 hi
    have hli : i < L.size := by rw [hsz L a w hI]; exact hi'
    have := h0 i hi'
    simp [hli] at this
    simp [hli, this]
  | fuel + 1, L, a, w, hI, hu => by
    refine ⟨fun hr => hdone L a w hI (all_of_ready hac (hsz L a w hI) hr), fun i hi => ?_⟩
    have hm := hi
    unfold Region.ready at hm
    rw [List.mem_filter] at hm
    obtain ⟨hr, hc⟩ := hm
    have hil := List.mem_range.1 hr
    have ho : ops[i]? = some ops[i] := Array.getElem?_eq_getElem hil
    rw [ho] at hc
    simp only [Bool.and_eq_true, Bool.not_eq_true', Option.map_some, Option.getD_some, Array.all_eq_true_iff_forall_mem] at hc
    obtain ⟨hg, hw⟩ := hst.at_ i ops[i] (by rw [Array.getElem?_toList]; exact ho)
    have hk := hw Q L a w (wpAny P .any ops Q fuel (L.setIfInBounds i true)) hI (fun e he hb => by
      have := hc.2 e he
      rw [hb] at this
      simpa using this) (by simpa using hc.1) (Lib.hid fun a' w' h' => by
      rw [Nat.zero_add] at h'
      exact wpAny_inv hac hsz hst hdone fuel _ a' w' h' (by have := unl_set (L := L) (i := i) hc.1; omega))
    unfold wpOp
    rw [ho]
    simp only [Region.wanted, hg, if_true]
    exact Or.inl hk
theorem wp_region_inv {id : Nat} {a : Act} {w : World} (I : Array Bool → Act → World → Prop) (hm : P.follows .mixedOrders = true) (hac : acyc ops = true)
    (hsz : ∀ L a w, I L a w → L.size = ops.size) (h0 : I (Array.replicate ops.size false) a w.drew) (hst : Steps1 P I 0 ops.toList)
    (hdone : ∀ L a w, I L a w → (∀ i, i < ops.size → L.getD i false = true) → Q .normal a w) : (Code.region id ops true).wp P Q a w :=
  wp_region_any hm (wpAny_inv hac hsz hst hdone _ _ a _ h0 (by simp [unl]))
/-- The same, where what holds is told from the frame at the beginning. -/
theorem wp_region_from {id : Nat} {a : Act} {w : World} (I : Act → Array Bool → Act → World → Prop) (hm : P.follows .mixedOrders = true) (hac : acyc ops = true)
    (hsz : ∀ L b w, I a L b w → L.size = ops.size) (h0 : I a (Array.replicate ops.size false) a w.drew) (hst : Steps1 P (I a) 0 ops.toList)
    (hdone : ∀ L b w, I a L b w → (∀ i, i < ops.size → L.getD i false = true) → Q .normal b w) : (Code.region id ops true).wp P Q a w :=
  wp_region_inv (I a) hm hac hsz h0 hst hdone
end
end Go.Proofs.YtejeppjmlgfiaaaGreat

/- The laws' comparisons of equal lists, of equal lists of lists, and of equal tables. Conditions: the lists are short. -/
namespace Go.Proofs.YtejeppjmlgfiaaaGreat
open Go.RowKit
set_option linter.unusedVariables false
theorem gb_row_le {g : Gb} {r : List Int} (h : r ∈ g.rows) : r.length ≤ g.sz := by
  obtain ⟨i, hi⟩ := List.getElem?_of_mem h
  have := cntR_len hi
  unfold Gb.sz
  omega
set_option maxHeartbeats 1000000 in
theorem c_laws_sameInts {va vb : Value} {l : List Int} {w : World} (ha : Ints w va l) (hb' : Ints w vb l) (hl : l.length ≤ 2097152) :
    Calls Tryz.prog 26 #[va, vb] w fun e w' => e = .returned (.bool true) ∧ Below w.heap.size w w' := by
  obtain ⟨A, c, rfl, hlc, hcm, hrd⟩ := ha
  obtain ⟨A', c', rfl, hlc', hcm', hrd'⟩ := hb'
  go_enter Tryz.func26, Tryz.ntmps26
  go_wp2
  go_loopw [13] (fun i wr => ∃ k : Nat, k ≤ l.length ∧ i = .int .i64 k ∧ Hid (Below w.heap.size w wr)) (fun i _ => l.length - (intOf i).toNat)
  case atStart => exact ⟨0, Nat.zero_le _, rfl, Lib.hid (Below.refl _ _)⟩
  case round =>
    obtain ⟨k, hk, rfl, HB⟩ := hrel
    obtain ⟨wa, rfl⟩ : ∃ W, W = wr := ⟨wr, rfl⟩
    by_cases hlt : k < l.length
    · obtain ⟨b1, o1, x, rfl, hbl, hxk, hcell⟩ := hrd.int_at hlt
      obtain ⟨b2, o2, y, rfl, hbl2, hyk, hcell2⟩ := hrd'.int_at hlt
      obtain rfl : x = y := by rw [hxk] at hyk; injection hyk
      have e1 := (HB.out.cell (p := ⟨b1, o1 + k, none⟩) hbl).trans hcell
      have e2 := (HB.out.cell (p := ⟨b2, o2 + k, none⟩) hbl2).trans hcell2
      have hk0 : (0 : Int) ≤ (k : Int) := Int.natCast_nonneg _
      have hk1 : (k : Int) < (l.length : Int) := by omega
      clear hxk hyk hcell hcell2
      go_wp2_with fail
      go_region_held3 (fun w' => w'.cell? ⟨b1, o1 + k, none⟩ = some (.int .i64 x) ∧ w'.cell? ⟨b2, o2 + k, none⟩ = some (.int .i64 x)) (exact ⟨e1, e2⟩) (fail)
      go_wp2
      go_roundw
      case rel => exact ⟨k + 1, by omega, by go_num, Lib.hid HB.out.drew⟩
      case measure => simp [intOf]; omega
    · go_wp2
      go_ret
      exact ⟨rfl, HB.out⟩
set_option maxHeartbeats 1000000 in
theorem c_laws_qInts {va vb : Value} {l : List Int} {w : World} (ha : Ints w va l) (hb' : Ints w vb l) (hl : l.length ≤ 2097152) :
    Calls Tryz.prog 14 #[va, vb] w fun e w' => e = .returned (.bool true) ∧ Below w.heap.size w w' := by
  obtain ⟨A, c, rfl, hlc, hcm, hrd⟩ := ha
  obtain ⟨A', c', rfl, hlc', hcm', hrd'⟩ := hb'
  go_enter Tryz.func14, Tryz.ntmps14
  go_wp2
  go_loopw [13] (fun i wr => ∃ k : Nat, k ≤ l.length ∧ i = .int .i64 k ∧ Hid (Below w.heap.size w wr)) (fun i _ => l.length - (intOf i).toNat)
  case atStart => exact ⟨0, Nat.zero_le _, rfl, Lib.hid (Below.refl _ _)⟩
  case round =>
    obtain ⟨k, hk, rfl, HB⟩ := hrel
    obtain ⟨wa, rfl⟩ : ∃ W, W = wr := ⟨wr, rfl⟩
    by_cases hlt : k < l.length
    · obtain ⟨b1, o1, x, rfl, hbl, hxk, hcell⟩ := hrd.int_at hlt
      obtain ⟨b2, o2, y, rfl, hbl2, hyk, hcell2⟩ := hrd'.int_at hlt
      obtain rfl : x = y := by rw [hxk] at hyk; injection hyk
      have e1 := (HB.out.cell (p := ⟨b1, o1 + k, none⟩) hbl).trans hcell
      have e2 := (HB.out.cell (p := ⟨b2, o2 + k, none⟩) hbl2).trans hcell2
      have hk0 : (0 : Int) ≤ (k : Int) := Int.natCast_nonneg _
      have hk1 : (k : Int) < (l.length : Int) := by omega
      clear hxk hyk hcell hcell2
      go_wp2_with fail
      go_region_held3 (fun w' => w'.cell? ⟨b1, o1 + k, none⟩ = some (.int .i64 x) ∧ w'.cell? ⟨b2, o2 + k, none⟩ = some (.int .i64 x)) (exact ⟨e1, e2⟩) (fail)
      go_wp2
      go_roundw
      case rel => exact ⟨k + 1, by omega, by go_num, Lib.hid HB.out.drew⟩
      case measure => simp [intOf]; omega
    · go_wp2
      go_ret
      exact ⟨rfl, HB.out⟩
set_option maxHeartbeats 1000000 in
theorem c_laws_sameLists {va vb : Value} {rows : List (List Int)} {w : World} (ha : RowsIn w va rows) (hb' : RowsIn w vb rows) (hl : rows.length ≤ 2097152) (hr : ∀ r ∈ rows, r.length ≤ 2097152) :
    Calls Tryz.prog 102 #[va, vb] w fun e w' => e = .returned (.bool true) ∧ Below w.heap.size w w' := by
  have HR := Lib.hid hr
  obtain ⟨A, c, rfl, hlc, hcm, hat⟩ := ha.form
  obtain ⟨A', c', rfl, hlc', hcm', hat'⟩ := hb'.form
  have HA := Lib.hid hat
  have HB' := Lib.hid hat'
  clear hr hat hat' ha hb'
  go_enter Tryz.func102, Tryz.ntmps102
  go_wp2
  go_loopw [13] (fun i wr => ∃ k : Nat, k ≤ rows.length ∧ i = .int .i64 k ∧ Hid (Below w.heap.size w wr)) (fun i _ => rows.length - (intOf i).toNat)
  case atStart => exact ⟨0, Nat.zero_le _, rfl, Lib.hid (Below.refl _ _)⟩
  case round =>
    obtain ⟨k, hk, rfl, HB⟩ := hrel
    obtain ⟨wa, rfl⟩ : ∃ W, W = wr := ⟨wr, rfl⟩
    by_cases hlt : k < rows.length
    · obtain ⟨b1, o1, A1, r1, c1, rfl, hbl, hrk, hcell, hi1⟩ := HA.out k hlt
      obtain ⟨b2, o2, A2, r2, c2, rfl, hbl2, hrk2, hcell2, hi2⟩ := HB'.out k hlt
      obtain rfl : r1 = r2 := by rw [hrk] at hrk2; injection hrk2
      have e1 := (HB.out.cell (p := ⟨b1, o1 + k, none⟩) hbl).trans hcell
      have e2 := (HB.out.cell (p := ⟨b2, o2 + k, none⟩) hbl2).trans hcell2
      have H1 := Lib.hid (hi1.below HB.out)
      have H2 := Lib.hid (hi2.below HB.out)
      have hrl := HR.out r1 (List.mem_of_getElem? hrk)
      have hk0 : (0 : Int) ≤ (k : Int) := Int.natCast_nonneg _
      have hk1 : (k : Int) < (rows.length : Int) := by omega
      clear hrk hrk2 hcell hcell2 hi1 hi2
      have hw1 := Nat.lt_of_lt_of_le hbl HB.out.size
      have hw2 := Nat.lt_of_lt_of_le hbl2 HB.out.size
      go_wp2_with fail
      go_region_held3 (fun w' => w'.cell? ⟨b1, o1 + k, none⟩ = some (.slice A1 r1.length c1) ∧ w'.cell? ⟨b2, o2 + k, none⟩ = some (.slice A2 r1.length c2))
        (first | exact KP.out | exact ⟨e1, e2⟩)
        (first
          | (go_at_call 26; refine (c_laws_sameInts (H1.out.below (Below.refl _ _).drew) (H2.out.below (Below.refl _ _).drew) hrl).mono ?_; rintro e w2 ⟨rfl, hb2⟩; have HB2 := Lib.hid (below_step HB.out (below_step (Below.refl _ _).drew hb2)); have KP := Lib.hid (And.intro ((hb2.cell (p := ⟨b1, o1 + k, none⟩) hw1).trans e1) ((hb2.cell (p := ⟨b2, o2 + k, none⟩) hw2).trans e2)); clear hb2))
      go_wp2
      go_roundw
      case rel => exact ⟨k + 1, by omega, by go_num, HB2⟩
      case measure => simp [intOf]; omega
    · go_wp2
      go_ret
      exact ⟨rfl, HB.out⟩
set_option maxHeartbeats 1000000 in
theorem c_laws_qLists {va vb : Value} {rows : List (List Int)} {w : World} (ha : RowsIn w va rows) (hb' : RowsIn w vb rows) (hl : rows.length ≤ 2097152) (hr : ∀ r ∈ rows, r.length ≤ 2097152) :
    Calls Tryz.prog 73 #[va, vb] w fun e w' => e = .returned (.bool true) ∧ Below w.heap.size w w' := by
  have HR := Lib.hid hr
  obtain ⟨A, c, rfl, hlc, hcm, hat⟩ := ha.form
  obtain ⟨A', c', rfl, hlc', hcm', hat'⟩ := hb'.form
  have HA := Lib.hid hat
  have HB' := Lib.hid hat'
  clear hr hat hat' ha hb'
  go_enter Tryz.func73, Tryz.ntmps73
  go_wp2
  go_loopw [13] (fun i wr => ∃ k : Nat, k ≤ rows.length ∧ i = .int .i64 k ∧ Hid (Below w.heap.size w wr)) (fun i _ => rows.length - (intOf i).toNat)
  case atStart => exact ⟨0, Nat.zero_le _, rfl, Lib.hid (Below.refl _ _)⟩
  case round =>
    obtain ⟨k, hk, rfl, HB⟩ := hrel
    obtain ⟨wa, rfl⟩ : ∃ W, W = wr := ⟨wr, rfl⟩
    by_cases hlt : k < rows.length
    · obtain ⟨b1, o1, A1, r1, c1, rfl, hbl, hrk, hcell, hi1⟩ := HA.out k hlt
      obtain ⟨b2, o2, A2, r2, c2, rfl, hbl2, hrk2, hcell2, hi2⟩ := HB'.out k hlt
      obtain rfl : r1 = r2 := by rw [hrk] at hrk2; injection hrk2
      have e1 := (HB.out.cell (p := ⟨b1, o1 + k, none⟩) hbl).trans hcell
      have e2 := (HB.out.cell (p := ⟨b2, o2 + k, none⟩) hbl2).trans hcell2
      have H1 := Lib.hid (hi1.below HB.out)
      have H2 := Lib.hid (hi2.below HB.out)
      have hrl := HR.out r1 (List.mem_of_getElem? hrk)
      have hk0 : (0 : Int) ≤ (k : Int) := Int.natCast_nonneg _
      have hk1 : (k : Int) < (rows.length : Int) := by omega
      clear hrk hrk2 hcell hcell2 hi1 hi2
      have hw1 := Nat.lt_of_lt_of_le hbl HB.out.size
      have hw2 := Nat.lt_of_lt_of_le hbl2 HB.out.size
      go_wp2_with fail
      go_region_held3 (fun w' => w'.cell? ⟨b1, o1 + k, none⟩ = some (.slice A1 r1.length c1) ∧ w'.cell? ⟨b2, o2 + k, none⟩ = some (.slice A2 r1.length c2))
        (first | exact KP.out | exact ⟨e1, e2⟩)
        (first
          | (go_at_call 14; refine (c_laws_qInts (H1.out.below (Below.refl _ _).drew) (H2.out.below (Below.refl _ _).drew) hrl).mono ?_; rintro e w2 ⟨rfl, hb2⟩; have HB2 := Lib.hid (below_step HB.out (below_step (Below.refl _ _).drew hb2)); have KP := Lib.hid (And.intro ((hb2.cell (p := ⟨b1, o1 + k, none⟩) hw1).trans e1) ((hb2.cell (p := ⟨b2, o2 + k, none⟩) hw2).trans e2)); clear hb2))
      go_wp2
      go_roundw
      case rel => exact ⟨k + 1, by omega, by go_num, HB2⟩
      case measure => simp [intOf]; omega
    · go_wp2
      go_ret
      exact ⟨rfl, HB.out⟩
set_option maxHeartbeats 1000000 in
theorem c_laws_qHalved {rv nv cv rv' nv' cv' : Value} {g : Gb} {w : World} (ha : GbIn w rv nv cv g) (hb : GbIn w rv' nv' cv' g) (hs : g.sz ≤ 2097152) :
    Calls Tryz.prog 15 #[gbV rv nv cv, gbV rv' nv' cv'] w fun e w' => e = .returned (.bool true) ∧ Below w.heap.size w w' := by
  have HA := Lib.hid ha
  have HB := Lib.hid hb
  have HS := Lib.hid hs
  obtain ⟨A1, c1, rfl, -⟩ := ha.rows.form
  obtain ⟨A2, c2, rfl, -⟩ := ha.ones
  obtain ⟨A3, c3, rfl, -⟩ := ha.cols
  obtain ⟨B1, d1, rfl, -⟩ := hb.rows.form
  obtain ⟨B2, d2, rfl, -⟩ := hb.ones
  obtain ⟨B3, d3, rfl, -⟩ := hb.cols
  clear ha hb hs
  unfold gbV
  obtain ⟨w0, hw0⟩ : ∃ W, (w.alloc (.cells #[.slice A1 g.rows.length c1, .slice A2 g.ones.length c2, .slice A3 g.cols.length c3] 35)).alloc (.cells #[.slice B1 g.rows.length d1, .slice B2 g.ones.length d2, .slice B3 g.cols.length d3] 35) = W := ⟨_, rfl⟩
  have HKA := Lib.hid ((Blk.new w 35 #[.slice A1 g.rows.length c1, .slice A2 g.ones.length c2, .slice A3 g.cols.length c3]).alloc (.cells #[.slice B1 g.rows.length d1, .slice B2 g.ones.length d2, .slice B3 g.cols.length d3] 35))
  rw [hw0] at HKA
  have HKB := Lib.hid (Blk.new (w.alloc (.cells #[.slice A1 g.rows.length c1, .slice A2 g.ones.length c2, .slice A3 g.cols.length c3] 35)) 35 #[.slice B1 g.rows.length d1, .slice B2 g.ones.length d2, .slice B3 g.cols.length d3])
  simp only [World.size_alloc, hw0] at HKB
  have HW : Hid (Below w.heap.size w w0) := by rw [← hw0]; exact ((Below.refl w.heap.size w).alloc (Nat.le_refl _) _).alloc (by simp) _
  have x0 := HKA.out.cell 0
  have x1 := HKA.out.cell 1
  have x2 := HKA.out.cell 2
  have y0 := HKB.out.cell 0
  have y1 := HKB.out.cell 1
  have y2 := HKB.out.cell 2
  go_enter Tryz.func15, Tryz.ntmps15
  go_wp2_with fail
  clear hw0 x0 x1 x2 y0 y1 y2
  refine (c_laws_qLists (HA.out.below HW.out).rows (HB.out.below HW.out).rows (by have := HS.out; unfold Gb.sz at this; omega) (fun r hr => Nat.le_trans (gb_row_le hr) HS.out)).mono ?_
  rintro e w1 ⟨rfl, hb1⟩
  replace HKA := Lib.hid (HKA.out.step hb1)
  replace HKB := Lib.hid (HKB.out.step hb1)
  replace HW := Lib.hid (below_step HW.out hb1)
  have x1 := HKA.out.cell 1
  have y1 := HKB.out.cell 1
  clear hb1
  go_wp2_with fail
  clear x1 y1
  refine (c_laws_qInts (HA.out.below HW.out).ones (HB.out.below HW.out).ones (by have := HS.out; unfold Gb.sz at this; omega)).mono ?_
  rintro e w2 ⟨rfl, hb2⟩
  replace HKA := Lib.hid (HKA.out.step hb2)
  replace HKB := Lib.hid (HKB.out.step hb2)
  replace HW := Lib.hid (below_step HW.out hb2)
  have x2 := HKA.out.cell 2
  have y2 := HKB.out.cell 2
  clear hb2
  go_wp2_with fail
  clear x2 y2
  refine (c_laws_qInts (HA.out.below HW.out).cols (HB.out.below HW.out).cols (by have := HS.out; unfold Gb.sz at this; omega)).mono ?_
  rintro e w3 ⟨rfl, hb3⟩
  replace HW := Lib.hid (below_step HW.out hb3)
  go_wp2
  go_ret
  exact ⟨rfl, HW.out⟩
set_option maxHeartbeats 1000000 in
theorem c_laws_pSameGarbled {rv nv cv rv' nv' cv' : Value} {g : Gb} {w : World} (ha : GbIn w rv nv cv g) (hb : GbIn w rv' nv' cv' g) (hs : g.sz ≤ 2097152) :
    Calls Tryz.prog 35 #[gbV rv nv cv, gbV rv' nv' cv'] w fun e w' => e = .returned (.bool true) ∧ Below w.heap.size w w' := by
  have HA := Lib.hid ha
  have HB := Lib.hid hb
  have HS := Lib.hid hs
  obtain ⟨A1, c1, rfl, -⟩ := ha.rows.form
  obtain ⟨A2, c2, rfl, -⟩ := ha.ones
  obtain ⟨A3, c3, rfl, -⟩ := ha.cols
  obtain ⟨B1, d1, rfl, -⟩ := hb.rows.form
  obtain ⟨B2, d2, rfl, -⟩ := hb.ones
  obtain ⟨B3, d3, rfl, -⟩ := hb.cols
  clear ha hb hs
  unfold gbV
  obtain ⟨w0, hw0⟩ : ∃ W, (w.alloc (.cells #[.slice A1 g.rows.length c1, .slice A2 g.ones.length c2, .slice A3 g.cols.length c3] 50)).alloc (.cells #[.slice B1 g.rows.length d1, .slice B2 g.ones.length d2, .slice B3 g.cols.length d3] 50) = W := ⟨_, rfl⟩
  have HKA := Lib.hid ((Blk.new w 50 #[.slice A1 g.rows.length c1, .slice A2 g.ones.length c2, .slice A3 g.cols.length c3]).alloc (.cells #[.slice B1 g.rows.length d1, .slice B2 g.ones.length d2, .slice B3 g.cols.length d3] 50))
  rw [hw0] at HKA
  have HKB := Lib.hid (Blk.new (w.alloc (.cells #[.slice A1 g.rows.length c1, .slice A2 g.ones.length c2, .slice A3 g.cols.length c3] 50)) 50 #[.slice B1 g.rows.length d1, .slice B2 g.ones.length d2, .slice B3 g.cols.length d3])
  simp only [World.size_alloc, hw0] at HKB
  have HW : Hid (Below w.heap.size w w0) := by rw [← hw0]; exact ((Below.refl w.heap.size w).alloc (Nat.le_refl _) _).alloc (by simp) _
  have x0 := HKA.out.cell 0
  have x1 := HKA.out.cell 1
  have x2 := HKA.out.cell 2
  have y0 := HKB.out.cell 0
  have y1 := HKB.out.cell 1
  have y2 := HKB.out.cell 2
  go_enter Tryz.func35, Tryz.ntmps35
  go_wp2_with fail
  clear hw0 x0 x1 x2 y0 y1 y2
  refine (c_laws_sameLists (HA.out.below HW.out).rows (HB.out.below HW.out).rows (by have := HS.out; unfold Gb.sz at this; omega) (fun r hr => Nat.le_trans (gb_row_le hr) HS.out)).mono ?_
  rintro e w1 ⟨rfl, hb1⟩
  replace HKA := Lib.hid (HKA.out.step hb1)
  replace HKB := Lib.hid (HKB.out.step hb1)
  replace HW := Lib.hid (below_step HW.out hb1)
  have x1 := HKA.out.cell 1
  have y1 := HKB.out.cell 1
  clear hb1
  go_wp2_with fail
  clear x1 y1
  refine (c_laws_sameInts (HA.out.below HW.out).ones (HB.out.below HW.out).ones (by have := HS.out; unfold Gb.sz at this; omega)).mono ?_
  rintro e w2 ⟨rfl, hb2⟩
  replace HKA := Lib.hid (HKA.out.step hb2)
  replace HKB := Lib.hid (HKB.out.step hb2)
  replace HW := Lib.hid (below_step HW.out hb2)
  have x2 := HKA.out.cell 2
  have y2 := HKB.out.cell 2
  clear hb2
  go_wp2_with fail
  clear x2 y2
  refine (c_laws_sameInts (HA.out.below HW.out).cols (HB.out.below HW.out).cols (by have := HS.out; unfold Gb.sz at this; omega)).mono ?_
  rintro e w3 ⟨rfl, hb3⟩
  replace HW := Lib.hid (below_step HW.out hb3)
  go_wp2
  go_ret
  exact ⟨rfl, HW.out⟩
end Go.Proofs.YtejeppjmlgfiaaaGreat
