/- Contracts of 'all numbers fulfil something': over the library's IndexFunc and ContainsFunc, whatever the predicate; the reference's range test. Conditions: the lists are short. -/
import Derived.Test.YtejeppjmlgfiaaaGreatMem
import Derived.Test.YtejeppjmlgfiaaaGreatCirM
namespace Go.Proofs.YtejeppjmlgfiaaaGreat
open Go.RowKit
set_option linter.unusedVariables false

/-- What is asked of the predicate, a function K with captured values caps: in each later world it answers p and leaves what is there alone. -/
def PredB (w : World) (K : Nat) (caps : List Value) (p : Int → Bool) (l : List Int) : Prop :=
  ∀ W x, Below w.heap.size w W → x ∈ l → Calls Tryz.prog K (Value.int .i64 x :: caps).toArray W fun e w' => e = .returned (.bool (p x)) ∧ Below W.heap.size W w'
theorem PredB.step {w w1 : World} {K : Nat} {caps : List Value} {p : Int → Bool} {l : List Int} (h : PredB w K caps p l) (hb : Below w.heap.size w w1) : PredB w1 K caps p l :=
  fun W x hW hx => h W x (below_step hb hW) hx
/-- A predicate that leaves the world alone. -/
theorem PredB.same {w : World} {K : Nat} {caps : List Value} {p : Int → Bool} {l : List Int} (h : ∀ W x, Calls Tryz.prog K (Value.int .i64 x :: caps).toArray W fun e w' => e = .returned (.bool (p x)) ∧ W = w') : PredB w K caps p l :=
  fun W x _ _ => (h W x).mono fun e w' ⟨he, hw⟩ => ⟨he, hw ▸ Below.refl _ _⟩
theorem enters_isLabel : Enters 114 := by intro args w; simp [callFunc, Tryz.func114]; kernel_rfl
def IdxPost (w : World) (b : Bool) (e : Ending) (w' : World) : Prop := ∃ r : Int, e = .returned (.int .i64 r) ∧ decide (0 ≤ r) = b ∧ Below w.heap.size w w'

set_option maxRecDepth 100000 in
theorem c_slices_IndexFunc_areAll {v : Value} {l : List Int} {w : World} {q : Value} {p : Int → Bool} (h : Ints w v l) (hl : l.length ≤ 2097152)
    (hp : PredB w 161 [q] (fun x => !p x) l) :
    Calls Tryz.prog 164 #[v, .func (.func 161) #[] #[q]] w (IdxPost w (!(l.all p))) := by
  obtain ⟨A, c, rfl, hlc, hcm, hrd⟩ := h
  have HP := Lib.hid hp
  clear hp
  go_enter Tryz.func164, Tryz.ntmps164
  go_wp2
  go_loopw [8] (fun i wr => ∃ k : Nat, k ≤ l.length ∧ i = .int .i64 k ∧ Hid ((l.take k).all p = true) ∧ Hid (Below w.heap.size w wr)) (fun i _ => l.length - (intOf i).toNat)
  case atStart => exact ⟨0, Nat.zero_le _, rfl, show ((l.take 0).all p = true) from rfl, Below.refl _ _⟩
  case round =>
    obtain ⟨k, hk, rfl, HA, HB⟩ := hrel
    by_cases hlt : k < l.length
    · obtain ⟨b, o, x, rfl, hbl, hxk, hcell⟩ := (hrd.below HB.out).int_at hlt
      have hmem : x ∈ l := List.mem_of_getElem? hxk
      have HT := Lib.hid (take_snoc hxk)
      clear hxk
      rcases hpx : p x with _ | _
      · go_wp2_with fail
        refine (HP.out _ x HB.out hmem).mono ?_
        rintro e w1 ⟨rfl, hb1⟩
        simp only [hpx]
        go_wp2
        go_ret
        exact ⟨_, rfl, by
          have : l.all p = false := by simpa using ⟨x, hmem, hpx⟩
          rw [this]; simp, below_step HB.out hb1⟩
      · go_wp2_with fail
        refine (HP.out _ x HB.out hmem).mono ?_
        rintro e w1 ⟨rfl, hb1⟩
        simp only [hpx]
        go_wp2
        go_roundw
        case rel => exact ⟨k + 1, by omega, by go_num, show ((l.take (k + 1)).all p = true) by rw [HT.out, List.all_append, HA.out]; simp [hpx], below_step HB.out hb1⟩
        case measure => simp [intOf]; omega
    · go_wp2
      go_ret
      exact ⟨_, rfl, by
        have := HA.out
        rw [List.take_of_length_le (by omega)] at this
        rw [this]; decide, HB.out⟩

set_option maxRecDepth 100000 in
theorem c_slices_ContainsFunc_areAll {v : Value} {l : List Int} {w : World} {q : Value} {p : Int → Bool} (h : Ints w v l) (hl : l.length ≤ 2097152)
    (hp : PredB w 161 [q] (fun x => !p x) l) :
    Calls Tryz.prog 160 #[v, .func (.func 161) #[] #[q]] w fun e w' => e = .returned (.bool (!(l.all p))) ∧ Below w.heap.size w w' := by
  have H := Lib.hid h
  have HP := Lib.hid hp
  clear hp
  obtain ⟨A, c, rfl, hlc, hcm, hrd⟩ := h
  go_enter Tryz.func160, Tryz.ntmps160
  go_wp2_with fail
  refine (c_slices_IndexFunc_areAll H.out hl HP.out).mono ?_
  rintro e w1 ⟨r, rfl, hr, hb1⟩
  go_wp2
  all_goals (go_ret; exact ⟨by rw [← hr]; simp [*], hb1⟩)

set_option maxRecDepth 100000 in
/-- The closure of areAll: not what the predicate says. -/
theorem c_areAll1 {w : World} {q : Addr} {K : Nat} {caps : List Value} {p : Int → Bool} {l : List Int} (hcf : Enters K) (hq : w.cell? q = some (.func (.func K) #[] caps.toArray)) (hp : PredB w K caps p l) :
    PredB w 161 [.pointer (some q)] (fun x => !p x) l := by
  intro W x hW hx
  have hc := hp W x hW hx
  have hq2 : W.cell? q = some (.func (.func K) #[] caps.toArray) := (hW.cell (World.block_lt_of_cell? w _ hq)).trans hq
  have HC := Lib.hid hc
  clear hc hp hq
  show Calls Tryz.prog 161 #[.int .i64 x, .pointer (some q)] W _
  go_enter Tryz.func161, Tryz.ntmps161
  go_wp2_with fail
  rw [hcf, Oper.upon_enter]
  refine HC.out.mono ?_
  rintro e w1 ⟨rfl, hb1⟩
  go_wp2
  go_ret
  exact ⟨rfl, hb1⟩

set_option maxRecDepth 100000 in
theorem c_impl_areAll {v : Value} {l : List Int} {w : World} {K : Nat} {caps : List Value} {p : Int → Bool} (hcf : Enters K) (h : Ints w v l) (hl : l.length ≤ 2097152)
    (hp : PredB w K caps p l) :
    Calls Tryz.prog 136 #[v, .func (.func K) #[] caps.toArray] w fun e w' => e = .returned (.bool (l.all p)) ∧ Below w.heap.size w w' := by
  have H := Lib.hid h
  have HP := Lib.hid hp
  clear hp
  obtain ⟨A, c, rfl, hlc, hcm, hrd⟩ := h
  go_enter Tryz.func136, Tryz.ntmps136
  go_wp2_with fail
  refine (c_slices_ContainsFunc_areAll (p := p) (H.out.alloc _) hl (c_areAll1 hcf (cell_new w _ _) (HP.out.step ((Below.refl _ _).alloc (Nat.le_refl _) _)))).mono ?_
  rintro e w1 ⟨rfl, hb1⟩
  go_wp2
  go_ret
  exact ⟨by simp, lit_trans hb1⟩

theorem c_impl_areLabels {v : Value} {l : List Int} {w : World} (h : Ints w v l) (hl : l.length ≤ 2097152) :
    Calls Tryz.prog 85 #[v] w fun e w' => e = .returned (.bool (allB l 0 65535)) ∧ Below w.heap.size w w' := by
  have H := Lib.hid h
  obtain ⟨A, c, rfl, hlc, hcm, hrd⟩ := h
  go_enter Tryz.func85, Tryz.ntmps85
  go_wp2_with fail
  refine (c_impl_areAll (K := 114) (caps := []) (p := fun x => inB x 0 65535) enters_isLabel H.out hl (PredB.same fun W x => c_impl_isLabel)).mono ?_
  rintro e w1 ⟨rfl, hb1⟩
  go_wp2
  go_ret
  exact ⟨rfl, hb1⟩
theorem c_spec_l1All {v : Value} {l : List Int} {w : World} {lo hi : Int} (h : Ints w v l) (hl : l.length ≤ 2097152) :
    Calls Tryz.prog 104 #[v, .int .i64 lo, .int .i64 hi] w fun e w' => e = .returned (.bool (allB l lo hi)) ∧ w = w' := by
  obtain ⟨A, c, rfl, hlc, hcm, hrd⟩ := h
  go_enter Tryz.func104, Tryz.ntmps104
  go_wp2
  go_loop [11] (fun i => ∃ k : Nat, k ≤ l.length ∧ i = .int .i64 k ∧ allB (l.take k) lo hi = true) (fun i => l.length - (intOf i).toNat)
  case atStart => exact ⟨0, Nat.zero_le _, rfl, rfl⟩
  case round =>
    obtain ⟨k, hk, rfl, hall⟩ := hrel
    have HA := Lib.hid hall
    clear hall
    by_cases hlt : k < l.length
    · obtain ⟨b, o, x, rfl, hbl, hxk, hcell⟩ := hrd.int_at hlt
      have hmem : x ∈ l := List.mem_of_getElem? hxk
      have HT := Lib.hid (take_snoc hxk)
      clear hxk
      rcases hpx : inB x lo hi with _ | _
      · go_wp2_with (go_at_call 117; refine (c_spec_l1In).mono ?_; rintro e w' ⟨rfl, rfl⟩)
        go_ret
        exact ⟨by
          have : allB l lo hi = false := by simpa [allB] using ⟨x, hmem, hpx⟩
          rw [this]; rfl, rfl⟩
      · go_wp2_with (go_at_call 117; refine (c_spec_l1In).mono ?_; rintro e w' ⟨rfl, rfl⟩)
        go_round
        case rel => exact ⟨k + 1, by omega, by go_num, by rw [HT.out]; have := HA.out; unfold allB at this ⊢; rw [List.all_append, this]; simp [hpx]⟩
        case measure => simp [intOf]; omega
    · go_wp2
      go_ret
      exact ⟨by
        have := HA.out
        rw [List.take_of_length_le (by omega)] at this
        rw [this]; rfl, rfl⟩
end Go.Proofs.YtejeppjmlgfiaaaGreat
