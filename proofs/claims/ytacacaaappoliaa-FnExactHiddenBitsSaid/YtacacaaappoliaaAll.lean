/- Contracts of 'all numbers fulfil something': over the library's IndexFunc and ContainsFunc, whatever the predicate; the reference's range test. Conditions: the lists are short. -/
import Derived.Test.YtacacaaappoliaaDig2
namespace Go.Proofs.Ytacacaaappoliaa
open Go.RowKit
set_option linter.unusedVariables false

/-- What is asked of the predicate, a function K with captured values caps: it answers p and leaves the world alone. -/
def PredAt (w : World) (K : Nat) (caps : List Value) (p : Int → Bool) (l : List Int) : Prop :=
  ∀ x, x ∈ l → Calls Try.prog K (Value.int .i64 x :: caps).toArray w fun e w' => e = .returned (.bool (p x)) ∧ w = w'

/-- Function K has a body: a call of it enters it. -/
def Enters (K : Nat) : Prop := ∀ (args : Array Value) (w : World), (callFunc K args).run Try.prog w = .ok (.enter K args) w
theorem enters_isLabel : Enters 38 := by intro args w; simp [callFunc, Try.func38]; kernel_rfl

def IdxPost (w : World) (b : Bool) (e : Ending) (w' : World) : Prop := ∃ r : Int, e = .returned (.int .i64 r) ∧ decide (0 ≤ r) = b ∧ w = w'

theorem c_slices_IndexFunc {v : Value} {l : List Int} {w : World} {q : Value} {p : Int → Bool} (h : Ints w v l) (hl : l.length ≤ 2097152)
    (hp : PredAt w 66 [q] (fun x => !p x) l) :
    Calls Try.prog 69 #[v, .func (.func 66) #[] #[q]] w (IdxPost w (!(l.all p))) := by
  obtain ⟨A, c, rfl, hlc, hcm, hrd⟩ := h
  have HP := Lib.hid hp
  clear hp
  go_enter Try.func69, Try.ntmps69
  go_wp2
  go_loop [8] (fun i => ∃ k : Nat, k ≤ l.length ∧ i = .int .i64 k ∧ (l.take k).all p = true) (fun i => l.length - (intOf i).toNat)
  case atStart => exact ⟨0, Nat.zero_le _, rfl, rfl⟩
  case round =>
    obtain ⟨k, hk, rfl, hall⟩ := hrel
    have HA := Lib.hid hall
    clear hall
    by_cases hlt : k < l.length
    · obtain ⟨b, o, x, rfl, hbl, hxk, hcell⟩ := hrd.int_at hlt
      have hmem : x ∈ l := List.mem_of_getElem? hxk
      have HT := Lib.hid (take_snoc hxk)
      clear hxk
      rcases hpx : p x with _ | _
      · go_wp2_with fail
        refine (HP.out x hmem).mono ?_
        rintro e w1 ⟨rfl, rfl⟩
        simp only [hpx]
        go_wp2
        go_ret
        exact ⟨_, rfl, by
          have : l.all p = false := by simpa using ⟨x, hmem, hpx⟩
          rw [this]; simp, rfl⟩
      · go_wp2_with fail
        refine (HP.out x hmem).mono ?_
        rintro e w1 ⟨rfl, rfl⟩
        simp only [hpx]
        go_wp2
        go_round
        case rel => exact ⟨k + 1, by omega, by go_num, by rw [HT.out, List.all_append, HA.out]; simp [hpx]⟩
        case measure => simp [intOf]; omega
    · go_wp2
      go_ret
      exact ⟨_, rfl, by
        have := HA.out
        rw [List.take_of_length_le (by omega)] at this
        rw [this]; decide, rfl⟩

theorem c_slices_ContainsFunc {v : Value} {l : List Int} {w : World} {q : Value} {p : Int → Bool} (h : Ints w v l) (hl : l.length ≤ 2097152)
    (hp : PredAt w 66 [q] (fun x => !p x) l) :
    Calls Try.prog 65 #[v, .func (.func 66) #[] #[q]] w fun e w' => e = .returned (.bool (!(l.all p))) ∧ w = w' := by
  have H := Lib.hid h
  have HP := Lib.hid hp
  clear hp
  obtain ⟨A, c, rfl, hlc, hcm, hrd⟩ := h
  go_enter Try.func65, Try.ntmps65
  go_wp2_with fail
  refine (c_slices_IndexFunc H.out hl HP.out).mono ?_
  rintro e w1 ⟨r, rfl, hr, rfl⟩
  go_wp2
  all_goals (go_ret; exact ⟨by rw [← hr]; simp [*], rfl⟩)

/-- The closure of areAll: not what the predicate says. -/
theorem c_areAll1 {w : World} {q : Addr} {K : Nat} {caps : List Value} {p : Int → Bool} {l : List Int} (hcf : Enters K) (hq : w.cell? q = some (.func (.func K) #[] caps.toArray)) (hp : PredAt w K caps p l) :
    PredAt w 66 [.pointer (some q)] (fun x => !p x) l := by
  intro x hx
  have hc := hp x hx
  have HC := Lib.hid hc
  clear hc hp
  show Calls Try.prog 66 #[.int .i64 x, .pointer (some q)] w _
  go_enter Try.func66, Try.ntmps66
  go_wp2_with fail
  rw [hcf, Oper.upon_enter]
  refine HC.out.mono ?_
  rintro e w1 ⟨rfl, rfl⟩
  go_wp2
  go_ret
  exact ⟨rfl, rfl⟩

theorem c_impl_areAll {v : Value} {l : List Int} {w : World} {K : Nat} {caps : List Value} {p : Int → Bool} (hcf : Enters K) (h : Ints w v l) (hl : l.length ≤ 2097152)
    (hp : ∀ W, Below w.heap.size w W → PredAt W K caps p l) :
    Calls Try.prog 60 #[v, .func (.func K) #[] caps.toArray] w fun e w' => e = .returned (.bool (l.all p)) ∧ Below w.heap.size w w' := by
  have H := Lib.hid h
  have HP := Lib.hid hp
  clear hp
  obtain ⟨A, c, rfl, hlc, hcm, hrd⟩ := h
  go_enter Try.func60, Try.ntmps60
  go_wp2_with fail
  refine (c_slices_ContainsFunc (p := p) (H.out.alloc _) hl (c_areAll1 hcf (cell_new w _ _) (HP.out _ ((Below.refl _ _).alloc (Nat.le_refl _) _)))).mono ?_
  rintro e w1 ⟨rfl, rfl⟩
  go_wp2
  go_ret
  exact ⟨by simp, (Below.refl _ _).alloc (Nat.le_refl _) _⟩

def allB (l : List Int) (lo hi : Int) : Bool := l.all fun x => inB x lo hi

theorem c_impl_areLabels {v : Value} {l : List Int} {w : World} (h : Ints w v l) (hl : l.length ≤ 2097152) :
    Calls Try.prog 56 #[v] w fun e w' => e = .returned (.bool (allB l 0 65535)) ∧ Below w.heap.size w w' := by
  have H := Lib.hid h
  obtain ⟨A, c, rfl, hlc, hcm, hrd⟩ := h
  go_enter Try.func56, Try.ntmps56
  go_wp2_with fail
  refine (c_impl_areAll (K := 38) (caps := []) (p := fun x => inB x 0 65535) enters_isLabel H.out hl (fun W _ x _ => c_impl_isLabel)).mono ?_
  rintro e w1 ⟨rfl, hb1⟩
  go_wp2
  go_ret
  exact ⟨rfl, hb1⟩

theorem c_spec_l1All {v : Value} {l : List Int} {w : World} {lo hi : Int} (h : Ints w v l) (hl : l.length ≤ 2097152) :
    Calls Try.prog 58 #[v, .int .i64 lo, .int .i64 hi] w fun e w' => e = .returned (.bool (allB l lo hi)) ∧ w = w' := by
  obtain ⟨A, c, rfl, hlc, hcm, hrd⟩ := h
  go_enter Try.func58, Try.ntmps58
  go_wp2
  go_loop [11] (fun i => ∃ k : Nat, k ≤ l.length ∧ i = .int .i64 k ∧ allB (l.take k) lo hi = true) (fun i => l.length - (intOf i).toNat)
  case atStart => exact ⟨0, Nat.zero_le _, rfl, rfl⟩
  case round =>
    obtain ⟨k, hk, rfl, hall⟩ := hrel
    have HA := Lib.hid hall
    clear hall
    by_cases hlt : k < l.length
    · obtain ⟨b, o, x, rfl, hbl, hxk, hcell⟩ := hrd.int_at hlt
      have hmem : x ∈ l := List.mem_of_getElem? hxk
      have HT := Lib.hid (take_snoc hxk)
      clear hxk
      rcases hpx : inB x lo hi with _ | _
      · go_wp2_with (go_at_call 40; refine (c_spec_l1In).mono ?_; rintro e w' ⟨rfl, rfl⟩)
        go_ret
        exact ⟨by
          have : allB l lo hi = false := by simpa [allB] using ⟨x, hmem, hpx⟩
          rw [this]; rfl, rfl⟩
      · go_wp2_with (go_at_call 40; refine (c_spec_l1In).mono ?_; rintro e w' ⟨rfl, rfl⟩)
        go_round
        case rel => exact ⟨k + 1, by omega, by go_num, by rw [HT.out]; have := HA.out; unfold allB at this ⊢; rw [List.all_append, this]; simp [hpx]⟩
        case measure => simp [intOf]; omega
    · go_wp2
      go_ret
      exact ⟨by
        have := HA.out
        rw [List.take_of_length_le (by omega)] at this
        rw [this]; rfl, rfl⟩
end Go.Proofs.Ytacacaaappoliaa
