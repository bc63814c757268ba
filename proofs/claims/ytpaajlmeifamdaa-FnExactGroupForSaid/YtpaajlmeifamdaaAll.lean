/- Contracts of 'all numbers fulfil something': over the library's IndexFunc and ContainsFunc, whatever the predicate; the reference's range test. Conditions: the lists are short. -/
import Derived.Test.YtpaajlmeifamdaaMem
namespace Go.Proofs.Ytpaajlmeifamdaa
open Go.RowKit
set_option linter.unusedVariables false

/-- What is asked of the predicate, a function K with captured values caps: it answers p and leaves the world alone. -/
def PredAt (w : World) (K : Nat) (caps : List Value) (p : Int → Bool) (l : List Int) : Prop :=
  ∀ x, x ∈ l → Calls Try.prog K (Value.int .i64 x :: caps).toArray w fun e w' => e = .returned (.bool (p x)) ∧ w = w'

def IdxPost (w : World) (b : Bool) (e : Ending) (w' : World) : Prop := ∃ r : Int, e = .returned (.int .i64 r) ∧ decide (0 ≤ r) = b ∧ w = w'

def allB (l : List Int) (lo hi : Int) : Bool := l.all fun x => inB x lo hi

theorem c_spec_l1All {v : Value} {l : List Int} {w : World} {lo hi : Int} (h : Ints w v l) (hl : l.length ≤ 2097152) :
    Calls Try.prog 63 #[v, .int .i64 lo, .int .i64 hi] w fun e w' => e = .returned (.bool (allB l lo hi)) ∧ w = w' := by
  obtain ⟨A, c, rfl, hlc, hcm, hrd⟩ := h
  go_enter Try.func63, Try.ntmps63
  go_wp2
  go_loop [11] (fun i => ∃ k : Nat, k ≤ l.length ∧ i = .int .i64 k ∧ allB (l.take k) lo hi = true) (fun i => l.length - (intOf i).toNat)
  case atStart => exact ⟨0, Nat.zero_le _, rfl, rfl⟩
  case round =>
    obtain ⟨k, hk, rfl, hall⟩ := hrel
    have HA := Lib.hid hall
    clear hall
    by_cases hlt : k < l.length
    · obtain ⟨b, o, x, rfl, hbl, hxk, hcell⟩ := hrd.int_at hlt
      have hmem : x ∈ l := List.mem_of_getElem? hxk
      have HT := Lib.hid (take_snoc hxk)
      clear hxk
      rcases hpx : inB x lo hi with _ | _
      · go_wp2_with (go_at_call 47; refine (c_spec_l1In).mono ?_; rintro e w' ⟨rfl, rfl⟩)
        go_ret
        exact ⟨by
          have : allB l lo hi = false := by simpa [allB] using ⟨x, hmem, hpx⟩
          rw [this]; rfl, rfl⟩
      · go_wp2_with (go_at_call 47; refine (c_spec_l1In).mono ?_; rintro e w' ⟨rfl, rfl⟩)
        go_round
        case rel => exact ⟨k + 1, by omega, by go_num, by rw [HT.out]; have := HA.out; unfold allB at this ⊢; rw [List.all_append, this]; simp [hpx]⟩
        case measure => simp [intOf]; omega
    · go_wp2
      go_ret
      exact ⟨by
        have := HA.out
        rw [List.take_of_length_le (by omega)] at this
        rw [this]; rfl, rfl⟩
end Go.Proofs.Ytpaajlmeifamdaa
