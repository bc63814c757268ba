/- Contracts of the exported functions on single labels. They leave memory alone. No condition. -/
import Derived.Test.YtejeppjmlgfiaaaGreatMem
namespace Go.Proofs.YtejeppjmlgfiaaaGreat
open Go.RowKit
set_option linter.unusedVariables false

def colourM (l : Int) : Option Int := if inB l 0 65535 then some (l % 2) else none
def labelM (z r b : Int) : Option Int := if inB z 0 65535 && offB r && inB b 0 1 then some (xorI z (r * b)) else none
def bitM (z r l : Int) : Option Int := if inB z 0 65535 && offB r then (if l = z then some 0 else if l = xorI z r then some 1 else none) else none
def freeXorM (x y : Int) : Option Int := if inB x 0 65535 && inB y 0 65535 then some (xorI x y) else none

theorem offB_bd {r : Int} (h : offB r = true) : 0 ≤ r ∧ r ≤ 65535 ∧ r % 2 = 1 := by
  simp [offB] at h; exact ⟨(inB_bd h.1).1, (inB_bd h.1).2, h.2⟩

theorem c_impl_labelOf {z r b : Int} {w : World} (hz : 0 ≤ z ∧ z ≤ 65535) (hr : 0 ≤ r ∧ r ≤ 65535) (hb : b = 0 ∨ b = 1) :
    Calls Tryz.prog 83 #[.int .i64 z, .int .i64 r, .int .i64 b] w fun e w' => e = .returned (.int .i64 (xorI z (r * b))) ∧ w = w' := by
  rcases hb with rfl | rfl
  · have hx := bits_xor hz.1 (show (0 : Int) ≤ 0 by omega) (by omega) (by omega)
    go_enter Tryz.func83, Tryz.ntmps83
    go_wp2
    go_ret; exact ⟨by simp [*], rfl⟩
  · have hx := bits_xor hz.1 hr.1 (by omega) (by omega)
    go_enter Tryz.func83, Tryz.ntmps83
    go_wp2
    go_ret; exact ⟨by simp [*], rfl⟩
theorem bit_of {b : Int} (h : inB b 0 1 = true) : b = 0 ∨ b = 1 := by have := inB_bd h; omega
theorem c_impl_BitOf {z r l : Int} {w : World} : Calls Tryz.prog 96 #[.int .i64 z, .int .i64 r, .int .i64 l] w fun e w' => e = .returned (.tuple #[.int .i64 (oV (bitM z r l)), .bool (oB (bitM z r l))]) ∧ w = w' := by
  rcases h1 : inB z 0 65535 with _ | _ <;> rcases h2 : offB r with _ | _
  case true.true =>
    have hx := bits_xor (inB_bd h1).1 (offB_bd h2).1 (by have := inB_bd h1; omega) (by have := offB_bd h2; omega)
    by_cases e1 : l = z
    · subst e1
      have hm : bitM l r l = some 0 := by simp [bitM, h1, h2]
      have b1 : (l != l) = false := by simp
      go_enter Tryz.func96, Tryz.ntmps96
      go_wp2_with (first | (go_at_call 114; refine (c_impl_isLabel).mono ?_; rintro e w' ⟨rfl, rfl⟩) | (go_at_call 81; refine (c_impl_isOffset).mono ?_; rintro e w' ⟨rfl, rfl⟩) | (go_at_call 149; go_in))
      go_ret2; exact ⟨by rw [hm]; rfl, rfl⟩
    · have b1 : (l != z) = true := by simpa using e1
      by_cases e2 : l = xorI z r
      · have b2 : (l != xorI z r) = false := by simpa using e2
        have hm := Lib.hid (show bitM z r l = some 1 by simp only [bitM, h1, h2, Bool.and_self, if_true]; rw [if_neg e1, if_pos e2])
        clear e2
        go_enter Tryz.func96, Tryz.ntmps96
        go_wp2_with (first | (go_at_call 114; refine (c_impl_isLabel).mono ?_; rintro e w' ⟨rfl, rfl⟩) | (go_at_call 81; refine (c_impl_isOffset).mono ?_; rintro e w' ⟨rfl, rfl⟩) | (go_at_call 149; go_in))
        go_ret2; exact ⟨by rw [hm.out]; rfl, rfl⟩
      · have b2 : (l != xorI z r) = true := by simpa using e2
        have hm := Lib.hid (show bitM z r l = none by simp [bitM, h1, h2, e1, e2])
        go_enter Tryz.func96, Tryz.ntmps96
        go_wp2_with (first | (go_at_call 114; refine (c_impl_isLabel).mono ?_; rintro e w' ⟨rfl, rfl⟩) | (go_at_call 81; refine (c_impl_isOffset).mono ?_; rintro e w' ⟨rfl, rfl⟩) | (go_at_call 149; go_in))
        go_ret2; exact ⟨by rw [hm.out]; rfl, rfl⟩
  all_goals
    go_enter Tryz.func96, Tryz.ntmps96
    go_wp2_with (first | (go_at_call 114; refine (c_impl_isLabel).mono ?_; rintro e w' ⟨rfl, rfl⟩) | (go_at_call 81; refine (c_impl_isOffset).mono ?_; rintro e w' ⟨rfl, rfl⟩))
    all_goals (go_ret2; exact ⟨by simp [bitM, oV, oB, *], rfl⟩)
end Go.Proofs.YtejeppjmlgfiaaaGreat
