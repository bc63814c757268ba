/- Plain facts on labels: both labels of a wire have different colours and are told apart; exclusive-or is undone. -/
import Derived.Test.YtejeppjmlgfiaaaGreatLabG
namespace Go.Proofs.YtejeppjmlgfiaaaGreat
set_option linter.unusedVariables false

theorem xorI_toNat (a b : Int) : (xorI a b).toNat = a.toNat ^^^ b.toNat := by unfold xorI; exact Int.toNat_natCast _
theorem xorI_comm (a b : Int) : xorI a b = xorI b a := by unfold xorI; rw [Nat.xor_comm]
theorem xorI_assoc (a b c : Int) : xorI (xorI a b) c = xorI a (xorI b c) := by
  show ((_ : Nat) : Int) = ((_ : Nat) : Int)
  rw [xorI_toNat, xorI_toNat, Nat.xor_assoc]
theorem xorI_self (a : Int) : xorI a a = 0 := by unfold xorI; rw [Nat.xor_self]; rfl
theorem xorI_back {a b : Int} (ha : 0 ≤ a) : xorI (xorI a b) b = a := by rw [xorI_assoc, xorI_self, xorI_zero ha]
theorem xorI_left {a b : Int} (hb : 0 ≤ b) : xorI a (xorI a b) = b := by
  rw [← xorI_assoc, xorI_self, xorI_comm, xorI_zero hb]
theorem xorI_mod2 {a b : Int} (ha : 0 ≤ a) (hb : 0 ≤ b) : xorI a b % 2 = (a + b) % 2 := by
  obtain ⟨m, rfl⟩ := Int.eq_ofNat_of_zero_le ha
  obtain ⟨n, rfl⟩ := Int.eq_ofNat_of_zero_le hb
  unfold xorI
  rw [Int.toNat_natCast, Int.toNat_natCast]
  have h := Nat.xor_mod_two_pow (a := m) (b := n) (n := 1)
  have h1 : m % 2 = 0 ∨ m % 2 = 1 := by omega
  have h2 : n % 2 = 0 ∨ n % 2 = 1 := by omega
  simp only [Nat.pow_one] at h
  rcases h1 with h1 | h1 <;> rcases h2 with h2 | h2 <;> rw [h1, h2] at h <;> (first | change (m ^^^ n) % 2 = 0 at h | change (m ^^^ n) % 2 = 1 at h) <;> omega
theorem xorI_ne {a b : Int} (ha : 0 ≤ a) (hb : 0 ≤ b) (h : b % 2 = 1) : ¬ xorI a b = a := by
  intro e
  have h1 := xorI_mod2 ha hb
  rw [e] at h1
  omega
/-- What LabelOf's result says. -/
theorem labelM_of {z r b : Int} (h : (labelM z r b).isSome = true) : (0 ≤ z ∧ z ≤ 65535) ∧ (0 ≤ r ∧ r ≤ 65535 ∧ r % 2 = 1) ∧ (b = 0 ∨ b = 1) ∧ labelM z r b = some (xorI z (r * b)) := by
  unfold labelM at h ⊢
  split at h
  · rename_i hc
    simp only [Bool.and_eq_true] at hc
    have h1 := inB_bd hc.1.1
    have h2 := offB_bd hc.1.2
    have h3 := bit_of hc.2
    refine ⟨h1, h2, h3, ?_⟩
    rw [if_pos (by simp only [Bool.and_eq_true]; exact hc)]
  · cases h
section
variable {z r b : Int}
theorem offB_mk (h : 0 ≤ r ∧ r ≤ 65535 ∧ r % 2 = 1) : offB r = true := by unfold offB; rw [inB_mk h.1 h.2.1]; simp [h.2.2]
theorem lab_other (hz : 0 ≤ z ∧ z ≤ 65535) (hr : 0 ≤ r ∧ r ≤ 65535 ∧ r % 2 = 1) (hb : b = 0 ∨ b = 1) : labelM z r (1 - b) = some (xorI z (r * (1 - b))) := by
  unfold labelM
  rw [inB_mk hz.1 hz.2, offB_mk hr, inB_mk (by omega) (by omega)]; rfl
theorem rb_bd (hr : 0 ≤ r ∧ r ≤ 65535 ∧ r % 2 = 1) (hb : b = 0 ∨ b = 1) : 0 ≤ r * b ∧ r * b ≤ 65535 := by rcases hb with rfl | rfl <;> omega
theorem lab_bd (hz : 0 ≤ z ∧ z ≤ 65535) (hr : 0 ≤ r ∧ r ≤ 65535 ∧ r % 2 = 1) (hb : b = 0 ∨ b = 1) : 0 ≤ xorI z (r * b) ∧ xorI z (r * b) ≤ 65535 := by
  have := rb_bd hr hb; exact xorI_bd hz.1 this.1 hz.2 this.2
theorem lab_colour (hz : 0 ≤ z ∧ z ≤ 65535) (hr : 0 ≤ r ∧ r ≤ 65535 ∧ r % 2 = 1) (hb : b = 0 ∨ b = 1) : colourM (xorI z (r * b)) = some (xorI z (r * b) % 2) := by
  have := lab_bd hz hr hb
  unfold colourM; rw [inB_mk this.1 this.2]; rfl
theorem lab_colours (hz : 0 ≤ z ∧ z ≤ 65535) (hr : 0 ≤ r ∧ r ≤ 65535 ∧ r % 2 = 1) (hb : b = 0 ∨ b = 1) : xorI z (r * b) % 2 + xorI z (r * (1 - b)) % 2 = 1 := by
  have h1 := xorI_mod2 hz.1 (rb_bd hr hb).1
  have h2 := xorI_mod2 (b := r * (1 - b)) hz.1 (by rcases hb with rfl | rfl <;> omega)
  rcases hb with rfl | rfl <;> simp only [Int.mul_zero, Int.mul_one, Int.sub_zero, Int.sub_self] at h1 h2 ⊢ <;> omega
theorem lab_bit (hz : 0 ≤ z ∧ z ≤ 65535) (hr : 0 ≤ r ∧ r ≤ 65535 ∧ r % 2 = 1) (hb : b = 0 ∨ b = 1) : bitM z r (xorI z (r * b)) = some b := by
  unfold bitM
  rw [inB_mk hz.1 hz.2, offB_mk hr]
  rcases hb with rfl | rfl
  · rw [Int.mul_zero, xorI_zero hz.1]; simp
  · rw [Int.mul_one, if_neg (xorI_ne hz.1 hr.1 hr.2.2)]; simp
theorem lab_not (hz : 0 ≤ z ∧ z ≤ 65535) (hr : 0 ≤ r ∧ r ≤ 65535 ∧ r % 2 = 1) : labelM z r 1 = some (xorI z r) := by
  have := lab_other (b := 0) hz hr (.inl rfl)
  simpa using this
theorem lab_bit_not (hz : 0 ≤ z ∧ z ≤ 65535) (hr : 0 ≤ r ∧ r ≤ 65535 ∧ r % 2 = 1) (hb : b = 0 ∨ b = 1) : bitM (xorI z r) r (xorI z (r * b)) = some (1 - b) := by
  have hx := xorI_bd hz.1 hr.1 hz.2 hr.2.1
  unfold bitM
  rw [inB_mk hx.1 hx.2, offB_mk hr]
  rcases hb with rfl | rfl
  · rw [Int.mul_zero, xorI_zero hz.1, if_neg (show ¬ z = xorI z r from fun e => xorI_ne hz.1 hr.1 hr.2.2 e.symm), xorI_back hz.1]; simp
  · rw [Int.mul_one]; simp
theorem lab_xor (hz : 0 ≤ z ∧ z ≤ 65535) (hr : 0 ≤ r ∧ r ≤ 65535 ∧ r % 2 = 1) (hb : b = 0 ∨ b = 1) : freeXorM (xorI z (r * b)) (xorI z (r * (1 - b))) = some r := by
  have h1 := lab_bd hz hr hb
  have h2 := lab_bd (b := 1 - b) hz hr (by omega)
  unfold freeXorM
  rw [inB_mk h1.1 h1.2, inB_mk h2.1 h2.2]
  rcases hb with rfl | rfl
  · simp only [Int.mul_zero, Int.sub_zero, Int.mul_one]
    rw [xorI_zero hz.1, xorI_left hr.1]; rfl
  · simp only [Int.mul_zero, Int.sub_self, Int.mul_one]
    rw [xorI_zero hz.1, xorI_comm (xorI z r) z, xorI_left hr.1]; rfl
end
end Go.Proofs.YtejeppjmlgfiaaaGreat
