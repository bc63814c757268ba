/- Contracts of the group of a modulus. Condition: the modulus is a prime of the range, the group's numbers are as said. -/
import Derived.Test.YtpaajlmeifamdaaGrp2
import Derived.Test.YtpaajlmeifamdaaFermat
import Derived.Test.YtpaajlmeifamdaaGrpF
namespace Go.Proofs.Ytpaajlmeifamdaa
open Go.RowKit
set_option linter.unusedVariables false

/-- Q is the greatest prime that divides p - 1. -/
def TopQ (p Q : Int) : Prop := PrimeP Q ∧ Q ≤ p - 1 ∧ (p - 1) % Q = 0 ∧ ∀ q, Q < q → q ≤ p - 1 → ¬ (PrimeP q ∧ (p - 1) % q = 0)
/-- G is the least number from 2 on whose power is 1. -/
def LeastG (p Q G : Int) : Prop := 2 ≤ G ∧ G ≤ p - 1 ∧ powM p G Q = 1 ∧ ∀ g, 2 ≤ g → g < G → ¬ powM p g Q = 1
theorem top_exists {p : Int} (h : modB p = true) : ∃ Q, TopQ p Q := by
  have hb := modB_bd h
  obtain ⟨q, hq, hq1, hq2⟩ := prime_divisor (p - 1).toNat (by omega)
  rw [Int.toNat_of_nonneg (by omega)] at hq1 hq2
  have h2 := hq.1
  obtain ⟨m, hm, hmin⟩ := least_of (p := fun k : Nat => PrimeP (p - 1 - k) ∧ (p - 1) % (p - 1 - k) = 0) (p - 1 - q).toNat (by
    rw [Int.toNat_of_nonneg (by omega)]
    have e : p - 1 - (p - 1 - q) = q := by omega
    rw [e]; exact ⟨hq, hq2⟩)
  refine ⟨p - 1 - m, hm.1, by omega, hm.2, fun q' h1 h3 h4 => hmin (p - 1 - q').toNat (by omega) ?_⟩
  rw [Int.toNat_of_nonneg (by omega)]
  have e : p - 1 - (p - 1 - q') = q' := by omega
  rw [e]; exact h4
theorem leastG_exists {p Q : Int} (h : modB p = true) (hq : TopQ p Q) : ∃ G, LeastG p Q G := by
  have hb := modB_bd h
  have hp : PrimeP p := by simp only [modB, Bool.and_eq_true] at h; exact primeB_iff.1 h.2
  obtain ⟨g, h1, h2, h3⟩ := gen_exists hp hq.1 hq.2.2.1
  obtain ⟨m, hm, hmin⟩ := least_of (p := fun k : Nat => 2 ≤ (k : Int) ∧ powM p k Q = 1) g.toNat (by
    rw [Int.toNat_of_nonneg (by omega)]; exact ⟨h1, h3⟩)
  refine ⟨m, hm.1, ?_, hm.2, fun g' h4 h5 h6 => hmin g'.toNat (by omega) (by rw [Int.toNat_of_nonneg (by omega)]; exact ⟨h4, h6⟩)⟩
  rcases Int.lt_or_le (p - 1) m with h7 | h7
  · exact absurd ⟨by rw [Int.toNat_of_nonneg (by omega)]; exact h1, by rw [Int.toNat_of_nonneg (by omega)]; exact h3⟩ (hmin g.toNat (by omega))
  · exact h7

theorem c_impl_GroupFor_no {p : Int} {w : World} (h : modB p = false) : Calls Try.prog 39 #[.int .i64 p] w fun e w' => e = .returned (.tuple #[.agg #[.int .i64 0, .int .i64 0, .int .i64 0], .bool false]) ∧ Below w.heap.size w w' := by
  go_enter Try.func39, Try.ntmps39
  go_wp2_with (go_at_call 42; refine (c_impl_isModulus).mono ?_; rintro e w' ⟨rfl, rfl⟩)
  refine bodyPost_ret (v := .tuple #[.agg #[.int .i64 0, .int .i64 0, .int .i64 0], .bool false]) (by simp [results, Try.results39, go_sem]) rfl ⟨rfl, ?_⟩
  exact (Below.refl _ _).alloc (Nat.le_refl _) _
theorem c_impl_GroupFor {p Q G : Int} {w : World} (h : modB p = true) (hq : TopQ p Q) (hg : LeastG p Q G) : Calls Try.prog 39 #[.int .i64 p] w fun e w' => e = .returned (.tuple #[.agg #[.int .i64 p, .int .i64 Q, .int .i64 G], .bool true]) ∧ Below w.heap.size w w' := by
  have hb := modB_bd h
  have HQ := Lib.hid hq
  have HG := Lib.hid hg
  have hq2 := hq.1.1
  have hq1 := hq.2.1
  clear hq hg
  go_enter Try.func39, Try.ntmps39
  go_wp2_with (go_at_call 42; refine (c_impl_isModulus).mono ?_; rintro e w' ⟨rfl, rfl⟩)
  have HBk1 := Lib.hid ((Blk.new w 25 #[.int .i64 0, .int .i64 0, .int .i64 0]).alloc (.cells #[.int .i64 p, .int .i64 (p - 1), .int .i64 2] 25))
  have HBk2 := Lib.hid (Blk.new (w.alloc (.cells #[.int .i64 0, .int .i64 0, .int .i64 0] 25)) 25 #[.int .i64 p, .int .i64 (p - 1), .int .i64 2])
  have HBe := Lib.hid (((Below.refl w.heap.size w).alloc (Nat.le_refl _) (.cells #[.int .i64 0, .int .i64 0, .int .i64 0] 25)).alloc (by simp) (.cells #[.int .i64 p, .int .i64 (p - 1), .int .i64 2] 25))
  go_loopw [] (fun wr => ∃ q : Int, Q ≤ q ∧ q ≤ p - 1 ∧ Hid (Blk wr w.heap.size 25 #[.int .i64 0, .int .i64 0, .int .i64 0]) ∧ Hid (Blk wr (w.heap.size + 1) 25 #[.int .i64 p, .int .i64 q, .int .i64 2]) ∧ Hid (Below w.heap.size w wr)) (fun wr => cellN wr ⟨w.heap.size + 1, 1, none⟩)
  case atStart => exact ⟨p - 1, by omega, Int.le_refl _, HBk1, show Blk _ _ _ _ by have := HBk2.out; simpa using this, HBe⟩
  case round =>
    obtain ⟨q, hq3, hq4, HK1, HK2, HB⟩ := hrel
    clear HBk1 HBk2 HBe
    have c0 : wr.cell? ⟨w.heap.size + 1, 0, none⟩ = some (.int .i64 p) := HK2.out.cell 0
    have c1 : wr.cell? ⟨w.heap.size + 1, 1, none⟩ = some (.int .i64 q) := HK2.out.cell 1
    have c2 : wr.cell? ⟨w.heap.size + 1, 2, none⟩ = some (.int .i64 2) := HK2.out.cell 2
    have f1 : wr.frozen? ⟨w.heap.size + 1, 1, none⟩ = false := HK2.out.free 1
    have hqz : ¬ q = 0 := by omega
    by_cases hqQ : q = Q
    · have u1 : uptoB q p = true := by rw [hqQ]; simp only [uptoB, primeB_iff.2 HQ.out.1, inB_mk hq2 (show Q ≤ p by omega)]; rfl
      have u2 : ((p - 1) % q != 0) = false := by rw [hqQ]; simp [HQ.out.2.2.1]
      have HE := Lib.hid hqQ
      clear hqQ
      go_wp2_with (go_at_call 43; refine (k_impl_isPrimeUpTo (by omega)).mono ?_; rintro e w' ⟨rfl, rfl⟩)
      have HMin : Hid (∀ g, 2 ≤ g → g < G → ¬ powM p g q = 1) := fun g h1 h2 => by rw [HE.out]; exact HG.out.2.2.2 g h1 h2
      have HOne : Hid (powM p G q = 1) := by rw [HE.out]; exact HG.out.2.2.1
      have hg2 : 2 ≤ G ∧ G ≤ p - 1 := ⟨HG.out.1, HG.out.2.1⟩
      clear c0 c1 c2 f1 u1 u2
      obtain ⟨wo, rfl⟩ : ∃ wo : World, wo = wr := ⟨_, rfl⟩
      go_loopw [] (fun wr => ∃ g : Int, 2 ≤ g ∧ g ≤ G ∧ Hid (Blk wr w.heap.size 25 #[.int .i64 0, .int .i64 0, .int .i64 0]) ∧ Hid (Blk wr (w.heap.size + 1) 25 #[.int .i64 p, .int .i64 q, .int .i64 g]) ∧ Hid (Below w.heap.size w wr)) (fun wr => G.toNat - cellN wr ⟨w.heap.size + 1, 2, none⟩)
      case atStart => exact ⟨2, Int.le_refl _, hg2.1, HK1, HK2, HB⟩
      case round =>
        clear HK1 HK2 HB
        obtain ⟨g, hg3, hg4, HK1, HK2, HB⟩ := hrel
        have c0 : wr.cell? ⟨w.heap.size + 1, 0, none⟩ = some (.int .i64 p) := HK2.out.cell 0
        have c1 : wr.cell? ⟨w.heap.size + 1, 1, none⟩ = some (.int .i64 q) := HK2.out.cell 1
        have c2 : wr.cell? ⟨w.heap.size + 1, 2, none⟩ = some (.int .i64 g) := HK2.out.cell 2
        have f2 : wr.frozen? ⟨w.heap.size + 1, 2, none⟩ = false := HK2.out.free 2
        by_cases hgG : g = G
        · have v1 : (powM p g q != 1) = false := by rw [hgG, HOne.out]; rfl
          have d0 : wr.cell? ⟨w.heap.size, 0, none⟩ = some (.int .i64 0) := HK1.out.cell 0
          have d1 : wr.cell? ⟨w.heap.size, 1, none⟩ = some (.int .i64 0) := HK1.out.cell 1
          have d2 : wr.cell? ⟨w.heap.size, 2, none⟩ = some (.int .i64 0) := HK1.out.cell 2
          have e0 : wr.frozen? ⟨w.heap.size, 0, none⟩ = false := HK1.out.free 0
          have e1 : wr.frozen? ⟨w.heap.size, 1, none⟩ = false := HK1.out.free 1
          have e2 : wr.frozen? ⟨w.heap.size, 2, none⟩ = false := HK1.out.free 2
          have HG2 := Lib.hid hgG
          clear hgG
          go_wp2_with (go_at_call 45; refine (c_impl_power (by omega) (by omega) (by omega)).mono ?_; rintro e w' ⟨rfl, rfl⟩)
          have HF : Blk (((wr.setCell ⟨w.heap.size, 0, none⟩ (.int .i64 p)).setCell ⟨w.heap.size, 1, none⟩ (.int .i64 q)).setCell ⟨w.heap.size, 2, none⟩ (.int .i64 g)) w.heap.size 25 #[.int .i64 p, .int .i64 q, .int .i64 g] := ((HK1.out.set_ 0 _).set_ 1 _).set_ 2 _
          have k0 := HF.cell 0
          have k1 := HF.cell 1
          have k2 := HF.cell 2
          refine bodyPost_ret (v := .tuple #[.agg #[.int .i64 p, .int .i64 q, .int .i64 g], .bool true]) (by simp [results, Try.results39, go_sem, k0, k1, k2]) rfl ⟨?_, ?_⟩
          · rw [← HE.out, ← HG2.out]
          · exact ((HB.out.setCell (p := ⟨w.heap.size, 0, none⟩) (Nat.le_refl _) _).setCell (p := ⟨w.heap.size, 1, none⟩) (Nat.le_refl _) _).setCell (p := ⟨w.heap.size, 2, none⟩) (Nat.le_refl _) _
        · have v1 : (powM p g q != 1) = true := by simpa using HMin.out g hg3 (by omega)
          have HN1 := Lib.hid ((HK1.out.far (p := ⟨w.heap.size + 1, 2, none⟩) (by simp) (.int .i64 (g + 1))))
          have HN2 : Hid (Blk (wr.setCell ⟨w.heap.size + 1, 2, none⟩ (.int .i64 (g + 1))) (w.heap.size + 1) 25 #[.int .i64 p, .int .i64 q, .int .i64 (g + 1)]) := HK2.out.set_ 2 _
          have HN3 := Lib.hid (HB.out.setCell (p := ⟨w.heap.size + 1, 2, none⟩) (by simp) (.int .i64 (g + 1)))
          go_wp2_with (go_at_call 45; refine (c_impl_power (by omega) (by omega) (by omega)).mono ?_; rintro e w' ⟨rfl, rfl⟩)
          go_roundw
          case rel => exact ⟨g + 1, by omega, by omega, HN1, HN2, HN3⟩
          case measure => rw [cellN_of (HN2.out.cell 2), cellN_of c2]; omega
    · have hne : ¬ (PrimeP q ∧ (p - 1) % q = 0) := HQ.out.2.2.2 q (by omega) hq4
      have HN1 := Lib.hid ((HK1.out.far (p := ⟨w.heap.size + 1, 1, none⟩) (by simp) (.int .i64 (q - 1))))
      have HN2 : Hid (Blk (wr.setCell ⟨w.heap.size + 1, 1, none⟩ (.int .i64 (q - 1))) (w.heap.size + 1) 25 #[.int .i64 p, .int .i64 (q - 1), .int .i64 2]) := HK2.out.set_ 1 _
      have HN3 := Lib.hid (HB.out.setCell (p := ⟨w.heap.size + 1, 1, none⟩) (by simp) (.int .i64 (q - 1)))
      rcases u1 : uptoB q p with _ | _
      · go_wp2_with (go_at_call 43; refine (k_impl_isPrimeUpTo (by omega)).mono ?_; rintro e w' ⟨rfl, rfl⟩)
        go_roundw
        case rel => exact ⟨q - 1, by omega, by omega, HN1, HN2, HN3⟩
        case measure => rw [cellN_of (HN2.out.cell 1), cellN_of c1]; omega
      · have u2 : ((p - 1) % q != 0) = true := by
          simp only [uptoB, Bool.and_eq_true] at u1
          simpa using fun e => hne ⟨primeB_iff.1 u1.2, e⟩
        clear hne
        go_wp2_with (go_at_call 43; refine (k_impl_isPrimeUpTo (by omega)).mono ?_; rintro e w' ⟨rfl, rfl⟩)
        go_roundw
        case rel => exact ⟨q - 1, by omega, by omega, HN1, HN2, HN3⟩
        case measure => rw [cellN_of (HN2.out.cell 1), cellN_of c1]; omega

set_option maxHeartbeats 400000 in
theorem c_spec_grFor {p Q G : Int} {w : World} (h : modB p = true) (hq : TopQ p Q) (hg : LeastG p Q G) : Calls Try.prog 60 #[.int .i64 p] w fun e w' => e = .returned (.agg #[.int .i64 p, .int .i64 Q, .int .i64 G]) ∧ Below w.heap.size w w' := by
  have hb := modB_bd h
  have HQ := Lib.hid hq
  have HG := Lib.hid hg
  have hq2 := hq.1.1
  have hq1 := hq.2.1
  clear hq hg h
  go_enter Try.func60, Try.ntmps60
  go_wp2_with fail
  have HBk1 := Lib.hid ((Blk.new w 25 #[.int .i64 0, .int .i64 0, .int .i64 0]).alloc (.cells #[.int .i64 p, .int .i64 0, .int .i64 0] 25))
  have HBk2 := Lib.hid (Blk.new (w.alloc (.cells #[.int .i64 0, .int .i64 0, .int .i64 0] 25)) 25 #[.int .i64 p, .int .i64 0, .int .i64 0])
  have HBe := Lib.hid (((Below.refl w.heap.size w).alloc (Nat.le_refl _) (.cells #[.int .i64 0, .int .i64 0, .int .i64 0] 25)).alloc (by simp) (.cells #[.int .i64 p, .int .i64 0, .int .i64 0] 25))
  go_loopw [4] (fun x wr => ∃ q t : Int, x = .int .i64 q ∧ 2 ≤ q ∧ q ≤ p ∧ Hid (Q < q → t = Q) ∧ Hid (Blk wr w.heap.size 25 #[.int .i64 0, .int .i64 0, .int .i64 0]) ∧ Hid (Blk wr (w.heap.size + 1) 25 #[.int .i64 p, .int .i64 t, .int .i64 0]) ∧ Hid (Below w.heap.size w wr)) (fun x _ => (p - intOf x).toNat)
  case atStart => exact ⟨2, 0, rfl, Int.le_refl _, by omega, fun h => by omega, HBk1, show Blk _ _ _ _ by have := HBk2.out; simpa using this, HBe⟩
  case round =>
    obtain ⟨q, t, rfl, hq3, hq4, HT, HK1, HK2, HB⟩ := hrel
    clear HBk1 HBk2 HBe
    have c0 : wr.cell? ⟨w.heap.size + 1, 0, none⟩ = some (.int .i64 p) := HK2.out.cell 0
    have c1 : wr.cell? ⟨w.heap.size + 1, 1, none⟩ = some (.int .i64 t) := HK2.out.cell 1
    have c2 : wr.cell? ⟨w.heap.size + 1, 2, none⟩ = some (.int .i64 0) := HK2.out.cell 2
    have f1 : wr.frozen? ⟨w.heap.size + 1, 1, none⟩ = false := HK2.out.free 1
    have hqz : ¬ q = 0 := by omega
    by_cases hlt : q < p
    · have HN1 := Lib.hid ((HK1.out.far (p := ⟨w.heap.size + 1, 1, none⟩) (by simp) (.int .i64 q)))
      have HN2 : Hid (Blk (wr.setCell ⟨w.heap.size + 1, 1, none⟩ (.int .i64 q)) (w.heap.size + 1) 25 #[.int .i64 p, .int .i64 q, .int .i64 0]) := HK2.out.set_ 1 _
      have HN3 := Lib.hid (HB.out.setCell (p := ⟨w.heap.size + 1, 1, none⟩) (by simp) (.int .i64 q))
      by_cases hyes : (p - 1) % q = 0 ∧ primeB q = true
      · have u1 : ((p - 1) % q == 0) = true := by simpa using hyes.1
        have u2 := hyes.2
        have HT2 : Hid (Q < q + 1 → q = Q) := fun hlt2 => by
          rcases Int.lt_or_le Q q with h1 | h1
          · exact absurd ⟨primeB_iff.1 hyes.2, hyes.1⟩ (HQ.out.2.2.2 q h1 (by omega))
          · omega
        clear hyes
        go_wp2_with (go_at_call 59; refine (c_spec_grPrime (by omega)).mono ?_; rintro e w' ⟨rfl, rfl⟩)
        go_roundw
        case rel => exact ⟨q + 1, q, rfl, by omega, by omega, HT2, HN1, HN2, HN3⟩
        case measure => simp [intOf]; omega
      · have HT2 : Hid (Q < q + 1 → t = Q) := fun hlt2 => by
          rcases Int.lt_or_le Q q with h1 | h1
          · exact HT.out h1
          · have : q = Q := by omega
            exact absurd ⟨by rw [this]; exact HQ.out.2.2.1, by rw [this]; exact primeB_iff.2 HQ.out.1⟩ hyes
        by_cases hm : (p - 1) % q = 0
        · have u1 : ((p - 1) % q == 0) = true := by simpa using hm
          have u2 : primeB q = false := by
            rcases hpb : primeB q with _ | _
            · rfl
            · exact absurd ⟨hm, hpb⟩ hyes
          clear hyes hm
          go_wp2_with (go_at_call 59; refine (c_spec_grPrime (by omega)).mono ?_; rintro e w' ⟨rfl, rfl⟩)
          go_roundw
          case rel => exact ⟨q + 1, t, rfl, by omega, by omega, HT2, HK1, HK2, HB⟩
          case measure => simp [intOf]; omega
        · have u1 : ((p - 1) % q == 0) = false := by simpa using hm
          clear hyes hm
          go_wp2_with fail
          go_roundw
          case rel => exact ⟨q + 1, t, rfl, by omega, by omega, HT2, HK1, HK2, HB⟩
          case measure => simp [intOf]; omega
    · have HE : Hid (t = Q) := HT.out (by omega)
      have HMin : Hid (∀ g, 2 ≤ g → g < G → ¬ powM p g t = 1) := fun g h1 h2 => by rw [HE.out]; exact HG.out.2.2.2 g h1 h2
      have HOne : Hid (powM p G t = 1) := by rw [HE.out]; exact HG.out.2.2.1
      have hg2 : 2 ≤ G ∧ G ≤ p - 1 := ⟨HG.out.1, HG.out.2.1⟩
      have ht0 : 2 ≤ t ∧ t ≤ p - 1 := by have := HE.out; omega
      clear c0 c1 c2 f1
      go_wp2_with fail
      obtain ⟨wo, rfl⟩ : ∃ wo : World, wo = wr := ⟨_, rfl⟩
      go_loopw [5] (fun x wr => ∃ a g : Int, x = .int .i64 a ∧ 2 ≤ a ∧ a ≤ G + 1 ∧ (g = 0 ∧ a ≤ G ∨ g = G ∧ a = G + 1) ∧ Hid (Blk wr w.heap.size 25 #[.int .i64 0, .int .i64 0, .int .i64 0]) ∧ Hid (Blk wr (w.heap.size + 1) 25 #[.int .i64 p, .int .i64 t, .int .i64 g]) ∧ Hid (Below w.heap.size w wr)) (fun x _ => (G + 1 - intOf x).toNat)
      case atStart => exact ⟨2, 0, rfl, by omega, by omega, .inl ⟨rfl, by omega⟩, HK1, HK2, HB⟩
      case round =>
        clear HK1 HK2 HB
        obtain ⟨a, g, rfl, ha1, ha2, hag, HK1, HK2, HB⟩ := hrel
        have c0 : wr.cell? ⟨w.heap.size + 1, 0, none⟩ = some (.int .i64 p) := HK2.out.cell 0
        have c1 : wr.cell? ⟨w.heap.size + 1, 1, none⟩ = some (.int .i64 t) := HK2.out.cell 1
        have c2 : wr.cell? ⟨w.heap.size + 1, 2, none⟩ = some (.int .i64 g) := HK2.out.cell 2
        have f2 : wr.frozen? ⟨w.heap.size + 1, 2, none⟩ = false := HK2.out.free 2
        rcases hag with ⟨hg0, haG⟩ | ⟨hgG, haG⟩
        · subst hg0
          have HN1 := Lib.hid ((HK1.out.far (p := ⟨w.heap.size + 1, 2, none⟩) (by simp) (.int .i64 a)))
          have HN2 : Hid (Blk (wr.setCell ⟨w.heap.size + 1, 2, none⟩ (.int .i64 a)) (w.heap.size + 1) 25 #[.int .i64 p, .int .i64 t, .int .i64 a]) := HK2.out.set_ 2 _
          have HN3 := Lib.hid (HB.out.setCell (p := ⟨w.heap.size + 1, 2, none⟩) (by simp) (.int .i64 a))
          by_cases hEq : a = G
          · have v1 : (powM p a t == 1) = true := by rw [hEq, HOne.out]; rfl
            have HEq := Lib.hid hEq
            clear hEq
            go_wp2_with (go_at_call 61; refine (c_spec_grPower (by omega) (by omega) (by omega)).mono ?_; rintro e w' ⟨rfl, rfl⟩)
            go_roundw
            case rel => exact ⟨a + 1, a, rfl, by omega, by omega, .inr ⟨HEq.out, by rw [HEq.out]⟩, HN1, HN2, HN3⟩
            case measure => simp [intOf]; omega
          · have v1 : (powM p a t == 1) = false := by simpa using HMin.out a ha1 (by omega)
            go_wp2_with (go_at_call 61; refine (c_spec_grPower (by omega) (by omega) (by omega)).mono ?_; rintro e w' ⟨rfl, rfl⟩)
            go_roundw
            case rel => exact ⟨a + 1, 0, rfl, by omega, by omega, .inl ⟨rfl, by omega⟩, HK1, HK2, HB⟩
            case measure => simp [intOf]; omega
        · have d0 : wr.cell? ⟨w.heap.size, 0, none⟩ = some (.int .i64 0) := HK1.out.cell 0
          have d1 : wr.cell? ⟨w.heap.size, 1, none⟩ = some (.int .i64 0) := HK1.out.cell 1
          have d2 : wr.cell? ⟨w.heap.size, 2, none⟩ = some (.int .i64 0) := HK1.out.cell 2
          have e0 : wr.frozen? ⟨w.heap.size, 0, none⟩ = false := HK1.out.free 0
          have e1 : wr.frozen? ⟨w.heap.size, 1, none⟩ = false := HK1.out.free 1
          have e2 : wr.frozen? ⟨w.heap.size, 2, none⟩ = false := HK1.out.free 2
          have hg0 : (g == 0) = false := by have : ¬ g = 0 := by omega
                                            simpa using this
          have HG2 := Lib.hid hgG
          clear hgG haG
          go_wp2_with fail
          have HF : Blk (((wr.setCell ⟨w.heap.size, 0, none⟩ (.int .i64 p)).setCell ⟨w.heap.size, 1, none⟩ (.int .i64 t)).setCell ⟨w.heap.size, 2, none⟩ (.int .i64 g)) w.heap.size 25 #[.int .i64 p, .int .i64 t, .int .i64 g] := ((HK1.out.set_ 0 _).set_ 1 _).set_ 2 _
          have k0 := HF.cell 0
          have k1 := HF.cell 1
          have k2 := HF.cell 2
          refine bodyPost_ret (v := .agg #[.int .i64 p, .int .i64 t, .int .i64 g]) (by simp [results, Try.results60, go_sem, k0, k1, k2]) rfl ⟨?_, ?_⟩
          · rw [← HE.out, ← HG2.out]
          · exact ((HB.out.setCell (p := ⟨w.heap.size, 0, none⟩) (Nat.le_refl _) _).setCell (p := ⟨w.heap.size, 1, none⟩) (Nat.le_refl _) _).setCell (p := ⟨w.heap.size, 2, none⟩) (Nat.le_refl _) _
end Go.Proofs.Ytpaajlmeifamdaa
