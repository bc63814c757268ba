/- Contracts of FindWrong and JoinDespite. Conditions: the lists are short. -/
import Derived.Test.YtpeoiemcfpghkaaThrD
namespace Go.Proofs.Ytpeoiemcfpghkaa
open Go.RowKit
set_option linter.unusedVariables false

theorem ptsB_mk {p : Int} {xs ys : List Int} (hf : fldB p = true) (hx : ∀ x ∈ xs, 0 ≤ x ∧ x < p) (hy : ∀ y ∈ ys, 0 ≤ y ∧ y < p) (h12 : xs.length ≤ 12) (hl : xs.length = ys.length) (hn : xs.Nodup) : ptsB p xs ys = true := by
  have k : ∀ l : List Int, (∀ x ∈ l, 0 ≤ x ∧ x < p) → fpInB p l = true := by
    intro l h
    unfold fpInB allB
    rw [hf, Bool.true_and]
    exact List.all_eq_true.2 fun x hx => inB_mk (h x hx).1 (by have := (h x hx).2; omega)
  unfold ptsB
  rw [k xs hx, k ys hy, decide_eq_true (by omega), decide_eq_true (by omega), decide_eq_true hn]; rfl
theorem ptsB_fld {p : Int} {xs ys : List Int} (h : ptsB p xs ys = true) : fldB p = true := by
  simp only [ptsB, Bool.and_eq_true] at h; exact (fpInB_of h.1.1.1.1).1
theorem ptsB_erase {p : Int} {xs ys : List Int} (h : ptsB p xs ys = true) (i : Nat) : ptsB p (xs.eraseIdx i) (ys.eraseIdx i) = true := by
  obtain ⟨hpr, hp, hxb, hyb, hlen, hll, hnd⟩ := ptsB_of h
  refine ptsB_mk (ptsB_fld h) (fun x hx => hxb x (List.mem_of_mem_eraseIdx hx)) (fun y hy => hyb y (List.mem_of_mem_eraseIdx hy)) ?_ ?_ (hnd.sublist (List.eraseIdx_sublist _ _))
  · rw [List.length_eraseIdx]; split <;> omega
  · rw [List.length_eraseIdx, List.length_eraseIdx, hll]
theorem holdB_erase {p : Int} {xs ys : List Int} (h : holdB p xs ys = true) (i : Nat) : holdB p (xs.eraseIdx i) (ys.eraseIdx i) = true := by
  obtain ⟨h1, h2, h3⟩ := holdB_of h
  unfold holdB
  rw [ptsB_erase h1 i, decide_eq_true (by rw [List.length_eraseIdx]; split <;> omega), decide_eq_false (fun hm => h3 (List.mem_of_mem_eraseIdx hm))]; rfl
def lastM (g : Nat → Bool) : Nat → Int
  | 0 => -1
  | k + 1 => if g k = true then (k : Int) else lastM g k
theorem lastM_cases (g : Nat → Bool) : ∀ k, lastM g k = -1 ∨ ∃ j : Nat, j < k ∧ lastM g k = (j : Int) ∧ g j = true
  | 0 => .inl rfl
  | k + 1 => by
    rcases hg : g k with _ | _
    · rcases lastM_cases g k with h | ⟨j, hj, h, hgj⟩
      · left; simp [lastM, hg, h]
      · right; exact ⟨j, by omega, by simp [lastM, hg, h], hgj⟩
    · right; exact ⟨k, by omega, by simp [lastM, hg], hg⟩
noncomputable def gB (p : Int) (xs ys : List Int) (t : Nat) (i : Nat) : Bool := fitS p (xs.eraseIdx i) (ys.eraseIdx i) t
theorem wrong_uniq {p : Int} {xs ys : List Int} {t : Nat} (h : ptsB p xs ys = true) (hf : fitS p xs ys t = false) (ht : t + 2 ≤ xs.length) {i j : Nat} (hij : i < j) (hj : j < xs.length) (h1 : gB p xs ys t i = true) (h2 : gB p xs ys t j = true) : False := by
  obtain ⟨hpr, hp, hxb, hyb, hlen, hll, hnd⟩ := ptsB_of h
  have hd := dis_of hnd hxb
  have e : ∀ k, gB p xs ys t k = true → Fits p (xs.eraseIdx k) (ys.eraseIdx k) t := fun k hk =>
    (fitS_iff hpr (hd.sub (List.eraseIdx_sublist _ _)) (by rw [List.length_eraseIdx, List.length_eraseIdx, hll]) (fun y hy => hyb y (List.mem_of_mem_eraseIdx hy)) t).1 hk
  have := (fitS_iff hpr hd hll hyb t).2 (wrong_one hpr hd hll hij hj ht (e i h1) (e j h2))
  rw [hf] at this; cases this
set_option maxRecDepth 100000 in
set_option maxHeartbeats 2000000 in
theorem c_impl_findWrong {vx vy : Value} {xs ys : List Int} {p : Int} {t : Nat} {w : World} (hx : Ints w vx xs) (hy : Ints w vy ys) (h : ptsB p xs ys = true) (hf : fitS p xs ys t = false) (ht : t + 2 ≤ xs.length) :
    Calls Try.prog 67 #[.int .i64 p, vx, vy, .int .i64 (t : Int)] w fun e w' => e = .returned (.int .i64 (lastM (gB p xs ys t) xs.length)) ∧ Below w.heap.size w w' := by
  have HX := Lib.hid hx
  have HY := Lib.hid hy
  obtain ⟨A, c, rfl, -⟩ := hx
  obtain ⟨A', c', rfl, -⟩ := hy
  obtain ⟨hpr, hp, hxb, hyb, hlen, hll, hnd⟩ := ptsB_of h
  have HL := Lib.hid hll
  have HU := Lib.hid (fun (i j : Nat) (hij : i < j) (hj : j < xs.length) (h1 : gB p xs ys t i = true) (h2 : gB p xs ys t j = true) => wrong_uniq h hf ht hij hj h1 h2)
  have HE := Lib.hid (fun i => ptsB_erase h i)
  have HFE := Lib.hid (fun i => fit_same (ptsB_erase h i) t)
  clear hpr hxb hyb hll hnd hf h
  go_enter Try.func67, Try.ntmps67
  go_wp2
  go_loopw [9, 13] (fun f i wr => ∃ k : Nat, k ≤ xs.length ∧ i = .int .i64 k ∧ f = .int .i64 (lastM (gB p xs ys t) k) ∧ Hid (Below w.heap.size w wr)) (fun _ i _ => xs.length - (intOf i).toNat)
  case atStart => exact ⟨0, Nat.zero_le _, rfl, rfl, Lib.hid (Below.refl _ _)⟩
  case round =>
    obtain ⟨k, hk, rfl, rfl, HB⟩ := hrel
    by_cases hlt : k < xs.length
    · obtain ⟨hpr, hp2, hxb, hyb, hlen2, hll2, hnd2⟩ := ptsB_of (HE.out k)
      have HXB := Lib.hid hxb
      have HYB := Lib.hid hyb
      have HLL := Lib.hid hll2
      have HLE := Lib.hid (show (xs.eraseIdx k).length ≤ 1000 by omega)
      have HST := Lib.hid (show lastM (gB p xs ys t) (k + 1) = if gB p xs ys t k = true then (k : Int) else lastM (gB p xs ys t) k from rfl)
      have HF := Lib.hid (show fitI p (xs.eraseIdx k) (ys.eraseIdx k) t = gB p xs ys t k from HFE.out k)
      have hcs := lastM_cases (gB p xs ys t) k
      have hly : ys.length ≤ 1000 := by have := HL.out; omega
      clear hpr hxb hyb hll2 hnd2 hlen2 hp2
      rcases hg : gB p xs ys t k with _ | _
      · go_wp2_with fail
        refine (c_impl_left (HX.out.below HB.out) (by omega) hlt).mono ?_
        rintro e w1 ⟨u1, rfl, hu1, hb1⟩
        have HU1 := Lib.hid hu1.ints
        have HB1 := Lib.hid (below_step HB.out hb1)
        clear hu1 hb1
        go_wp2_with fail
        refine (c_impl_left (HY.out.below HB1.out) hly (by have := HL.out; omega)).mono ?_
        rintro e w2 ⟨u2, rfl, hu2, hb2⟩
        have HU2 := Lib.hid hu2.ints
        have HU1' := Lib.hid (HU1.out.below hb2)
        have HB2 := Lib.hid (below_step HB1.out hb2)
        clear hu2 hb2
        go_wp2_with fail
        refine (c_impl_fit (t := t) HU1'.out HU2.out HLE.out HLL.out (by omega) hp HXB.out HYB.out).mono ?_
        rintro e w3 ⟨rfl, hb3⟩
        rw [HF.out, hg]
        have HB3 := Lib.hid (below_step HB2.out hb3)
        go_wp2
        go_roundw
        case rel => exact ⟨k + 1, by omega, by go_num, by rw [HST.out, hg]; rfl, HB3⟩
        case measure => simp [intOf]; omega
      · have hln : lastM (gB p xs ys t) k = -1 := by
          rcases hcs with h | ⟨j, hj, h, hgj⟩
          · exact h
          · exact (HU.out j k hj hlt hgj hg).elim
        clear hcs
        go_wp2_with fail
        refine (c_impl_left (HX.out.below HB.out) (by omega) hlt).mono ?_
        rintro e w1 ⟨u1, rfl, hu1, hb1⟩
        have HU1 := Lib.hid hu1.ints
        have HB1 := Lib.hid (below_step HB.out hb1)
        clear hu1 hb1
        go_wp2_with fail
        refine (c_impl_left (HY.out.below HB1.out) hly (by have := HL.out; omega)).mono ?_
        rintro e w2 ⟨u2, rfl, hu2, hb2⟩
        have HU2 := Lib.hid hu2.ints
        have HU1' := Lib.hid (HU1.out.below hb2)
        have HB2 := Lib.hid (below_step HB1.out hb2)
        clear hu2 hb2
        go_wp2_with fail
        refine (c_impl_fit (t := t) HU1'.out HU2.out HLE.out HLL.out (by omega) hp HXB.out HYB.out).mono ?_
        rintro e w3 ⟨rfl, hb3⟩
        rw [HF.out, hg]
        have HB3 := Lib.hid (below_step HB2.out hb3)
        go_wp2
        go_roundw
        case rel => exact ⟨k + 1, by omega, by go_num, by rw [HST.out, hg]; rfl, HB3⟩
        case measure => simp [intOf]; omega
    · have hE : k = xs.length := by omega
      subst hE
      go_wp2
      go_ret
      exact ⟨rfl, HB.out⟩
set_option maxRecDepth 100000 in
set_option maxHeartbeats 2000000 in
theorem c_spec_thWrong {vx vy : Value} {xs ys : List Int} {p : Int} {t : Nat} {w : World} (hx : Ints w vx xs) (hy : Ints w vy ys) (h : ptsB p xs ys = true) (ht : t + 2 ≤ xs.length) :
    Calls Try.prog 66 #[.int .i64 p, vx, vy, .int .i64 (t : Int)] w fun e w' => e = .returned (.int .i64 (lastM (gB p xs ys t) xs.length)) ∧ Below w.heap.size w w' := by
  have HX := Lib.hid hx
  have HY := Lib.hid hy
  obtain ⟨A, c, rfl, -⟩ := hx
  obtain ⟨A', c', rfl, -⟩ := hy
  obtain ⟨hpr, hp, hxb, hyb, hlen, hll, hnd⟩ := ptsB_of h
  have HL := Lib.hid hll
  have HE := Lib.hid (fun i => ptsB_erase h i)
  clear hpr hxb hyb hll hnd h
  go_enter Try.func66, Try.ntmps66
  go_wp2
  go_loopw [9, 13] (fun f i wr => ∃ k : Nat, k ≤ xs.length ∧ i = .int .i64 k ∧ f = .int .i64 (lastM (gB p xs ys t) k) ∧ Hid (Below w.heap.size w wr)) (fun _ i _ => xs.length - (intOf i).toNat)
  case atStart => exact ⟨0, Nat.zero_le _, rfl, rfl, Lib.hid (Below.refl _ _)⟩
  case round =>
    obtain ⟨k, hk, rfl, rfl, HB⟩ := hrel
    by_cases hlt : k < xs.length
    · obtain ⟨hpr, hp2, hxb, hyb, hlen2, hll2, hnd2⟩ := ptsB_of (HE.out k)
      have HXB := Lib.hid hxb
      have HYB := Lib.hid hyb
      have HLL := Lib.hid hll2
      have hle : (xs.eraseIdx k).length ≤ 1000 := by omega
      have hle2 : t ≤ (xs.eraseIdx k).length := by rw [List.length_eraseIdx_of_lt hlt]; omega
      have HLE := Lib.hid hle
      have HLE2 := Lib.hid hle2
      have HST := Lib.hid (show lastM (gB p xs ys t) (k + 1) = if gB p xs ys t k = true then (k : Int) else lastM (gB p xs ys t) k from rfl)
      have HF := Lib.hid (show fitS p (xs.eraseIdx k) (ys.eraseIdx k) t = gB p xs ys t k from rfl)
      have hly : ys.length ≤ 1000 := by have := HL.out; omega
      clear hpr hxb hyb hll2 hnd2 hlen2 hp2 hle hle2
      rcases hg : gB p xs ys t k with _ | _
      all_goals
        go_wp2_with fail
        refine (c_spec_thWithout (HX.out.below HB.out) (by omega) hlt).mono ?_
        rintro e w1 ⟨u1, rfl, hu1, hb1⟩
        have HU1 := Lib.hid hu1.ints
        have HB1 := Lib.hid (below_step HB.out hb1)
        clear hu1 hb1
        go_wp2_with fail
        refine (c_spec_thWithout (HY.out.below HB1.out) hly (by have := HL.out; omega)).mono ?_
        rintro e w2 ⟨u2, rfl, hu2, hb2⟩
        have HU2 := Lib.hid hu2.ints
        have HU1' := Lib.hid (HU1.out.below hb2)
        have HB2 := Lib.hid (below_step HB1.out hb2)
        clear hu2 hb2
        go_wp2_with fail
        refine (c_spec_thFit (t := t) HU1'.out HU2.out HLE.out HLL.out HLE2.out hp HXB.out HYB.out).mono ?_
        rintro e w3 ⟨rfl, hb3⟩
        rw [HF.out, hg]
        have HB3 := Lib.hid (below_step HB2.out hb3)
        go_wp2
        go_roundw
        case rel => exact ⟨k + 1, by omega, by go_num, by rw [HST.out, hg]; rfl, HB3⟩
        case measure => simp [intOf]; omega
    · have hE : k = xs.length := by omega
      subst hE
      go_wp2
      go_ret
      exact ⟨rfl, HB.out⟩
end Go.Proofs.Ytpeoiemcfpghkaa
