/- The contract of the program's interpolation: the coefficients. Conditions: few points, elements of the field. -/
import Derived.Test.YtmccfdaaneemfaaPtsC
import Derived.Test.YtmccfdaaneemfaaPoly3
import Derived.Deep.QuietTactic
import Derived.BigQuiet
namespace Go.Proofs.Ytmccfdaaneemfaa
open Go.RowKit
set_option linter.unusedVariables false

set_option maxRecDepth 100000 in
set_option maxHeartbeats 4000000 in
theorem c_impl_polyThrough {vx vy : Value} {xs ys : List Int} {p : Int} {w : World} (hx : Ints w vx xs) (hy : Ints w vy ys) (hlx : xs.length ≤ 1000) (hl : xs.length = ys.length) (hp : 2 ≤ p ∧ p ≤ 251) (hb : ∀ x ∈ xs, 0 ≤ x ∧ x < p) (hby : ∀ y ∈ ys, 0 ≤ y ∧ y < p) :
    Calls Try.prog 116 #[.int .i64 p, vx, vy] w (RetI w (polyM p xs ys)) := by
  obtain ⟨A, c, rfl, hlc, hcm, hrd⟩ := hx
  obtain ⟨A', c', rfl, hlc', hcm', hrd'⟩ := hy
  have hp0 : ¬ p = 0 := by omega
  have HL := Lib.hid hl
  have HBX := Lib.hid hb
  have HBY := Lib.hid hby
  obtain ⟨i0, hi0, hz0, hz1, hz2⟩ := info_parts info_int
  unfold maxLen at hcm hcm'
  clear hb hby hl
  go_enter Try.func116, Try.ntmps116
  go_wp2_with (at_make; refine wpList_make_full _ rfl _ _ 32 rfl w.heap.size 3 i0 (.int .i64 0) 1 Try.underlying32 hi0 hz0 hz1 _ _ _ _ xs.length rfl rfl rfl rfl (by rw [hz2]; omega) (by unfold maxLen; omega) (Nat.le_refl _) ?_; intro w1 hown hg)
  have HO := Lib.hid (own_made hown)
  have HB : Hid (Below w.heap.size w w1) := Lib.hid ((Below.refl _ _).grown hg (Nat.le_refl _) (by simp))
  clear hown hg
  go_loopw [25] (fun j wr => ∃ i : Nat, i ≤ xs.length ∧ j = .int .i64 i ∧ Hid (OwnI wr w.heap.size (.slice (some ⟨w.heap.size, 0, none⟩) xs.length xs.length) ((List.range i).foldl (rowM p xs ys) (List.replicate xs.length 0))) ∧ Hid (Below w.heap.size w wr)) (fun j _ => xs.length - (intOf j).toNat)
  case atStart => exact ⟨0, Nat.zero_le _, rfl, HO, HB⟩
  case round =>
    obtain ⟨i, hi, rfl, HO, HB⟩ := hrel
    have hi0' : (0 : Int) ≤ (i : Int) := Int.natCast_nonneg _
    by_cases hlt : i < xs.length
    · obtain ⟨b, o, x, rfl, hbl, hxi, hcell⟩ := (hrd.below HB.out).int_at hlt
      have hxb := HBX.out x (List.mem_of_getElem? hxi)
      have HGX := Lib.hid (show xs.getD i 0 = x from getD_some hxi)
      obtain ⟨b', o', y, rfl, hbl', hyi, hcell'⟩ := hrd'.int_at (k := i) (by have := HL.out; omega)
      have hyb := HBY.out y (List.mem_of_getElem? hyi)
      have HGY := Lib.hid (show ys.getD i 0 = y from getD_some hyi)
      have hly : (i : Int) < (ys.length : Int) := by have := HL.out; omega
      clear hxi hyi
      have HRB := Lib.hid (rows_bd (p := p) (by omega) xs ys hi)
      have HRS := Lib.hid (rows_snoc p xs ys i)
      generalize (List.range i).foldl (rowM p xs ys) (List.replicate xs.length 0) = O at *
      have HPL := Lib.hid (prodM_len (p := p) hlt)
      obtain ⟨wa, rfl⟩ : ∃ W, W = wr := ⟨wr, rfl⟩
      have hza : w.heap.size < wa.heap.size := HO.out.lt _ rfl
      have HP0 := Lib.hid (show OwnI (wa.alloc (.cells #[.int .i64 1] 3)) (w.heap.size + 1) (.slice (some ⟨wa.heap.size, 0, none⟩) 1 1) [1] from OwnI.lit (B := w.heap.size + 1) [1] _ rfl hza (by simp))
      have HO0 := Lib.hid (HO.out.alloc (.cells #[.int .i64 1] 3))
      have HB0 := Lib.hid (HB.out.alloc HB.out.size (.cells #[.int .i64 1] 3))
      go_wp2
      go_loopw [10, 11, 33] (fun pr va kk wm => ∃ (k gp L : Nat) (P : List Int) (V : Int), k ≤ xs.length ∧ kk = .int .i64 k ∧ pr = .slice (some ⟨gp, 0, none⟩) L L ∧ va = .int .i64 V ∧ Hid (P = prodM p ((xs.take k).eraseIdx i)) ∧ Hid (V = valM p x ((xs.take k).eraseIdx i)) ∧ Hid (OwnI wm (w.heap.size + 1) (.slice (some ⟨gp, 0, none⟩) L L) P) ∧ Hid (OwnI wm w.heap.size (.slice (some ⟨w.heap.size, 0, none⟩) xs.length xs.length) O) ∧ Hid (Below w.heap.size w wm)) (fun _ _ kk _ => xs.length - (intOf kk).toNat)
      case atStart => exact ⟨0, wa.heap.size, 1, [1], 1, Nat.zero_le _, rfl, rfl, rfl, Lib.hid (by simp [prodM]), Lib.hid (by simp [valM]), HP0, HO0, HB0⟩
      case round =>
        obtain ⟨k, gp, L, P, V, hk, rfl, rfl, rfl, HP, HV, HPO, HOO, HBB⟩ := hrel
        obtain ⟨wm, rfl⟩ : ∃ W, W = wr := ⟨wr, rfl⟩
        by_cases hlk : k < xs.length
        · obtain ⟨b2, o2, q, e2, hbl2, hqk, hcq⟩ := (hrd.below HBB.out).int_at hlk
          injection e2 with e2; injection e2 with e21 e22; subst e21 e22
          have hqb := HBX.out q (List.mem_of_getElem? hqk)
          have HST := Lib.hid (others_step (i := i) hqk)
          clear hqk
          rcases he : ((k : Int) == (i : Int)) with _ | _
          · have hki : ¬ k = i := by have h9 := he; simp at h9; omega
            have hpl : P.length ≤ 1000 := by rw [HP.out, prodM_length, List.length_eraseIdx]; simp; split <;> omega
            have HPB := Lib.hid (show ∀ z ∈ P, 0 ≤ z ∧ z < p by rw [HP.out]; exact prodM_bd (by omega) _)
            have hvb : 0 ≤ V ∧ V < p := by rw [HV.out]; exact valM_bd (by omega) _ _
            obtain ⟨hL, -⟩ : L = P.length ∧ True := ⟨HPO.out.len, trivial⟩
            subst hL
            go_wp2_with (at_make; refine wpList_make_full _ rfl _ _ 32 rfl wm.heap.size 3 i0 (.int .i64 0) 1 Try.underlying32 hi0 hz0 hz1 _ _ _ _ (P.length + 1) rfl rfl rfl rfl (by rw [hz2]; omega) (by unfold maxLen; omega) (Nat.le_refl _) ?_; intro wn hown hg)
            have HN0 := Lib.hid (show OwnI wn wm.heap.size (.slice (some ⟨wm.heap.size, 0, none⟩) (P.length + 1) (P.length + 1)) (stM p (p - q) P 0) by rw [stM_zero]; exact own_made hown)
            have HBN : Hid (Below wm.heap.size wm wn) := Lib.hid ((Below.refl _ _).grown hg (Nat.le_refl _) (by simp))
            clear hown hg
            go_loopw [47] (fun jj wi => ∃ d : Nat, d ≤ P.length ∧ jj = .int .i64 d ∧ Hid (OwnI wi wm.heap.size (.slice (some ⟨wm.heap.size, 0, none⟩) (P.length + 1) (P.length + 1)) (stM p (p - q) P d)) ∧ Hid (Below wm.heap.size wm wi)) (fun jj _ => P.length - (intOf jj).toNat)
            case atStart => exact ⟨0, Nat.zero_le _, rfl, HN0, HBN⟩
            case round =>
              obtain ⟨d, hd, rfl, HN, HBI⟩ := hrel
              obtain ⟨wi, rfl⟩ : ∃ W, W = wr := ⟨wr, rfl⟩
              have hd0 : (0 : Int) ≤ (d : Int) := Int.natCast_nonneg _
              by_cases hld : d < P.length
              · have HPI := Lib.hid (HPO.out.below HBI.out)
                obtain ⟨cc, hcc⟩ : ∃ cc, P[d]? = some cc := ⟨_, List.getElem?_eq_getElem hld⟩
                have hcb := HPB.out cc (List.mem_of_getElem? hcc)
                have hcellp := HPI.out.rd hcc
                obtain ⟨v, hv1, hv2, hvb2, hv3⟩ := stM_at (p := p) (a := p - q) (by omega) hld
                have HS := Lib.hid (stM_step (p := p) (a := p - q) hcc).1
                rw [← hv3] at HS
                have hlen := Lib.hid (stM_length (p := p) (a := p - q) hd)
                have r1 := HN.out.rd hv2
                have f1 := HN.out.free (d + 1)
                have HN1 := Lib.hid (HN.out.put (d + 1) (cc % p))
                have hv1' : ((stM p (p - q) P d).set (d + 1) (cc % p))[d]? = some v := by rw [List.getElem?_set_ne (by omega)]; exact hv1
                have r2 := HN1.out.rd hv1'
                have f2 := HN1.out.free d
                have HN2 := Lib.hid (HN1.out.put d ((v + cc * (p - q)) % p))
                have m1 := mul_bd hcb.1 (show cc ≤ 251 by omega) (show 0 ≤ p - q by omega) (show p - q ≤ 251 by omega)
                have HBI2 := Lib.hid ((HBI.out.setCell (p := ⟨wm.heap.size, d + 1, none⟩) (Nat.le_refl _) (.int .i64 (cc % p))).setCell (p := ⟨wm.heap.size, d, none⟩) (Nat.le_refl _) (.int .i64 ((v + cc * (p - q)) % p)))
                clear hcc hv1 hv2 hv3 hv1'
                go_wp2
                go_roundw
                case rel => exact ⟨d + 1, by omega, by go_num, by rw [HS.out]; exact HN2, HBI2⟩
                case measure => simp [intOf]; omega
              · obtain rfl : d = P.length := by omega
                have HN2 := Lib.hid (show OwnI wi (w.heap.size + 1) (.slice (some ⟨wm.heap.size, 0, none⟩) (P.length + 1) (P.length + 1)) (timesM p P (p - q)) by
                  have := HN.out; rw [stM_all] at this; exact this.mono (by have := HPO.out.lt _ rfl; have := HPO.out.ge _ rfl; omega))
                have HOI := Lib.hid (HOO.out.below HBI.out)
                have HBW := Lib.hid (below_step HBB.out HBI.out)
                have m1 := mul_bd hvb.1 (show V ≤ 251 by omega) (show 0 ≤ x - q + p by omega) (show x - q + p ≤ 600 by omega)
                have e1 : IntKind.i64.wrap (x - q) = x - q := IntWalk.i64_in _ (by omega)
                have e2 : IntKind.i64.wrap (x - q + p) = x - q + p := IntWalk.i64_in _ (by omega)
                have e3 : IntKind.i64.wrap (V * (x - q + p)) = V * (x - q + p) := IntWalk.i64_in _ (by omega)
                go_wp2_with fail
                go_quiet (fail)
                go_wp2
                go_roundw
                case rel => exact ⟨k + 1, wm.heap.size, P.length + 1, timesM p P (p - q), V * (x - q + p) % p, by omega, by go_num, rfl, rfl, Lib.hid (by rw [HST.out, if_neg hki, prodM_snoc, ← HP.out]), Lib.hid (by rw [HST.out, if_neg hki, valM_snoc, ← HV.out]), Lib.hid (own_drewN HN2.out _), Lib.hid (own_drewN HOI.out _), Lib.hid (below_drewN HBW.out _)⟩
                case measure => simp [intOf]; omega
          · have HKI := Lib.hid (show k = i by have h9 := he; simp at h9; omega)
            go_wp2
            go_roundw
            case rel => exact ⟨k + 1, gp, L, P, V, by omega, by go_num, rfl, rfl, Lib.hid (by rw [HST.out, if_pos HKI.out]; exact HP.out), Lib.hid (by rw [HST.out, if_pos HKI.out]; exact HV.out), HPO, HOO, HBB⟩
            case measure => simp [intOf]; omega
        · obtain rfl : k = xs.length := by omega
          have hp1 := HP.out
          have hv1 := HV.out
          rw [List.take_length] at hp1 hv1
          have HP1 := Lib.hid hp1
          have HV1 := Lib.hid hv1
          have hpl : P.length = xs.length := by rw [hp1]; exact HPL.out
          have hvb : 0 ≤ V ∧ V < p := by rw [hv1]; exact valM_bd (by omega) _ _
          have HPB := Lib.hid (show ∀ z ∈ P, 0 ≤ z ∧ z < p by rw [hp1]; exact prodM_bd (by omega) _)
          have HLL := Lib.hid (show L = xs.length by rw [HPO.out.len]; exact hpl)
          have HPLN := Lib.hid hpl
          have hib := invM_bd (p := p) (a := V) (by omega)
          have m1 := mul_bd hyb.1 (show y ≤ 251 by omega) hib.1 (show invM p V ≤ 251 by omega)
          have e1 : IntKind.i64.wrap (y * invM p V) = y * invM p V := IntWalk.i64_in _ (by omega)
          have hcy := (HBB.out.cell (p := ⟨b', o' + i, none⟩) hbl').trans hcell'
          have HIV := Lib.hid (fun W => c_impl_inverse (p := p) (a := V) (w := W) (by omega) (by omega))
          clear hp1 hv1 hpl
          go_wp2_with fail
          go_quiet ((go_at_call 67; exact quiet_left (HIV.out _)))
          obtain ⟨wq, hwq⟩ : ∃ W, wm.drewN nq = W := ⟨_, rfl⟩
          have HPQ : Hid (OwnI wq (w.heap.size + 1) (.slice (some ⟨gp, 0, none⟩) L L) P) := by rw [← hwq]; exact own_drewN HPO.out _
          have HOQ : Hid (OwnI wq w.heap.size (.slice (some ⟨w.heap.size, 0, none⟩) xs.length xs.length) O) := by rw [← hwq]; exact own_drewN HOO.out _
          have HBQ : Hid (Below w.heap.size w wq) := by rw [← hwq]; exact below_drewN HBB.out _
          rw [hwq]
          clear hwq HPO HOO HBB
          have HSC := Lib.hid (show rowM p xs ys O i = List.zipWith (fun o c => (o + c * (y * invM p V % p)) % p) O P by unfold rowM scaleM; rw [HGX.out, HGY.out, ← HP1.out, ← HV1.out])
          have hsb := mod_bd (y * invM p V) (p := p) (by omega)
          have hsm : L ≤ 1000 := by rw [HLL.out]; exact hlx
          generalize y * invM p V % p = S at *
          clear e1 m1 hib hvb
          go_wp2
          go_loopw [104] (fun jj wo => ∃ d : Nat, d ≤ L ∧ jj = .int .i64 d ∧ Hid (OwnI wo w.heap.size (.slice (some ⟨w.heap.size, 0, none⟩) xs.length xs.length) (accM (fun o c => (o + c * S) % p) O P d)) ∧ Hid (OwnI wo (w.heap.size + 1) (.slice (some ⟨gp, 0, none⟩) L L) P) ∧ Hid (Below w.heap.size w wo)) (fun jj _ => L - (intOf jj).toNat)
          case atStart => exact ⟨0, Nat.zero_le _, rfl, by rw [accM_zero]; exact HOQ, HPQ, HBQ⟩
          case round =>
            obtain ⟨d, hd, rfl, HOD, HPD, HBD⟩ := hrel
            obtain ⟨wo, rfl⟩ : ∃ W, W = wr := ⟨wr, rfl⟩
            have hd0 : (0 : Int) ≤ (d : Int) := Int.natCast_nonneg _
            by_cases hld : d < L
            · obtain ⟨cc, hcc⟩ : ∃ cc, P[d]? = some cc := ⟨_, List.getElem?_eq_getElem (by have := HPLN.out; have := HLL.out; omega)⟩
              obtain ⟨oc, hoc⟩ : ∃ oc, O[d]? = some oc := ⟨_, List.getElem?_eq_getElem (by have := HRB.out.1; have := HLL.out; omega)⟩
              have hcb := HPB.out cc (List.mem_of_getElem? hcc)
              have hob := HRB.out.2 oc (List.mem_of_getElem? hoc)
              have hpc := HPD.out.rd hcc
              have hstp := accM_step (fun o c => (o + c * S) % p) (by rw [HPLN.out]; exact HRB.out.1) hoc hcc
              have hocl := HOD.out.rd hstp.1
              have hfr := HOD.out.free d
              have HOD2 := Lib.hid (HOD.out.put d ((oc + cc * S) % p))
              have HST2 := Lib.hid hstp.2
              have hgp : w.heap.size + 1 ≤ gp := HPD.out.blk.1
              have HPD2 := Lib.hid (HPD.out.far (p := ⟨w.heap.size, d, none⟩) (fun g hg => by simp [Value.ownBlock] at hg; simp; omega) (.int .i64 ((oc + cc * S) % p)))
              have HBD2 := Lib.hid (HBD.out.setCell (p := ⟨w.heap.size, d, none⟩) (Nat.le_refl _) (.int .i64 ((oc + cc * S) % p)))
              have m1 := mul_bd hcb.1 (show cc ≤ 251 by omega) hsb.1 (show S ≤ 251 by omega)
              have hdx : (d : Int) < (xs.length : Int) := by have := HLL.out; omega
              clear hcc hoc hstp
              go_wp2
              go_roundw
              case rel => exact ⟨d + 1, by omega, by go_num, by have := HOD2.out; rw [HST2.out] at this; exact this, HPD2, HBD2⟩
              case measure => simp [intOf]; omega
            · have HE := Lib.hid (show accM (fun o c => (o + c * S) % p) O P d = rowM p xs ys O i by
                rw [HSC.out]; exact accM_all _ (by have := HRB.out.1; have := HLL.out; omega) (by have := HPLN.out; have := HLL.out; omega))
              go_wp2
              go_roundw
              case rel => exact ⟨i + 1, by omega, by go_num, by rw [HRS.out, ← HE.out]; exact HOD, HBD⟩
              case measure => simp [intOf]; omega
    · have HE := Lib.hid (show i = xs.length by omega)
      go_wp2
      go_ret
      exact RetI.mk (by have := HO.out; rw [HE.out] at this; exact this) HB.out
end Go.Proofs.Ytmccfdaaneemfaa
