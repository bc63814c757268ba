/- Gauss's elimination over a small field, step by step, and a system of equations as it lies in memory. Plain definitions and lemmas; no condition but those that each names. -/
import Derived.Test.YtjijghfagaigbaaPtsB
import Derived.Test.YtjijghfagaigbaaGbL8
import Derived.Test.YtjijghfagaigbaaPoly3
namespace Go.Proofs.Ytjijghfagaigbaa
open Go.RowKit
set_option linter.unusedVariables false

/-! ### the elimination -/
def ent (M : List (List Int)) (i j : Nat) : Int := (M.getD i []).getD j 0
/-- The first row from k on whose number at c is not 0. -/
def pivF (M : List (List Int)) (c : Nat) : Nat → Nat → Nat
  | 0, k => k
  | f + 1, k => if ent M k c = 0 then pivF M c f (k + 1) else k
theorem pivF_bd (M : List (List Int)) (c : Nat) : ∀ f k, k ≤ pivF M c f k ∧ pivF M c f k ≤ k + f
  | 0, k => by simp [pivF]
  | f + 1, k => by
    have h := pivF_bd M c f (k + 1)
    simp only [pivF]
    split <;> omega
theorem pivF_go {M : List (List Int)} {c n k : Nat} (hk : k < n) (h : ent M k c = 0) : pivF M c (n - k) k = pivF M c (n - (k + 1)) (k + 1) := by
  obtain ⟨f, hf⟩ : ∃ f, n - k = f + 1 := ⟨n - k - 1, by omega⟩
  rw [hf, show n - (k + 1) = f by omega]
  simp [pivF, h]
theorem pivF_stop {M : List (List Int)} {c n k : Nat} (hk : k < n) (h : ¬ ent M k c = 0) : pivF M c (n - k) k = k := by
  obtain ⟨f, hf⟩ : ∃ f, n - k = f + 1 := ⟨n - k - 1, by omega⟩
  rw [hf]
  simp [pivF, h]
theorem pivF_end (M : List (List Int)) (c n : Nat) : pivF M c (n - n) n = n := by rw [Nat.sub_self]; rfl
def swapM (M : List (List Int)) (i j : Nat) : List (List Int) := (M.set i (M.getD j [])).set j (M.getD i [])
theorem swapM_comm (M : List (List Int)) (i j : Nat) : swapM M j i = swapM M i j := by
  unfold swapM
  by_cases h : i = j
  · subst h; rfl
  · rw [List.set_comm _ _ (fun e => h e.symm)]
noncomputable def rowS (p : Int) (M : List (List Int)) (c : Nat) : List Int := (M.getD c []).map (fun x => x * invM p (ent M c c) % p)
def elimF (p f : Int) (x y : Int) : Int := (x + (p - f) * y) % p
theorem elimF_sub (p f x y : Int) : (x - f * y) % p = elimF p f x y := by
  unfold elimF
  rw [show x + (p - f) * y = x - f * y + p * y by rw [Int.sub_mul]; omega]
  exact (Int.add_mul_emod_self_left _ _ _).symm
def elimR (p : Int) (c : Nat) (M : List (List Int)) (i : Nat) : List (List Int) :=
  if i = c then M else M.set i (List.zipWith (elimF p (ent M i c)) (M.getD i []) (M.getD c []))
def elimN (p : Int) (c : Nat) (M : List (List Int)) (i : Nat) : List (List Int) := (List.range i).foldl (elimR p c) M
theorem elimN_succ (p : Int) (c : Nat) (M : List (List Int)) (i : Nat) : elimN p c M (i + 1) = elimR p c (elimN p c M i) i := by
  unfold elimN; rw [List.range_succ, List.foldl_append]; rfl
noncomputable def stepG (p : Int) (n c : Nat) (M : List (List Int)) : List (List Int) :=
  elimN p c ((swapM M c (pivF M c (n - c) c)).set c (rowS p (swapM M c (pivF M c (n - c) c)) c)) n
noncomputable def gaussF (p : Int) (n : Nat) : Nat → Nat → List (List Int) → Option (List (List Int))
  | 0, _, M => some M
  | f + 1, c, M => if pivF M c (n - c) c = n then none else gaussF p n f (c + 1) (stepG p n c M)
theorem gaussF_no {p : Int} {n c : Nat} {M : List (List Int)} (hc : c < n) (h : pivF M c (n - c) c = n) : gaussF p n (n - c) c M = none := by
  obtain ⟨f, hf⟩ : ∃ f, n - c = f + 1 := ⟨n - c - 1, by omega⟩
  rw [hf] at h ⊢
  simp only [gaussF]
  rw [if_pos (by rw [hf]; exact h)]
theorem gaussF_go {p : Int} {n c : Nat} {M : List (List Int)} (hc : c < n) (h : ¬ pivF M c (n - c) c = n) : gaussF p n (n - c) c M = gaussF p n (n - (c + 1)) (c + 1) (stepG p n c M) := by
  obtain ⟨f, hf⟩ : ∃ f, n - c = f + 1 := ⟨n - c - 1, by omega⟩
  rw [show n - (c + 1) = f by omega]
  rw [hf] at h
  conv => lhs; rw [hf]
  simp only [gaussF]
  rw [if_neg (by rw [hf]; exact h)]
/-- The rows with the right sides behind them. -/
def augM (rows : List (List Int)) (right : List Int) (k : Nat) : List (List Int) := (List.range k).map fun i => rows.getD i [] ++ [right.getD i 0]
theorem augM_succ (rows : List (List Int)) (right : List Int) (k : Nat) : augM rows right (k + 1) = augM rows right k ++ [rows.getD k [] ++ [right.getD k 0]] := by simp [augM, List.range_succ]
theorem augM_length (rows : List (List Int)) (right : List Int) (k : Nat) : (augM rows right k).length = k := by simp [augM]
noncomputable def sysB (p : Int) (rows : List (List Int)) (right : List Int) : Bool :=
  fldB p && inB rows.length 1 6 && ((right.length : Int) == (rows.length : Int)) && allB right 0 (p - 1) && rows.all (fun r => ((r.length : Int) == (rows.length : Int)) && allB r 0 (p - 1))
def lastM (n : Nat) (M : List (List Int)) : List Int := M.map fun r => r.getD n 0
noncomputable def squareM (p : Int) (rows : List (List Int)) (right : List Int) : Option (List Int) := (gaussF p rows.length rows.length 0 (augM rows right rows.length)).map (lastM rows.length)
noncomputable def linM (p : Int) (rows : List (List Int)) (right : List Int) : Option (List Int) := if sysB p rows right then squareM p rows right else none
theorem sysB_of {p : Int} {rows : List (List Int)} {right : List Int} (h : sysB p rows right = true) :
    (2 ≤ p ∧ p ≤ 251) ∧ 1 ≤ rows.length ∧ rows.length ≤ 6 ∧ right.length = rows.length ∧ (∀ x ∈ right, 0 ≤ x ∧ x < p) ∧ ∀ r ∈ rows, r.length = rows.length ∧ ∀ x ∈ r, 0 ≤ x ∧ x < p := by
  simp only [sysB, Bool.and_eq_true, beq_iff_eq, allB, List.all_eq_true] at h
  obtain ⟨⟨⟨⟨h1, h2⟩, h3⟩, h4⟩, h5⟩ := h
  have hb := inB_bd h2
  refine ⟨fldB_bd h1, by omega, by omega, by omega, fun x hx => ?_, fun r hr => ?_⟩
  · have := inB_bd (h4 x hx); omega
  · obtain ⟨h6, h7⟩ := h5 r hr
    exact ⟨by omega, fun x hx => by have := inB_bd (h7 x hx); omega⟩

theorem augM_rows {p : Int} {rows : List (List Int)} {right : List Int} (h : sysB p rows right = true) : ∀ r ∈ augM rows right rows.length, r.length = rows.length + 1 ∧ ∀ x ∈ r, 0 ≤ x ∧ x < p := by
  obtain ⟨hp, h1, h6, hl, hr, hm⟩ := sysB_of h
  intro r hr'
  obtain ⟨i, hi, rfl⟩ := List.mem_map.1 hr'
  have hi' := List.mem_range.1 hi
  have e1 : rows.getD i [] = rows[i] := by rw [List.getD_eq_getElem?_getD, List.getElem?_eq_getElem hi']; rfl
  have e2 : right.getD i 0 = right[i]'(by omega) := by rw [List.getD_eq_getElem?_getD, List.getElem?_eq_getElem (by omega)]; rfl
  rw [e1, e2]
  have m1 := hm rows[i] (List.getElem_mem _)
  have m2 := hr (right[i]'(by omega)) (List.getElem_mem _)
  refine ⟨by simp [m1.1], fun x hx => ?_⟩
  rcases List.mem_append.1 hx with hx | hx
  · exact m1.2 x hx
  · simp at hx; subst hx; exact m2

theorem set_same_at {α : Type} {l : List α} {i : Nat} {x : α} (h : l[i]? = some x) : l.set i x = l := by
  obtain ⟨hi, rfl⟩ := List.getElem?_eq_some_iff.1 h
  exact List.set_getElem_self hi

/-! ### a system in memory -/
/-- The n rows of n + 1 elements of the field lie each in a block of its own, the slice of them in block g. -/
structure Sys (w : World) (B g cap : Nat) (vs : List Value) (p : Int) (n : Nat) (M : List (List Int)) : Prop where
  own : OwnRs w B (.slice (some ⟨g, 0, none⟩) n cap) vs M
  len : M.length = n
  rows : ∀ r ∈ M, r.length = n + 1 ∧ ∀ x ∈ r, 0 ≤ x ∧ x < p
section
variable {w w' : World} {B g cap n : Nat} {vs : List Value} {p : Int} {M : List (List Int)}
theorem Sys.below (h : Sys w B g cap vs p n M) (hb : Below w.heap.size w w') : Sys w' B g cap vs p n M := ⟨h.own.below hb, h.len, h.rows⟩
theorem Sys.drewN (h : Sys w B g cap vs p n M) (k : Nat) : Sys (w.drewN k) B g cap vs p n M := h.below (below_drewN (Below.refl _ _) k)
theorem Sys.blk (h : Sys w B g cap vs p n M) : B ≤ g ∧ g < w.heap.size := h.own.bd (.slice (some ⟨g, 0, none⟩) n cap) (by simp) g rfl
theorem Sys.new {v : Value} (h : OwnRs w B v vs M) (hl : M.length = n) (hn : 0 < n) (hr : ∀ r ∈ M, r.length = n + 1 ∧ ∀ x ∈ r, 0 ≤ x ∧ x < p) : ∃ g cap, v = .slice (some ⟨g, 0, none⟩) n cap ∧ n ≤ cap ∧ cap ≤ maxLen ∧ Sys w B g cap vs p n M := by
  obtain ⟨g, c, rfl, hB, hg, h1, h2⟩ := own_pos h.outer (by omega)
  subst hl
  exact ⟨g, c, rfl, h1, h2, h, rfl, hr⟩
/-- A row where it lies. -/
theorem Sys.row (h : Sys w B g cap vs p n M) {i : Nat} (hi : i < n) : ∃ gi ci r, vs[i]? = some (.slice (some ⟨gi, 0, none⟩) (n + 1) ci) ∧ M[i]? = some r ∧ M.getD i [] = r ∧ r.length = n + 1 ∧ (∀ x ∈ r, 0 ≤ x ∧ x < p) ∧
    w.cell? ⟨g, i, none⟩ = some (.slice (some ⟨gi, 0, none⟩) (n + 1) ci) ∧ OwnI w B (.slice (some ⟨gi, 0, none⟩) (n + 1) ci) r ∧ B ≤ gi := by
  obtain ⟨g2, c2, u, r, A, c', e, h1, h2, hvs, hr, rfl, hc, ho⟩ := h.own.at_ (k := i) (by rw [h.len]; exact hi)
  injection e with e1; injection e1 with e1; injection e1 with e1; subst e1
  have hm := h.rows r (List.mem_of_getElem? hr)
  obtain ⟨gi, ci, e, hB, _, _, _⟩ := own_pos ho (by omega)
  injection e with e1 e2 e3
  subst e1 e3
  rw [hm.1] at hvs hc ho
  exact ⟨gi, _, r, hvs, hr, by rw [List.getD_eq_getElem?_getD, hr]; rfl, hm.1, hm.2, hc, ho, hB⟩
/-- A row that is known. -/
theorem Sys.at_ (h : Sys w B g cap vs p n M) {i gi ci : Nat} {r : List Int} (hv : vs[i]? = some (.slice (some ⟨gi, 0, none⟩) (n + 1) ci)) (hr : M[i]? = some r) : r.length = n + 1 ∧ (∀ x ∈ r, 0 ≤ x ∧ x < p) ∧
    w.cell? ⟨g, i, none⟩ = some (.slice (some ⟨gi, 0, none⟩) (n + 1) ci) ∧ OwnI w B (.slice (some ⟨gi, 0, none⟩) (n + 1) ci) r ∧ B ≤ gi := by
  have hi : i < n := by have := (List.getElem?_eq_some_iff.1 hr).1; rw [h.len] at this; exact this
  obtain ⟨g2, c2, r2, h1, h2, h3, h4, h5, h6, h7, h8⟩ := h.row hi
  rw [h1] at hv
  rw [h2] at hr
  injection hv with hv; injection hv with e1 e2 e3; injection e1 with e1; injection e1 with e1
  injection hr with hr
  subst e1 e3 hr
  exact ⟨h4, h5, h6, h7, h8⟩
/-- A number of a row where it lies. -/
theorem row_at {r : List Int} {n d : Nat} {p : Int} {gi ci : Nat} (ho : OwnI w B (.slice (some ⟨gi, 0, none⟩) (n + 1) ci) r) (hl : r.length = n + 1) (hb : ∀ x ∈ r, 0 ≤ x ∧ x < p) (hd : d ≤ n) :
    ∃ x, r[d]? = some x ∧ r.getD d 0 = x ∧ 0 ≤ x ∧ x < p ∧ w.cell? ⟨gi, d, none⟩ = some (.int .i64 x) := by
  have hx : r[d]? = some (r[d]'(by omega)) := List.getElem?_eq_getElem (by omega)
  have hm := hb _ (List.mem_of_getElem? hx)
  exact ⟨_, hx, by rw [List.getD_eq_getElem?_getD, hx]; rfl, hm.1, hm.2, ho.rd hx⟩
/-- A number is written. -/
theorem Sys.put (h : Sys w B g cap vs p n M) {i gi ci : Nat} {r : List Int} (hv : vs[i]? = some (.slice (some ⟨gi, 0, none⟩) (n + 1) ci)) (hr : M[i]? = some r) (d : Nat) {y : Int} (hy : 0 ≤ y ∧ y < p) :
    Sys (w.setCell ⟨gi, d, none⟩ (.int .i64 y)) B g cap vs p n (M.set i (r.set d y)) := by
  have ho := h.own.inner i _ r hv hr
  have hm := h.rows r (List.mem_of_getElem? hr)
  refine ⟨h.own.put hv (w' := w.setCell ⟨gi, d, none⟩ (.int .i64 y)) ⟨rfl, rfl, rfl, by simp, fun k _ hk => Below.heap_setCell _ _ _ _ (fun e => hk (by rw [e]; rfl))⟩ (ho.put d y), by simp [h.len], fun r' hr' => ?_⟩
  rcases List.mem_or_eq_of_mem_set hr' with h1 | rfl
  · exact h.rows r' h1
  · refine ⟨by rw [List.length_set]; exact hm.1, fun x hx => ?_⟩
    rcases List.mem_or_eq_of_mem_set hx with h2 | rfl
    · exact hm.2 x h2
    · exact hy
theorem swap_perm {α : Type} {l : List α} {i j : Nat} {a b : α} (hi : l[i]? = some a) (hj : l[j]? = some b) : ((l.set i b).set j a).Perm l := by
  obtain ⟨h1, rfl⟩ := List.getElem?_eq_some_iff.1 hi
  obtain ⟨h2, rfl⟩ := List.getElem?_eq_some_iff.1 hj
  exact List.set_set_perm h1 h2
theorem swap_at {α : Type} {l : List α} {i j k : Nat} {a b u : α} (hi : l[i]? = some a) (hj : l[j]? = some b) (hk : ((l.set i b).set j a)[k]? = some u) : (k = j ∧ u = a) ∨ (k ≠ j ∧ k = i ∧ u = b) ∨ (k ≠ j ∧ k ≠ i ∧ l[k]? = some u) := by
  have h1 := (List.getElem?_eq_some_iff.1 hi).1
  have h2 := (List.getElem?_eq_some_iff.1 hj).1
  by_cases e : k = j
  · subst e
    rw [List.getElem?_set_self (by simpa using h2)] at hk
    exact .inl ⟨rfl, (Option.some.inj hk).symm⟩
  · rw [List.getElem?_set_ne (fun h => e h.symm)] at hk
    by_cases e2 : k = i
    · subst e2
      rw [List.getElem?_set_self h1] at hk
      exact .inr (.inl ⟨e, rfl, (Option.some.inj hk).symm⟩)
    · rw [List.getElem?_set_ne (fun h => e2 h.symm)] at hk
      exact .inr (.inr ⟨e, e2, hk⟩)
/-- Two rows change places. -/
theorem Sys.swap (h : Sys w B g cap vs p n M) {i j : Nat} {ui uj : Value} (hi : i < n) (hj : j < n) (hvi : vs[i]? = some ui) (hvj : vs[j]? = some uj) :
    Sys ((w.setCell ⟨g, i, none⟩ uj).setCell ⟨g, j, none⟩ ui) B g cap ((vs.set i uj).set j ui) p n (swapM M i j) := by
  have hri : M[i]? = some (M.getD i []) := by rw [List.getD_eq_getElem?_getD, List.getElem?_eq_getElem (by rw [h.len]; exact hi)]; rfl
  have hrj : M[j]? = some (M.getD j []) := by rw [List.getD_eq_getElem?_getD, List.getElem?_eq_getElem (by rw [h.len]; exact hj)]; rfl
  have hap := List.pairwise_cons.1 h.own.apart
  have ho := h.own.outer
  rw [h.len] at ho
  have s1 := ho.stored i uj
  have s2 := s1.1.stored j ui
  have hg : w.grownBy ((w.setCell ⟨g, i, none⟩ uj).setCell ⟨g, j, none⟩ ui) (some g) := only_trans s1.2 s2.2
  have hlen : (swapM M i j).length = n := by simp [swapM, h.len]
  refine ⟨⟨by simp [hlen, h.own.len, h.len], ?_, fun k u r hu hr => ?_, List.pairwise_cons.2 ⟨fun u hu => hap.1 u ((swap_perm hvi hvj).mem_iff.1 hu), ?_⟩⟩, hlen, fun r hr => ?_⟩
  · rw [hlen]; exact s2.1
  · have hin : ∀ (k : Nat) (u : Value) (r : List Int), vs[k]? = some u → M[k]? = some r → OwnI ((w.setCell ⟨g, i, none⟩ uj).setCell ⟨g, j, none⟩ ui) B u r := fun k u r hu hr =>
      (h.own.inner k u r hu hr).grown hg fun b hb e => by
        injection e with e; subst e
        exact hap.1 u (List.mem_of_getElem? hu) _ rfl hb
    unfold swapM at hr
    rcases swap_at hvi hvj hu with ⟨e, rfl⟩ | ⟨e1, e2, rfl⟩ | ⟨e1, e2, hu'⟩ <;> rcases swap_at hri hrj hr with ⟨f, rfl⟩ | ⟨f1, f2, rfl⟩ | ⟨f1, f2, hr'⟩
    · exact hin i _ _ hvi hri
    · exact absurd e f1
    · exact absurd e f1
    · exact absurd f e1
    · exact hin j _ _ hvj hrj
    · exact absurd e2 f2
    · exact absurd f e1
    · exact absurd f2 e2
    · exact hin k _ _ hu' hr'
  · exact ((swap_perm hvi hvj).pairwise_iff (fun h => Apt.symm h)).2 hap.2
  · unfold swapM at hr
    exact h.rows r ((swap_perm hri hrj).mem_iff.1 hr)
theorem Sys.free (h : Sys w B g cap vs p n M) (i : Nat) : w.frozen? ⟨g, i, none⟩ = false := by
  have ho := h.own.outer
  rw [h.len] at ho
  exact ho.frozenAt i
end
end Go.Proofs.Ytjijghfagaigbaa
