/- Plain facts on interpolation modulo a prime: the polynomial takes the values asked, it is the only one with so few coefficients, and shares fit in whatever order. No program. -/
import Derived.Test.YtjijghfagaigbaaPoly
namespace Go.Proofs.Ytjijghfagaigbaa
set_option linter.unusedVariables false

section
variable {p : Int}
/-- No two numbers of the list are the same modulo p. -/
def Dis (p : Int) (xs : List Int) : Prop := xs.Pairwise (fun a b => ¬ p ∣ b - a)
theorem dis_of {xs : List Int} (hn : xs.Nodup) (hb : ∀ x ∈ xs, 0 ≤ x ∧ x < p) : Dis p xs := by
  refine List.Pairwise.imp_of_mem ?_ hn
  intro a b ha hb' hne hd
  have h1 := hb a ha
  have h2 := hb b hb'
  rcases Int.lt_trichotomy a b with h | h | h
  · exact not_dvd_small (by omega) (by omega) hd
  · exact hne h
  · have h2 : p ∣ a - b := by have := Int.dvd_neg.2 hd; rwa [Int.neg_sub] at this
    exact not_dvd_small (by omega) (by omega) h2
theorem Dis.at_ {xs : List Int} (h : Dis p xs) {i j : Nat} {a b : Int} (hi : xs[i]? = some a) (hj : xs[j]? = some b) (hne : i ≠ j) : ¬ p ∣ b - a := by
  obtain ⟨hi', rfl⟩ := List.getElem?_eq_some_iff.1 hi
  obtain ⟨hj', rfl⟩ := List.getElem?_eq_some_iff.1 hj
  rcases Nat.lt_or_gt_of_ne hne with hl | hl
  · exact List.pairwise_iff_getElem.1 h i j hi' hj' hl
  · intro hd
    refine List.pairwise_iff_getElem.1 h j i hj' hi' hl ?_
    have := Int.dvd_neg.2 hd; rwa [Int.neg_sub] at this
theorem Dis.sub {xs ys : List Int} (h : Dis p xs) (hs : ys.Sublist xs) : Dis p ys := h.sublist hs

/-! ### few roots -/
def quotP : List Int → Int → List Int
  | [], _ => []
  | [_], _ => []
  | _ :: c' :: cs, r => pe (c' :: cs) r :: quotP (c' :: cs) r
theorem quotP_length : ∀ (cs : List Int) (r : Int), (quotP cs r).length = cs.length - 1
  | [], _ => rfl
  | [_], _ => rfl
  | _ :: c' :: cs, r => by simp only [quotP, List.length_cons]; rw [quotP_length (c' :: cs) r]; simp
theorem quotP_spec : ∀ (cs : List Int) (x r : Int), pe cs x - pe cs r = (x - r) * pe (quotP cs r) x
  | [], x, r => by simp [pe, quotP]
  | [c], x, r => by simp [pe, quotP]
  | c :: c' :: cs, x, r => by
    have ih := quotP_spec (c' :: cs) x r
    have e : pe (c :: c' :: cs) x - pe (c :: c' :: cs) r = x * (pe (c' :: cs) x - pe (c' :: cs) r) + (x - r) * pe (c' :: cs) r := by
      simp only [pe]; grind
    rw [e, ih]
    show _ = (x - r) * (pe (c' :: cs) r + x * pe (quotP (c' :: cs) r) x)
    grind
/-- A polynomial with as many roots as coefficients is 0 everywhere. -/
theorem roots_all (hp : PrimeP p) : ∀ (rs cs : List Int), cs.length ≤ rs.length → Dis p rs → (∀ r ∈ rs, p ∣ pe cs r) → ∀ x, p ∣ pe cs x
  | [], cs, hl, _, _, x => by
    have : cs = [] := List.eq_nil_of_length_eq_zero (by simpa using hl)
    subst this; exact ⟨0, by simp [pe]⟩
  | r :: rs, cs, hl, hd, hr, x => by
    have hd' := List.pairwise_cons.1 hd
    have ih := roots_all hp rs (quotP cs r) (by rw [quotP_length]; simp at hl; omega) hd'.2 (fun s hs => by
      have h1 : p ∣ (s - r) * pe (quotP cs r) s := by
        rw [← quotP_spec cs s r]
        exact Int.dvd_sub (hr s (by simp [hs])) (hr r (by simp))
      rcases prime_mul hp h1 with h2 | h2
      · exact absurd h2 (hd'.1 s hs)
      · exact h2) x
    have h2 := quotP_spec cs x r
    have h3 : pe cs x = pe cs r + (x - r) * pe (quotP cs r) x := by omega
    rw [h3]
    exact Int.dvd_add (hr r (by simp)) (Int.dvd_mul_of_dvd_right ih)
def subP : List Int → List Int → List Int
  | [], [] => []
  | [], b :: m => -b :: subP [] m
  | a :: l, [] => a :: subP l []
  | a :: l, b :: m => (a - b) :: subP l m
theorem subP_pe (x : Int) : ∀ l m : List Int, pe (subP l m) x = pe l x - pe m x
  | [], [] => by simp [subP, pe]
  | [], b :: m => by simp only [subP, pe]; rw [subP_pe x [] m]; simp only [pe]; grind
  | a :: l, [] => by simp only [subP, pe]; rw [subP_pe x l []]; simp only [pe]; grind
  | a :: l, b :: m => by simp only [subP, pe]; rw [subP_pe x l m]; grind
theorem subP_length : ∀ l m : List Int, (subP l m).length = max l.length m.length
  | [], [] => by simp [subP]
  | [], b :: m => by simp only [subP, List.length_cons]; rw [subP_length [] m]; simp
  | a :: l, [] => by simp only [subP, List.length_cons]; rw [subP_length l []]; simp
  | a :: l, b :: m => by simp only [subP, List.length_cons]; rw [subP_length l m]; omega
theorem pe_only (hp : PrimeP p) {rs l m : List Int} (hl : l.length ≤ rs.length) (hm : m.length ≤ rs.length) (hd : Dis p rs) (h : ∀ r ∈ rs, Cg p (pe l r) (pe m r)) (x : Int) : Cg p (pe l x) (pe m x) := by
  have := roots_all hp rs (subP l m) (by rw [subP_length]; omega) hd (fun r hr => by rw [subP_pe]; exact (h r hr).toDvd) x
  rw [subP_pe] at this
  exact Cg.dvd this

/-! ### the polynomial goes through the points -/
theorem lin_zero {x : Int} : ∀ {os : List Int}, x ∈ os → lin x os = 0
  | o :: os, h => by
    rcases List.mem_cons.1 h with rfl | h
    · simp [lin]
    · simp [lin, lin_zero h]
theorem lin_invs (hp : PrimeP p) {x : Int} : ∀ {os : List Int}, (∀ o ∈ os, ¬ p ∣ x - o) → Cg p (lin x os * invs p x os) 1
  | [], _ => Cg.of (by simp [lin, invs])
  | o :: os, h => by
    have ih := lin_invs hp (os := os) fun o' h' => h o' (by simp [h'])
    have hn : ¬ p ∣ (x - o) % p := fun hd => h o (by simp) ((Int.dvd_iff_emod_eq_zero ..).2 (by have := Int.emod_eq_zero_of_dvd hd; rwa [Int.emod_emod] at this))
    have h1 : Cg p ((x - o) % p * invM p ((x - o) % p)) 1 := Cg.ofEq (by
      have := inv_mul hp hn
      have h2 := hp.1
      rw [show invM p ((x - o) % p) = powM p ((x - o) % p) (p - 2) from rfl, this, Int.emod_eq_of_lt (by omega) (by omega)])
    have h2 : Cg p ((x - o) * invM p ((x - o) % p)) 1 := ((Cg.mod p (x - o)).symm.mul (Cg.refl _ _)).trans h1
    exact (Cg.of (by simp only [lin, invs]; grind)).trans ((h2.mul ih).trans (Cg.of (by simp)))
theorem sum_one (f : Nat → Int) (i : Nat) (v : Int) (h1 : Cg p (f i) v) (h0 : ∀ j, j ≠ i → Cg p (f j) 0) : ∀ n, Cg p ((List.range n).foldl (fun s j => (s + f j) % p) 0) (if i < n then v else 0)
  | 0 => Cg.refl _ _
  | n + 1 => by
    have ih := sum_one f i v h1 h0 n
    rw [List.range_succ, List.foldl_append]
    refine (Cg.mod _ _).trans ?_
    by_cases e : n = i
    · subst e
      rw [if_neg (Nat.lt_irrefl n)] at ih
      rw [if_pos (Nat.lt_succ_self n)]
      exact (ih.add h1).trans (Cg.of (by omega))
    · refine (ih.add (h0 n e)).trans (Cg.of ?_)
      by_cases h : i < n
      · rw [if_pos h, if_pos (by omega)]; omega
      · rw [if_neg h, if_neg (by omega)]; omega
theorem getD_some {l : List Int} {i : Nat} {a : Int} (h : l[i]? = some a) : l.getD i 0 = a := by simp [List.getD, h]
theorem at_point (hp : PrimeP p) {xs ys : List Int} (hd : Dis p xs) {i : Nat} {x y : Int} (hx : xs[i]? = some x) (hy : ys[i]? = some y) (hl : xs.length = ys.length) : Cg p (atM p xs ys x) y := by
  have hi : i < ys.length := (List.getElem?_eq_some_iff.1 hy).1
  have h := sum_one (p := p) (fun j => if j < ys.length then ys.getD j 0 * weightM p (xs.getD j 0) x (xs.eraseIdx j) else 0) i y ?_ ?_ ys.length
  · rw [if_pos hi] at h
    refine Cg.trans (Cg.of ?_) h
    unfold atM
    have key : ∀ (is : List Nat) (s : Int), (∀ j ∈ is, j < ys.length) → is.foldl (fun s j => (s + ys.getD j 0 * weightM p (xs.getD j 0) x (xs.eraseIdx j)) % p) s = is.foldl (fun s j => (s + if j < ys.length then ys.getD j 0 * weightM p (xs.getD j 0) x (xs.eraseIdx j) else 0) % p) s := by
      intro is
      induction is with
      | nil => intro s _; rfl
      | cons j is ih =>
        intro s hj
        rw [List.foldl_cons, List.foldl_cons, if_pos (hj j (by simp))]
        exact ih _ fun k hk => hj k (by simp [hk])
    exact key _ 0 fun j hj => List.mem_range.1 hj
  · rw [if_pos hi, getD_some hy, getD_some hx]
    have h2 := lin_invs hp (x := x) (os := xs.eraseIdx i) fun o ho => by
      obtain ⟨k, hk, hk2⟩ := List.mem_eraseIdx_iff_getElem?.1 ho
      exact hd.at_ hk2 hx hk
    exact ((Cg.refl p y).mul ((weightM_cg p x x _).trans h2)).trans (Cg.of (by simp))
  · intro j hj
    split
    · have h2 : lin x (xs.eraseIdx j) = 0 := lin_zero (List.mem_eraseIdx_iff_getElem?.2 ⟨i, fun e => hj e.symm, hx⟩)
      exact ((Cg.refl p _).mul (weightM_cg p _ x _)).trans (Cg.of (by rw [h2]; simp))
    · exact Cg.refl _ _

/-! ### fitting shares -/
def Fits (p : Int) (xs ys : List Int) (t : Nat) : Prop := ∃ cs : List Int, cs.length ≤ t ∧ ∀ (i : Nat) (x y : Int), xs[i]? = some x → ys[i]? = some y → Cg p (pe cs x) y
theorem take_some {l : List Int} {t i : Nat} {a : Int} (h : l[i]? = some a) (hi : i < t) : (l.take t)[i]? = some a := by rw [List.getElem?_take, if_pos hi]; exact h
theorem fits_few (hp : PrimeP p) {xs ys : List Int} (hd : Dis p xs) (hl : xs.length = ys.length) {t : Nat} (ht : xs.length ≤ t) : Fits p xs ys t :=
  ⟨polyM p xs ys, by rw [polyM_length]; exact ht, fun i x y hx hy => (poly_at p x hl).trans (at_point hp hd hx hy hl)⟩
/-- Where shares fit, the first t of them give the polynomial. -/
theorem fits_at (hp : PrimeP p) {xs ys : List Int} (hd : Dis p xs) (hl : xs.length = ys.length) {t : Nat} (ht : t ≤ xs.length) {cs : List Int} (hc : cs.length ≤ t)
    (h : ∀ (i : Nat) (x y : Int), xs[i]? = some x → ys[i]? = some y → Cg p (pe cs x) y) (x : Int) : Cg p (atM p (xs.take t) (ys.take t) x) (pe cs x) := by
  have hl2 : (xs.take t).length = (ys.take t).length := by simp [hl]
  have hlt : (xs.take t).length = t := by simp; omega
  refine (poly_at p x hl2).symm.trans (pe_only hp (rs := xs.take t) (by rw [polyM_length]; exact Nat.le_refl _) (by omega) (hd.sub (List.take_sublist t xs)) (fun r hr => ?_) x)
  obtain ⟨i, hi⟩ := List.getElem?_of_mem hr
  have hil : i < t := by have := (List.getElem?_eq_some_iff.1 hi).1; omega
  have hi2 : xs[i]? = some r := by rw [List.getElem?_take, if_pos hil] at hi; exact hi
  obtain ⟨y, hy⟩ : ∃ y, ys[i]? = some y := ⟨ys[i]'(by omega), List.getElem?_eq_getElem _⟩
  exact (poly_at p r hl2).trans ((at_point hp (hd.sub (List.take_sublist t xs)) hi (take_some hy hil) hl2).trans (h i r y hi2 hy).symm)
theorem fits_all (hp : PrimeP p) {xs ys : List Int} (hd : Dis p xs) (hl : xs.length = ys.length) {t : Nat} (ht : t ≤ xs.length) (h : Fits p xs ys t) (x : Int) : Cg p (atM p (xs.take t) (ys.take t) x) (atM p xs ys x) := by
  obtain ⟨cs, hc, h⟩ := h
  have h1 := fits_at hp hd hl ht hc h x
  have h2 := fits_at hp hd hl (Nat.le_refl _) (Nat.le_trans hc ht) h x
  rw [List.take_of_length_le (Nat.le_refl _), List.take_of_length_le (by omega)] at h2
  exact h1.trans h2.symm
/-- The reference's test, from the share t on. -/
def fitS (p : Int) (xs ys : List Int) (t : Nat) : Bool := (List.range xs.length).all fun i => decide (i < t) || (atM p (xs.take t) (ys.take t) (xs.getD i 0) == ys.getD i 0)
/-- The program's test, of all shares. -/
def fitI (p : Int) (xs ys : List Int) (t : Nat) : Bool := decide (xs.length ≤ t) || (List.range xs.length).all fun i => (atM p (xs.take t) (ys.take t) (xs.getD i 0) == ys.getD i 0)
theorem getD_of {l : List Int} {i : Nat} (h : i < l.length) : l[i]? = some (l.getD i 0) := by simp [List.getD, List.getElem?_eq_getElem h]
theorem fitS_iff (hp : PrimeP p) {xs ys : List Int} (hd : Dis p xs) (hl : xs.length = ys.length) (hb : ∀ y ∈ ys, 0 ≤ y ∧ y < p) (t : Nat) : fitS p xs ys t = true ↔ Fits p xs ys t := by
  have hp2 := hp.1
  have hl2 : (xs.take t).length = (ys.take t).length := by simp [hl]
  constructor
  · intro h
    refine ⟨polyM p (xs.take t) (ys.take t), by rw [polyM_length]; simp; omega, fun i x y hx hy => (poly_at p x hl2).trans ?_⟩
    have hi : i < xs.length := (List.getElem?_eq_some_iff.1 hx).1
    by_cases hit : i < t
    · exact at_point hp (hd.sub (List.take_sublist t xs)) (take_some hx hit) (take_some hy hit) hl2
    · have h1 := List.all_eq_true.1 h i (List.mem_range.2 hi)
      simp only [hit, decide_false, Bool.false_or, beq_iff_eq, getD_some hx, getD_some hy] at h1
      exact Cg.of h1
  · rintro ⟨cs, hc, h⟩
    refine List.all_eq_true.2 fun i hi => ?_
    have hi' := List.mem_range.1 hi
    by_cases hit : i < t
    · simp [hit]
    · have hy := getD_of (l := ys) (i := i) (by omega)
      have h1 := (fits_at hp hd hl (t := t) (by omega) hc h (xs.getD i 0)).trans (h i _ _ (getD_of hi') hy)
      have h2 := h1.eqOf (atM_bd (by omega) _ _ _) (hb _ (List.mem_of_getElem? hy))
      rw [h2]; simp
theorem fitI_eq (hp : PrimeP p) {xs ys : List Int} (hd : Dis p xs) (hl : xs.length = ys.length) (hb : ∀ y ∈ ys, 0 ≤ y ∧ y < p) (t : Nat) : fitI p xs ys t = fitS p xs ys t := by
  have hp2 := hp.1
  have hl2 : (xs.take t).length = (ys.take t).length := by simp [hl]
  unfold fitI fitS
  by_cases h : xs.length ≤ t
  · rw [decide_eq_true h, Bool.true_or]
    symm
    refine List.all_eq_true.2 fun i hi => ?_
    have := List.mem_range.1 hi
    simp; omega
  · rw [decide_eq_false h, Bool.false_or]
    refine Bool.eq_iff_iff.2 ?_
    rw [List.all_eq_true, List.all_eq_true]
    refine forall_congr' fun i => forall_congr' fun hi => ?_
    have hi' := List.mem_range.1 hi
    by_cases hit : i < t
    · have hx := getD_of (l := xs) hi'
      have hy := getD_of (l := ys) (i := i) (by omega)
      have h1 := (at_point hp (hd.sub (List.take_sublist t xs)) (take_some hx hit) (take_some hy hit) hl2).eqOf (atM_bd (by omega) _ _ _) (hb _ (List.mem_of_getElem? hy))
      rw [h1]; simp
    · simp [hit]
/-- Where shares do not fit, there is one at most without which they do. -/
theorem wrong_one (hp : PrimeP p) {xs ys : List Int} (hd : Dis p xs) (hl : xs.length = ys.length) {t i j : Nat} (hij : i < j) (hj : j < xs.length) (ht : t + 2 ≤ xs.length)
    (h1 : Fits p (xs.eraseIdx i) (ys.eraseIdx i) t) (h2 : Fits p (xs.eraseIdx j) (ys.eraseIdx j) t) : Fits p xs ys t := by
  obtain ⟨cs, hc, hcs⟩ := h1
  obtain ⟨ds, hd2, hds⟩ := h2
  have er : ∀ (l : List Int) (i k : Nat) (a : Int), l[k]? = some a → k ≠ i → ∃ k' : Nat, (∀ m : List Int, (m.eraseIdx i)[k']? = m[k]?) := by
    intro l i k a _ hk
    rcases Nat.lt_or_gt_of_ne hk with h | h
    · exact ⟨k, fun m => List.getElem?_eraseIdx_of_lt h⟩
    · exact ⟨k - 1, fun m => by rw [List.getElem?_eraseIdx_of_ge (by omega), show k - 1 + 1 = k by omega]⟩
  have key : ∀ x, Cg p (pe cs x) (pe ds x) := by
    refine pe_only hp (rs := (xs.eraseIdx j).eraseIdx i) ?_ ?_ (hd.sub ((List.eraseIdx_sublist _ _).trans (List.eraseIdx_sublist _ _))) fun r hr => ?_
    · rw [List.length_eraseIdx_of_lt (by rw [List.length_eraseIdx_of_lt hj]; omega), List.length_eraseIdx_of_lt hj]; omega
    · rw [List.length_eraseIdx_of_lt (by rw [List.length_eraseIdx_of_lt hj]; omega), List.length_eraseIdx_of_lt hj]; omega
    · obtain ⟨k, hki, hk⟩ := List.mem_eraseIdx_iff_getElem?.1 hr
      obtain ⟨m, hmj, hm, hmi⟩ : ∃ m, m ≠ j ∧ xs[m]? = some r ∧ m ≠ i := by
        rcases Nat.lt_or_ge k j with h | h
        · rw [List.getElem?_eraseIdx_of_lt h] at hk; exact ⟨k, by omega, hk, hki⟩
        · rw [List.getElem?_eraseIdx_of_ge h] at hk; exact ⟨k + 1, by omega, hk, by omega⟩
      have hml : m < ys.length := by have := (List.getElem?_eq_some_iff.1 hm).1; omega
      have hy := getD_of (l := ys) hml
      obtain ⟨k1, hk1⟩ := er xs i m r hm hmi
      obtain ⟨k2, hk2⟩ := er xs j m r hm hmj
      exact (hcs k1 r _ ((hk1 xs).trans hm) ((hk1 ys).trans hy)).trans (hds k2 r _ ((hk2 xs).trans hm) ((hk2 ys).trans hy)).symm
  refine ⟨cs, hc, fun k x y hx hy => ?_⟩
  by_cases hki : k = i
  · subst hki
    obtain ⟨k2, hk2⟩ := er xs j k x hx (by omega)
    exact (key x).trans (hds k2 x y ((hk2 xs).trans hx) ((hk2 ys).trans hy))
  · obtain ⟨k1, hk1⟩ := er xs i k x hx hki
    exact hcs k1 x y ((hk1 xs).trans hx) ((hk1 ys).trans hy)
/-- One more point in front or behind. -/
theorem fits_front {xs ys : List Int} {x y : Int} {t : Nat} (hl : xs.length = ys.length) : Fits p (xs ++ [x]) (ys ++ [y]) t ↔ Fits p (x :: xs) (y :: ys) t := by
  constructor
  · rintro ⟨cs, hc, h⟩
    refine ⟨cs, hc, fun i a b ha hb => ?_⟩
    cases i with
    | zero => exact h xs.length a b (by simpa using ha) (by rw [hl]; simpa using hb)
    | succ i =>
      have hi : i < xs.length := (List.getElem?_eq_some_iff.1 (show xs[i]? = some a by simpa using ha)).1
      exact h i a b (by rw [List.getElem?_append_left hi]; simpa using ha) (by rw [List.getElem?_append_left (by omega)]; simpa using hb)
  · rintro ⟨cs, hc, h⟩
    refine ⟨cs, hc, fun i a b ha hb => ?_⟩
    rcases Nat.lt_or_ge i xs.length with hi | hi
    · rw [List.getElem?_append_left hi] at ha
      rw [List.getElem?_append_left (by omega)] at hb
      exact h (i + 1) a b (by simpa using ha) (by simpa using hb)
    · rw [List.getElem?_append_right hi] at ha
      rw [List.getElem?_append_right (by omega)] at hb
      have e : i - xs.length = 0 := by have := (List.getElem?_eq_some_iff.1 ha).1; simp at this; omega
      rw [e] at ha
      rw [show i - ys.length = 0 by omega] at hb
      exact h 0 a b (by simpa using ha) (by simpa using hb)
end
end Go.Proofs.Ytjijghfagaigbaa
