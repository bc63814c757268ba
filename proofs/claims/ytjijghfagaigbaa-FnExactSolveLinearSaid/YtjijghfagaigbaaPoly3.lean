/- Plain facts on the product of a polynomial and a linear factor, and on a sum of polynomials, cell by cell. No program. -/
import Derived.Test.YtjijghfagaigbaaPoly2
namespace Go.Proofs.Ytjijghfagaigbaa
set_option linter.unusedVariables false

section
variable {p a : Int}
theorem tmG_step : ∀ (l : List Int) (prev c : Int), tmG p a prev (l ++ [c]) = ((tmG p a prev l).set l.length (((tmG p a prev l).getD l.length 0 + c * a) % p)) ++ [c % p]
  | [], prev, c => by simp [tmG]
  | d :: l, prev, c => by
    have ih := tmG_step l (d % p) c
    simp only [List.cons_append, tmG, List.length_cons, List.set_cons_succ, List.getD_cons_succ, ih]
theorem tmG_bd (hp : 0 < p) : ∀ (l : List Int) (prev : Int), 0 ≤ prev ∧ prev < p → ∀ z ∈ tmG p a prev l, 0 ≤ z ∧ z < p
  | [], prev, h, z, hz => by simp [tmG] at hz; subst hz; exact h
  | d :: l, prev, h, z, hz => by
    rcases List.mem_cons.1 hz with rfl | hz
    · exact mod_bd _ hp
    · exact tmG_bd hp l _ (mod_bd _ hp) z hz
/-- The cells behind the first d coefficients. -/
def stM (p a : Int) (l : List Int) (d : Nat) : List Int := tmG p a 0 (l.take d) ++ List.replicate (l.length - d) 0
theorem stM_zero (l : List Int) : stM p a l 0 = List.replicate (l.length + 1) 0 := by
  simp [stM, tmG, List.replicate_succ]
theorem stM_all (l : List Int) : stM p a l l.length = timesM p l a := by
  simp [stM, timesM]
theorem stM_length {l : List Int} {d : Nat} (hd : d ≤ l.length) : (stM p a l d).length = l.length + 1 := by
  unfold stM; rw [List.length_append, tmG_length]; simp; omega
theorem stM_at (hp : 0 < p) {l : List Int} {d : Nat} (hd : d < l.length) : ∃ v, (stM p a l d)[d]? = some v ∧ (stM p a l d)[d + 1]? = some 0 ∧ (0 ≤ v ∧ v < p) ∧ v = (tmG p a 0 (l.take d)).getD d 0 := by
  have hl : (tmG p a 0 (l.take d)).length = d + 1 := by rw [tmG_length]; simp; omega
  have h1 : (tmG p a 0 (l.take d))[d]? = some ((tmG p a 0 (l.take d))[d]'(by omega)) := List.getElem?_eq_getElem _
  refine ⟨(tmG p a 0 (l.take d))[d]'(by omega), ?_, ?_, ?_, ?_⟩
  · unfold stM; rw [List.getElem?_append_left (by omega)]; exact h1
  · unfold stM; rw [List.getElem?_append_right (by omega), hl, List.getElem?_replicate]; simp; omega
  · exact tmG_bd hp _ 0 ⟨Int.le_refl _, hp⟩ _ (List.getElem_mem _)
  · rw [List.getD, h1]; rfl
theorem stM_step {l : List Int} {d : Nat} {c : Int} (hc : l[d]? = some c) : stM p a l (d + 1) = ((stM p a l d).set (d + 1) (c % p)).set d (((tmG p a 0 (l.take d)).getD d 0 + c * a) % p) ∧
    stM p a l (d + 1) = ((stM p a l d).set d (((tmG p a 0 (l.take d)).getD d 0 + c * a) % p)).set (d + 1) (c % p) := by
  have hd : d < l.length := (List.getElem?_eq_some_iff.1 hc).1
  have hl : (tmG p a 0 (l.take d)).length = d + 1 := by rw [tmG_length]; simp; omega
  have ht : l.take (d + 1) = l.take d ++ [c] := by rw [List.take_add_one, hc]; rfl
  have hld : (l.take d).length = d := by simp; omega
  have hr : l.length - d = (l.length - (d + 1)) + 1 := by omega
  have key : stM p a l (d + 1) = ((stM p a l d).set d (((tmG p a 0 (l.take d)).getD d 0 + c * a) % p)).set (d + 1) (c % p) := by
    unfold stM
    rw [ht, tmG_step, hld, List.set_append_left _ _ (by omega), List.set_append_right _ _ (by simp; omega), List.length_set, hl, Nat.sub_self, hr, List.replicate_succ, List.set_cons_zero]
    simp
  refine ⟨?_, key⟩
  rw [key, List.set_comm _ _ (by omega)]
/-- The first d cells of a sum. -/
def accM (f : Int → Int → Int) (o m : List Int) (d : Nat) : List Int := List.zipWith f (o.take d) (m.take d) ++ o.drop d
theorem accM_zero (f : Int → Int → Int) (o m : List Int) : accM f o m 0 = o := by simp [accM]
theorem accM_all (f : Int → Int → Int) {o m : List Int} {d : Nat} (h : o.length ≤ d) (h2 : m.length ≤ d) : accM f o m d = List.zipWith f o m := by
  unfold accM; rw [List.take_of_length_le h, List.take_of_length_le h2, List.drop_eq_nil_of_le h]; simp
theorem accM_length (f : Int → Int → Int) {o m : List Int} {d : Nat} (h : o.length = m.length) (hd : d ≤ o.length) : (accM f o m d).length = o.length := by
  unfold accM; rw [List.length_append, List.length_zipWith, List.length_drop, List.length_take, List.length_take]; omega
theorem accM_step (f : Int → Int → Int) {o m : List Int} {d : Nat} {x y : Int} (h : o.length = m.length) (hx : o[d]? = some x) (hy : m[d]? = some y) : (accM f o m d)[d]? = some x ∧ (accM f o m d).set d (f x y) = accM f o m (d + 1) := by
  have hd : d < o.length := (List.getElem?_eq_some_iff.1 hx).1
  have hl : (List.zipWith f (o.take d) (m.take d)).length = d := by rw [List.length_zipWith, List.length_take, List.length_take]; omega
  have e1 : o.take (d + 1) = o.take d ++ [x] := by rw [List.take_add_one, hx]; rfl
  have e2 : m.take (d + 1) = m.take d ++ [y] := by rw [List.take_add_one, hy]; rfl
  constructor
  · unfold accM; rw [List.getElem?_append_right (by omega), hl, Nat.sub_self, List.getElem?_drop]; simpa using hx
  · unfold accM
    rw [List.set_append_right _ _ (by omega), hl, Nat.sub_self, List.drop_eq_getElem_cons hd, List.set_cons_zero, e1, e2, List.zipWith_append (by rw [List.length_take, List.length_take]; omega)]
    simp
/-- The first d cells of a list, changed. -/
def mapM' (f : Int → Int) (m : List Int) (d : Nat) : List Int := (m.take d).map f ++ m.drop d
theorem mapM_zero (f : Int → Int) (m : List Int) : mapM' f m 0 = m := by simp [mapM']
theorem mapM_all (f : Int → Int) (m : List Int) : mapM' f m m.length = m.map f := by simp [mapM']
theorem mapM_length (f : Int → Int) {m : List Int} {d : Nat} (hd : d ≤ m.length) : (mapM' f m d).length = m.length := by
  unfold mapM'; rw [List.length_append, List.length_map, List.length_drop, List.length_take]; omega
theorem mapM_step (f : Int → Int) {m : List Int} {d : Nat} {y : Int} (hy : m[d]? = some y) : (mapM' f m d)[d]? = some y ∧ (mapM' f m d).set d (f y) = mapM' f m (d + 1) := by
  have hd : d < m.length := (List.getElem?_eq_some_iff.1 hy).1
  have hl : ((m.take d).map f).length = d := by rw [List.length_map, List.length_take]; omega
  have e2 : m.take (d + 1) = m.take d ++ [y] := by rw [List.take_add_one, hy]; rfl
  constructor
  · unfold mapM'; rw [List.getElem?_append_right (by omega), hl, Nat.sub_self, List.getElem?_drop]; simpa using hy
  · unfold mapM'
    rw [List.set_append_right _ _ (by omega), hl, Nat.sub_self, List.drop_eq_getElem_cons hd, List.set_cons_zero, e2, List.map_append]
    simp
/-! ### bounds -/
theorem timesM_bd (hp : 0 < p) (l : List Int) (a : Int) : ∀ z ∈ timesM p l a, 0 ≤ z ∧ z < p := tmG_bd hp l 0 ⟨Int.le_refl _, hp⟩
theorem prodM_snoc (p : Int) (os : List Int) (o : Int) : prodM p (os ++ [o]) = timesM p (prodM p os) (p - o) := by simp [prodM]
theorem valM_snoc (p x : Int) (os : List Int) (o : Int) : valM p x (os ++ [o]) = valM p x os * (x - o + p) % p := by simp [valM]
theorem partM_snoc (p x y : Int) (os : List Int) (o : Int) : partM p x y (os ++ [o]) = (timesM p (partM p x y os) (-o % p)).map (fun c => c * invM p ((x - o) % p) % p) := by simp [partM]
theorem prodM_bd (hp : 1 < p) (os : List Int) : ∀ z ∈ prodM p os, 0 ≤ z ∧ z < p := by
  have key : ∀ (os l : List Int), (∀ c ∈ l, 0 ≤ c ∧ c < p) → ∀ c ∈ os.foldl (fun s o => timesM p s (p - o)) l, 0 ≤ c ∧ c < p := by
    intro os
    induction os with
    | nil => intro l hl; exact hl
    | cons o os ih => intro l hl; rw [List.foldl_cons]; exact ih _ (timesM_bd (by omega) l (p - o))
  exact key os [1] (by intro c hc; simp at hc; omega)
theorem zip_bd (hp : 0 < p) (g : Int → Int → Int) : ∀ (l m : List Int), ∀ z ∈ List.zipWith (fun o c => g o c % p) l m, 0 ≤ z ∧ z < p
  | [], _, z, hz => by simp at hz
  | _ :: _, [], z, hz => by simp at hz
  | x :: l, y :: m, z, hz => by
    rcases List.mem_cons.1 hz with rfl | hz
    · exact mod_bd _ hp
    · exact zip_bd hp g l m z hz
theorem rows_from (hp : 0 < p) (xs ys : List Int) : ∀ (is : List Nat) (out : List Int), (∀ i ∈ is, i < xs.length) → out.length = xs.length → (∀ z ∈ out, 0 ≤ z ∧ z < p) →
    (is.foldl (rowM p xs ys) out).length = xs.length ∧ ∀ z ∈ is.foldl (rowM p xs ys) out, 0 ≤ z ∧ z < p
  | [], out, _, h, h2 => ⟨h, h2⟩
  | i :: is, out, hi, h, h2 => by
    rw [List.foldl_cons]
    exact rows_from hp xs ys is _ (fun j hj => hi j (by simp [hj])) (rowM_length (hi i (by simp)) h) (zip_bd hp (fun o c => o + c * scaleM p xs ys i) _ _)
theorem rows_bd (hp : 0 < p) (xs ys : List Int) {i : Nat} (hi : i ≤ xs.length) : ((List.range i).foldl (rowM p xs ys) (List.replicate xs.length 0)).length = xs.length ∧ ∀ z ∈ (List.range i).foldl (rowM p xs ys) (List.replicate xs.length 0), 0 ≤ z ∧ z < p :=
  rows_from hp xs ys _ _ (fun j hj => by have := List.mem_range.1 hj; omega) (by simp) (fun z hz => by have := (List.mem_replicate.1 hz).2; omega)
theorem rows_snoc (p : Int) (xs ys : List Int) (i : Nat) : (List.range (i + 1)).foldl (rowM p xs ys) (List.replicate xs.length 0) = rowM p xs ys ((List.range i).foldl (rowM p xs ys) (List.replicate xs.length 0)) i := by
  rw [List.range_succ, List.foldl_append]; rfl
theorem polyM_bd (hp : 0 < p) (xs ys : List Int) : ∀ z ∈ polyM p xs ys, 0 ≤ z ∧ z < p := (rows_bd hp xs ys (Nat.le_refl _)).2
end
end Go.Proofs.Ytjijghfagaigbaa
