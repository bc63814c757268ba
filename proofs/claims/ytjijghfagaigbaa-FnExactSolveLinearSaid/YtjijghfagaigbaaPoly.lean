/- Plain facts on polynomials modulo a prime: products of linear factors, interpolation, and that a polynomial with few coefficients is known by its values. No program. -/
import Derived.Test.YtjijghfagaigbaaFermat
namespace Go.Proofs.Ytjijghfagaigbaa
set_option linter.unusedVariables false

/-! ### congruence -/
def Cg (p a b : Int) : Prop := ∃ k, a = b + p * k
section
variable {p a b c d x y : Int}
theorem Cg.refl (p a : Int) : Cg p a a := ⟨0, by grind⟩
theorem Cg.of (h : a = b) : Cg p a b := h ▸ Cg.refl p a
theorem Cg.symm (h : Cg p a b) : Cg p b a := by obtain ⟨k, h⟩ := h; exact ⟨-k, by grind⟩
theorem Cg.trans (h : Cg p a b) (h2 : Cg p b c) : Cg p a c := by obtain ⟨k, h⟩ := h; obtain ⟨l, h2⟩ := h2; exact ⟨k + l, by grind⟩
theorem Cg.add (h : Cg p a b) (h2 : Cg p c d) : Cg p (a + c) (b + d) := by obtain ⟨k, h⟩ := h; obtain ⟨l, h2⟩ := h2; exact ⟨k + l, by grind⟩
theorem Cg.sub (h : Cg p a b) (h2 : Cg p c d) : Cg p (a - c) (b - d) := by obtain ⟨k, h⟩ := h; obtain ⟨l, h2⟩ := h2; exact ⟨k - l, by grind⟩
theorem Cg.mul (h : Cg p a b) (h2 : Cg p c d) : Cg p (a * c) (b * d) := by obtain ⟨k, h⟩ := h; obtain ⟨l, h2⟩ := h2; exact ⟨k * d + b * l + p * k * l, by grind⟩
theorem Cg.pow (h : Cg p a b) (n : Nat) : Cg p (a ^ n) (b ^ n) := by
  induction n with
  | zero => exact Cg.of (by simp)
  | succ n ih => rw [Int.pow_succ, Int.pow_succ]; exact ih.mul h
theorem Cg.mod (p a : Int) : Cg p (a % p) a := ⟨-(a / p), by have := Int.emod_add_mul_ediv a p; grind⟩
theorem Cg.self (p : Int) : Cg p p 0 := ⟨1, by grind⟩
theorem Cg.eq (h : Cg p a b) : a % p = b % p := by obtain ⟨k, h⟩ := h; rw [h]; exact Int.add_mul_emod_self_left _ _ _
theorem Cg.ofEq (h : a % p = b % p) : Cg p a b := (Cg.mod p a).symm.trans ((Cg.of h).trans (Cg.mod p b))
theorem Cg.eqOf (h : Cg p a b) (ha : 0 ≤ a ∧ a < p) (hb : 0 ≤ b ∧ b < p) : a = b := by
  have := h.eq
  rwa [Int.emod_eq_of_lt ha.1 ha.2, Int.emod_eq_of_lt hb.1 hb.2] at this
theorem Cg.dvd (h : p ∣ a - b) : Cg p a b := by obtain ⟨k, h⟩ := h; exact ⟨k, by grind⟩
theorem Cg.toDvd (h : Cg p a b) : p ∣ a - b := by obtain ⟨k, h⟩ := h; exact ⟨k, by grind⟩
theorem mod_bd (a : Int) (hp : 0 < p) : 0 ≤ a % p ∧ a % p < p := ⟨Int.emod_nonneg _ (by omega), Int.emod_lt_of_pos _ hp⟩
end

/-! ### values -/
def pe : List Int → Int → Int
  | [], _ => 0
  | c :: cs, x => c + x * pe cs x
/-- The value of a polynomial, step by step. -/
def evalM (p : Int) (l : List Int) (x : Int) : Int := l.foldr (fun c acc => (acc * x + c) % p) 0
theorem evalM_cg (p : Int) (l : List Int) (x : Int) : Cg p (evalM p l x) (pe l x) := by
  induction l with
  | nil => exact Cg.refl _ _
  | cons c cs ih =>
    have h1 : Cg p (evalM p (c :: cs) x) (evalM p cs x * x + c) := Cg.mod _ _
    have h2 : Cg p (evalM p cs x * x + c) (pe cs x * x + c) := (ih.mul (Cg.refl _ _)).add (Cg.refl _ _)
    exact (h1.trans h2).trans (Cg.of (by show _ = c + x * pe cs x; grind))
theorem evalM_bd {p : Int} (hp : 0 < p) (l : List Int) (x : Int) : 0 ≤ evalM p l x ∧ evalM p l x < p := by
  cases l with
  | nil => exact ⟨Int.le_refl _, hp⟩
  | cons c cs => exact mod_bd _ hp

/-! ### products of linear factors -/
/-- The product of a polynomial and x + a. -/
def tmG (p a : Int) : Int → List Int → List Int
  | prev, [] => [prev]
  | prev, c :: cs => (prev + c * a) % p :: tmG p a (c % p) cs
def timesM (p : Int) (l : List Int) (a : Int) : List Int := tmG p a 0 l
theorem tmG_length (p a : Int) : ∀ (l : List Int) (prev : Int), (tmG p a prev l).length = l.length + 1
  | [], _ => rfl
  | c :: cs, prev => by simp [tmG, tmG_length p a cs]
theorem tmG_pe (p a x : Int) : ∀ (l : List Int) (prev : Int), Cg p (pe (tmG p a prev l) x) (prev + pe l x * (x + a))
  | [], prev => Cg.of (by simp [tmG, pe])
  | c :: cs, prev => by
    have ih := tmG_pe p a x cs (c % p)
    have h1 : Cg p (pe (tmG p a prev (c :: cs)) x) ((prev + c * a) + x * (c + pe cs x * (x + a))) :=
      (Cg.mod p _).add ((Cg.refl p x).mul (ih.trans ((Cg.mod p c).add (Cg.refl _ _))))
    exact h1.trans (Cg.of (by simp only [pe]; grind))
theorem timesM_length (p : Int) (l : List Int) (a : Int) : (timesM p l a).length = l.length + 1 := tmG_length p a l 0
theorem timesM_pe (p : Int) (l : List Int) (a x : Int) : Cg p (pe (timesM p l a) x) (pe l x * (x + a)) := (tmG_pe p a x l 0).trans (Cg.of (by grind))

def prodM (p : Int) (os : List Int) : List Int := os.foldl (fun s o => timesM p s (p - o)) [1]
def valM (p x : Int) (os : List Int) : Int := os.foldl (fun v o => v * (x - o + p) % p) 1
def partM (p x y : Int) (os : List Int) : List Int := os.foldl (fun s o => (timesM p s (-o % p)).map (fun c => c * invM p ((x - o) % p) % p)) [y]
def weightM (p xi x : Int) (os : List Int) : Int := os.foldl (fun out y => out * ((x - y) % p) % p * invM p ((xi - y) % p) % p) 1
/-- The product of x - o. -/
def lin (x : Int) : List Int → Int
  | [] => 1
  | o :: os => (x - o) * lin x os
/-- The product of the inverses of x - o. -/
def invs (p x : Int) : List Int → Int
  | [] => 1
  | o :: os => invM p ((x - o) % p) * invs p x os
section
variable {p : Int}
theorem prodM_length (p : Int) (os : List Int) : (prodM p os).length = os.length + 1 := by
  have key : ∀ (os s : List Int), (os.foldl (fun s o => timesM p s (p - o)) s).length = os.length + s.length := by
    intro os
    induction os with
    | nil => intro s; simp
    | cons o os ih => intro s; rw [List.foldl_cons, ih, timesM_length]; simp; omega
  exact key os [1]
theorem prodM_pe (p x : Int) (os : List Int) : Cg p (pe (prodM p os) x) (lin x os) := by
  have key : ∀ (os s : List Int), Cg p (pe (os.foldl (fun s o => timesM p s (p - o)) s) x) (pe s x * lin x os) := by
    intro os
    induction os with
    | nil => intro s; exact Cg.of (by simp [lin])
    | cons o os ih =>
      intro s
      rw [List.foldl_cons]
      have h1 : Cg p (x + (p - o)) (x - o) := ⟨1, by grind⟩
      exact (ih _).trans ((((timesM_pe p s (p - o) x).trans ((Cg.refl _ _).mul h1)).mul (Cg.refl _ _)).trans (Cg.of (by simp only [lin]; grind)))
  exact (key os [1]).trans (Cg.of (by simp [pe]))
theorem valM_cg (p x : Int) (os : List Int) : Cg p (valM p x os) (lin x os) := by
  have key : ∀ (os : List Int) (v : Int), Cg p (os.foldl (fun v o => v * (x - o + p) % p) v) (v * lin x os) := by
    intro os
    induction os with
    | nil => intro s; exact Cg.of (by simp [lin])
    | cons o os ih =>
      intro v
      rw [List.foldl_cons]
      have h1 : Cg p (x - o + p) (x - o) := ⟨1, by grind⟩
      exact (ih _).trans ((((Cg.mod _ _).trans ((Cg.refl p v).mul h1)).mul (Cg.refl _ _)).trans (Cg.of (by simp only [lin]; grind)))
  exact (key os 1).trans (Cg.of (by simp))
theorem powM_cg (p a n : Int) : Cg p (powM p a n) (a ^ n.toNat) := Cg.mod _ _
theorem invs_cg (p x : Int) (os : List Int) : Cg p (invs p x os) (lin x os ^ (p - 2).toNat) := by
  induction os with
  | nil => exact Cg.of (by simp [invs, lin, Int.one_pow])
  | cons o os ih =>
    have h1 : Cg p (invM p ((x - o) % p)) ((x - o) ^ (p - 2).toNat) := (powM_cg _ _ _).trans ((Cg.mod p (x - o)).pow _)
    exact (h1.mul ih).trans (Cg.of (by simp only [lin]; rw [Int.mul_pow]))
theorem inv_val (p x : Int) (os : List Int) : Cg p (invM p (valM p x os)) (invs p x os) :=
  ((powM_cg _ _ _).trans ((valM_cg p x os).pow _)).trans (invs_cg p x os).symm
theorem weightM_cg (p xi x : Int) (os : List Int) : Cg p (weightM p xi x os) (lin x os * invs p xi os) := by
  have key : ∀ (os : List Int) (v : Int), Cg p (os.foldl (fun out y => out * ((x - y) % p) % p * invM p ((xi - y) % p) % p) v) (v * (lin x os * invs p xi os)) := by
    intro os
    induction os with
    | nil => intro s; exact Cg.of (by simp [lin, invs])
    | cons o os ih =>
      intro v
      rw [List.foldl_cons]
      have h1 : Cg p (v * ((x - o) % p) % p * invM p ((xi - o) % p) % p) (v * (x - o) * invM p ((xi - o) % p)) :=
        (Cg.mod _ _).trans (((Cg.mod _ _).trans ((Cg.refl p v).mul (Cg.mod p _))).mul (Cg.refl _ _))
      exact (ih _).trans ((h1.mul (Cg.refl _ _)).trans (Cg.of (by simp only [lin, invs]; grind)))
  exact (key os 1).trans (Cg.of (by simp))
theorem weightM_bd (hp : 1 < p) (xi x : Int) (os : List Int) : 0 ≤ weightM p xi x os ∧ weightM p xi x os < p := by
  have key : ∀ (os : List Int) (v : Int), 0 ≤ v ∧ v < p → 0 ≤ os.foldl (fun out y => out * ((x - y) % p) % p * invM p ((xi - y) % p) % p) v ∧ os.foldl (fun out y => out * ((x - y) % p) % p * invM p ((xi - y) % p) % p) v < p := by
    intro os
    induction os with
    | nil => intro v hv; exact hv
    | cons o os ih => intro v hv; rw [List.foldl_cons]; exact ih _ (mod_bd _ (by omega))
  exact key os 1 (by omega)
theorem valM_bd (hp : 1 < p) (x : Int) (os : List Int) : 0 ≤ valM p x os ∧ valM p x os < p := by
  have key : ∀ (os : List Int) (v : Int), 0 ≤ v ∧ v < p → 0 ≤ os.foldl (fun v o => v * (x - o + p) % p) v ∧ os.foldl (fun v o => v * (x - o + p) % p) v < p := by
    intro os
    induction os with
    | nil => intro v hv; exact hv
    | cons o os ih => intro v hv; rw [List.foldl_cons]; exact ih _ (mod_bd _ (by omega))
  exact key os 1 (by omega)

/-! ### the reference's own way to a summand -/
/-- l is s times m. -/
def LC (p s : Int) : List Int → List Int → Prop
  | [], [] => True
  | a :: l, b :: m => Cg p a (s * b) ∧ LC p s l m
  | [], _ :: _ => False
  | _ :: _, [] => False
theorem LC.tmG {s a a' : Int} (ha : Cg p a a') : ∀ (l m : List Int) (prev prev' : Int), LC p s l m → Cg p prev (s * prev') → LC p s (tmG p a prev l) (tmG p a' prev' m)
  | [], [], prev, prev', _, h => ⟨h, trivial⟩
  | c :: l, d :: m, prev, prev', h, h2 =>
    ⟨(Cg.mod _ _).trans ((h2.add (h.1.mul ha)).trans ((Cg.of (by grind)).trans ((Cg.refl p s).mul (Cg.mod p (prev' + d * a')).symm))),
      LC.tmG ha l m (c % p) (d % p) h.2 ((Cg.mod _ _).trans (h.1.trans ((Cg.refl p s).mul (Cg.mod p d).symm)))⟩
  | [], _ :: _, _, _, h, _ => h.elim
  | _ :: _, [], _, _, h, _ => h.elim
theorem LC.scale {s k : Int} : ∀ (l m : List Int), LC p s l m → LC p (s * k) (l.map fun c => c * k % p) m
  | [], [], _ => trivial
  | c :: l, d :: m, h => ⟨(Cg.mod _ _).trans ((h.1.mul (Cg.refl p k)).trans (Cg.of (by grind))), LC.scale l m h.2⟩
  | [], _ :: _, h => h.elim
  | _ :: _, [], h => h.elim
theorem LC.eq {s t : Int} (hst : Cg p s t) : ∀ (l m : List Int), LC p s l m → (∀ x ∈ l, 0 ≤ x ∧ x < p) → 0 < p → l = m.map fun c => c * t % p
  | [], [], _, _, _ => rfl
  | c :: l, d :: m, h, hb, hp => by
    have h1 : c = d * t % p := (h.1.trans (((hst.mul (Cg.refl p d)).trans (Cg.of (by grind))).trans (Cg.mod p (d * t)).symm)).eqOf (hb c (by simp)) (mod_bd _ hp)
    have h2 := LC.eq hst l m h.2 (fun x hx => hb x (by simp [hx])) hp
    rw [List.map_cons, ← h1, ← h2]
  | [], _ :: _, h, _, _ => h.elim
  | _ :: _, [], h, _, _ => h.elim
theorem partM_bd (hp : 0 < p) {y : Int} (x : Int) (hy : 0 ≤ y ∧ y < p) (os : List Int) : ∀ c ∈ partM p x y os, 0 ≤ c ∧ c < p := by
  have key : ∀ (os l : List Int), (∀ c ∈ l, 0 ≤ c ∧ c < p) → ∀ c ∈ os.foldl (fun s o => (timesM p s (-o % p)).map (fun c => c * invM p ((x - o) % p) % p)) l, 0 ≤ c ∧ c < p := by
    intro os
    induction os with
    | nil => intro l hl; exact hl
    | cons o os ih =>
      intro l hl
      rw [List.foldl_cons]
      refine ih _ fun c hc => ?_
      obtain ⟨d, _, rfl⟩ := List.mem_map.1 hc
      exact mod_bd _ hp
  exact key os [y] (by simpa using hy)
theorem partM_lc (p x y : Int) (os : List Int) : LC p (y * invs p x os) (partM p x y os) (prodM p os) := by
  have key : ∀ (os l m : List Int) (s : Int), LC p s l m → LC p (s * invs p x os) (os.foldl (fun s o => (timesM p s (-o % p)).map (fun c => c * invM p ((x - o) % p) % p)) l) (os.foldl (fun s o => timesM p s (p - o)) m) := by
    intro os
    induction os with
    | nil => intro l m s h; simpa [invs] using h
    | cons o os ih =>
      intro l m s h
      rw [List.foldl_cons, List.foldl_cons]
      have ha : Cg p (-o % p) (p - o) := (Cg.mod _ _).trans ⟨-1, by grind⟩
      have h1 := LC.scale (k := invM p ((x - o) % p)) _ _ (LC.tmG ha l m 0 0 h (Cg.of (by simp)))
      have h2 := ih _ _ _ h1
      rw [Int.mul_assoc] at h2
      exact h2
  exact key os [y] [1] y ⟨Cg.of (by simp), trivial⟩
/-- The reference's summand is the program's. -/
theorem partM_eq (hp : 0 < p) {x y : Int} (hy : 0 ≤ y ∧ y < p) (os : List Int) : partM p x y os = (prodM p os).map fun c => c * (y * invM p (valM p x os) % p) % p :=
  LC.eq ((((Cg.refl p y).mul (inv_val p x os).symm)).trans (Cg.mod _ _).symm) _ _ (partM_lc p x y os) (partM_bd hp x hy os) hp

/-! ### interpolation -/
def scaleM (p : Int) (xs ys : List Int) (i : Nat) : Int := ys.getD i 0 * invM p (valM p (xs.getD i 0) (xs.eraseIdx i)) % p
def rowM (p : Int) (xs ys out : List Int) (i : Nat) : List Int := List.zipWith (fun o c => (o + c * scaleM p xs ys i) % p) out (prodM p (xs.eraseIdx i))
def polyM (p : Int) (xs ys : List Int) : List Int := (List.range xs.length).foldl (rowM p xs ys) (List.replicate xs.length 0)
def atM (p : Int) (xs ys : List Int) (x : Int) : Int := (List.range ys.length).foldl (fun s i => (s + ys.getD i 0 * weightM p (xs.getD i 0) x (xs.eraseIdx i)) % p) 0
theorem pe_zip (p s x : Int) : ∀ (l m : List Int), l.length = m.length → Cg p (pe (List.zipWith (fun o c => (o + c * s) % p) l m) x) (pe l x + s * pe m x)
  | [], [], _ => Cg.of (by simp [pe])
  | a :: l, b :: m, h => by
    have ih := pe_zip p s x l m (by simpa using h)
    have h1 : Cg p (pe (List.zipWith (fun o c => (o + c * s) % p) (a :: l) (b :: m)) x) ((a + b * s) + x * (pe l x + s * pe m x)) := (Cg.mod _ _).add ((Cg.refl p x).mul ih)
    exact h1.trans (Cg.of (by simp only [pe]; grind))
  | [], _ :: _, h => by simp at h
  | _ :: _, [], h => by simp at h
theorem pe_zero (n : Nat) (x : Int) : pe (List.replicate n 0) x = 0 := by
  induction n with
  | zero => rfl
  | succ n ih => rw [List.replicate_succ, pe, ih]; simp
theorem prodM_len {xs : List Int} {i : Nat} (hi : i < xs.length) : (prodM p (xs.eraseIdx i)).length = xs.length := by
  rw [prodM_length, List.length_eraseIdx_of_lt hi]; omega
theorem rowM_length {xs ys out : List Int} {i : Nat} (hi : i < xs.length) (ho : out.length = xs.length) : (rowM p xs ys out i).length = xs.length := by
  unfold rowM; rw [List.length_zipWith, prodM_len hi]; omega
theorem poly_at_from (p x : Int) (xs ys : List Int) : ∀ (is : List Nat) (out : List Int) (s : Int), (∀ i ∈ is, i < xs.length) → out.length = xs.length → Cg p (pe out x) s →
    (is.foldl (rowM p xs ys) out).length = xs.length ∧ Cg p (pe (is.foldl (rowM p xs ys) out) x) (is.foldl (fun s i => (s + ys.getD i 0 * weightM p (xs.getD i 0) x (xs.eraseIdx i)) % p) s)
  | [], out, s, _, h, h2 => ⟨h, h2⟩
  | i :: is, out, s, hi, h, h2 => by
    have hil := hi i (by simp)
    rw [List.foldl_cons, List.foldl_cons]
    refine poly_at_from p x xs ys is _ _ (fun j hj => hi j (by simp [hj])) (rowM_length hil h) ?_
    have h3 := pe_zip p (scaleM p xs ys i) x out (prodM p (xs.eraseIdx i)) (by rw [prodM_len hil]; exact h)
    refine h3.trans (Cg.trans ?_ (Cg.mod _ _).symm)
    refine h2.add ?_
    have h4 : Cg p (scaleM p xs ys i) (ys.getD i 0 * invs p (xs.getD i 0) (xs.eraseIdx i)) := (Cg.mod _ _).trans ((Cg.refl _ _).mul (inv_val _ _ _))
    exact (h4.mul (prodM_pe p x _)).trans ((Cg.of (by grind)).trans ((Cg.refl p (ys.getD i 0)).mul (weightM_cg p (xs.getD i 0) x (xs.eraseIdx i)).symm))
theorem polyM_length (p : Int) (xs ys : List Int) : (polyM p xs ys).length = xs.length :=
  (poly_at_from p 0 xs ys (List.range xs.length) _ 0 (fun i hi => List.mem_range.1 hi) (by simp) (Cg.of (pe_zero _ _))).1
theorem poly_at (p x : Int) {xs ys : List Int} (h : xs.length = ys.length) : Cg p (pe (polyM p xs ys) x) (atM p xs ys x) := by
  have := (poly_at_from p x xs ys (List.range xs.length) _ 0 (fun i hi => List.mem_range.1 hi) (by simp) (Cg.of (pe_zero xs.length x))).2
  unfold polyM atM
  rw [h] at this ⊢
  exact this
theorem atM_bd (hp : 0 < p) (xs ys : List Int) (x : Int) : 0 ≤ atM p xs ys x ∧ atM p xs ys x < p := by
  unfold atM
  have key : ∀ (is : List Nat) (s : Int), 0 ≤ s ∧ s < p → 0 ≤ is.foldl (fun s i => (s + ys.getD i 0 * weightM p (xs.getD i 0) x (xs.eraseIdx i)) % p) s ∧ is.foldl (fun s i => (s + ys.getD i 0 * weightM p (xs.getD i 0) x (xs.eraseIdx i)) % p) s < p := by
    intro is
    induction is with
    | nil => intro s hs; exact hs
    | cons i is ih => intro s hs; rw [List.foldl_cons]; exact ih _ (mod_bd _ hp)
  exact key _ 0 ⟨Int.le_refl _, hp⟩
/-- Both ways of interpolation give one value. -/
theorem eval_poly (hp : 0 < p) {xs ys : List Int} (h : xs.length = ys.length) (x : Int) : evalM p (polyM p xs ys) x = atM p xs ys x :=
  ((evalM_cg p _ x).trans (poly_at p x h)).eqOf (evalM_bd hp _ _) (atM_bd hp _ _ _)
end
end Go.Proofs.Ytjijghfagaigbaa
