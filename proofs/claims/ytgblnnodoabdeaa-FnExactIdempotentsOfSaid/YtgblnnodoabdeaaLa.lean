/-
Contracts of functions of the given program, by the abstract walk.
-/
import Derived.Test.YtgblnnodoabdeaaAbsY
import Derived.Test.YtgblnnodoabdeaaKa
import Derived.Test.YtgblnnodoabdeaaIa
namespace Go.Proofs.Ytgblnnodoabdeaa
open Go Go.Abs
set_option linter.unusedVariables false
set_option linter.unusedSectionVars false
set_option linter.unusedSimpArgs false
set_option maxRecDepth 100000
/-! one-element sums -/
def uniX (N x : Nat) : List Int := (List.replicate N 0).set x 1
theorem uniX_len {N x : Nat} : (uniX N x).length = N := by simp [uniX]
theorem uniX_get {N x j : Nat} (hx : x < N) : (uniX N x).getD j 0 = if x = j then 1 else 0 := by
  unfold uniX; rw [getD_set_int (by simp; exact hx), getD_rep0]
theorem uniX_rng {p : Int} {N x : Nat} (hp : PrP p) (hx : x < N) : RngP p (uniX N x) := fun i => by
  have := hp.le
  rw [uniX_get hx]; split <;> omega
theorem tmIn_uni {t : List Int} {p : Int} {N x y : Nat} (hp : PrP p) (hx : x < N) (hy : y < N) (hc : cl t x y < N) : ∀ {k}, k ≤ N → tmIn t p (uniX N x) (uniX N y) x (List.replicate N 0) k = if y < k then uniX N (cl t x y) else List.replicate N 0
  | 0, _ => by rw [if_neg (by omega)]; rfl
  | k + 1, hk => by
    have h2 := hp.le
    rw [tmIn, tmIn_uni hp hx hy hc (by omega), tmAt, uniX_get hx, if_pos rfl, uniX_get hy, Int.one_mul]
    by_cases e : y = k
    · subst e
      rw [if_neg (by omega), if_pos rfl, getD_rep0, if_pos (by omega), Int.zero_add, Int.tmod_eq_of_lt (by omega) (by omega)]; rfl
    · rw [if_neg e, Int.add_zero]
      by_cases e2 : y < k
      · rw [if_pos e2, if_pos (by omega)]
        have hr := uniX_rng (N := N) hp hc (cl t x k)
        rw [Int.tmod_eq_of_lt hr.1 (by omega)]
        refine ext_getD (by simp) fun i hi => ?_
        simp only [List.length_set] at hi
        by_cases hl : cl t x k < (uniX N (cl t x y)).length
        · rw [getD_set_int hl]
          split
          · rename_i e3; rw [e3]
          · rfl
        · rw [List.set_eq_of_length_le (by omega)]
      · rw [if_neg e2, if_neg (by omega), getD_rep0, Int.tmod_eq_of_lt (by omega) (by omega)]
        refine ext_getD (by simp) fun i hi => ?_
        by_cases hl : cl t x k < (List.replicate N (0 : Int)).length
        · rw [getD_set_int hl, getD_rep0]; split <;> rfl
        · rw [List.set_eq_of_length_le (by omega)]
theorem tmT_uni {t : List Int} {p : Int} {N x y : Nat} (hp : PrP p) (hx : x < N) (hy : y < N) (hc : cl t x y < N) : ∀ {k}, k ≤ N → tmT N t p (uniX N x) (uniX N y) k = if x < k then uniX N (cl t x y) else List.replicate N 0
  | 0, _ => by rw [if_neg (by omega)]; rfl
  | k + 1, hk => by
    rw [tmT, tmT_uni hp hx hy hc (by omega)]
    by_cases e : x = k
    · subst e
      rw [if_neg (by omega), tmIn_uni hp hx hy hc (Nat.le_refl N), if_pos hy, if_pos (by omega)]
    · have h0 : (uniX N x).getD k 0 = 0 := by rw [uniX_get hx, if_neg e]
      rw [tmIn_skip hp h0 (by
        split
        · exact uniX_rng hp hc
        · intro i; have := hp.le; rw [getD_rep0]; omega)]
      by_cases e2 : x < k
      · rw [if_pos e2, if_pos (by omega)]
      · rw [if_neg e2, if_neg (by omega)]
def dl (a w : Nat) : Int := if a = w then 1 else 0
theorem asc_uni {t : List Int} {p : Int} {N x y z : Nat} (hs : SqP N t) (hp : PrP p) (hx : x < N) (hy : y < N) (hz : z < N) (w : Nat) (hw : w < N) :
    (ascS N t p (uniX N x) (uniX N y) (uniX N z)).getD w 0 = (dl (cl t (cl t x y) z) w + p - dl (cl t x (cl t y z)) w).tmod p := by
  have j1 := hs.cl_lt hx hy
  have j2 := hs.cl_lt hy hz
  unfold ascS
  rw [tmT_uni hp hx hy j1 (Nat.le_refl N), if_pos hx, tmT_uni hp j1 hz (hs.cl_lt j1 hz) (Nat.le_refl N), if_pos j1, tmT_uni hp hy hz j2 (Nat.le_refl N), if_pos hy, tmT_uni hp hx j2 (hs.cl_lt hx j2) (Nat.le_refl N), if_pos hx]
  rw [subS_get (by rw [uniX_len]; exact Nat.le_refl N), if_pos hw, subV, uniX_get (hs.cl_lt j1 hz), uniX_get (hs.cl_lt hx j2)]
  rfl

def ZerP (xs : List Int) : Prop := ∀ i, i < xs.length → xs.getD i 0 = 0
instance (xs : List Int) : Decidable (ZerP xs) := by unfold ZerP; infer_instance
def zerB (xs : List Int) : Bool := decide (ZerP xs)
theorem asc_zero {t : List Int} {p : Int} {N x y z : Nat} (hs : SqP N t) (hp : PrP p) (hx : x < N) (hy : y < N) (hz : z < N) :
    zerB (ascS N t p (uniX N x) (uniX N y) (uniX N z)) = assoc3 t x y z := by
  have hA := hs.cl_lt (hs.cl_lt hx hy) hz
  unfold zerB assoc3
  apply decide_eq_decide.2
  unfold ZerP
  rw [ascS_len]
  have h2 := hp.le
  constructor
  · intro h
    have := h _ hA
    rw [asc_uni hs hp hx hy hz _ hA] at this
    unfold dl at this
    rw [if_pos rfl] at this
    apply Decidable.byContradiction
    intro hn
    rw [if_neg (fun e => hn e.symm)] at this
    rw [show (1 : Int) + p - 0 = 1 + p by omega, Int.tmod_eq_emod_of_nonneg (by omega), Int.add_emod_right, Int.emod_eq_of_lt (by omega) (by omega)] at this
    omega
  · intro h i hi
    rw [asc_uni hs hp hx hy hz i hi, h, show ∀ a : Int, a + p - a = p from fun a => by omega, Int.tmod_self]
/-- What is left of two associators at one element. -/
def canD (A B C D w : Nat) : Int := dl A w - dl B w + dl C w - dl D w
def CanP (p : Int) (N A B C D : Nat) : Prop := ∀ w, w < N → (canD A B C D w).tmod p = 0
instance (p : Int) (N A B C D : Nat) : Decidable (CanP p N A B C D) := by unfold CanP; infer_instance
def canB (p : Int) (N A B C D : Nat) : Bool := decide (CanP p N A B C D)
theorem dl_cases (a w : Nat) : dl a w = 0 ∨ dl a w = 1 := by unfold dl; split <;> simp
theorem can_mod {p : Int} (hp : PrP p) (a b c d : Int) (ha : a = 0 ∨ a = 1) (hb : b = 0 ∨ b = 1) (hc : c = 0 ∨ c = 1) (hd : d = 0 ∨ d = 1) :
    (((a + p - b).tmod p + (c + p - d).tmod p).tmod p = 0) ↔ (a - b + c - d).tmod p = 0 := by
  rcases hp with rfl | rfl | rfl | rfl <;> rcases ha with rfl | rfl <;> rcases hb with rfl | rfl <;> rcases hc with rfl | rfl <;> rcases hd with rfl | rfl <;> decide
theorem addR_get {p : Int} {a b : List Int} {j : Nat} : ∀ {i}, j < i → (addR p a b i).getD j 0 = (a.getD j 0 + b.getD j 0).tmod p
  | 0, h => absurd h (by omega)
  | i + 1, h => by
    rw [addR, List.getD_eq_getElem?_getD]
    by_cases e : j < i
    · rw [List.getElem?_append_left (by rw [addR_len]; exact e), ← List.getD_eq_getElem?_getD, addR_get e]
    · obtain rfl : j = i := by omega
      rw [List.getElem?_append_right (by rw [addR_len]; omega), addR_len, Nat.sub_self]; rfl
theorem add_zero {t : List Int} {p : Int} {N x y z x' y' z' : Nat} (hs : SqP N t) (hp : PrP p) (hx : x < N) (hy : y < N) (hz : z < N) (hx' : x' < N) (hy' : y' < N) (hz' : z' < N) :
    zerB (addR p (ascS N t p (uniX N x) (uniX N y) (uniX N z)) (ascS N t p (uniX N x') (uniX N y') (uniX N z')) N) = canB p N (cl t (cl t x y) z) (cl t x (cl t y z)) (cl t (cl t x' y') z') (cl t x' (cl t y' z')) := by
  unfold zerB canB
  apply decide_eq_decide.2
  unfold ZerP CanP
  rw [addR_len]
  refine forall_congr' fun w => forall_congr' fun hw => ?_
  rw [addR_get hw, asc_uni hs hp hx hy hz w hw, asc_uni hs hp hx' hy' hz' w hw]
  exact can_mod hp _ _ _ _ (dl_cases _ _) (dl_cases _ _) (dl_cases _ _) (dl_cases _ _)
def altG (p : Int) (N : Nat) (t : List Int) (x y z : Nat) : Bool :=
  (decide (x ≠ y) && !(assoc3 t x x z && canB p N (cl t (cl t x y) z) (cl t x (cl t y z)) (cl t (cl t y x) z) (cl t y (cl t x z)) && (assoc3 t z x x && canB p N (cl t (cl t z x) y) (cl t z (cl t x y)) (cl t (cl t z y) x) (cl t z (cl t y x))))) ||
  (decide (x = y) && !(assoc3 t x x z && assoc3 t z x x))
def altS (p : Int) (N : Nat) (t : List Int) (x y z : Nat) : Bool :=
  (decide (x = y) && !(assoc3 t x y z && assoc3 t z x y)) || !(canB p N (cl t (cl t x y) z) (cl t x (cl t y z)) (cl t (cl t y x) z) (cl t y (cl t x z)) && canB p N (cl t (cl t z x) y) (cl t z (cl t x y)) (cl t (cl t z y) x) (cl t z (cl t y x)))
theorem can_same {p : Int} {N A B : Nat} (h : A = B) : canB p N A B A B = true := by
  subst h
  unfold canB
  exact decide_eq_true fun w _ => by unfold canD; rw [show dl A w - dl A w + dl A w - dl A w = 0 by omega, Int.zero_tmod]
theorem alt_any {p : Int} {N : Nat} {t : List Int} : anyB N (altG p N t) = anyB N (altS p N t) := by
  rw [Bool.eq_iff_iff, anyB_iff, anyB_iff]
  constructor
  · rintro ⟨x, y, z, hx, hy, hz, h⟩
    by_cases e : x = y
    · subst e
      refine ⟨x, x, z, hx, hx, hz, ?_⟩
      simp only [altG, altS] at h ⊢
      simp at h ⊢
      exact .inl h
    · by_cases h1 : assoc3 t x x z = true
      · by_cases h2 : assoc3 t z x x = true
        · refine ⟨x, y, z, hx, hy, hz, ?_⟩
          simp only [altG, altS] at h ⊢
          simp [e, h1, h2] at h ⊢
          exact h
        · refine ⟨x, x, z, hx, hx, hz, ?_⟩
          simp [altS, h2]
      · refine ⟨x, x, z, hx, hx, hz, ?_⟩
        simp [altS, h1]
  · rintro ⟨x, y, z, hx, hy, hz, h⟩
    by_cases h1 : assoc3 t x x z = true
    · by_cases h2 : assoc3 t z x x = true
      · by_cases e : x = y
        · subst e
          have c1 := can_same (p := p) (N := N) (of_decide_eq_true h1)
          have c2 := can_same (p := p) (N := N) (of_decide_eq_true h2)
          simp [altS, h1, h2, c1, c2] at h
        · refine ⟨x, y, z, hx, hy, hz, ?_⟩
          simp only [altG, altS] at h ⊢
          simp [e, h1, h2] at h ⊢
          exact h
      · exact ⟨x, x, z, hx, hx, hz, by simp [altG, h2]⟩
    · exact ⟨x, x, z, hx, hx, hz, by simp [altG, h1]⟩

end Go.Proofs.Ytgblnnodoabdeaa
