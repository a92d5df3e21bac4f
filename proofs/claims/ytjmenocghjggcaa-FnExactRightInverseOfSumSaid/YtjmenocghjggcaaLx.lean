/-
Contracts of functions of the given program, by the abstract walk.
-/
import Derived.Test.YtjmenocghjggcaaAbsY
import Derived.Test.YtjmenocghjggcaaKa
import Derived.Test.YtjmenocghjggcaaIa
namespace Go.Proofs.Ytjmenocghjggcaa
open Go Go.Abs
set_option linter.unusedVariables false
set_option linter.unusedSectionVars false
set_option linter.unusedSimpArgs false
set_option maxRecDepth 100000
/-! one-element sums -/
def uniX (N x : Nat) : List Int := (List.replicate N 0).set x 1
theorem uniX_len {N x : Nat} : (uniX N x).length = N := by simp [uniX]
theorem uniX_get {N x j : Nat} (hx : x < N) : (uniX N x).getD j 0 = if x = j then 1 else 0 := by
  unfold uniX; rw [getD_set_int (by simp; exact hx), getD_rep0]
theorem uniX_rng {p : Int} {N x : Nat} (hp : PrP p) (hx : x < N) : RngP p (uniX N x) := fun i => by
  have := hp.le
  rw [uniX_get hx]; split <;> omega
theorem tmIn_uni {t : List Int} {p : Int} {N x y : Nat} (hp : PrP p) (hx : x < N) (hy : y < N) (hc : cl t x y < N) : ∀ {k}, k ≤ N → tmIn t p (uniX N x) (uniX N y) x (List.replicate N 0) k = if y < k then uniX N (cl t x y) else List.replicate N 0
  | 0, _ => by rw [if_neg (by omega)]; rfl
  | k + 1, hk => by
    have h2 := hp.le
    rw [tmIn, tmIn_uni hp hx hy hc (by omega), tmAt, uniX_get hx, if_pos rfl, uniX_get hy, Int.one_mul]
    by_cases e : y = k
    · subst e
      rw [if_neg (by omega), if_pos rfl, getD_rep0, if_pos (by omega), Int.zero_add, Int.tmod_eq_of_lt (by omega) (by omega)]; rfl
    · rw [if_neg e, Int.add_zero]
      by_cases e2 : y < k
      · rw [if_pos e2, if_pos (by omega)]
        have hr := uniX_rng (N := N) hp hc (cl t x k)
        rw [Int.tmod_eq_of_lt hr.1 (by omega)]
        refine ext_getD (by simp) fun i hi => ?_
        simp only [List.length_set] at hi
        by_cases hl : cl t x k < (uniX N (cl t x y)).length
        · rw [getD_set_int hl]
          split
          · rename_i e3; rw [e3]
          · rfl
        · rw [List.set_eq_of_length_le (by omega)]
      · rw [if_neg e2, if_neg (by omega), getD_rep0, Int.tmod_eq_of_lt (by omega) (by omega)]
        refine ext_getD (by simp) fun i hi => ?_
        by_cases hl : cl t x k < (List.replicate N (0 : Int)).length
        · rw [getD_set_int hl, getD_rep0]; split <;> rfl
        · rw [List.set_eq_of_length_le (by omega)]
theorem tmT_uni {t : List Int} {p : Int} {N x y : Nat} (hp : PrP p) (hx : x < N) (hy : y < N) (hc : cl t x y < N) : ∀ {k}, k ≤ N → tmT N t p (uniX N x) (uniX N y) k = if x < k then uniX N (cl t x y) else List.replicate N 0
  | 0, _ => by rw [if_neg (by omega)]; rfl
  | k + 1, hk => by
    rw [tmT, tmT_uni hp hx hy hc (by omega)]
    by_cases e : x = k
    · subst e
      rw [if_neg (by omega), tmIn_uni hp hx hy hc (Nat.le_refl N), if_pos hy, if_pos (by omega)]
    · have h0 : (uniX N x).getD k 0 = 0 := by rw [uniX_get hx, if_neg e]
      rw [tmIn_skip hp h0 (by
        split
        · exact uniX_rng hp hc
        · intro i; have := hp.le; rw [getD_rep0]; omega)]
      by_cases e2 : x < k
      · rw [if_pos e2, if_pos (by omega)]
      · rw [if_neg e2, if_neg (by omega)]
def dl (a w : Nat) : Int := if a = w then 1 else 0
theorem asc_uni {t : List Int} {p : Int} {N x y z : Nat} (hs : SqP N t) (hp : PrP p) (hx : x < N) (hy : y < N) (hz : z < N) (w : Nat) (hw : w < N) :
    (ascS N t p (uniX N x) (uniX N y) (uniX N z)).getD w 0 = (dl (cl t (cl t x y) z) w + p - dl (cl t x (cl t y z)) w).tmod p := by
  have j1 := hs.cl_lt hx hy
  have j2 := hs.cl_lt hy hz
  unfold ascS
  rw [tmT_uni hp hx hy j1 (Nat.le_refl N), if_pos hx, tmT_uni hp j1 hz (hs.cl_lt j1 hz) (Nat.le_refl N), if_pos j1, tmT_uni hp hy hz j2 (Nat.le_refl N), if_pos hy, tmT_uni hp hx j2 (hs.cl_lt hx j2) (Nat.le_refl N), if_pos hx]
  rw [subS_get (by rw [uniX_len]; exact Nat.le_refl N), if_pos hw, subV, uniX_get (hs.cl_lt j1 hz), uniX_get (hs.cl_lt hx j2)]
  rfl

def ZerP (xs : List Int) : Prop := ∀ i, i < xs.length → xs.getD i 0 = 0
instance (xs : List Int) : Decidable (ZerP xs) := by unfold ZerP; infer_instance
def zerB (xs : List Int) : Bool := decide (ZerP xs)
theorem asc_zero {t : List Int} {p : Int} {N x y z : Nat} (hs : SqP N t) (hp : PrP p) (hx : x < N) (hy : y < N) (hz : z < N) :
    zerB (ascS N t p (uniX N x) (uniX N y) (uniX N z)) = assoc3 t x y z := by
  have hA := hs.cl_lt (hs.cl_lt hx hy) hz
  unfold zerB assoc3
  apply decide_eq_decide.2
  unfold ZerP
  rw [ascS_len]
  have h2 := hp.le
  constructor
  · intro h
    have := h _ hA
    rw [asc_uni hs hp hx hy hz _ hA] at this
    unfold dl at this
    rw [if_pos rfl] at this
    apply Decidable.byContradiction
    intro hn
    rw [if_neg (fun e => hn e.symm)] at this
    rw [show (1 : Int) + p - 0 = 1 + p by omega, Int.tmod_eq_emod_of_nonneg (by omega), Int.add_emod_right, Int.emod_eq_of_lt (by omega) (by omega)] at this
    omega
  · intro h i hi
    rw [asc_uni hs hp hx hy hz i hi, h, show ∀ a : Int, a + p - a = p from fun a => by omega, Int.tmod_self]
/-- What is left of two associators at one element. -/
def canD (A B C D w : Nat) : Int := dl A w - dl B w + dl C w - dl D w
def CanP (p : Int) (N A B C D : Nat) : Prop := ∀ w, w < N → (canD A B C D w).tmod p = 0
instance (p : Int) (N A B C D : Nat) : Decidable (CanP p N A B C D) := by unfold CanP; infer_instance
def canB (p : Int) (N A B C D : Nat) : Bool := decide (CanP p N A B C D)
theorem dl_cases (a w : Nat) : dl a w = 0 ∨ dl a w = 1 := by unfold dl; split <;> simp
theorem can_mod {p : Int} (hp : PrP p) (a b c d : Int) (ha : a = 0 ∨ a = 1) (hb : b = 0 ∨ b = 1) (hc : c = 0 ∨ c = 1) (hd : d = 0 ∨ d = 1) :
    (((a + p - b).tmod p + (c + p - d).tmod p).tmod p = 0) ↔ (a - b + c - d).tmod p = 0 := by
  rcases hp with rfl | rfl | rfl | rfl <;> rcases ha with rfl | rfl <;> rcases hb with rfl | rfl <;> rcases hc with rfl | rfl <;> rcases hd with rfl | rfl <;> decide
theorem addR_get {p : Int} {a b : List Int} {j : Nat} : ∀ {i}, j < i → (addR p a b i).getD j 0 = (a.getD j 0 + b.getD j 0).tmod p
  | 0, h => absurd h (by omega)
  | i + 1, h => by
    rw [addR, List.getD_eq_getElem?_getD]
    by_cases e : j < i
    · rw [List.getElem?_append_left (by rw [addR_len]; exact e), ← List.getD_eq_getElem?_getD, addR_get e]
    · obtain rfl : j = i := by omega
      rw [List.getElem?_append_right (by rw [addR_len]; omega), addR_len, Nat.sub_self]; rfl
theorem add_zero {t : List Int} {p : Int} {N x y z x' y' z' : Nat} (hs : SqP N t) (hp : PrP p) (hx : x < N) (hy : y < N) (hz : z < N) (hx' : x' < N) (hy' : y' < N) (hz' : z' < N) :
    zerB (addR p (ascS N t p (uniX N x) (uniX N y) (uniX N z)) (ascS N t p (uniX N x') (uniX N y') (uniX N z')) N) = canB p N (cl t (cl t x y) z) (cl t x (cl t y z)) (cl t (cl t x' y') z') (cl t x' (cl t y' z')) := by
  unfold zerB canB
  apply decide_eq_decide.2
  unfold ZerP CanP
  rw [addR_len]
  refine forall_congr' fun w => forall_congr' fun hw => ?_
  rw [addR_get hw, asc_uni hs hp hx hy hz w hw, asc_uni hs hp hx' hy' hz' w hw]
  exact can_mod hp _ _ _ _ (dl_cases _ _) (dl_cases _ _) (dl_cases _ _) (dl_cases _ _)
def altG (p : Int) (N : Nat) (t : List Int) (x y z : Nat) : Bool :=
  (decide (x ≠ y) && !(assoc3 t x x z && canB p N (cl t (cl t x y) z) (cl t x (cl t y z)) (cl t (cl t y x) z) (cl t y (cl t x z)) && (assoc3 t z x x && canB p N (cl t (cl t z x) y) (cl t z (cl t x y)) (cl t (cl t z y) x) (cl t z (cl t y x))))) ||
  (decide (x = y) && !(assoc3 t x x z && assoc3 t z x x))
def altS (p : Int) (N : Nat) (t : List Int) (x y z : Nat) : Bool :=
  (decide (x = y) && !(assoc3 t x y z && assoc3 t z x y)) || !(canB p N (cl t (cl t x y) z) (cl t x (cl t y z)) (cl t (cl t y x) z) (cl t y (cl t x z)) && canB p N (cl t (cl t z x) y) (cl t z (cl t x y)) (cl t (cl t z y) x) (cl t z (cl t y x)))
theorem can_same {p : Int} {N A B : Nat} (h : A = B) : canB p N A B A B = true := by
  subst h
  unfold canB
  exact decide_eq_true fun w _ => by unfold canD; rw [show dl A w - dl A w + dl A w - dl A w = 0 by omega, Int.zero_tmod]
theorem alt_any {p : Int} {N : Nat} {t : List Int} : anyB N (altG p N t) = anyB N (altS p N t) := by
  rw [Bool.eq_iff_iff, anyB_iff, anyB_iff]
  constructor
  · rintro ⟨x, y, z, hx, hy, hz, h⟩
    by_cases e : x = y
    · subst e
      refine ⟨x, x, z, hx, hx, hz, ?_⟩
      simp only [altG, altS] at h ⊢
      simp at h ⊢
      exact .inl h
    · by_cases h1 : assoc3 t x x z = true
      · by_cases h2 : assoc3 t z x x = true
        · refine ⟨x, y, z, hx, hy, hz, ?_⟩
          simp only [altG, altS] at h ⊢
          simp [e, h1, h2] at h ⊢
          exact h
        · refine ⟨x, x, z, hx, hx, hz, ?_⟩
          simp [altS, h2]
      · refine ⟨x, x, z, hx, hx, hz, ?_⟩
        simp [altS, h1]
  · rintro ⟨x, y, z, hx, hy, hz, h⟩
    by_cases h1 : assoc3 t x x z = true
    · by_cases h2 : assoc3 t z x x = true
      · by_cases e : x = y
        · subst e
          have c1 := can_same (p := p) (N := N) (of_decide_eq_true h1)
          have c2 := can_same (p := p) (N := N) (of_decide_eq_true h2)
          simp [altS, h1, h2, c1, c2] at h
        · refine ⟨x, y, z, hx, hy, hz, ?_⟩
          simp only [altG, altS] at h ⊢
          simp [e, h1, h2] at h ⊢
          exact h
      · exact ⟨x, x, z, hx, hx, hz, by simp [altG, h2]⟩
    · exact ⟨x, x, z, hx, hx, hz, by simp [altG, h1]⟩

theorem l10UnitX_ok (N x : Nat) (hx : x < N) (hN : N ≤ 10) : ACalls Try.prog 37 [.i .i64 N, .i .i64 x] [] (fun v ms ns => v = .ref (.sl 1 0 0 0 N 1) ∧ ms = [] ∧ ns = [.lv true [(0, .ints .i64 N (uniX N x))]]) := by
  have hk8 : (N : Int) * 8 ≤ 140737488355328 := by omega
  have m1 : N * 1 = N := Nat.mul_one N
  have i0 : (x : Int) < N := by omega
  have u0 : 0 + x * 1 + 1 ≤ N := by omega
  have ex : (List.replicate N (0 : Int)).set (0 + x * 1) 1 = uniX N x := by rw [Nat.zero_add, Nat.mul_one]; rfl
  refine acalls_of_body mix Try.func37 rfl fok37 (Nat.le_of_ble_eq_true rfl) ?_
  unfold abody
  by_cases h : 1 = N
  · have h1t : (1 = N) = True := eq_true h
    have ex1 : [(1 : Int)] = uniX N x := by
      obtain rfl : x = 0 := by omega
      subst h; rfl
    simp only [absE, absL, absF, reduceCtorEq, ↓reduceIte, Nat.reduceEqDiff, Nat.reduceAdd, Nat.reduceLT, Nat.reduceMul, Nat.reduceSub, Nat.reduceLeDiff, Int.reduceLT, Int.reduceLE, Int.reduceEq, Option.isSome_some, implies_true, false_implies, Prod.mk.injEq, ne_eq, not_false_eq_true, not_true_eq_false, ge_iff_le, gt_iff_lt, Int.toNat_natCast, Int.reduceToNat, Int.cast_ofNat_Int, Int.natCast_nonneg, hk8, m1, i0, h1t, ex1, Try.f37, Try.results37]
    repeat refine And.intro (by omega) ?_
    exact ⟨[(3, 0)], by simp, by simp, by simp [renV, renAt, renFin, idx], by simp, by simp [renBlk, renSegs, renSg, Mem.get, assoc]⟩
  · simp only [absE, absL, absF, reduceCtorEq, ↓reduceIte, Nat.reduceEqDiff, Nat.reduceAdd, Nat.reduceLT, Nat.reduceMul, Nat.reduceSub, Nat.reduceLeDiff, Int.reduceLT, Int.reduceLE, Int.reduceEq, Option.isSome_some, implies_true, false_implies, Prod.mk.injEq, ne_eq, not_false_eq_true, not_true_eq_false, ge_iff_le, gt_iff_lt, Int.toNat_natCast, Int.reduceToNat, Int.cast_ofNat_Int, Int.natCast_nonneg, hk8, m1, i0, u0, h, zeroArr, ex, Try.f37, Try.results37]
    exact ⟨[(3, 0)], by simp, by simp, by simp [renV, renAt, renFin, idx], by simp, by simp [renBlk, renSegs, renSg, Mem.get, assoc]⟩
theorem l10First_ok (k : Nat) (xs : List Int) (hx : xs.length = k) (hk : k ≤ 2 ^ 20) :
    ACalls Try.prog 66 [.ref (.sl 0 0 0 0 k 1), .i .i64 k] [.lv true [(0, .ints .i64 k xs)]] (fun v ms ns => (∃ r : Int, v = .i .i64 r ∧ (r < 0 ↔ ZerP xs)) ∧ ms = [.lv true [(0, .ints .i64 k xs)]] ∧ ns = []) := by
  refine acalls_of_body mix Try.func66 rfl fok66 (Nat.le_of_ble_eq_true rfl) ?_
  unfold abody
  simp only [absE, absL, absF, reduceCtorEq, ↓reduceIte, Nat.reduceEqDiff, Nat.reduceAdd, Nat.reduceLT, Nat.reduceMul, Nat.reduceSub, Nat.reduceLeDiff, Int.reduceLT, Int.reduceLE, Int.reduceEq, Option.isSome_some, implies_true, false_implies, Prod.mk.injEq, ne_eq, not_false_eq_true, not_true_eq_false, ge_iff_le, gt_iff_lt, Int.toNat_natCast, Int.reduceToNat, Int.cast_ofNat_Int, Int.natCast_nonneg, Try.f66]
  refine awpLoop.intro (fun i : Nat => [(0, .ref (.sl 0 0 0 0 k 1)), (1, .i .i64 k), (5, .i .i64 i)]) (fun i => ⟨[.lv true [(0, .ints .i64 k xs)]], [], 3⟩)
    (fun i => i ≤ k ∧ ∀ j, j < i → xs.getD j 0 = 0) (fun i => k - i) 0 ⟨by omega, fun j hj => absurd hj (by omega)⟩ ⟨[], rfl, ?_, ?_⟩ ?_
  · simp [wkEnv, lk, renV, renAt, renTo]
  · simp [wkMem, wkLoc, Mem.get, assoc, renBlk, renSegs, renSg, renTo]
  · rintro i ⟨hi, hp⟩
    by_cases h : (i : Int) < k
    · have w := wrap_i64s (show i < 2 ^ 62 by omega)
      have v1 : 0 + i * 1 < k := by omega
      have e0 : xs.getD (0 + i * 1) 0 = xs.getD i 0 := by rw [Nat.zero_add, Nat.mul_one]
      by_cases hz : xs.getD i 0 = 0
      · simp only [absE, absL, absF, reduceCtorEq, ↓reduceIte, Nat.reduceEqDiff, Nat.reduceAdd, Nat.reduceLT, Nat.reduceMul, Nat.reduceSub, Nat.reduceLeDiff, Int.reduceLT, Int.reduceLE, Int.reduceEq, Option.isSome_some, implies_true, false_implies, Prod.mk.injEq, ne_eq, not_false_eq_true, not_true_eq_false, ge_iff_le, gt_iff_lt, Int.toNat_natCast, Int.reduceToNat, Int.cast_ofNat_Int, Int.natCast_nonneg, h, v1, e0, hz]
        refine LoopNext.intro (i + 1) ⟨by omega, fun j hj => ?_⟩ (by omega) ⟨[], rfl, ?_, ?_⟩
        · by_cases ej : j = i
          · subst ej; exact hz
          · exact hp j (by omega)
        · simp [wkEnv, lk, renV, renAt, renTo, w]
        · simp [wkMem, wkLoc, Mem.get, assoc, renBlk, renSegs, renSg, renTo, w]
      · simp only [absE, absL, absF, reduceCtorEq, ↓reduceIte, Nat.reduceEqDiff, Nat.reduceAdd, Nat.reduceLT, Nat.reduceMul, Nat.reduceSub, Nat.reduceLeDiff, Int.reduceLT, Int.reduceLE, Int.reduceEq, Option.isSome_some, implies_true, false_implies, Prod.mk.injEq, ne_eq, not_false_eq_true, not_true_eq_false, ge_iff_le, gt_iff_lt, Int.toNat_natCast, Int.reduceToNat, Int.cast_ofNat_Int, Int.natCast_nonneg, h, v1, e0, hz, Try.results66]
        exact ⟨[], by simp, by simp, ⟨(i : Int), by simp [renV], ⟨fun hh => by omega, fun hh => absurd (hh i (by omega)) hz⟩⟩, by simp [renBlk, renSegs, renSg], by simp⟩
    · simp only [absE, absL, absF, reduceCtorEq, ↓reduceIte, Nat.reduceEqDiff, Nat.reduceAdd, Nat.reduceLT, Nat.reduceMul, Nat.reduceSub, Nat.reduceLeDiff, Int.reduceLT, Int.reduceLE, Int.reduceEq, Option.isSome_some, implies_true, false_implies, Prod.mk.injEq, ne_eq, not_false_eq_true, not_true_eq_false, ge_iff_le, gt_iff_lt, Int.toNat_natCast, Int.reduceToNat, Int.cast_ofNat_Int, Int.natCast_nonneg, h, Try.results66]
      exact ⟨[], by simp, by simp, ⟨-1, by simp [renV], ⟨fun _ j hj => hp j (by omega), fun _ => by omega⟩⟩, by simp [renBlk, renSegs, renSg], by simp⟩
def incL (xs : List Int) (z : Nat) (d : Int) : List Int := xs.set z (xs.getD z 0 + d)
theorem incL_len {xs : List Int} {z : Nat} {d : Int} : (incL xs z d).length = xs.length := by simp [incL]
theorem incL_get {xs : List Int} {z w : Nat} {d : Int} (h : z < xs.length) : (incL xs z d).getD w 0 = xs.getD w 0 + dl z w * d := by
  unfold incL dl
  rw [getD_set_int h]
  split
  · rename_i e; subst e; omega
  · omega
def canL (N A B C D : Nat) : List Int := incL (incL (incL (incL (List.replicate N 0) A 1) B (-1)) C 1) D (-1)
theorem canL_len {N A B C D : Nat} : (canL N A B C D).length = N := by simp [canL, incL_len]
theorem canL_get {N A B C D w : Nat} (hA : A < N) (hB : B < N) (hC : C < N) (hD : D < N) : (canL N A B C D).getD w 0 = canD A B C D w := by
  unfold canL
  rw [incL_get (by simp [incL_len]; exact hD), incL_get (by simp [incL_len]; exact hC), incL_get (by simp [incL_len]; exact hB), incL_get (by simp; exact hA), getD_rep0]
  unfold canD; omega
theorem inc_facts {N A B : Nat} {s : List Int} (hA : A < N) (hB : B < N) (hl : s.length = N) (hb : ∀ j, -100 ≤ s.getD j 0 ∧ s.getD j 0 ≤ 100) :
    (0 + A * 1 < N ∧ 0 + B * 1 < N ∧ s.getD (0 + A * 1) 0 = s.getD A 0 ∧ IntKind.i64.wrap (s.getD A 0 + 1) = s.getD A 0 + 1 ∧ s.set (0 + A * 1) (s.getD A 0 + 1) = incL s A 1) ∧
    ((incL s A 1).getD (0 + B * 1) 0 = (incL s A 1).getD B 0 ∧ IntKind.i64.wrap ((incL s A 1).getD B 0 - 1) = (incL s A 1).getD B 0 - 1 ∧ (incL s A 1).set (0 + B * 1) ((incL s A 1).getD B 0 - 1) = incL (incL s A 1) B (-1)) := by
  have b1 := hb A
  have b2 := hb B
  have b3 : (incL s A 1).getD B 0 = s.getD B 0 + dl A B * 1 := incL_get (by omega)
  have b4 := dl_cases A B
  refine ⟨⟨by omega, by omega, by rw [Nat.zero_add, Nat.mul_one], wrap_i64 (by omega) (by omega), by rw [Nat.zero_add, Nat.mul_one]; rfl⟩, by rw [Nat.zero_add, Nat.mul_one], wrap_i64 ?_ ?_, by rw [Nat.zero_add, Nat.mul_one]; rfl⟩
  · rw [b3]; rcases b4 with e | e <;> rw [e] <;> omega
  · rw [b3]; rcases b4 with e | e <;> rw [e] <;> omega
theorem one_set {A : Nat} {s : List Int} {v : Int} (h : s.length = 1) (hA : A < 1) : [s.getD A 0 + v] = incL s A v := by
  obtain rfl : A = 0 := by omega
  match s, h with
  | [a], _ => rfl
def csL (N A B C D : Nat) : Nat → List Int
  | 0 => List.replicate N 0
  | 1 => incL (incL (List.replicate N 0) A 1) B (-1)
  | _ => canL N A B C D
theorem csL_len {N A B C D : Nat} : ∀ {i}, (csL N A B C D i).length = N
  | 0 => by simp [csL]
  | 1 => by simp [csL, incL_len]
  | i + 2 => canL_len
theorem csL_rng {N A B C D : Nat} (hA : A < N) (hB : B < N) : ∀ {i}, i < 2 → ∀ j, -100 ≤ (csL N A B C D i).getD j 0 ∧ (csL N A B C D i).getD j 0 ≤ 100
  | 0, _, j => by rw [csL, getD_rep0]; omega
  | 1, _, j => by
    rw [csL, incL_get (by simp [incL_len]; exact hB), incL_get (by simp; exact hA), getD_rep0]
    rcases dl_cases A j with e | e <;> rcases dl_cases B j with f | f <;> rw [e, f] <;> omega
  | i + 2, h, _ => absurd h (by omega)
def at3 (a b c : Nat) : AV := .agg [(0, .ints .u8 3 [(a : Int), (b : Int), (c : Int)])]
noncomputable def rcd0 (n : Int) (t : List Int) (p : Int) : Int := if loopB n t then (if prB p then 0 else 2) else 1
theorem ringCode0_ok (n : Int) (t : List Int) (p : Int) (ht : Bytes 100 t) :
    ACalls Try.prog 30 [.agg (sqS n t), .i .i64 p, .ref .nils] [] (fun v ms ns => v = .i .i64 (rcd0 n t p) ∧ ms = [] ∧ ns = []) := by
  refine acalls_of_body mix Try.func30 rfl fok30 (Nat.le_of_ble_eq_true rfl) ?_
  unfold abody
  simp only [absE, absL, absF, reduceCtorEq, ↓reduceIte, Nat.reduceEqDiff, Nat.reduceAdd, Nat.reduceLT, Nat.reduceMul, Nat.reduceSub, Nat.reduceLeDiff, Int.reduceLT, Int.reduceLE, Int.reduceEq, Option.isSome_some, implies_true, false_implies, Prod.mk.injEq, ne_eq, not_false_eq_true, not_true_eq_false, ge_iff_le, gt_iff_lt, Int.toNat_natCast, Int.reduceToNat, Int.cast_ofNat_Int, Int.natCast_nonneg, Try.f30]
  refine CallsVia.none (isLoop_ok n t ht) ?_
  rintro _ _ _ ⟨rfl, rfl, rfl⟩
  cases h1 : loopB n t
  · simp only [absE, absL, absF, reduceCtorEq, ↓reduceIte, Nat.reduceEqDiff, Nat.reduceAdd, Nat.reduceLT, Nat.reduceMul, Nat.reduceSub, Nat.reduceLeDiff, Int.reduceLT, Int.reduceLE, Int.reduceEq, Option.isSome_some, implies_true, false_implies, Prod.mk.injEq, ne_eq, not_false_eq_true, not_true_eq_false, ge_iff_le, gt_iff_lt, Int.toNat_natCast, Int.reduceToNat, Int.cast_ofNat_Int, Int.natCast_nonneg, Try.results30]
    exact ⟨[], by simp, by simp, by simp [renV, renBlk, renSegs, renSg, renAt, renFin, rcd0, h1]⟩
  · have hs : SqP n t := by simp only [loopB, Bool.and_eq_true] at h1; exact sqB_iff.1 h1.1
    obtain ⟨N, rfl⟩ : ∃ N : Nat, n = N := ⟨n.toNat, by have := hs.1; omega⟩
    have hN := hs.le
    simp only [absE, absL, absF, reduceCtorEq, ↓reduceIte, Nat.reduceEqDiff, Nat.reduceAdd, Nat.reduceLT, Nat.reduceMul, Nat.reduceSub, Nat.reduceLeDiff, Int.reduceLT, Int.reduceLE, Int.reduceEq, Option.isSome_some, implies_true, false_implies, Prod.mk.injEq, ne_eq, not_false_eq_true, not_true_eq_false, ge_iff_le, gt_iff_lt, Int.toNat_natCast, Int.reduceToNat, Int.cast_ofNat_Int, Int.natCast_nonneg]
    refine CallsVia.none (isPrime_ok p) ?_
    rintro _ _ _ ⟨rfl, rfl, rfl⟩
    cases h2 : prB p
    · simp only [absE, absL, absF, reduceCtorEq, ↓reduceIte, Nat.reduceEqDiff, Nat.reduceAdd, Nat.reduceLT, Nat.reduceMul, Nat.reduceSub, Nat.reduceLeDiff, Int.reduceLT, Int.reduceLE, Int.reduceEq, Option.isSome_some, implies_true, false_implies, Prod.mk.injEq, ne_eq, not_false_eq_true, not_true_eq_false, ge_iff_le, gt_iff_lt, Int.toNat_natCast, Int.reduceToNat, Int.cast_ofNat_Int, Int.natCast_nonneg, Try.results30]
      exact ⟨[], by simp, by simp, by simp [renV, renBlk, renSegs, renSg, renAt, renFin, rcd0, h1, h2]⟩
    · simp only [absE, absL, absF, reduceCtorEq, ↓reduceIte, Nat.reduceEqDiff, Nat.reduceAdd, Nat.reduceLT, Nat.reduceMul, Nat.reduceSub, Nat.reduceLeDiff, Int.reduceLT, Int.reduceLE, Int.reduceEq, Option.isSome_some, implies_true, false_implies, Prod.mk.injEq, ne_eq, not_false_eq_true, not_true_eq_false, ge_iff_le, gt_iff_lt, Int.toNat_natCast, Int.reduceToNat, Int.cast_ofNat_Int, Int.natCast_nonneg]
      refine awpLoop.intro (fun i : Nat => [(1, .i .i64 p), (3, .ref (.ptr 1 0 0 0)), (17, .ref .nils), (18, .i .i64 0), (19, .i .i64 i)]) (fun i => ⟨[], [((1, 0), .lv true (sqS N t))], 14⟩)
        (fun i => i = 0) (fun i => 1 - i) 0 rfl ⟨[((1,0),(1,0))], rfl, ?_, ?_⟩ ?_
      · simp [wkEnv, lk, renV, renAt, renTo, renAt]
      · simp [wkMem, wkLoc, Mem.get, assoc, renBlk, renSegs, renSg, renTo, renAt]
      · rintro _ rfl
        simp only [absE, absL, absF, reduceCtorEq, ↓reduceIte, Nat.reduceEqDiff, Nat.reduceAdd, Nat.reduceLT, Nat.reduceMul, Nat.reduceSub, Nat.reduceLeDiff, Int.reduceLT, Int.reduceLE, Int.reduceEq, Option.isSome_some, implies_true, false_implies, Prod.mk.injEq, ne_eq, not_false_eq_true, not_true_eq_false, ge_iff_le, gt_iff_lt, Int.toNat_natCast, Int.reduceToNat, Int.cast_ofNat_Int, Int.natCast_nonneg, Try.results30]
        exact ⟨[], by simp, by simp, by simp [renV, renBlk, renSegs, renSg, renAt, renFin, rcd0, h1, h2]⟩
theorem l10Code0_ok (n : Int) (t : List Int) (p : Int) (ht : Bytes 100 t) :
    ACalls Try.prog 35 [.agg (sqS n t), .i .i64 p, .ref .nils] [] (fun v ms ns => v = .i .i64 (rcd0 n t p) ∧ ms = [] ∧ ns = []) := by
  refine acalls_of_body mix Try.func35 rfl fok35 (Nat.le_of_ble_eq_true rfl) ?_
  unfold abody
  simp only [absE, absL, absF, reduceCtorEq, ↓reduceIte, Nat.reduceEqDiff, Nat.reduceAdd, Nat.reduceLT, Nat.reduceMul, Nat.reduceSub, Nat.reduceLeDiff, Int.reduceLT, Int.reduceLE, Int.reduceEq, Option.isSome_some, implies_true, false_implies, Prod.mk.injEq, ne_eq, not_false_eq_true, not_true_eq_false, ge_iff_le, gt_iff_lt, Int.toNat_natCast, Int.reduceToNat, Int.cast_ofNat_Int, Int.natCast_nonneg, Try.f35]
  refine CallsVia.none (l01Loop_ok n t ht) ?_
  rintro _ _ _ ⟨rfl, rfl, rfl⟩
  cases h1 : loopB n t
  · simp only [absE, absL, absF, reduceCtorEq, ↓reduceIte, Nat.reduceEqDiff, Nat.reduceAdd, Nat.reduceLT, Nat.reduceMul, Nat.reduceSub, Nat.reduceLeDiff, Int.reduceLT, Int.reduceLE, Int.reduceEq, Option.isSome_some, implies_true, false_implies, Prod.mk.injEq, ne_eq, not_false_eq_true, not_true_eq_false, ge_iff_le, gt_iff_lt, Int.toNat_natCast, Int.reduceToNat, Int.cast_ofNat_Int, Int.natCast_nonneg, Try.results35]
    exact ⟨[], by simp, by simp, by simp [renV, renBlk, renSegs, renSg, renAt, renFin, rcd0, h1]⟩
  · have hs : SqP n t := by simp only [loopB, Bool.and_eq_true] at h1; exact sqB_iff.1 h1.1
    obtain ⟨N, rfl⟩ : ∃ N : Nat, n = N := ⟨n.toNat, by have := hs.1; omega⟩
    have hN := hs.le
    simp only [absE, absL, absF, reduceCtorEq, ↓reduceIte, Nat.reduceEqDiff, Nat.reduceAdd, Nat.reduceLT, Nat.reduceMul, Nat.reduceSub, Nat.reduceLeDiff, Int.reduceLT, Int.reduceLE, Int.reduceEq, Option.isSome_some, implies_true, false_implies, Prod.mk.injEq, ne_eq, not_false_eq_true, not_true_eq_false, ge_iff_le, gt_iff_lt, Int.toNat_natCast, Int.reduceToNat, Int.cast_ofNat_Int, Int.natCast_nonneg]
    refine CallsVia.none (l10Prime_ok p) ?_
    rintro _ _ _ ⟨rfl, rfl, rfl⟩
    cases h2 : prB p
    · simp only [absE, absL, absF, reduceCtorEq, ↓reduceIte, Nat.reduceEqDiff, Nat.reduceAdd, Nat.reduceLT, Nat.reduceMul, Nat.reduceSub, Nat.reduceLeDiff, Int.reduceLT, Int.reduceLE, Int.reduceEq, Option.isSome_some, implies_true, false_implies, Prod.mk.injEq, ne_eq, not_false_eq_true, not_true_eq_false, ge_iff_le, gt_iff_lt, Int.toNat_natCast, Int.reduceToNat, Int.cast_ofNat_Int, Int.natCast_nonneg, Try.results35]
      exact ⟨[], by simp, by simp, by simp [renV, renBlk, renSegs, renSg, renAt, renFin, rcd0, h1, h2]⟩
    · simp only [absE, absL, absF, reduceCtorEq, ↓reduceIte, Nat.reduceEqDiff, Nat.reduceAdd, Nat.reduceLT, Nat.reduceMul, Nat.reduceSub, Nat.reduceLeDiff, Int.reduceLT, Int.reduceLE, Int.reduceEq, Option.isSome_some, implies_true, false_implies, Prod.mk.injEq, ne_eq, not_false_eq_true, not_true_eq_false, ge_iff_le, gt_iff_lt, Int.toNat_natCast, Int.reduceToNat, Int.cast_ofNat_Int, Int.natCast_nonneg]
      refine awpLoop.intro (fun i : Nat => [(1, .i .i64 p), (2, .ref .nils), (3, .ref (.ptr 1 0 0 0)), (7, .i .i64 i)]) (fun i => ⟨[], [((1, 0), .lv true (sqS N t))], 12⟩)
        (fun i => i = 0) (fun i => 1 - i) 0 rfl ⟨[((1,0),(1,0))], rfl, ?_, ?_⟩ ?_
      · simp [wkEnv, lk, renV, renAt, renTo, renAt]
      · simp [wkMem, wkLoc, Mem.get, assoc, renBlk, renSegs, renSg, renTo, renAt]
      · rintro _ rfl
        simp only [absE, absL, absF, reduceCtorEq, ↓reduceIte, Nat.reduceEqDiff, Nat.reduceAdd, Nat.reduceLT, Nat.reduceMul, Nat.reduceSub, Nat.reduceLeDiff, Int.reduceLT, Int.reduceLE, Int.reduceEq, Option.isSome_some, implies_true, false_implies, Prod.mk.injEq, ne_eq, not_false_eq_true, not_true_eq_false, ge_iff_le, gt_iff_lt, Int.toNat_natCast, Int.reduceToNat, Int.cast_ofNat_Int, Int.natCast_nonneg, Try.results35]
        exact ⟨[], by simp, by simp, by simp [renV, renBlk, renSegs, renSg, renAt, renFin, rcd0, h1, h2]⟩
theorem ascS_rng {N : Nat} {t : List Int} {p : Int} {a b c : List Int} (hp : PrP p) (ha : RngP p a) (hb : RngP p b) (hc : RngP p c) : RngP p (ascS N t p a b c) :=
  subS_rng hp (tmT_rng hp (tmT_rng hp ha hb) hc) (tmT_rng hp ha (tmT_rng hp hb hc)) (by rw [tmT_len]; exact Nat.le_refl N)
end Go.Proofs.Ytjmenocghjggcaa
