/-
Contracts of functions of the given program, by the abstract walk.
-/
import Derived.Test.YtopkdpgbjpjgjaaAbsW
import Derived.Test.YtopkdpgbjpjgjaaDr
import Derived.Test.YtopkdpgbjpjgjaaDk
namespace Go.Proofs.Ytopkdpgbjpjgjaa
open Go Go.Abs
set_option linter.unusedVariables false
set_option linter.unusedSectionVars false
set_option linter.unusedSimpArgs false
set_option maxRecDepth 100000
def rwL (t : List Int) (a b : Nat) : Nat → List Int
  | 0 => List.replicate 10 0
  | y + 1 => (rwL t a b y).set (0 + cl t a y * 1) (cl t b y)
theorem rwL_len {t : List Int} {a b : Nat} : ∀ {y}, (rwL t a b y).length = 10
  | 0 => by simp [rwL]
  | y + 1 => by rw [rwL, List.length_set]; exact rwL_len
theorem rwL_at {N : Nat} {t : List Int} (hs : SqP N t) {a b : Nat} (ha : a < N) {k : Nat} : ∀ {n}, n ≤ N → k < n → (rwL t a b n).getD (cl t a k) 0 = (cl t b k : Int)
  | 0, _, h => absurd h (by omega)
  | n + 1, h, hk => by
    have hN := hs.le
    have h3 := hs.cl_lt ha (show n < N by omega)
    rw [rwL, getD_set_int (by rw [rwL_len]; omega)]
    by_cases e : k = n
    · subst e; rw [if_pos (by omega)]
    · have h2 : cl t a n ≠ cl t a k := fun e2 => e ((PermF.inj (hs.rowP ha) hN (by omega) (by omega) e2).symm)
      rw [if_neg (by omega)]
      exact rwL_at hs ha (by omega) (by omega)
theorem rwL_bytes {N : Nat} {t : List Int} (ht : Bytes 100 t) (hs : SqP N t) {a b : Nat} (ha : a < N) : ∀ {n}, n ≤ N → Bytes 10 (rwL t a b n)
  | 0, _ => ⟨rwL_len, fun i => by rw [rwL, getD_rep0]; omega⟩
  | n + 1, h => ⟨rwL_len, fun i => by
      have hN := hs.le
      have h3 := hs.cl_lt ha (show n < N by omega)
      have h4 := ht.cell_lt b n
      rw [rwL, getD_set_int (by rw [rwL_len]; omega)]
      split
      · omega
      · exact (rwL_bytes ht hs ha (show n ≤ N by omega)).rng i⟩
theorem rwL_pl {N : Nat} {t : List Int} (hs : SqP N t) {a b y : Nat} (ha : a < N) (hy : y < N) : pl (rwL t a b N) (cl t a y) = cl t b y := by
  unfold Abs.pl; rw [rwL_at hs ha (Nat.le_refl N) hy]; rfl
theorem l09Rows_ok (N : Nat) (t : List Int) (a b : Nat) (ht : Bytes 100 t) (hs : SqP N t) (ha : a < N) (hb : b < N) :
    ACalls Try.prog 77 [.agg (sqS N t), .i .u8 a, .i .u8 b] [] (fun v ms ns => v = .agg (plS (rwL t a b N)) ∧ ms = [] ∧ ns = []) := by
  have hN := hs.le
  refine acalls_of_body mix Try.func77 rfl fok77 (Nat.le_of_ble_eq_true rfl) ?_
  unfold abody
  simp only [absE, absL, absF, reduceCtorEq, ↓reduceIte, Nat.reduceEqDiff, Nat.reduceAdd, Nat.reduceLT, Nat.reduceMul, Nat.reduceSub, Nat.reduceLeDiff, Int.reduceLT, Int.reduceLE, Int.reduceEq, Option.isSome_some, implies_true, false_implies, Prod.mk.injEq, ne_eq, not_false_eq_true, not_true_eq_false, ge_iff_le, gt_iff_lt, Int.toNat_natCast, Int.reduceToNat, Int.cast_ofNat_Int, Int.natCast_nonneg, Try.f77]
  refine awpLoop.intro (fun x : Nat => [(1, .i .u8 a), (2, .i .u8 b), (3, .ref (.ptr 1 0 0 0)), (6, .ref (.ptr 2 0 0 0)), (7, .ref (.ptr 4 0 0 0)), (8, .i .i64 x)]) (fun x => ⟨[], [((1, 0), .lv true (sqS N t)), ((2, 0), .lv true (plS (List.replicate 10 0))), ((4, 0), .lv true (plS (rwL t a b x)))], 7⟩)
    (fun x => x ≤ N) (fun x => N - x) 0 (by omega) ⟨[((1,0),(1,0)), ((2,0),(2,0)), ((4,0),(4,0))], rfl, ?_, ?_⟩ ?_
  · simp [wkEnv, lk, renV, renAt, renTo, rwL]
  · simp [wkMem, wkLoc, Mem.get, assoc, renBlk, renSegs, renSg, renTo, rwL]
  · intro x hx
    by_cases h : (x : Int) < N
    · have w := wrap_i64s (show x < 2 ^ 62 by omega)
      have j1 := hs.cl_lt ha (show x < N by omega)
      have i1 : (x : Int) < 10 := by omega
      have i2 : (a : Int) < 10 := by omega
      have i3 : (b : Int) < 10 := by omega
      have i4 : (cl t a x : Int) < 10 := by omega
      have u1 : 0 + a * 10 + x * 1 < 100 := by omega
      have u2 : 0 + b * 10 + x * 1 < 100 := by omega
      have u3 : 0 + cl t a x * 1 + 1 ≤ 10 := by omega
      have k1 := sq_colget ht a x
      have k2 := sq_colget ht b x
      simp only [absE, absL, absF, reduceCtorEq, ↓reduceIte, Nat.reduceEqDiff, Nat.reduceAdd, Nat.reduceLT, Nat.reduceMul, Nat.reduceSub, Nat.reduceLeDiff, Int.reduceLT, Int.reduceLE, Int.reduceEq, Option.isSome_some, implies_true, false_implies, Prod.mk.injEq, ne_eq, not_false_eq_true, not_true_eq_false, ge_iff_le, gt_iff_lt, Int.toNat_natCast, Int.reduceToNat, Int.cast_ofNat_Int, Int.natCast_nonneg, h, i1, i2, i3, i4, u1, u2, u3, k1, k2]
      repeat refine ⟨by decide +kernel, ?_⟩
      refine LoopNext.intro (x + 1) (by omega) (by omega) ⟨[((1,0),(1,0)), ((2,0),(2,0)), ((4,0),(4,0))], rfl, ?_, ?_⟩
      · simp [wkEnv, lk, renV, renAt, renTo, rwL, w]
      · simp [wkMem, wkLoc, Mem.get, assoc, renBlk, renSegs, renSg, renTo, rwL, w]
    · have hxN : x = N := by omega
      subst hxN
      simp only [absE, absL, absF, reduceCtorEq, ↓reduceIte, Nat.reduceEqDiff, Nat.reduceAdd, Nat.reduceLT, Nat.reduceMul, Nat.reduceSub, Nat.reduceLeDiff, Int.reduceLT, Int.reduceLE, Int.reduceEq, Option.isSome_some, implies_true, false_implies, Prod.mk.injEq, ne_eq, not_false_eq_true, not_true_eq_false, ge_iff_le, gt_iff_lt, Int.toNat_natCast, Int.reduceToNat, Int.cast_ofNat_Int, Int.natCast_nonneg, h, Try.results77]
      exact ⟨[], by simp, by simp, by simp [renV, renVs, renSegs, renSg]⟩
noncomputable def orbL (f : Nat → Nat) (c : Nat) : List Bool := (List.range 10).map (orbB f c)
theorem orbL_get {f : Nat → Nat} {c z : Nat} (hz : z < 10) : (orbL f c).getD z false = orbB f c z := by simp [orbL, hz]
theorem bools_ext {a b : List Bool} (h : a.length = b.length) (he : ∀ i, i < a.length → a.getD i false = b.getD i false) : a = b := by
  apply List.ext_getElem h
  intro i h1 h2
  have := he i h1
  simpa [h1, h2] using this
theorem getD_setbb {a : List Bool} {i j : Nat} {v : Bool} (h : i < a.length) : (a.set i v).getD j false = if i = j then v else a.getD j false := getD_setb h
theorem count_set_lt {m : List Bool} {i : Nat} (h : i < m.length) (hb : m.getD i false = false) : (m.set i true).count false < m.count false := by
  have h2 : m[i] = false := by simpa [h] using hb
  rw [List.count_set h]
  have h3 : 0 < m.count false := List.count_pos_iff.2 (h2 ▸ List.getElem_mem h)
  simp [h2]
  omega
theorem l09Cycle_ok (N : Nat) (p : List Int) (c : Nat) (hp : Bytes 10 p) (hN : N ≤ 10) (hb : ∀ z, z < N → pl p z < N) (hc : c < N) :
    ACalls Try.prog 76 [.agg (plS p), .i .u8 c] [] (fun v ms ns => v = .agg [(0, .bools 10 (orbL (pl p) c))] ∧ ms = [] ∧ ns = []) := by
  refine acalls_of_body mix Try.func76 rfl fok76 (Nat.le_of_ble_eq_true rfl) ?_
  unfold abody
  simp only [absE, absL, absF, reduceCtorEq, ↓reduceIte, Nat.reduceEqDiff, Nat.reduceAdd, Nat.reduceLT, Nat.reduceMul, Nat.reduceSub, Nat.reduceLeDiff, Int.reduceLT, Int.reduceLE, Int.reduceEq, Option.isSome_some, implies_true, false_implies, Prod.mk.injEq, ne_eq, not_false_eq_true, not_true_eq_false, ge_iff_le, gt_iff_lt, Int.toNat_natCast, Int.reduceToNat, Int.cast_ofNat_Int, Int.natCast_nonneg, Try.f76]
  refine awpLoop.intro (fun s : List Bool × Nat => [(1, .i .u8 s.2), (2, .ref (.ptr 1 0 0 0)), (4, .ref (.ptr 2 0 0 0)), (5, .ref (.ptr 4 0 0 0))]) (fun s => ⟨[], [((1, 0), .lv true (plS p)), ((2, 0), .lv true ([(0, .bools 10 (List.replicate 10 false))])), ((4, 0), .lv true ([(0, .bools 10 s.1)]))], 6⟩)
    (fun s => s.1.length = 10 ∧ s.2 < N ∧ InOrb (pl p) c s.2 ∧ (s.1.getD c false = true ∨ s.2 = c) ∧ ∀ z, s.1.getD z false = true → z < N ∧ InOrb (pl p) c z ∧ (s.1.getD (pl p z) false = true ∨ s.2 = pl p z)) (fun s => s.1.count false) (List.replicate 10 false, c)
    ⟨by simp, hc, .start, .inr rfl, fun z hz => by simp only [getD_repf] at hz; cases hz⟩ ⟨[((1,0),(1,0)), ((2,0),(2,0)), ((4,0),(4,0))], rfl, ?_, ?_⟩ ?_
  · simp [wkEnv, lk, renV, renAt, renTo]
  · simp [wkMem, wkLoc, Mem.get, assoc, renBlk, renSegs, renSg, renTo]
  · rintro ⟨m, y⟩ ⟨h1, h2, h3, h4, h5⟩
    simp only at h1 h2 h3 h4 h5
    have i1 : (y : Int) < 10 := by omega
    have u1 : 0 + y * 1 < 10 := by omega
    have k1 : p.getD (0 + y * 1) 0 = (pl p y : Int) := by rw [Nat.zero_add, Nat.mul_one]; exact hp.place y
    cases hb2 : m.getD (0 + y * 1) false
    · simp only [absE, absL, absF, reduceCtorEq, ↓reduceIte, Nat.reduceEqDiff, Nat.reduceAdd, Nat.reduceLT, Nat.reduceMul, Nat.reduceSub, Nat.reduceLeDiff, Int.reduceLT, Int.reduceLE, Int.reduceEq, Option.isSome_some, implies_true, false_implies, Prod.mk.injEq, ne_eq, not_false_eq_true, not_true_eq_false, ge_iff_le, gt_iff_lt, Int.toNat_natCast, Int.reduceToNat, Int.cast_ofNat_Int, Int.natCast_nonneg, i1, u1, k1, hb2]
      refine ⟨by omega, ?_⟩
      have e0 : 0 + y * 1 = y := by omega
      rw [e0] at hb2 ⊢
      refine LoopNext.intro (m.set y true, pl p y) ⟨by simpa using h1, hb y h2, h3.next, ?_, fun z hz => ?_⟩ (count_set_lt (by omega) hb2) ⟨[((1,0),(1,0)), ((2,0),(2,0)), ((4,0),(4,0))], rfl, ?_, ?_⟩
      · simp only
        rw [getD_setb (by omega)]
        rcases h4 with h4 | h4
        · left; split <;> first | rfl | exact h4
        · left; rw [if_pos h4]
      · simp only at hz ⊢
        rw [getD_setb (by omega)] at hz ⊢
        by_cases e : y = z
        · subst e; exact ⟨h2, h3, .inr rfl⟩
        · rw [if_neg e] at hz
          obtain ⟨g1, g2, g3⟩ := h5 z hz
          refine ⟨g1, g2, ?_⟩
          rcases g3 with g3 | g3
          · left; split <;> first | rfl | exact g3
          · left; rw [if_pos g3]
      · simp [wkEnv, lk, renV, renAt, renTo]
      · simp [wkMem, wkLoc, Mem.get, assoc, renBlk, renSegs, renSg, renTo]
    · simp only [absE, absL, absF, reduceCtorEq, ↓reduceIte, Nat.reduceEqDiff, Nat.reduceAdd, Nat.reduceLT, Nat.reduceMul, Nat.reduceSub, Nat.reduceLeDiff, Int.reduceLT, Int.reduceLE, Int.reduceEq, Option.isSome_some, implies_true, false_implies, Prod.mk.injEq, ne_eq, not_false_eq_true, not_true_eq_false, ge_iff_le, gt_iff_lt, Int.toNat_natCast, Int.reduceToNat, Int.cast_ofNat_Int, Int.natCast_nonneg, i1, u1, k1, hb2, Try.results76]
      have e0 : 0 + y * 1 = y := by omega
      rw [e0] at hb2
      have hcl : ∀ z, InOrb (pl p) c z → m.getD z false = true := fun z hz => InOrb.closed (P := fun z => m.getD z false = true)
        (by rcases h4 with h4 | h4
            · exact h4
            · rw [← h4]; exact hb2) (fun w hw => by
              rcases (h5 w hw).2.2 with h6 | h6
              · exact h6
              · rw [← h6]; exact hb2) hz
      have e : m = orbL (pl p) c := bools_ext (by simp [h1, orbL]) fun i hi => by
        rw [orbL_get (by omega), Bool.eq_iff_iff, orbB_iff]
        exact ⟨fun hh => (h5 i hh).2.1, hcl i⟩
      exact ⟨[], by simp, by simp, by simp [renV, renVs, renSegs, renSg, ← e]⟩

theorem l01Two_ok (n : Int) (t : List Int) (x y : Nat) (ht : Bytes 100 t) (hx : x < 256) (hy : y < 256) :
    ACalls Try.prog 131 [.agg (sqS n t), .i .u8 x, .i .u8 y] [] (fun v ms ns => v = .i .i64 (ccode n t [(x : Int), (y : Int)] 2) ∧ ms = [] ∧ ns = []) := by
  have w1 := wrap_i64n (show x < 2 ^ 62 by omega)
  have w2 := wrap_i64n (show y < 2 ^ 62 by omega)
  refine acalls_of_body mix Try.func131 rfl fok131 (Nat.le_of_ble_eq_true rfl) ?_
  unfold abody
  simp only [absE, absL, absF, reduceCtorEq, ↓reduceIte, Nat.reduceEqDiff, Nat.reduceAdd, Nat.reduceLT, Nat.reduceMul, Nat.reduceSub, Nat.reduceLeDiff, Int.reduceLT, Int.reduceLE, Int.reduceEq, Option.isSome_some, implies_true, false_implies, Prod.mk.injEq, ne_eq, not_false_eq_true, not_true_eq_false, ge_iff_le, gt_iff_lt, Int.toNat_natCast, Int.reduceToNat, Int.cast_ofNat_Int, Int.natCast_nonneg, Try.f131]
  refine CallsVia.none (l01Is_ok n t ht) ?_
  rintro _ _ _ ⟨rfl, rfl, rfl⟩
  cases h1 : sqB n t
  · simp only [absE, absL, absF, reduceCtorEq, ↓reduceIte, Nat.reduceEqDiff, Nat.reduceAdd, Nat.reduceLT, Nat.reduceMul, Nat.reduceSub, Nat.reduceLeDiff, Int.reduceLT, Int.reduceLE, Int.reduceEq, Option.isSome_some, implies_true, false_implies, Prod.mk.injEq, ne_eq, not_false_eq_true, not_true_eq_false, ge_iff_le, gt_iff_lt, Int.toNat_natCast, Int.reduceToNat, Int.cast_ofNat_Int, Int.natCast_nonneg, Try.results131]
    exact ⟨[], by simp, by simp, by simp [renV, renVs, renSegs, renSg, ccode, h1]⟩
  · by_cases g1 : n ≤ (x : Int)
    · have e : hasB n [(x : Int), (y : Int)] 2 = false := by rw [hasB_two, decide_eq_false (show ¬(x : Int) < n by omega)]; rfl
      simp only [absE, absL, absF, reduceCtorEq, ↓reduceIte, Nat.reduceEqDiff, Nat.reduceAdd, Nat.reduceLT, Nat.reduceMul, Nat.reduceSub, Nat.reduceLeDiff, Int.reduceLT, Int.reduceLE, Int.reduceEq, Option.isSome_some, implies_true, false_implies, Prod.mk.injEq, ne_eq, not_false_eq_true, not_true_eq_false, ge_iff_le, gt_iff_lt, Int.toNat_natCast, Int.reduceToNat, Int.cast_ofNat_Int, Int.natCast_nonneg, w1, w2, g1, Try.results131]
      exact ⟨[], by simp, by simp, by simp [renV, renVs, renSegs, renSg, ccode, h1, e]⟩
    · by_cases g2 : n ≤ (y : Int)
      · have e : hasB n [(x : Int), (y : Int)] 2 = false := by rw [hasB_two, decide_eq_false (show ¬(y : Int) < n by omega)]; simp
        simp only [absE, absL, absF, reduceCtorEq, ↓reduceIte, Nat.reduceEqDiff, Nat.reduceAdd, Nat.reduceLT, Nat.reduceMul, Nat.reduceSub, Nat.reduceLeDiff, Int.reduceLT, Int.reduceLE, Int.reduceEq, Option.isSome_some, implies_true, false_implies, Prod.mk.injEq, ne_eq, not_false_eq_true, not_true_eq_false, ge_iff_le, gt_iff_lt, Int.toNat_natCast, Int.reduceToNat, Int.cast_ofNat_Int, Int.natCast_nonneg, w1, w2, g1, g2, Try.results131]
        exact ⟨[], by simp, by simp, by simp [renV, renVs, renSegs, renSg, ccode, h1, e]⟩
      · have e : hasB n [(x : Int), (y : Int)] 2 = true := by rw [hasB_two]; simp; omega
        simp only [absE, absL, absF, reduceCtorEq, ↓reduceIte, Nat.reduceEqDiff, Nat.reduceAdd, Nat.reduceLT, Nat.reduceMul, Nat.reduceSub, Nat.reduceLeDiff, Int.reduceLT, Int.reduceLE, Int.reduceEq, Option.isSome_some, implies_true, false_implies, Prod.mk.injEq, ne_eq, not_false_eq_true, not_true_eq_false, ge_iff_le, gt_iff_lt, Int.toNat_natCast, Int.reduceToNat, Int.cast_ofNat_Int, Int.natCast_nonneg, w1, w2, g1, g2, Try.results131]
        exact ⟨[], by simp, by simp, by simp [renV, renVs, renSegs, renSg, ccode, h1, e]⟩
noncomputable def rcode (n : Int) (t : List Int) (a b c : Nat) : Int := if sqB n t then (if hasB n [(a : Int), (b : Int), (c : Int)] 3 && !decide (a = b) then 0 else 2) else 1
theorem rcode_zero {n : Int} {t : List Int} {a b c : Nat} (h : rcode n t a b c = 0) : SqP n t ∧ (a : Int) < n ∧ (b : Int) < n ∧ (c : Int) < n ∧ a ≠ b := by
  unfold rcode at h
  split at h
  · rename_i h1
    split at h
    · rename_i h2
      simp only [hasB_three, Bool.and_eq_true, decide_eq_true_eq, Bool.not_eq_true', decide_eq_false_iff_not] at h2
      exact ⟨sqB_iff.1 h1, h2.1.1.1, h2.1.1.2, h2.1.2, h2.2⟩
    · omega
  · omega
theorem rowsCode_ok (n : Int) (t : List Int) (a b c : Nat) (ht : Bytes 100 t) (ha : a < 256) (hb : b < 256) (hc : c < 256) :
    ACalls Try.prog 78 [.agg (sqS n t), .i .u8 a, .i .u8 b, .i .u8 c] [] (fun v ms ns => v = .i .i64 (rcode n t a b c) ∧ ms = [] ∧ ns = []) := by
  refine acalls_of_body mix Try.func78 rfl fok78 (Nat.le_of_ble_eq_true rfl) ?_
  unfold abody
  simp only [absE, absL, absF, reduceCtorEq, ↓reduceIte, Nat.reduceEqDiff, Nat.reduceAdd, Nat.reduceLT, Nat.reduceMul, Nat.reduceSub, Nat.reduceLeDiff, Int.reduceLT, Int.reduceLE, Int.reduceEq, Option.isSome_some, implies_true, false_implies, Prod.mk.injEq, ne_eq, not_false_eq_true, not_true_eq_false, ge_iff_le, gt_iff_lt, Int.toNat_natCast, Int.reduceToNat, Int.cast_ofNat_Int, Int.natCast_nonneg, Try.f78]
  refine CallsVia.args [(7, 0)] (checked_ok n t [(a : Int), (b : Int), (c : Int)] 3 ht (bytes_cons ha (bytes_two hb hc)) (by omega)) (by simp) (by simp [Mem.get, assoc]) rfl rfl ?_
  rintro _ _ _ ⟨rfl, rfl, rfl⟩
  cases h1 : sqB n t
  · have e : ccode n t [(a : Int), (b : Int), (c : Int)] 3 = 1 := by simp [ccode, h1]
    simp only [absE, absL, absF, reduceCtorEq, ↓reduceIte, Nat.reduceEqDiff, Nat.reduceAdd, Nat.reduceLT, Nat.reduceMul, Nat.reduceSub, Nat.reduceLeDiff, Int.reduceLT, Int.reduceLE, Int.reduceEq, Option.isSome_some, implies_true, false_implies, Prod.mk.injEq, ne_eq, not_false_eq_true, not_true_eq_false, ge_iff_le, gt_iff_lt, Int.toNat_natCast, Int.reduceToNat, Int.cast_ofNat_Int, Int.natCast_nonneg, e, Try.results78]
    exact ⟨[], by simp, by simp, by simp [renV, renVs, renSegs, renSg, rcode, h1]⟩
  · cases h2 : hasB n [(a : Int), (b : Int), (c : Int)] 3
    · have e : ccode n t [(a : Int), (b : Int), (c : Int)] 3 = 2 := by simp [ccode, h1, h2]
      simp only [absE, absL, absF, reduceCtorEq, ↓reduceIte, Nat.reduceEqDiff, Nat.reduceAdd, Nat.reduceLT, Nat.reduceMul, Nat.reduceSub, Nat.reduceLeDiff, Int.reduceLT, Int.reduceLE, Int.reduceEq, Option.isSome_some, implies_true, false_implies, Prod.mk.injEq, ne_eq, not_false_eq_true, not_true_eq_false, ge_iff_le, gt_iff_lt, Int.toNat_natCast, Int.reduceToNat, Int.cast_ofNat_Int, Int.natCast_nonneg, e, Try.results78]
      exact ⟨[], by simp, by simp, by simp [renV, renVs, renSegs, renSg, rcode, h1, h2]⟩
    · have e : ccode n t [(a : Int), (b : Int), (c : Int)] 3 = 0 := by simp [ccode, h1, h2]
      by_cases h3 : a = b
      · subst h3
        simp only [absE, absL, absF, reduceCtorEq, ↓reduceIte, Nat.reduceEqDiff, Nat.reduceAdd, Nat.reduceLT, Nat.reduceMul, Nat.reduceSub, Nat.reduceLeDiff, Int.reduceLT, Int.reduceLE, Int.reduceEq, Option.isSome_some, implies_true, false_implies, Prod.mk.injEq, ne_eq, not_false_eq_true, not_true_eq_false, ge_iff_le, gt_iff_lt, Int.toNat_natCast, Int.reduceToNat, Int.cast_ofNat_Int, Int.natCast_nonneg, e, eq_self, Try.results78]
        exact ⟨[], by simp, by simp, by simp [renV, renVs, renSegs, renSg, rcode, h1, h2]⟩
      · have g : ¬(a : Int) = b := by omega
        simp only [absE, absL, absF, reduceCtorEq, ↓reduceIte, Nat.reduceEqDiff, Nat.reduceAdd, Nat.reduceLT, Nat.reduceMul, Nat.reduceSub, Nat.reduceLeDiff, Int.reduceLT, Int.reduceLE, Int.reduceEq, Option.isSome_some, implies_true, false_implies, Prod.mk.injEq, ne_eq, not_false_eq_true, not_true_eq_false, ge_iff_le, gt_iff_lt, Int.toNat_natCast, Int.reduceToNat, Int.cast_ofNat_Int, Int.natCast_nonneg, e, g, Try.results78]
        exact ⟨[], by simp, by simp, by simp [renV, renVs, renSegs, renSg, rcode, h1, h2, h3]⟩
theorem l09Pair_ok (n : Int) (t : List Int) (a b c : Nat) (ht : Bytes 100 t) (ha : a < 256) (hb : b < 256) (hc : c < 256) :
    ACalls Try.prog 75 [.agg (sqS n t), .i .u8 a, .i .u8 b, .i .u8 c] [] (fun v ms ns => v = .i .i64 (rcode n t a b c) ∧ ms = [] ∧ ns = []) := by
  have w3 := wrap_i64n (show c < 2 ^ 62 by omega)
  refine acalls_of_body mix Try.func75 rfl fok75 (Nat.le_of_ble_eq_true rfl) ?_
  unfold abody
  simp only [absE, absL, absF, reduceCtorEq, ↓reduceIte, Nat.reduceEqDiff, Nat.reduceAdd, Nat.reduceLT, Nat.reduceMul, Nat.reduceSub, Nat.reduceLeDiff, Int.reduceLT, Int.reduceLE, Int.reduceEq, Option.isSome_some, implies_true, false_implies, Prod.mk.injEq, ne_eq, not_false_eq_true, not_true_eq_false, ge_iff_le, gt_iff_lt, Int.toNat_natCast, Int.reduceToNat, Int.cast_ofNat_Int, Int.natCast_nonneg, Try.f75]
  refine CallsVia.none (l01Two_ok n t a b ht ha hb) ?_
  rintro _ _ _ ⟨rfl, rfl, rfl⟩
  cases h1 : sqB n t
  · have e : ccode n t [(a : Int), (b : Int)] 2 = 1 := by simp [ccode, h1]
    simp only [absE, absL, absF, reduceCtorEq, ↓reduceIte, Nat.reduceEqDiff, Nat.reduceAdd, Nat.reduceLT, Nat.reduceMul, Nat.reduceSub, Nat.reduceLeDiff, Int.reduceLT, Int.reduceLE, Int.reduceEq, Option.isSome_some, implies_true, false_implies, Prod.mk.injEq, ne_eq, not_false_eq_true, not_true_eq_false, ge_iff_le, gt_iff_lt, Int.toNat_natCast, Int.reduceToNat, Int.cast_ofNat_Int, Int.natCast_nonneg, e, Try.results75]
    exact ⟨[], by simp, by simp, by simp [renV, renVs, renSegs, renSg, rcode, h1]⟩
  · cases h2 : hasB n [(a : Int), (b : Int)] 2
    · have e : ccode n t [(a : Int), (b : Int)] 2 = 2 := by simp [ccode, h1, h2]
      have e3 : hasB n [(a : Int), (b : Int), (c : Int)] 3 = false := by rw [hasB_three]; rw [hasB_two] at h2; rw [h2]; rfl
      simp only [absE, absL, absF, reduceCtorEq, ↓reduceIte, Nat.reduceEqDiff, Nat.reduceAdd, Nat.reduceLT, Nat.reduceMul, Nat.reduceSub, Nat.reduceLeDiff, Int.reduceLT, Int.reduceLE, Int.reduceEq, Option.isSome_some, implies_true, false_implies, Prod.mk.injEq, ne_eq, not_false_eq_true, not_true_eq_false, ge_iff_le, gt_iff_lt, Int.toNat_natCast, Int.reduceToNat, Int.cast_ofNat_Int, Int.natCast_nonneg, e, Try.results75]
      exact ⟨[], by simp, by simp, by simp [renV, renVs, renSegs, renSg, rcode, h1, e3]⟩
    · have e : ccode n t [(a : Int), (b : Int)] 2 = 0 := by simp [ccode, h1, h2]
      by_cases h3 : a = b
      · subst h3
        simp only [absE, absL, absF, reduceCtorEq, ↓reduceIte, Nat.reduceEqDiff, Nat.reduceAdd, Nat.reduceLT, Nat.reduceMul, Nat.reduceSub, Nat.reduceLeDiff, Int.reduceLT, Int.reduceLE, Int.reduceEq, Option.isSome_some, implies_true, false_implies, Prod.mk.injEq, ne_eq, not_false_eq_true, not_true_eq_false, ge_iff_le, gt_iff_lt, Int.toNat_natCast, Int.reduceToNat, Int.cast_ofNat_Int, Int.natCast_nonneg, e, eq_self, Try.results75]
        exact ⟨[], by simp, by simp, by simp [renV, renVs, renSegs, renSg, rcode, h1]⟩
      · have g : ¬(a : Int) = b := by omega
        by_cases h4 : n ≤ (c : Int)
        · have e3 : hasB n [(a : Int), (b : Int), (c : Int)] 3 = false := by rw [hasB_three, decide_eq_false (show ¬(c : Int) < n by omega), Bool.and_false]
          simp only [absE, absL, absF, reduceCtorEq, ↓reduceIte, Nat.reduceEqDiff, Nat.reduceAdd, Nat.reduceLT, Nat.reduceMul, Nat.reduceSub, Nat.reduceLeDiff, Int.reduceLT, Int.reduceLE, Int.reduceEq, Option.isSome_some, implies_true, false_implies, Prod.mk.injEq, ne_eq, not_false_eq_true, not_true_eq_false, ge_iff_le, gt_iff_lt, Int.toNat_natCast, Int.reduceToNat, Int.cast_ofNat_Int, Int.natCast_nonneg, e, g, w3, h4, Try.results75]
          exact ⟨[], by simp, by simp, by simp [renV, renVs, renSegs, renSg, rcode, h1, e3]⟩
        · have e3 : hasB n [(a : Int), (b : Int), (c : Int)] 3 = true := by rw [hasB_three]; rw [hasB_two] at h2; rw [h2, decide_eq_true (show (c : Int) < n by omega)]; rfl
          simp only [absE, absL, absF, reduceCtorEq, ↓reduceIte, Nat.reduceEqDiff, Nat.reduceAdd, Nat.reduceLT, Nat.reduceMul, Nat.reduceSub, Nat.reduceLeDiff, Int.reduceLT, Int.reduceLE, Int.reduceEq, Option.isSome_some, implies_true, false_implies, Prod.mk.injEq, ne_eq, not_false_eq_true, not_true_eq_false, ge_iff_le, gt_iff_lt, Int.toNat_natCast, Int.reduceToNat, Int.cast_ofNat_Int, Int.natCast_nonneg, e, g, w3, h4, Try.results75]
          exact ⟨[], by simp, by simp, by simp [renV, renVs, renSegs, renSg, rcode, h1, e3, h3]⟩
noncomputable def swP (N : Nat) (t : List Int) (a b c y : Nat) : Bool := (orbL (pl (rwL t a b N)) (cl t a c)).getD (0 + cl t a y * 1) false
noncomputable def swcT (N : Nat) (t : List Int) (a b c : Nat) : List Int := swT t a b (setM (orbB (cycF N t a b) c) N).testBit N
noncomputable def swcAV (n : Int) (t : List Int) (a b c : Nat) : AV := resSq (rcode n t a b c) n (swcT n.toNat t a b c)
theorem swc_form (n : Int) (t : List Int) (a b c : Nat) (ht : Bytes 100 t) (ha : a < 256) (hb : b < 256) (hc : c < 256) : ∃ k s e, s.length = 100 ∧ swcAV n t a b c = .tup [.agg (sqS k s), .i .i64 e] := resSq_form _ _ (by unfold swcT; rw [swT_len, ht.len])
theorem implSwitchCycle_ok (n : Int) (t : List Int) (a b c : Nat) (ht : Bytes 100 t) (ha : a < 256) (hb : b < 256) (hc : c < 256) :
    ACalls Try.prog 41 [.agg (sqS n t), .i .u8 a, .i .u8 b, .i .u8 c] [] (fun v ms ns => v = swcAV n t a b c ∧ ms = [] ∧ ns = []) := by
  unfold swcAV
  refine acalls_of_body mix Try.func41 rfl fok41 (Nat.le_of_ble_eq_true rfl) ?_
  unfold abody
  simp only [absE, absL, absF, reduceCtorEq, ↓reduceIte, Nat.reduceEqDiff, Nat.reduceAdd, Nat.reduceLT, Nat.reduceMul, Nat.reduceSub, Nat.reduceLeDiff, Int.reduceLT, Int.reduceLE, Int.reduceEq, Option.isSome_some, implies_true, false_implies, Prod.mk.injEq, ne_eq, not_false_eq_true, not_true_eq_false, ge_iff_le, gt_iff_lt, Int.toNat_natCast, Int.reduceToNat, Int.cast_ofNat_Int, Int.natCast_nonneg, Try.f41]
  refine CallsVia.none (rowsCode_ok n t a b c ht ha hb hc) ?_
  rintro _ _ _ ⟨rfl, rfl, rfl⟩
  by_cases h : rcode n t a b c = 0
  · obtain ⟨hs, h1, h2, h3, h4⟩ := rcode_zero h
    obtain ⟨N, rfl⟩ : ∃ N : Nat, n = N := ⟨n.toNat, by have := hs.1; omega⟩
    have hN := hs.le
    simp only [absE, absL, absF, reduceCtorEq, ↓reduceIte, Nat.reduceEqDiff, Nat.reduceAdd, Nat.reduceLT, Nat.reduceMul, Nat.reduceSub, Nat.reduceLeDiff, Int.reduceLT, Int.reduceLE, Int.reduceEq, Option.isSome_some, implies_true, false_implies, Prod.mk.injEq, ne_eq, not_false_eq_true, not_true_eq_false, ge_iff_le, gt_iff_lt, Int.toNat_natCast, Int.reduceToNat, Int.cast_ofNat_Int, Int.natCast_nonneg, h]
    refine CallsX.none (cycle_ok N t a b c ht hs (by omega) (by omega) (by omega)) ?_
    have h62 : setM (orbB (cycF N t a b) c) N < 2 ^ 62 := by
      have h5 := setM_lt (p := orbB (cycF N t a b) c) (k := N)
      have h6 : (2 : Nat) ^ N ≤ 2 ^ 10 := Nat.pow_le_pow_right (by decide) (by omega)
      omega
    simp only [absE, absL, absF, reduceCtorEq, ↓reduceIte, Nat.reduceEqDiff, Nat.reduceAdd, Nat.reduceLT, Nat.reduceMul, Nat.reduceSub, Nat.reduceLeDiff, Int.reduceLT, Int.reduceLE, Int.reduceEq, Option.isSome_some, implies_true, false_implies, Prod.mk.injEq, ne_eq, not_false_eq_true, not_true_eq_false, ge_iff_le, gt_iff_lt, Int.toNat_natCast, Int.reduceToNat, Int.cast_ofNat_Int, Int.natCast_nonneg]
    refine CallsX.none (exchange_ok N t a b _ ht hN (by omega) (by omega) h62) ?_
    simp only [absE, absL, absF, reduceCtorEq, ↓reduceIte, Nat.reduceEqDiff, Nat.reduceAdd, Nat.reduceLT, Nat.reduceMul, Nat.reduceSub, Nat.reduceLeDiff, Int.reduceLT, Int.reduceLE, Int.reduceEq, Option.isSome_some, implies_true, false_implies, Prod.mk.injEq, ne_eq, not_false_eq_true, not_true_eq_false, ge_iff_le, gt_iff_lt, Int.toNat_natCast, Int.reduceToNat, Int.cast_ofNat_Int, Int.natCast_nonneg, Try.results41]
    exact ⟨[], by simp, by simp, by simp [renV, renVs, renSegs, renSg, resSq0 h, swcT]⟩
  · simp only [absE, absL, absF, reduceCtorEq, ↓reduceIte, Nat.reduceEqDiff, Nat.reduceAdd, Nat.reduceLT, Nat.reduceMul, Nat.reduceSub, Nat.reduceLeDiff, Int.reduceLT, Int.reduceLE, Int.reduceEq, Option.isSome_some, implies_true, false_implies, Prod.mk.injEq, ne_eq, not_false_eq_true, not_true_eq_false, ge_iff_le, gt_iff_lt, Int.toNat_natCast, Int.reduceToNat, Int.cast_ofNat_Int, Int.natCast_nonneg, h, Try.results41]
    exact ⟨[], by simp, by simp, by simp [renV, renVs, renSegs, renSg, resSqN h]⟩
theorem specSwitchCycle_ok (n : Int) (t : List Int) (a b c : Nat) (ht : Bytes 100 t) (ha : a < 256) (hb : b < 256) (hc : c < 256) :
    ACalls Try.prog 40 [.agg (sqS n t), .i .u8 a, .i .u8 b, .i .u8 c] [] (fun v ms ns => v = swcAV n t a b c ∧ ms = [] ∧ ns = []) := by
  unfold swcAV
  refine acalls_of_body mix Try.func40 rfl fok40 (Nat.le_of_ble_eq_true rfl) ?_
  unfold abody
  simp only [absE, absL, absF, reduceCtorEq, ↓reduceIte, Nat.reduceEqDiff, Nat.reduceAdd, Nat.reduceLT, Nat.reduceMul, Nat.reduceSub, Nat.reduceLeDiff, Int.reduceLT, Int.reduceLE, Int.reduceEq, Option.isSome_some, implies_true, false_implies, Prod.mk.injEq, ne_eq, not_false_eq_true, not_true_eq_false, ge_iff_le, gt_iff_lt, Int.toNat_natCast, Int.reduceToNat, Int.cast_ofNat_Int, Int.natCast_nonneg, Try.f40]
  refine CallsVia.none (l09Pair_ok n t a b c ht ha hb hc) ?_
  rintro _ _ _ ⟨rfl, rfl, rfl⟩
  by_cases h : rcode n t a b c = 0
  · obtain ⟨hs, h1, h2, h3, h4⟩ := rcode_zero h
    obtain ⟨N, rfl⟩ : ∃ N : Nat, n = N := ⟨n.toNat, by have := hs.1; omega⟩
    have hN := hs.le
    have hl := ht.len
    have hr := fun z hz => hs.cl_lt (show a < N by omega) (y := z) hz
    have hbd : ∀ z, z < N → pl (rwL t a b N) z < N := fun z hz => by
      obtain ⟨y, hy, e⟩ := PermF.surj (hs.rowP (show a < N by omega)) hN hz
      rw [← e, rwL_pl hs (by omega) hy]; exact hs.cl_lt (by omega) hy
    have hac := hr c (by omega)
    have key : swT t a b (swP N t a b c) N = swcT N t a b c := swT_congr fun i hi => by
      have := hr i hi
      unfold swP
      rw [Nat.zero_add, Nat.mul_one, orbL_get (by omega), setM_bit, decide_eq_true hi, Bool.true_and, Bool.eq_iff_iff, orbB_iff, orbB_iff]
      exact (orb_conj (r := cl t a) (by omega) hi (fun y hy => cycF_lt hs (by omega) (by omega) hy) (fun y hy => by
        rw [rwL_pl hs (by omega) hy]
        exact PermF.fnd_at (hs.rowP (by omega)) hN (hs.cl_lt (by omega) hy)) (fun x y hx hy e => PermF.inj (hs.rowP (by omega)) hN hx hy e)).symm
    have i1 : (a : Int) < 10 := by omega
    have i2 : (b : Int) < 10 := by omega
    have i3 : (c : Int) < 10 := by omega
    have u0 : 0 + a * 10 + c * 1 < 100 := by omega
    have k0 := sq_colget ht a c
    simp only [absE, absL, absF, reduceCtorEq, ↓reduceIte, Nat.reduceEqDiff, Nat.reduceAdd, Nat.reduceLT, Nat.reduceMul, Nat.reduceSub, Nat.reduceLeDiff, Int.reduceLT, Int.reduceLE, Int.reduceEq, Option.isSome_some, implies_true, false_implies, Prod.mk.injEq, ne_eq, not_false_eq_true, not_true_eq_false, ge_iff_le, gt_iff_lt, Int.toNat_natCast, Int.reduceToNat, Int.cast_ofNat_Int, Int.natCast_nonneg, h]
    refine CallsX.none (l09Rows_ok N t a b ht hs (by omega) (by omega)) ?_
    simp only [absE, absL, absF, reduceCtorEq, ↓reduceIte, Nat.reduceEqDiff, Nat.reduceAdd, Nat.reduceLT, Nat.reduceMul, Nat.reduceSub, Nat.reduceLeDiff, Int.reduceLT, Int.reduceLE, Int.reduceEq, Option.isSome_some, implies_true, false_implies, Prod.mk.injEq, ne_eq, not_false_eq_true, not_true_eq_false, ge_iff_le, gt_iff_lt, Int.toNat_natCast, Int.reduceToNat, Int.cast_ofNat_Int, Int.natCast_nonneg, i1, i3, u0, k0]
    refine CallsX.none (l09Cycle_ok N _ (cl t a c) (rwL_bytes ht hs (by omega) (Nat.le_refl N)) hN hbd hac) ?_
    simp only [absE, absL, absF, reduceCtorEq, ↓reduceIte, Nat.reduceEqDiff, Nat.reduceAdd, Nat.reduceLT, Nat.reduceMul, Nat.reduceSub, Nat.reduceLeDiff, Int.reduceLT, Int.reduceLE, Int.reduceEq, Option.isSome_some, implies_true, false_implies, Prod.mk.injEq, ne_eq, not_false_eq_true, not_true_eq_false, ge_iff_le, gt_iff_lt, Int.toNat_natCast, Int.reduceToNat, Int.cast_ofNat_Int, Int.natCast_nonneg]
    repeat refine ⟨by decide +kernel, ?_⟩
    refine awpLoop.intro (fun x : Nat => [(1, .i .u8 a), (2, .i .u8 b), (4, .ref (.ptr 1 0 0 0)), (8, .ref (.ptr 2 0 0 0)), (11, .ref (.ptr 24 0 0 0)), (12, .ref (.ptr 25 0 0 0)), (13, .i .i64 x)]) (fun x => ⟨[], [((1, 0), .lv true (sqS N t)), ((2, 0), .lv true (sqS 0 (List.replicate 100 0))), ((24, 0), .lv true ([(0, .bools 10 (orbL (pl (rwL t a b N)) (cl t a c)))])), ((25, 0), .lv true (sqS N (swT t a b (swP N t a b c) x)))], 29⟩)
      (fun x => x ≤ N) (fun x => N - x) 0 (by omega) ⟨[((1,0),(1,0)), ((2,0),(2,0)), ((24,0),(24,0)), ((25,0),(25,0))], rfl, ?_, ?_⟩ ?_
    · simp [wkEnv, lk, renV, renAt, renTo, swT]
    · simp [wkMem, wkLoc, Mem.get, assoc, renBlk, renSegs, renSg, renTo, swT]
    · intro x hx
      by_cases h' : (x : Int) < N
      · have w := wrap_i64s (show x < 2 ^ 62 by omega)
        have j1 := hr x (by omega)
        have i4 : (x : Int) < 10 := by omega
        have i5 : (cl t a x : Int) < 10 := by omega
        have u1 : 0 + a * 10 + x * 1 < 100 := by omega
        have u2 : 0 + b * 10 + x * 1 < 100 := by omega
        have u3 : 0 + a * 10 + x * 1 + 1 ≤ 100 := by omega
        have u4 : 0 + b * 10 + x * 1 + 1 ≤ 100 := by omega
        have u5 : 0 + cl t a x * 1 < 10 := by omega
        have k1 := sq_colget ht a x
        have k2 := sq_colget ht b x
        cases hb2 : (orbL (pl (rwL t a b N)) (cl t a c)).getD (0 + cl t a x * 1) false
        · have hb3 : swP N t a b c x = false := hb2
          simp only [absE, absL, absF, reduceCtorEq, ↓reduceIte, Nat.reduceEqDiff, Nat.reduceAdd, Nat.reduceLT, Nat.reduceMul, Nat.reduceSub, Nat.reduceLeDiff, Int.reduceLT, Int.reduceLE, Int.reduceEq, Option.isSome_some, implies_true, false_implies, Prod.mk.injEq, ne_eq, not_false_eq_true, not_true_eq_false, ge_iff_le, gt_iff_lt, Int.toNat_natCast, Int.reduceToNat, Int.cast_ofNat_Int, Int.natCast_nonneg, h', i1, i2, i4, i5, u1, u2, u3, u4, u5, k1, k2, hb2]
          refine LoopNext.intro (x + 1) (by omega) (by omega) ⟨[((1,0),(1,0)), ((2,0),(2,0)), ((24,0),(24,0)), ((25,0),(25,0))], rfl, ?_, ?_⟩
          · simp [wkEnv, lk, renV, renAt, renTo, w, swT, hb3]
          · simp [wkMem, wkLoc, Mem.get, assoc, renBlk, renSegs, renSg, renTo, w, swT, hb3]
        · have hb3 : swP N t a b c x = true := hb2
          simp only [absE, absL, absF, reduceCtorEq, ↓reduceIte, Nat.reduceEqDiff, Nat.reduceAdd, Nat.reduceLT, Nat.reduceMul, Nat.reduceSub, Nat.reduceLeDiff, Int.reduceLT, Int.reduceLE, Int.reduceEq, Option.isSome_some, implies_true, false_implies, Prod.mk.injEq, ne_eq, not_false_eq_true, not_true_eq_false, ge_iff_le, gt_iff_lt, Int.toNat_natCast, Int.reduceToNat, Int.cast_ofNat_Int, Int.natCast_nonneg, h', i1, i2, i4, i5, u1, u2, u3, u4, u5, k1, k2, hb2]
          repeat refine ⟨by decide +kernel, ?_⟩
          refine LoopNext.intro (x + 1) (by omega) (by omega) ⟨[((1,0),(1,0)), ((2,0),(2,0)), ((24,0),(24,0)), ((25,0),(25,0))], rfl, ?_, ?_⟩
          · simp [wkEnv, lk, renV, renAt, renTo, w, swT, hb3]
          · simp [wkMem, wkLoc, Mem.get, assoc, renBlk, renSegs, renSg, renTo, w, swT, hb3]
      · have hxN : x = N := by omega
        subst hxN
        simp only [absE, absL, absF, reduceCtorEq, ↓reduceIte, Nat.reduceEqDiff, Nat.reduceAdd, Nat.reduceLT, Nat.reduceMul, Nat.reduceSub, Nat.reduceLeDiff, Int.reduceLT, Int.reduceLE, Int.reduceEq, Option.isSome_some, implies_true, false_implies, Prod.mk.injEq, ne_eq, not_false_eq_true, not_true_eq_false, ge_iff_le, gt_iff_lt, Int.toNat_natCast, Int.reduceToNat, Int.cast_ofNat_Int, Int.natCast_nonneg, h', key, Try.results40]
        exact ⟨[], by simp, by simp, by simp [renV, renVs, renSegs, renSg, resSq0 h]⟩
  · simp only [absE, absL, absF, reduceCtorEq, ↓reduceIte, Nat.reduceEqDiff, Nat.reduceAdd, Nat.reduceLT, Nat.reduceMul, Nat.reduceSub, Nat.reduceLeDiff, Int.reduceLT, Int.reduceLE, Int.reduceEq, Option.isSome_some, implies_true, false_implies, Prod.mk.injEq, ne_eq, not_false_eq_true, not_true_eq_false, ge_iff_le, gt_iff_lt, Int.toNat_natCast, Int.reduceToNat, Int.cast_ofNat_Int, Int.natCast_nonneg, h, Try.results40]
    exact ⟨[], by simp, by simp, by simp [renV, renVs, renSegs, renSg, resSqN h]⟩

end Go.Proofs.Ytopkdpgbjpjgjaa
