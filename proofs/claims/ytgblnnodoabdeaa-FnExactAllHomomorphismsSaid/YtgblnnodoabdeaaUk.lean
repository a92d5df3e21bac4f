/-
Contracts of functions of the given program, by the abstract walk.
-/
import Derived.Test.YtgblnnodoabdeaaAbsY
import Derived.Test.YtgblnnodoabdeaaUj
namespace Go.Proofs.Ytgblnnodoabdeaa
open Go Go.Abs
set_option linter.unusedVariables false
set_option linter.unusedSectionVars false
set_option linter.unusedSimpArgs false
set_option maxRecDepth 100000
/-! isomorphisms step by step: put -/
def frS (N : Nat) (f : List Int) : List Int := (List.range 10).map fun y => ((if fnd (pl f) y N < N then fnd (pl f) y N else 255 : Nat) : Int)
theorem fnd_congr {f g : Nat → Nat} {z : Nat} : ∀ {k}, (∀ i, i < k → (f i = z ↔ g i = z)) → fnd f z k = fnd g z k
  | 0, _ => rfl
  | k + 1, h => by
    have ih := fnd_congr (f := f) (g := g) (z := z) (k := k) fun i hi => h i (by omega)
    rw [fnd, fnd, ih]
    have := h k (by omega)
    by_cases e : f k = z
    · rw [if_pos e, if_pos (this.1 e)]
    · rw [if_neg e, if_neg fun hh => e (this.2 hh)]
theorem frS_len {N : Nat} {f : List Int} : (frS N f).length = 10 := by simp [frS]
theorem frS_get {N : Nat} {f : List Int} {y : Nat} (hy : y < 10) : (frS N f).getD y 0 = ((if fnd (pl f) y N < N then fnd (pl f) y N else 255 : Nat) : Int) := by
  unfold frS; rw [List.getD_eq_getElem?_getD, List.getElem?_map, List.getElem?_range hy]; rfl
theorem frS_free {N : Nat} {f : List Int} {y : Nat} (hN : N ≤ 10) (hy : y < 10) : (frS N f).getD y 0 = 255 ↔ ∀ c, c < N → pl f c ≠ y := by
  rw [frS_get hy]
  constructor
  · intro h c hc e
    have := fnd_lt hc e
    rw [if_pos this] at h
    omega
  · intro h
    rw [if_neg]
    · rfl
    · intro hh; exact h _ hh (fnd_at hh)
theorem frS_set {N : Nat} {f : List Int} {a b : Nat} (hN : N ≤ 10) (hf : f.length = 10) (ha : a < N) (h : pl f a = 255) (hu : ∀ c, c < N → pl f c ≠ b) : (frS N f).set b (a : Int) = frS N (f.set a (b : Int)) := by
  have e := fun j => pl_put (f := f) (j := j) (b := b) hf (show a < 10 by omega)
  refine ext_getD (by simp [frS]) fun i hi => ?_
  have hi : i < 10 := by simpa [frS] using hi
  by_cases hb : b < 10
  · rw [getD_set_int (by rw [frS_len]; exact hb), frS_get hi, frS_get hi]
    by_cases hib : b = i
    · subst hib
      have k : fnd (pl (f.set a (b : Int))) b N = a := fnd_eq ha (by rw [e, if_pos rfl]) fun j hj => by
        rw [e, if_neg (by omega)]; exact hu j (by omega)
      rw [if_pos rfl, k, if_pos ha]
    · have k : fnd (pl (f.set a (b : Int))) i N = fnd (pl f) i N := fnd_congr fun j hj => by
        rw [e]
        by_cases ej : a = j
        · subst ej; rw [if_pos rfl, h]; constructor <;> intro hh <;> omega
        · rw [if_neg ej]
      rw [if_neg hib, k]
  · rw [List.set_eq_of_length_le (by rw [frS_len]; omega), frS_get hi, frS_get hi]
    have k : fnd (pl (f.set a (b : Int))) i N = fnd (pl f) i N := fnd_congr fun j hj => by
      rw [e]
      by_cases ej : a = j
      · subst ej; rw [if_pos rfl, h]; constructor <;> intro hh <;> omega
      · rw [if_neg ej]
    rw [k]
def flatQ : List (Nat × Nat) → List Int
  | [] => []
  | p :: r => (p.1 : Int) :: (p.2 : Int) :: flatQ r
theorem flatQ_len : ∀ {qs : List (Nat × Nat)}, (flatQ qs).length = qs.length * 2
  | [] => rfl
  | p :: r => by simp [flatQ, flatQ_len (qs := r)]; omega
theorem flatQ_app : ∀ {a b : List (Nat × Nat)}, flatQ (a ++ b) = flatQ a ++ flatQ b
  | [], _ => rfl
  | p :: r, b => by simp [flatQ, flatQ_app (a := r)]
abbrev ldS (n : Int) (t : List Int) (m : Int) (s f g : List Int) : Segs := [(0, .ints .i64 1 [n]), (1, .ints .u8 100 t), (101, .ints .i64 1 [m]), (102, .ints .u8 100 s), (202, .ints .u8 10 f), (212, .ints .u8 10 g)]
theorem put_ok (N : Nat) (t s f : List Int) (x y : Nat) (ht : Bytes 100 t) (hs : Bytes 100 s) (st : SqP N t) (ss : SqP N s) (hf : PGood true N N t s f) (hx : x < N) (hy : y < N) :
    ACalls Try.prog 114 [.ref (.ptr 0 0 0 0), .i .u8 x, .i .u8 y] [.lv true (ldS N t N s f (frS N f))]
      (fun v ms ns => ∃ b g, ((b = true → LE true N N t s f x y g) ∧ (b = false → NoExt true N N t s f x y)) ∧ v = .b b ∧ ms = [.lv true (ldS N t N s g (frS N g))] ∧ ns = []) := by
  have hN := st.le
  refine acalls_of_body mix Try.func114 rfl fok114 (Nat.le_of_ble_eq_true rfl) ?_
  unfold abody
  simp only [absE, absL, absF, reduceCtorEq, ↓reduceIte, Nat.reduceEqDiff, Nat.reduceAdd, Nat.reduceLT, Nat.reduceMul, Nat.reduceSub, Nat.reduceLeDiff, Int.reduceLT, Int.reduceLE, Int.reduceEq, Option.isSome_some, implies_true, false_implies, Prod.mk.injEq, ne_eq, not_false_eq_true, not_true_eq_false, ge_iff_le, gt_iff_lt, Int.toNat_natCast, Int.reduceToNat, Int.cast_ofNat_Int, Int.natCast_nonneg, Try.f114]
  refine awpLoop.intro (fun c : List Int × List Int × List (Nat × Nat) => [(0, .ref (.ptr 0 0 0 0)), (6, .b false), (7, .ref (.sl 50 0 0 c.2.1.length c.2.2.length 2))]) (fun c => ⟨[.lv true (ldS N t N s c.1 (frS N c.1))], [((50, 0), .lv true ([(0, .ints .u8 (c.2.1.length + c.2.2.length * 2) (c.2.1 ++ flatQ c.2.2))]))], 60⟩)
    (fun c => PutInv true N N t s f x y c.1 c.2.2 ∧ c.2.2.length ≤ 1 + 20 * cntL c.1 N) (fun c => (N - cntL c.1 N) * 30 + c.2.2.length) (f, [], [(x, y)]) ⟨inv_init hf hx hy, by simp⟩ ⟨[((5,0),(50,0))], rfl, ?_, ?_⟩ ?_
  · simp [wkEnv, lk, renV, renAt, renTo]
  · simp [wkMem, wkLoc, flatQ, Mem.get, assoc, renBlk, renSegs, renSg, renTo]
  · rintro ⟨g, pre, qs⟩ ⟨hI, hql⟩
    simp only at hI hql
    cases qs with
    | nil =>
      have hd := inv_done hI
      simp only [absE, absL, absF, reduceCtorEq, ↓reduceIte, Nat.reduceEqDiff, Nat.reduceAdd, Nat.reduceLT, Nat.reduceMul, Nat.reduceSub, Nat.reduceLeDiff, Int.reduceLT, Int.reduceLE, Int.reduceEq, Option.isSome_some, implies_true, false_implies, Prod.mk.injEq, ne_eq, not_false_eq_true, not_true_eq_false, ge_iff_le, gt_iff_lt, Int.toNat_natCast, Int.reduceToNat, Int.cast_ofNat_Int, Int.natCast_nonneg, List.length_nil, Try.results114]
      exact ⟨[], by simp, by simp, true, g, ⟨fun _ => hd, fun h => by cases h⟩, by simp [renV], by simp [renBlk, renSegs, renSg], by simp⟩
    | cons ab rest =>
      obtain ⟨a, b⟩ := ab
      obtain ⟨ra, rb⟩ := hI.rng (a, b) (by simp)
      have ra : a < N := ra
      have rb : b < N := rb
      have hcl := cnt_le (f := g) (k := N)
      have hrl : rest.length ≤ 20 * cntL g N := by simp only [List.length_cons] at hql; omega
      have l0 : (0 : Int) < ((rest.length + 1 : Nat) : Int) := by omega
      have l1 : (1 : Int) ≤ ((rest.length + 1 : Nat) : Int) := by omega
      have v1 : pre.length + 0 + 0 < pre.length + (rest.length + 1) * 2 := by omega
      have v2 : pre.length + 0 + 1 < pre.length + (rest.length + 1) * 2 := by omega
      have c1 : (pre ++ (a : Int) :: (b : Int) :: flatQ rest).getD (pre.length + 0 + 0) 0 = (a : Int) := by simp
      have c2 : (pre ++ (a : Int) :: (b : Int) :: flatQ rest).getD (pre.length + 0 + 1) 0 = (b : Int) := by simp
      have a10 : (a : Int) < 10 := by omega
      have b10 : (b : Int) < 10 := by omega
      have a11 : 0 + a * 1 < 10 := by omega
      have b11 : 0 + b * 1 < 10 := by omega
      have k1 : g.getD (0 + a * 1) 0 = ((pl g a : Nat) : Int) := by rw [Nat.zero_add, Nat.mul_one]; exact hI.pm.by_.place a
      have lr : rest.length + 1 - 1 = rest.length := by omega
      by_cases e : pl g a = b
      · have ei : ((pl g a : Nat) : Int) = (b : Int) := by rw [e]
        simp only [absE, absL, absF, reduceCtorEq, ↓reduceIte, Nat.reduceEqDiff, Nat.reduceAdd, Nat.reduceLT, Nat.reduceMul, Nat.reduceSub, Nat.reduceLeDiff, Int.reduceLT, Int.reduceLE, Int.reduceEq, Option.isSome_some, implies_true, false_implies, Prod.mk.injEq, ne_eq, not_false_eq_true, not_true_eq_false, ge_iff_le, gt_iff_lt, Int.toNat_natCast, Int.reduceToNat, Int.cast_ofNat_Int, Int.natCast_nonneg, List.length_cons, flatQ, l0, l1, v1, v2, c1, c2, a10, a11, k1, ei, lr]
        refine LoopNext.intro (g, pre ++ [(a : Int), (b : Int)], rest) ⟨inv_skip hI e, by simp only; omega⟩ (by simp) ⟨[((50,0),(50,0))], rfl, ?_, ?_⟩
        · simp [wkEnv, lk, renV, renAt, renTo]
        · simp [wkMem, wkLoc, Mem.get, assoc, renBlk, renSegs, renSg, renTo]; omega
      · have ei : ¬ ((pl g a : Nat) : Int) = (b : Int) := by omega
        by_cases e2 : pl g a = 255
        · have ei2 : ((pl g a : Nat) : Int) = 255 := by rw [e2]; rfl
          have ei3 : ¬ (255 : Int) = (b : Int) := by omega
          by_cases e3 : (frS N g).getD b 0 = 255
          · have hun := (frS_free hN (show b < 10 by omega)).1 e3
            have k2 : (frS N g).getD (0 + b * 1) 0 = 255 := by rw [Nat.zero_add, Nat.mul_one]; exact e3
            have s1 : g.set (0 + a * 1) (b : Int) = g.set a (b : Int) := by rw [Nat.zero_add, Nat.mul_one]
            have s2 : (frS N g).set (0 + b * 1) (a : Int) = frS N (g.set a (b : Int)) := by rw [Nat.zero_add, Nat.mul_one]; exact frS_set hN hI.pm.by_.len ra e2 hun
            have hI2 := inv_set hN hN st ss hI e2 fun _ => hun
            have hcn := cnt_put hI.pm hN ra (show b < 255 by omega) e2
            have hA := pl_put (f := g) (a := a) (b := b) (j := a) hI.pm.by_.len (by omega)
            rw [if_pos rfl] at hA
            have hadd : ∀ z, z ≤ N → (addL t s (g.set a (b : Int)) a b z).length ≤ 20 := fun z hz => by have := addL_len (t := t) (s := s) (g := g.set a (b : Int)) (a := a) (b := b) (z := z); omega
            have hcl2 := cnt_le (f := g.set a (b : Int)) (k := N)
            have hG := hI2.pm
            generalize hg2 : g.set a (b : Int) = g2 at s1 s2 hI2 hcn hadd hcl2 hG hA
            simp only [absE, absL, absF, reduceCtorEq, ↓reduceIte, Nat.reduceEqDiff, Nat.reduceAdd, Nat.reduceLT, Nat.reduceMul, Nat.reduceSub, Nat.reduceLeDiff, Int.reduceLT, Int.reduceLE, Int.reduceEq, Option.isSome_some, implies_true, false_implies, Prod.mk.injEq, ne_eq, not_false_eq_true, not_true_eq_false, ge_iff_le, gt_iff_lt, Int.toNat_natCast, Int.reduceToNat, Int.cast_ofNat_Int, Int.natCast_nonneg, List.length_cons, flatQ, l0, l1, v1, v2, c1, c2, a10, b10, a11, b11, k1, ei2, ei3, k2, s1, s2, lr]
            repeat first | refine And.intro (by omega) ?_ | refine And.intro (by decide +kernel) ?_
            refine CallsVia.none (elements_ok N t hN) ?_
            rintro _ _ _ ⟨rfl, rfl, rfl⟩
            simp only [absE, absL, absF, reduceCtorEq, ↓reduceIte, Nat.reduceEqDiff, Nat.reduceAdd, Nat.reduceLT, Nat.reduceMul, Nat.reduceSub, Nat.reduceLeDiff, Int.reduceLT, Int.reduceLE, Int.reduceEq, Option.isSome_some, implies_true, false_implies, Prod.mk.injEq, ne_eq, not_false_eq_true, not_true_eq_false, ge_iff_le, gt_iff_lt, Int.toNat_natCast, Int.reduceToNat, Int.cast_ofNat_Int, Int.natCast_nonneg]
            refine awpLoop.intro (fun c : Nat × List Int => [(0, .ref (.ptr 0 0 0 0)), (6, .b false), (1, .i .u8 a), (2, .i .u8 b), (7, .ref (.sl 50 0 0 c.2.length (rest.length + (addL t s g2 a b c.1).length) 2)), (68, .ref (.sl 118 0 0 0 N 1)), (69, .i .i64 N), (70, .i .i64 c.1)]) (fun c => ⟨[.lv true (ldS N t N s g2 (frS N g2))], [((50, 0), .lv true ([(0, .ints .u8 (c.2.length + (rest.length + (addL t s g2 a b c.1).length) * 2) (c.2 ++ flatQ (rest ++ addL t s g2 a b c.1)))])), ((118, 0), .lv true ([(0, .ints .u8 N (bytesTo N))]))], 200⟩)
              (fun c => c.1 ≤ N) (fun c => N - c.1) (0, pre ++ [(a : Int), (b : Int)]) (by simp) ⟨[((50,0),(50,0)), ((118,0),(118,0))], rfl, ?_, ?_⟩ ?_
            · simp [wkEnv, lk, renV, renAt, renTo, addL]
            · simp [wkMem, wkLoc, Mem.get, assoc, renBlk, renSegs, renSg, renTo, addL]; omega
            · rintro ⟨z, pr⟩ hz
              simp only at hz
              by_cases h : (z : Int) < N
              · have w := wrap_i64s (show z < 2 ^ 62 by omega)
                have hzN : z < N := by omega
                have hal := hadd z hz
                have b1 : (bytesTo N).getD (0 + z * 1) 0 = (z : Int) := by rw [Nat.zero_add, Nat.mul_one]; exact bytesTo_get (by omega)
                have v1 : 0 + z * 1 < N := by omega
                have z10 : (z : Int) < 10 := by omega
                have z11 : 0 + z * 1 < 10 := by omega
                have k3 : g2.getD (0 + z * 1) 0 = ((pl g2 z : Nat) : Int) := by rw [Nat.zero_add, Nat.mul_one]; exact hG.by_.place z
                by_cases e4 : pl g2 z = 255
                · have ei4 : ((pl g2 z : Nat) : Int) = 255 := by rw [e4]; rfl
                  simp only [absE, absL, absF, reduceCtorEq, ↓reduceIte, Nat.reduceEqDiff, Nat.reduceAdd, Nat.reduceLT, Nat.reduceMul, Nat.reduceSub, Nat.reduceLeDiff, Int.reduceLT, Int.reduceLE, Int.reduceEq, Option.isSome_some, implies_true, false_implies, Prod.mk.injEq, ne_eq, not_false_eq_true, not_true_eq_false, ge_iff_le, gt_iff_lt, Int.toNat_natCast, Int.reduceToNat, Int.cast_ofNat_Int, Int.natCast_nonneg, h, b1, v1, z10, z11, k3, ei4]
                  refine LoopNext.intro (z + 1, pr) (by simp only; omega) (by simp only; omega) ⟨[((50,0),(50,0)), ((118,0),(118,0))], rfl, ?_, ?_⟩
                  · simp [wkEnv, lk, renV, renAt, renTo, addL, e4, w]
                  · simp [wkMem, wkLoc, Mem.get, assoc, renBlk, renSegs, renSg, renTo, addL, e4]
                · have ei4 : ¬ ((pl g2 z : Nat) : Int) = 255 := by omega
                  have hv : pl g2 z < N := by
                    rcases hG.val z hzN with v | v
                    · exact v
                    · exact absurd v e4
                  have q1 := sq_colget ht a z
                  have q2 := sq_colget hs b (pl g2 z)
                  have q3 := sq_colget ht z a
                  have q4 := sq_colget hs (pl g2 z) b
                  have y10 : ((pl g2 z : Nat) : Int) < 10 := by omega
                  have u1 : 0 + a * 10 + z * 1 < 100 := by omega
                  have u2 : 0 + b * 10 + pl g2 z * 1 < 100 := by omega
                  have u3 : 0 + z * 10 + a * 1 < 100 := by omega
                  have u4 : 0 + pl g2 z * 10 + b * 1 < 100 := by omega
                  have hA1 : addL t s g2 a b (z + 1) = addL t s g2 a b z ++ [(cl t a z, cl s b (pl g2 z)), (cl t z a, cl s (pl g2 z) b)] := by rw [addL, if_neg e4]
                  have hLl : (rest ++ addL t s g2 a b z).length = rest.length + (addL t s g2 a b z).length := List.length_append
                  have hsub : (if pr.length = 0 ∧ (rest.length + (addL t s g2 a b z).length) * 2 = pr.length + (rest.length + (addL t s g2 a b z).length) * 2 then Sg.ints .u8 (pr.length + (rest.length + (addL t s g2 a b z).length) * 2) (pr ++ flatQ (rest ++ addL t s g2 a b z)) else Sg.ints .u8 ((rest.length + (addL t s g2 a b z).length) * 2) (((pr ++ flatQ (rest ++ addL t s g2 a b z)).drop pr.length).take ((rest.length + (addL t s g2 a b z).length) * 2))) = Sg.ints .u8 ((rest.length + (addL t s g2 a b z).length) * 2) (flatQ (rest ++ addL t s g2 a b z)) := by
                    split
                    · rename_i hp
                      have : pr = [] := List.eq_nil_of_length_eq_zero hp.1
                      subst this; simp
                    · rw [List.drop_left, List.take_of_length_le (by rw [flatQ_len, hLl]; omega)]
                  have hspl : spl (spl (List.replicate 4 0) 0 (((List.replicate 2 0).set 0 ((cl t a z : Nat) : Int)).set 1 ((cl s b (pl g2 z) : Nat) : Int))) 2 (((List.replicate 2 0).set 0 ((cl t z a : Nat) : Int)).set 1 ((cl s (pl g2 z) b : Nat) : Int)) = [((cl t a z : Nat) : Int), ((cl s b (pl g2 z) : Nat) : Int), ((cl t z a : Nat) : Int), ((cl s (pl g2 z) b : Nat) : Int)] := rfl
                  simp only [absE, absL, absF, reduceCtorEq, ↓reduceIte, Nat.reduceEqDiff, Nat.reduceAdd, Nat.reduceLT, Nat.reduceMul, Nat.reduceSub, Nat.reduceLeDiff, Int.reduceLT, Int.reduceLE, Int.reduceEq, Option.isSome_some, implies_true, false_implies, Prod.mk.injEq, ne_eq, not_false_eq_true, not_true_eq_false, ge_iff_le, gt_iff_lt, Int.toNat_natCast, Int.reduceToNat, Int.cast_ofNat_Int, Int.natCast_nonneg, h, b1, v1, z10, z11, a10, b10, y10, k3, ei4, q1, q2, q3, q4, u1, u2, u3, u4]
                  refine And.intro (by omega) (And.intro (by omega) ?_)
                  rw [hsub, hspl]
                  simp only [absE, absL, absF, reduceCtorEq, ↓reduceIte, Nat.reduceEqDiff, Nat.reduceAdd, Nat.reduceLT, Nat.reduceMul, Nat.reduceSub, Nat.reduceLeDiff, Int.reduceLT, Int.reduceLE, Int.reduceEq, Option.isSome_some, implies_true, false_implies, Prod.mk.injEq, ne_eq, not_false_eq_true, not_true_eq_false, ge_iff_le, gt_iff_lt, Int.toNat_natCast, Int.reduceToNat, Int.cast_ofNat_Int, Int.natCast_nonneg]
                  repeat first | refine And.intro (by decide +kernel) ?_
                  refine LoopNext.intro (z + 1, []) (by simp only; omega) (by simp only; omega) ⟨[((253,0),(50,0)), ((118,0),(118,0))], rfl, ?_, ?_⟩
                  · simp [wkEnv, lk, renV, renAt, renTo, hA1, w]; omega
                  · rw [hA1]; simp [wkMem, wkLoc, Mem.get, assoc, renBlk, renSegs, renSg, renTo, flatQ_app, flatQ]; omega
              · obtain rfl : z = N := by omega
                simp only [absE, absL, absF, reduceCtorEq, ↓reduceIte, Nat.reduceEqDiff, Nat.reduceAdd, Nat.reduceLT, Nat.reduceMul, Nat.reduceSub, Nat.reduceLeDiff, Int.reduceLT, Int.reduceLE, Int.reduceEq, Option.isSome_some, implies_true, false_implies, Prod.mk.injEq, ne_eq, not_false_eq_true, not_true_eq_false, ge_iff_le, gt_iff_lt, Int.toNat_natCast, Int.reduceToNat, Int.cast_ofNat_Int, Int.natCast_nonneg, h]
                have hal := hadd z (Nat.le_refl z)
                have hcc : cntL g z < cntL g2 z := hcn
                refine LoopNext.intro (g2, pr, rest ++ addL t s g2 a b z) ⟨hI2, by simp only [List.length_append]; omega⟩ (by simp only [List.length_append, List.length_cons]; omega) ⟨[((50,0),(50,0))], rfl, ?_, ?_⟩
                · simp [wkEnv, lk, renV, renAt, renTo]
                · simp [wkMem, wkLoc, Mem.get, assoc, renBlk, renSegs, renSg, renTo]
          · have hus : ∃ c, c < N ∧ pl g c = b := by
              apply Decidable.byContradiction; intro hh
              exact e3 ((frS_free hN (show b < 10 by omega)).2 fun c hc hcb => hh ⟨c, hc, hcb⟩)
            obtain ⟨c, hc, hcb⟩ := hus
            have k2 : ¬ (frS N g).getD (0 + b * 1) 0 = 255 := by rw [Nat.zero_add, Nat.mul_one]; exact e3
            have hno := inv_fail_inj rfl hN hI e hc hcb
            simp only [absE, absL, absF, reduceCtorEq, ↓reduceIte, Nat.reduceEqDiff, Nat.reduceAdd, Nat.reduceLT, Nat.reduceMul, Nat.reduceSub, Nat.reduceLeDiff, Int.reduceLT, Int.reduceLE, Int.reduceEq, Option.isSome_some, implies_true, false_implies, Prod.mk.injEq, ne_eq, not_false_eq_true, not_true_eq_false, ge_iff_le, gt_iff_lt, Int.toNat_natCast, Int.reduceToNat, Int.cast_ofNat_Int, Int.natCast_nonneg, List.length_cons, flatQ, l0, l1, v1, v2, c1, c2, a10, b10, a11, b11, k1, ei2, ei3, k2, lr, Try.results114]
            exact ⟨[], by simp, by simp, false, g, ⟨(fun h => by cases h), fun _ => hno⟩, by simp [renV], by simp [renBlk, renSegs, renSg], by simp⟩
        · have ei2 : ¬ ((pl g a : Nat) : Int) = 255 := by omega
          have hno := inv_fail hI e e2
          simp only [absE, absL, absF, reduceCtorEq, ↓reduceIte, Nat.reduceEqDiff, Nat.reduceAdd, Nat.reduceLT, Nat.reduceMul, Nat.reduceSub, Nat.reduceLeDiff, Int.reduceLT, Int.reduceLE, Int.reduceEq, Option.isSome_some, implies_true, false_implies, Prod.mk.injEq, ne_eq, not_false_eq_true, not_true_eq_false, ge_iff_le, gt_iff_lt, Int.toNat_natCast, Int.reduceToNat, Int.cast_ofNat_Int, Int.natCast_nonneg, List.length_cons, flatQ, l0, l1, v1, v2, c1, c2, a10, a11, k1, ei, ei2, lr, Try.results114]
          exact ⟨[], by simp, by simp, false, g, ⟨(fun h => by cases h), fun _ => hno⟩, by simp [renV], by simp [renBlk, renSegs, renSg], by simp⟩

end Go.Proofs.Ytgblnnodoabdeaa
