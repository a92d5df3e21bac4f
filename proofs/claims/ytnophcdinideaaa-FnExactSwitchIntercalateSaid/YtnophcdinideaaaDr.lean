/-
Contracts of functions of the given program, by the abstract walk.
-/
import Derived.Test.YtnophcdinideaaaAbsW
import Derived.Test.YtnophcdinideaaaDo
import Derived.Test.YtnophcdinideaaaDi
namespace Go.Proofs.Ytnophcdinideaaa
open Go Go.Abs
set_option linter.unusedVariables false
set_option linter.unusedSectionVars false
set_option linter.unusedSimpArgs false
set_option maxRecDepth 100000
/-! cycles of two rows -/
def iterN (f : Nat → Nat) : Nat → Nat → Nat
  | 0, c => c
  | k + 1, c => f (iterN f k c)
def InOrb (f : Nat → Nat) (c y : Nat) : Prop := ∃ k, iterN f k c = y
open Classical in
noncomputable def orbB (f : Nat → Nat) (c y : Nat) : Bool := decide (InOrb f c y)
theorem orbB_iff {f : Nat → Nat} {c y : Nat} : orbB f c y = true ↔ InOrb f c y := by unfold orbB; exact @decide_eq_true_iff _ (_)
theorem InOrb.start {f : Nat → Nat} {c : Nat} : InOrb f c c := ⟨0, rfl⟩
theorem InOrb.next {f : Nat → Nat} {c y : Nat} (h : InOrb f c y) : InOrb f c (f y) := by
  obtain ⟨k, rfl⟩ := h; exact ⟨k + 1, rfl⟩
theorem InOrb.closed {f : Nat → Nat} {c : Nat} {P : Nat → Prop} (h0 : P c) (h1 : ∀ z, P z → P (f z)) {y : Nat} (h : InOrb f c y) : P y := by
  obtain ⟨k, rfl⟩ := h
  induction k with
  | zero => exact h0
  | succ k ih => exact h1 _ ih
theorem iterN_conj {f g r : Nat → Nat} {N c : Nat} (hc : c < N) (hf : ∀ y, y < N → f y < N) (h : ∀ y, y < N → r (f y) = g (r y)) : ∀ k, iterN f k c < N ∧ r (iterN f k c) = iterN g k (r c)
  | 0 => ⟨hc, rfl⟩
  | k + 1 => by
    obtain ⟨h1, h2⟩ := iterN_conj hc hf h k
    exact ⟨hf _ h1, by show r (f (iterN f k c)) = g (iterN g k (r c)); rw [h _ h1, h2]⟩
theorem orb_conj {f g r : Nat → Nat} {N c y : Nat} (hc : c < N) (hy : y < N) (hf : ∀ y, y < N → f y < N) (h : ∀ y, y < N → r (f y) = g (r y)) (hi : ∀ x y, x < N → y < N → r x = r y → x = y) :
    InOrb f c y ↔ InOrb g (r c) (r y) := by
  constructor
  · rintro ⟨k, rfl⟩; exact ⟨k, ((iterN_conj hc hf h k).2).symm⟩
  · rintro ⟨k, e⟩
    obtain ⟨h1, h2⟩ := iterN_conj hc hf h k
    exact ⟨k, hi _ _ h1 hy (by rw [h2, e])⟩
theorem setM_eq {p : Nat → Bool} {N s : Nat} (h1 : ∀ i, s.testBit i = true → i < N) (h2 : ∀ i, i < N → s.testBit i = p i) : s = setM p N := by
  apply Nat.eq_of_testBit_eq
  intro i
  rw [setM_bit]
  by_cases h : i < N
  · rw [decide_eq_true h, Bool.true_and, h2 i h]
  · rw [decide_eq_false h, Bool.false_and]
    cases e : s.testBit i
    · rfl
    · exact absurd (h1 i e) h
def cycF (N : Nat) (t : List Int) (a b y : Nat) : Nat := fnd (cl t a) (cl t b y) N
theorem cycF_lt {N : Nat} {t : List Int} (hs : SqP N t) {a b y : Nat} (ha : a < N) (hb : b < N) (hy : y < N) : cycF N t a b y < N := PermF.fnd_lt (hs.rowP ha) hs.le (hs.cl_lt hb hy)

def swT (t : List Int) (a b : Nat) (p : Nat → Bool) : Nat → List Int
  | 0 => t
  | y + 1 => if p y then ((swT t a b p y).set (0 + a * 10 + y * 1) (cl t b y)).set (0 + b * 10 + y * 1) (cl t a y) else swT t a b p y
theorem swT_len {t : List Int} {a b : Nat} {p : Nat → Bool} : ∀ {y}, (swT t a b p y).length = t.length
  | 0 => rfl
  | y + 1 => by unfold swT; split <;> simp [swT_len]
theorem swT_cell {t : List Int} {a b : Nat} {p : Nat → Bool} (ht : t.length = 100) (ha : a < 10) (hb : b < 10) {x z : Nat} (hz : z < 10) : ∀ {y}, y ≤ z → (swT t a b p y).getD (x * 10 + z) 0 = t.getD (x * 10 + z) 0
  | 0, _ => rfl
  | y + 1, h => by
    unfold swT
    split
    · rw [getD_set_int (by rw [List.length_set, swT_len, ht]; omega), getD_set_int (by rw [swT_len, ht]; omega), if_neg (by omega), if_neg (by omega), swT_cell ht ha hb hz (by omega)]
    · exact swT_cell ht ha hb hz (by omega)
theorem swT_congr {t : List Int} {a b : Nat} {p q : Nat → Bool} : ∀ {y}, (∀ i, i < y → p i = q i) → swT t a b p y = swT t a b q y
  | 0, _ => rfl
  | y + 1, h => by unfold swT; rw [h y (by omega), swT_congr fun i hi => h i (by omega)]
theorem exchange_ok (N : Nat) (t : List Int) (a b s : Nat) (ht : Bytes 100 t) (hN : N ≤ 10) (ha : a < 10) (hb : b < 10) (h62 : s < 2 ^ 62) :
    ACalls Try.prog 68 [.agg (sqS N t), .i .u8 a, .i .u8 b, .i .i64 s] [] (fun v ms ns => v = .agg (sqS N (swT t a b s.testBit N)) ∧ ms = [] ∧ ns = []) := by
  have hl := ht.len
  refine acalls_of_body mix Try.func68 rfl fok68 (Nat.le_of_ble_eq_true rfl) ?_
  unfold abody
  simp only [absE, absL, absF, reduceCtorEq, ↓reduceIte, Nat.reduceEqDiff, Nat.reduceAdd, Nat.reduceLT, Nat.reduceMul, Nat.reduceSub, Nat.reduceLeDiff, Int.reduceLT, Int.reduceLE, Int.reduceEq, Option.isSome_some, implies_true, false_implies, Prod.mk.injEq, ne_eq, not_false_eq_true, not_true_eq_false, ge_iff_le, gt_iff_lt, Int.toNat_natCast, Int.reduceToNat, Int.cast_ofNat_Int, Int.natCast_nonneg, Try.f68]
  refine CallsVia.none (elements_ok N t hN) ?_
  rintro _ _ _ ⟨rfl, rfl, rfl⟩
  simp only [absE, absL, absF, reduceCtorEq, ↓reduceIte, Nat.reduceEqDiff, Nat.reduceAdd, Nat.reduceLT, Nat.reduceMul, Nat.reduceSub, Nat.reduceLeDiff, Int.reduceLT, Int.reduceLE, Int.reduceEq, Option.isSome_some, implies_true, false_implies, Prod.mk.injEq, ne_eq, not_false_eq_true, not_true_eq_false, ge_iff_le, gt_iff_lt, Int.toNat_natCast, Int.reduceToNat, Int.cast_ofNat_Int, Int.natCast_nonneg]
  refine awpLoop.intro (fun x : Nat => [(1, .i .u8 a), (2, .i .u8 b), (3, .i .i64 s), (4, .ref (.ptr 1 0 0 0)), (8, .ref (.ptr 2 0 0 0)), (12, .ref (.sl 4 0 0 0 N 1)), (13, .i .i64 N), (14, .i .i64 x)]) (fun x => ⟨[], [((1, 0), .lv true (sqS N (swT t a b s.testBit x))), ((2, 0), .lv true (sqS 0 (List.replicate 100 0))), ((4, 0), .lv true ([(0, .ints .u8 N (bytesTo N))]))], 7⟩)
    (fun x => x ≤ N) (fun x => N - x) 0 (by omega) ⟨[((1,0),(1,0)), ((2,0),(2,0)), ((4,0),(4,0))], rfl, ?_, ?_⟩ ?_
  · simp [wkEnv, lk, renV, renAt, renTo, swT]
  · simp [wkMem, wkLoc, Mem.get, assoc, renBlk, renSegs, renSg, renTo, swT]
  · intro x hx
    by_cases h : (x : Int) < N
    · have w := wrap_i64s (show x < 2 ^ 62 by omega)
      have b1 : (bytesTo N).getD (0 + x * 1) 0 = (x : Int) := by rw [Nat.zero_add, Nat.mul_one]; exact bytesTo_get (by omega)
      have v1 : 0 + x * 1 < N := by omega
      have i1 : (a : Int) < 10 := by omega
      have i2 : (b : Int) < 10 := by omega
      have i3 : (x : Int) < 10 := by omega
      have u1 : 0 + a * 10 + x * 1 < 100 := by omega
      have u2 : 0 + b * 10 + x * 1 < 100 := by omega
      have u3 : 0 + a * 10 + x * 1 + 1 ≤ 100 := by omega
      have u4 : 0 + b * 10 + x * 1 + 1 ≤ 100 := by omega
      have k1 : (swT t a b s.testBit x).getD (0 + a * 10 + x * 1) 0 = (cl t a x : Int) := by rw [Nat.zero_add, Nat.mul_one, swT_cell hl ha hb (by omega) (Nat.le_refl x)]; exact ht.cell a x
      have k2 : (swT t a b s.testBit x).getD (0 + b * 10 + x * 1) 0 = (cl t b x : Int) := by rw [Nat.zero_add, Nat.mul_one, swT_cell hl ha hb (by omega) (Nat.le_refl x)]; exact ht.cell b x
      simp only [absE, absL, absF, reduceCtorEq, ↓reduceIte, Nat.reduceEqDiff, Nat.reduceAdd, Nat.reduceLT, Nat.reduceMul, Nat.reduceSub, Nat.reduceLeDiff, Int.reduceLT, Int.reduceLE, Int.reduceEq, Option.isSome_some, implies_true, false_implies, Prod.mk.injEq, ne_eq, not_false_eq_true, not_true_eq_false, ge_iff_le, gt_iff_lt, Int.toNat_natCast, Int.reduceToNat, Int.cast_ofNat_Int, Int.natCast_nonneg, h, b1, v1]
      refine CallsVia.none (setHas_ok s x h62 (by omega)) ?_
      rintro _ _ _ ⟨rfl, rfl, rfl⟩
      cases hb2 : s.testBit x
      · simp only [absE, absL, absF, reduceCtorEq, ↓reduceIte, Nat.reduceEqDiff, Nat.reduceAdd, Nat.reduceLT, Nat.reduceMul, Nat.reduceSub, Nat.reduceLeDiff, Int.reduceLT, Int.reduceLE, Int.reduceEq, Option.isSome_some, implies_true, false_implies, Prod.mk.injEq, ne_eq, not_false_eq_true, not_true_eq_false, ge_iff_le, gt_iff_lt, Int.toNat_natCast, Int.reduceToNat, Int.cast_ofNat_Int, Int.natCast_nonneg]
        refine LoopNext.intro (x + 1) (by omega) (by omega) ⟨[((1,0),(1,0)), ((2,0),(2,0)), ((4,0),(4,0))], rfl, ?_, ?_⟩
        · simp [wkEnv, lk, renV, renAt, renTo, w, swT, hb2]
        · simp [wkMem, wkLoc, Mem.get, assoc, renBlk, renSegs, renSg, renTo, w, swT, hb2]
      · simp only [absE, absL, absF, reduceCtorEq, ↓reduceIte, Nat.reduceEqDiff, Nat.reduceAdd, Nat.reduceLT, Nat.reduceMul, Nat.reduceSub, Nat.reduceLeDiff, Int.reduceLT, Int.reduceLE, Int.reduceEq, Option.isSome_some, implies_true, false_implies, Prod.mk.injEq, ne_eq, not_false_eq_true, not_true_eq_false, ge_iff_le, gt_iff_lt, Int.toNat_natCast, Int.reduceToNat, Int.cast_ofNat_Int, Int.natCast_nonneg, i1, i2, i3, u1, u2, u3, u4, k1, k2]
        repeat refine And.intro (by decide +kernel) ?_
        refine LoopNext.intro (x + 1) (by omega) (by omega) ⟨[((1,0),(1,0)), ((2,0),(2,0)), ((4,0),(4,0))], rfl, ?_, ?_⟩
        · simp [wkEnv, lk, renV, renAt, renTo, w, swT, hb2]
        · simp [wkMem, wkLoc, Mem.get, assoc, renBlk, renSegs, renSg, renTo, w, swT, hb2]
    · have hxN : x = N := by omega
      subst hxN
      simp only [absE, absL, absF, reduceCtorEq, ↓reduceIte, Nat.reduceEqDiff, Nat.reduceAdd, Nat.reduceLT, Nat.reduceMul, Nat.reduceSub, Nat.reduceLeDiff, Int.reduceLT, Int.reduceLE, Int.reduceEq, Option.isSome_some, implies_true, false_implies, Prod.mk.injEq, ne_eq, not_false_eq_true, not_true_eq_false, ge_iff_le, gt_iff_lt, Int.toNat_natCast, Int.reduceToNat, Int.cast_ofNat_Int, Int.natCast_nonneg, h, Try.results68]
      exact ⟨[], by simp, by simp, by simp [renV, renVs, renSegs, renSg]⟩

end Go.Proofs.Ytnophcdinideaaa
