/-
Contracts of functions of the given program, by the abstract walk.
-/
import Derived.Test.YtopkdpgbjpjgjaaAbsW
import Derived.Test.YtopkdpgbjpjgjaaDo
import Derived.Test.YtopkdpgbjpjgjaaDi
namespace Go.Proofs.Ytopkdpgbjpjgjaa
open Go Go.Abs
set_option linter.unusedVariables false
set_option linter.unusedSectionVars false
set_option linter.unusedSimpArgs false
set_option maxRecDepth 100000
/-! cycles of two rows -/
def iterN (f : Nat → Nat) : Nat → Nat → Nat
  | 0, c => c
  | k + 1, c => f (iterN f k c)
def InOrb (f : Nat → Nat) (c y : Nat) : Prop := ∃ k, iterN f k c = y
open Classical in
noncomputable def orbB (f : Nat → Nat) (c y : Nat) : Bool := decide (InOrb f c y)
theorem orbB_iff {f : Nat → Nat} {c y : Nat} : orbB f c y = true ↔ InOrb f c y := by unfold orbB; exact @decide_eq_true_iff _ (_)
theorem InOrb.start {f : Nat → Nat} {c : Nat} : InOrb f c c := ⟨0, rfl⟩
theorem InOrb.next {f : Nat → Nat} {c y : Nat} (h : InOrb f c y) : InOrb f c (f y) := by
  obtain ⟨k, rfl⟩ := h; exact ⟨k + 1, rfl⟩
theorem InOrb.closed {f : Nat → Nat} {c : Nat} {P : Nat → Prop} (h0 : P c) (h1 : ∀ z, P z → P (f z)) {y : Nat} (h : InOrb f c y) : P y := by
  obtain ⟨k, rfl⟩ := h
  induction k with
  | zero => exact h0
  | succ k ih => exact h1 _ ih
theorem iterN_conj {f g r : Nat → Nat} {N c : Nat} (hc : c < N) (hf : ∀ y, y < N → f y < N) (h : ∀ y, y < N → r (f y) = g (r y)) : ∀ k, iterN f k c < N ∧ r (iterN f k c) = iterN g k (r c)
  | 0 => ⟨hc, rfl⟩
  | k + 1 => by
    obtain ⟨h1, h2⟩ := iterN_conj hc hf h k
    exact ⟨hf _ h1, by show r (f (iterN f k c)) = g (iterN g k (r c)); rw [h _ h1, h2]⟩
theorem orb_conj {f g r : Nat → Nat} {N c y : Nat} (hc : c < N) (hy : y < N) (hf : ∀ y, y < N → f y < N) (h : ∀ y, y < N → r (f y) = g (r y)) (hi : ∀ x y, x < N → y < N → r x = r y → x = y) :
    InOrb f c y ↔ InOrb g (r c) (r y) := by
  constructor
  · rintro ⟨k, rfl⟩; exact ⟨k, ((iterN_conj hc hf h k).2).symm⟩
  · rintro ⟨k, e⟩
    obtain ⟨h1, h2⟩ := iterN_conj hc hf h k
    exact ⟨k, hi _ _ h1 hy (by rw [h2, e])⟩
theorem setM_eq {p : Nat → Bool} {N s : Nat} (h1 : ∀ i, s.testBit i = true → i < N) (h2 : ∀ i, i < N → s.testBit i = p i) : s = setM p N := by
  apply Nat.eq_of_testBit_eq
  intro i
  rw [setM_bit]
  by_cases h : i < N
  · rw [decide_eq_true h, Bool.true_and, h2 i h]
  · rw [decide_eq_false h, Bool.false_and]
    cases e : s.testBit i
    · rfl
    · exact absurd (h1 i e) h
def cycF (N : Nat) (t : List Int) (a b y : Nat) : Nat := fnd (cl t a) (cl t b y) N
theorem cycF_lt {N : Nat} {t : List Int} (hs : SqP N t) {a b y : Nat} (ha : a < N) (hb : b < N) (hy : y < N) : cycF N t a b y < N := PermF.fnd_lt (hs.rowP ha) hs.le (hs.cl_lt hb hy)

theorem cycle_ok (N : Nat) (t : List Int) (a b c : Nat) (ht : Bytes 100 t) (hs : SqP N t) (ha : a < N) (hb : b < N) (hc : c < N) :
    ACalls Try.prog 80 [.agg (sqS N t), .i .u8 a, .i .u8 b, .i .u8 c] [] (fun v ms ns => v = .i .i64 (setM (orbB (cycF N t a b) c) N) ∧ ms = [] ∧ ns = []) := by
  have hN := hs.le
  have hN2 : (2 : Nat) ^ N ≤ 2 ^ 10 := Nat.pow_le_pow_right (by decide) hN
  refine acalls_of_body mix Try.func80 rfl fok80 (Nat.le_of_ble_eq_true rfl) ?_
  unfold abody
  simp only [absE, absL, absF, reduceCtorEq, ↓reduceIte, Nat.reduceEqDiff, Nat.reduceAdd, Nat.reduceLT, Nat.reduceMul, Nat.reduceSub, Nat.reduceLeDiff, Int.reduceLT, Int.reduceLE, Int.reduceEq, Option.isSome_some, implies_true, false_implies, Prod.mk.injEq, ne_eq, not_false_eq_true, not_true_eq_false, ge_iff_le, gt_iff_lt, Int.toNat_natCast, Int.reduceToNat, Int.cast_ofNat_Int, Int.natCast_nonneg, Try.f80]
  refine awpLoop.intro (fun s : Nat × Nat => [(1, .i .u8 a), (2, .i .u8 b), (4, .ref (.ptr 1 0 0 0)), (9, .i .i64 s.1), (10, .i .u8 s.2)]) (fun s => ⟨[], [((1, 0), .lv true (sqS N t))], 6⟩)
    (fun s => s.1 < 2 ^ N ∧ s.2 < N ∧ InOrb (cycF N t a b) c s.2 ∧ (s.1.testBit c = true ∨ s.2 = c) ∧ ∀ z, s.1.testBit z = true → InOrb (cycF N t a b) c z ∧ (s.1.testBit (cycF N t a b z) = true ∨ s.2 = cycF N t a b z)) (fun s => 2 ^ N - s.1) (0, c)
    ⟨Nat.two_pow_pos N, hc, .start, .inr rfl, fun z hz => by simp at hz⟩ ⟨[((1,0),(1,0))], rfl, ?_, ?_⟩ ?_
  · simp [wkEnv, lk, renV, renAt, renTo]
  · simp [wkMem, wkLoc, Mem.get, assoc, renBlk, renSegs, renSg, renTo]
  · rintro ⟨s, y⟩ ⟨h1, h2, h3, h4, h5⟩
    simp only at h1 h2 h3 h4 h5
    simp only [absE, absL, absF, reduceCtorEq, ↓reduceIte, Nat.reduceEqDiff, Nat.reduceAdd, Nat.reduceLT, Nat.reduceMul, Nat.reduceSub, Nat.reduceLeDiff, Int.reduceLT, Int.reduceLE, Int.reduceEq, Option.isSome_some, implies_true, false_implies, Prod.mk.injEq, ne_eq, not_false_eq_true, not_true_eq_false, ge_iff_le, gt_iff_lt, Int.toNat_natCast, Int.reduceToNat, Int.cast_ofNat_Int, Int.natCast_nonneg]
    refine CallsVia.none (setHas_ok s y (by omega) (by omega)) ?_
    rintro _ _ _ ⟨rfl, rfl, rfl⟩
    cases hb2 : s.testBit y
    · have py : (2 : Nat) ^ y < 2 ^ N := Nat.pow_lt_pow_right (by decide) h2
      have s1 := wrap_shl (c := y) (by omega)
      have o1 := wrap_or (a := s) (b := 2 ^ y) (by omega) (by omega)
      have z1 : (0 : Int) ≤ (y : Int) := by omega
      have i1 : (b : Int) < 10 := by omega
      have i2 : (y : Int) < 10 := by omega
      have u1 : 0 + b * 10 + y * 1 < 100 := by omega
      have k1 := sq_colget ht b y
      have hgt : s < s ||| 2 ^ y := by
        refine Nat.lt_of_le_of_ne Nat.left_le_or fun e => ?_
        have h6 : (s ||| 2 ^ y).testBit y = true := by rw [Nat.testBit_or, Nat.testBit_two_pow]; simp
        rw [← e, hb2] at h6; cases h6
      have hlt : s ||| 2 ^ y < 2 ^ N := Nat.or_lt_two_pow h1 py
      simp only [absE, absL, absF, reduceCtorEq, ↓reduceIte, Nat.reduceEqDiff, Nat.reduceAdd, Nat.reduceLT, Nat.reduceMul, Nat.reduceSub, Nat.reduceLeDiff, Int.reduceLT, Int.reduceLE, Int.reduceEq, Option.isSome_some, implies_true, false_implies, Prod.mk.injEq, ne_eq, not_false_eq_true, not_true_eq_false, ge_iff_le, gt_iff_lt, Int.toNat_natCast, Int.reduceToNat, Int.cast_ofNat_Int, Int.natCast_nonneg, z1, s1, o1, i1, i2, u1, k1]
      refine CallsX.none (implLeft_ok N t a (cl t b y) ht hs ha (hs.cl_lt hb h2)) ?_
      simp only [absE, absL, absF, reduceCtorEq, ↓reduceIte, Nat.reduceEqDiff, Nat.reduceAdd, Nat.reduceLT, Nat.reduceMul, Nat.reduceSub, Nat.reduceLeDiff, Int.reduceLT, Int.reduceLE, Int.reduceEq, Option.isSome_some, implies_true, false_implies, Prod.mk.injEq, ne_eq, not_false_eq_true, not_true_eq_false, ge_iff_le, gt_iff_lt, Int.toNat_natCast, Int.reduceToNat, Int.cast_ofNat_Int, Int.natCast_nonneg]
      refine LoopNext.intro (s ||| 2 ^ y, cycF N t a b y) ⟨hlt, cycF_lt hs ha hb h2, h3.next, ?_, fun z hz => ?_⟩ (by simp only; omega) ⟨[((1,0),(1,0))], rfl, ?_, ?_⟩
      · simp only [Nat.testBit_or, Bool.or_eq_true, Nat.testBit_two_pow, decide_eq_true_eq]
        rcases h4 with h4 | h4
        · exact .inl (.inl h4)
        · exact .inl (.inr h4)
      · simp only [Nat.testBit_or, Bool.or_eq_true, Nat.testBit_two_pow, decide_eq_true_eq] at hz ⊢
        rcases hz with hz | hz
        · refine ⟨(h5 z hz).1, ?_⟩
          rcases (h5 z hz).2 with h6 | h6
          · exact .inl (.inl h6)
          · exact .inl (.inr h6)
        · subst hz; exact ⟨h3, .inr rfl⟩
      · simp [wkEnv, lk, renV, renAt, renTo, cycF]
      · simp [wkMem, wkLoc, Mem.get, assoc, renBlk, renSegs, renSg, renTo, cycF]
    · simp only [absE, absL, absF, reduceCtorEq, ↓reduceIte, Nat.reduceEqDiff, Nat.reduceAdd, Nat.reduceLT, Nat.reduceMul, Nat.reduceSub, Nat.reduceLeDiff, Int.reduceLT, Int.reduceLE, Int.reduceEq, Option.isSome_some, implies_true, false_implies, Prod.mk.injEq, ne_eq, not_false_eq_true, not_true_eq_false, ge_iff_le, gt_iff_lt, Int.toNat_natCast, Int.reduceToNat, Int.cast_ofNat_Int, Int.natCast_nonneg, Try.results80]
      have hcl : ∀ z, InOrb (cycF N t a b) c z → s.testBit z = true := fun z hz => InOrb.closed (P := fun z => s.testBit z = true)
        (by rcases h4 with h4 | h4
            · exact h4
            · rw [← h4]; exact hb2) (fun w hw => by
              rcases (h5 w hw).2 with h6 | h6
              · exact h6
              · rw [← h6]; exact hb2) hz
      have e : s = setM (orbB (cycF N t a b) c) N := setM_eq (fun i hi => by
          apply Decidable.byContradiction; intro hn
          have : s.testBit i = false := Nat.testBit_lt_two_pow (Nat.lt_of_lt_of_le h1 (Nat.pow_le_pow_right (by decide) (by omega)))
          rw [this] at hi; cases hi) fun i hi => by
        rw [Bool.eq_iff_iff, orbB_iff]
        exact ⟨fun hh => (h5 i hh).1, hcl i⟩
      exact ⟨[], by simp, by simp, by simp [renV, renVs, renSegs, renSg, ← e]⟩

def swT (t : List Int) (a b : Nat) (p : Nat → Bool) : Nat → List Int
  | 0 => t
  | y + 1 => if p y then ((swT t a b p y).set (0 + a * 10 + y * 1) (cl t b y)).set (0 + b * 10 + y * 1) (cl t a y) else swT t a b p y
theorem swT_len {t : List Int} {a b : Nat} {p : Nat → Bool} : ∀ {y}, (swT t a b p y).length = t.length
  | 0 => rfl
  | y + 1 => by unfold swT; split <;> simp [swT_len]
theorem swT_cell {t : List Int} {a b : Nat} {p : Nat → Bool} (ht : t.length = 100) (ha : a < 10) (hb : b < 10) {x z : Nat} (hz : z < 10) : ∀ {y}, y ≤ z → (swT t a b p y).getD (x * 10 + z) 0 = t.getD (x * 10 + z) 0
  | 0, _ => rfl
  | y + 1, h => by
    unfold swT
    split
    · rw [getD_set_int (by rw [List.length_set, swT_len, ht]; omega), getD_set_int (by rw [swT_len, ht]; omega), if_neg (by omega), if_neg (by omega), swT_cell ht ha hb hz (by omega)]
    · exact swT_cell ht ha hb hz (by omega)
theorem swT_congr {t : List Int} {a b : Nat} {p q : Nat → Bool} : ∀ {y}, (∀ i, i < y → p i = q i) → swT t a b p y = swT t a b q y
  | 0, _ => rfl
  | y + 1, h => by unfold swT; rw [h y (by omega), swT_congr fun i hi => h i (by omega)]
theorem exchange_ok (N : Nat) (t : List Int) (a b s : Nat) (ht : Bytes 100 t) (hN : N ≤ 10) (ha : a < 10) (hb : b < 10) (h62 : s < 2 ^ 62) :
    ACalls Try.prog 79 [.agg (sqS N t), .i .u8 a, .i .u8 b, .i .i64 s] [] (fun v ms ns => v = .agg (sqS N (swT t a b s.testBit N)) ∧ ms = [] ∧ ns = []) := by
  have hl := ht.len
  refine acalls_of_body mix Try.func79 rfl fok79 (Nat.le_of_ble_eq_true rfl) ?_
  unfold abody
  simp only [absE, absL, absF, reduceCtorEq, ↓reduceIte, Nat.reduceEqDiff, Nat.reduceAdd, Nat.reduceLT, Nat.reduceMul, Nat.reduceSub, Nat.reduceLeDiff, Int.reduceLT, Int.reduceLE, Int.reduceEq, Option.isSome_some, implies_true, false_implies, Prod.mk.injEq, ne_eq, not_false_eq_true, not_true_eq_false, ge_iff_le, gt_iff_lt, Int.toNat_natCast, Int.reduceToNat, Int.cast_ofNat_Int, Int.natCast_nonneg, Try.f79]
  refine CallsVia.none (elements_ok N t hN) ?_
  rintro _ _ _ ⟨rfl, rfl, rfl⟩
  simp only [absE, absL, absF, reduceCtorEq, ↓reduceIte, Nat.reduceEqDiff, Nat.reduceAdd, Nat.reduceLT, Nat.reduceMul, Nat.reduceSub, Nat.reduceLeDiff, Int.reduceLT, Int.reduceLE, Int.reduceEq, Option.isSome_some, implies_true, false_implies, Prod.mk.injEq, ne_eq, not_false_eq_true, not_true_eq_false, ge_iff_le, gt_iff_lt, Int.toNat_natCast, Int.reduceToNat, Int.cast_ofNat_Int, Int.natCast_nonneg]
  refine awpLoop.intro (fun x : Nat => [(1, .i .u8 a), (2, .i .u8 b), (3, .i .i64 s), (4, .ref (.ptr 1 0 0 0)), (8, .ref (.ptr 2 0 0 0)), (12, .ref (.sl 4 0 0 0 N 1)), (13, .i .i64 N), (14, .i .i64 x)]) (fun x => ⟨[], [((1, 0), .lv true (sqS N (swT t a b s.testBit x))), ((2, 0), .lv true (sqS 0 (List.replicate 100 0))), ((4, 0), .lv true ([(0, .ints .u8 N (bytesTo N))]))], 7⟩)
    (fun x => x ≤ N) (fun x => N - x) 0 (by omega) ⟨[((1,0),(1,0)), ((2,0),(2,0)), ((4,0),(4,0))], rfl, ?_, ?_⟩ ?_
  · simp [wkEnv, lk, renV, renAt, renTo, swT]
  · simp [wkMem, wkLoc, Mem.get, assoc, renBlk, renSegs, renSg, renTo, swT]
  · intro x hx
    by_cases h : (x : Int) < N
    · have w := wrap_i64s (show x < 2 ^ 62 by omega)
      have b1 : (bytesTo N).getD (0 + x * 1) 0 = (x : Int) := by rw [Nat.zero_add, Nat.mul_one]; exact bytesTo_get (by omega)
      have v1 : 0 + x * 1 < N := by omega
      have i1 : (a : Int) < 10 := by omega
      have i2 : (b : Int) < 10 := by omega
      have i3 : (x : Int) < 10 := by omega
      have u1 : 0 + a * 10 + x * 1 < 100 := by omega
      have u2 : 0 + b * 10 + x * 1 < 100 := by omega
      have u3 : 0 + a * 10 + x * 1 + 1 ≤ 100 := by omega
      have u4 : 0 + b * 10 + x * 1 + 1 ≤ 100 := by omega
      have k1 : (swT t a b s.testBit x).getD (0 + a * 10 + x * 1) 0 = (cl t a x : Int) := by rw [Nat.zero_add, Nat.mul_one, swT_cell hl ha hb (by omega) (Nat.le_refl x)]; exact ht.cell a x
      have k2 : (swT t a b s.testBit x).getD (0 + b * 10 + x * 1) 0 = (cl t b x : Int) := by rw [Nat.zero_add, Nat.mul_one, swT_cell hl ha hb (by omega) (Nat.le_refl x)]; exact ht.cell b x
      simp only [absE, absL, absF, reduceCtorEq, ↓reduceIte, Nat.reduceEqDiff, Nat.reduceAdd, Nat.reduceLT, Nat.reduceMul, Nat.reduceSub, Nat.reduceLeDiff, Int.reduceLT, Int.reduceLE, Int.reduceEq, Option.isSome_some, implies_true, false_implies, Prod.mk.injEq, ne_eq, not_false_eq_true, not_true_eq_false, ge_iff_le, gt_iff_lt, Int.toNat_natCast, Int.reduceToNat, Int.cast_ofNat_Int, Int.natCast_nonneg, h, b1, v1]
      refine CallsVia.none (setHas_ok s x h62 (by omega)) ?_
      rintro _ _ _ ⟨rfl, rfl, rfl⟩
      cases hb2 : s.testBit x
      · simp only [absE, absL, absF, reduceCtorEq, ↓reduceIte, Nat.reduceEqDiff, Nat.reduceAdd, Nat.reduceLT, Nat.reduceMul, Nat.reduceSub, Nat.reduceLeDiff, Int.reduceLT, Int.reduceLE, Int.reduceEq, Option.isSome_some, implies_true, false_implies, Prod.mk.injEq, ne_eq, not_false_eq_true, not_true_eq_false, ge_iff_le, gt_iff_lt, Int.toNat_natCast, Int.reduceToNat, Int.cast_ofNat_Int, Int.natCast_nonneg]
        refine LoopNext.intro (x + 1) (by omega) (by omega) ⟨[((1,0),(1,0)), ((2,0),(2,0)), ((4,0),(4,0))], rfl, ?_, ?_⟩
        · simp [wkEnv, lk, renV, renAt, renTo, w, swT, hb2]
        · simp [wkMem, wkLoc, Mem.get, assoc, renBlk, renSegs, renSg, renTo, w, swT, hb2]
      · simp only [absE, absL, absF, reduceCtorEq, ↓reduceIte, Nat.reduceEqDiff, Nat.reduceAdd, Nat.reduceLT, Nat.reduceMul, Nat.reduceSub, Nat.reduceLeDiff, Int.reduceLT, Int.reduceLE, Int.reduceEq, Option.isSome_some, implies_true, false_implies, Prod.mk.injEq, ne_eq, not_false_eq_true, not_true_eq_false, ge_iff_le, gt_iff_lt, Int.toNat_natCast, Int.reduceToNat, Int.cast_ofNat_Int, Int.natCast_nonneg, i1, i2, i3, u1, u2, u3, u4, k1, k2]
        repeat refine ⟨by decide +kernel, ?_⟩
        refine LoopNext.intro (x + 1) (by omega) (by omega) ⟨[((1,0),(1,0)), ((2,0),(2,0)), ((4,0),(4,0))], rfl, ?_, ?_⟩
        · simp [wkEnv, lk, renV, renAt, renTo, w, swT, hb2]
        · simp [wkMem, wkLoc, Mem.get, assoc, renBlk, renSegs, renSg, renTo, w, swT, hb2]
    · have hxN : x = N := by omega
      subst hxN
      simp only [absE, absL, absF, reduceCtorEq, ↓reduceIte, Nat.reduceEqDiff, Nat.reduceAdd, Nat.reduceLT, Nat.reduceMul, Nat.reduceSub, Nat.reduceLeDiff, Int.reduceLT, Int.reduceLE, Int.reduceEq, Option.isSome_some, implies_true, false_implies, Prod.mk.injEq, ne_eq, not_false_eq_true, not_true_eq_false, ge_iff_le, gt_iff_lt, Int.toNat_natCast, Int.reduceToNat, Int.cast_ofNat_Int, Int.natCast_nonneg, h, Try.results79]
      exact ⟨[], by simp, by simp, by simp [renV, renVs, renSegs, renSg]⟩

end Go.Proofs.Ytopkdpgbjpjgjaa
