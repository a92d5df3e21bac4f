/-
Contracts of functions of the given program, by the abstract walk.
-/
import Derived.Test.YtcaadjjgggjefaaAbsY
import Derived.Test.YtcaadjjgggjefaaJe
namespace Go.Proofs.Ytcaadjjgggjefaa
open Go Go.Abs
set_option linter.unusedVariables false
set_option linter.unusedSectionVars false
set_option linter.unusedSimpArgs false
set_option maxRecDepth 100000
def allB (f : Nat → Bool) : Nat → Bool
  | 0 => true
  | k + 1 => allB f k && f k
theorem allB_iff {f : Nat → Bool} : ∀ {k}, allB f k = true ↔ ∀ i, i < k → f i = true
  | 0 => ⟨fun _ i hi => absurd hi (by omega), fun _ => rfl⟩
  | k + 1 => by
    rw [allB, Bool.and_eq_true, allB_iff]
    constructor
    · rintro ⟨h1, h2⟩ i hi
      by_cases e : i = k
      · subst e; exact h2
      · exact h1 i (by omega)
    · intro h; exact ⟨fun i hi => h i (by omega), h k (by omega)⟩
def upY (N : Nat) (t : List Int) (p : Nat → Bool) (a x y : Nat) : Bool := p (ascN N t a x y) && p (ascN N t x a y) && p (ascN N t x y a)
def upX (N : Nat) (t : List Int) (p : Nat → Bool) (a x : Nat) : Bool := p (comN N t a x) && allB (upY N t p a x) N
theorem upX_all {N : Nat} {t : List Int} {p : Nat → Bool} {a : Nat} (h : 1 ≤ N) : allB (upX N t p a) N = upB N t p a := by
  rw [Bool.eq_iff_iff, allB_iff, upB, pairsB_iff]
  constructor
  · intro hh x hx y hy
    have h1 := hh x hx
    rw [upX, Bool.and_eq_true, allB_iff] at h1
    have h2 := h1.2 y hy
    simp only [upY, Bool.and_eq_true] at h2
    simp only [upG, Bool.and_eq_true]
    exact ⟨⟨⟨h1.1, h2.1.1⟩, h2.1.2⟩, h2.2⟩
  · intro hh x hx
    rw [upX, Bool.and_eq_true, allB_iff]
    refine ⟨?_, fun y hy => ?_⟩
    · have := hh x hx 0 (by omega)
      simp only [upG, Bool.and_eq_true] at this; exact this.1.1.1
    · have := hh x hx y hy
      simp only [upG, Bool.and_eq_true] at this
      simp only [upY, Bool.and_eq_true]
      exact ⟨⟨this.1.1.2, this.1.2⟩, this.2⟩
noncomputable def upM (N : Nat) (t : List Int) (p : Nat → Bool) : Nat → List Bool
  | 0 => List.replicate 10 false
  | a + 1 => (upM N t p a).set a (upB N t p a)
theorem upM_len {N : Nat} {t : List Int} {p : Nat → Bool} : ∀ {a}, (upM N t p a).length = 10
  | 0 => by simp [upM]
  | a + 1 => by rw [upM, List.length_set]; exact upM_len
theorem upM_get {N : Nat} {t : List Int} {p : Nat → Bool} {z : Nat} : ∀ {a}, a ≤ 10 → (upM N t p a).getD z false = (decide (z < a) && upB N t p z)
  | 0, _ => by rw [upM, getD_repf]; simp
  | a + 1, h => by
    rw [upM, getD_setb (by rw [upM_len]; omega), upM_get (by omega)]
    by_cases e : a = z
    · subst e; simp
    · rw [if_neg e]
      have : decide (z < a + 1) = decide (z < a) := by apply decide_eq_decide.2; omega
      rw [this]
set_option maxHeartbeats 1600000 in
theorem l05Next_ok (N : Nat) (t : List Int) (m : List Bool) (ht : Bytes 100 t) (hs : SqP N t) (hm : m.length = 10) :
    ACalls Try.prog 98 [.agg (sqS N t), .agg [(0, .bools 10 m)]] [] (fun v ms ns => v = .agg [(0, .bools 10 (upM N t (fun z => m.getD z false) N))] ∧ ms = [] ∧ ns = []) := by
  have hN := hs.le
  have hpos := hs.pos
  have w8 := wrap_u8n (show N < 256 by omega)
  generalize hp : (fun z => m.getD z false) = p
  have hpz : ∀ z, m.getD (0 + z * 1) false = p z := fun z => by rw [← hp, Nat.zero_add, Nat.mul_one]
  refine acalls_of_body mix Try.func98 rfl fok98 (Nat.le_of_ble_eq_true rfl) ?_
  unfold abody
  simp only [absE, absL, absF, reduceCtorEq, ↓reduceIte, Nat.reduceEqDiff, Nat.reduceAdd, Nat.reduceLT, Nat.reduceMul, Nat.reduceSub, Nat.reduceLeDiff, Int.reduceLT, Int.reduceLE, Int.reduceEq, Option.isSome_some, implies_true, false_implies, Prod.mk.injEq, ne_eq, not_false_eq_true, not_true_eq_false, ge_iff_le, gt_iff_lt, Int.toNat_natCast, Int.reduceToNat, Int.cast_ofNat_Int, Int.natCast_nonneg, w8, Try.f98]
  repeat refine And.intro (by decide +kernel) ?_
  refine awpLoop.intro (fun a : Nat => [(2, .ref (.ptr 1 0 0 0)), (3, .ref (.ptr 2 0 0 0)), (4, .ref (.ptr 3 0 0 0)), (5, .ref (.ptr 8 0 0 0)), (6, .i .u8 N), (7, .i .u8 a)]) (fun a => ⟨[], [((1, 0), .lv true (sqS N t)), ((2, 0), .lv true ([(0, .bools 10 m)])), ((3, 0), .lv true ([(0, .bools 10 (List.replicate 10 false))])), ((8, 0), .lv true ([(0, .bools 10 (upM N t p a))]))], 12⟩)
    (fun a => a ≤ N) (fun a => N - a) 0 (by omega) ⟨[((1,0),(1,0)), ((2,0),(2,0)), ((3,0),(3,0)), ((8,0),(8,0))], rfl, ?_, ?_⟩ ?_
  · simp [wkEnv, lk, renV, renAt, renTo, upM]
  · simp [wkMem, wkLoc, Mem.get, assoc, renBlk, renSegs, renSg, renTo, upM]
  · intro a ha
    by_cases h : (a : Int) < N
    · have w := wrap_u8s (show a < 255 by omega)
      simp only [absE, absL, absF, reduceCtorEq, ↓reduceIte, Nat.reduceEqDiff, Nat.reduceAdd, Nat.reduceLT, Nat.reduceMul, Nat.reduceSub, Nat.reduceLeDiff, Int.reduceLT, Int.reduceLE, Int.reduceEq, Option.isSome_some, implies_true, false_implies, Prod.mk.injEq, ne_eq, not_false_eq_true, not_true_eq_false, ge_iff_le, gt_iff_lt, Int.toNat_natCast, Int.reduceToNat, Int.cast_ofNat_Int, Int.natCast_nonneg, h]
      refine awpLoop.intro (fun x : Nat => [(2, .ref (.ptr 1 0 0 0)), (3, .ref (.ptr 2 0 0 0)), (4, .ref (.ptr 3 0 0 0)), (5, .ref (.ptr 8 0 0 0)), (6, .i .u8 N), (7, .i .u8 a), (8, .b (allB (upX N t p a) x)), (9, .i .u8 x)]) (fun x => ⟨[], [((1, 0), .lv true (sqS N t)), ((2, 0), .lv true ([(0, .bools 10 m)])), ((3, 0), .lv true ([(0, .bools 10 (List.replicate 10 false))])), ((8, 0), .lv true ([(0, .bools 10 (upM N t p a))]))], 17⟩)
        (fun x => x ≤ N) (fun x => N - x) 0 (by omega) ⟨[((1,0),(1,0)), ((2,0),(2,0)), ((3,0),(3,0)), ((8,0),(8,0))], rfl, ?_, ?_⟩ ?_
      · simp [wkEnv, lk, renV, renAt, renTo, allB]
      · simp [wkMem, wkLoc, Mem.get, assoc, renBlk, renSegs, renSg, renTo, allB]
      · intro x hx
        by_cases h' : (x : Int) < N
        · have w' := wrap_u8s (show x < 255 by omega)
          simp only [absE, absL, absF, reduceCtorEq, ↓reduceIte, Nat.reduceEqDiff, Nat.reduceAdd, Nat.reduceLT, Nat.reduceMul, Nat.reduceSub, Nat.reduceLeDiff, Int.reduceLT, Int.reduceLE, Int.reduceEq, Option.isSome_some, implies_true, false_implies, Prod.mk.injEq, ne_eq, not_false_eq_true, not_true_eq_false, ge_iff_le, gt_iff_lt, Int.toNat_natCast, Int.reduceToNat, Int.cast_ofNat_Int, Int.natCast_nonneg, h']
          have key : ∀ b : Bool, b = (allB (upX N t p a) x && p (comN N t a x)) → ∀ e1 : Env, ∀ nx : Nat, True := fun _ _ _ _ => trivial
          cases hb : allB (upX N t p a) x
          · simp only [absE, absL, absF, reduceCtorEq, ↓reduceIte, Nat.reduceEqDiff, Nat.reduceAdd, Nat.reduceLT, Nat.reduceMul, Nat.reduceSub, Nat.reduceLeDiff, Int.reduceLT, Int.reduceLE, Int.reduceEq, Option.isSome_some, implies_true, false_implies, Prod.mk.injEq, ne_eq, not_false_eq_true, not_true_eq_false, ge_iff_le, gt_iff_lt, Int.toNat_natCast, Int.reduceToNat, Int.cast_ofNat_Int, Int.natCast_nonneg]
            try (first | (refine CallsVia.none (specCom_ok N t a x ht hs (by omega) (by omega)) ?_; rintro _ _ _ ⟨rfl, rfl, rfl⟩))
            have i1 : ((comN N t a x : Nat) : Int) < 10 := by have := comN_lt hs (show a < N by omega) (show x < N by omega); omega
            have u1 : 0 + comN N t a x * 1 < 10 := by omega
            try simp only [absE, absL, absF, reduceCtorEq, ↓reduceIte, Nat.reduceEqDiff, Nat.reduceAdd, Nat.reduceLT, Nat.reduceMul, Nat.reduceSub, Nat.reduceLeDiff, Int.reduceLT, Int.reduceLE, Int.reduceEq, Option.isSome_some, implies_true, false_implies, Prod.mk.injEq, ne_eq, not_false_eq_true, not_true_eq_false, ge_iff_le, gt_iff_lt, Int.toNat_natCast, Int.reduceToNat, Int.cast_ofNat_Int, Int.natCast_nonneg, i1, u1, hpz]
            refine awpLoop.intro (fun y : Nat => [(2, .ref (.ptr 1 0 0 0)), (3, .ref (.ptr 2 0 0 0)), (4, .ref (.ptr 3 0 0 0)), (5, .ref (.ptr 8 0 0 0)), (6, .i .u8 N), (7, .i .u8 a), (8, .b (false && p (comN N t a x) && allB (upY N t p a x) y)), (9, .i .u8 x), (10, .i .u8 y)]) (fun y => ⟨[], [((1, 0), .lv true (sqS N t)), ((2, 0), .lv true ([(0, .bools 10 m)])), ((3, 0), .lv true ([(0, .bools 10 (List.replicate 10 false))])), ((8, 0), .lv true ([(0, .bools 10 (upM N t p a))]))], 31⟩)
              (fun y => y ≤ N) (fun y => N - y) 0 (by omega) ⟨[((1,0),(1,0)), ((2,0),(2,0)), ((3,0),(3,0)), ((8,0),(8,0))], rfl, ?_, ?_⟩ ?_
            · simp [wkEnv, lk, renV, renAt, renTo, allB]
            · simp [wkMem, wkLoc, Mem.get, assoc, renBlk, renSegs, renSg, renTo, allB]
            · intro y hy
              by_cases h3 : (y : Int) < N
              · have w3 := wrap_u8s (show y < 255 by omega)
                have l2 := ascN_lt hs (show a < N by omega) (show x < N by omega) (show y < N by omega)
                have l3 := ascN_lt hs (show x < N by omega) (show a < N by omega) (show y < N by omega)
                have l4 := ascN_lt hs (show x < N by omega) (show y < N by omega) (show a < N by omega)
                have j2 : ((ascN N t a x y : Nat) : Int) < 10 := by omega
                have j3 : ((ascN N t x a y : Nat) : Int) < 10 := by omega
                have j4 : ((ascN N t x y a : Nat) : Int) < 10 := by omega
                have v2 : 0 + ascN N t a x y * 1 < 10 := by omega
                have v3 : 0 + ascN N t x a y * 1 < 10 := by omega
                have v4 : 0 + ascN N t x y a * 1 < 10 := by omega
                have en : (false && p (comN N t a x) && allB (upY N t p a x) (y + 1)) = ((false && p (comN N t a x) && allB (upY N t p a x) y) && upY N t p a x y) := by rw [allB]; simp only [Bool.and_assoc]
                cases hf : (false && p (comN N t a x) && allB (upY N t p a x) y)
                · replace en := en.trans (show _ = false by rw [hf]; rfl)
                  simp only [absE, absL, absF, reduceCtorEq, ↓reduceIte, Nat.reduceEqDiff, Nat.reduceAdd, Nat.reduceLT, Nat.reduceMul, Nat.reduceSub, Nat.reduceLeDiff, Int.reduceLT, Int.reduceLE, Int.reduceEq, Option.isSome_some, implies_true, false_implies, Prod.mk.injEq, ne_eq, not_false_eq_true, not_true_eq_false, ge_iff_le, gt_iff_lt, Int.toNat_natCast, Int.reduceToNat, Int.cast_ofNat_Int, Int.natCast_nonneg, h3]
                  refine LoopNext.intro (y + 1) (by omega) (by omega) ⟨[((1,0),(1,0)), ((2,0),(2,0)), ((3,0),(3,0)), ((8,0),(8,0))], rfl, ?_, ?_⟩
                  · rw [en]; simp [wkEnv, lk, renV, renAt, renTo, w3]
                  · simp [wkMem, wkLoc, Mem.get, assoc, renBlk, renSegs, renSg, renTo]
                · replace en := en.trans (show _ = upY N t p a x y by rw [hf]; exact Bool.true_and _)
                  simp only [absE, absL, absF, reduceCtorEq, ↓reduceIte, Nat.reduceEqDiff, Nat.reduceAdd, Nat.reduceLT, Nat.reduceMul, Nat.reduceSub, Nat.reduceLeDiff, Int.reduceLT, Int.reduceLE, Int.reduceEq, Option.isSome_some, implies_true, false_implies, Prod.mk.injEq, ne_eq, not_false_eq_true, not_true_eq_false, ge_iff_le, gt_iff_lt, Int.toNat_natCast, Int.reduceToNat, Int.cast_ofNat_Int, Int.natCast_nonneg, h3]
                  refine CallsVia.none (specAsc_ok N t a x y ht hs (by omega) (by omega) (by omega)) ?_
                  rintro _ _ _ ⟨rfl, rfl, rfl⟩
                  cases h4 : p (ascN N t a x y)
                  · have e5 : upY N t p a x y = false := by simp [upY, h4]
                    simp only [absE, absL, absF, reduceCtorEq, ↓reduceIte, Nat.reduceEqDiff, Nat.reduceAdd, Nat.reduceLT, Nat.reduceMul, Nat.reduceSub, Nat.reduceLeDiff, Int.reduceLT, Int.reduceLE, Int.reduceEq, Option.isSome_some, implies_true, false_implies, Prod.mk.injEq, ne_eq, not_false_eq_true, not_true_eq_false, ge_iff_le, gt_iff_lt, Int.toNat_natCast, Int.reduceToNat, Int.cast_ofNat_Int, Int.natCast_nonneg, j2, v2, hpz, h4]
                    refine LoopNext.intro (y + 1) (by omega) (by omega) ⟨[((1,0),(1,0)), ((2,0),(2,0)), ((3,0),(3,0)), ((8,0),(8,0))], rfl, ?_, ?_⟩
                    · rw [en, e5]; simp [wkEnv, lk, renV, renAt, renTo, w3]
                    · simp [wkMem, wkLoc, Mem.get, assoc, renBlk, renSegs, renSg, renTo]
                  · simp only [absE, absL, absF, reduceCtorEq, ↓reduceIte, Nat.reduceEqDiff, Nat.reduceAdd, Nat.reduceLT, Nat.reduceMul, Nat.reduceSub, Nat.reduceLeDiff, Int.reduceLT, Int.reduceLE, Int.reduceEq, Option.isSome_some, implies_true, false_implies, Prod.mk.injEq, ne_eq, not_false_eq_true, not_true_eq_false, ge_iff_le, gt_iff_lt, Int.toNat_natCast, Int.reduceToNat, Int.cast_ofNat_Int, Int.natCast_nonneg, j2, v2, hpz, h4]
                    refine CallsVia.none (specAsc_ok N t x a y ht hs (by omega) (by omega) (by omega)) ?_
                    rintro _ _ _ ⟨rfl, rfl, rfl⟩
                    cases h5 : p (ascN N t x a y)
                    · have e5 : upY N t p a x y = false := by simp [upY, h5]
                      simp only [absE, absL, absF, reduceCtorEq, ↓reduceIte, Nat.reduceEqDiff, Nat.reduceAdd, Nat.reduceLT, Nat.reduceMul, Nat.reduceSub, Nat.reduceLeDiff, Int.reduceLT, Int.reduceLE, Int.reduceEq, Option.isSome_some, implies_true, false_implies, Prod.mk.injEq, ne_eq, not_false_eq_true, not_true_eq_false, ge_iff_le, gt_iff_lt, Int.toNat_natCast, Int.reduceToNat, Int.cast_ofNat_Int, Int.natCast_nonneg, j3, v3, hpz, h5]
                      refine LoopNext.intro (y + 1) (by omega) (by omega) ⟨[((1,0),(1,0)), ((2,0),(2,0)), ((3,0),(3,0)), ((8,0),(8,0))], rfl, ?_, ?_⟩
                      · rw [en, e5]; simp [wkEnv, lk, renV, renAt, renTo, w3]
                      · simp [wkMem, wkLoc, Mem.get, assoc, renBlk, renSegs, renSg, renTo]
                    · simp only [absE, absL, absF, reduceCtorEq, ↓reduceIte, Nat.reduceEqDiff, Nat.reduceAdd, Nat.reduceLT, Nat.reduceMul, Nat.reduceSub, Nat.reduceLeDiff, Int.reduceLT, Int.reduceLE, Int.reduceEq, Option.isSome_some, implies_true, false_implies, Prod.mk.injEq, ne_eq, not_false_eq_true, not_true_eq_false, ge_iff_le, gt_iff_lt, Int.toNat_natCast, Int.reduceToNat, Int.cast_ofNat_Int, Int.natCast_nonneg, j3, v3, hpz, h5]
                      refine CallsVia.none (specAsc_ok N t x y a ht hs (by omega) (by omega) (by omega)) ?_
                      rintro _ _ _ ⟨rfl, rfl, rfl⟩
                      have e5 : upY N t p a x y = p (ascN N t x y a) := by simp [upY, h4, h5]
                      simp only [absE, absL, absF, reduceCtorEq, ↓reduceIte, Nat.reduceEqDiff, Nat.reduceAdd, Nat.reduceLT, Nat.reduceMul, Nat.reduceSub, Nat.reduceLeDiff, Int.reduceLT, Int.reduceLE, Int.reduceEq, Option.isSome_some, implies_true, false_implies, Prod.mk.injEq, ne_eq, not_false_eq_true, not_true_eq_false, ge_iff_le, gt_iff_lt, Int.toNat_natCast, Int.reduceToNat, Int.cast_ofNat_Int, Int.natCast_nonneg, j4, v4, hpz]
                      refine LoopNext.intro (y + 1) (by omega) (by omega) ⟨[((1,0),(1,0)), ((2,0),(2,0)), ((3,0),(3,0)), ((8,0),(8,0))], rfl, ?_, ?_⟩
                      · rw [en, e5]; cases p (ascN N t x y a) <;> simp [wkEnv, lk, renV, renAt, renTo, w3, pickV]
                      · simp [wkMem, wkLoc, Mem.get, assoc, renBlk, renSegs, renSg, renTo]
              · obtain rfl : y = N := by omega
                have en : allB (upX y t p a) (x + 1) = (false && p (comN y t a x) && allB (upY y t p a x) y) := by rw [allB, hb, upX]; simp only [Bool.and_assoc]
                simp only [absE, absL, absF, reduceCtorEq, ↓reduceIte, Nat.reduceEqDiff, Nat.reduceAdd, Nat.reduceLT, Nat.reduceMul, Nat.reduceSub, Nat.reduceLeDiff, Int.reduceLT, Int.reduceLE, Int.reduceEq, Option.isSome_some, implies_true, false_implies, Prod.mk.injEq, ne_eq, not_false_eq_true, not_true_eq_false, ge_iff_le, gt_iff_lt, Int.toNat_natCast, Int.reduceToNat, Int.cast_ofNat_Int, Int.natCast_nonneg, h3]
                refine LoopNext.intro (x + 1) (by omega) (by omega) ⟨[((1,0),(1,0)), ((2,0),(2,0)), ((3,0),(3,0)), ((8,0),(8,0))], rfl, ?_, ?_⟩
                · rw [en]; simp [wkEnv, lk, renV, renAt, renTo, w']
                · simp [wkMem, wkLoc, Mem.get, assoc, renBlk, renSegs, renSg, renTo]
          · simp only [absE, absL, absF, reduceCtorEq, ↓reduceIte, Nat.reduceEqDiff, Nat.reduceAdd, Nat.reduceLT, Nat.reduceMul, Nat.reduceSub, Nat.reduceLeDiff, Int.reduceLT, Int.reduceLE, Int.reduceEq, Option.isSome_some, implies_true, false_implies, Prod.mk.injEq, ne_eq, not_false_eq_true, not_true_eq_false, ge_iff_le, gt_iff_lt, Int.toNat_natCast, Int.reduceToNat, Int.cast_ofNat_Int, Int.natCast_nonneg]
            try (first | (refine CallsVia.none (specCom_ok N t a x ht hs (by omega) (by omega)) ?_; rintro _ _ _ ⟨rfl, rfl, rfl⟩))
            have i1 : ((comN N t a x : Nat) : Int) < 10 := by have := comN_lt hs (show a < N by omega) (show x < N by omega); omega
            have u1 : 0 + comN N t a x * 1 < 10 := by omega
            try simp only [absE, absL, absF, reduceCtorEq, ↓reduceIte, Nat.reduceEqDiff, Nat.reduceAdd, Nat.reduceLT, Nat.reduceMul, Nat.reduceSub, Nat.reduceLeDiff, Int.reduceLT, Int.reduceLE, Int.reduceEq, Option.isSome_some, implies_true, false_implies, Prod.mk.injEq, ne_eq, not_false_eq_true, not_true_eq_false, ge_iff_le, gt_iff_lt, Int.toNat_natCast, Int.reduceToNat, Int.cast_ofNat_Int, Int.natCast_nonneg, i1, u1, hpz]
            refine awpLoop.intro (fun y : Nat => [(2, .ref (.ptr 1 0 0 0)), (3, .ref (.ptr 2 0 0 0)), (4, .ref (.ptr 3 0 0 0)), (5, .ref (.ptr 8 0 0 0)), (6, .i .u8 N), (7, .i .u8 a), (8, .b (true && p (comN N t a x) && allB (upY N t p a x) y)), (9, .i .u8 x), (10, .i .u8 y)]) (fun y => ⟨[], [((1, 0), .lv true (sqS N t)), ((2, 0), .lv true ([(0, .bools 10 m)])), ((3, 0), .lv true ([(0, .bools 10 (List.replicate 10 false))])), ((8, 0), .lv true ([(0, .bools 10 (upM N t p a))]))], 31⟩)
              (fun y => y ≤ N) (fun y => N - y) 0 (by omega) ⟨[((1,0),(1,0)), ((2,0),(2,0)), ((3,0),(3,0)), ((8,0),(8,0))], rfl, ?_, ?_⟩ ?_
            · simp [wkEnv, lk, renV, renAt, renTo, allB]
            · simp [wkMem, wkLoc, Mem.get, assoc, renBlk, renSegs, renSg, renTo, allB]
            · intro y hy
              by_cases h3 : (y : Int) < N
              · have w3 := wrap_u8s (show y < 255 by omega)
                have l2 := ascN_lt hs (show a < N by omega) (show x < N by omega) (show y < N by omega)
                have l3 := ascN_lt hs (show x < N by omega) (show a < N by omega) (show y < N by omega)
                have l4 := ascN_lt hs (show x < N by omega) (show y < N by omega) (show a < N by omega)
                have j2 : ((ascN N t a x y : Nat) : Int) < 10 := by omega
                have j3 : ((ascN N t x a y : Nat) : Int) < 10 := by omega
                have j4 : ((ascN N t x y a : Nat) : Int) < 10 := by omega
                have v2 : 0 + ascN N t a x y * 1 < 10 := by omega
                have v3 : 0 + ascN N t x a y * 1 < 10 := by omega
                have v4 : 0 + ascN N t x y a * 1 < 10 := by omega
                have en : (true && p (comN N t a x) && allB (upY N t p a x) (y + 1)) = ((true && p (comN N t a x) && allB (upY N t p a x) y) && upY N t p a x y) := by rw [allB]; simp only [Bool.and_assoc]
                cases hf : (true && p (comN N t a x) && allB (upY N t p a x) y)
                · replace en := en.trans (show _ = false by rw [hf]; rfl)
                  simp only [absE, absL, absF, reduceCtorEq, ↓reduceIte, Nat.reduceEqDiff, Nat.reduceAdd, Nat.reduceLT, Nat.reduceMul, Nat.reduceSub, Nat.reduceLeDiff, Int.reduceLT, Int.reduceLE, Int.reduceEq, Option.isSome_some, implies_true, false_implies, Prod.mk.injEq, ne_eq, not_false_eq_true, not_true_eq_false, ge_iff_le, gt_iff_lt, Int.toNat_natCast, Int.reduceToNat, Int.cast_ofNat_Int, Int.natCast_nonneg, h3]
                  refine LoopNext.intro (y + 1) (by omega) (by omega) ⟨[((1,0),(1,0)), ((2,0),(2,0)), ((3,0),(3,0)), ((8,0),(8,0))], rfl, ?_, ?_⟩
                  · rw [en]; simp [wkEnv, lk, renV, renAt, renTo, w3]
                  · simp [wkMem, wkLoc, Mem.get, assoc, renBlk, renSegs, renSg, renTo]
                · replace en := en.trans (show _ = upY N t p a x y by rw [hf]; exact Bool.true_and _)
                  simp only [absE, absL, absF, reduceCtorEq, ↓reduceIte, Nat.reduceEqDiff, Nat.reduceAdd, Nat.reduceLT, Nat.reduceMul, Nat.reduceSub, Nat.reduceLeDiff, Int.reduceLT, Int.reduceLE, Int.reduceEq, Option.isSome_some, implies_true, false_implies, Prod.mk.injEq, ne_eq, not_false_eq_true, not_true_eq_false, ge_iff_le, gt_iff_lt, Int.toNat_natCast, Int.reduceToNat, Int.cast_ofNat_Int, Int.natCast_nonneg, h3]
                  refine CallsVia.none (specAsc_ok N t a x y ht hs (by omega) (by omega) (by omega)) ?_
                  rintro _ _ _ ⟨rfl, rfl, rfl⟩
                  cases h4 : p (ascN N t a x y)
                  · have e5 : upY N t p a x y = false := by simp [upY, h4]
                    simp only [absE, absL, absF, reduceCtorEq, ↓reduceIte, Nat.reduceEqDiff, Nat.reduceAdd, Nat.reduceLT, Nat.reduceMul, Nat.reduceSub, Nat.reduceLeDiff, Int.reduceLT, Int.reduceLE, Int.reduceEq, Option.isSome_some, implies_true, false_implies, Prod.mk.injEq, ne_eq, not_false_eq_true, not_true_eq_false, ge_iff_le, gt_iff_lt, Int.toNat_natCast, Int.reduceToNat, Int.cast_ofNat_Int, Int.natCast_nonneg, j2, v2, hpz, h4]
                    refine LoopNext.intro (y + 1) (by omega) (by omega) ⟨[((1,0),(1,0)), ((2,0),(2,0)), ((3,0),(3,0)), ((8,0),(8,0))], rfl, ?_, ?_⟩
                    · rw [en, e5]; simp [wkEnv, lk, renV, renAt, renTo, w3]
                    · simp [wkMem, wkLoc, Mem.get, assoc, renBlk, renSegs, renSg, renTo]
                  · simp only [absE, absL, absF, reduceCtorEq, ↓reduceIte, Nat.reduceEqDiff, Nat.reduceAdd, Nat.reduceLT, Nat.reduceMul, Nat.reduceSub, Nat.reduceLeDiff, Int.reduceLT, Int.reduceLE, Int.reduceEq, Option.isSome_some, implies_true, false_implies, Prod.mk.injEq, ne_eq, not_false_eq_true, not_true_eq_false, ge_iff_le, gt_iff_lt, Int.toNat_natCast, Int.reduceToNat, Int.cast_ofNat_Int, Int.natCast_nonneg, j2, v2, hpz, h4]
                    refine CallsVia.none (specAsc_ok N t x a y ht hs (by omega) (by omega) (by omega)) ?_
                    rintro _ _ _ ⟨rfl, rfl, rfl⟩
                    cases h5 : p (ascN N t x a y)
                    · have e5 : upY N t p a x y = false := by simp [upY, h5]
                      simp only [absE, absL, absF, reduceCtorEq, ↓reduceIte, Nat.reduceEqDiff, Nat.reduceAdd, Nat.reduceLT, Nat.reduceMul, Nat.reduceSub, Nat.reduceLeDiff, Int.reduceLT, Int.reduceLE, Int.reduceEq, Option.isSome_some, implies_true, false_implies, Prod.mk.injEq, ne_eq, not_false_eq_true, not_true_eq_false, ge_iff_le, gt_iff_lt, Int.toNat_natCast, Int.reduceToNat, Int.cast_ofNat_Int, Int.natCast_nonneg, j3, v3, hpz, h5]
                      refine LoopNext.intro (y + 1) (by omega) (by omega) ⟨[((1,0),(1,0)), ((2,0),(2,0)), ((3,0),(3,0)), ((8,0),(8,0))], rfl, ?_, ?_⟩
                      · rw [en, e5]; simp [wkEnv, lk, renV, renAt, renTo, w3]
                      · simp [wkMem, wkLoc, Mem.get, assoc, renBlk, renSegs, renSg, renTo]
                    · simp only [absE, absL, absF, reduceCtorEq, ↓reduceIte, Nat.reduceEqDiff, Nat.reduceAdd, Nat.reduceLT, Nat.reduceMul, Nat.reduceSub, Nat.reduceLeDiff, Int.reduceLT, Int.reduceLE, Int.reduceEq, Option.isSome_some, implies_true, false_implies, Prod.mk.injEq, ne_eq, not_false_eq_true, not_true_eq_false, ge_iff_le, gt_iff_lt, Int.toNat_natCast, Int.reduceToNat, Int.cast_ofNat_Int, Int.natCast_nonneg, j3, v3, hpz, h5]
                      refine CallsVia.none (specAsc_ok N t x y a ht hs (by omega) (by omega) (by omega)) ?_
                      rintro _ _ _ ⟨rfl, rfl, rfl⟩
                      have e5 : upY N t p a x y = p (ascN N t x y a) := by simp [upY, h4, h5]
                      simp only [absE, absL, absF, reduceCtorEq, ↓reduceIte, Nat.reduceEqDiff, Nat.reduceAdd, Nat.reduceLT, Nat.reduceMul, Nat.reduceSub, Nat.reduceLeDiff, Int.reduceLT, Int.reduceLE, Int.reduceEq, Option.isSome_some, implies_true, false_implies, Prod.mk.injEq, ne_eq, not_false_eq_true, not_true_eq_false, ge_iff_le, gt_iff_lt, Int.toNat_natCast, Int.reduceToNat, Int.cast_ofNat_Int, Int.natCast_nonneg, j4, v4, hpz]
                      refine LoopNext.intro (y + 1) (by omega) (by omega) ⟨[((1,0),(1,0)), ((2,0),(2,0)), ((3,0),(3,0)), ((8,0),(8,0))], rfl, ?_, ?_⟩
                      · rw [en, e5]; cases p (ascN N t x y a) <;> simp [wkEnv, lk, renV, renAt, renTo, w3, pickV]
                      · simp [wkMem, wkLoc, Mem.get, assoc, renBlk, renSegs, renSg, renTo]
              · obtain rfl : y = N := by omega
                have en : allB (upX y t p a) (x + 1) = (true && p (comN y t a x) && allB (upY y t p a x) y) := by rw [allB, hb, upX]; simp only [Bool.and_assoc]
                simp only [absE, absL, absF, reduceCtorEq, ↓reduceIte, Nat.reduceEqDiff, Nat.reduceAdd, Nat.reduceLT, Nat.reduceMul, Nat.reduceSub, Nat.reduceLeDiff, Int.reduceLT, Int.reduceLE, Int.reduceEq, Option.isSome_some, implies_true, false_implies, Prod.mk.injEq, ne_eq, not_false_eq_true, not_true_eq_false, ge_iff_le, gt_iff_lt, Int.toNat_natCast, Int.reduceToNat, Int.cast_ofNat_Int, Int.natCast_nonneg, h3]
                refine LoopNext.intro (x + 1) (by omega) (by omega) ⟨[((1,0),(1,0)), ((2,0),(2,0)), ((3,0),(3,0)), ((8,0),(8,0))], rfl, ?_, ?_⟩
                · rw [en]; simp [wkEnv, lk, renV, renAt, renTo, w']
                · simp [wkMem, wkLoc, Mem.get, assoc, renBlk, renSegs, renSg, renTo]
        · obtain rfl : x = N := by omega
          have i1 : (a : Int) < 10 := by omega
          have u1 : 0 + a * 1 < 10 := by omega
          have u2 : 0 + a * 1 + 1 ≤ 10 := by omega
          have es : (upM x t p a).set (0 + a * 1) (upB x t p a) = upM x t p (a + 1) := by rw [Nat.zero_add, Nat.mul_one]; rfl
          simp only [absE, absL, absF, reduceCtorEq, ↓reduceIte, Nat.reduceEqDiff, Nat.reduceAdd, Nat.reduceLT, Nat.reduceMul, Nat.reduceSub, Nat.reduceLeDiff, Int.reduceLT, Int.reduceLE, Int.reduceEq, Option.isSome_some, implies_true, false_implies, Prod.mk.injEq, ne_eq, not_false_eq_true, not_true_eq_false, ge_iff_le, gt_iff_lt, Int.toNat_natCast, Int.reduceToNat, Int.cast_ofNat_Int, Int.natCast_nonneg, h', i1, u1, u2, upX_all hpos, es]
          refine LoopNext.intro (a + 1) (by omega) (by omega) ⟨[((1,0),(1,0)), ((2,0),(2,0)), ((3,0),(3,0)), ((8,0),(8,0))], rfl, ?_, ?_⟩
          · simp [wkEnv, lk, renV, renAt, renTo, w]
          · simp [wkMem, wkLoc, Mem.get, assoc, renBlk, renSegs, renSg, renTo, w]
    · obtain rfl : a = N := by omega
      simp only [absE, absL, absF, reduceCtorEq, ↓reduceIte, Nat.reduceEqDiff, Nat.reduceAdd, Nat.reduceLT, Nat.reduceMul, Nat.reduceSub, Nat.reduceLeDiff, Int.reduceLT, Int.reduceLE, Int.reduceEq, Option.isSome_some, implies_true, false_implies, Prod.mk.injEq, ne_eq, not_false_eq_true, not_true_eq_false, ge_iff_le, gt_iff_lt, Int.toNat_natCast, Int.reduceToNat, Int.cast_ofNat_Int, Int.natCast_nonneg, h, Try.results98]
      exact ⟨[], by simp, by simp, by simp [renV, renVs, renSegs, renSg]⟩

end Go.Proofs.Ytcaadjjgggjefaa
