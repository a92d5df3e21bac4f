/-
Contracts of functions of the given program, by the abstract walk.
-/
import Derived.Test.YtoccbgffekhcaaaAbsY
import Derived.Test.YtoccbgffekhcaaaDo
import Derived.Test.YtoccbgffekhcaaaDl
import Derived.Test.YtoccbgffekhcaaaDc
namespace Go.Proofs.Ytoccbgffekhcaaa
open Go Go.Abs
set_option linter.unusedVariables false
set_option linter.unusedSectionVars false
set_option linter.unusedSimpArgs false
set_option maxRecDepth 100000
/-! what elements generate -/
inductive Gen (N : Nat) (t : List Int) (S : Nat → Prop) : Nat → Prop
  | base {z : Nat} (h : S z) : Gen N t S z
  | zero : Gen N t S 0
  | mul {x y : Nat} (hx : Gen N t S x) (hy : Gen N t S y) : Gen N t S (cl t x y)
  | ldiv {x y : Nat} (hx : Gen N t S x) (hy : Gen N t S y) : Gen N t S (fnd (cl t x) y N)
  | rdiv {x y : Nat} (hx : Gen N t S x) (hy : Gen N t S y) : Gen N t S (fnd (fun i => cl t i y) x N)
open Classical in
noncomputable def genB (N : Nat) (t : List Int) (S : Nat → Prop) (z : Nat) : Bool := decide (Gen N t S z)
theorem genB_iff {N : Nat} {t : List Int} {S : Nat → Prop} {z : Nat} : genB N t S z = true ↔ Gen N t S z := by unfold genB; exact @decide_eq_true_iff _ (_)
theorem Gen.lt {N : Nat} {t : List Int} {S : Nat → Prop} {z : Nat} (hs : SqP N t) (hS : ∀ z, S z → z < N) (h : Gen N t S z) : z < N := by
  induction h with
  | base h => exact hS _ h
  | zero => exact hs.pos
  | mul _ _ h1 h2 => exact hs.cl_lt h1 h2
  | ldiv _ _ h1 h2 => exact PermF.fnd_lt (hs.rowP h1) hs.le h2
  | rdiv _ _ h1 h2 => exact PermF.fnd_lt (hs.colP h2) hs.le h1
/-- A set that holds what is asked and is closed holds all. -/
theorem Gen.sub {N : Nat} {t : List Int} {S P : Nat → Prop} {z : Nat} (h : Gen N t S z) (h0 : P 0) (hS : ∀ z, S z → P z) (hc : ∀ x y, P x → P y → P (cl t x y) ∧ P (fnd (cl t x) y N) ∧ P (fnd (fun i => cl t i y) x N)) : P z := by
  induction h with
  | base h => exact hS _ h
  | zero => exact h0
  | mul _ _ h1 h2 => exact (hc _ _ h1 h2).1
  | ldiv _ _ h1 h2 => exact (hc _ _ h1 h2).2.1
  | rdiv _ _ h1 h2 => exact (hc _ _ h1 h2).2.2
theorem bits_le {s n : Nat} (h : ∀ i, s.testBit i = true → n.testBit i = true) : s ≤ n := by
  have e : n = n ||| s := Nat.eq_of_testBit_eq fun i => by
    rw [Nat.testBit_or]
    cases hs : s.testBit i
    · simp
    · rw [h i hs]; rfl
  rw [e]; exact Nat.right_le_or
def Closes (N : Nat) (t : List Int) (n x y : Nat) : Prop := n.testBit (cl t x y) = true ∧ n.testBit (fnd (cl t x) y N) = true ∧ n.testBit (fnd (fun i => cl t i y) x N) = true
theorem or3_bits {n a b c : Nat} (i : Nat) : (n ||| (2 ^ a ||| 2 ^ b ||| 2 ^ c)).testBit i = true ↔ n.testBit i = true ∨ a = i ∨ b = i ∨ c = i := by
  simp only [Nat.testBit_or, Bool.or_eq_true, Nat.testBit_two_pow, decide_eq_true_iff, or_assoc]
theorem setM_eq' {p : Nat → Bool} {N s : Nat} (h1 : ∀ i, s.testBit i = true → i < N) (h2 : ∀ i, i < N → s.testBit i = p i) : s = setM p N := by
  apply Nat.eq_of_testBit_eq
  intro i
  rw [setM_bit]
  by_cases h : i < N
  · rw [decide_eq_true h, Bool.true_and, h2 i h]
  · rw [decide_eq_false h, Bool.false_and]
    cases e : s.testBit i
    · rfl
    · exact absurd (h1 i e) h
set_option maxHeartbeats 1600000 in
theorem generated_ok (N : Nat) (t : List Int) (s0 : Nat) (S : Nat → Prop) (ht : Bytes 100 t) (hs : SqP N t) (h0 : s0 < 2 ^ N) (hS0 : ∀ z, s0.testBit z = true ↔ S z) :
    ACalls Try.prog 117 [.agg (sqS N t), .i .i64 s0] [] (fun v ms ns => v = .i .i64 (setM (genB N t S) N) ∧ ms = [] ∧ ns = []) := by
  have hN := hs.le
  have hpos := hs.pos
  have hN2 : (2 : Nat) ^ N ≤ 2 ^ 10 := Nat.pow_le_pow_right (by decide) hN
  have hS : ∀ z, S z → z < N := fun z hz => by
    apply Decidable.byContradiction; intro hn
    have h1 := (hS0 z).2 hz
    rw [Nat.testBit_lt_two_pow (Nat.lt_of_lt_of_le h0 (Nat.pow_le_pow_right (by decide) (by omega)))] at h1
    cases h1
  have hor := wrap_or (a := s0) (b := 1) (by omega) (by decide)
  rw [show ((1 : Nat) : Int) = 1 from rfl] at hor
  have hone : (1 : Nat) < 2 ^ N := Nat.one_lt_two_pow (by omega)
  have hb1 : ∀ z, (1 : Nat).testBit z = true ↔ 0 = z := fun z => by rw [show (1 : Nat) = 2 ^ 0 from rfl, Nat.testBit_two_pow, decide_eq_true_iff]
  refine acalls_of_body mix Try.func117 rfl fok117 (Nat.le_of_ble_eq_true rfl) ?_
  unfold abody
  simp only [absE, absL, absF, reduceCtorEq, ↓reduceIte, Nat.reduceEqDiff, Nat.reduceAdd, Nat.reduceLT, Nat.reduceMul, Nat.reduceSub, Nat.reduceLeDiff, Int.reduceLT, Int.reduceLE, Int.reduceEq, Option.isSome_some, implies_true, false_implies, Prod.mk.injEq, ne_eq, not_false_eq_true, not_true_eq_false, ge_iff_le, gt_iff_lt, Int.toNat_natCast, Int.reduceToNat, Int.cast_ofNat_Int, Int.natCast_nonneg, hor, Try.f117]
  refine awpLoop.intro (fun s : Nat => [(1, .i .i64 s), (2, .ref (.ptr 1 0 0 0))]) (fun s => ⟨[], [((1, 0), .lv true (sqS N t))], 6⟩)
    (fun s => s < 2 ^ N ∧ s.testBit 0 = true ∧ (∀ z, S z → s.testBit z = true) ∧ ∀ z, s.testBit z = true → Gen N t S z) (fun s => 2 ^ N - s) (s0 ||| 1) ⟨Nat.or_lt_two_pow h0 hone, ?_, ?_, ?_⟩ ⟨[((1,0),(1,0))], rfl, ?_, ?_⟩ ?_
  · rw [Nat.testBit_or, (hb1 0).2 rfl, Bool.or_true]
  · intro z hz
    rw [Nat.testBit_or, (hS0 z).2 hz, Bool.true_or]
  · intro z hz
    rw [Nat.testBit_or, Bool.or_eq_true, hb1] at hz
    rcases hz with hz | hz
    · exact .base ((hS0 z).1 hz)
    · subst hz; exact .zero
  · simp [wkEnv, lk, renV, renAt, renTo]
  · simp [wkMem, wkLoc, Mem.get, assoc, renBlk, renSegs, renSg, renTo]
  · rintro s ⟨g1, g2, g3, g4⟩
    simp only [absE, absL, absF, reduceCtorEq, ↓reduceIte, Nat.reduceEqDiff, Nat.reduceAdd, Nat.reduceLT, Nat.reduceMul, Nat.reduceSub, Nat.reduceLeDiff, Int.reduceLT, Int.reduceLE, Int.reduceEq, Option.isSome_some, implies_true, false_implies, Prod.mk.injEq, ne_eq, not_false_eq_true, not_true_eq_false, ge_iff_le, gt_iff_lt, Int.toNat_natCast, Int.reduceToNat, Int.cast_ofNat_Int, Int.natCast_nonneg]
    refine CallsVia.none (elements_ok N t hN) ?_
    rintro _ _ _ ⟨rfl, rfl, rfl⟩
    simp only [absE, absL, absF, reduceCtorEq, ↓reduceIte, Nat.reduceEqDiff, Nat.reduceAdd, Nat.reduceLT, Nat.reduceMul, Nat.reduceSub, Nat.reduceLeDiff, Int.reduceLT, Int.reduceLE, Int.reduceEq, Option.isSome_some, implies_true, false_implies, Prod.mk.injEq, ne_eq, not_false_eq_true, not_true_eq_false, ge_iff_le, gt_iff_lt, Int.toNat_natCast, Int.reduceToNat, Int.cast_ofNat_Int, Int.natCast_nonneg]
    refine awpLoop.intro (fun a : Nat × Nat => [(1, .i .i64 s), (2, .ref (.ptr 1 0 0 0)), (5, .i .i64 a.2), (14, .ref (.sl 9 0 0 0 N 1)), (15, .i .i64 N), (16, .i .i64 a.1)]) (fun a => ⟨[], [((1, 0), .lv true (sqS N t)), ((9, 0), .lv true ([(0, .ints .u8 N (bytesTo N))]))], 12⟩)
      (fun a => a.1 ≤ N ∧ a.2 < 2 ^ N ∧ (∀ z, s.testBit z = true → a.2.testBit z = true) ∧ (∀ z, a.2.testBit z = true → Gen N t S z) ∧ ∀ x y, x < a.1 → y < N → s.testBit x = true → s.testBit y = true → Closes N t a.2 x y) (fun a => N - a.1) (0, s)
      ⟨by omega, g1, fun z hz => hz, g4, fun x y hx => absurd hx (by simp)⟩ ⟨[((1,0),(1,0)), ((9,0),(9,0))], rfl, ?_, ?_⟩ ?_
    · simp [wkEnv, lk, renV, renAt, renTo]
    · simp [wkMem, wkLoc, Mem.get, assoc, renBlk, renSegs, renSg, renTo]
    · rintro ⟨x, n1⟩ ⟨hx, k1, k2, k3, k4⟩
      simp only at hx k1 k2 k3 k4
      by_cases h : (x : Int) < N
      · have w := wrap_i64s (show x < 2 ^ 62 by omega)
        have b1 : (bytesTo N).getD (0 + x * 1) 0 = (x : Int) := by rw [Nat.zero_add, Nat.mul_one]; exact bytesTo_get (by omega)
        have v1 : 0 + x * 1 < N := by omega
        simp only [absE, absL, absF, reduceCtorEq, ↓reduceIte, Nat.reduceEqDiff, Nat.reduceAdd, Nat.reduceLT, Nat.reduceMul, Nat.reduceSub, Nat.reduceLeDiff, Int.reduceLT, Int.reduceLE, Int.reduceEq, Option.isSome_some, implies_true, false_implies, Prod.mk.injEq, ne_eq, not_false_eq_true, not_true_eq_false, ge_iff_le, gt_iff_lt, Int.toNat_natCast, Int.reduceToNat, Int.cast_ofNat_Int, Int.natCast_nonneg, h, b1, v1]
        refine CallsVia.none (elements_ok N t hN) ?_
        rintro _ _ _ ⟨rfl, rfl, rfl⟩
        simp only [absE, absL, absF, reduceCtorEq, ↓reduceIte, Nat.reduceEqDiff, Nat.reduceAdd, Nat.reduceLT, Nat.reduceMul, Nat.reduceSub, Nat.reduceLeDiff, Int.reduceLT, Int.reduceLE, Int.reduceEq, Option.isSome_some, implies_true, false_implies, Prod.mk.injEq, ne_eq, not_false_eq_true, not_true_eq_false, ge_iff_le, gt_iff_lt, Int.toNat_natCast, Int.reduceToNat, Int.cast_ofNat_Int, Int.natCast_nonneg]
        refine awpLoop.intro (fun a : Nat × Nat => [(1, .i .i64 s), (2, .ref (.ptr 1 0 0 0)), (5, .i .i64 a.2), (14, .ref (.sl 9 0 0 0 N 1)), (15, .i .i64 N), (16, .i .i64 x), (7, .i .u8 x), (21, .ref (.sl 17 0 0 0 N 1)), (22, .i .i64 N), (23, .i .i64 a.1)]) (fun a => ⟨[], [((1, 0), .lv true (sqS N t)), ((9, 0), .lv true ([(0, .ints .u8 N (bytesTo N))])), ((17, 0), .lv true ([(0, .ints .u8 N (bytesTo N))]))], 20⟩)
          (fun a => a.1 ≤ N ∧ a.2 < 2 ^ N ∧ (∀ z, s.testBit z = true → a.2.testBit z = true) ∧ (∀ z, a.2.testBit z = true → Gen N t S z) ∧ (∀ x' y, x' < x → y < N → s.testBit x' = true → s.testBit y = true → Closes N t a.2 x' y) ∧ ∀ y, y < a.1 → s.testBit x = true → s.testBit y = true → Closes N t a.2 x y) (fun a => N - a.1) (0, n1)
          ⟨by omega, k1, k2, k3, k4, fun y hy => absurd hy (by simp)⟩ ⟨[((1,0),(1,0)), ((9,0),(9,0)), ((17,0),(17,0))], rfl, ?_, ?_⟩ ?_
        · simp [wkEnv, lk, renV, renAt, renTo]
        · simp [wkMem, wkLoc, Mem.get, assoc, renBlk, renSegs, renSg, renTo]
        · rintro ⟨y, n⟩ ⟨hy, q1, q2, q3, q4, q5⟩
          simp only at hy q1 q2 q3 q4 q5
          by_cases h' : (y : Int) < N
          · have w' := wrap_i64s (show y < 2 ^ 62 by omega)
            have b2 : (bytesTo N).getD (0 + y * 1) 0 = (y : Int) := by rw [Nat.zero_add, Nat.mul_one]; exact bytesTo_get (by omega)
            have v2 : 0 + y * 1 < N := by omega
            simp only [absE, absL, absF, reduceCtorEq, ↓reduceIte, Nat.reduceEqDiff, Nat.reduceAdd, Nat.reduceLT, Nat.reduceMul, Nat.reduceSub, Nat.reduceLeDiff, Int.reduceLT, Int.reduceLE, Int.reduceEq, Option.isSome_some, implies_true, false_implies, Prod.mk.injEq, ne_eq, not_false_eq_true, not_true_eq_false, ge_iff_le, gt_iff_lt, Int.toNat_natCast, Int.reduceToNat, Int.cast_ofNat_Int, Int.natCast_nonneg, h', b2, v2]
            refine CallsVia.none (setHas_ok s x (by omega) (by omega)) ?_
            rintro _ _ _ ⟨rfl, rfl, rfl⟩
            cases hbx : s.testBit x
            · simp only [absE, absL, absF, reduceCtorEq, ↓reduceIte, Nat.reduceEqDiff, Nat.reduceAdd, Nat.reduceLT, Nat.reduceMul, Nat.reduceSub, Nat.reduceLeDiff, Int.reduceLT, Int.reduceLE, Int.reduceEq, Option.isSome_some, implies_true, false_implies, Prod.mk.injEq, ne_eq, not_false_eq_true, not_true_eq_false, ge_iff_le, gt_iff_lt, Int.toNat_natCast, Int.reduceToNat, Int.cast_ofNat_Int, Int.natCast_nonneg]
              refine LoopNext.intro (y + 1, n) ⟨by simp only; omega, q1, q2, q3, q4, fun y' hy' hh => by first | (cases hh; done) | (rw [hbx] at hh; cases hh)⟩ (by simp only; omega) ⟨[((1,0),(1,0)), ((9,0),(9,0)), ((17,0),(17,0))], rfl, ?_, ?_⟩
              · simp [wkEnv, lk, renV, renAt, renTo, w']
              · simp [wkMem, wkLoc, Mem.get, assoc, renBlk, renSegs, renSg, renTo, w']
            · simp only [absE, absL, absF, reduceCtorEq, ↓reduceIte, Nat.reduceEqDiff, Nat.reduceAdd, Nat.reduceLT, Nat.reduceMul, Nat.reduceSub, Nat.reduceLeDiff, Int.reduceLT, Int.reduceLE, Int.reduceEq, Option.isSome_some, implies_true, false_implies, Prod.mk.injEq, ne_eq, not_false_eq_true, not_true_eq_false, ge_iff_le, gt_iff_lt, Int.toNat_natCast, Int.reduceToNat, Int.cast_ofNat_Int, Int.natCast_nonneg]
              refine CallsVia.none (setHas_ok s y (by omega) (by omega)) ?_
              rintro _ _ _ ⟨rfl, rfl, rfl⟩
              cases hby : s.testBit y
              · simp only [absE, absL, absF, reduceCtorEq, ↓reduceIte, Nat.reduceEqDiff, Nat.reduceAdd, Nat.reduceLT, Nat.reduceMul, Nat.reduceSub, Nat.reduceLeDiff, Int.reduceLT, Int.reduceLE, Int.reduceEq, Option.isSome_some, implies_true, false_implies, Prod.mk.injEq, ne_eq, not_false_eq_true, not_true_eq_false, ge_iff_le, gt_iff_lt, Int.toNat_natCast, Int.reduceToNat, Int.cast_ofNat_Int, Int.natCast_nonneg]
                refine LoopNext.intro (y + 1, n) ⟨by simp only; omega, q1, q2, q3, q4, fun y' hy' h1 h2 => ?_⟩ (by simp only; omega) ⟨[((1,0),(1,0)), ((9,0),(9,0)), ((17,0),(17,0))], rfl, ?_, ?_⟩
                · by_cases e : y' = y
                  · subst e; rw [hby] at h2; cases h2
                  · exact q5 y' (by simp only at hy'; omega) hbx h2
                · simp [wkEnv, lk, renV, renAt, renTo, w']
                · simp [wkMem, wkLoc, Mem.get, assoc, renBlk, renSegs, renSg, renTo, w']
              · have hxN : x < N := by omega
                have hyN : y < N := by omega
                have c1 := hs.cl_lt hxN hyN
                have c2 := PermF.fnd_lt (hs.rowP hxN) hN hyN
                have c3 := PermF.fnd_lt (hs.colP hyN) hN hxN
                have i1 : (x : Int) < 10 := by omega
                have i2 : (y : Int) < 10 := by omega
                have u1 : 0 + x * 10 + y * 1 < 100 := by omega
                have kk := sq_colget ht x y
                have p1 : (2 : Nat) ^ cl t x y < 2 ^ N := Nat.pow_lt_pow_right (by decide) c1
                have p2 : (2 : Nat) ^ fnd (cl t x) y N < 2 ^ N := Nat.pow_lt_pow_right (by decide) c2
                have p3 : (2 : Nat) ^ fnd (fun i => cl t i y) x N < 2 ^ N := Nat.pow_lt_pow_right (by decide) c3
                have s1 := wrap_shl (c := cl t x y) (by omega)
                have s2 := wrap_shl (c := fnd (cl t x) y N) (by omega)
                have s3 := wrap_shl (c := fnd (fun i => cl t i y) x N) (by omega)
                have o12 : 2 ^ cl t x y ||| 2 ^ fnd (cl t x) y N < 2 ^ N := Nat.or_lt_two_pow p1 p2
                have o123 : 2 ^ cl t x y ||| 2 ^ fnd (cl t x) y N ||| 2 ^ fnd (fun i => cl t i y) x N < 2 ^ N := Nat.or_lt_two_pow o12 p3
                have a1 := wrap_or (a := 2 ^ cl t x y) (b := 2 ^ fnd (cl t x) y N) (by omega) (by omega)
                have a2 := wrap_or (a := 2 ^ cl t x y ||| 2 ^ fnd (cl t x) y N) (b := 2 ^ fnd (fun i => cl t i y) x N) (by omega) (by omega)
                have a3 := wrap_or (a := n) (b := 2 ^ cl t x y ||| 2 ^ fnd (cl t x) y N ||| 2 ^ fnd (fun i => cl t i y) x N) (by omega) (by omega)
                have z1 : (0 : Int) ≤ (cl t x y : Int) := by omega
                have z2 : (0 : Int) ≤ (fnd (cl t x) y N : Int) := by omega
                have z3 : (0 : Int) ≤ (fnd (fun i => cl t i y) x N : Int) := by omega
                simp only [absE, absL, absF, reduceCtorEq, ↓reduceIte, Nat.reduceEqDiff, Nat.reduceAdd, Nat.reduceLT, Nat.reduceMul, Nat.reduceSub, Nat.reduceLeDiff, Int.reduceLT, Int.reduceLE, Int.reduceEq, Option.isSome_some, implies_true, false_implies, Prod.mk.injEq, ne_eq, not_false_eq_true, not_true_eq_false, ge_iff_le, gt_iff_lt, Int.toNat_natCast, Int.reduceToNat, Int.cast_ofNat_Int, Int.natCast_nonneg, i1, i2, u1, kk, z1, s1]
                refine CallsX.none (implLeft_ok N t x y ht hs hxN hyN) ?_
                simp only [absE, absL, absF, reduceCtorEq, ↓reduceIte, Nat.reduceEqDiff, Nat.reduceAdd, Nat.reduceLT, Nat.reduceMul, Nat.reduceSub, Nat.reduceLeDiff, Int.reduceLT, Int.reduceLE, Int.reduceEq, Option.isSome_some, implies_true, false_implies, Prod.mk.injEq, ne_eq, not_false_eq_true, not_true_eq_false, ge_iff_le, gt_iff_lt, Int.toNat_natCast, Int.reduceToNat, Int.cast_ofNat_Int, Int.natCast_nonneg, z2, s2, a1]
                refine CallsX.none (implRight_ok N t x y ht hs hxN hyN) ?_
                simp only [absE, absL, absF, reduceCtorEq, ↓reduceIte, Nat.reduceEqDiff, Nat.reduceAdd, Nat.reduceLT, Nat.reduceMul, Nat.reduceSub, Nat.reduceLeDiff, Int.reduceLT, Int.reduceLE, Int.reduceEq, Option.isSome_some, implies_true, false_implies, Prod.mk.injEq, ne_eq, not_false_eq_true, not_true_eq_false, ge_iff_le, gt_iff_lt, Int.toNat_natCast, Int.reduceToNat, Int.cast_ofNat_Int, Int.natCast_nonneg, z3, s3, a1, a2, a3]
                have hb := or3_bits (n := n) (a := cl t x y) (b := fnd (cl t x) y N) (c := fnd (fun i => cl t i y) x N)
                refine LoopNext.intro (y + 1, n ||| (2 ^ cl t x y ||| 2 ^ fnd (cl t x) y N ||| 2 ^ fnd (fun i => cl t i y) x N)) ⟨by simp only; omega, Nat.or_lt_two_pow q1 o123, fun z hz => (hb z).2 (.inl (q2 z hz)), fun z hz => ?_, fun x' y' hx' hy' h1 h2 => ?_, fun y' hy' h1 h2 => ?_⟩ (by simp only; omega) ⟨[((1,0),(1,0)), ((9,0),(9,0)), ((17,0),(17,0))], rfl, ?_, ?_⟩
                · rcases (hb z).1 hz with h3 | h3 | h3 | h3
                  · exact q3 z h3
                  · subst h3; exact .mul (g4 x hbx) (g4 y hby)
                  · subst h3; exact .ldiv (g4 x hbx) (g4 y hby)
                  · subst h3; exact .rdiv (g4 x hbx) (g4 y hby)
                · obtain ⟨m1, m2, m3⟩ := q4 x' y' hx' hy' h1 h2
                  exact ⟨(hb _).2 (.inl m1), (hb _).2 (.inl m2), (hb _).2 (.inl m3)⟩
                · by_cases e : y' = y
                  · subst e; exact ⟨(hb _).2 (.inr (.inl rfl)), (hb _).2 (.inr (.inr (.inl rfl))), (hb _).2 (.inr (.inr (.inr rfl)))⟩
                  · obtain ⟨m1, m2, m3⟩ := q5 y' (by simp only at hy'; omega) hbx h2
                    exact ⟨(hb _).2 (.inl m1), (hb _).2 (.inl m2), (hb _).2 (.inl m3)⟩
                · simp [wkEnv, lk, renV, renAt, renTo, w']
                · simp [wkMem, wkLoc, Mem.get, assoc, renBlk, renSegs, renSg, renTo, w']
          · have hyN : y = N := by omega
            subst hyN
            simp only [absE, absL, absF, reduceCtorEq, ↓reduceIte, Nat.reduceEqDiff, Nat.reduceAdd, Nat.reduceLT, Nat.reduceMul, Nat.reduceSub, Nat.reduceLeDiff, Int.reduceLT, Int.reduceLE, Int.reduceEq, Option.isSome_some, implies_true, false_implies, Prod.mk.injEq, ne_eq, not_false_eq_true, not_true_eq_false, ge_iff_le, gt_iff_lt, Int.toNat_natCast, Int.reduceToNat, Int.cast_ofNat_Int, Int.natCast_nonneg, h', w]
            refine LoopNext.intro (x + 1, n) ⟨by simp only; omega, q1, q2, q3, fun x' y' hx' hy' h1 h2 => ?_⟩ (by simp only; omega) ⟨[((1,0),(1,0)), ((9,0),(9,0))], rfl, ?_, ?_⟩
            · by_cases e : x' = x
              · subst e; exact q5 y' hy' h1 h2
              · exact q4 x' y' (by simp only at hx'; omega) hy' h1 h2
            · simp [wkEnv, lk, renV, renAt, renTo]
            · simp [wkMem, wkLoc, Mem.get, assoc, renBlk, renSegs, renSg, renTo]
      · have hxN : x = N := by omega
        subst hxN
        by_cases hn : n1 = s
        · subst hn
          simp only [absE, absL, absF, reduceCtorEq, ↓reduceIte, Nat.reduceEqDiff, Nat.reduceAdd, Nat.reduceLT, Nat.reduceMul, Nat.reduceSub, Nat.reduceLeDiff, Int.reduceLT, Int.reduceLE, Int.reduceEq, Option.isSome_some, implies_true, false_implies, Prod.mk.injEq, ne_eq, not_false_eq_true, not_true_eq_false, ge_iff_le, gt_iff_lt, Int.toNat_natCast, Int.reduceToNat, Int.cast_ofNat_Int, Int.natCast_nonneg, h, eq_self, Try.results117]
          have hin : ∀ z, n1.testBit z = true → z < x := fun z hz => by
            apply Decidable.byContradiction; intro hh
            rw [Nat.testBit_lt_two_pow (Nat.lt_of_lt_of_le g1 (Nat.pow_le_pow_right (by decide) (by omega)))] at hz
            cases hz
          have hall : ∀ z, Gen x t S z → n1.testBit z = true := fun z hz => Gen.sub (P := fun z => n1.testBit z = true) hz g2 g3 fun a b ha hb => k4 a b (hin a ha) (hin b hb) ha hb
          have e : n1 = setM (genB x t S) x := setM_eq' hin fun i hi => by
            rw [Bool.eq_iff_iff, genB_iff]
            exact ⟨g4 i, hall i⟩
          exact ⟨[], by simp, by simp, by simp [renV, renVs, renSegs, renSg, ← e]⟩
        · have hne : ¬(n1 : Int) = s := by omega
          have hle := bits_le k2
          simp only [absE, absL, absF, reduceCtorEq, ↓reduceIte, Nat.reduceEqDiff, Nat.reduceAdd, Nat.reduceLT, Nat.reduceMul, Nat.reduceSub, Nat.reduceLeDiff, Int.reduceLT, Int.reduceLE, Int.reduceEq, Option.isSome_some, implies_true, false_implies, Prod.mk.injEq, ne_eq, not_false_eq_true, not_true_eq_false, ge_iff_le, gt_iff_lt, Int.toNat_natCast, Int.reduceToNat, Int.cast_ofNat_Int, Int.natCast_nonneg, h, hne]
          refine LoopNext.intro n1 ⟨k1, k2 0 g2, fun z hz => k2 z (g3 z hz), k3⟩ (by omega) ⟨[((1,0),(1,0))], rfl, ?_, ?_⟩
          · simp [wkEnv, lk, renV, renAt, renTo]
          · simp [wkMem, wkLoc, Mem.get, assoc, renBlk, renSegs, renSg, renTo]

end Go.Proofs.Ytoccbgffekhcaaa
