/-
Contracts of functions of the given program, by the abstract walk.
-/
import Derived.Test.YtoccbgffekhcaaaAbsY
import Derived.Test.YtoccbgffekhcaaaNb
import Derived.Test.YtoccbgffekhcaaaNf
import Derived.Test.YtoccbgffekhcaaaHa
import Derived.Test.YtoccbgffekhcaaaHc
import Derived.Test.YtoccbgffekhcaaaEd
import Derived.Test.YtoccbgffekhcaaaDp
namespace Go.Proofs.Ytoccbgffekhcaaa
open Go Go.Abs
set_option linter.unusedVariables false
set_option linter.unusedSectionVars false
set_option linter.unusedSimpArgs false
set_option maxRecDepth 100000
/-! normal closures: the program -/
def ldF (N : Nat) (t : List Int) : Nat → Nat → Nat := fun x z => fnd (cl t x) z N
def rdF (N : Nat) (t : List Int) : Nat → Nat → Nat := fun z y => fnd (fun i => cl t i y) z N
theorem lp_of {N : Nat} {t : List Int} (hs : SqP N t) (hu : UnitP N t 0) : Lp N (cl t) (ldF N t) (rdF N t) where
  pos := hs.pos
  lt := fun a b ha hb => hs.cl_lt ha hb
  injL := fun a b c ha hb hc e => (hs.rowP ha).inj hs.le hb hc e
  injR := fun a b c ha hb hc e => (hs.colP ha).inj hs.le hb hc e
  uL := fun x hx => (hu x hx).1
  uR := fun x hx => (hu x hx).2
  ldlt := fun a b ha hb => (hs.rowP ha).fnd_lt hs.le hb
  ldeq := fun a b ha hb => fnd_at ((hs.rowP ha).fnd_lt hs.le hb)
  rdlt := fun a b ha hb => (hs.colP hb).fnd_lt hs.le ha
  rdeq := fun a b ha hb => fnd_at (f := fun i => cl t i a) ((hs.colP ha).fnd_lt hs.le hb)
open Classical in
noncomputable def nclB (N : Nat) (t : List Int) (S : Nat → Prop) (z : Nat) : Bool := decide (NCl N (cl t) (ldF N t) (rdF N t) S z)
theorem nclB_iff {N : Nat} {t : List Int} {S : Nat → Prop} {z : Nat} : nclB N t S z = true ↔ NCl N (cl t) (ldF N t) (rdF N t) S z := by unfold nclB; exact @decide_eq_true_iff _ (_)
/-- the maps that make all inner maps -/
theorem inIn_mem {N : Nat} {t : List Int} {x : Nat} {Ls : List (List Int)} {p : List Int} : ∀ {y}, p ∈ inIn N t x Ls y ↔ p ∈ Ls ∨ p = turnL N t x ∨ ∃ j, j < y ∧ (p = leftL N t x j ∨ p = rightL N t x j)
  | 0 => by simp [inIn]
  | y + 1 => by
    rw [inIn, List.mem_append, inIn_mem (y := y)]
    simp only [List.mem_cons, List.not_mem_nil, or_false]
    constructor
    · rintro ((h | h | ⟨j, hj, h⟩) | h)
      · exact .inl h
      · exact .inr (.inl h)
      · exact .inr (.inr ⟨j, by omega, h⟩)
      · exact .inr (.inr ⟨y, by omega, h⟩)
    · rintro (h | h | ⟨j, hj, h⟩)
      · exact .inl (.inl h)
      · exact .inl (.inr (.inl h))
      · by_cases e : j = y
        · subst e; exact .inr h
        · exact .inl (.inr (.inr ⟨j, by omega, h⟩))
theorem inT_mem {N : Nat} {t : List Int} {p : List Int} : ∀ {x}, p ∈ inT N t x ↔ ∃ i, i < x ∧ (p = turnL N t i ∨ ∃ j, j < N ∧ (p = leftL N t i j ∨ p = rightL N t i j))
  | 0 => by simp [inT]
  | x + 1 => by
    rw [inT, inIn_mem, inT_mem (x := x)]
    constructor
    · rintro (⟨i, hi, h⟩ | h)
      · exact ⟨i, by omega, h⟩
      · exact ⟨x, by omega, h⟩
    · rintro ⟨i, hi, h⟩
      by_cases e : i = x
      · subst e; exact .inr h
      · exact .inl ⟨i, by omega, h⟩
theorem ncl_map {N : Nat} {t : List Int} {S : Nat → Prop} (hs : SqP N t) (hu : UnitP N t 0) (hS : ∀ a, S a → a < N) {p : List Int} (hp : p ∈ inT N t N) {z : Nat} (hz : NCl N (cl t) (ldF N t) (rdF N t) S z) : NCl N (cl t) (ldF N t) (rdF N t) S (pl p z) := by
  have lz := hz.lt (lp_of hs hu) hS
  obtain ⟨i, hi, h⟩ := inT_mem.1 hp
  rcases h with rfl | ⟨j, hj, rfl | rfl⟩
  · rw [turnL, pl_mapL hs.le lz]; exact .turn hi hz
  · rw [leftL, pl_mapL hs.le lz]; exact .inL hi hj hz
  · rw [rightL, pl_mapL hs.le lz]; exact .inR hi hj hz
theorem ncl_least {N : Nat} {t : List Int} {S Q : Nat → Prop} (hs : SqP N t) (hQ : ∀ z, Q z → z < N) (h0 : Q 0) (hS : ∀ z, S z → Q z) (hg : ∀ x y, Q x → Q y → Q (cl t x y) ∧ Q (fnd (cl t x) y N) ∧ Q (fnd (fun i => cl t i y) x N)) (hm : ∀ p ∈ inT N t N, ∀ z, Q z → Q (pl p z)) {z : Nat} (hz : NCl N (cl t) (ldF N t) (rdF N t) S z) : Q z := by
  induction hz with
  | zero => exact h0
  | base e => exact hS _ e
  | mul _ _ i j => exact (hg _ _ i j).1
  | ldiv _ _ i j => exact (hg _ _ i j).2.1
  | rdiv _ _ i j => exact (hg _ _ i j).2.2
  | @turn x k hx _ i =>
    have := hm (turnL N t x) (inT_mem.2 ⟨x, hx, .inl rfl⟩) k i
    rwa [turnL, pl_mapL hs.le (hQ _ i)] at this
  | @inL x y k hx hy _ i =>
    have := hm (leftL N t x y) (inT_mem.2 ⟨x, hx, .inr ⟨y, hy, .inl rfl⟩⟩) k i
    rwa [leftL, pl_mapL hs.le (hQ _ i)] at this
  | @inR x y k hx hy _ i =>
    have := hm (rightL N t x y) (inT_mem.2 ⟨x, hx, .inr ⟨y, hy, .inr rfl⟩⟩) k i
    rwa [rightL, pl_mapL hs.le (hQ _ i)] at this
def ledM (s : Nat) (p : List Int) : Nat → Nat
  | 0 => 0
  | x + 1 => if s.testBit x then ledM s p x ||| 2 ^ pl p x else ledM s p x
theorem ledM_bit {s : Nat} {p : List Int} {z : Nat} : ∀ {n}, (ledM s p n).testBit z = true ↔ ∃ x, x < n ∧ s.testBit x = true ∧ pl p x = z
  | 0 => by simp [ledM]
  | n + 1 => by
    unfold ledM
    split
    · rename_i h
      rw [Nat.testBit_or, Bool.or_eq_true, ledM_bit (n := n), Nat.testBit_two_pow, decide_eq_true_iff]
      constructor
      · rintro (⟨x, a, b, c⟩ | e)
        · exact ⟨x, by omega, b, c⟩
        · exact ⟨n, by omega, h, e⟩
      · rintro ⟨x, a, b, c⟩
        by_cases e : x = n
        · subst e; exact .inr c
        · exact .inl ⟨x, by omega, b, c⟩
    · rename_i h
      rw [ledM_bit (n := n)]
      constructor
      · rintro ⟨x, a, b, c⟩; exact ⟨x, by omega, b, c⟩
      · rintro ⟨x, a, b, c⟩
        refine ⟨x, ?_, b, c⟩
        have : x ≠ n := fun e => h (e ▸ b)
        omega
theorem ledM_lt {s N : Nat} {p : List Int} : ∀ {n}, (∀ x, x < n → s.testBit x = true → pl p x < N) → ledM s p n < 2 ^ N
  | 0, _ => Nat.two_pow_pos N
  | n + 1, h => by
    have ih := ledM_lt (n := n) fun x hx => h x (by omega)
    unfold ledM
    split
    · rename_i e
      exact Nat.or_lt_two_pow ih (Nat.pow_lt_pow_right (by decide) (h n (by omega) e))
    · exact ih
theorem led_ok (s : Nat) (p : List Int) (hp : Bytes 10 p) (hs : s < 2 ^ 62) (hm : ∀ x, x < 10 → s.testBit x = true → pl p x < 10) :
    ACalls Try.prog 118 [.i .i64 s, .agg (plS p)] [] (fun v ms ns => v = .i .i64 (ledM s p 10) ∧ ms = [] ∧ ns = []) := by
  refine acalls_of_body mix Try.func118 rfl fok118 (Nat.le_of_ble_eq_true rfl) ?_
  unfold abody
  simp only [absE, absL, absF, reduceCtorEq, ↓reduceIte, Nat.reduceEqDiff, Nat.reduceAdd, Nat.reduceLT, Nat.reduceMul, Nat.reduceSub, Nat.reduceLeDiff, Int.reduceLT, Int.reduceLE, Int.reduceEq, Option.isSome_some, implies_true, false_implies, Prod.mk.injEq, ne_eq, not_false_eq_true, not_true_eq_false, ge_iff_le, gt_iff_lt, Int.toNat_natCast, Int.reduceToNat, Int.cast_ofNat_Int, Int.natCast_nonneg, Try.f118]
  refine awpLoop.intro (fun x : Nat => [(0, .i .i64 s), (3, .ref (.ptr 1 0 0 0)), (5, .i .i64 (ledM s p x)), (7, .i .u8 x)]) (fun x => ⟨[], [((1, 0), .lv true (plS p))], 5⟩)
    (fun x => x ≤ 10) (fun x => 10 - x) 0 (by omega) ⟨[((1,0),(1,0))], rfl, ?_, ?_⟩ ?_
  · simp [wkEnv, lk, renV, renAt, renTo, ledM]
  · simp [wkMem, wkLoc, Mem.get, assoc, renBlk, renSegs, renSg, renTo, ledM]
  · intro x hx
    by_cases h : (x : Int) < 10
    · have w := wrap_u8s (show x < 255 by omega)
      have v1 : 0 + x * 1 < 10 := by omega
      simp only [absE, absL, absF, reduceCtorEq, ↓reduceIte, Nat.reduceEqDiff, Nat.reduceAdd, Nat.reduceLT, Nat.reduceMul, Nat.reduceSub, Nat.reduceLeDiff, Int.reduceLT, Int.reduceLE, Int.reduceEq, Option.isSome_some, implies_true, false_implies, Prod.mk.injEq, ne_eq, not_false_eq_true, not_true_eq_false, ge_iff_le, gt_iff_lt, Int.toNat_natCast, Int.reduceToNat, Int.cast_ofNat_Int, Int.natCast_nonneg, h]
      refine CallsVia.none (setHas_ok s x hs (by omega)) ?_
      rintro _ _ _ ⟨rfl, rfl, rfl⟩
      cases hb : s.testBit x
      · simp only [absE, absL, absF, reduceCtorEq, ↓reduceIte, Nat.reduceEqDiff, Nat.reduceAdd, Nat.reduceLT, Nat.reduceMul, Nat.reduceSub, Nat.reduceLeDiff, Int.reduceLT, Int.reduceLE, Int.reduceEq, Option.isSome_some, implies_true, false_implies, Prod.mk.injEq, ne_eq, not_false_eq_true, not_true_eq_false, ge_iff_le, gt_iff_lt, Int.toNat_natCast, Int.reduceToNat, Int.cast_ofNat_Int, Int.natCast_nonneg]
        have e : ledM s p (x + 1) = ledM s p x := by rw [ledM, hb]; rfl
        refine LoopNext.intro (x + 1) (by omega) (by omega) ⟨[((1,0),(1,0))], rfl, ?_, ?_⟩
        · simp [wkEnv, lk, renV, renAt, renTo, w, e]
        · simp [wkMem, wkLoc, Mem.get, assoc, renBlk, renSegs, renSg, renTo, w, e]
      · have hpx := hm x (by omega) hb
        have e1 : p.getD (0 + x * 1) 0 = (pl p x : Int) := by rw [Nat.zero_add, Nat.mul_one]; exact hp.place x
        have e : ledM s p (x + 1) = ledM s p x ||| 2 ^ pl p x := by rw [ledM, hb]; rfl
        have hl : ledM s p x < 2 ^ 10 := ledM_lt fun y hy => hm y (by omega)
        have q2 : (2 : Nat) ^ pl p x < 2 ^ 10 := Nat.pow_lt_pow_right (by decide) hpx
        have t1 := wrap_shl (c := pl p x) (by omega)
        have o1 := wrap_or (a := ledM s p x) (b := 2 ^ pl p x) (by omega) (by omega)
        simp only [absE, absL, absF, reduceCtorEq, ↓reduceIte, Nat.reduceEqDiff, Nat.reduceAdd, Nat.reduceLT, Nat.reduceMul, Nat.reduceSub, Nat.reduceLeDiff, Int.reduceLT, Int.reduceLE, Int.reduceEq, Option.isSome_some, implies_true, false_implies, Prod.mk.injEq, ne_eq, not_false_eq_true, not_true_eq_false, ge_iff_le, gt_iff_lt, Int.toNat_natCast, Int.reduceToNat, Int.cast_ofNat_Int, Int.natCast_nonneg, h, v1, e1, t1, o1]
        repeat first | refine And.intro (by decide +kernel) ?_ | refine And.intro (by omega) ?_
        refine LoopNext.intro (x + 1) (by omega) (by omega) ⟨[((1,0),(1,0))], rfl, ?_, ?_⟩
        · simp [wkEnv, lk, renV, renAt, renTo, w, e]
        · simp [wkMem, wkLoc, Mem.get, assoc, renBlk, renSegs, renSg, renTo, w, e]
    · obtain rfl : x = 10 := by omega
      simp only [absE, absL, absF, reduceCtorEq, ↓reduceIte, Nat.reduceEqDiff, Nat.reduceAdd, Nat.reduceLT, Nat.reduceMul, Nat.reduceSub, Nat.reduceLeDiff, Int.reduceLT, Int.reduceLE, Int.reduceEq, Option.isSome_some, implies_true, false_implies, Prod.mk.injEq, ne_eq, not_false_eq_true, not_true_eq_false, ge_iff_le, gt_iff_lt, Int.toNat_natCast, Int.reduceToNat, Int.cast_ofNat_Int, Int.natCast_nonneg, Try.results118]
      exact ⟨[], by simp, by simp, by simp [renV, renVs, renSegs, renSg]⟩
set_option maxHeartbeats 800000 in
theorem closure_ok (N : Nat) (t : List Int) (s0 : Nat) (S : Nat → Prop) (ht : Bytes 100 t) (hs : SqP N t) (hu : UnitP N t 0) (h0 : s0 < 2 ^ N) (hS0 : ∀ z, s0.testBit z = true ↔ S z) :
    ACalls Try.prog 63 [.agg (sqS N t), .i .i64 s0] [] (fun v ms ns => v = .i .i64 (setM (nclB N t S) N) ∧ ms = [] ∧ ns = []) := by
  have hN := hs.le
  have hpos := hs.pos
  have hN2 : (2 : Nat) ^ N ≤ 2 ^ 10 := Nat.pow_le_pow_right (by decide) hN
  have hlt : ∀ s z, s < 2 ^ N → s.testBit z = true → z < N := fun s z hs hz => by
    apply Decidable.byContradiction; intro hn
    rw [Nat.testBit_lt_two_pow (Nat.lt_of_lt_of_le hs (Nat.pow_le_pow_right (by decide) (by omega)))] at hz
    cases hz
  have hS : ∀ z, S z → z < N := fun z hz => hlt s0 z h0 ((hS0 z).2 hz)
  have hinn := inner_ok N t ht hs
  have hM : Maps (inT N t N) := inT_maps
  have hall := inT_all hs (Nat.le_refl N)
  have hlen := inT_len (t := t) hN (x := N)
  have hlen2 : 2 ≤ (inT N t N).length := by
    obtain ⟨K, rfl⟩ : ∃ K, N = K + 1 := ⟨N - 1, by omega⟩
    rw [inT, inIn_len]; omega
  have hmap := fun (p : List Int) (hp : p ∈ inT N t N) (z : Nat) (hz : NCl N (cl t) (ldF N t) (rdF N t) S z) => ncl_map hs hu hS hp hz
  have hleast := fun (Q : Nat → Prop) (hQ : ∀ z, Q z → z < N) h0 hS hg hm z hz => ncl_least (S := S) (Q := Q) hs hQ h0 hS hg hm (z := z) hz
  generalize inT N t N = L at hinn hM hall hlen hlen2 hmap hleast
  refine acalls_of_body mix Try.func63 rfl fok63 (Nat.le_of_ble_eq_true rfl) ?_
  unfold abody
  simp only [absE, absL, absF, reduceCtorEq, ↓reduceIte, Nat.reduceEqDiff, Nat.reduceAdd, Nat.reduceLT, Nat.reduceMul, Nat.reduceSub, Nat.reduceLeDiff, Int.reduceLT, Int.reduceLE, Int.reduceEq, Option.isSome_some, implies_true, false_implies, Prod.mk.injEq, ne_eq, not_false_eq_true, not_true_eq_false, ge_iff_le, gt_iff_lt, Int.toNat_natCast, Int.reduceToNat, Int.cast_ofNat_Int, Int.natCast_nonneg, Try.f63]
  refine CallsVia.none (hinn) ?_
  rintro _ _ _ ⟨rfl, rfl, rfl⟩
  simp only [absE, absL, absF, reduceCtorEq, ↓reduceIte, Nat.reduceEqDiff, Nat.reduceAdd, Nat.reduceLT, Nat.reduceMul, Nat.reduceSub, Nat.reduceLeDiff, Int.reduceLT, Int.reduceLE, Int.reduceEq, Option.isSome_some, implies_true, false_implies, Prod.mk.injEq, ne_eq, not_false_eq_true, not_true_eq_false, ge_iff_le, gt_iff_lt, Int.toNat_natCast, Int.reduceToNat, Int.cast_ofNat_Int, Int.natCast_nonneg]
  refine awpLoop.intro (fun s : Nat => [(1, .i .i64 s), (2, .ref (.ptr 1 0 0 0)), (5, .ref (.sl 4 0 0 0 L.length 10))]) (fun s => ⟨[], [((1, 0), .lv true (sqS N t)), ((4, 0), .lv true ([(0, .ints .u8 (L.length * 10) L.flatten)]))], 6⟩)
    (fun s => s < 2 ^ N ∧ (∀ z, S z → s.testBit z = true) ∧ ∀ z, s.testBit z = true → NCl N (cl t) (ldF N t) (rdF N t) S z) (fun s => 2 ^ N - s) s0 ⟨h0, fun z hz => (hS0 z).2 hz, fun z hz => .base ((hS0 z).1 hz)⟩ ⟨[((1,0),(1,0)), ((4,0),(4,0))], rfl, ?_, ?_⟩ ?_
  · simp [wkEnv, lk, renV, renAt, renTo]
  · simp [wkMem, wkLoc, Mem.get, assoc, renBlk, renSegs, renSg, renTo]
  · rintro s ⟨g1, g2, g3⟩
    simp only [absE, absL, absF, reduceCtorEq, ↓reduceIte, Nat.reduceEqDiff, Nat.reduceAdd, Nat.reduceLT, Nat.reduceMul, Nat.reduceSub, Nat.reduceLeDiff, Int.reduceLT, Int.reduceLE, Int.reduceEq, Option.isSome_some, implies_true, false_implies, Prod.mk.injEq, ne_eq, not_false_eq_true, not_true_eq_false, ge_iff_le, gt_iff_lt, Int.toNat_natCast, Int.reduceToNat, Int.cast_ofNat_Int, Int.natCast_nonneg]
    refine CallsVia.none (generated_ok N t s (fun z => s.testBit z = true) ht hs g1 (fun z => Iff.rfl)) ?_
    rintro _ _ _ ⟨rfl, rfl, rfl⟩
    have q0 : setM (genB N t (fun z => s.testBit z = true)) N < 2 ^ N := setM_lt
    have q1 : ∀ z, Gen N t (fun z => s.testBit z = true) z → (setM (genB N t (fun z => s.testBit z = true)) N).testBit z = true := fun z hz => by
      rw [setM_bit, Bool.and_eq_true, decide_eq_true_iff]; exact ⟨hz.lt hs fun z hz => hlt s z g1 hz, genB_iff.2 hz⟩
    have q2 : ∀ z, (setM (genB N t (fun z => s.testBit z = true)) N).testBit z = true → NCl N (cl t) (ldF N t) (rdF N t) S z := fun z hz => by
      rw [setM_bit, Bool.and_eq_true] at hz
      exact (genB_iff.1 hz.2).sub .zero g3 fun x y hx hy => ⟨.mul hx hy, .ldiv hx hy, .rdiv hx hy⟩
    generalize setM (genB N t (fun z => s.testBit z = true)) N = g at q0 q1 q2 ⊢
    simp only [absE, absL, absF, reduceCtorEq, ↓reduceIte, Nat.reduceEqDiff, Nat.reduceAdd, Nat.reduceLT, Nat.reduceMul, Nat.reduceSub, Nat.reduceLeDiff, Int.reduceLT, Int.reduceLE, Int.reduceEq, Option.isSome_some, implies_true, false_implies, Prod.mk.injEq, ne_eq, not_false_eq_true, not_true_eq_false, ge_iff_le, gt_iff_lt, Int.toNat_natCast, Int.reduceToNat, Int.cast_ofNat_Int, Int.natCast_nonneg]
    refine awpLoop.intro (fun a : Nat × Nat => [(1, .i .i64 s), (2, .ref (.ptr 1 0 0 0)), (5, .ref (.sl 4 0 0 0 L.length 10)), (6, .i .i64 a.2), (14, .ref (.sl 4 0 0 0 L.length 10)), (15, .i .i64 L.length), (16, .i .i64 a.1)]) (fun a => ⟨[], [((1, 0), .lv true (sqS N t)), ((4, 0), .lv true ([(0, .ints .u8 (L.length * 10) L.flatten)]))], 13⟩)
      (fun a => a.1 ≤ L.length ∧ a.2 < 2 ^ N ∧ (∀ z, g.testBit z = true → a.2.testBit z = true) ∧ (∀ z, a.2.testBit z = true → NCl N (cl t) (ldF N t) (rdF N t) S z) ∧ ∀ k, k < a.1 → ∀ z, g.testBit z = true → a.2.testBit (pl (L.getD k []) z) = true) (fun a => L.length - a.1) (0, g)
      ⟨by simp, q0, fun z hz => hz, q2, fun k hk => absurd hk (by simp)⟩ ⟨[((1,0),(1,0)), ((4,0),(4,0))], rfl, ?_, ?_⟩ ?_
    · simp [wkEnv, lk, renV, renAt, renTo]
    · simp [wkMem, wkLoc, Mem.get, assoc, renBlk, renSegs, renSg, renTo]
    · rintro ⟨i, n⟩ ⟨hi, k1, k2, k3, k4⟩
      simp only at hi k1 k2 k3 k4
      by_cases h : (i : Int) < L.length
      · have w := wrap_i64s (show i < 2 ^ 62 by omega)
        have hil : i < L.length := by omega
        have hmem := getD_mem hil
        obtain ⟨hperm, hby⟩ := hall _ hmem
        have u1 : 0 + i * 10 + 10 ≤ L.length * 10 := by omega
        have u2 : ¬ L.length * 10 = 10 := by omega
        have u3 : 10 < L.length * 10 := by omega
        have ef : (L.flatten.drop (0 + i * 10)).take 10 = L.getD i [] := by rw [Nat.zero_add]; exact flat_get hM hil
        have hpl : ∀ x, x < 10 → n.testBit x = true → pl (L.getD i []) x < N := fun x _ hx => (hmap _ hmem x (k3 x hx)).lt (lp_of hs hu) hS
        simp only [absE, absL, absF, reduceCtorEq, ↓reduceIte, Nat.reduceEqDiff, Nat.reduceAdd, Nat.reduceLT, Nat.reduceMul, Nat.reduceSub, Nat.reduceLeDiff, Int.reduceLT, Int.reduceLE, Int.reduceEq, Option.isSome_some, implies_true, false_implies, Prod.mk.injEq, ne_eq, not_false_eq_true, not_true_eq_false, ge_iff_le, gt_iff_lt, Int.toNat_natCast, Int.reduceToNat, Int.cast_ofNat_Int, Int.natCast_nonneg, h, u1, u2, u3, ef]
        repeat first | refine And.intro (by decide +kernel) ?_ | refine And.intro (by omega) ?_
        refine CallsVia.none (led_ok n (L.getD i []) hby (by omega) (fun x hx hb => by have := hpl x hx hb; omega)) ?_
        rintro _ _ _ ⟨rfl, rfl, rfl⟩
        have hl : ledM n (L.getD i []) 10 < 2 ^ N := ledM_lt hpl
        have o1 := wrap_or (a := n) (b := ledM n (L.getD i []) 10) (by omega) (by omega)
        simp only [absE, absL, absF, reduceCtorEq, ↓reduceIte, Nat.reduceEqDiff, Nat.reduceAdd, Nat.reduceLT, Nat.reduceMul, Nat.reduceSub, Nat.reduceLeDiff, Int.reduceLT, Int.reduceLE, Int.reduceEq, Option.isSome_some, implies_true, false_implies, Prod.mk.injEq, ne_eq, not_false_eq_true, not_true_eq_false, ge_iff_le, gt_iff_lt, Int.toNat_natCast, Int.reduceToNat, Int.cast_ofNat_Int, Int.natCast_nonneg, o1]
        refine LoopNext.intro (i + 1, n ||| ledM n (L.getD i []) 10) ⟨by simp only; omega, Nat.or_lt_two_pow k1 hl, fun z hz => by simp only; rw [Nat.testBit_or, k2 z hz]; rfl, fun z hz => ?_, fun k hk z hz => ?_⟩ (by simp only; omega) ⟨[((1,0),(1,0)), ((4,0),(4,0))], rfl, ?_, ?_⟩
        · simp only at hz
          rw [Nat.testBit_or, Bool.or_eq_true] at hz
          rcases hz with hz | hz
          · exact k3 z hz
          · obtain ⟨x, _, hx, rfl⟩ := ledM_bit.1 hz
            exact hmap _ hmem x (k3 x hx)
        · simp only
          rw [Nat.testBit_or, Bool.or_eq_true]
          by_cases e : k = i
          · subst e
            have hz2 := k2 z hz
            exact .inr (ledM_bit.2 ⟨z, by have := hlt n z k1 hz2; omega, hz2, rfl⟩)
          · exact .inl (k4 k (by simp only at hk; omega) z hz)
        · simp [wkEnv, lk, renV, renAt, renTo, w]
        · simp [wkMem, wkLoc, Mem.get, assoc, renBlk, renSegs, renSg, renTo, w]
      · have hiL : i = L.length := by omega
        subst hiL
        have hsub : ∀ z, s.testBit z = true → n.testBit z = true := fun z hz => k2 z (q1 z (.base hz))
        by_cases he : n = s
        · have hi : ((n : Nat) : Int) = (s : Nat) := by omega
          have hfin : s = setM (nclB N t S) N := setM_eq' (fun i hi => hlt s i g1 hi) fun z hz => by
            rw [Bool.eq_iff_iff, nclB_iff]
            refine ⟨g3 z, fun hc => ?_⟩
            refine hleast (fun z => s.testBit z = true) (fun z hz => hlt s z g1 hz) ?_ g2 (fun x y hx hy => ?_) (fun p hp z hz => ?_) z hc
            · rw [← he]; exact k2 0 (q1 0 .zero)
            · rw [← he]
              exact ⟨k2 _ (q1 _ (.mul (.base hx) (.base hy))), k2 _ (q1 _ (.ldiv (.base hx) (.base hy))), k2 _ (q1 _ (.rdiv (.base hx) (.base hy)))⟩
            · obtain ⟨k, hk, rfl⟩ := List.getElem_of_mem hp
              have := k4 k hk z (q1 z (.base hz))
              rw [he] at this
              simpa [hk] using this
          simp only [absE, absL, absF, reduceCtorEq, ↓reduceIte, Nat.reduceEqDiff, Nat.reduceAdd, Nat.reduceLT, Nat.reduceMul, Nat.reduceSub, Nat.reduceLeDiff, Int.reduceLT, Int.reduceLE, Int.reduceEq, Option.isSome_some, implies_true, false_implies, Prod.mk.injEq, ne_eq, not_false_eq_true, not_true_eq_false, ge_iff_le, gt_iff_lt, Int.toNat_natCast, Int.reduceToNat, Int.cast_ofNat_Int, Int.natCast_nonneg, h, hi, Try.results63]
          rw [← hfin]
          exact ⟨[], by simp, by simp, by simp [renV]⟩
        · have hi : ¬((n : Nat) : Int) = (s : Nat) := by omega
          have hle := bits_le hsub
          simp only [absE, absL, absF, reduceCtorEq, ↓reduceIte, Nat.reduceEqDiff, Nat.reduceAdd, Nat.reduceLT, Nat.reduceMul, Nat.reduceSub, Nat.reduceLeDiff, Int.reduceLT, Int.reduceLE, Int.reduceEq, Option.isSome_some, implies_true, false_implies, Prod.mk.injEq, ne_eq, not_false_eq_true, not_true_eq_false, ge_iff_le, gt_iff_lt, Int.toNat_natCast, Int.reduceToNat, Int.cast_ofNat_Int, Int.natCast_nonneg, h, hi]
          refine LoopNext.intro n ⟨k1, fun z hz => hsub z (g2 z hz), k3⟩ (by omega) ⟨[((1,0),(1,0)), ((4,0),(4,0))], rfl, ?_, ?_⟩
          · simp [wkEnv, lk, renV, renAt, renTo]
          · simp [wkMem, wkLoc, Mem.get, assoc, renBlk, renSegs, renSg, renTo]

end Go.Proofs.Ytoccbgffekhcaaa
