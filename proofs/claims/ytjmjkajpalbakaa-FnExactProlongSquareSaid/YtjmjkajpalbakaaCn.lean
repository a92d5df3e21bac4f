/-
Contracts of functions of the given program, by the abstract walk.
-/
import Derived.Test.YtjmjkajpalbakaaAbsV
import Derived.Test.YtjmjkajpalbakaaCm
namespace Go.Proofs.Ytjmjkajpalbakaa
open Go Go.Abs
set_option linter.unusedVariables false
set_option linter.unusedSectionVars false
set_option linter.unusedSimpArgs false
set_option linter.defProp false
set_option maxRecDepth 100000
def AreP (n : Int) (c : List Int) (k : Nat) : Prop := (1 ≤ n ∧ n ≤ 10) ∧ ∀ i, i < k → PermP n ((c.drop (i * 10)).take 10)
open Classical in
noncomputable def areB (n : Int) (t : List Int) (k : Nat) : Bool := decide (AreP n t k)
theorem areB_true {n : Int} {t : List Int} {k : Nat} (h : AreP n t k) : areB n t k = true := by unfold areB; exact @decide_eq_true _ (_) h
theorem areB_false {n : Int} {t : List Int} {k : Nat} (h : ¬AreP n t k) : areB n t k = false := by unfold areB; exact @decide_eq_false _ (_) h
theorem areB_iff {n : Int} {t : List Int} {k : Nat} : areB n t k = true ↔ AreP n t k := by unfold areB; exact @decide_eq_true_iff _ (_)
theorem bytes_sub {t : List Int} {L : Nat} (h : Bytes L t) {off : Nat} (ho : off + 10 ≤ L) : Bytes 10 ((t.drop off).take 10) :=
  ⟨sub_length (by have := h.len; omega), fun i => by rw [getD_sub]; split; exact h.rng _; omega⟩

theorem arePermutations_ok (n : Int) (k : Nat) (c : List Int) (hc : Bytes (k * 10) c) (hk1 : 1 < k) (hk : k < 1000) : ACalls Try.prog 70 [.i .i64 n, .ref (.sl 0 0 0 0 k 10)] [.lv true [(0, .ints .u8 (k * 10) c)]] (fun v ms ns => v = .b (areB n c k) ∧ ms = [.lv true [(0, .ints .u8 (k * 10) c)]] ∧ ns = []) := by
  refine acalls_of_body mix Try.func70 rfl fok70 (Nat.le_of_ble_eq_true rfl) ?_
  unfold abody
  simp only [absE, absL, absF, reduceCtorEq, ↓reduceIte, Nat.reduceEqDiff, Nat.reduceAdd, Nat.reduceLT, Nat.reduceMul, Nat.reduceSub, Nat.reduceLeDiff, Int.reduceLT, Int.reduceLE, Int.reduceEq, Option.isSome_some, implies_true, false_implies, Prod.mk.injEq, ne_eq, not_false_eq_true, not_true_eq_false, ge_iff_le, gt_iff_lt, Int.toNat_natCast, Int.cast_ofNat_Int, Int.natCast_nonneg, Try.f70]
  refine awpLoop.intro (fun i : Nat => [(0, .i .i64 n), (7, .ref (.sl 0 0 0 0 k 10)), (8, .i .i64 k), (9, .i .i64 i)]) (fun i => ⟨[.lv true [(0, .ints .u8 (k * 10) c)]], [], 2⟩)
    (fun i => i ≤ k ∧ ∀ j, j < i → PermP n ((c.drop (j * 10)).take 10)) (fun i => k - i) 0 ⟨by omega, fun x' h => absurd h (by simp)⟩ ⟨[], rfl, ?_, ?_⟩ ?_
  · simp [wkEnv, lk, renV, renAt, renTo]
  · simp [wkMem, wkLoc, renBlk, renSegs, renSg]
  · rintro i ⟨hi, hp⟩
    by_cases h : (i : Int) < k
    · have w : IntKind.i64.wrap ((i : Int) + 1) = ((i + 1 : Nat) : Int) := by rw [wrap_i64 (by omega) (by omega)]; omega
      have u1 : 0 + i * 10 + 10 ≤ k * 10 := by omega
      have hk10 : ¬ (k * 10 = 10) := by omega
      have u2 : 10 < k * 10 := by omega
      simp only [absE, absL, absF, reduceCtorEq, ↓reduceIte, Nat.reduceEqDiff, Nat.reduceAdd, Nat.reduceLT, Nat.reduceMul, Nat.reduceSub, Nat.reduceLeDiff, Int.reduceLT, Int.reduceLE, Int.reduceEq, Option.isSome_some, implies_true, false_implies, Prod.mk.injEq, ne_eq, not_false_eq_true, not_true_eq_false, ge_iff_le, gt_iff_lt, Int.toNat_natCast, Int.cast_ofNat_Int, Int.natCast_nonneg, h, u1, u2, hk10]
      refine CallsVia.none (isPermutation_ok _ n (bytes_sub hc (by omega))) ?_
      rintro _ _ _ ⟨rfl, rfl, rfl⟩
      cases hb : permB n ((c.drop (0 + i * 10)).take 10)
      · simp only [absE, absL, absF, reduceCtorEq, ↓reduceIte, Nat.reduceEqDiff, Nat.reduceAdd, Nat.reduceLT, Nat.reduceMul, Nat.reduceSub, Nat.reduceLeDiff, Int.reduceLT, Int.reduceLE, Int.reduceEq, Option.isSome_some, implies_true, false_implies, Prod.mk.injEq, ne_eq, not_false_eq_true, not_true_eq_false, ge_iff_le, gt_iff_lt, Int.toNat_natCast, Int.cast_ofNat_Int, Int.natCast_nonneg, h, hb, Try.results70]
        refine ⟨[], by simp, by simp, ?_, by simp [renBlk, renSegs, renSg], by simp⟩
        rw [areB_false]
        · rfl
        · intro ha
          have := ha.2 i (by omega)
          rw [Nat.zero_add, permB_true this] at hb
          cases hb
      · simp only [absE, absL, absF, reduceCtorEq, ↓reduceIte, Nat.reduceEqDiff, Nat.reduceAdd, Nat.reduceLT, Nat.reduceMul, Nat.reduceSub, Nat.reduceLeDiff, Int.reduceLT, Int.reduceLE, Int.reduceEq, Option.isSome_some, implies_true, false_implies, Prod.mk.injEq, ne_eq, not_false_eq_true, not_true_eq_false, ge_iff_le, gt_iff_lt, Int.toNat_natCast, Int.cast_ofNat_Int, Int.natCast_nonneg, h, hb]
        refine LoopNext.intro (i + 1) ⟨by omega, fun j hj => ?_⟩ (by omega) ⟨[], rfl, ?_, ?_⟩
        · by_cases e : j = i
          · subst e
            rw [Nat.zero_add] at hb
            exact permB_iff.1 hb
          · exact hp j (by omega)
        · simp [wkEnv, lk, renV, renAt, renTo, w]
        · simp [wkMem, wkLoc, renBlk, renSegs, renSg]
    · simp only [absE, absL, absF, reduceCtorEq, ↓reduceIte, Nat.reduceEqDiff, Nat.reduceAdd, Nat.reduceLT, Nat.reduceMul, Nat.reduceSub, Nat.reduceLeDiff, Int.reduceLT, Int.reduceLE, Int.reduceEq, Option.isSome_some, implies_true, false_implies, Prod.mk.injEq, ne_eq, not_false_eq_true, not_true_eq_false, ge_iff_le, gt_iff_lt, Int.toNat_natCast, Int.cast_ofNat_Int, Int.natCast_nonneg, h]
      refine CallsVia.none (within_ok n 1 10) ?_
      rintro _ _ _ ⟨rfl, rfl, rfl⟩
      simp only [absE, absL, absF, reduceCtorEq, ↓reduceIte, Nat.reduceEqDiff, Nat.reduceAdd, Nat.reduceLT, Nat.reduceMul, Nat.reduceSub, Nat.reduceLeDiff, Int.reduceLT, Int.reduceLE, Int.reduceEq, Option.isSome_some, implies_true, false_implies, Prod.mk.injEq, ne_eq, not_false_eq_true, not_true_eq_false, ge_iff_le, gt_iff_lt, Int.toNat_natCast, Int.cast_ofNat_Int, Int.natCast_nonneg, Try.results70]
      refine ⟨[], by simp, by simp, ?_, by simp [renBlk, renSegs, renSg], by simp⟩
      simp only [renV, AV.b.injEq]
      rw [Bool.eq_iff_iff, areB_iff, decide_eq_true_iff]
      exact ⟨fun h => ⟨h, fun j hj => hp j (by omega)⟩, fun h => h.1⟩

theorem three_rows {p q r : List Int} (hp : p.length = 10) (hq : q.length = 10) (hr : r.length = 10) :
    spl (spl (spl (List.replicate 30 (0 : Int)) 0 p) 10 q) 20 r = p ++ q ++ r := by
  have h1 : spl (List.replicate 30 (0 : Int)) 0 p = p ++ List.replicate 20 0 := by
    rw [spl_eq_int (by rw [List.length_replicate]; omega), hp, List.drop_replicate]
    rfl
  have h2 : spl (p ++ List.replicate 20 (0 : Int)) 10 q = p ++ q ++ List.replicate 10 0 := by
    rw [spl_eq_int (by rw [List.length_append, List.length_replicate]; omega), List.take_left' hp, hq, List.drop_append, hp, List.drop_eq_nil_of_le (by omega), List.drop_replicate]
    rfl
  have hpq : (p ++ q).length = 20 := by rw [List.length_append]; omega
  rw [h1, h2, spl_eq_int (by rw [List.length_append, List.length_replicate]; omega), List.take_left' hpq, hr, List.drop_append, hpq, List.drop_eq_nil_of_le (by omega), List.drop_replicate]
  simp
theorem areB_three {n : Int} {p q r : List Int} (hp : Bytes 10 p) (hq : Bytes 10 q) (hr : Bytes 10 r) : areB n (p ++ q ++ r) 3 = (permB n p && permB n q && permB n r) := by
  have lp := hp.len
  have lq := hq.len
  have lr := hr.len
  have e0 : ((p ++ q ++ r).drop (0 * 10)).take 10 = p := by simp [lp, List.take_append]
  have e1 : ((p ++ q ++ r).drop (1 * 10)).take 10 = q := by simp [lp, lq, List.take_append, List.drop_append]
  have e2 : ((p ++ q ++ r).drop (2 * 10)).take 10 = r := by
    have hpq : (p ++ q).length = 2 * 10 := by rw [List.length_append]; omega
    rw [List.drop_left' hpq, List.take_of_length_le (by omega)]
  rw [Bool.eq_iff_iff, areB_iff]
  simp only [Bool.and_eq_true, permB_iff]
  constructor
  · rintro ⟨_, h⟩
    have h0 := h 0 (by omega)
    have h1 := h 1 (by omega)
    have h2 := h 2 (by omega)
    rw [e0] at h0
    rw [e1] at h1
    rw [e2] at h2
    exact ⟨⟨h0, h1⟩, h2⟩
  · rintro ⟨⟨h0, h1⟩, h2⟩
    refine ⟨⟨h0.1, h0.2.1⟩, fun i hi => ?_⟩
    match i, hi with
    | 0, _ => rw [e0]; exact h0
    | 1, _ => rw [e1]; exact h1
    | 2, _ => rw [e2]; exact h2
theorem bytes_app {j k : Nat} {a b : List Int} (ha : Bytes j a) (hb : Bytes k b) : Bytes (j + k) (a ++ b) :=
  ⟨by simp [ha.len, hb.len], fun i => by
    have e : (a ++ b).getD i 0 = if i < j then a.getD i 0 else b.getD (i - j) 0 := by
      have := ha.len
      by_cases h : i < j
      · rw [if_pos h]; simp [List.getElem?_append_left (show i < a.length by omega)]
      · rw [if_neg h]; simp [List.getElem?_append_right (show a.length ≤ i by omega), this]
    rw [e]; split
    · exact ha.rng i
    · exact hb.rng _⟩
theorem isTriple_ok (p q r : List Int) (n : Int) (hp : Bytes 10 p) (hq : Bytes 10 q) (hr : Bytes 10 r) : ACalls Try.prog 44 [.agg (trS p q r), .i .i64 n] [] (fun v ms ns => v = .b (permB n p && permB n q && permB n r) ∧ ms = [] ∧ ns = []) := by
  refine acalls_of_body mix Try.func44 rfl fok44 (Nat.le_of_ble_eq_true rfl) ?_
  unfold abody
  simp only [absE, absL, absF, reduceCtorEq, ↓reduceIte, Nat.reduceEqDiff, Nat.reduceAdd, Nat.reduceLT, Nat.reduceMul, Nat.reduceSub, Nat.reduceLeDiff, Int.reduceLT, Int.reduceLE, Int.reduceEq, Option.isSome_some, implies_true, false_implies, Prod.mk.injEq, ne_eq, not_false_eq_true, not_true_eq_false, ge_iff_le, gt_iff_lt, Int.toNat_natCast, Int.cast_ofNat_Int, Int.natCast_nonneg, Try.f44]
  have hc : Bytes (3 * 10) (p ++ q ++ r) := (bytes_app (bytes_app hp hq) hr : Bytes (10 + 10 + 10) _)
  refine CallsVia.args [(10, 0)] (arePermutations_ok n 3 (p ++ q ++ r) hc (by omega) (by omega)) (by simp) (by simp [Mem.get, assoc]) rfl ?_ ?_
  · rw [← three_rows hp.len hq.len hr.len]
    rfl
  rintro _ _ _ ⟨rfl, rfl, rfl⟩
  simp only [absE, absL, absF, reduceCtorEq, ↓reduceIte, Nat.reduceEqDiff, Nat.reduceAdd, Nat.reduceLT, Nat.reduceMul, Nat.reduceSub, Nat.reduceLeDiff, Int.reduceLT, Int.reduceLE, Int.reduceEq, Option.isSome_some, implies_true, false_implies, Prod.mk.injEq, ne_eq, not_false_eq_true, not_true_eq_false, ge_iff_le, gt_iff_lt, Int.toNat_natCast, Int.cast_ofNat_Int, Int.natCast_nonneg, Try.results44, areB_three hp hq hr]
  exact fin_b rfl rfl

end Go.Proofs.Ytjmjkajpalbakaa
