/-
Contracts of functions of the given program, by the abstract walk.
-/
import Derived.Test.YtjmenocghjggcaaAbsY
import Derived.Test.YtjmenocghjggcaaFc
namespace Go.Proofs.Ytjmenocghjggcaa
open Go Go.Abs
set_option linter.unusedVariables false
set_option linter.unusedSectionVars false
set_option linter.unusedSimpArgs false
set_option maxRecDepth 100000
theorem within_ok (n l h : Int) : ACalls Try.prog 74 [.i .i64 n, .i .i64 l, .i .i64 h] [] (fun r ms ns => r = .b (decide (l ≤ n ∧ n ≤ h)) ∧ ms = [] ∧ ns = []) := by
  refine acalls_of_body mix Try.func74 rfl fok74 (Nat.le_of_ble_eq_true rfl) ?_
  unfold abody
  by_cases h1 : l ≤ n
  · simp only [absE, absL, absF, reduceCtorEq, ↓reduceIte, Nat.reduceEqDiff, Nat.reduceAdd, Nat.reduceLT, Nat.reduceMul, Nat.reduceSub, Nat.reduceLeDiff, Int.reduceLT, Int.reduceLE, Int.reduceEq, Option.isSome_some, implies_true, false_implies, Prod.mk.injEq, ne_eq, not_false_eq_true, not_true_eq_false, ge_iff_le, gt_iff_lt, Int.toNat_natCast, Int.reduceToNat, Int.cast_ofNat_Int, Int.natCast_nonneg, h1, Try.f74]
    exact ⟨[], by simp, by simp, by simp [renV]; omega⟩
  · simp only [absE, absL, absF, reduceCtorEq, ↓reduceIte, Nat.reduceEqDiff, Nat.reduceAdd, Nat.reduceLT, Nat.reduceMul, Nat.reduceSub, Nat.reduceLeDiff, Int.reduceLT, Int.reduceLE, Int.reduceEq, Option.isSome_some, implies_true, false_implies, Prod.mk.injEq, ne_eq, not_false_eq_true, not_true_eq_false, ge_iff_le, gt_iff_lt, Int.toNat_natCast, Int.reduceToNat, Int.cast_ofNat_Int, Int.natCast_nonneg, h1, Try.f74]
    exact ⟨[], by simp, by simp, by simp [renV]; omega⟩

theorem l01In_ok (n l h : Int) : ACalls Try.prog 68 [.i .i64 n, .i .i64 l, .i .i64 h] [] (fun r ms ns => r = .b (decide (l ≤ n ∧ n ≤ h)) ∧ ms = [] ∧ ns = []) := by
  refine acalls_of_body mix Try.func68 rfl fok68 (Nat.le_of_ble_eq_true rfl) ?_
  unfold abody
  by_cases h1 : l ≤ n
  · simp only [absE, absL, absF, reduceCtorEq, ↓reduceIte, Nat.reduceEqDiff, Nat.reduceAdd, Nat.reduceLT, Nat.reduceMul, Nat.reduceSub, Nat.reduceLeDiff, Int.reduceLT, Int.reduceLE, Int.reduceEq, Option.isSome_some, implies_true, false_implies, Prod.mk.injEq, ne_eq, not_false_eq_true, not_true_eq_false, ge_iff_le, gt_iff_lt, Int.toNat_natCast, Int.reduceToNat, Int.cast_ofNat_Int, Int.natCast_nonneg, h1, Try.f68]
    exact ⟨[], by simp, by simp, by simp [renV]; omega⟩
  · simp only [absE, absL, absF, reduceCtorEq, ↓reduceIte, Nat.reduceEqDiff, Nat.reduceAdd, Nat.reduceLT, Nat.reduceMul, Nat.reduceSub, Nat.reduceLeDiff, Int.reduceLT, Int.reduceLE, Int.reduceEq, Option.isSome_some, implies_true, false_implies, Prod.mk.injEq, ne_eq, not_false_eq_true, not_true_eq_false, ge_iff_le, gt_iff_lt, Int.toNat_natCast, Int.reduceToNat, Int.cast_ofNat_Int, Int.natCast_nonneg, h1, Try.f68]
    exact ⟨[], by simp, by simp, by simp [renV]; omega⟩


def bytesTo (n : Nat) : List Int := (List.range n).map Int.ofNat
theorem bytesTo_succ {n : Nat} : bytesTo (n + 1) = bytesTo n ++ [(n : Int)] := by simp [bytesTo, List.range_succ]
theorem bytesTo_get {n i : Nat} (h : i < n) : (bytesTo n).getD i 0 = (i : Int) := by simp [bytesTo, h]
theorem elements_ok (N : Nat) (t : List Int) (hN : N ≤ 10) : ACalls Try.prog 50 [.agg (sqS N t)] [] (fun v ms ns => v = .ref (.sl 1 0 0 0 N 1) ∧ ms = [] ∧ ns = [.lv true [(0, .ints .u8 N (bytesTo N))]]) := by
  refine acalls_of_body mix Try.func50 rfl fok50 (Nat.le_of_ble_eq_true rfl) ?_
  have w0 : IntKind.u8.wrap (N : Int) = N := wrap_u8 (by omega) (by omega)
  unfold abody
  simp only [absE, absL, absF, reduceCtorEq, ↓reduceIte, Nat.reduceEqDiff, Nat.reduceAdd, Nat.reduceLT, Nat.reduceMul, Nat.reduceSub, Nat.reduceLeDiff, Int.reduceLT, Int.reduceLE, Int.reduceEq, Option.isSome_some, implies_true, false_implies, Prod.mk.injEq, ne_eq, not_false_eq_true, not_true_eq_false, ge_iff_le, gt_iff_lt, Int.toNat_natCast, Int.reduceToNat, Int.cast_ofNat_Int, Int.natCast_nonneg, w0, Try.f50]
  refine awpLoop.intro (fun x : Nat => [(3, .ref (.sl 3 0 0 0 x 1)), (8, .i .u8 N), (9, .i .u8 x)]) (fun x => ⟨[], [((3, 0), .lv true [(0, .ints .u8 x (bytesTo x))])], 4⟩)
    (fun x => x ≤ N) (fun x => N - x) 0 (by omega) ⟨[((3,0),(3,0))], rfl, ?_, ?_⟩ ?_
  · simp [wkEnv, lk, renV, renAt, renTo]
  · simp [wkMem, wkLoc, Mem.get, assoc, renBlk, renSegs, renSg, renTo, bytesTo]
  · intro x hx
    by_cases h : (x : Int) < N
    · have w : IntKind.u8.wrap ((x : Int) + 1) = ((x + 1 : Nat) : Int) := by rw [wrap_u8 (by omega) (by omega)]; omega
      have mx : x * 1 = x := Nat.mul_one x
      simp only [absE, absL, absF, reduceCtorEq, ↓reduceIte, Nat.reduceEqDiff, Nat.reduceAdd, Nat.reduceLT, Nat.reduceMul, Nat.reduceSub, Nat.reduceLeDiff, Int.reduceLT, Int.reduceLE, Int.reduceEq, Option.isSome_some, implies_true, false_implies, Prod.mk.injEq, ne_eq, not_false_eq_true, not_true_eq_false, ge_iff_le, gt_iff_lt, Int.toNat_natCast, Int.reduceToNat, Int.cast_ofNat_Int, Int.natCast_nonneg, h, mx]
      refine ⟨by omega, by omega, LoopNext.intro (x + 1) (by omega) (by omega) ⟨[((10,0),(3,0))], rfl, ?_, ?_⟩⟩
      · simp [wkEnv, lk, renV, renAt, renTo, w]
      · simp [wkMem, wkLoc, Mem.get, assoc, renBlk, renSegs, renSg, renTo, bytesTo_succ]
    · have hx' : x = N := by omega
      subst hx'
      simp only [absE, absL, absF, reduceCtorEq, ↓reduceIte, Nat.reduceEqDiff, Nat.reduceAdd, Nat.reduceLT, Nat.reduceMul, Nat.reduceSub, Nat.reduceLeDiff, Int.reduceLT, Int.reduceLE, Int.reduceEq, Option.isSome_some, implies_true, false_implies, Prod.mk.injEq, ne_eq, not_false_eq_true, not_true_eq_false, ge_iff_le, gt_iff_lt, Int.toNat_natCast, Int.reduceToNat, Int.cast_ofNat_Int, Int.natCast_nonneg, h, Try.results50]
      exact ⟨[(3, 0)], by simp, by simp, by simp [renV, renAt, renFin, idx], by simp, by simp [renBlk, renSegs, renSg, Mem.get, assoc]⟩

def AreP (n : Int) (c : List Int) (k : Nat) : Prop := (1 ≤ n ∧ n ≤ 10) ∧ ∀ i, i < k → PermP n ((c.drop (i * 10)).take 10)
open Classical in
noncomputable def areB (n : Int) (t : List Int) (k : Nat) : Bool := decide (AreP n t k)
theorem areB_true {n : Int} {t : List Int} {k : Nat} (h : AreP n t k) : areB n t k = true := by unfold areB; exact @decide_eq_true _ (_) h
theorem areB_false {n : Int} {t : List Int} {k : Nat} (h : ¬AreP n t k) : areB n t k = false := by unfold areB; exact @decide_eq_false _ (_) h
theorem areB_iff {n : Int} {t : List Int} {k : Nat} : areB n t k = true ↔ AreP n t k := by unfold areB; exact @decide_eq_true_iff _ (_)
theorem bytes_sub {t : List Int} {L : Nat} (h : Bytes L t) {off : Nat} (ho : off + 10 ≤ L) : Bytes 10 ((t.drop off).take 10) :=
  ⟨sub_length (by have := h.len; omega), fun i => by rw [getD_sub]; split; exact h.rng _; omega⟩

theorem three_rows {p q r : List Int} (hp : p.length = 10) (hq : q.length = 10) (hr : r.length = 10) :
    spl (spl (spl (List.replicate 30 (0 : Int)) 0 p) 10 q) 20 r = p ++ q ++ r := by
  have h1 : spl (List.replicate 30 (0 : Int)) 0 p = p ++ List.replicate 20 0 := by
    rw [spl_eq_int (by rw [List.length_replicate]; omega), hp, List.drop_replicate]
    rfl
  have h2 : spl (p ++ List.replicate 20 (0 : Int)) 10 q = p ++ q ++ List.replicate 10 0 := by
    rw [spl_eq_int (by rw [List.length_append, List.length_replicate]; omega), List.take_left' hp, hq, List.drop_append, hp, List.drop_eq_nil_of_le (by omega), List.drop_replicate]
    rfl
  have hpq : (p ++ q).length = 20 := by rw [List.length_append]; omega
  rw [h1, h2, spl_eq_int (by rw [List.length_append, List.length_replicate]; omega), List.take_left' hpq, hr, List.drop_append, hpq, List.drop_eq_nil_of_le (by omega), List.drop_replicate]
  simp
theorem areB_three {n : Int} {p q r : List Int} (hp : Bytes 10 p) (hq : Bytes 10 q) (hr : Bytes 10 r) : areB n (p ++ q ++ r) 3 = (permB n p && permB n q && permB n r) := by
  have lp := hp.len
  have lq := hq.len
  have lr := hr.len
  have e0 : ((p ++ q ++ r).drop (0 * 10)).take 10 = p := by simp [lp, List.take_append]
  have e1 : ((p ++ q ++ r).drop (1 * 10)).take 10 = q := by simp [lp, lq, List.take_append, List.drop_append]
  have e2 : ((p ++ q ++ r).drop (2 * 10)).take 10 = r := by
    have hpq : (p ++ q).length = 2 * 10 := by rw [List.length_append]; omega
    rw [List.drop_left' hpq, List.take_of_length_le (by omega)]
  rw [Bool.eq_iff_iff, areB_iff]
  simp only [Bool.and_eq_true, permB_iff]
  constructor
  · rintro ⟨_, h⟩
    have h0 := h 0 (by omega)
    have h1 := h 1 (by omega)
    have h2 := h 2 (by omega)
    rw [e0] at h0
    rw [e1] at h1
    rw [e2] at h2
    exact ⟨⟨h0, h1⟩, h2⟩
  · rintro ⟨⟨h0, h1⟩, h2⟩
    refine ⟨⟨h0.1, h0.2.1⟩, fun i hi => ?_⟩
    match i, hi with
    | 0, _ => rw [e0]; exact h0
    | 1, _ => rw [e1]; exact h1
    | 2, _ => rw [e2]; exact h2
theorem bytes_app {j k : Nat} {a b : List Int} (ha : Bytes j a) (hb : Bytes k b) : Bytes (j + k) (a ++ b) :=
  ⟨by simp [ha.len, hb.len], fun i => by
    have e : (a ++ b).getD i 0 = if i < j then a.getD i 0 else b.getD (i - j) 0 := by
      have := ha.len
      by_cases h : i < j
      · rw [if_pos h]; simp [List.getElem?_append_left (show i < a.length by omega)]
      · rw [if_neg h]; simp [List.getElem?_append_right (show a.length ≤ i by omega), this]
    rw [e]; split
    · exact ha.rng i
    · exact hb.rng _⟩
theorem isSquare_ok (n : Int) (t : List Int) (ht : Bytes 100 t) : ACalls Try.prog 43 [.agg (sqS n t)] [] (fun r ms ns => r = .b (sqB n t) ∧ ms = [] ∧ ns = []) := by
  refine acalls_of_body mix Try.func43 rfl fok43 (Nat.le_of_ble_eq_true rfl) ?_
  unfold abody
  simp only [absE, absL, absF, reduceCtorEq, ↓reduceIte, Nat.reduceEqDiff, Nat.reduceAdd, Nat.reduceLT, Nat.reduceMul, Nat.reduceSub, Nat.reduceLeDiff, Int.reduceLT, Int.reduceLE, Int.reduceEq, Option.isSome_some, implies_true, false_implies, Prod.mk.injEq, ne_eq, not_false_eq_true, not_true_eq_false, ge_iff_le, gt_iff_lt, Int.toNat_natCast, Int.reduceToNat, Int.cast_ofNat_Int, Int.natCast_nonneg, Try.f43]
  refine CallsVia.none (within_ok n 1 10) ?_
  rintro _ _ _ ⟨rfl, rfl, rfl⟩
  by_cases hn : 1 ≤ n ∧ n ≤ 10
  · have hN : n = (n.toNat : Int) := by omega
    generalize hN' : n.toNat = N at hN
    subst hN
    simp only [absE, absL, absF, reduceCtorEq, ↓reduceIte, Nat.reduceEqDiff, Nat.reduceAdd, Nat.reduceLT, Nat.reduceMul, Nat.reduceSub, Nat.reduceLeDiff, Int.reduceLT, Int.reduceLE, Int.reduceEq, Option.isSome_some, implies_true, false_implies, Prod.mk.injEq, ne_eq, not_false_eq_true, not_true_eq_false, ge_iff_le, gt_iff_lt, Int.toNat_natCast, Int.reduceToNat, Int.cast_ofNat_Int, Int.natCast_nonneg, hn]
    refine awpLoop.intro (fun x : Nat => [(1, .ref (.ptr 1 0 0 0)), (3, .i .i64 N), (14, .i .i64 x)]) (fun _ => ⟨[], [((1, 0), .lv true (sqS N t))], 2⟩) (fun x => x ≤ 10 ∧ ∀ x', x' < x → rowOk N t x' ∧ full N t x') (fun x => 10 - x) 0 ⟨by omega, fun x' h => absurd h (by omega)⟩ ?_ ?_
    · refine ⟨[((1,0),(1,0))], rfl, ?_, ?_⟩
      · simp [wkEnv, lk, renV, renAt, renTo]
      · simp [wkMem, wkLoc, Mem.get, assoc, renBlk, renSegs, renSg, renTo, sqS]
    · intro x ⟨hx, hp⟩
      by_cases h : (x : Int) < 10
      · simp only [absE, absL, absF, reduceCtorEq, ↓reduceIte, Nat.reduceEqDiff, Nat.reduceAdd, Nat.reduceLT, Nat.reduceMul, Nat.reduceSub, Nat.reduceLeDiff, Int.reduceLT, Int.reduceLE, Int.reduceEq, Option.isSome_some, implies_true, false_implies, Prod.mk.injEq, ne_eq, not_false_eq_true, not_true_eq_false, ge_iff_le, gt_iff_lt, Int.toNat_natCast, Int.reduceToNat, Int.cast_ofNat_Int, Int.natCast_nonneg, hn, h]
        have hx' : x < 10 := by omega
        refine awpLoop.intro (fun y : Nat => [(1, .ref (.ptr 1 0 0 0)), (3, .i .i64 N), (4, .i .i64 x), (5, .i .i64 ((if x < N then mask (cl t x) (min y N) else 0 : Nat) : Int)), (6, .i .i64 ((if x < N then mask (fun y => cl t y x) (min y N) else 0 : Nat) : Int)), (14, .i .i64 x), (17, .i .i64 y)]) (fun _ => ⟨[], [((1, 0), .lv true (sqS N t))], 2⟩)
          (fun y => y ≤ 10 ∧ ∀ y', y' < y → if x < N ∧ y' < N then cl t x y' < N ∧ cl t y' x < N else cl t x y' = 0) (fun y => 10 - y) 0 ⟨by omega, fun x' h => absurd h (by omega)⟩ ?_ ?_
        · refine ⟨[((1,0),(1,0))], rfl, ?_, ?_⟩
          · simp [wkEnv, lk, renV, renAt, renTo, mask]
          · simp [wkMem, wkLoc, Mem.get, assoc, renBlk, renSegs, renSg, renTo, sqS]
        · intro y ⟨hy, hq⟩
          by_cases h' : (y : Int) < 10
          · have hy' : y < 10 := by omega
            have b1 : (0 : Int) ≤ x := by omega
            have b2 : (0 : Int) ≤ y := by omega
            have c1 : (x : Int) < ((10 : Nat) : Int) := by omega
            have c2 : (y : Int) < ((10 : Nat) : Int) := by omega
            have k1 : t.getD (0 + x * 10 + y * 1) 0 = (cl t x y : Int) := by rw [Nat.zero_add, Nat.mul_one]; exact ht.cell x y
            have k2 : t.getD (0 + y * 10 + x * 1) 0 = (cl t y x : Int) := by rw [Nat.zero_add, Nat.mul_one]; exact ht.cell y x
            have u1 : 0 + x * 10 + y * 1 < 100 := by omega
            have u2 : 0 + y * 10 + x * 1 < 100 := by omega
            have r1 := ht.cell_lt x y
            have r2 := ht.cell_lt y x
            have w1 : IntKind.i64.wrap (cl t x y : Int) = cl t x y := wrap_i64 (by omega) (by omega)
            have w2 : IntKind.i64.wrap (cl t y x : Int) = cl t y x := wrap_i64 (by omega) (by omega)
            have w3 : IntKind.i64.wrap ((y : Int) + 1) = (y : Int) + 1 := wrap_i64 (by omega) (by omega)
            by_cases hxn : x < N
            · have g1 : ¬ (N : Int) ≤ x := by omega
              have g2 : (x : Int) < N := by omega
              by_cases hyn : y < N
              · have g3 : ¬ (N : Int) ≤ y := by omega
                have g4 : (y : Int) < N := by omega
                by_cases hc1 : cl t x y < N
                · have g5 : ¬ (N : Int) ≤ (cl t x y : Int) := by omega
                  by_cases hc2 : cl t y x < N
                  · have g6 : ¬ (N : Int) ≤ (cl t y x : Int) := by omega
                    have m0 : min y N = y := by omega
                    have z1 : (0 : Int) ≤ (cl t x y : Int) := by omega
                    have z2 : (0 : Int) ≤ (cl t y x : Int) := by omega
                    have s1 := wrap_shl (c := cl t x y) (by omega)
                    have s2 := wrap_shl (c := cl t y x) (by omega)
                    have p10 : (2 : Nat) ^ N ≤ 2 ^ 10 := Nat.pow_le_pow_right (by decide) (by omega)
                    have l1 : mask (cl t x) y < 2 ^ N := mask_lt fun i hi => by have := hq i hi; rw [if_pos ⟨hxn, by omega⟩] at this; exact this.1
                    have l2 : mask (fun y => cl t y x) y < 2 ^ N := mask_lt fun i hi => by have := hq i hi; rw [if_pos ⟨hxn, by omega⟩] at this; exact this.2
                    have q1 : (2 : Nat) ^ cl t x y < 2 ^ 10 := Nat.pow_lt_pow_right (by decide) (by omega)
                    have q2 : (2 : Nat) ^ cl t y x < 2 ^ 10 := Nat.pow_lt_pow_right (by decide) (by omega)
                    have o1 := wrap_or (a := mask (cl t x) y) (b := 2 ^ cl t x y) (by omega) (by omega)
                    have o2 := wrap_or (a := mask (fun y => cl t y x) y) (b := 2 ^ cl t y x) (by omega) (by omega)
                    simp only [absE, absL, absF, reduceCtorEq, ↓reduceIte, Nat.reduceEqDiff, Nat.reduceAdd, Nat.reduceLT, Nat.reduceMul, Nat.reduceSub, Nat.reduceLeDiff, Int.reduceLT, Int.reduceLE, Int.reduceEq, Option.isSome_some, implies_true, false_implies, Prod.mk.injEq, ne_eq, not_false_eq_true, not_true_eq_false, ge_iff_le, gt_iff_lt, Int.toNat_natCast, Int.reduceToNat, Int.cast_ofNat_Int, Int.natCast_nonneg, h, h', hxn, g1, g2, g3, g4, g5, g6, b1, b2, c1, c2, k1, k2, u1, u2, w1, w2, w3, m0, z1, z2, s1, s2, o1, o2]
                    refine LoopNext.intro (y + 1) ⟨by omega, fun y' h => ?_⟩ (by omega) ⟨[((1,0),(1,0))], rfl, ?_, ?_⟩
                    · by_cases e : y' = y
                      · subst e; rw [if_pos ⟨hxn, hyn⟩]; exact ⟨hc1, hc2⟩
                      · exact hq y' (by omega)
                    · have m1 : min (y + 1) N = y + 1 := by omega
                      simp [wkEnv, lk, renV, renAt, renTo, hxn, m1, mask]
                    · simp [wkMem, wkLoc, Mem.get, assoc, renBlk, renSegs, renSg, renTo, sqS]
                  · have g6 : (N : Int) ≤ (cl t y x : Int) := by omega
                    simp only [absE, absL, absF, reduceCtorEq, ↓reduceIte, Nat.reduceEqDiff, Nat.reduceAdd, Nat.reduceLT, Nat.reduceMul, Nat.reduceSub, Nat.reduceLeDiff, Int.reduceLT, Int.reduceLE, Int.reduceEq, Option.isSome_some, implies_true, false_implies, Prod.mk.injEq, ne_eq, not_false_eq_true, not_true_eq_false, ge_iff_le, gt_iff_lt, Int.toNat_natCast, Int.reduceToNat, Int.cast_ofNat_Int, Int.natCast_nonneg, h, h', hxn, g1, g2, g3, g4, g5, g6, b1, b2, c1, c2, k1, k2, u1, u2, w1, w2, w3, Try.results43]
                    refine fin_false (sqB_false fun hs => ?_)
                    have := (hs.2.2 x hx').1 y hy'
                    rw [if_pos ⟨hxn, hyn⟩] at this; exact hc2 this.2
                · have g5 : (N : Int) ≤ (cl t x y : Int) := by omega
                  simp only [absE, absL, absF, reduceCtorEq, ↓reduceIte, Nat.reduceEqDiff, Nat.reduceAdd, Nat.reduceLT, Nat.reduceMul, Nat.reduceSub, Nat.reduceLeDiff, Int.reduceLT, Int.reduceLE, Int.reduceEq, Option.isSome_some, implies_true, false_implies, Prod.mk.injEq, ne_eq, not_false_eq_true, not_true_eq_false, ge_iff_le, gt_iff_lt, Int.toNat_natCast, Int.reduceToNat, Int.cast_ofNat_Int, Int.natCast_nonneg, h, h', hxn, g1, g2, g3, g4, g5, b1, b2, c1, c2, k1, k2, u1, u2, w1, w2, w3, Try.results43]
                  refine fin_false (sqB_false fun hs => ?_)
                  have := (hs.2.2 x hx').1 y hy'
                  rw [if_pos ⟨hxn, hyn⟩] at this; exact hc1 this.1
              · have g3 : (N : Int) ≤ y := by omega
                have g4 : ¬ (y : Int) < N := by omega
                by_cases hc : cl t x y = 0
                · have g5 : (cl t x y : Int) = 0 := by omega
                  simp only [absE, absL, absF, reduceCtorEq, ↓reduceIte, Nat.reduceEqDiff, Nat.reduceAdd, Nat.reduceLT, Nat.reduceMul, Nat.reduceSub, Nat.reduceLeDiff, Int.reduceLT, Int.reduceLE, Int.reduceEq, Option.isSome_some, implies_true, false_implies, Prod.mk.injEq, ne_eq, not_false_eq_true, not_true_eq_false, ge_iff_le, gt_iff_lt, Int.toNat_natCast, Int.reduceToNat, Int.cast_ofNat_Int, Int.natCast_nonneg, h, h', hxn, g1, g2, g3, g4, g5, b1, b2, c1, c2, k1, k2, u1, u2, w3]
                  refine LoopNext.intro (y + 1) ⟨by omega, fun y' h => ?_⟩ (by omega) ⟨[((1,0),(1,0))], rfl, ?_, ?_⟩
                  · by_cases e : y' = y
                    · subst e; rw [if_neg (by omega)]; exact hc
                    · exact hq y' (by omega)
                  · have m1 : min (y + 1) N = min y N := by omega
                    simp [wkEnv, lk, renV, renAt, renTo, hxn, m1, mask]
                  · simp [wkMem, wkLoc, Mem.get, assoc, renBlk, renSegs, renSg, renTo, sqS]
                · have g5 : ¬ (cl t x y : Int) = 0 := by omega
                  simp only [absE, absL, absF, reduceCtorEq, ↓reduceIte, Nat.reduceEqDiff, Nat.reduceAdd, Nat.reduceLT, Nat.reduceMul, Nat.reduceSub, Nat.reduceLeDiff, Int.reduceLT, Int.reduceLE, Int.reduceEq, Option.isSome_some, implies_true, false_implies, Prod.mk.injEq, ne_eq, not_false_eq_true, not_true_eq_false, ge_iff_le, gt_iff_lt, Int.toNat_natCast, Int.reduceToNat, Int.cast_ofNat_Int, Int.natCast_nonneg, h, h', hxn, g1, g2, g3, g4, g5, b1, b2, c1, c2, k1, k2, u1, u2, w3, Try.results43]
                  refine fin_false (sqB_false fun hs => ?_)
                  have := (hs.2.2 x hx').1 y hy'
                  rw [if_neg (by omega)] at this; exact hc this
            · have g1 : (N : Int) ≤ x := by omega
              have g2 : ¬ (x : Int) < N := by omega
              by_cases hc : cl t x y = 0
              · have g5 : (cl t x y : Int) = 0 := by omega
                simp only [absE, absL, absF, reduceCtorEq, ↓reduceIte, Nat.reduceEqDiff, Nat.reduceAdd, Nat.reduceLT, Nat.reduceMul, Nat.reduceSub, Nat.reduceLeDiff, Int.reduceLT, Int.reduceLE, Int.reduceEq, Option.isSome_some, implies_true, false_implies, Prod.mk.injEq, ne_eq, not_false_eq_true, not_true_eq_false, ge_iff_le, gt_iff_lt, Int.toNat_natCast, Int.reduceToNat, Int.cast_ofNat_Int, Int.natCast_nonneg, h, h', hxn, g1, g2, g5, b1, b2, c1, c2, k1, k2, u1, u2, w3]
                refine LoopNext.intro (y + 1) ⟨by omega, fun y' h => ?_⟩ (by omega) ⟨[((1,0),(1,0))], rfl, ?_, ?_⟩
                · by_cases e : y' = y
                  · subst e; rw [if_neg (by omega)]; exact hc
                  · exact hq y' (by omega)
                · simp [wkEnv, lk, renV, renAt, renTo, hxn, mask]
                · simp [wkMem, wkLoc, Mem.get, assoc, renBlk, renSegs, renSg, renTo, sqS]
              · have g5 : ¬ (cl t x y : Int) = 0 := by omega
                simp only [absE, absL, absF, reduceCtorEq, ↓reduceIte, Nat.reduceEqDiff, Nat.reduceAdd, Nat.reduceLT, Nat.reduceMul, Nat.reduceSub, Nat.reduceLeDiff, Int.reduceLT, Int.reduceLE, Int.reduceEq, Option.isSome_some, implies_true, false_implies, Prod.mk.injEq, ne_eq, not_false_eq_true, not_true_eq_false, ge_iff_le, gt_iff_lt, Int.toNat_natCast, Int.reduceToNat, Int.cast_ofNat_Int, Int.natCast_nonneg, h, h', hxn, g1, g2, g5, b1, b2, c1, c2, k1, k2, u1, u2, w3, Try.results43]
                refine fin_false (sqB_false fun hs => ?_)
                have := (hs.2.2 x hx').1 y hy'
                rw [if_neg (by omega)] at this; exact hc this
          · have hy10 : y = 10 := by omega
            subst hy10
            have hrow : rowOk N t x := fun y' h => hq y' h
            have w4 : IntKind.i64.wrap ((x : Int) + 1) = (x : Int) + 1 := wrap_i64 (by omega) (by omega)
            by_cases hxn : x < N
            · have g2 : (x : Int) < N := by omega
              have m0 : min 10 N = N := by omega
              have p10 : (2 : Nat) ^ N ≤ 2 ^ 10 := Nat.pow_le_pow_right (by decide) (by omega)
              have p1 : 0 < (2 : Nat) ^ N := Nat.two_pow_pos N
              have s1 := wrap_shl (c := N) (by omega)
              have w5 : IntKind.i64.wrap (((2 ^ N : Nat) : Int) - 1) = ((2 ^ N - 1 : Nat) : Int) := by rw [wrap_i64 (by omega) (by omega)]; omega
              have b3 : (0 : Int) ≤ (N : Int) := by omega
              have w6 : IntKind.i64.wrap ((10 : Nat) : Int) = 10 := by decide
              by_cases e1 : mask (cl t x) N = 2 ^ N - 1
              · have g5 : (mask (cl t x) N : Int) = ((2 ^ N - 1 : Nat) : Int) := by rw [e1]
                by_cases e2 : mask (fun y => cl t y x) N = 2 ^ N - 1
                · have g6 : (mask (fun y => cl t y x) N : Int) = ((2 ^ N - 1 : Nat) : Int) := by rw [e2]
                  simp only [absE, absL, absF, reduceCtorEq, ↓reduceIte, Nat.reduceEqDiff, Nat.reduceAdd, Nat.reduceLT, Nat.reduceMul, Nat.reduceSub, Nat.reduceLeDiff, Int.reduceLT, Int.reduceLE, Int.reduceEq, Option.isSome_some, implies_true, false_implies, Prod.mk.injEq, ne_eq, not_false_eq_true, not_true_eq_false, ge_iff_le, gt_iff_lt, Int.toNat_natCast, Int.reduceToNat, Int.cast_ofNat_Int, Int.natCast_nonneg, h, h', hxn, g2, m0, w4, b3, s1, w5, g5, g6]
                  refine LoopNext.intro (x + 1) ⟨by omega, fun y' h => ?_⟩ (by omega) ⟨[((1,0),(1,0))], rfl, ?_, ?_⟩
                  · by_cases e : y' = x
                    · subst e; exact ⟨hrow, fun _ => ⟨e1, e2⟩⟩
                    · exact hp y' (by omega)
                  · simp [wkEnv, lk, renV, renAt, renTo]
                  · simp [wkMem, wkLoc, Mem.get, assoc, renBlk, renSegs, renSg, renTo, sqS]
                · have g6 : ¬ (mask (fun y => cl t y x) N : Int) = ((2 ^ N - 1 : Nat) : Int) := by omega
                  simp only [absE, absL, absF, reduceCtorEq, ↓reduceIte, Nat.reduceEqDiff, Nat.reduceAdd, Nat.reduceLT, Nat.reduceMul, Nat.reduceSub, Nat.reduceLeDiff, Int.reduceLT, Int.reduceLE, Int.reduceEq, Option.isSome_some, implies_true, false_implies, Prod.mk.injEq, ne_eq, not_false_eq_true, not_true_eq_false, ge_iff_le, gt_iff_lt, Int.toNat_natCast, Int.reduceToNat, Int.cast_ofNat_Int, Int.natCast_nonneg, h, h', hxn, g2, m0, w4, b3, s1, w5, g5, g6, Try.results43]
                  exact fin_false (sqB_false fun hs => e2 ((hs.2.2 x hx').2 hxn).2)
              · have g5 : ¬ (mask (cl t x) N : Int) = ((2 ^ N - 1 : Nat) : Int) := by omega
                simp only [absE, absL, absF, reduceCtorEq, ↓reduceIte, Nat.reduceEqDiff, Nat.reduceAdd, Nat.reduceLT, Nat.reduceMul, Nat.reduceSub, Nat.reduceLeDiff, Int.reduceLT, Int.reduceLE, Int.reduceEq, Option.isSome_some, implies_true, false_implies, Prod.mk.injEq, ne_eq, not_false_eq_true, not_true_eq_false, ge_iff_le, gt_iff_lt, Int.toNat_natCast, Int.reduceToNat, Int.cast_ofNat_Int, Int.natCast_nonneg, h, h', hxn, g2, m0, w4, b3, s1, w5, g5, Try.results43]
                exact fin_false (sqB_false fun hs => e1 ((hs.2.2 x hx').2 hxn).1)
            · have g2 : ¬ (x : Int) < N := by omega
              simp only [absE, absL, absF, reduceCtorEq, ↓reduceIte, Nat.reduceEqDiff, Nat.reduceAdd, Nat.reduceLT, Nat.reduceMul, Nat.reduceSub, Nat.reduceLeDiff, Int.reduceLT, Int.reduceLE, Int.reduceEq, Option.isSome_some, implies_true, false_implies, Prod.mk.injEq, ne_eq, not_false_eq_true, not_true_eq_false, ge_iff_le, gt_iff_lt, Int.toNat_natCast, Int.reduceToNat, Int.cast_ofNat_Int, Int.natCast_nonneg, h, h', hxn, g2, w4]
              refine LoopNext.intro (x + 1) ⟨by omega, fun y' h => ?_⟩ (by omega) ⟨[((1,0),(1,0))], rfl, ?_, ?_⟩
              · by_cases e : y' = x
                · subst e; exact ⟨hrow, fun h => absurd h hxn⟩
                · exact hp y' (by omega)
              · simp [wkEnv, lk, renV, renAt, renTo]
              · simp [wkMem, wkLoc, Mem.get, assoc, renBlk, renSegs, renSg, renTo, sqS]
      · simp only [absE, absL, absF, reduceCtorEq, ↓reduceIte, Nat.reduceEqDiff, Nat.reduceAdd, Nat.reduceLT, Nat.reduceMul, Nat.reduceSub, Nat.reduceLeDiff, Int.reduceLT, Int.reduceLE, Int.reduceEq, Option.isSome_some, implies_true, false_implies, Prod.mk.injEq, ne_eq, not_false_eq_true, not_true_eq_false, ge_iff_le, gt_iff_lt, Int.toNat_natCast, Int.reduceToNat, Int.cast_ofNat_Int, Int.natCast_nonneg, h, Try.results43]
        have hx10 : x = 10 := by omega
        subst hx10
        exact fin_true (sqB_true ⟨hn.1, hn.2, by rw [hN']; exact hp⟩)
  · simp only [absE, absL, absF, reduceCtorEq, ↓reduceIte, Nat.reduceEqDiff, Nat.reduceAdd, Nat.reduceLT, Nat.reduceMul, Nat.reduceSub, Nat.reduceLeDiff, Int.reduceLT, Int.reduceLE, Int.reduceEq, Option.isSome_some, implies_true, false_implies, Prod.mk.injEq, ne_eq, not_false_eq_true, not_true_eq_false, ge_iff_le, gt_iff_lt, Int.toNat_natCast, Int.reduceToNat, Int.cast_ofNat_Int, Int.natCast_nonneg, hn, Try.results43]
    exact fin_false (sqB_false fun hs => hn ⟨hs.1, hs.2.1⟩)

theorem toByteA10_ok (t : List Int) (ht : t.length = 10) : ACalls Try.prog 58 [.agg (plS t)] [] (fun r ms ns => r = .agg (plS t) ∧ ms = [] ∧ ns = []) := by
  refine acalls_of_body mix Try.func58 rfl fok58 (Nat.le_of_ble_eq_true rfl) ?_
  unfold abody
  simp only [absE, absL, absF, reduceCtorEq, ↓reduceIte, Nat.reduceEqDiff, Nat.reduceAdd, Nat.reduceLT, Nat.reduceMul, Nat.reduceSub, Nat.reduceLeDiff, Int.reduceLT, Int.reduceLE, Int.reduceEq, Option.isSome_some, implies_true, false_implies, Prod.mk.injEq, ne_eq, not_false_eq_true, not_true_eq_false, ge_iff_le, gt_iff_lt, Int.toNat_natCast, Int.reduceToNat, Int.cast_ofNat_Int, Int.natCast_nonneg, Try.f58]
  refine awpLoop.intro (fun a : Nat × List Int => [(1, .ref (.ptr 1 0 0 0)), (2, .ref (.ptr 2 0 0 0)), (3, .ref (.ptr 3 0 0 0)), (4, .i .i64 a.1)]) (fun a => ⟨[], [((1, 0), .lv true (plS t)), ((2, 0), .lv true (plS (List.replicate 10 0))), ((3, 0), .lv true (plS a.2))], 4⟩)
    (fun a => a.1 ≤ 10 ∧ a.2.length = 10 ∧ ∀ j, j < a.1 → a.2.getD j 0 = t.getD j 0) (fun a => 10 - a.1) (0, List.replicate 10 0) ⟨by omega, by simp, fun x' h => absurd h (by simp)⟩ ⟨[((1,0),(1,0)), ((2,0),(2,0)), ((3,0),(3,0))], rfl, ?_, ?_⟩ ?_
  · simp [wkEnv, lk, renV, renAt, renTo]
  · simp [wkMem, wkLoc, Mem.get, assoc, renBlk, renSegs, renSg, renTo]
  · rintro ⟨i, o⟩ ⟨hi, ho, hp⟩
    simp only at hi ho hp
    by_cases h : (i : Int) < 10
    · have w : IntKind.i64.wrap ((i : Int) + 1) = ((i + 1 : Nat) : Int) := by rw [wrap_i64 (by omega) (by omega)]; omega
      simp only [absE, absL, absF, reduceCtorEq, ↓reduceIte, Nat.reduceEqDiff, Nat.reduceAdd, Nat.reduceLT, Nat.reduceMul, Nat.reduceSub, Nat.reduceLeDiff, Int.reduceLT, Int.reduceLE, Int.reduceEq, Option.isSome_some, implies_true, false_implies, Prod.mk.injEq, ne_eq, not_false_eq_true, not_true_eq_false, ge_iff_le, gt_iff_lt, Int.toNat_natCast, Int.reduceToNat, Int.cast_ofNat_Int, Int.natCast_nonneg, h]
      refine ⟨by omega, by omega, LoopNext.intro (i + 1, o.set (0 + i * 1) (t.getD (0 + i * 1) 0)) ⟨by simp only; omega, by simpa using ho, fun j hj => ?_⟩ (by simp only; omega) ⟨[((1,0),(1,0)), ((2,0),(2,0)), ((3,0),(3,0))], rfl, ?_, ?_⟩⟩
      · rw [getD_set_int (by omega)]
        split
        · rename_i e; rw [e]
        · exact hp j (by simp only at hj; omega)
      · simp [wkEnv, lk, renV, renAt, renTo, w]
      · simp [wkMem, wkLoc, Mem.get, assoc, renBlk, renSegs, renSg, renTo]
    · simp only [absE, absL, absF, reduceCtorEq, ↓reduceIte, Nat.reduceEqDiff, Nat.reduceAdd, Nat.reduceLT, Nat.reduceMul, Nat.reduceSub, Nat.reduceLeDiff, Int.reduceLT, Int.reduceLE, Int.reduceEq, Option.isSome_some, implies_true, false_implies, Prod.mk.injEq, ne_eq, not_false_eq_true, not_true_eq_false, ge_iff_le, gt_iff_lt, Int.toNat_natCast, Int.reduceToNat, Int.cast_ofNat_Int, Int.natCast_nonneg, h, Try.results58]
      have : o = t := ext_getD (by omega) fun j hj => hp j (by omega)
      subst this
      exact ⟨[], by simp, by simp, by simp [renV, renSegs, renSg]⟩

theorem toTable_ok (t : List Int) (ht : t.length = 100) : ACalls Try.prog 29 [.agg (tbS t)] [] (fun r ms ns => r = .agg (tbS t) ∧ ms = [] ∧ ns = []) := by
  refine acalls_of_body mix Try.func29 rfl fok29 (Nat.le_of_ble_eq_true rfl) ?_
  unfold abody
  simp only [absE, absL, absF, reduceCtorEq, ↓reduceIte, Nat.reduceEqDiff, Nat.reduceAdd, Nat.reduceLT, Nat.reduceMul, Nat.reduceSub, Nat.reduceLeDiff, Int.reduceLT, Int.reduceLE, Int.reduceEq, Option.isSome_some, implies_true, false_implies, Prod.mk.injEq, ne_eq, not_false_eq_true, not_true_eq_false, ge_iff_le, gt_iff_lt, Int.toNat_natCast, Int.reduceToNat, Int.cast_ofNat_Int, Int.natCast_nonneg, Try.f29]
  refine awpLoop.intro (fun a : Nat × List Int => [(1, .ref (.ptr 1 0 0 0)), (2, .ref (.ptr 2 0 0 0)), (3, .ref (.ptr 3 0 0 0)), (4, .i .i64 a.1)]) (fun a => ⟨[], [((1, 0), .lv true (tbS t)), ((2, 0), .lv true (tbS (List.replicate 100 0))), ((3, 0), .lv true (tbS a.2))], 4⟩)
    (fun a => a.1 ≤ 10 ∧ a.2.length = 100 ∧ ∀ j, j < a.1 * 10 → a.2.getD j 0 = t.getD j 0) (fun a => 10 - a.1) (0, List.replicate 100 0) ⟨by omega, by simp, fun x' h => absurd h (by simp)⟩ ⟨[((1,0),(1,0)), ((2,0),(2,0)), ((3,0),(3,0))], rfl, ?_, ?_⟩ ?_
  · simp [wkEnv, lk, renV, renAt, renTo]
  · simp [wkMem, wkLoc, Mem.get, assoc, renBlk, renSegs, renSg, renTo]
  · rintro ⟨i, o⟩ ⟨hi, ho, hp⟩
    simp only at hi ho hp
    by_cases h : (i : Int) < 10
    · have w : IntKind.i64.wrap ((i : Int) + 1) = ((i + 1 : Nat) : Int) := by rw [wrap_i64 (by omega) (by omega)]; omega
      have hl : ((t.drop (0 + i * 10)).take 10).length = 10 := sub_length (by omega)
      simp only [absE, absL, absF, reduceCtorEq, ↓reduceIte, Nat.reduceEqDiff, Nat.reduceAdd, Nat.reduceLT, Nat.reduceMul, Nat.reduceSub, Nat.reduceLeDiff, Int.reduceLT, Int.reduceLE, Int.reduceEq, Option.isSome_some, implies_true, false_implies, Prod.mk.injEq, ne_eq, not_false_eq_true, not_true_eq_false, ge_iff_le, gt_iff_lt, Int.toNat_natCast, Int.reduceToNat, Int.cast_ofNat_Int, Int.natCast_nonneg, h]
      refine ⟨by omega, CallsVia.none (toByteA10_ok _ hl) ?_⟩
      rintro _ _ _ ⟨rfl, rfl, rfl⟩
      simp only [absE, absL, absF, reduceCtorEq, ↓reduceIte, Nat.reduceEqDiff, Nat.reduceAdd, Nat.reduceLT, Nat.reduceMul, Nat.reduceSub, Nat.reduceLeDiff, Int.reduceLT, Int.reduceLE, Int.reduceEq, Option.isSome_some, implies_true, false_implies, Prod.mk.injEq, ne_eq, not_false_eq_true, not_true_eq_false, ge_iff_le, gt_iff_lt, Int.toNat_natCast, Int.reduceToNat, Int.cast_ofNat_Int, Int.natCast_nonneg, h]
      refine ⟨by omega, LoopNext.intro (i + 1, spl o (0 + i * 10) ((t.drop (0 + i * 10)).take 10)) ⟨by simp only; omega, by rw [spl_length (by omega)]; exact ho, fun j hj => ?_⟩ (by simp only; omega) ⟨[((1,0),(1,0)), ((2,0),(2,0)), ((3,0),(3,0))], rfl, ?_, ?_⟩⟩
      · rw [getD_spl (by omega), getD_sub, hl]
        simp only at hj
        by_cases e : 0 + i * 10 ≤ j
        · rw [if_pos (by omega), if_pos (by omega)]; congr 1; omega
        · rw [if_neg (by omega)]; exact hp j (by omega)
      · simp [wkEnv, lk, renV, renAt, renTo, w]
      · simp [wkMem, wkLoc, Mem.get, assoc, renBlk, renSegs, renSg, renTo]
    · simp only [absE, absL, absF, reduceCtorEq, ↓reduceIte, Nat.reduceEqDiff, Nat.reduceAdd, Nat.reduceLT, Nat.reduceMul, Nat.reduceSub, Nat.reduceLeDiff, Int.reduceLT, Int.reduceLE, Int.reduceEq, Option.isSome_some, implies_true, false_implies, Prod.mk.injEq, ne_eq, not_false_eq_true, not_true_eq_false, ge_iff_le, gt_iff_lt, Int.toNat_natCast, Int.reduceToNat, Int.cast_ofNat_Int, Int.natCast_nonneg, h, Try.results29]
      have : o = t := ext_getD (by omega) fun j hj => hp j (by omega)
      subst this
      exact ⟨[], by simp, by simp, by simp [renV, renSegs, renSg]⟩

theorem toSquare_ok (n : Int) (t : List Int) (ht : t.length = 100) : ACalls Try.prog 9 [.agg (sqS n t)] [] (fun r ms ns => r = .agg (sqS n t) ∧ ms = [] ∧ ns = []) := by
  refine acalls_of_body mix Try.func9 rfl fok9 (Nat.le_of_ble_eq_true rfl) ?_
  unfold abody
  simp only [absE, absL, absF, reduceCtorEq, ↓reduceIte, Nat.reduceEqDiff, Nat.reduceAdd, Nat.reduceLT, Nat.reduceMul, Nat.reduceSub, Nat.reduceLeDiff, Int.reduceLT, Int.reduceLE, Int.reduceEq, Option.isSome_some, implies_true, false_implies, Prod.mk.injEq, ne_eq, not_false_eq_true, not_true_eq_false, ge_iff_le, gt_iff_lt, Int.toNat_natCast, Int.reduceToNat, Int.cast_ofNat_Int, Int.natCast_nonneg, Try.f9]
  refine CallsVia.none (toTable_ok t ht) ?_
  rintro _ _ _ ⟨rfl, rfl, rfl⟩
  simp only [absE, absL, absF, reduceCtorEq, ↓reduceIte, Nat.reduceEqDiff, Nat.reduceAdd, Nat.reduceLT, Nat.reduceMul, Nat.reduceSub, Nat.reduceLeDiff, Int.reduceLT, Int.reduceLE, Int.reduceEq, Option.isSome_some, implies_true, false_implies, Prod.mk.injEq, ne_eq, not_false_eq_true, not_true_eq_false, ge_iff_le, gt_iff_lt, Int.toNat_natCast, Int.reduceToNat, Int.cast_ofNat_Int, Int.natCast_nonneg, Try.results9]
  exact ⟨[], by simp, by simp, by simp [renV, renSegs, renSg]⟩


theorem eqByteA10_ok (a b : List Int) (ha : a.length = 10) (hb : b.length = 10) : ACalls Try.prog 78 [.agg (plS a), .agg (plS b)] [] (fun r ms ns => r = .b (decide (a = b)) ∧ ms = [] ∧ ns = []) := by
  refine acalls_of_body mix Try.func78 rfl fok78 (Nat.le_of_ble_eq_true rfl) ?_
  unfold abody
  simp only [absE, absL, absF, reduceCtorEq, ↓reduceIte, Nat.reduceEqDiff, Nat.reduceAdd, Nat.reduceLT, Nat.reduceMul, Nat.reduceSub, Nat.reduceLeDiff, Int.reduceLT, Int.reduceLE, Int.reduceEq, Option.isSome_some, implies_true, false_implies, Prod.mk.injEq, ne_eq, not_false_eq_true, not_true_eq_false, ge_iff_le, gt_iff_lt, Int.toNat_natCast, Int.reduceToNat, Int.cast_ofNat_Int, Int.natCast_nonneg, Try.f78]
  refine awpLoop.intro (fun i : Nat => [(2, .ref (.ptr 1 0 0 0)), (3, .ref (.ptr 2 0 0 0)), (5, .i .i64 i)]) (fun i => ⟨[], [((1, 0), .lv true (plS a)), ((2, 0), .lv true (plS b))], 4⟩)
    (fun i => i ≤ 10 ∧ ∀ j, j < i → a.getD j 0 = b.getD j 0) (fun i => 10 - i) 0 ⟨by omega, fun x' h => absurd h (by simp)⟩ ⟨[((1,0),(1,0)), ((2,0),(2,0))], rfl, ?_, ?_⟩ ?_
  · simp [wkEnv, lk, renV, renAt, renTo]
  · simp [wkMem, wkLoc, Mem.get, assoc, renBlk, renSegs, renSg, renTo]
  · rintro i ⟨hi, hp⟩
    by_cases h : (i : Int) < 10
    · have w : IntKind.i64.wrap ((i : Int) + 1) = ((i + 1 : Nat) : Int) := by rw [wrap_i64 (by omega) (by omega)]; omega
      have u : 0 + i * 1 < 10 := by omega
      by_cases e : a.getD (0 + i * 1) 0 = b.getD (0 + i * 1) 0
      · simp only [absE, absL, absF, reduceCtorEq, ↓reduceIte, Nat.reduceEqDiff, Nat.reduceAdd, Nat.reduceLT, Nat.reduceMul, Nat.reduceSub, Nat.reduceLeDiff, Int.reduceLT, Int.reduceLE, Int.reduceEq, Option.isSome_some, implies_true, false_implies, Prod.mk.injEq, ne_eq, not_false_eq_true, not_true_eq_false, ge_iff_le, gt_iff_lt, Int.toNat_natCast, Int.reduceToNat, Int.cast_ofNat_Int, Int.natCast_nonneg, h, u, e]
        refine LoopNext.intro (i + 1) ⟨by omega, fun j hj => ?_⟩ (by omega) ⟨[((1,0),(1,0)), ((2,0),(2,0))], rfl, ?_, ?_⟩
        · by_cases e2 : j = i
          · subst e2; simpa using e
          · exact hp j (by omega)
        · simp [wkEnv, lk, renV, renAt, renTo, w]
        · simp [wkMem, wkLoc, Mem.get, assoc, renBlk, renSegs, renSg, renTo]
      · simp only [absE, absL, absF, reduceCtorEq, ↓reduceIte, Nat.reduceEqDiff, Nat.reduceAdd, Nat.reduceLT, Nat.reduceMul, Nat.reduceSub, Nat.reduceLeDiff, Int.reduceLT, Int.reduceLE, Int.reduceEq, Option.isSome_some, implies_true, false_implies, Prod.mk.injEq, ne_eq, not_false_eq_true, not_true_eq_false, ge_iff_le, gt_iff_lt, Int.toNat_natCast, Int.reduceToNat, Int.cast_ofNat_Int, Int.natCast_nonneg, h, u, e, Try.results78]
        refine fin_false ?_
        exact decide_eq_false fun hab => e (by rw [hab])
    · simp only [absE, absL, absF, reduceCtorEq, ↓reduceIte, Nat.reduceEqDiff, Nat.reduceAdd, Nat.reduceLT, Nat.reduceMul, Nat.reduceSub, Nat.reduceLeDiff, Int.reduceLT, Int.reduceLE, Int.reduceEq, Option.isSome_some, implies_true, false_implies, Prod.mk.injEq, ne_eq, not_false_eq_true, not_true_eq_false, ge_iff_le, gt_iff_lt, Int.toNat_natCast, Int.reduceToNat, Int.cast_ofNat_Int, Int.natCast_nonneg, h, Try.results78]
      exact fin_true (decide_eq_true (ext_getD (by omega) fun j hj => hp j (by omega)))

theorem eqTable_ok (a b : List Int) (ha : a.length = 100) (hb : b.length = 100) : ACalls Try.prog 51 [.agg (tbS a), .agg (tbS b)] [] (fun r ms ns => r = .b (decide (a = b)) ∧ ms = [] ∧ ns = []) := by
  refine acalls_of_body mix Try.func51 rfl fok51 (Nat.le_of_ble_eq_true rfl) ?_
  unfold abody
  simp only [absE, absL, absF, reduceCtorEq, ↓reduceIte, Nat.reduceEqDiff, Nat.reduceAdd, Nat.reduceLT, Nat.reduceMul, Nat.reduceSub, Nat.reduceLeDiff, Int.reduceLT, Int.reduceLE, Int.reduceEq, Option.isSome_some, implies_true, false_implies, Prod.mk.injEq, ne_eq, not_false_eq_true, not_true_eq_false, ge_iff_le, gt_iff_lt, Int.toNat_natCast, Int.reduceToNat, Int.cast_ofNat_Int, Int.natCast_nonneg, Try.f51]
  refine awpLoop.intro (fun i : Nat => [(2, .ref (.ptr 1 0 0 0)), (3, .ref (.ptr 2 0 0 0)), (5, .i .i64 i)]) (fun i => ⟨[], [((1, 0), .lv true (tbS a)), ((2, 0), .lv true (tbS b))], 4⟩)
    (fun i => i ≤ 10 ∧ ∀ j, j < i * 10 → a.getD j 0 = b.getD j 0) (fun i => 10 - i) 0 ⟨by omega, fun x' h => absurd h (by simp)⟩ ⟨[((1,0),(1,0)), ((2,0),(2,0))], rfl, ?_, ?_⟩ ?_
  · simp [wkEnv, lk, renV, renAt, renTo]
  · simp [wkMem, wkLoc, Mem.get, assoc, renBlk, renSegs, renSg, renTo]
  · rintro i ⟨hi, hp⟩
    by_cases h : (i : Int) < 10
    · have w : IntKind.i64.wrap ((i : Int) + 1) = ((i + 1 : Nat) : Int) := by rw [wrap_i64 (by omega) (by omega)]; omega
      have u : 0 + i * 10 + 10 ≤ 100 := by omega
      have la : ((a.drop (0 + i * 10)).take 10).length = 10 := sub_length (by omega)
      have lb : ((b.drop (0 + i * 10)).take 10).length = 10 := sub_length (by omega)
      simp only [absE, absL, absF, reduceCtorEq, ↓reduceIte, Nat.reduceEqDiff, Nat.reduceAdd, Nat.reduceLT, Nat.reduceMul, Nat.reduceSub, Nat.reduceLeDiff, Int.reduceLT, Int.reduceLE, Int.reduceEq, Option.isSome_some, implies_true, false_implies, Prod.mk.injEq, ne_eq, not_false_eq_true, not_true_eq_false, ge_iff_le, gt_iff_lt, Int.toNat_natCast, Int.reduceToNat, Int.cast_ofNat_Int, Int.natCast_nonneg, h, u]
      refine CallsX.none (eqByteA10_ok _ _ la lb) ?_
      by_cases e : (a.drop (0 + i * 10)).take 10 = (b.drop (0 + i * 10)).take 10
      · simp only [absE, absL, absF, reduceCtorEq, ↓reduceIte, Nat.reduceEqDiff, Nat.reduceAdd, Nat.reduceLT, Nat.reduceMul, Nat.reduceSub, Nat.reduceLeDiff, Int.reduceLT, Int.reduceLE, Int.reduceEq, Option.isSome_some, implies_true, false_implies, Prod.mk.injEq, ne_eq, not_false_eq_true, not_true_eq_false, ge_iff_le, gt_iff_lt, Int.toNat_natCast, Int.reduceToNat, Int.cast_ofNat_Int, Int.natCast_nonneg, h, u, e]
        refine LoopNext.intro (i + 1) ⟨by omega, fun j hj => ?_⟩ (by omega) ⟨[((1,0),(1,0)), ((2,0),(2,0))], rfl, ?_, ?_⟩
        · by_cases e2 : j < i * 10
          · exact hp j e2
          · have e3 := congrArg (fun l => l.getD (j - i * 10) 0) e
            simp only [getD_sub] at e3
            rw [if_pos (by omega), if_pos (by omega)] at e3
            have : 0 + i * 10 + (j - i * 10) = j := by omega
            rwa [this] at e3
        · simp [wkEnv, lk, renV, renAt, renTo, w]
        · simp [wkMem, wkLoc, Mem.get, assoc, renBlk, renSegs, renSg, renTo]
      · simp only [absE, absL, absF, reduceCtorEq, ↓reduceIte, Nat.reduceEqDiff, Nat.reduceAdd, Nat.reduceLT, Nat.reduceMul, Nat.reduceSub, Nat.reduceLeDiff, Int.reduceLT, Int.reduceLE, Int.reduceEq, Option.isSome_some, implies_true, false_implies, Prod.mk.injEq, ne_eq, not_false_eq_true, not_true_eq_false, ge_iff_le, gt_iff_lt, Int.toNat_natCast, Int.reduceToNat, Int.cast_ofNat_Int, Int.natCast_nonneg, h, u, e, Try.results51]
        refine fin_false ?_
        exact decide_eq_false fun hab => e (by rw [hab])
    · simp only [absE, absL, absF, reduceCtorEq, ↓reduceIte, Nat.reduceEqDiff, Nat.reduceAdd, Nat.reduceLT, Nat.reduceMul, Nat.reduceSub, Nat.reduceLeDiff, Int.reduceLT, Int.reduceLE, Int.reduceEq, Option.isSome_some, implies_true, false_implies, Prod.mk.injEq, ne_eq, not_false_eq_true, not_true_eq_false, ge_iff_le, gt_iff_lt, Int.toNat_natCast, Int.reduceToNat, Int.cast_ofNat_Int, Int.natCast_nonneg, h, Try.results51]
      exact fin_true (decide_eq_true (ext_getD (by omega) fun j hj => hp j (by omega)))
theorem eqSquare_ok (n m : Int) (a b : List Int) (ha : a.length = 100) (hb : b.length = 100) : ACalls Try.prog 21 [.agg (sqS n a), .agg (sqS m b)] [] (fun r ms ns => r = .b (decide (n = m ∧ a = b)) ∧ ms = [] ∧ ns = []) := by
  refine acalls_of_body mix Try.func21 rfl fok21 (Nat.le_of_ble_eq_true rfl) ?_
  unfold abody
  by_cases h : n = m
  · simp only [absE, absL, absF, reduceCtorEq, ↓reduceIte, Nat.reduceEqDiff, Nat.reduceAdd, Nat.reduceLT, Nat.reduceMul, Nat.reduceSub, Nat.reduceLeDiff, Int.reduceLT, Int.reduceLE, Int.reduceEq, Option.isSome_some, implies_true, false_implies, Prod.mk.injEq, ne_eq, not_false_eq_true, not_true_eq_false, ge_iff_le, gt_iff_lt, Int.toNat_natCast, Int.reduceToNat, Int.cast_ofNat_Int, Int.natCast_nonneg, h, Try.f21]
    refine CallsVia.none (eqTable_ok a b ha hb) ?_
    rintro _ _ _ ⟨rfl, rfl, rfl⟩
    by_cases e : a = b
    · simp only [absE, absL, absF, reduceCtorEq, ↓reduceIte, Nat.reduceEqDiff, Nat.reduceAdd, Nat.reduceLT, Nat.reduceMul, Nat.reduceSub, Nat.reduceLeDiff, Int.reduceLT, Int.reduceLE, Int.reduceEq, Option.isSome_some, implies_true, false_implies, Prod.mk.injEq, ne_eq, not_false_eq_true, not_true_eq_false, ge_iff_le, gt_iff_lt, Int.toNat_natCast, Int.reduceToNat, Int.cast_ofNat_Int, Int.natCast_nonneg, e, Try.results21]
      exact fin_true (decide_eq_true ⟨h, e⟩)
    · simp only [absE, absL, absF, reduceCtorEq, ↓reduceIte, Nat.reduceEqDiff, Nat.reduceAdd, Nat.reduceLT, Nat.reduceMul, Nat.reduceSub, Nat.reduceLeDiff, Int.reduceLT, Int.reduceLE, Int.reduceEq, Option.isSome_some, implies_true, false_implies, Prod.mk.injEq, ne_eq, not_false_eq_true, not_true_eq_false, ge_iff_le, gt_iff_lt, Int.toNat_natCast, Int.reduceToNat, Int.cast_ofNat_Int, Int.natCast_nonneg, e, Try.results21]
      exact fin_false (decide_eq_false fun h => e h.2)
  · simp only [absE, absL, absF, reduceCtorEq, ↓reduceIte, Nat.reduceEqDiff, Nat.reduceAdd, Nat.reduceLT, Nat.reduceMul, Nat.reduceSub, Nat.reduceLeDiff, Int.reduceLT, Int.reduceLE, Int.reduceEq, Option.isSome_some, implies_true, false_implies, Prod.mk.injEq, ne_eq, not_false_eq_true, not_true_eq_false, ge_iff_le, gt_iff_lt, Int.toNat_natCast, Int.reduceToNat, Int.cast_ofNat_Int, Int.natCast_nonneg, h, Try.f21]
    exact fin_false (decide_eq_false fun h' => h h'.1)

theorem l01Perm_ok (p : List Int) (n : Int) (hp : Bytes 10 p) : ACalls Try.prog 88 [.agg (plS p), .i .i64 n] [] (fun r ms ns => r = .b (permB n p) ∧ ms = [] ∧ ns = []) := by
  refine acalls_of_body mix Try.func88 rfl fok88 (Nat.le_of_ble_eq_true rfl) ?_
  unfold abody
  simp only [absE, absL, absF, reduceCtorEq, ↓reduceIte, Nat.reduceEqDiff, Nat.reduceAdd, Nat.reduceLT, Nat.reduceMul, Nat.reduceSub, Nat.reduceLeDiff, Int.reduceLT, Int.reduceLE, Int.reduceEq, Option.isSome_some, implies_true, false_implies, Prod.mk.injEq, ne_eq, not_false_eq_true, not_true_eq_false, ge_iff_le, gt_iff_lt, Int.toNat_natCast, Int.reduceToNat, Int.cast_ofNat_Int, Int.natCast_nonneg, Try.f88]
  refine CallsVia.none (l01In_ok n 1 10) ?_
  rintro _ _ _ ⟨rfl, rfl, rfl⟩
  by_cases hn : 1 ≤ n ∧ n ≤ 10
  · obtain ⟨N, rfl⟩ : ∃ N : Nat, n = N := ⟨n.toNat, by omega⟩
    have hN : N ≤ 10 := by omega
    simp only [absE, absL, absF, reduceCtorEq, ↓reduceIte, Nat.reduceEqDiff, Nat.reduceAdd, Nat.reduceLT, Nat.reduceMul, Nat.reduceSub, Nat.reduceLeDiff, Int.reduceLT, Int.reduceLE, Int.reduceEq, Option.isSome_some, implies_true, false_implies, Prod.mk.injEq, ne_eq, not_false_eq_true, not_true_eq_false, ge_iff_le, gt_iff_lt, Int.toNat_natCast, Int.reduceToNat, Int.cast_ofNat_Int, Int.natCast_nonneg, hn]
    refine awpLoop.intro (fun a : Nat × List Bool => [(1, .i .i64 N), (2, .ref (.ptr 1 0 0 0)), (5, .ref (.ptr 2 0 0 0)), (6, .i .i64 a.1)]) (fun a => ⟨[], [((1, 0), .lv true (plS p)), ((2, 0), .lv true [(0, .bools 10 a.2)])], 3⟩)
      (fun a => a.1 ≤ 10 ∧ a.2.length = 10 ∧ (∀ j, a.2.getD j false = true ↔ ∃ k, k < a.1 ∧ k < N ∧ pl p k = j) ∧ ∀ i, i < a.1 → permAt N (pl p) i) (fun a => 10 - a.1) (0, List.replicate 10 false) ⟨by omega, by simp, fun j => by rw [getD_repf]; exact ⟨fun h => (by cases h), fun ⟨k, h, _⟩ => absurd h (by simp)⟩, fun x' h => absurd h (by simp)⟩ ⟨[((1,0),(1,0)), ((7,0),(2,0))], rfl, ?_, ?_⟩ ?_
    · simp [wkEnv, lk, renV, renAt, renTo]
    · simp [wkMem, wkLoc, Mem.get, assoc, renBlk, renSegs, renSg, renTo]
    · rintro ⟨i, m⟩ ⟨hi, hm, hs, ha⟩
      simp only at hi hm hs ha
      by_cases h : (i : Int) < 10
      · have w : IntKind.i64.wrap ((i : Int) + 1) = ((i + 1 : Nat) : Int) := by rw [wrap_i64 (by omega) (by omega)]; omega
        have k1 : p.getD (0 + i * 1) 0 = (pl p i : Int) := by rw [Nat.zero_add, Nat.mul_one]; exact hp.place i
        have u1 : 0 + i * 1 < 10 := by omega
        have r1 := hp.place_lt i
        have w1 : IntKind.i64.wrap (pl p i : Int) = pl p i := wrap_i64 (by omega) (by omega)
        by_cases hin : i < N
        · have g1 : ¬ (N : Int) ≤ i := by omega
          by_cases hc : pl p i < N
          · have g2 : ¬ (N : Int) ≤ (pl p i : Int) := by omega
            have g3 : (pl p i : Int) < 10 := by omega
            have u2 : 0 + pl p i * 1 < 10 := by omega
            cases hmet : m.getD (0 + pl p i * 1) false
            · simp only [absE, absL, absF, reduceCtorEq, ↓reduceIte, Nat.reduceEqDiff, Nat.reduceAdd, Nat.reduceLT, Nat.reduceMul, Nat.reduceSub, Nat.reduceLeDiff, Int.reduceLT, Int.reduceLE, Int.reduceEq, Option.isSome_some, implies_true, false_implies, Prod.mk.injEq, ne_eq, not_false_eq_true, not_true_eq_false, ge_iff_le, gt_iff_lt, Int.toNat_natCast, Int.reduceToNat, Int.cast_ofNat_Int, Int.natCast_nonneg, h, g1, g2, g3, u1, u2, k1, w1, hmet]
              refine ⟨by omega, LoopNext.intro (i + 1, m.set (0 + pl p i * 1) true) ⟨by simp only; omega, by simpa using hm, fun j => ?_, fun j hj => ?_⟩ (by simp only; omega) ⟨[((1,0),(1,0)), ((2,0),(2,0))], rfl, ?_, ?_⟩⟩
              · simp only
                rw [getD_setb (by omega)]
                split
                · rename_i e
                  exact ⟨fun _ => ⟨i, by omega, hin, by omega⟩, fun _ => rfl⟩
                · rename_i e
                  rw [hs]
                  refine ⟨fun ⟨k, h1, h2⟩ => ⟨k, by omega, h2⟩, fun ⟨k, h1, h2, h3⟩ => ⟨k, ?_, h2, h3⟩⟩
                  have : k ≠ i := fun e2 => by subst e2; omega
                  omega
              · by_cases e : j = i
                · subst e
                  unfold permAt
                  rw [if_pos hin]
                  refine ⟨hc, fun k hk e => ?_⟩
                  have := (hs (pl p j)).2 ⟨k, hk, by omega, e⟩
                  rw [show pl p j = 0 + pl p j * 1 by omega, hmet] at this
                  cases this
                · exact ha j (by simp only at hj; omega)
              · simp [wkEnv, lk, renV, renAt, renTo, w]
              · simp [wkMem, wkLoc, Mem.get, assoc, renBlk, renSegs, renSg, renTo]
            · simp only [absE, absL, absF, reduceCtorEq, ↓reduceIte, Nat.reduceEqDiff, Nat.reduceAdd, Nat.reduceLT, Nat.reduceMul, Nat.reduceSub, Nat.reduceLeDiff, Int.reduceLT, Int.reduceLE, Int.reduceEq, Option.isSome_some, implies_true, false_implies, Prod.mk.injEq, ne_eq, not_false_eq_true, not_true_eq_false, ge_iff_le, gt_iff_lt, Int.toNat_natCast, Int.reduceToNat, Int.cast_ofNat_Int, Int.natCast_nonneg, h, g1, g2, g3, u1, u2, k1, w1, hmet, Try.results88]
              refine fin_false (permB_false fun hq => ?_)
              obtain ⟨k, hk, hkn, e⟩ := (hs (pl p i)).1 (by simpa using hmet)
              have := hq.2.2 i (by omega)
              unfold permAt at this
              rw [if_pos (by omega)] at this
              exact this.2 k hk e
          · have g2 : (N : Int) ≤ (pl p i : Int) := by omega
            simp only [absE, absL, absF, reduceCtorEq, ↓reduceIte, Nat.reduceEqDiff, Nat.reduceAdd, Nat.reduceLT, Nat.reduceMul, Nat.reduceSub, Nat.reduceLeDiff, Int.reduceLT, Int.reduceLE, Int.reduceEq, Option.isSome_some, implies_true, false_implies, Prod.mk.injEq, ne_eq, not_false_eq_true, not_true_eq_false, ge_iff_le, gt_iff_lt, Int.toNat_natCast, Int.reduceToNat, Int.cast_ofNat_Int, Int.natCast_nonneg, h, g1, g2, u1, k1, w1, Try.results88]
            refine fin_false (permB_false fun hq => ?_)
            have := hq.2.2 i (by omega)
            unfold permAt at this
            rw [if_pos (by omega)] at this
            exact hc this.1
        · have g1 : (N : Int) ≤ i := by omega
          by_cases hc : pl p i = 0
          · have g2 : (pl p i : Int) = 0 := by omega
            simp only [absE, absL, absF, reduceCtorEq, ↓reduceIte, Nat.reduceEqDiff, Nat.reduceAdd, Nat.reduceLT, Nat.reduceMul, Nat.reduceSub, Nat.reduceLeDiff, Int.reduceLT, Int.reduceLE, Int.reduceEq, Option.isSome_some, implies_true, false_implies, Prod.mk.injEq, ne_eq, not_false_eq_true, not_true_eq_false, ge_iff_le, gt_iff_lt, Int.toNat_natCast, Int.reduceToNat, Int.cast_ofNat_Int, Int.natCast_nonneg, h, g1, g2, u1, k1]
            refine LoopNext.intro (i + 1, m) ⟨by simp only; omega, by simpa using hm, fun j => ?_, fun j hj => ?_⟩ (by simp only; omega) ⟨[((1,0),(1,0)), ((2,0),(2,0))], rfl, ?_, ?_⟩
            · simp only
              rw [hs]
              refine ⟨fun ⟨k, h1, h2⟩ => ⟨k, by omega, h2⟩, fun ⟨k, h1, h2, h3⟩ => ⟨k, ?_, h2, h3⟩⟩
              omega
            · by_cases e : j = i
              · subst e
                unfold permAt
                rw [if_neg hin]; exact hc
              · exact ha j (by simp only at hj; omega)
            · simp [wkEnv, lk, renV, renAt, renTo, w]
            · simp [wkMem, wkLoc, Mem.get, assoc, renBlk, renSegs, renSg, renTo]
          · have g2 : ¬ (pl p i : Int) = 0 := by omega
            simp only [absE, absL, absF, reduceCtorEq, ↓reduceIte, Nat.reduceEqDiff, Nat.reduceAdd, Nat.reduceLT, Nat.reduceMul, Nat.reduceSub, Nat.reduceLeDiff, Int.reduceLT, Int.reduceLE, Int.reduceEq, Option.isSome_some, implies_true, false_implies, Prod.mk.injEq, ne_eq, not_false_eq_true, not_true_eq_false, ge_iff_le, gt_iff_lt, Int.toNat_natCast, Int.reduceToNat, Int.cast_ofNat_Int, Int.natCast_nonneg, h, g1, g2, u1, k1, Try.results88]
            refine fin_false (permB_false fun hq => ?_)
            have := hq.2.2 i (by omega)
            unfold permAt at this
            rw [if_neg (by omega)] at this
            exact hc this
      · simp only [absE, absL, absF, reduceCtorEq, ↓reduceIte, Nat.reduceEqDiff, Nat.reduceAdd, Nat.reduceLT, Nat.reduceMul, Nat.reduceSub, Nat.reduceLeDiff, Int.reduceLT, Int.reduceLE, Int.reduceEq, Option.isSome_some, implies_true, false_implies, Prod.mk.injEq, ne_eq, not_false_eq_true, not_true_eq_false, ge_iff_le, gt_iff_lt, Int.toNat_natCast, Int.reduceToNat, Int.cast_ofNat_Int, Int.natCast_nonneg, h, Try.results88]
        exact fin_true (permB_true ⟨hn.1, hn.2, fun j hj => ha j (by omega)⟩)
  · simp only [absE, absL, absF, reduceCtorEq, ↓reduceIte, Nat.reduceEqDiff, Nat.reduceAdd, Nat.reduceLT, Nat.reduceMul, Nat.reduceSub, Nat.reduceLeDiff, Int.reduceLT, Int.reduceLE, Int.reduceEq, Option.isSome_some, implies_true, false_implies, Prod.mk.injEq, ne_eq, not_false_eq_true, not_true_eq_false, ge_iff_le, gt_iff_lt, Int.toNat_natCast, Int.reduceToNat, Int.cast_ofNat_Int, Int.natCast_nonneg, hn, Try.results88]
    exact fin_false (permB_false fun h => hn ⟨h.1, h.2.1⟩)

def turned (t : List Int) : List Int := (List.range 100).map fun k => t.getD (k % 10 * 10 + k / 10) 0
theorem turned_getD {t : List Int} {a b : Nat} (ha : a < 10) (hb : b < 10) : (turned t).getD (b * 10 + a) 0 = t.getD (a * 10 + b) 0 := by
  have h1 : b * 10 + a < 100 := by omega
  have h2 : (b * 10 + a) % 10 = a := by omega
  have h3 : (b * 10 + a) / 10 = b := by omega
  simp [turned, h1, h2, h3, List.getD_eq_getElem?_getD]

theorem l01Turned_ok (t : List Int) (ht : t.length = 100) : ACalls Try.prog 70 [.agg (tbS t)] [] (fun r ms ns => r = .agg (tbS (turned t)) ∧ ms = [] ∧ ns = []) := by
  refine acalls_of_body mix Try.func70 rfl fok70 (Nat.le_of_ble_eq_true rfl) ?_
  unfold abody
  simp only [absE, absL, absF, reduceCtorEq, ↓reduceIte, Nat.reduceEqDiff, Nat.reduceAdd, Nat.reduceLT, Nat.reduceMul, Nat.reduceSub, Nat.reduceLeDiff, Int.reduceLT, Int.reduceLE, Int.reduceEq, Option.isSome_some, implies_true, false_implies, Prod.mk.injEq, ne_eq, not_false_eq_true, not_true_eq_false, ge_iff_le, gt_iff_lt, Int.toNat_natCast, Int.reduceToNat, Int.cast_ofNat_Int, Int.natCast_nonneg, Try.f70]
  refine awpLoop.intro (fun a : Nat × List Int => [(1, .ref (.ptr 1 0 0 0)), (2, .ref (.ptr 2 0 0 0)), (3, .ref (.ptr 4 0 0 0)), (4, .i .i64 a.1)]) (fun a => ⟨[], [((1, 0), .lv true (tbS t)), ((2, 0), .lv true (tbS (List.replicate 100 0))), ((4, 0), .lv true (tbS a.2))], 5⟩)
    (fun a => a.1 ≤ 10 ∧ a.2.length = 100 ∧ ∀ x y, x < 10 → y < 10 → x < a.1 → a.2.getD (y * 10 + x) 0 = t.getD (x * 10 + y) 0) (fun a => 10 - a.1) (0, List.replicate 100 0) ⟨by omega, by simp, fun x y _ _ h => absurd h (by simp)⟩ ⟨[((1,0),(1,0)), ((2,0),(2,0)), ((4,0),(4,0))], rfl, ?_, ?_⟩ ?_
  · simp [wkEnv, lk, renV, renAt, renTo]
  · simp [wkMem, wkLoc, Mem.get, assoc, renBlk, renSegs, renSg, renTo]
  · rintro ⟨i, o⟩ ⟨hi, ho, hp⟩
    simp only at hi ho hp
    by_cases h : (i : Int) < 10
    · have w : IntKind.i64.wrap ((i : Int) + 1) = ((i + 1 : Nat) : Int) := by rw [wrap_i64 (by omega) (by omega)]; omega
      simp only [absE, absL, absF, reduceCtorEq, ↓reduceIte, Nat.reduceEqDiff, Nat.reduceAdd, Nat.reduceLT, Nat.reduceMul, Nat.reduceSub, Nat.reduceLeDiff, Int.reduceLT, Int.reduceLE, Int.reduceEq, Option.isSome_some, implies_true, false_implies, Prod.mk.injEq, ne_eq, not_false_eq_true, not_true_eq_false, ge_iff_le, gt_iff_lt, Int.toNat_natCast, Int.reduceToNat, Int.cast_ofNat_Int, Int.natCast_nonneg, h]
      refine awpLoop.intro (fun a : Nat × List Int => [(1, .ref (.ptr 1 0 0 0)), (2, .ref (.ptr 2 0 0 0)), (3, .ref (.ptr 4 0 0 0)), (4, .i .i64 i), (5, .i .i64 a.1)]) (fun a => ⟨[], [((1, 0), .lv true (tbS t)), ((2, 0), .lv true (tbS (List.replicate 100 0))), ((4, 0), .lv true (tbS a.2))], 5⟩)
        (fun a => a.1 ≤ 10 ∧ a.2.length = 100 ∧ ∀ x y, x < 10 → y < 10 → (x < i ∨ x = i ∧ y < a.1) → a.2.getD (y * 10 + x) 0 = t.getD (x * 10 + y) 0) (fun a => 10 - a.1) (0, o) ⟨by omega, by simpa using ho, fun x y h1 h2 h => hp x y h1 h2 (by simp only at h; omega)⟩ ⟨[((1,0),(1,0)), ((2,0),(2,0)), ((4,0),(4,0))], rfl, ?_, ?_⟩ ?_
      · simp [wkEnv, lk, renV, renAt, renTo]
      · simp [wkMem, wkLoc, Mem.get, assoc, renBlk, renSegs, renSg, renTo]
      · rintro ⟨j, o⟩ ⟨hj, ho, hp⟩
        simp only at hj ho hp
        by_cases h' : (j : Int) < 10
        · have w' : IntKind.i64.wrap ((j : Int) + 1) = ((j + 1 : Nat) : Int) := by rw [wrap_i64 (by omega) (by omega)]; omega
          have u1 : 0 + i * 10 + j * 1 < 100 := by omega
          have u2 : 0 + j * 10 + i * 1 + 1 ≤ 100 := by omega
          simp only [absE, absL, absF, reduceCtorEq, ↓reduceIte, Nat.reduceEqDiff, Nat.reduceAdd, Nat.reduceLT, Nat.reduceMul, Nat.reduceSub, Nat.reduceLeDiff, Int.reduceLT, Int.reduceLE, Int.reduceEq, Option.isSome_some, implies_true, false_implies, Prod.mk.injEq, ne_eq, not_false_eq_true, not_true_eq_false, ge_iff_le, gt_iff_lt, Int.toNat_natCast, Int.reduceToNat, Int.cast_ofNat_Int, Int.natCast_nonneg, h, h', u1, u2]
          refine LoopNext.intro (j + 1, o.set (0 + j * 10 + i * 1) (t.getD (0 + i * 10 + j * 1) 0)) ⟨by simp only; omega, by simpa using ho, fun x y hx hy hc => ?_⟩ (by simp only; omega) ⟨[((1,0),(1,0)), ((2,0),(2,0)), ((4,0),(4,0))], rfl, ?_, ?_⟩
          · simp only
            rw [getD_set_int (by omega)]
            split
            · rename_i e
              have e1 : x = i := by omega
              have e2 : y = j := by omega
              subst e1; subst e2
              congr 1; omega
            · rename_i e
              exact hp x y hx hy (by simp only at hc; omega)
          · simp [wkEnv, lk, renV, renAt, renTo, w']
          · simp [wkMem, wkLoc, Mem.get, assoc, renBlk, renSegs, renSg, renTo]
        · simp only [absE, absL, absF, reduceCtorEq, ↓reduceIte, Nat.reduceEqDiff, Nat.reduceAdd, Nat.reduceLT, Nat.reduceMul, Nat.reduceSub, Nat.reduceLeDiff, Int.reduceLT, Int.reduceLE, Int.reduceEq, Option.isSome_some, implies_true, false_implies, Prod.mk.injEq, ne_eq, not_false_eq_true, not_true_eq_false, ge_iff_le, gt_iff_lt, Int.toNat_natCast, Int.reduceToNat, Int.cast_ofNat_Int, Int.natCast_nonneg, h, h']
          refine LoopNext.intro (i + 1, o) ⟨by simp only; omega, by simpa using ho, fun x y hx hy hc => hp x y hx hy (by simp only at hc; omega)⟩ (by simp only; omega) ⟨[((1,0),(1,0)), ((2,0),(2,0)), ((4,0),(4,0))], rfl, ?_, ?_⟩
          · simp [wkEnv, lk, renV, renAt, renTo, w]
          · simp [wkMem, wkLoc, Mem.get, assoc, renBlk, renSegs, renSg, renTo]
    · simp only [absE, absL, absF, reduceCtorEq, ↓reduceIte, Nat.reduceEqDiff, Nat.reduceAdd, Nat.reduceLT, Nat.reduceMul, Nat.reduceSub, Nat.reduceLeDiff, Int.reduceLT, Int.reduceLE, Int.reduceEq, Option.isSome_some, implies_true, false_implies, Prod.mk.injEq, ne_eq, not_false_eq_true, not_true_eq_false, ge_iff_le, gt_iff_lt, Int.toNat_natCast, Int.reduceToNat, Int.cast_ofNat_Int, Int.natCast_nonneg, h, Try.results70]
      have : o = turned t := ext_getD (by simp [turned, ho]) fun j hj => by
        have h1 := hp (j % 10) (j / 10) (by omega) (by omega) (by omega)
        have h2 := turned_getD (t := t) (a := j % 10) (b := j / 10) (by omega) (by omega)
        have h3 : j / 10 * 10 + j % 10 = j := by omega
        rw [h3] at h1 h2
        rw [h1, h2]
      subst this
      exact ⟨[], by simp, by simp, by simp [renV, renSegs, renSg]⟩

/-- What the rows' test answers. -/
def RowsP (n : Int) (t : List Int) : Prop := ∀ i : Nat, i < 10 → if (i : Int) < n then PermP n ((t.drop (i * 10)).take 10) else (t.drop (i * 10)).take 10 = List.replicate 10 0
open Classical in
noncomputable def rowsB (n : Int) (t : List Int) : Bool := decide (RowsP n t)
theorem rowsB_true {n : Int} {t : List Int} (h : RowsP n t) : rowsB n t = true := by unfold rowsB; exact @decide_eq_true _ (_) h
theorem rowsB_false {n : Int} {t : List Int} (h : ¬RowsP n t) : rowsB n t = false := by unfold rowsB; exact @decide_eq_false _ (_) h
theorem rowsB_iff {n : Int} {t : List Int} : rowsB n t = true ↔ RowsP n t := by unfold rowsB; exact @decide_eq_true_iff _ (_)
theorem bytes_row {t : List Int} (h : Bytes 100 t) {off : Nat} (ho : off + 10 ≤ 100) : Bytes 10 ((t.drop off).take 10) :=
  ⟨sub_length (by have := h.len; omega), fun i => by rw [getD_sub]; split; exact h.rng _; omega⟩

theorem l01Rows_ok (t : List Int) (n : Int) (ht : Bytes 100 t) : ACalls Try.prog 69 [.agg (tbS t), .i .i64 n] [] (fun r ms ns => r = .b (rowsB n t) ∧ ms = [] ∧ ns = []) := by
  refine acalls_of_body mix Try.func69 rfl fok69 (Nat.le_of_ble_eq_true rfl) ?_
  unfold abody
  simp only [absE, absL, absF, reduceCtorEq, ↓reduceIte, Nat.reduceEqDiff, Nat.reduceAdd, Nat.reduceLT, Nat.reduceMul, Nat.reduceSub, Nat.reduceLeDiff, Int.reduceLT, Int.reduceLE, Int.reduceEq, Option.isSome_some, implies_true, false_implies, Prod.mk.injEq, ne_eq, not_false_eq_true, not_true_eq_false, ge_iff_le, gt_iff_lt, Int.toNat_natCast, Int.reduceToNat, Int.cast_ofNat_Int, Int.natCast_nonneg, Try.f69]
  refine awpLoop.intro (fun i : Nat => [(1, .i .i64 n), (2, .ref (.ptr 1 0 0 0)), (5, .i .i64 i)]) (fun i => ⟨[], [((1, 0), .lv true (tbS t))], 2⟩)
    (fun i => i ≤ 10 ∧ ∀ j, j < i → if (j : Int) < n then PermP n ((t.drop (j * 10)).take 10) else (t.drop (j * 10)).take 10 = List.replicate 10 0) (fun i => 10 - i) 0 ⟨by omega, fun x h => absurd h (by simp)⟩ ⟨[((1,0),(1,0))], rfl, ?_, ?_⟩ ?_
  · simp [wkEnv, lk, renV, renAt, renTo]
  · simp [wkMem, wkLoc, Mem.get, assoc, renBlk, renSegs, renSg, renTo]
  · rintro i ⟨hi, hp⟩
    by_cases h : (i : Int) < 10
    · have w : IntKind.i64.wrap ((i : Int) + 1) = ((i + 1 : Nat) : Int) := by rw [wrap_i64 (by omega) (by omega)]; omega
      have u1 : 0 + i * 10 + 10 ≤ 100 := by omega
      by_cases hin : (i : Int) < n
      · have g1 : ¬ n ≤ (i : Int) := by omega
        simp only [absE, absL, absF, reduceCtorEq, ↓reduceIte, Nat.reduceEqDiff, Nat.reduceAdd, Nat.reduceLT, Nat.reduceMul, Nat.reduceSub, Nat.reduceLeDiff, Int.reduceLT, Int.reduceLE, Int.reduceEq, Option.isSome_some, implies_true, false_implies, Prod.mk.injEq, ne_eq, not_false_eq_true, not_true_eq_false, ge_iff_le, gt_iff_lt, Int.toNat_natCast, Int.reduceToNat, Int.cast_ofNat_Int, Int.natCast_nonneg, h, hin, u1]
        refine CallsVia.none (l01Perm_ok _ n (bytes_row ht (by omega))) ?_
        rintro _ _ _ ⟨rfl, rfl, rfl⟩
        cases hb : permB n ((t.drop (0 + i * 10)).take 10)
        · simp only [absE, absL, absF, reduceCtorEq, ↓reduceIte, Nat.reduceEqDiff, Nat.reduceAdd, Nat.reduceLT, Nat.reduceMul, Nat.reduceSub, Nat.reduceLeDiff, Int.reduceLT, Int.reduceLE, Int.reduceEq, Option.isSome_some, implies_true, false_implies, Prod.mk.injEq, ne_eq, not_false_eq_true, not_true_eq_false, ge_iff_le, gt_iff_lt, Int.toNat_natCast, Int.reduceToNat, Int.cast_ofNat_Int, Int.natCast_nonneg, h, hin, u1, hb, g1, Try.results69]
          refine fin_false (rowsB_false fun hr => ?_)
          have := hr i (by omega)
          rw [if_pos hin] at this
          rw [Nat.zero_add, permB_true this] at hb
          cases hb
        · simp only [absE, absL, absF, reduceCtorEq, ↓reduceIte, Nat.reduceEqDiff, Nat.reduceAdd, Nat.reduceLT, Nat.reduceMul, Nat.reduceSub, Nat.reduceLeDiff, Int.reduceLT, Int.reduceLE, Int.reduceEq, Option.isSome_some, implies_true, false_implies, Prod.mk.injEq, ne_eq, not_false_eq_true, not_true_eq_false, ge_iff_le, gt_iff_lt, Int.toNat_natCast, Int.reduceToNat, Int.cast_ofNat_Int, Int.natCast_nonneg, h, hin, u1, hb, g1, Try.results69]
          refine LoopNext.intro (i + 1) ⟨by omega, fun j hj => ?_⟩ (by omega) ⟨[((1,0),(1,0))], rfl, ?_, ?_⟩
          · by_cases e : j = i
            · subst e
              rw [if_pos hin]
              rw [Nat.zero_add] at hb
              exact permB_iff.1 hb
            · exact hp j (by omega)
          · simp [wkEnv, lk, renV, renAt, renTo, w]
          · simp [wkMem, wkLoc, Mem.get, assoc, renBlk, renSegs, renSg, renTo]
      · have g1 : n ≤ (i : Int) := by omega
        by_cases e : (t.drop (0 + i * 10)).take 10 = List.replicate 10 0
        · simp only [absE, absL, absF, reduceCtorEq, ↓reduceIte, Nat.reduceEqDiff, Nat.reduceAdd, Nat.reduceLT, Nat.reduceMul, Nat.reduceSub, Nat.reduceLeDiff, Int.reduceLT, Int.reduceLE, Int.reduceEq, Option.isSome_some, implies_true, false_implies, Prod.mk.injEq, ne_eq, not_false_eq_true, not_true_eq_false, ge_iff_le, gt_iff_lt, Int.toNat_natCast, Int.reduceToNat, Int.cast_ofNat_Int, Int.natCast_nonneg, h, hin, u1, g1, e, Try.results69]
          refine LoopNext.intro (i + 1) ⟨by omega, fun j hj => ?_⟩ (by omega) ⟨[((1,0),(1,0))], rfl, ?_, ?_⟩
          · by_cases e2 : j = i
            · subst e2
              rw [if_neg hin]
              rw [Nat.zero_add] at e
              exact e
            · exact hp j (by omega)
          · simp [wkEnv, lk, renV, renAt, renTo, w]
          · simp [wkMem, wkLoc, Mem.get, assoc, renBlk, renSegs, renSg, renTo]
        · simp only [absE, absL, absF, reduceCtorEq, ↓reduceIte, Nat.reduceEqDiff, Nat.reduceAdd, Nat.reduceLT, Nat.reduceMul, Nat.reduceSub, Nat.reduceLeDiff, Int.reduceLT, Int.reduceLE, Int.reduceEq, Option.isSome_some, implies_true, false_implies, Prod.mk.injEq, ne_eq, not_false_eq_true, not_true_eq_false, ge_iff_le, gt_iff_lt, Int.toNat_natCast, Int.reduceToNat, Int.cast_ofNat_Int, Int.natCast_nonneg, h, hin, u1, g1, e, Try.results69]
          refine fin_false (rowsB_false fun hr => ?_)
          have := hr i (by omega)
          rw [if_neg hin] at this
          rw [Nat.zero_add] at e
          exact e this
    · simp only [absE, absL, absF, reduceCtorEq, ↓reduceIte, Nat.reduceEqDiff, Nat.reduceAdd, Nat.reduceLT, Nat.reduceMul, Nat.reduceSub, Nat.reduceLeDiff, Int.reduceLT, Int.reduceLE, Int.reduceEq, Option.isSome_some, implies_true, false_implies, Prod.mk.injEq, ne_eq, not_false_eq_true, not_true_eq_false, ge_iff_le, gt_iff_lt, Int.toNat_natCast, Int.reduceToNat, Int.cast_ofNat_Int, Int.natCast_nonneg, h, Try.results69]
      exact fin_true (rowsB_true fun j hj => hp j (by omega))

theorem bytes_turned {t : List Int} (h : Bytes 100 t) : Bytes 100 (turned t) :=
  ⟨by simp [turned], fun i => by
    by_cases hi : i < 100
    · have := turned_getD (t := t) (a := i % 10) (b := i / 10) (by omega) (by omega)
      rw [show i / 10 * 10 + i % 10 = i by omega] at this
      rw [this]; exact h.rng _
    · have : (turned t).getD i 0 = 0 := by simp [turned, hi]
      rw [this]; omega⟩
theorem cl_turned {t : List Int} {a b : Nat} (ha : a < 10) (hb : b < 10) : cl (turned t) b a = cl t a b := by unfold cl; rw [turned_getD ha hb]
theorem pl_row {t : List Int} {x j : Nat} (hj : j < 10) : pl ((t.drop (x * 10)).take 10) j = cl t x j := by
  unfold pl cl; rw [getD_sub, if_pos hj]
theorem PermF_congr {N : Nat} {f g : Nat → Nat} (h : ∀ i, i < 10 → f i = g i) : PermF N f ↔ PermF N g := by
  have key : ∀ {f g : Nat → Nat}, (∀ i, i < 10 → f i = g i) → PermF N f → PermF N g := fun h hp i hi => by
    have := hp i hi
    unfold permAt at this ⊢
    rw [← h i hi]
    split
    · rename_i hc
      rw [if_pos hc] at this
      exact ⟨this.1, fun j hj => by rw [← h j (by omega)]; exact this.2 j hj⟩
    · rename_i hc
      rw [if_neg hc] at this; exact this
  exact ⟨key h, key fun i hi => (h i hi).symm⟩
theorem PermP_row {n : Int} {t : List Int} {x : Nat} : PermP n ((t.drop (x * 10)).take 10) ↔ 1 ≤ n ∧ n ≤ 10 ∧ PermF n.toNat (cl t x) := by
  unfold PermP
  rw [PermF_congr (N := n.toNat) fun i hi => pl_row (t := t) (x := x) hi]
theorem row_zero {t : List Int} {x : Nat} (ht : Bytes 100 t) (hx : x < 10) : (t.drop (x * 10)).take 10 = List.replicate 10 0 ↔ ∀ y, y < 10 → cl t x y = 0 := by
  have hl := ht.len
  constructor
  · intro h y hy
    have := congrArg (fun l => pl l y) h
    simp only [pl_row hy] at this
    rw [this]; unfold pl; rw [getD_rep0]; rfl
  · intro h
    refine ext_getD (by rw [sub_length (by omega)]; simp) fun i hi => ?_
    rw [sub_length (by omega)] at hi
    rw [getD_sub, if_pos hi, getD_rep0, ht.cell x i, h i hi]; rfl

theorem sq_rows {n : Int} {t : List Int} (ht : Bytes 100 t) : SqP n t ↔ (1 ≤ n ∧ n ≤ 10) ∧ RowsP n t ∧ RowsP n (turned t) := by
  rw [SqP_iff]
  constructor
  · rintro ⟨h1, h2, h3, h4⟩
    refine ⟨⟨h1, h2⟩, fun i hi => ?_, fun i hi => ?_⟩
    · split
      · rename_i hc
        exact PermP_row.2 ⟨h1, h2, (h3 i (by omega)).1⟩
      · rename_i hc
        exact (row_zero ht hi).2 fun y hy => (h4 i hi (by omega) y hy).1
    · split
      · rename_i hc
        exact PermP_row.2 ⟨h1, h2, (PermF_congr fun j hj => cl_turned hj hi).2 (h3 i (by omega)).2⟩
      · rename_i hc
        exact (row_zero (bytes_turned ht) hi).2 fun y hy => by rw [cl_turned hy hi]; exact (h4 i hi (by omega) y hy).2
  · rintro ⟨⟨h1, h2⟩, h3, h4⟩
    refine ⟨h1, h2, fun x hx => ⟨?_, ?_⟩, fun x hx hn y hy => ⟨?_, ?_⟩⟩
    · have := h3 x (by omega)
      rw [if_pos (by omega)] at this
      exact (PermP_row.1 this).2.2
    · have := h4 x (by omega)
      rw [if_pos (by omega)] at this
      exact (PermF_congr fun j hj => cl_turned hj (by omega)).1 (PermP_row.1 this).2.2
    · have := h3 x (by omega)
      rw [if_neg (by omega)] at this
      exact (row_zero ht hx).1 this y hy
    · have := h4 x (by omega)
      rw [if_neg (by omega)] at this
      rw [← cl_turned hy hx]; exact (row_zero (bytes_turned ht) hx).1 this y hy

theorem sqB_rows {n : Int} {t : List Int} (ht : Bytes 100 t) : sqB n t = (decide (1 ≤ n ∧ n ≤ 10) && rowsB n t && rowsB n (turned t)) := by
  rw [Bool.eq_iff_iff, sqB_iff, sq_rows ht]
  simp only [Bool.and_eq_true, decide_eq_true_eq, rowsB_iff, and_assoc]

theorem l01Is_ok (n : Int) (t : List Int) (ht : Bytes 100 t) : ACalls Try.prog 40 [.agg (sqS n t)] [] (fun r ms ns => r = .b (sqB n t) ∧ ms = [] ∧ ns = []) := by
  rw [sqB_rows ht]
  refine acalls_of_body mix Try.func40 rfl fok40 (Nat.le_of_ble_eq_true rfl) ?_
  unfold abody
  simp only [absE, absL, absF, reduceCtorEq, ↓reduceIte, Nat.reduceEqDiff, Nat.reduceAdd, Nat.reduceLT, Nat.reduceMul, Nat.reduceSub, Nat.reduceLeDiff, Int.reduceLT, Int.reduceLE, Int.reduceEq, Option.isSome_some, implies_true, false_implies, Prod.mk.injEq, ne_eq, not_false_eq_true, not_true_eq_false, ge_iff_le, gt_iff_lt, Int.toNat_natCast, Int.reduceToNat, Int.cast_ofNat_Int, Int.natCast_nonneg, Try.f40]
  refine CallsX.none (l01In_ok n 1 10) ?_
  by_cases hn : 1 ≤ n ∧ n ≤ 10
  · simp only [absE, absL, absF, reduceCtorEq, ↓reduceIte, Nat.reduceEqDiff, Nat.reduceAdd, Nat.reduceLT, Nat.reduceMul, Nat.reduceSub, Nat.reduceLeDiff, Int.reduceLT, Int.reduceLE, Int.reduceEq, Option.isSome_some, implies_true, false_implies, Prod.mk.injEq, ne_eq, not_false_eq_true, not_true_eq_false, ge_iff_le, gt_iff_lt, Int.toNat_natCast, Int.reduceToNat, Int.cast_ofNat_Int, Int.natCast_nonneg, hn]
    refine CallsX.none (l01Rows_ok t n ht) ?_
    cases hr : rowsB n t
    · simp only [absE, absL, absF, reduceCtorEq, ↓reduceIte, Nat.reduceEqDiff, Nat.reduceAdd, Nat.reduceLT, Nat.reduceMul, Nat.reduceSub, Nat.reduceLeDiff, Int.reduceLT, Int.reduceLE, Int.reduceEq, Option.isSome_some, implies_true, false_implies, Prod.mk.injEq, ne_eq, not_false_eq_true, not_true_eq_false, ge_iff_le, gt_iff_lt, Int.toNat_natCast, Int.reduceToNat, Int.cast_ofNat_Int, Int.natCast_nonneg, Try.results40]
      exact fin_false (by simp [hn])
    · simp only [absE, absL, absF, reduceCtorEq, ↓reduceIte, Nat.reduceEqDiff, Nat.reduceAdd, Nat.reduceLT, Nat.reduceMul, Nat.reduceSub, Nat.reduceLeDiff, Int.reduceLT, Int.reduceLE, Int.reduceEq, Option.isSome_some, implies_true, false_implies, Prod.mk.injEq, ne_eq, not_false_eq_true, not_true_eq_false, ge_iff_le, gt_iff_lt, Int.toNat_natCast, Int.reduceToNat, Int.cast_ofNat_Int, Int.natCast_nonneg]
      refine CallsX.none (l01Turned_ok t ht.len) ?_
      simp only [absE, absL, absF, reduceCtorEq, ↓reduceIte, Nat.reduceEqDiff, Nat.reduceAdd, Nat.reduceLT, Nat.reduceMul, Nat.reduceSub, Nat.reduceLeDiff, Int.reduceLT, Int.reduceLE, Int.reduceEq, Option.isSome_some, implies_true, false_implies, Prod.mk.injEq, ne_eq, not_false_eq_true, not_true_eq_false, ge_iff_le, gt_iff_lt, Int.toNat_natCast, Int.reduceToNat, Int.cast_ofNat_Int, Int.natCast_nonneg]
      refine CallsX.none (l01Rows_ok (turned t) n (bytes_turned ht)) ?_
      simp only [absE, absL, absF, reduceCtorEq, ↓reduceIte, Nat.reduceEqDiff, Nat.reduceAdd, Nat.reduceLT, Nat.reduceMul, Nat.reduceSub, Nat.reduceLeDiff, Int.reduceLT, Int.reduceLE, Int.reduceEq, Option.isSome_some, implies_true, false_implies, Prod.mk.injEq, ne_eq, not_false_eq_true, not_true_eq_false, ge_iff_le, gt_iff_lt, Int.toNat_natCast, Int.reduceToNat, Int.cast_ofNat_Int, Int.natCast_nonneg, Try.results40]
      exact fin_b (by simp [hn]) rfl
  · simp only [absE, absL, absF, reduceCtorEq, ↓reduceIte, Nat.reduceEqDiff, Nat.reduceAdd, Nat.reduceLT, Nat.reduceMul, Nat.reduceSub, Nat.reduceLeDiff, Int.reduceLT, Int.reduceLE, Int.reduceEq, Option.isSome_some, implies_true, false_implies, Prod.mk.injEq, ne_eq, not_false_eq_true, not_true_eq_false, ge_iff_le, gt_iff_lt, Int.toNat_natCast, Int.reduceToNat, Int.cast_ofNat_Int, Int.natCast_nonneg, hn, Try.results40]
    exact fin_false (by simp [hn])

def isoIn (t p q r : List Int) (x : Nat) (o : List Int) : Nat → List Int
  | 0 => o
  | y + 1 => (isoIn t p q r x o y).set (0 + pl p x * 10 + pl q y * 1) (r.getD (0 + cl t x y * 1) 0)
def isoT (N : Nat) (t p q r : List Int) : Nat → List Int
  | 0 => List.replicate 100 0
  | x + 1 => isoIn t p q r x (isoT N t p q r x) N
theorem isoIn_len {t p q r : List Int} {x : Nat} {o : List Int} : ∀ y, (isoIn t p q r x o y).length = o.length
  | 0 => rfl
  | y + 1 => by simp [isoIn, isoIn_len y]
theorem isoT_len {N : Nat} {t p q r : List Int} : ∀ x, (isoT N t p q r x).length = 100
  | 0 => by simp [isoT]
  | x + 1 => by simp [isoT, isoIn_len, isoT_len x]

theorem permP_lt {n : Int} {p : List Int} (h : PermP n p) {i : Nat} (hi : (i : Int) < n) : pl p i < 10 := by
  have h1 := h.1
  have h2 := h.2.1
  have := h.2.2 i (by omega)
  unfold permAt at this
  rw [if_pos (by omega)] at this
  omega
theorem sqP_lt {n : Int} {t : List Int} (h : SqP n t) {x y : Nat} (hx : (x : Int) < n) (hy : (y : Int) < n) : cl t x y < 10 := by
  have h1 := h.1
  have h2 := h.2.1
  have := (h.2.2 x (by omega)).1 y (by omega)
  rw [if_pos (by omega)] at this
  omega

end Go.Proofs.Ytjmenocghjggcaa
