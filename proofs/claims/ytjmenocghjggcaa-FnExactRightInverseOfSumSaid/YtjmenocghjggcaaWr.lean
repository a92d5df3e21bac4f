/-
Contracts of functions of the given program, by the abstract walk.
-/
import Derived.Test.YtjmenocghjggcaaAbsY
import Derived.Test.YtjmenocghjggcaaWq
namespace Go.Proofs.Ytjmenocghjggcaa
open Go Go.Abs
set_option linter.unusedVariables false
set_option linter.unusedSectionVars false
set_option linter.unusedSimpArgs false
set_option maxRecDepth 100000
/-! linear algebra modulo p: small contracts -/
theorem l10AddO_ok (L M o : Nat) (p : Int) (a b : List Int) (s : Int) (hL : L ≤ 20) (hp : PrP p) (ha : RngP p a) (hb : RngP p b) (hs : -(p - 1) ≤ s ∧ s ≤ p - 1) (hoM : o + L ≤ M) :
    ACalls Try.prog 55 [.i .i64 p, .ref (.sl 0 0 0 0 L 1), .ref (.sl 0 1 0 o L 1), .i .i64 s] [.lv true [(0, .ints .i64 L a)], .lv true [(0, .ints .i64 M b)]]
      (fun v ms ns => v = .ref (.sl 1 0 0 0 L 1) ∧ ms = [.lv true [(0, .ints .i64 L a)], .lv true [(0, .ints .i64 M b)]] ∧ ns = [.lv true [(0, .ints .i64 L (addS p a (b.drop o) s L))]]) := by
  have hp2 := hp.le
  have p0 : ¬ p = 0 := by omega
  refine acalls_of_body mix Try.func55 rfl fok55 (Nat.le_of_ble_eq_true rfl) ?_
  unfold abody
  simp only [absE, absL, absF, reduceCtorEq, ↓reduceIte, Nat.reduceEqDiff, Nat.reduceAdd, Nat.reduceLT, Nat.reduceMul, Nat.reduceSub, Nat.reduceLeDiff, Int.reduceLT, Int.reduceLE, Int.reduceEq, Option.isSome_some, implies_true, false_implies, Prod.mk.injEq, ne_eq, not_false_eq_true, not_true_eq_false, ge_iff_le, gt_iff_lt, Int.toNat_natCast, Int.reduceToNat, Int.cast_ofNat_Int, Int.natCast_nonneg, Try.f55]
  refine awpLoop.intro (fun i : Nat => [(0, .i .i64 p), (1, .ref (.sl 0 0 0 0 L 1)), (2, .ref (.sl 0 1 0 o L 1)), (3, .i .i64 s), (9, .ref (.sl 2 0 0 0 i 1)), (10, .i .i64 i)]) (fun i => ⟨[.lv true [(0, .ints .i64 L a)], .lv true [(0, .ints .i64 M b)]], [((2, 0), .lv true ([(0, .ints .i64 i (addS p a (b.drop o) s i))]))], 5⟩)
    (fun i => i ≤ L) (fun i => L - i) 0 (by omega) ⟨[((2,0),(2,0))], rfl, ?_, ?_⟩ ?_
  · simp [wkEnv, lk, renV, renAt, renTo, addS]
  · simp [wkMem, wkLoc, Mem.get, assoc, renBlk, renSegs, renSg, renTo, addS]
  · intro i hi
    by_cases h' : (i : Int) < L
    · have w := wrap_i64s (show i < 2 ^ 62 by omega)
      have v1 : 0 + i * 1 < L := by omega
      have v2 : o + i * 1 < M := by omega
      have e0 : a.getD (0 + i * 1) 0 = a.getD i 0 := by rw [Nat.zero_add, Nat.mul_one]
      have e1 : b.getD (o + i * 1) 0 = (b.drop o).getD i 0 := by rw [Nat.mul_one, drop_get]
      have r1 := ha i
      have r2 : 0 ≤ (b.drop o).getD i 0 ∧ (b.drop o).getD i 0 ≤ p - 1 := by rw [drop_get]; exact hb _
      have r3 := prod_s hp hs r2
      have wm : IntKind.i64.wrap (s * (b.drop o).getD i 0) = s * (b.drop o).getD i 0 := wrap_i64 (by omega) (by omega)
      have wa : IntKind.i64.wrap (a.getD i 0 + s * (b.drop o).getD i 0) = a.getD i 0 + s * (b.drop o).getD i 0 := wrap_i64 (by omega) (by omega)
      have q : -p < (a.getD i 0 + s * (b.drop o).getD i 0).tmod p ∧ (a.getD i 0 + s * (b.drop o).getD i 0).tmod p < p := by
        refine ⟨?_, Int.tmod_lt_of_pos _ (by omega)⟩
        have := Int.lt_tmod_of_pos (a.getD i 0 + s * (b.drop o).getD i 0) (show 0 < p by omega)
        omega
      have wb : IntKind.i64.wrap ((a.getD i 0 + s * (b.drop o).getD i 0).tmod p + p) = (a.getD i 0 + s * (b.drop o).getD i 0).tmod p + p := wrap_i64 (by omega) (by omega)
      have wt := go_mod (p := p) (x := a.getD i 0 + s * (b.drop o).getD i 0) (by omega)
      have mx : i * 1 = i := Nat.mul_one i
      have e2 : a.getD (0 + i) 0 = a.getD i 0 := by rw [Nat.zero_add]
      have e3 : b.getD (o + i) 0 = (b.drop o).getD i 0 := drop_get.symm
      simp only [absE, absL, absF, reduceCtorEq, ↓reduceIte, Nat.reduceEqDiff, Nat.reduceAdd, Nat.reduceLT, Nat.reduceMul, Nat.reduceSub, Nat.reduceLeDiff, Int.reduceLT, Int.reduceLE, Int.reduceEq, Option.isSome_some, implies_true, false_implies, Prod.mk.injEq, ne_eq, not_false_eq_true, not_true_eq_false, ge_iff_le, gt_iff_lt, Int.toNat_natCast, Int.reduceToNat, Int.cast_ofNat_Int, Int.natCast_nonneg, h', v1, v2, e0, e1, e2, e3, wm, wa, wb, wt, p0, mx]
      repeat refine And.intro (by first | omega | decide +kernel) ?_
      refine LoopNext.intro (i + 1) (by omega) (by omega) ⟨[((28,0),(2,0))], rfl, ?_, ?_⟩
      · simp [wkEnv, lk, renV, renAt, renTo, w, addS_next]
      · simp [wkMem, wkLoc, Mem.get, assoc, renBlk, renSegs, renSg, renTo, w, addS_next]
    · obtain rfl : i = L := by omega
      simp only [absE, absL, absF, reduceCtorEq, ↓reduceIte, Nat.reduceEqDiff, Nat.reduceAdd, Nat.reduceLT, Nat.reduceMul, Nat.reduceSub, Nat.reduceLeDiff, Int.reduceLT, Int.reduceLE, Int.reduceEq, Option.isSome_some, implies_true, false_implies, Prod.mk.injEq, ne_eq, not_false_eq_true, not_true_eq_false, ge_iff_le, gt_iff_lt, Int.toNat_natCast, Int.reduceToNat, Int.cast_ofNat_Int, Int.natCast_nonneg, h', Try.results55]
      exact ⟨[(2, 0)], by simp, by simp, by simp [renV, renVs, renAt, renFin, idx], by simp [renBlk, renSegs, renSg], by simp [renBlk, renSegs, renSg, Mem.get, assoc]⟩
def fsV (w : Nat) (a : List Int) : Int := if fsP w a < w then (fsP w a : Int) else -1
theorem l10FirstP_ok (w M : Nat) (a : List Int) (hw : w ≤ M) (hM : M ≤ 20) :
    ACalls Try.prog 66 [.ref (.sl 0 0 0 0 M 1), .i .i64 w] [.lv true [(0, .ints .i64 M a)]] (fun v ms ns => v = .i .i64 (fsV w a) ∧ ms = [.lv true [(0, .ints .i64 M a)]] ∧ ns = []) := by
  refine acalls_of_body mix Try.func66 rfl fok66 (Nat.le_of_ble_eq_true rfl) ?_
  unfold abody
  simp only [absE, absL, absF, reduceCtorEq, ↓reduceIte, Nat.reduceEqDiff, Nat.reduceAdd, Nat.reduceLT, Nat.reduceMul, Nat.reduceSub, Nat.reduceLeDiff, Int.reduceLT, Int.reduceLE, Int.reduceEq, Option.isSome_some, implies_true, false_implies, Prod.mk.injEq, ne_eq, not_false_eq_true, not_true_eq_false, ge_iff_le, gt_iff_lt, Int.toNat_natCast, Int.reduceToNat, Int.cast_ofNat_Int, Int.natCast_nonneg, Try.f66]
  refine awpLoop.intro (fun i : Nat => [(0, .ref (.sl 0 0 0 0 M 1)), (1, .i .i64 w), (5, .i .i64 i)]) (fun i => ⟨[.lv true [(0, .ints .i64 M a)]], [], 5⟩)
    (fun i => i ≤ fsP w a) (fun i => w - i) 0 (by omega) ⟨[], rfl, ?_, ?_⟩ ?_
  · simp [wkEnv, lk, renV, renAt, renTo]
  · simp [wkMem, wkLoc, renBlk, renSegs, renSg]
  · intro i hi
    have hle := fsP_le (w := w) (a := a)
    by_cases h : (i : Int) < w
    · have wi := wrap_i64s (show i < 2 ^ 62 by omega)
      have v1 : 0 + i * 1 < M := by omega
      have v2 : (i : Int) < M := by omega
      have e0 : a.getD (0 + i * 1) 0 = a.getD i 0 := by rw [Nat.zero_add, Nat.mul_one]
      by_cases hz : a.getD i 0 = 0
      · have hlt : i < fsP w a := by
          apply Decidable.byContradiction; intro hn
          have e : fsP w a = i := by omega
          exact fsP_at (w := w) (a := a) (by omega) (by rw [e]; exact hz)
        simp only [absE, absL, absF, reduceCtorEq, ↓reduceIte, Nat.reduceEqDiff, Nat.reduceAdd, Nat.reduceLT, Nat.reduceMul, Nat.reduceSub, Nat.reduceLeDiff, Int.reduceLT, Int.reduceLE, Int.reduceEq, Option.isSome_some, implies_true, false_implies, Prod.mk.injEq, ne_eq, not_false_eq_true, not_true_eq_false, ge_iff_le, gt_iff_lt, Int.toNat_natCast, Int.reduceToNat, Int.cast_ofNat_Int, Int.natCast_nonneg, h, v1, v2, e0, hz]
        refine LoopNext.intro (i + 1) (by omega) (by omega) ⟨[], rfl, ?_, ?_⟩
        · simp [wkEnv, lk, renV, renAt, renTo, wi]
        · simp [wkMem, wkLoc, renBlk, renSegs, renSg]
      · have e : fsP w a = i := by
          rcases Nat.lt_or_ge i (fsP w a) with h1 | h1
          · exact absurd (fsP_none h1) hz
          · omega
        have ev : fsV w a = i := by unfold fsV; rw [e, if_pos (by omega)]
        simp only [absE, absL, absF, reduceCtorEq, ↓reduceIte, Nat.reduceEqDiff, Nat.reduceAdd, Nat.reduceLT, Nat.reduceMul, Nat.reduceSub, Nat.reduceLeDiff, Int.reduceLT, Int.reduceLE, Int.reduceEq, Option.isSome_some, implies_true, false_implies, Prod.mk.injEq, ne_eq, not_false_eq_true, not_true_eq_false, ge_iff_le, gt_iff_lt, Int.toNat_natCast, Int.reduceToNat, Int.cast_ofNat_Int, Int.natCast_nonneg, h, v1, v2, e0, hz, Try.results66]
        exact ⟨[], by simp, by simp, by simp [renV, ev], by simp [renBlk, renSegs, renSg], by simp⟩
    · have ev : fsV w a = -1 := by unfold fsV; rw [if_neg (by omega)]
      simp only [absE, absL, absF, reduceCtorEq, ↓reduceIte, Nat.reduceEqDiff, Nat.reduceAdd, Nat.reduceLT, Nat.reduceMul, Nat.reduceSub, Nat.reduceLeDiff, Int.reduceLT, Int.reduceLE, Int.reduceEq, Option.isSome_some, implies_true, false_implies, Prod.mk.injEq, ne_eq, not_false_eq_true, not_true_eq_false, ge_iff_le, gt_iff_lt, Int.toNat_natCast, Int.reduceToNat, Int.cast_ofNat_Int, Int.natCast_nonneg, h, Try.results66]
      exact ⟨[], by simp, by simp, by simp [renV, ev], by simp [renBlk, renSegs, renSg], by simp⟩
theorem reduced0_ok (L : Nat) (p : Int) :
    ACalls Try.prog 33 [.ref (.sl 0 0 0 0 0 1), .i .i64 p] (ms1 [])
      (fun v ms ns => v = .tup [.ref (.sl 0 0 0 0 0 1), .ref (.sl 1 0 0 0 0 1)] ∧ ms = msP 0 L [] [] ∧ ns = [plB []]) := by
  refine acalls_of_body mix Try.func33 rfl fok33 (Nat.le_of_ble_eq_true rfl) ?_
  unfold abody
  simp only [absE, absL, absF, reduceCtorEq, ↓reduceIte, Nat.reduceEqDiff, Nat.reduceAdd, Nat.reduceLT, Nat.reduceMul, Nat.reduceSub, Nat.reduceLeDiff, Int.reduceLT, Int.reduceLE, Int.reduceEq, Option.isSome_some, implies_true, false_implies, Prod.mk.injEq, ne_eq, not_false_eq_true, not_true_eq_false, ge_iff_le, gt_iff_lt, Int.toNat_natCast, Int.reduceToNat, Int.cast_ofNat_Int, Int.natCast_nonneg, Try.f33, Try.results33]
  exact ⟨[(3, 0)], by simp, by simp, by simp [renV, renVs, renAt, renFin, idx], by simp [ms1, msP, ob, inn, outs, celP, renBlk, renSegs, renSg], by simp [Mem.get, assoc, renBlk, renSegs, renSg, plB]⟩
theorem l10Reduce0_ok (w : Nat) (p : Int) (hw : w ≤ 20) :
    ACalls Try.prog 26 [.i .i64 p, .ref (.sl 0 0 0 0 0 1), .i .i64 w] (ms1 [])
      (fun v ms ns => v = .tup [.ref (.sl 1 0 0 0 0 1), .ref (.sl 1 1 0 0 0 1)] ∧ ms = ms1 [] ∧ ns = [.lv true [(0, .cells 0 [])], .lv true [(0, .cells 0 [])]]) := by
  have e : ms1 [] = [.lv true [(0, .cells 0 [])]] := rfl
  rw [e]
  refine acalls_of_body mix Try.func26 rfl fok26 (Nat.le_of_ble_eq_true rfl) ?_
  unfold abody
  simp only [absE, absL, absF, reduceCtorEq, ↓reduceIte, Nat.reduceEqDiff, Nat.reduceAdd, Nat.reduceLT, Nat.reduceMul, Nat.reduceSub, Nat.reduceLeDiff, Int.reduceLT, Int.reduceLE, Int.reduceEq, Option.isSome_some, implies_true, false_implies, Prod.mk.injEq, ne_eq, not_false_eq_true, not_true_eq_false, ge_iff_le, gt_iff_lt, Int.toNat_natCast, Int.reduceToNat, Int.cast_ofNat_Int, Int.natCast_nonneg, Try.f26]
  refine awpLoop.intro (fun c : Nat => [(0, .i .i64 p), (2, .i .i64 w), (8, .ref (.sl 15 0 0 0 0 1)), (9, .ref (.sl 13 0 0 0 0 1)), (10, .i .i64 c)]) (fun c => ⟨[.lv true [(0, .cells 0 [])]], [((13, 0), .lv true [(0, .cells 0 [])]), ((15, 0), .lv true [(0, .cells 0 [])])], 200⟩) (fun c => c ≤ w) (fun c => w - c) 0 (by omega) ⟨[((6, 0), (13, 0)), ((5, 0), (15, 0))], rfl, ?_, ?_⟩ ?_
  · simp [wkEnv, lk, renV, renAt, renTo]
  · simp [wkMem, wkLoc, Mem.get, assoc, renBlk, renSegs, renSg]
  · intro c hc
    by_cases hcw : (c : Int) < w
    · have wc := wrap_i64s (show c < 2 ^ 62 by omega)
      simp only [absE, absL, absF, reduceCtorEq, ↓reduceIte, Nat.reduceEqDiff, Nat.reduceAdd, Nat.reduceLT, Nat.reduceMul, Nat.reduceSub, Nat.reduceLeDiff, Int.reduceLT, Int.reduceLE, Int.reduceEq, Option.isSome_some, implies_true, false_implies, Prod.mk.injEq, ne_eq, not_false_eq_true, not_true_eq_false, ge_iff_le, gt_iff_lt, Int.toNat_natCast, Int.reduceToNat, Int.cast_ofNat_Int, Int.natCast_nonneg, hcw]
      refine awpLoop.intro (fun _ : Nat => [(0, .i .i64 p), (2, .i .i64 w), (8, .ref (.sl 15 0 0 0 0 1)), (9, .ref (.sl 13 0 0 0 0 1)), (10, .i .i64 c), (11, .i .i64 (-1)), (12, .i .i64 0)]) (fun _ => ⟨[.lv true [(0, .cells 0 [])]], [((13, 0), .lv true [(0, .cells 0 [])]), ((15, 0), .lv true [(0, .cells 0 [])])], 200⟩) (fun j => j = 0) (fun j => 1 - j) 0 rfl ⟨[((13, 0), (13, 0)), ((15, 0), (15, 0))], rfl, ?_, ?_⟩ ?_
      · simp [wkEnv, lk, renV, renAt, renTo]
      · simp [wkMem, wkLoc, Mem.get, assoc, renBlk, renSegs, renSg]
      · rintro _ rfl
        simp only [absE, absL, absF, reduceCtorEq, ↓reduceIte, Nat.reduceEqDiff, Nat.reduceAdd, Nat.reduceLT, Nat.reduceMul, Nat.reduceSub, Nat.reduceLeDiff, Int.reduceLT, Int.reduceLE, Int.reduceEq, Option.isSome_some, implies_true, false_implies, Prod.mk.injEq, ne_eq, not_false_eq_true, not_true_eq_false, ge_iff_le, gt_iff_lt, Int.toNat_natCast, Int.reduceToNat, Int.cast_ofNat_Int, Int.natCast_nonneg]
        refine LoopNext.intro (c + 1) (by omega) (by omega) ⟨[((13, 0), (13, 0)), ((15, 0), (15, 0))], rfl, ?_, ?_⟩
        · simp [wkEnv, lk, renV, renAt, renTo, wc]
        · simp [wkMem, wkLoc, Mem.get, assoc, renBlk, renSegs, renSg]
    · simp only [absE, absL, absF, reduceCtorEq, ↓reduceIte, Nat.reduceEqDiff, Nat.reduceAdd, Nat.reduceLT, Nat.reduceMul, Nat.reduceSub, Nat.reduceLeDiff, Int.reduceLT, Int.reduceLE, Int.reduceEq, Option.isSome_some, implies_true, false_implies, Prod.mk.injEq, ne_eq, not_false_eq_true, not_true_eq_false, ge_iff_le, gt_iff_lt, Int.toNat_natCast, Int.reduceToNat, Int.cast_ofNat_Int, Int.natCast_nonneg, hcw, Try.results26]
      exact ⟨[(13, 0), (15, 0)], by simp, by simp, by simp [renV, renVs, renAt, renFin, idx], by simp [renBlk, renSegs, renSg], by simp [Mem.get, assoc, renBlk, renSegs, renSg]⟩
theorem index_ok (pl : List Nat) (c : Nat) (hl : pl.length ≤ 20) :
    ACalls Try.prog 98 [.ref (.sl 0 0 0 0 pl.length 1), .i .i64 c] [plB pl] (fun v ms ns => (∃ r : Int, v = .i .i64 r ∧ (0 ≤ r ↔ c ∈ pl)) ∧ ms = [plB pl] ∧ ns = []) := by
  unfold plB
  refine acalls_of_body mix Try.func98 rfl fok98 (Nat.le_of_ble_eq_true rfl) ?_
  unfold abody
  simp only [absE, absL, absF, reduceCtorEq, ↓reduceIte, Nat.reduceEqDiff, Nat.reduceAdd, Nat.reduceLT, Nat.reduceMul, Nat.reduceSub, Nat.reduceLeDiff, Int.reduceLT, Int.reduceLE, Int.reduceEq, Option.isSome_some, implies_true, false_implies, Prod.mk.injEq, ne_eq, not_false_eq_true, not_true_eq_false, ge_iff_le, gt_iff_lt, Int.toNat_natCast, Int.reduceToNat, Int.cast_ofNat_Int, Int.natCast_nonneg, Try.f98]
  refine awpLoop.intro (fun i : Nat => [(0, .ref (.sl 0 0 0 0 pl.length 1)), (1, .i .i64 c), (7, .i .i64 pl.length), (8, .i .i64 i)]) (fun i => ⟨[.lv true [(0, .ints .i64 pl.length (pl.map Int.ofNat))]], [], 5⟩)
    (fun i => i ≤ pl.length ∧ ∀ j, j < i → pl.getD j 0 ≠ c) (fun i => pl.length - i) 0 ⟨by omega, fun j hj => absurd hj (by omega)⟩ ⟨[], rfl, ?_, ?_⟩ ?_
  · simp [wkEnv, lk, renV, renAt, renTo]
  · simp [wkMem, wkLoc, renBlk, renSegs, renSg]
  · rintro i ⟨hi, hno⟩
    by_cases h : (i : Int) < pl.length
    · have wi := wrap_i64s (show i < 2 ^ 62 by omega)
      have hil : i < pl.length := by omega
      have v1 : 0 + i * 1 < pl.length := by omega
      have e0 : (pl.map Int.ofNat).getD (0 + i * 1) 0 = (pl.getD i 0 : Nat) := by rw [Nat.zero_add, Nat.mul_one]; simp [hil]
      by_cases hz : (c : Int) = (pl.getD i 0 : Nat)
      · simp only [absE, absL, absF, reduceCtorEq, ↓reduceIte, Nat.reduceEqDiff, Nat.reduceAdd, Nat.reduceLT, Nat.reduceMul, Nat.reduceSub, Nat.reduceLeDiff, Int.reduceLT, Int.reduceLE, Int.reduceEq, Option.isSome_some, implies_true, false_implies, Prod.mk.injEq, ne_eq, not_false_eq_true, not_true_eq_false, ge_iff_le, gt_iff_lt, Int.toNat_natCast, Int.reduceToNat, Int.cast_ofNat_Int, Int.natCast_nonneg, h, v1, e0, hz, Try.results98]
        refine ⟨[], by simp, by simp, ⟨i, by simp [renV], ?_⟩, by simp [renBlk, renSegs, renSg], by simp⟩
        have : c = pl.getD i 0 := by omega
        rw [this]
        exact ⟨fun _ => by rw [List.getD_eq_getElem?_getD, List.getElem?_eq_getElem hil]; exact List.getElem_mem _, fun _ => by omega⟩
      · simp only [absE, absL, absF, reduceCtorEq, ↓reduceIte, Nat.reduceEqDiff, Nat.reduceAdd, Nat.reduceLT, Nat.reduceMul, Nat.reduceSub, Nat.reduceLeDiff, Int.reduceLT, Int.reduceLE, Int.reduceEq, Option.isSome_some, implies_true, false_implies, Prod.mk.injEq, ne_eq, not_false_eq_true, not_true_eq_false, ge_iff_le, gt_iff_lt, Int.toNat_natCast, Int.reduceToNat, Int.cast_ofNat_Int, Int.natCast_nonneg, h, v1, e0, hz]
        refine LoopNext.intro (i + 1) ⟨by omega, fun j hj => ?_⟩ (by omega) ⟨[], rfl, ?_, ?_⟩
        · by_cases e : j = i
          · subst e; omega
          · exact hno j (by omega)
        · simp [wkEnv, lk, renV, renAt, renTo, wi]
        · simp [wkMem, wkLoc, renBlk, renSegs, renSg]
    · simp only [absE, absL, absF, reduceCtorEq, ↓reduceIte, Nat.reduceEqDiff, Nat.reduceAdd, Nat.reduceLT, Nat.reduceMul, Nat.reduceSub, Nat.reduceLeDiff, Int.reduceLT, Int.reduceLE, Int.reduceEq, Option.isSome_some, implies_true, false_implies, Prod.mk.injEq, ne_eq, not_false_eq_true, not_true_eq_false, ge_iff_le, gt_iff_lt, Int.toNat_natCast, Int.reduceToNat, Int.cast_ofNat_Int, Int.natCast_nonneg, h, Try.results98]
      refine ⟨[], by simp, by simp, ⟨-1, by simp [renV], ⟨fun h => absurd h (by decide), fun hm => ?_⟩⟩, by simp [renBlk, renSegs, renSg], by simp⟩
      obtain ⟨j, hj, e⟩ := List.getElem_of_mem hm
      exact absurd (by rw [List.getD_eq_getElem?_getD, List.getElem?_eq_getElem hj]; exact e) (hno j (by omega))
theorem containsP_ok (pl : List Nat) (c : Nat) (hl : pl.length ≤ 20) :
    ACalls Try.prog 87 [.ref (.sl 0 0 0 0 pl.length 1), .i .i64 c] [plB pl] (fun v ms ns => v = .b (decide (c ∈ pl)) ∧ ms = [plB pl] ∧ ns = []) := by
  have hI := index_ok pl c hl
  unfold plB at hI ⊢
  refine acalls_of_body mix Try.func87 rfl fok87 (Nat.le_of_ble_eq_true rfl) ?_
  unfold abody
  simp only [absE, absL, absF, reduceCtorEq, ↓reduceIte, Nat.reduceEqDiff, Nat.reduceAdd, Nat.reduceLT, Nat.reduceMul, Nat.reduceSub, Nat.reduceLeDiff, Int.reduceLT, Int.reduceLE, Int.reduceEq, Option.isSome_some, implies_true, false_implies, Prod.mk.injEq, ne_eq, not_false_eq_true, not_true_eq_false, ge_iff_le, gt_iff_lt, Int.toNat_natCast, Int.reduceToNat, Int.cast_ofNat_Int, Int.natCast_nonneg, Try.f87]
  refine CallsVia.args [(0, 0)] hI (by simp) (by simp [Mem.get]) rfl rfl ?_
  rintro _ _ _ ⟨⟨r, rfl, hr⟩, rfl, rfl⟩
  have e : decide (0 ≤ r) = decide (c ∈ pl) := decide_eq_decide.2 hr
  simp only [absE, absL, absF, reduceCtorEq, ↓reduceIte, Nat.reduceEqDiff, Nat.reduceAdd, Nat.reduceLT, Nat.reduceMul, Nat.reduceSub, Nat.reduceLeDiff, Int.reduceLT, Int.reduceLE, Int.reduceEq, Option.isSome_some, implies_true, false_implies, Prod.mk.injEq, ne_eq, not_false_eq_true, not_true_eq_false, ge_iff_le, gt_iff_lt, Int.toNat_natCast, Int.reduceToNat, Int.cast_ofNat_Int, Int.natCast_nonneg, e, Try.results87]
  exact ⟨[], by simp, by simp, by simp [renV], by simp [renBlk, renSegs, renSg], by simp⟩

end Go.Proofs.Ytjmenocghjggcaa
