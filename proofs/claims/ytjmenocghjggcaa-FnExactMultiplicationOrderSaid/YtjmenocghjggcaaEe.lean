/-
Contracts of functions of the given program, by the abstract walk.
-/
import Derived.Test.YtjmenocghjggcaaAbsY
import Derived.Test.YtjmenocghjggcaaEd
namespace Go.Proofs.Ytjmenocghjggcaa
open Go Go.Abs
set_option linter.unusedVariables false
set_option linter.unusedSectionVars false
set_option linter.unusedSimpArgs false
set_option maxRecDepth 100000
theorem flat_one {Ls : List (List Int)} {i : Nat} (hM : Maps Ls) (h : Ls.length * 10 = 10) (hi : i < Ls.length) : Ls.flatten = Ls.getD i [] := by
  have h1 : Ls.length = 1 := by omega
  have h2 : i = 0 := by omega
  subst h2
  match Ls, h1 with
  | [p], _ => simp
/-! whether something is so for a map of a list -/
theorem indexFunc_ok (Ls : List (List Int)) (f : FuncId) (P : List Int → Bool) (g0 : Segs) (e0 : ∀ ρ, renSegs ρ g0 = g0) (hM : Maps Ls) (hl : Ls.length < 2 ^ 30)
    (hf : ∀ p ∈ Ls, ACalls Try.prog f [.agg (plS p), .ref (.ptr 0 0 0 0)] [.lv true g0] (fun v ms ns => v = .b (P p) ∧ ms = [.lv true g0] ∧ ns = [])) :
    ACalls Try.prog 77 [.ref (.sl 0 0 0 0 Ls.length 10), .ref (.fn f [(0, 1, 0, 0)])] [.lv true [(0, .ints .u8 (Ls.length * 10) Ls.flatten)], .lv true g0]
      (fun v ms ns => (∃ r : Int, v = .i .i64 r ∧ (0 ≤ r ↔ Ls.any P = true)) ∧ ms = [.lv true [(0, .ints .u8 (Ls.length * 10) Ls.flatten)], .lv true g0] ∧ ns = []) := by
  refine acalls_of_body mix Try.func77 rfl fok77 (Nat.le_of_ble_eq_true rfl) ?_
  unfold abody
  simp only [absE, absL, absF, reduceCtorEq, ↓reduceIte, Nat.reduceEqDiff, Nat.reduceAdd, Nat.reduceLT, Nat.reduceMul, Nat.reduceSub, Nat.reduceLeDiff, Int.reduceLT, Int.reduceLE, Int.reduceEq, Option.isSome_some, implies_true, false_implies, Prod.mk.injEq, ne_eq, not_false_eq_true, not_true_eq_false, ge_iff_le, gt_iff_lt, Int.toNat_natCast, Int.reduceToNat, Int.cast_ofNat_Int, Int.natCast_nonneg, Try.f77]
  refine awpLoop.intro (fun i : Nat => [(0, .ref (.sl 0 0 0 0 Ls.length 10)), (1, .ref (.fn f [(0, 1, 0, 0)])), (7, .i .i64 Ls.length), (8, .i .i64 i)]) (fun i => ⟨[.lv true [(0, .ints .u8 (Ls.length * 10) Ls.flatten)], .lv true g0], [], 5⟩)
    (fun i => i ≤ Ls.length ∧ ∀ j, j < i → P (Ls.getD j []) = false) (fun i => Ls.length - i) 0 ⟨by omega, fun j hj => absurd hj (by omega)⟩ ⟨[], rfl, ?_, ?_⟩ ?_
  · simp [wkEnv, lk, renV, renAt, renTo, e0, renCaps]
  · simp [wkMem, wkLoc, Mem.get, assoc, renBlk, renSegs, renSg, renTo, e0, renCaps]
  · rintro i ⟨hi, hp⟩
    by_cases h : (i : Int) < Ls.length
    · have w := wrap_i64s (show i < 2 ^ 62 by omega)
      have hi2 : i < Ls.length := by omega
      have u1 : 0 + i * 10 + 10 ≤ Ls.length * 10 := by omega
      have k1 : (Ls.flatten.drop (0 + i * 10)).take 10 = Ls.getD i [] := by rw [Nat.zero_add]; exact flat_get hM hi2
      have hm := getD_mem hi2
      by_cases h10 : Ls.length * 10 = 10
      · have e1 := flat_one hM h10 hi2
        have hm1 : Ls.flatten ∈ Ls := by rw [e1]; exact hm
        simp only [absE, absL, absF, reduceCtorEq, ↓reduceIte, Nat.reduceEqDiff, Nat.reduceAdd, Nat.reduceLT, Nat.reduceMul, Nat.reduceSub, Nat.reduceLeDiff, Int.reduceLT, Int.reduceLE, Int.reduceEq, Option.isSome_some, implies_true, false_implies, Prod.mk.injEq, ne_eq, not_false_eq_true, not_true_eq_false, ge_iff_le, gt_iff_lt, Int.toNat_natCast, Int.reduceToNat, Int.cast_ofNat_Int, Int.natCast_nonneg, h, h10]
        repeat refine And.intro (by omega) ?_
        refine CallsVia.args [(0, 1)] (hf _ hm1) (by simp) (by simp [Mem.get]) rfl (by simp [argBlks, Mem.get, renBlk, e0]) ?_
        rintro _ _ _ ⟨rfl, rfl, rfl⟩
        cases hb : P Ls.flatten
        · simp only [absE, absL, absF, reduceCtorEq, ↓reduceIte, Nat.reduceEqDiff, Nat.reduceAdd, Nat.reduceLT, Nat.reduceMul, Nat.reduceSub, Nat.reduceLeDiff, Int.reduceLT, Int.reduceLE, Int.reduceEq, Option.isSome_some, implies_true, false_implies, Prod.mk.injEq, ne_eq, not_false_eq_true, not_true_eq_false, ge_iff_le, gt_iff_lt, Int.toNat_natCast, Int.reduceToNat, Int.cast_ofNat_Int, Int.natCast_nonneg, e0]
          refine LoopNext.intro (i + 1) ⟨by omega, fun j hj => ?_⟩ (by omega) ⟨[], rfl, ?_, ?_⟩
          · by_cases ej : j = i
            · subst ej; rw [← e1]; exact hb
            · exact hp j (by omega)
          · simp [wkEnv, lk, renV, renAt, renTo, e0, w, renCaps, h10]
          · simp [wkMem, wkLoc, Mem.get, assoc, renBlk, renSegs, renSg, renTo, e0, w, renCaps, h10]
        · simp only [absE, absL, absF, reduceCtorEq, ↓reduceIte, Nat.reduceEqDiff, Nat.reduceAdd, Nat.reduceLT, Nat.reduceMul, Nat.reduceSub, Nat.reduceLeDiff, Int.reduceLT, Int.reduceLE, Int.reduceEq, Option.isSome_some, implies_true, false_implies, Prod.mk.injEq, ne_eq, not_false_eq_true, not_true_eq_false, ge_iff_le, gt_iff_lt, Int.toNat_natCast, Int.reduceToNat, Int.cast_ofNat_Int, Int.natCast_nonneg, e0, Try.results77]
          refine ⟨[], by simp, by simp, ⟨i, by simp [renV], ?_⟩, by simp [renBlk, renSegs, renSg, e0, h10], by simp⟩
          exact ⟨fun _ => List.any_eq_true.2 ⟨_, hm1, hb⟩, fun _ => by omega⟩
      · have h11 : 10 < Ls.length * 10 := by omega
        simp only [absE, absL, absF, reduceCtorEq, ↓reduceIte, Nat.reduceEqDiff, Nat.reduceAdd, Nat.reduceLT, Nat.reduceMul, Nat.reduceSub, Nat.reduceLeDiff, Int.reduceLT, Int.reduceLE, Int.reduceEq, Option.isSome_some, implies_true, false_implies, Prod.mk.injEq, ne_eq, not_false_eq_true, not_true_eq_false, ge_iff_le, gt_iff_lt, Int.toNat_natCast, Int.reduceToNat, Int.cast_ofNat_Int, Int.natCast_nonneg, h, u1, k1, h10, h11]
        refine CallsVia.args [(0, 1)] (hf _ hm) (by simp) (by simp [Mem.get]) rfl (by simp [argBlks, Mem.get, renBlk, e0]) ?_
        rintro _ _ _ ⟨rfl, rfl, rfl⟩
        cases hb : P (Ls.getD i [])
        · simp only [absE, absL, absF, reduceCtorEq, ↓reduceIte, Nat.reduceEqDiff, Nat.reduceAdd, Nat.reduceLT, Nat.reduceMul, Nat.reduceSub, Nat.reduceLeDiff, Int.reduceLT, Int.reduceLE, Int.reduceEq, Option.isSome_some, implies_true, false_implies, Prod.mk.injEq, ne_eq, not_false_eq_true, not_true_eq_false, ge_iff_le, gt_iff_lt, Int.toNat_natCast, Int.reduceToNat, Int.cast_ofNat_Int, Int.natCast_nonneg, e0]
          refine LoopNext.intro (i + 1) ⟨by omega, fun j hj => ?_⟩ (by omega) ⟨[], rfl, ?_, ?_⟩
          · by_cases ej : j = i
            · subst ej; exact hb
            · exact hp j (by omega)
          · simp [wkEnv, lk, renV, renAt, renTo, e0, w, renCaps]
          · simp [wkMem, wkLoc, Mem.get, assoc, renBlk, renSegs, renSg, renTo, e0, w, renCaps]
        · simp only [absE, absL, absF, reduceCtorEq, ↓reduceIte, Nat.reduceEqDiff, Nat.reduceAdd, Nat.reduceLT, Nat.reduceMul, Nat.reduceSub, Nat.reduceLeDiff, Int.reduceLT, Int.reduceLE, Int.reduceEq, Option.isSome_some, implies_true, false_implies, Prod.mk.injEq, ne_eq, not_false_eq_true, not_true_eq_false, ge_iff_le, gt_iff_lt, Int.toNat_natCast, Int.reduceToNat, Int.cast_ofNat_Int, Int.natCast_nonneg, e0, Try.results77]
          refine ⟨[], by simp, by simp, ⟨i, by simp [renV], ?_⟩, by simp [renBlk, renSegs, renSg, e0], by simp⟩
          exact ⟨fun _ => List.any_eq_true.2 ⟨_, hm, hb⟩, fun _ => by omega⟩
    · simp only [absE, absL, absF, reduceCtorEq, ↓reduceIte, Nat.reduceEqDiff, Nat.reduceAdd, Nat.reduceLT, Nat.reduceMul, Nat.reduceSub, Nat.reduceLeDiff, Int.reduceLT, Int.reduceLE, Int.reduceEq, Option.isSome_some, implies_true, false_implies, Prod.mk.injEq, ne_eq, not_false_eq_true, not_true_eq_false, ge_iff_le, gt_iff_lt, Int.toNat_natCast, Int.reduceToNat, Int.cast_ofNat_Int, Int.natCast_nonneg, h, Try.results77]
      refine ⟨[], by simp, by simp, ⟨-1, by simp [renV], ?_⟩, by simp [renBlk, renSegs, renSg, e0], by simp⟩
      refine ⟨fun h => absurd h (by omega), fun h => ?_⟩
      obtain ⟨p, hm, hb⟩ := List.any_eq_true.1 h
      obtain ⟨j, hj, e⟩ := List.getElem_of_mem hm
      have := hp j (by omega)
      rw [show Ls.getD j [] = p by simp [hj, e], hb] at this
      cases this
theorem containsFunc_ok (Ls : List (List Int)) (f : FuncId) (P : List Int → Bool) (g0 : Segs) (e0 : ∀ ρ, renSegs ρ g0 = g0) (hM : Maps Ls) (hl : Ls.length < 2 ^ 30)
    (hf : ∀ p ∈ Ls, ACalls Try.prog f [.agg (plS p), .ref (.ptr 0 0 0 0)] [.lv true g0] (fun v ms ns => v = .b (P p) ∧ ms = [.lv true g0] ∧ ns = [])) :
    ACalls Try.prog 47 [.ref (.sl 0 0 0 0 Ls.length 10), .ref (.fn f [(0, 1, 0, 0)])] [.lv true [(0, .ints .u8 (Ls.length * 10) Ls.flatten)], .lv true g0]
      (fun v ms ns => v = .b (Ls.any P) ∧ ms = [.lv true [(0, .ints .u8 (Ls.length * 10) Ls.flatten)], .lv true g0] ∧ ns = []) := by
  refine acalls_of_body mix Try.func47 rfl fok47 (Nat.le_of_ble_eq_true rfl) ?_
  unfold abody
  simp only [absE, absL, absF, reduceCtorEq, ↓reduceIte, Nat.reduceEqDiff, Nat.reduceAdd, Nat.reduceLT, Nat.reduceMul, Nat.reduceSub, Nat.reduceLeDiff, Int.reduceLT, Int.reduceLE, Int.reduceEq, Option.isSome_some, implies_true, false_implies, Prod.mk.injEq, ne_eq, not_false_eq_true, not_true_eq_false, ge_iff_le, gt_iff_lt, Int.toNat_natCast, Int.reduceToNat, Int.cast_ofNat_Int, Int.natCast_nonneg, Try.f47]
  refine CallsVia.args [(0, 0), (0, 1)] (indexFunc_ok Ls f P g0 e0 hM hl hf) (by simp) (by simp [Mem.get]) rfl (by simp [argBlks, Mem.get, renBlk, renSegs, renSg, e0]) ?_
  rintro _ _ _ ⟨⟨r, rfl, hr⟩, rfl, rfl⟩
  simp only [absE, absL, absF, reduceCtorEq, ↓reduceIte, Nat.reduceEqDiff, Nat.reduceAdd, Nat.reduceLT, Nat.reduceMul, Nat.reduceSub, Nat.reduceLeDiff, Int.reduceLT, Int.reduceLE, Int.reduceEq, Option.isSome_some, implies_true, false_implies, Prod.mk.injEq, ne_eq, not_false_eq_true, not_true_eq_false, ge_iff_le, gt_iff_lt, Int.toNat_natCast, Int.reduceToNat, Int.cast_ofNat_Int, Int.natCast_nonneg, e0, Try.results47]
  refine ⟨[], by simp, by simp, ?_, by simp [renBlk, renSegs, renSg, e0], by simp⟩
  have : decide (0 ≤ r) = Ls.any P := by rw [Bool.eq_iff_iff, decide_eq_true_iff]; exact hr
  simp [renV, this]
/-! each map once -/
def freshR (out : List (List Int)) (p : List Int) : Nat → Bool
  | 0 => true
  | k + 1 => freshR out p k && !decide (out.getD k [] = p)
theorem freshR_iff {out : List (List Int)} {p : List Int} : ∀ {n}, freshR out p n = true ↔ ∀ k, k < n → out.getD k [] ≠ p
  | 0 => by simp [freshR]
  | n + 1 => by
    rw [freshR, Bool.and_eq_true, freshR_iff]
    simp only [Bool.not_eq_true', decide_eq_false_iff_not]
    constructor
    · rintro ⟨h1, h2⟩ y hy
      by_cases e : y = n
      · subst e; exact h2
      · exact h1 y (by omega)
    · intro h; exact ⟨fun y hy => h y (by omega), h n (by omega)⟩
def dedR (Ls : List (List Int)) : Nat → List (List Int)
  | 0 => []
  | i + 1 => if freshR (dedR Ls i) (Ls.getD i []) (dedR Ls i).length then dedR Ls i ++ [Ls.getD i []] else dedR Ls i
theorem dedR_len {Ls : List (List Int)} : ∀ {i}, (dedR Ls i).length ≤ i
  | 0 => by simp [dedR]
  | i + 1 => by have := dedR_len (Ls := Ls) (i := i); unfold dedR; split <;> simp <;> omega
theorem dedR_sub {Ls : List (List Int)} : ∀ {i}, i ≤ Ls.length → ∀ p ∈ dedR Ls i, p ∈ Ls
  | 0, _, p, hp => by cases hp
  | i + 1, hi, p, hp => by
    unfold dedR at hp
    split at hp
    · rcases List.mem_append.1 hp with h1 | h1
      · exact dedR_sub (show i ≤ Ls.length by omega) p h1
      · have e : p = Ls.getD i [] := by simpa using h1
        rw [e]; exact getD_mem (by omega)
    · exact dedR_sub (show i ≤ Ls.length by omega) p hp
theorem dedR_has {Ls : List (List Int)} : ∀ {i j}, j < i → Ls.getD j [] ∈ dedR Ls i
  | 0, j, h => absurd h (by omega)
  | i + 1, j, h => by
    unfold dedR
    by_cases e : j = i
    · subst e
      split
      · simp
      · rename_i hf
        apply Decidable.byContradiction; intro hn
        apply hf
        rw [freshR_iff]
        intro k hk e
        exact hn (e ▸ getD_mem hk)
    · split
      · exact List.mem_append_left _ (dedR_has (by omega))
      · exact dedR_has (by omega)
theorem dedR_any {Ls : List (List Int)} {P : List Int → Bool} : (dedR Ls Ls.length).any P = Ls.any P := by
  rw [Bool.eq_iff_iff, List.any_eq_true, List.any_eq_true]
  constructor
  · rintro ⟨p, h1, h2⟩; exact ⟨p, dedR_sub (Nat.le_refl _) p h1, h2⟩
  · rintro ⟨p, h1, h2⟩
    obtain ⟨j, hj, e⟩ := List.getElem_of_mem h1
    have := dedR_has (Ls := Ls) hj
    rw [show Ls.getD j [] = p by simp [hj, e]] at this
    exact ⟨p, this, h2⟩
end Go.Proofs.Ytjmenocghjggcaa
