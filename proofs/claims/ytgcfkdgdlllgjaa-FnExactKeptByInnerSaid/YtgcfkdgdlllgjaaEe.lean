/-
Contracts of functions of the given program, by the abstract walk.
-/
import Derived.Test.YtgcfkdgdlllgjaaAbsW
import Derived.Test.YtgcfkdgdlllgjaaEd
namespace Go.Proofs.Ytgcfkdgdlllgjaa
open Go Go.Abs
set_option linter.unusedVariables false
set_option linter.unusedSectionVars false
set_option linter.unusedSimpArgs false
set_option maxRecDepth 100000
theorem flat_one {Ls : List (List Int)} {i : Nat} (hM : Maps Ls) (h : Ls.length * 10 = 10) (hi : i < Ls.length) : Ls.flatten = Ls.getD i [] := by
  have h1 : Ls.length = 1 := by omega
  have h2 : i = 0 := by omega
  subst h2
  match Ls, h1 with
  | [p], _ => simp
/-! whether something is so for a map of a list -/
theorem indexFunc_ok (Ls : List (List Int)) (f : FuncId) (P : List Int → Bool) (g0 : Segs) (e0 : ∀ ρ, renSegs ρ g0 = g0) (hM : Maps Ls) (hl : Ls.length < 2 ^ 30)
    (hf : ∀ p ∈ Ls, ACalls Try.prog f [.agg (plS p), .ref (.ptr 0 0 0 0)] [.lv true g0] (fun v ms ns => v = .b (P p) ∧ ms = [.lv true g0] ∧ ns = [])) :
    ACalls Try.prog 112 [.ref (.sl 0 0 0 0 Ls.length 10), .ref (.fn f [(0, 1, 0, 0)])] [.lv true [(0, .ints .u8 (Ls.length * 10) Ls.flatten)], .lv true g0]
      (fun v ms ns => (∃ r : Int, v = .i .i64 r ∧ (0 ≤ r ↔ Ls.any P = true)) ∧ ms = [.lv true [(0, .ints .u8 (Ls.length * 10) Ls.flatten)], .lv true g0] ∧ ns = []) := by
  refine acalls_of_body mix Try.func112 rfl fok112 (Nat.le_of_ble_eq_true rfl) ?_
  unfold abody
  simp only [absE, absL, absF, reduceCtorEq, ↓reduceIte, Nat.reduceEqDiff, Nat.reduceAdd, Nat.reduceLT, Nat.reduceMul, Nat.reduceSub, Nat.reduceLeDiff, Int.reduceLT, Int.reduceLE, Int.reduceEq, Option.isSome_some, implies_true, false_implies, Prod.mk.injEq, ne_eq, not_false_eq_true, not_true_eq_false, ge_iff_le, gt_iff_lt, Int.toNat_natCast, Int.reduceToNat, Int.cast_ofNat_Int, Int.natCast_nonneg, Try.f112]
  refine awpLoop.intro (fun i : Nat => [(0, .ref (.sl 0 0 0 0 Ls.length 10)), (1, .ref (.fn f [(0, 1, 0, 0)])), (7, .i .i64 Ls.length), (8, .i .i64 i)]) (fun i => ⟨[.lv true [(0, .ints .u8 (Ls.length * 10) Ls.flatten)], .lv true g0], [], 5⟩)
    (fun i => i ≤ Ls.length ∧ ∀ j, j < i → P (Ls.getD j []) = false) (fun i => Ls.length - i) 0 ⟨by omega, fun j hj => absurd hj (by omega)⟩ ⟨[], rfl, ?_, ?_⟩ ?_
  · simp [wkEnv, lk, renV, renAt, renTo, e0, renCaps]
  · simp [wkMem, wkLoc, Mem.get, assoc, renBlk, renSegs, renSg, renTo, e0, renCaps]
  · rintro i ⟨hi, hp⟩
    by_cases h : (i : Int) < Ls.length
    · have w := wrap_i64s (show i < 2 ^ 62 by omega)
      have hi2 : i < Ls.length := by omega
      have u1 : 0 + i * 10 + 10 ≤ Ls.length * 10 := by omega
      have k1 : (Ls.flatten.drop (0 + i * 10)).take 10 = Ls.getD i [] := by rw [Nat.zero_add]; exact flat_get hM hi2
      have hm := getD_mem hi2
      by_cases h10 : Ls.length * 10 = 10
      · have e1 := flat_one hM h10 hi2
        have hm1 : Ls.flatten ∈ Ls := by rw [e1]; exact hm
        simp only [absE, absL, absF, reduceCtorEq, ↓reduceIte, Nat.reduceEqDiff, Nat.reduceAdd, Nat.reduceLT, Nat.reduceMul, Nat.reduceSub, Nat.reduceLeDiff, Int.reduceLT, Int.reduceLE, Int.reduceEq, Option.isSome_some, implies_true, false_implies, Prod.mk.injEq, ne_eq, not_false_eq_true, not_true_eq_false, ge_iff_le, gt_iff_lt, Int.toNat_natCast, Int.reduceToNat, Int.cast_ofNat_Int, Int.natCast_nonneg, h, h10]
        repeat refine And.intro (by omega) ?_
        refine CallsVia.args [(0, 1)] (hf _ hm1) (by simp) (by simp [Mem.get]) rfl (by simp [argBlks, Mem.get, renBlk, e0]) ?_
        rintro _ _ _ ⟨rfl, rfl, rfl⟩
        cases hb : P Ls.flatten
        · simp only [absE, absL, absF, reduceCtorEq, ↓reduceIte, Nat.reduceEqDiff, Nat.reduceAdd, Nat.reduceLT, Nat.reduceMul, Nat.reduceSub, Nat.reduceLeDiff, Int.reduceLT, Int.reduceLE, Int.reduceEq, Option.isSome_some, implies_true, false_implies, Prod.mk.injEq, ne_eq, not_false_eq_true, not_true_eq_false, ge_iff_le, gt_iff_lt, Int.toNat_natCast, Int.reduceToNat, Int.cast_ofNat_Int, Int.natCast_nonneg, e0]
          refine LoopNext.intro (i + 1) ⟨by omega, fun j hj => ?_⟩ (by omega) ⟨[], rfl, ?_, ?_⟩
          · by_cases ej : j = i
            · subst ej; rw [← e1]; exact hb
            · exact hp j (by omega)
          · simp [wkEnv, lk, renV, renAt, renTo, e0, w, renCaps, h10]
          · simp [wkMem, wkLoc, Mem.get, assoc, renBlk, renSegs, renSg, renTo, e0, w, renCaps, h10]
        · simp only [absE, absL, absF, reduceCtorEq, ↓reduceIte, Nat.reduceEqDiff, Nat.reduceAdd, Nat.reduceLT, Nat.reduceMul, Nat.reduceSub, Nat.reduceLeDiff, Int.reduceLT, Int.reduceLE, Int.reduceEq, Option.isSome_some, implies_true, false_implies, Prod.mk.injEq, ne_eq, not_false_eq_true, not_true_eq_false, ge_iff_le, gt_iff_lt, Int.toNat_natCast, Int.reduceToNat, Int.cast_ofNat_Int, Int.natCast_nonneg, e0, Try.results112]
          refine ⟨[], by simp, by simp, ⟨i, by simp [renV], ?_⟩, by simp [renBlk, renSegs, renSg, e0, h10], by simp⟩
          exact ⟨fun _ => List.any_eq_true.2 ⟨_, hm1, hb⟩, fun _ => by omega⟩
      · have h11 : 10 < Ls.length * 10 := by omega
        simp only [absE, absL, absF, reduceCtorEq, ↓reduceIte, Nat.reduceEqDiff, Nat.reduceAdd, Nat.reduceLT, Nat.reduceMul, Nat.reduceSub, Nat.reduceLeDiff, Int.reduceLT, Int.reduceLE, Int.reduceEq, Option.isSome_some, implies_true, false_implies, Prod.mk.injEq, ne_eq, not_false_eq_true, not_true_eq_false, ge_iff_le, gt_iff_lt, Int.toNat_natCast, Int.reduceToNat, Int.cast_ofNat_Int, Int.natCast_nonneg, h, u1, k1, h10, h11]
        refine CallsVia.args [(0, 1)] (hf _ hm) (by simp) (by simp [Mem.get]) rfl (by simp [argBlks, Mem.get, renBlk, e0]) ?_
        rintro _ _ _ ⟨rfl, rfl, rfl⟩
        cases hb : P (Ls.getD i [])
        · simp only [absE, absL, absF, reduceCtorEq, ↓reduceIte, Nat.reduceEqDiff, Nat.reduceAdd, Nat.reduceLT, Nat.reduceMul, Nat.reduceSub, Nat.reduceLeDiff, Int.reduceLT, Int.reduceLE, Int.reduceEq, Option.isSome_some, implies_true, false_implies, Prod.mk.injEq, ne_eq, not_false_eq_true, not_true_eq_false, ge_iff_le, gt_iff_lt, Int.toNat_natCast, Int.reduceToNat, Int.cast_ofNat_Int, Int.natCast_nonneg, e0]
          refine LoopNext.intro (i + 1) ⟨by omega, fun j hj => ?_⟩ (by omega) ⟨[], rfl, ?_, ?_⟩
          · by_cases ej : j = i
            · subst ej; exact hb
            · exact hp j (by omega)
          · simp [wkEnv, lk, renV, renAt, renTo, e0, w, renCaps]
          · simp [wkMem, wkLoc, Mem.get, assoc, renBlk, renSegs, renSg, renTo, e0, w, renCaps]
        · simp only [absE, absL, absF, reduceCtorEq, ↓reduceIte, Nat.reduceEqDiff, Nat.reduceAdd, Nat.reduceLT, Nat.reduceMul, Nat.reduceSub, Nat.reduceLeDiff, Int.reduceLT, Int.reduceLE, Int.reduceEq, Option.isSome_some, implies_true, false_implies, Prod.mk.injEq, ne_eq, not_false_eq_true, not_true_eq_false, ge_iff_le, gt_iff_lt, Int.toNat_natCast, Int.reduceToNat, Int.cast_ofNat_Int, Int.natCast_nonneg, e0, Try.results112]
          refine ⟨[], by simp, by simp, ⟨i, by simp [renV], ?_⟩, by simp [renBlk, renSegs, renSg, e0], by simp⟩
          exact ⟨fun _ => List.any_eq_true.2 ⟨_, hm, hb⟩, fun _ => by omega⟩
    · simp only [absE, absL, absF, reduceCtorEq, ↓reduceIte, Nat.reduceEqDiff, Nat.reduceAdd, Nat.reduceLT, Nat.reduceMul, Nat.reduceSub, Nat.reduceLeDiff, Int.reduceLT, Int.reduceLE, Int.reduceEq, Option.isSome_some, implies_true, false_implies, Prod.mk.injEq, ne_eq, not_false_eq_true, not_true_eq_false, ge_iff_le, gt_iff_lt, Int.toNat_natCast, Int.reduceToNat, Int.cast_ofNat_Int, Int.natCast_nonneg, h, Try.results112]
      refine ⟨[], by simp, by simp, ⟨-1, by simp [renV], ?_⟩, by simp [renBlk, renSegs, renSg, e0], by simp⟩
      refine ⟨fun h => absurd h (by omega), fun h => ?_⟩
      obtain ⟨p, hm, hb⟩ := List.any_eq_true.1 h
      obtain ⟨j, hj, e⟩ := List.getElem_of_mem hm
      have := hp j (by omega)
      rw [show Ls.getD j [] = p by simp [hj, e], hb] at this
      cases this
theorem containsFunc_ok (Ls : List (List Int)) (f : FuncId) (P : List Int → Bool) (g0 : Segs) (e0 : ∀ ρ, renSegs ρ g0 = g0) (hM : Maps Ls) (hl : Ls.length < 2 ^ 30)
    (hf : ∀ p ∈ Ls, ACalls Try.prog f [.agg (plS p), .ref (.ptr 0 0 0 0)] [.lv true g0] (fun v ms ns => v = .b (P p) ∧ ms = [.lv true g0] ∧ ns = [])) :
    ACalls Try.prog 70 [.ref (.sl 0 0 0 0 Ls.length 10), .ref (.fn f [(0, 1, 0, 0)])] [.lv true [(0, .ints .u8 (Ls.length * 10) Ls.flatten)], .lv true g0]
      (fun v ms ns => v = .b (Ls.any P) ∧ ms = [.lv true [(0, .ints .u8 (Ls.length * 10) Ls.flatten)], .lv true g0] ∧ ns = []) := by
  refine acalls_of_body mix Try.func70 rfl fok70 (Nat.le_of_ble_eq_true rfl) ?_
  unfold abody
  simp only [absE, absL, absF, reduceCtorEq, ↓reduceIte, Nat.reduceEqDiff, Nat.reduceAdd, Nat.reduceLT, Nat.reduceMul, Nat.reduceSub, Nat.reduceLeDiff, Int.reduceLT, Int.reduceLE, Int.reduceEq, Option.isSome_some, implies_true, false_implies, Prod.mk.injEq, ne_eq, not_false_eq_true, not_true_eq_false, ge_iff_le, gt_iff_lt, Int.toNat_natCast, Int.reduceToNat, Int.cast_ofNat_Int, Int.natCast_nonneg, Try.f70]
  refine CallsVia.args [(0, 0), (0, 1)] (indexFunc_ok Ls f P g0 e0 hM hl hf) (by simp) (by simp [Mem.get]) rfl (by simp [argBlks, Mem.get, renBlk, renSegs, renSg, e0]) ?_
  rintro _ _ _ ⟨⟨r, rfl, hr⟩, rfl, rfl⟩
  simp only [absE, absL, absF, reduceCtorEq, ↓reduceIte, Nat.reduceEqDiff, Nat.reduceAdd, Nat.reduceLT, Nat.reduceMul, Nat.reduceSub, Nat.reduceLeDiff, Int.reduceLT, Int.reduceLE, Int.reduceEq, Option.isSome_some, implies_true, false_implies, Prod.mk.injEq, ne_eq, not_false_eq_true, not_true_eq_false, ge_iff_le, gt_iff_lt, Int.toNat_natCast, Int.reduceToNat, Int.cast_ofNat_Int, Int.natCast_nonneg, e0, Try.results70]
  refine ⟨[], by simp, by simp, ?_, by simp [renBlk, renSegs, renSg, e0], by simp⟩
  have : decide (0 ≤ r) = Ls.any P := by rw [Bool.eq_iff_iff, decide_eq_true_iff]; exact hr
  simp [renV, this]
/-! each map once -/
def freshR (out : List (List Int)) (p : List Int) : Nat → Bool
  | 0 => true
  | k + 1 => freshR out p k && !decide (out.getD k [] = p)
theorem freshR_iff {out : List (List Int)} {p : List Int} : ∀ {n}, freshR out p n = true ↔ ∀ k, k < n → out.getD k [] ≠ p
  | 0 => by simp [freshR]
  | n + 1 => by
    rw [freshR, Bool.and_eq_true, freshR_iff]
    simp only [Bool.not_eq_true', decide_eq_false_iff_not]
    constructor
    · rintro ⟨h1, h2⟩ y hy
      by_cases e : y = n
      · subst e; exact h2
      · exact h1 y (by omega)
    · intro h; exact ⟨fun y hy => h y (by omega), h n (by omega)⟩
def dedR (Ls : List (List Int)) : Nat → List (List Int)
  | 0 => []
  | i + 1 => if freshR (dedR Ls i) (Ls.getD i []) (dedR Ls i).length then dedR Ls i ++ [Ls.getD i []] else dedR Ls i
theorem dedR_len {Ls : List (List Int)} : ∀ {i}, (dedR Ls i).length ≤ i
  | 0 => by simp [dedR]
  | i + 1 => by have := dedR_len (Ls := Ls) (i := i); unfold dedR; split <;> simp <;> omega
theorem dedR_sub {Ls : List (List Int)} : ∀ {i}, i ≤ Ls.length → ∀ p ∈ dedR Ls i, p ∈ Ls
  | 0, _, p, hp => by cases hp
  | i + 1, hi, p, hp => by
    unfold dedR at hp
    split at hp
    · rcases List.mem_append.1 hp with h1 | h1
      · exact dedR_sub (show i ≤ Ls.length by omega) p h1
      · have e : p = Ls.getD i [] := by simpa using h1
        rw [e]; exact getD_mem (by omega)
    · exact dedR_sub (show i ≤ Ls.length by omega) p hp
theorem dedR_has {Ls : List (List Int)} : ∀ {i j}, j < i → Ls.getD j [] ∈ dedR Ls i
  | 0, j, h => absurd h (by omega)
  | i + 1, j, h => by
    unfold dedR
    by_cases e : j = i
    · subst e
      split
      · simp
      · rename_i hf
        apply Decidable.byContradiction; intro hn
        apply hf
        rw [freshR_iff]
        intro k hk e
        exact hn (e ▸ getD_mem hk)
    · split
      · exact List.mem_append_left _ (dedR_has (by omega))
      · exact dedR_has (by omega)
theorem dedR_any {Ls : List (List Int)} {P : List Int → Bool} : (dedR Ls Ls.length).any P = Ls.any P := by
  rw [Bool.eq_iff_iff, List.any_eq_true, List.any_eq_true]
  constructor
  · rintro ⟨p, h1, h2⟩; exact ⟨p, dedR_sub (Nat.le_refl _) p h1, h2⟩
  · rintro ⟨p, h1, h2⟩
    obtain ⟨j, hj, e⟩ := List.getElem_of_mem h1
    have := dedR_has (Ls := Ls) hj
    rw [show Ls.getD j [] = p by simp [hj, e]] at this
    exact ⟨p, this, h2⟩
theorem l04Inner_ok (N : Nat) (t : List Int) (ht : Bytes 100 t) (hs : SqP N t) :
    ACalls Try.prog 67 [.agg (sqS N t)] [] (fun v ms ns => v = .ref (.sl 1 0 0 0 (dedR (inT N t N) (inT N t N).length).length 10) ∧ ms = [] ∧ ns = [.lv true [(0, .ints .u8 ((dedR (inT N t N) (inT N t N).length).length * 10) (dedR (inT N t N) (inT N t N).length).flatten)]]) := by
  have hN := hs.le
  refine acalls_of_body mix Try.func67 rfl fok67 (Nat.le_of_ble_eq_true rfl) ?_
  unfold abody
  simp only [absE, absL, absF, reduceCtorEq, ↓reduceIte, Nat.reduceEqDiff, Nat.reduceAdd, Nat.reduceLT, Nat.reduceMul, Nat.reduceSub, Nat.reduceLeDiff, Int.reduceLT, Int.reduceLE, Int.reduceEq, Option.isSome_some, implies_true, false_implies, Prod.mk.injEq, ne_eq, not_false_eq_true, not_true_eq_false, ge_iff_le, gt_iff_lt, Int.toNat_natCast, Int.reduceToNat, Int.cast_ofNat_Int, Int.natCast_nonneg, Try.f67]
  refine awpLoop.intro (fun x : Nat => [(1, .ref (.ptr 1 0 0 0)), (3, .ref (.sl 3 0 0 0 (inT N t x).length 10)), (4, .i .i64 x)]) (fun x => ⟨[], [((1, 0), .lv true (sqS N t)), ((3, 0), .lv true ([(0, .ints .u8 ((inT N t x).length * 10) (inT N t x).flatten)]))], 6⟩)
    (fun x => x ≤ N) (fun x => N - x) 0 (by omega) ⟨[((1,0),(1,0)), ((3,0),(3,0))], rfl, ?_, ?_⟩ ?_
  · simp [wkEnv, lk, renV, renAt, renTo, inT]
  · simp [wkMem, wkLoc, Mem.get, assoc, renBlk, renSegs, renSg, renTo, inT]
  · intro x hx
    by_cases h : (x : Int) < N
    · have w := wrap_i64s (show x < 2 ^ 62 by omega)
      have w8 := wrap_u8n (show x < 256 by omega)
      have hl := inT_len (t := t) hN (x := x)
      simp only [absE, absL, absF, reduceCtorEq, ↓reduceIte, Nat.reduceEqDiff, Nat.reduceAdd, Nat.reduceLT, Nat.reduceMul, Nat.reduceSub, Nat.reduceLeDiff, Int.reduceLT, Int.reduceLE, Int.reduceEq, Option.isSome_some, implies_true, false_implies, Prod.mk.injEq, ne_eq, not_false_eq_true, not_true_eq_false, ge_iff_le, gt_iff_lt, Int.toNat_natCast, Int.reduceToNat, Int.cast_ofNat_Int, Int.natCast_nonneg, h, w8]
      refine CallsVia.none (specTurn_ok N t x ht hs (by omega)) ?_
      rintro _ _ _ ⟨rfl, rfl, rfl⟩
      simp only [absE, absL, absF, reduceCtorEq, ↓reduceIte, Nat.reduceEqDiff, Nat.reduceAdd, Nat.reduceLT, Nat.reduceMul, Nat.reduceSub, Nat.reduceLeDiff, Int.reduceLT, Int.reduceLE, Int.reduceEq, Option.isSome_some, implies_true, false_implies, Prod.mk.injEq, ne_eq, not_false_eq_true, not_true_eq_false, ge_iff_le, gt_iff_lt, Int.toNat_natCast, Int.reduceToNat, Int.cast_ofNat_Int, Int.natCast_nonneg]
      repeat refine And.intro (by omega) ?_
      refine awpLoop.intro (fun y : Nat => [(1, .ref (.ptr 1 0 0 0)), (3, .ref (.sl 16 0 0 0 (inIn N t x (inT N t x) y).length 10)), (4, .i .i64 x), (5, .i .i64 y)]) (fun y => ⟨[], [((1, 0), .lv true (sqS N t)), ((16, 0), .lv true ([(0, .ints .u8 ((inIn N t x (inT N t x) y).length * 10) (inIn N t x (inT N t x) y).flatten)]))], 19⟩)
        (fun y => y ≤ N) (fun y => N - y) 0 (by omega) ⟨[((1,0),(1,0)), ((16,0),(16,0))], rfl, ?_, ?_⟩ ?_
      · simp [wkEnv, lk, renV, renAt, renTo, inIn, Nat.add_mul]
      · simp [wkMem, wkLoc, Mem.get, assoc, renBlk, renSegs, renSg, renTo, inIn, Nat.add_mul]
      · intro y hy
        by_cases h' : (y : Int) < N
        · have w' := wrap_i64s (show y < 2 ^ 62 by omega)
          have wy := wrap_u8n (show y < 256 by omega)
          have hl2 := inIn_len (N := N) (t := t) (x := x) (Ls := inT N t x) (y := y)
          simp only [absE, absL, absF, reduceCtorEq, ↓reduceIte, Nat.reduceEqDiff, Nat.reduceAdd, Nat.reduceLT, Nat.reduceMul, Nat.reduceSub, Nat.reduceLeDiff, Int.reduceLT, Int.reduceLE, Int.reduceEq, Option.isSome_some, implies_true, false_implies, Prod.mk.injEq, ne_eq, not_false_eq_true, not_true_eq_false, ge_iff_le, gt_iff_lt, Int.toNat_natCast, Int.reduceToNat, Int.cast_ofNat_Int, Int.natCast_nonneg, h', w8, wy]
          refine CallsX.none (specLeftInner_ok N t x y ht hs (by omega) (by omega)) ?_
          simp only [absE, absL, absF, reduceCtorEq, ↓reduceIte, Nat.reduceEqDiff, Nat.reduceAdd, Nat.reduceLT, Nat.reduceMul, Nat.reduceSub, Nat.reduceLeDiff, Int.reduceLT, Int.reduceLE, Int.reduceEq, Option.isSome_some, implies_true, false_implies, Prod.mk.injEq, ne_eq, not_false_eq_true, not_true_eq_false, ge_iff_le, gt_iff_lt, Int.toNat_natCast, Int.reduceToNat, Int.cast_ofNat_Int, Int.natCast_nonneg, w8, wy]
          refine CallsX.none (specRightInner_ok N t x y ht hs (by omega) (by omega)) ?_
          have hsp := spl_two (p := leftL N t x y) (q := rightL N t x y) mapL_len mapL_len
          simp only [absE, absL, absF, reduceCtorEq, ↓reduceIte, Nat.reduceEqDiff, Nat.reduceAdd, Nat.reduceLT, Nat.reduceMul, Nat.reduceSub, Nat.reduceLeDiff, Int.reduceLT, Int.reduceLE, Int.reduceEq, Option.isSome_some, implies_true, false_implies, Prod.mk.injEq, ne_eq, not_false_eq_true, not_true_eq_false, ge_iff_le, gt_iff_lt, Int.toNat_natCast, Int.reduceToNat, Int.cast_ofNat_Int, Int.natCast_nonneg, hsp]
          repeat refine And.intro (by omega) ?_
          repeat refine And.intro (by decide +kernel) ?_
          refine LoopNext.intro (y + 1) (by omega) (by omega) ⟨[((1,0),(1,0)), ((37,0),(16,0))], rfl, ?_, ?_⟩
          · simp [wkEnv, lk, renV, renAt, renTo, inIn, Nat.add_mul, w']
          · simp [wkMem, wkLoc, Mem.get, assoc, renBlk, renSegs, renSg, renTo, inIn, Nat.add_mul, w']
        · have hyN : y = N := by omega
          subst hyN
          simp only [absE, absL, absF, reduceCtorEq, ↓reduceIte, Nat.reduceEqDiff, Nat.reduceAdd, Nat.reduceLT, Nat.reduceMul, Nat.reduceSub, Nat.reduceLeDiff, Int.reduceLT, Int.reduceLE, Int.reduceEq, Option.isSome_some, implies_true, false_implies, Prod.mk.injEq, ne_eq, not_false_eq_true, not_true_eq_false, ge_iff_le, gt_iff_lt, Int.toNat_natCast, Int.reduceToNat, Int.cast_ofNat_Int, Int.natCast_nonneg, h', w]
          refine LoopNext.intro (x + 1) (by omega) (by omega) ⟨[((1,0),(1,0)), ((16,0),(3,0))], rfl, ?_, ?_⟩
          · simp [wkEnv, lk, renV, renAt, renTo, inT]
          · simp [wkMem, wkLoc, Mem.get, assoc, renBlk, renSegs, renSg, renTo, inT]
    · have hxN : x = N := by omega
      subst hxN
      have hM := inT_maps (N := x) (t := t) (x := x)
      have hl := inT_len (t := t) hN (x := x)
      have hl0 : 0 < x → 3 ≤ (inT x t x).length := fun h0 => by
        obtain ⟨y, rfl⟩ : ∃ y, x = y + 1 := ⟨x - 1, by omega⟩
        rw [inT, inIn_len]; omega
      have hpos := hs.pos
      simp only [absE, absL, absF, reduceCtorEq, ↓reduceIte, Nat.reduceEqDiff, Nat.reduceAdd, Nat.reduceLT, Nat.reduceMul, Nat.reduceSub, Nat.reduceLeDiff, Int.reduceLT, Int.reduceLE, Int.reduceEq, Option.isSome_some, implies_true, false_implies, Prod.mk.injEq, ne_eq, not_false_eq_true, not_true_eq_false, ge_iff_le, gt_iff_lt, Int.toNat_natCast, Int.reduceToNat, Int.cast_ofNat_Int, Int.natCast_nonneg, h]
      generalize inT x t x = L at hM hl hl0
      refine awpLoop.intro (fun i : Nat => [(3, .ref (.sl 3 0 0 0 L.length 10)), (6, .ref (.sl 10 0 0 0 (dedR L i).length 10)), (7, .i .i64 i)]) (fun i => ⟨[], [((3, 0), .lv true ([(0, .ints .u8 (L.length * 10) L.flatten)])), ((10, 0), .lv true ([(0, .ints .u8 ((dedR L i).length * 10) (dedR L i).flatten)]))], 13⟩)
        (fun i => i ≤ L.length) (fun i => L.length - i) 0 (by omega) ⟨[((3,0),(3,0)), ((10,0),(10,0))], rfl, ?_, ?_⟩ ?_
      · simp [wkEnv, lk, renV, renAt, renTo, dedR]
      · simp [wkMem, wkLoc, Mem.get, assoc, renBlk, renSegs, renSg, renTo, dedR]
      · intro i hi
        by_cases h2 : (i : Int) < L.length
        · have w := wrap_i64s (show i < 2 ^ 62 by omega)
          have hi2 : i < L.length := by omega
          have hdl := dedR_len (Ls := L) (i := i)
          have hdM : Maps (dedR L i) := fun p hp => hM p (dedR_sub hi p hp)
          have u1 : 0 + i * 10 + 10 ≤ L.length * 10 := by omega
          have a1 : ¬ L.length * 10 = 10 := by omega
          have a2 : 10 < L.length * 10 := by omega
          have k1 : (L.flatten.drop (0 + i * 10)).take 10 = L.getD i [] := by rw [Nat.zero_add]; exact flat_get hM hi2
          simp only [absE, absL, absF, reduceCtorEq, ↓reduceIte, Nat.reduceEqDiff, Nat.reduceAdd, Nat.reduceLT, Nat.reduceMul, Nat.reduceSub, Nat.reduceLeDiff, Int.reduceLT, Int.reduceLE, Int.reduceEq, Option.isSome_some, implies_true, false_implies, Prod.mk.injEq, ne_eq, not_false_eq_true, not_true_eq_false, ge_iff_le, gt_iff_lt, Int.toNat_natCast, Int.reduceToNat, Int.cast_ofNat_Int, Int.natCast_nonneg, h2]
          refine awpLoop.intro (fun k : Nat => [(3, .ref (.sl 3 0 0 0 L.length 10)), (6, .ref (.sl 10 0 0 0 (dedR L i).length 10)), (7, .i .i64 i), (8, .b (freshR (dedR L i) (L.getD i []) k)), (9, .i .i64 k)]) (fun k => ⟨[], [((3, 0), .lv true ([(0, .ints .u8 (L.length * 10) L.flatten)])), ((10, 0), .lv true ([(0, .ints .u8 ((dedR L i).length * 10) (dedR L i).flatten)]))], 19⟩)
            (fun k => k ≤ (dedR L i).length) (fun k => (dedR L i).length - k) 0 (by omega) ⟨[((3,0),(3,0)), ((10,0),(10,0))], rfl, ?_, ?_⟩ ?_
          · simp [wkEnv, lk, renV, renAt, renTo, freshR]
          · simp [wkMem, wkLoc, Mem.get, assoc, renBlk, renSegs, renSg, renTo, freshR]
          · intro k hk
            by_cases h3 : (k : Int) < (dedR L i).length
            · have w' := wrap_i64s (show k < 2 ^ 62 by omega)
              have hk2 : k < (dedR L i).length := by omega
              have v1 : 0 + k * 10 + 10 ≤ (dedR L i).length * 10 := by omega
              have k2 : ((dedR L i).flatten.drop (0 + k * 10)).take 10 = (dedR L i).getD k [] := by rw [Nat.zero_add]; exact flat_get hdM hk2
              cases hb : freshR (dedR L i) (L.getD i []) k
              · simp only [absE, absL, absF, reduceCtorEq, ↓reduceIte, Nat.reduceEqDiff, Nat.reduceAdd, Nat.reduceLT, Nat.reduceMul, Nat.reduceSub, Nat.reduceLeDiff, Int.reduceLT, Int.reduceLE, Int.reduceEq, Option.isSome_some, implies_true, false_implies, Prod.mk.injEq, ne_eq, not_false_eq_true, not_true_eq_false, ge_iff_le, gt_iff_lt, Int.toNat_natCast, Int.reduceToNat, Int.cast_ofNat_Int, Int.natCast_nonneg, h3, hb]
                refine LoopNext.intro (k + 1) (by omega) (by omega) ⟨[((3,0),(3,0)), ((10,0),(10,0))], rfl, ?_, ?_⟩
                · simp only [freshR, hb]; simp [wkEnv, lk, renV, renAt, renTo, w']
                · simp [wkMem, wkLoc, Mem.get, assoc, renBlk, renSegs, renSg, renTo]
              · by_cases h10 : (dedR L i).length * 10 = 10
                · have e1 := flat_one hdM h10 hk2
                  by_cases hc : (dedR L i).flatten = L.getD i []
                  · have hc2 : (dedR L i).getD k [] = L.getD i [] := by rw [← e1]; exact hc
                    simp only [absE, absL, absF, reduceCtorEq, ↓reduceIte, Nat.reduceEqDiff, Nat.reduceAdd, Nat.reduceLT, Nat.reduceMul, Nat.reduceSub, Nat.reduceLeDiff, Int.reduceLT, Int.reduceLE, Int.reduceEq, Option.isSome_some, implies_true, false_implies, Prod.mk.injEq, ne_eq, not_false_eq_true, not_true_eq_false, ge_iff_le, gt_iff_lt, Int.toNat_natCast, Int.reduceToNat, Int.cast_ofNat_Int, Int.natCast_nonneg, h2, h3, hb, h10, u1, k1, a1, a2, hc]
                    repeat refine And.intro (by omega) ?_
                    refine LoopNext.intro (k + 1) (by omega) (by omega) ⟨[((3,0),(3,0)), ((10,0),(10,0))], rfl, ?_, ?_⟩
                    · simp only [freshR, hb, hc2]; simp [wkEnv, lk, renV, renAt, renTo, w']
                    · simp [wkMem, wkLoc, Mem.get, assoc, renBlk, renSegs, renSg, renTo, h10, hc]
                  · have hc2 : ¬(dedR L i).getD k [] = L.getD i [] := by rw [← e1]; exact hc
                    simp only [absE, absL, absF, reduceCtorEq, ↓reduceIte, Nat.reduceEqDiff, Nat.reduceAdd, Nat.reduceLT, Nat.reduceMul, Nat.reduceSub, Nat.reduceLeDiff, Int.reduceLT, Int.reduceLE, Int.reduceEq, Option.isSome_some, implies_true, false_implies, Prod.mk.injEq, ne_eq, not_false_eq_true, not_true_eq_false, ge_iff_le, gt_iff_lt, Int.toNat_natCast, Int.reduceToNat, Int.cast_ofNat_Int, Int.natCast_nonneg, h2, h3, hb, h10, u1, k1, a1, a2, hc]
                    repeat refine And.intro (by omega) ?_
                    refine LoopNext.intro (k + 1) (by omega) (by omega) ⟨[((3,0),(3,0)), ((10,0),(10,0))], rfl, ?_, ?_⟩
                    · simp only [freshR, hb, hc2]; simp [wkEnv, lk, renV, renAt, renTo, w']
                    · simp [wkMem, wkLoc, Mem.get, assoc, renBlk, renSegs, renSg, renTo, h10]
                · have h11 : 10 < (dedR L i).length * 10 := by omega
                  by_cases hc2 : (dedR L i).getD k [] = L.getD i []
                  · simp only [absE, absL, absF, reduceCtorEq, ↓reduceIte, Nat.reduceEqDiff, Nat.reduceAdd, Nat.reduceLT, Nat.reduceMul, Nat.reduceSub, Nat.reduceLeDiff, Int.reduceLT, Int.reduceLE, Int.reduceEq, Option.isSome_some, implies_true, false_implies, Prod.mk.injEq, ne_eq, not_false_eq_true, not_true_eq_false, ge_iff_le, gt_iff_lt, Int.toNat_natCast, Int.reduceToNat, Int.cast_ofNat_Int, Int.natCast_nonneg, h2, h3, hb, h10, h11, u1, v1, k1, k2, a1, a2, hc2]
                    refine LoopNext.intro (k + 1) (by omega) (by omega) ⟨[((3,0),(3,0)), ((10,0),(10,0))], rfl, ?_, ?_⟩
                    · simp only [freshR, hb, hc2]; simp [wkEnv, lk, renV, renAt, renTo, w']
                    · simp [wkMem, wkLoc, Mem.get, assoc, renBlk, renSegs, renSg, renTo]
                  · simp only [absE, absL, absF, reduceCtorEq, ↓reduceIte, Nat.reduceEqDiff, Nat.reduceAdd, Nat.reduceLT, Nat.reduceMul, Nat.reduceSub, Nat.reduceLeDiff, Int.reduceLT, Int.reduceLE, Int.reduceEq, Option.isSome_some, implies_true, false_implies, Prod.mk.injEq, ne_eq, not_false_eq_true, not_true_eq_false, ge_iff_le, gt_iff_lt, Int.toNat_natCast, Int.reduceToNat, Int.cast_ofNat_Int, Int.natCast_nonneg, h2, h3, hb, h10, h11, u1, v1, k1, k2, a1, a2, hc2]
                    refine LoopNext.intro (k + 1) (by omega) (by omega) ⟨[((3,0),(3,0)), ((10,0),(10,0))], rfl, ?_, ?_⟩
                    · simp only [freshR, hb, hc2]; simp [wkEnv, lk, renV, renAt, renTo, w']
                    · simp [wkMem, wkLoc, Mem.get, assoc, renBlk, renSegs, renSg, renTo]
            · have hkN : k = (dedR L i).length := by omega
              subst hkN
              cases hb : freshR (dedR L i) (L.getD i []) (dedR L i).length
              · simp only [absE, absL, absF, reduceCtorEq, ↓reduceIte, Nat.reduceEqDiff, Nat.reduceAdd, Nat.reduceLT, Nat.reduceMul, Nat.reduceSub, Nat.reduceLeDiff, Int.reduceLT, Int.reduceLE, Int.reduceEq, Option.isSome_some, implies_true, false_implies, Prod.mk.injEq, ne_eq, not_false_eq_true, not_true_eq_false, ge_iff_le, gt_iff_lt, Int.toNat_natCast, Int.reduceToNat, Int.cast_ofNat_Int, Int.natCast_nonneg, h3, hb]
                refine LoopNext.intro (i + 1) (by omega) (by omega) ⟨[((3,0),(3,0)), ((10,0),(10,0))], rfl, ?_, ?_⟩
                · simp only [dedR, hb]; simp [wkEnv, lk, renV, renAt, renTo, w]
                · simp only [dedR, hb]; simp [wkMem, wkLoc, Mem.get, assoc, renBlk, renSegs, renSg, renTo]
              · simp only [absE, absL, absF, reduceCtorEq, ↓reduceIte, Nat.reduceEqDiff, Nat.reduceAdd, Nat.reduceLT, Nat.reduceMul, Nat.reduceSub, Nat.reduceLeDiff, Int.reduceLT, Int.reduceLE, Int.reduceEq, Option.isSome_some, implies_true, false_implies, Prod.mk.injEq, ne_eq, not_false_eq_true, not_true_eq_false, ge_iff_le, gt_iff_lt, Int.toNat_natCast, Int.reduceToNat, Int.cast_ofNat_Int, Int.natCast_nonneg, h2, h3, hb, u1, k1, a1, a2]
                repeat refine And.intro (by omega) ?_
                refine LoopNext.intro (i + 1) (by omega) (by omega) ⟨[((3,0),(3,0)), ((30,0),(10,0))], rfl, ?_, ?_⟩
                · simp only [dedR, hb, if_true]; simp [wkEnv, lk, renV, renAt, renTo, w]
                · simp only [dedR, hb, if_true]; simp [wkMem, wkLoc, Mem.get, assoc, renBlk, renSegs, renSg, renTo, Nat.add_mul]
        · have hiN : i = L.length := by omega
          subst hiN
          simp only [absE, absL, absF, reduceCtorEq, ↓reduceIte, Nat.reduceEqDiff, Nat.reduceAdd, Nat.reduceLT, Nat.reduceMul, Nat.reduceSub, Nat.reduceLeDiff, Int.reduceLT, Int.reduceLE, Int.reduceEq, Option.isSome_some, implies_true, false_implies, Prod.mk.injEq, ne_eq, not_false_eq_true, not_true_eq_false, ge_iff_le, gt_iff_lt, Int.toNat_natCast, Int.reduceToNat, Int.cast_ofNat_Int, Int.natCast_nonneg, h2, Try.results67]
          exact ⟨[(10, 0)], by simp, by simp, by simp [renV, renAt, renFin, idx], by simp, by simp [renBlk, renSegs, renSg, Mem.get, assoc]⟩

end Go.Proofs.Ytgcfkdgdlllgjaa
