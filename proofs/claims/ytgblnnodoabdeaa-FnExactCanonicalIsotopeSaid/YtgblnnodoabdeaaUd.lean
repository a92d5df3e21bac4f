/-
Contracts of functions of the given program, by the abstract walk.
-/
import Derived.Test.YtgblnnodoabdeaaAbsY
import Derived.Test.YtgblnnodoabdeaaUc
import Derived.Test.YtgblnnodoabdeaaDg
namespace Go.Proofs.Ytgblnnodoabdeaa
open Go Go.Abs
set_option linter.unusedVariables false
set_option linter.unusedSectionVars false
set_option linter.unusedSimpArgs false
set_option maxRecDepth 100000
/-! the reference's canonical loop -/
def swp (p : List Int) (k i : Nat) : List Int := (p.set k (p.getD i 0)).set i (p.getD k 0)
theorem swp_pl {p : List Int} (hp : p.length = 10) {k i j : Nat} (hk : k < 10) (hi : i < 10) : pl (swp p k i) j = if i = j then pl p k else if k = j then pl p i else pl p j := by
  unfold pl swp
  rw [getD_set_int (by rw [List.length_set]; omega)]
  split
  · rfl
  · rw [getD_set_int (by omega)]
    split <;> rfl
theorem swp_bytes {p : List Int} (hp : Bytes 10 p) {k i : Nat} : Bytes 10 (swp p k i) := bytes_put (bytes_put hp (hp.rng _).1 (hp.rng _).2) (hp.rng _).1 (hp.rng _).2
theorem swp_perm {N : Nat} {p : List Int} (hp : Bytes 10 p) (pp : PermP N p) {k i : Nat} (hk : k < N) (hi : i < N) : PermP N (swp p k i) := by
  have hN := permP_le pp
  have e := fun j => swp_pl (j := j) hp.len (show k < 10 by omega) (show i < 10 by omega)
  have pf := permP_f pp
  refine PermP_of (permP_pos pp) hN (permF_of hN (fun j hj => ?_) (fun a b ha hb h => ?_) (fun j h10 hj => ?_))
  · rw [e]
    split
    · exact pf.lt hN hk
    · split
      · exact pf.lt hN hi
      · exact pf.lt hN hj
  · rw [e, e] at h
    by_cases a1 : i = a
    · rw [if_pos a1] at h
      by_cases b1 : i = b
      · omega
      · rw [if_neg b1] at h
        by_cases b2 : k = b
        · rw [if_pos b2] at h; have := pf.inj hN hk hi h; omega
        · rw [if_neg b2] at h; have := pf.inj hN hk hb h; omega
    · rw [if_neg a1] at h
      by_cases a2 : k = a
      · rw [if_pos a2] at h
        by_cases b1 : i = b
        · rw [if_pos b1] at h; have := pf.inj hN hi hk h; omega
        · rw [if_neg b1] at h
          by_cases b2 : k = b
          · omega
          · rw [if_neg b2] at h; have := pf.inj hN hi hb h; omega
      · rw [if_neg a2] at h
        by_cases b1 : i = b
        · rw [if_pos b1] at h; have := pf.inj hN ha hk h; omega
        · rw [if_neg b1] at h
          by_cases b2 : k = b
          · rw [if_pos b2] at h; have := pf.inj hN ha hi h; omega
          · rw [if_neg b2] at h; exact pf.inj hN ha hb h
  · rw [e, if_neg (by omega), if_neg (by omega)]
    exact pf.zero h10 hj
def swS (N : Nat) (t p : List Int) (k x : Nat) (u : List Int) : Prop := ∃ i, k ≤ i ∧ i < x ∧ extS N t (swp p k i) (k + 1) u
theorem swS_none {N : Nat} {t p : List Int} {k : Nat} (u : List Int) : ¬ swS N t p k k u := by rintro ⟨i, h1, h2, _⟩; omega
theorem swS_next {N : Nat} {t p : List Int} {k x : Nat} (hx : k ≤ x) (u : List Int) : swS N t p k (x + 1) u ↔ swS N t p k x u ∨ extS N t (swp p k x) (k + 1) u := by
  constructor
  · rintro ⟨i, h1, h2, h⟩
    by_cases e : i = x
    · subst e; exact .inr h
    · exact .inl ⟨i, h1, by omega, h⟩
  · rintro (⟨i, h1, h2, h⟩ | h)
    · exact ⟨i, h1, by omega, h⟩
    · exact ⟨x, hx, by omega, h⟩
theorem swS_all {N : Nat} {t p : List Int} (hp : Bytes 10 p) (pp : PermP N p) {k : Nat} (hk : k < N) (u : List Int) : extS N t p k u ↔ swS N t p k N u := by
  have hN := permP_le pp
  have pf := permP_f pp
  constructor
  · rintro ⟨s, hs, ps, he, rfl⟩
    have sf := permP_f ps
    obtain ⟨i, hi, ei⟩ := pf.surj hN (sf.lt hN hk)
    have hki : k ≤ i := by
      apply Decidable.byContradiction; intro hlt
      have := sf.inj hN hi hk (by rw [he i (by omega)]; exact ei)
      omega
    refine ⟨i, hki, hi, s, hs, ps, fun j hj => ?_, rfl⟩
    rw [swp_pl hp.len (by omega) (by omega)]
    by_cases e1 : i = j
    · have : k = j := by omega
      rw [if_pos e1, ← this, ← ei]
      congr 1
      omega
    · rw [if_neg e1]
      by_cases e2 : k = j
      · rw [if_pos e2, ← e2, ei]
      · rw [if_neg e2]; exact he j (by omega)
  · rintro ⟨i, h1, h2, s, hs, ps, he, rfl⟩
    refine ⟨s, hs, ps, fun j hj => ?_, rfl⟩
    rw [he j (by omega), swp_pl hp.len (by omega) (by omega), if_neg (by omega), if_neg (by omega)]
theorem l02Try_ok (N : Nat) (t : List Int) (ht : Bytes 100 t) (hs : SqP N t) : ∀ d, d ≤ N → ∀ (p b : List Int), Bytes 10 p → PermP N p → Bytes 100 b →
    ACalls Try.prog 119 [.agg (sqS N t), .agg (sqS N b), .agg (plS p), .i .i64 ((N - d : Nat) : Int)] [] (fun v ms ns => ∃ b', (Bytes 100 b' ∧ Least (extS N t p (N - d)) b b') ∧ v = .agg (sqS N b') ∧ ms = [] ∧ ns = []) := by
  have hN := hs.le
  intro d
  induction d with
  | zero =>
    intro hd p b hp pp hb
    have hB := isoT_bytes (N := N) (t := t) (p := p) (q := p) hp (x := N)
    refine acalls_of_body mix Try.func119 rfl fok119 (Nat.le_of_ble_eq_true rfl) ?_
    unfold abody
    simp only [absE, absL, absF, reduceCtorEq, ↓reduceIte, Nat.reduceEqDiff, Nat.reduceAdd, Nat.reduceLT, Nat.reduceMul, Nat.reduceSub, Nat.reduceLeDiff, Int.reduceLT, Int.reduceLE, Int.reduceEq, Option.isSome_some, implies_true, false_implies, Prod.mk.injEq, ne_eq, not_false_eq_true, not_true_eq_false, ge_iff_le, gt_iff_lt, Int.toNat_natCast, Int.reduceToNat, Int.cast_ofNat_Int, Int.natCast_nonneg, Nat.sub_zero, Try.f119]
    refine CallsVia.none (l02Isotope_ok N t p p p ht hp hp hp hs pp pp) ?_
    rintro _ _ _ ⟨rfl, rfl, rfl⟩
    simp only [absE, absL, absF, reduceCtorEq, ↓reduceIte, Nat.reduceEqDiff, Nat.reduceAdd, Nat.reduceLT, Nat.reduceMul, Nat.reduceSub, Nat.reduceLeDiff, Int.reduceLT, Int.reduceLE, Int.reduceEq, Option.isSome_some, implies_true, false_implies, Prod.mk.injEq, ne_eq, not_false_eq_true, not_true_eq_false, ge_iff_le, gt_iff_lt, Int.toNat_natCast, Int.reduceToNat, Int.cast_ofNat_Int, Int.natCast_nonneg]
    refine CallsVia.none (l02Lower_ok (isoT N t p p p N) b hB hb) ?_
    rintro _ _ _ ⟨rfl, rfl, rfl⟩
    have hL : Least (extS N t p N) b (if cmpR (isoT N t p p p N) b < 0 then isoT N t p p p N else b) := Least.one.congr (extS_all hp pp)
    by_cases h : cmpR (isoT N t p p p N) b < 0
    · rw [if_pos h] at hL
      simp only [absE, absL, absF, reduceCtorEq, ↓reduceIte, Nat.reduceEqDiff, Nat.reduceAdd, Nat.reduceLT, Nat.reduceMul, Nat.reduceSub, Nat.reduceLeDiff, Int.reduceLT, Int.reduceLE, Int.reduceEq, Option.isSome_some, implies_true, false_implies, Prod.mk.injEq, ne_eq, not_false_eq_true, not_true_eq_false, ge_iff_le, gt_iff_lt, Int.toNat_natCast, Int.reduceToNat, Int.cast_ofNat_Int, Int.natCast_nonneg, h, Try.results119]
      exact ⟨[], by simp, by simp, _, ⟨hB, hL⟩, by simp [renV, renSegs, renSg], by simp, by simp⟩
    · rw [if_neg h] at hL
      simp only [absE, absL, absF, reduceCtorEq, ↓reduceIte, Nat.reduceEqDiff, Nat.reduceAdd, Nat.reduceLT, Nat.reduceMul, Nat.reduceSub, Nat.reduceLeDiff, Int.reduceLT, Int.reduceLE, Int.reduceEq, Option.isSome_some, implies_true, false_implies, Prod.mk.injEq, ne_eq, not_false_eq_true, not_true_eq_false, ge_iff_le, gt_iff_lt, Int.toNat_natCast, Int.reduceToNat, Int.cast_ofNat_Int, Int.natCast_nonneg, h, Try.results119]
      exact ⟨[], by simp, by simp, _, ⟨hb, hL⟩, by simp [renV, renSegs, renSg], by simp, by simp⟩
  | succ d ih =>
    intro hd p b hp pp hb
    have g1 : ¬((N - (d + 1) : Nat) : Int) = N := by omega
    have ed : N - d = N - (d + 1) + 1 := by omega
    rw [ed] at ih
    replace ih := ih (by omega)
    generalize hk : N - (d + 1) = k at g1 ih ⊢
    have hkN : k < N := by omega
    refine acalls_of_body mix Try.func119 rfl fok119 (Nat.le_of_ble_eq_true rfl) ?_
    unfold abody
    simp only [absE, absL, absF, reduceCtorEq, ↓reduceIte, Nat.reduceEqDiff, Nat.reduceAdd, Nat.reduceLT, Nat.reduceMul, Nat.reduceSub, Nat.reduceLeDiff, Int.reduceLT, Int.reduceLE, Int.reduceEq, Option.isSome_some, implies_true, false_implies, Prod.mk.injEq, ne_eq, not_false_eq_true, not_true_eq_false, ge_iff_le, gt_iff_lt, Int.toNat_natCast, Int.reduceToNat, Int.cast_ofNat_Int, Int.natCast_nonneg, g1, Try.f119]
    refine awpLoop.intro (fun s : Nat × List Int => [(3, .i .i64 k), (4, .ref (.ptr 1 0 0 0)), (5, .ref (.ptr 2 0 0 0)), (6, .ref (.ptr 3 0 0 0)), (8, .ref (.ptr 4 0 0 0)), (9, .i .i64 N), (11, .i .i64 s.1)]) (fun s => ⟨[], [((1, 0), .lv true (sqS N t)), ((2, 0), .lv true (sqS N s.2)), ((3, 0), .lv true (plS p)), ((4, 0), .lv true (sqS 0 (List.replicate 100 0)))], 20⟩)
      (fun s => k ≤ s.1 ∧ s.1 ≤ N ∧ Bytes 100 s.2 ∧ Least (swS N t p k s.1) b s.2) (fun s => N - s.1) (k, b) ⟨Nat.le_refl _, by simp; omega, hb, Least.nil swS_none⟩ ⟨[((1,0),(1,0)), ((2,0),(2,0)), ((3,0),(3,0)), ((4,0),(4,0))], rfl, ?_, ?_⟩ ?_
    · simp [wkEnv, lk, renV, renAt, renTo]
    · simp [wkMem, wkLoc, Mem.get, assoc, renBlk, renSegs, renSg, renTo]
    · rintro ⟨x, c⟩ ⟨hkx, hx, hc, hL⟩
      simp only at hkx hx hc hL
      by_cases h : (x : Int) < N
      · have w := wrap_i64s (show x < 2 ^ 62 by omega)
        have wk := wrap_i64s (show k < 2 ^ 62 by omega)
        have k10 : (k : Int) < 10 := by omega
        have x10 : (x : Int) < 10 := by omega
        have v1 : 0 + x * 1 < 10 := by omega
        have v2 : 0 + k * 1 < 10 := by omega
        have e1 : (p.set (0 + k * 1) (p.getD (0 + x * 1) 0)).set (0 + x * 1) (p.getD (0 + k * 1) 0) = swp p k x := by unfold swp; rw [Nat.zero_add, Nat.mul_one, Nat.zero_add, Nat.mul_one]
        simp only [absE, absL, absF, reduceCtorEq, ↓reduceIte, Nat.reduceEqDiff, Nat.reduceAdd, Nat.reduceLT, Nat.reduceMul, Nat.reduceSub, Nat.reduceLeDiff, Int.reduceLT, Int.reduceLE, Int.reduceEq, Option.isSome_some, implies_true, false_implies, Prod.mk.injEq, ne_eq, not_false_eq_true, not_true_eq_false, ge_iff_le, gt_iff_lt, Int.toNat_natCast, Int.reduceToNat, Int.cast_ofNat_Int, Int.natCast_nonneg, h, k10, x10, v1, v2, e1, wk]
        repeat first | refine And.intro (by decide +kernel) ?_ | refine And.intro (by omega) ?_
        refine CallsVia.none (ih (swp p k x) c (swp_bytes hp) (swp_perm hp pp hkN (by omega)) hc) ?_
        rintro _ _ _ ⟨c', ⟨hc', hL'⟩, rfl, rfl, rfl⟩
        simp only [absE, absL, absF, reduceCtorEq, ↓reduceIte, Nat.reduceEqDiff, Nat.reduceAdd, Nat.reduceLT, Nat.reduceMul, Nat.reduceSub, Nat.reduceLeDiff, Int.reduceLT, Int.reduceLE, Int.reduceEq, Option.isSome_some, implies_true, false_implies, Prod.mk.injEq, ne_eq, not_false_eq_true, not_true_eq_false, ge_iff_le, gt_iff_lt, Int.toNat_natCast, Int.reduceToNat, Int.cast_ofNat_Int, Int.natCast_nonneg]
        refine LoopNext.intro (x + 1, c') ⟨by simp; omega, by simp; omega, hc', hL.trans hL' (swS_next hkx)⟩ (by simp; omega) ⟨[((1,0),(1,0)), ((2,0),(2,0)), ((3,0),(3,0)), ((4,0),(4,0))], rfl, ?_, ?_⟩
        · simp [wkEnv, lk, renV, renAt, renTo, w]
        · simp [wkMem, wkLoc, Mem.get, assoc, renBlk, renSegs, renSg, renTo, w]
      · obtain rfl : x = N := by omega
        simp only [absE, absL, absF, reduceCtorEq, ↓reduceIte, Nat.reduceEqDiff, Nat.reduceAdd, Nat.reduceLT, Nat.reduceMul, Nat.reduceSub, Nat.reduceLeDiff, Int.reduceLT, Int.reduceLE, Int.reduceEq, Option.isSome_some, implies_true, false_implies, Prod.mk.injEq, ne_eq, not_false_eq_true, not_true_eq_false, ge_iff_le, gt_iff_lt, Int.toNat_natCast, Int.reduceToNat, Int.cast_ofNat_Int, Int.natCast_nonneg, h, Try.results119]
        exact ⟨[], by simp, by simp, c, ⟨hc, hL.congr (swS_all hp pp hkN)⟩, by simp [renV, renSegs, renSg], by simp, by simp⟩
theorem idL_perm {N : Nat} (h1 : 1 ≤ N) (hN : N ≤ 10) : PermP N (idL N) := by
  have e : ∀ i, i < 10 → pl (idL N) i = if i < N then i else 0 := fun i _ => by
    split
    · rename_i h; exact pl_mapL hN h
    · rename_i h; exact pl_mapL0 hN h
  refine PermP_of h1 hN (permF_of hN (fun i hi => by rw [e i (by omega), if_pos hi]; exact hi) (fun i j hi hj h => by rwa [e i (by omega), e j (by omega), if_pos hi, if_pos hj] at h) fun i h10 hi => by rw [e i h10, if_neg hi])
theorem canT_bytes {N : Nat} {t : List Int} (ht : Bytes 100 t) (h : ∃ b, Bytes 100 b ∧ Least (extS N t (idL N) 1) t b) : Bytes 100 (canT N t) := by
  obtain ⟨b, hb, hL⟩ := h
  rw [canT_eq hL]; exact hb
theorem l02TryId_ok (N : Nat) (t : List Int) (ht : Bytes 100 t) (hs : SqP N t) :
    ACalls Try.prog 119 [.agg (sqS N t), .agg (sqS N t), .agg (plS (idL N)), .i .i64 1] [] (fun v ms ns => v = .agg (sqS N (canT N t)) ∧ ms = [] ∧ ns = []) := by
  have h1 := hs.pos
  have hN := hs.le
  have h := l02Try_ok N t ht hs (N - 1) (by omega) (idL N) t (idL_bytes hN) (idL_perm h1 hN) ht
  rw [show N - (N - 1) = 1 by omega] at h
  refine h.mono ?_
  rintro _ _ _ ⟨b, ⟨hb, hL⟩, rfl, rfl, rfl⟩
  rw [canT_eq hL]
  exact ⟨rfl, rfl, rfl⟩
theorem l02Canonical_ok (N : Nat) (t : List Int) (ht : Bytes 100 t) (hs : SqP N t) :
    ACalls Try.prog 75 [.agg (sqS N t)] [] (fun v ms ns => v = .agg (sqS N (canT N t)) ∧ ms = [] ∧ ns = []) := by
  have hN := hs.le
  refine acalls_of_body mix Try.func75 rfl fok75 (Nat.le_of_ble_eq_true rfl) ?_
  unfold abody
  simp only [absE, absL, absF, reduceCtorEq, ↓reduceIte, Nat.reduceEqDiff, Nat.reduceAdd, Nat.reduceLT, Nat.reduceMul, Nat.reduceSub, Nat.reduceLeDiff, Int.reduceLT, Int.reduceLE, Int.reduceEq, Option.isSome_some, implies_true, false_implies, Prod.mk.injEq, ne_eq, not_false_eq_true, not_true_eq_false, ge_iff_le, gt_iff_lt, Int.toNat_natCast, Int.reduceToNat, Int.cast_ofNat_Int, Int.natCast_nonneg, Try.f75]
  refine CallsX.none (specSame_ok N hN) ?_
  simp only [absE, absL, absF, reduceCtorEq, ↓reduceIte, Nat.reduceEqDiff, Nat.reduceAdd, Nat.reduceLT, Nat.reduceMul, Nat.reduceSub, Nat.reduceLeDiff, Int.reduceLT, Int.reduceLE, Int.reduceEq, Option.isSome_some, implies_true, false_implies, Prod.mk.injEq, ne_eq, not_false_eq_true, not_true_eq_false, ge_iff_le, gt_iff_lt, Int.toNat_natCast, Int.reduceToNat, Int.cast_ofNat_Int, Int.natCast_nonneg]
  repeat refine And.intro (by decide +kernel) ?_
  refine CallsX.none (l02TryId_ok N t ht hs) ?_
  simp only [absE, absL, absF, reduceCtorEq, ↓reduceIte, Nat.reduceEqDiff, Nat.reduceAdd, Nat.reduceLT, Nat.reduceMul, Nat.reduceSub, Nat.reduceLeDiff, Int.reduceLT, Int.reduceLE, Int.reduceEq, Option.isSome_some, implies_true, false_implies, Prod.mk.injEq, ne_eq, not_false_eq_true, not_true_eq_false, ge_iff_le, gt_iff_lt, Int.toNat_natCast, Int.reduceToNat, Int.cast_ofNat_Int, Int.natCast_nonneg, Try.results75]
  repeat refine And.intro (by decide +kernel) ?_
  exact ⟨[], by simp, by simp, by simp [renV, renVs, renSegs, renSg]⟩

end Go.Proofs.Ytgblnnodoabdeaa
