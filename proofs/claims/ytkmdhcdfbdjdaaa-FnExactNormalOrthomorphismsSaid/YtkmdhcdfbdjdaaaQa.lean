/-
Contracts of functions of the given program, by the abstract walk.
-/
import Derived.Test.YtkmdhcdfbdjdaaaAbsY
import Derived.Test.YtkmdhcdfbdjdaaaMb
import Derived.Test.YtkmdhcdfbdjdaaaDn
import Derived.Test.YtkmdhcdfbdjdaaaEc
namespace Go.Proofs.Ytkmdhcdfbdjdaaa
open Go Go.Abs
set_option linter.unusedVariables false
set_option linter.unusedSectionVars false
set_option linter.unusedSimpArgs false
set_option maxRecDepth 100000
/-! normal orthomorphisms: the reference's search -/
def gO (N : Nat) (t : List Int) : SrG := fun d x => cl t (invN N t d) x
def noL : Nat → Bool := fun _ => true
theorem search_ok (N : Nat) (t : List Int) (ht : Bytes 100 t) (hs : SqP N t) : ∀ k, k ≤ N → ∀ (p : List Int) (u m : List Bool) (L : List (List Int)), PlOk N p → u.length = 10 → m.length = 10 → L.length + 10 ^ k ≤ 10 ^ 10 → AllPl N L →
    ACalls Try.prog 108 [.agg (sqS N t), .agg (plS p), .i .i64 ((N - k : Nat) : Int), .agg (boS u), .agg (boS m), .ref (.sl 0 0 0 0 L.length 10)] [plB L] (fun v ms ns => SRes L (srA N (gO N t) noL k p u m L) v ms ns) := by
  have hN := hs.le
  have hpos := hs.pos
  intro k
  induction k with
  | zero =>
    intro hk p u m L hp hu hm' hL hA
    have hl1 : p.length = 10 := hp.1
    unfold plB boS
    refine acalls_of_body mix Try.func108 rfl fok108 (Nat.le_of_ble_eq_true rfl) ?_
    unfold abody
    simp only [absE, absL, absF, reduceCtorEq, ↓reduceIte, Nat.reduceEqDiff, Nat.reduceAdd, Nat.reduceLT, Nat.reduceMul, Nat.reduceSub, Nat.reduceLeDiff, Int.reduceLT, Int.reduceLE, Int.reduceEq, Option.isSome_some, implies_true, false_implies, Prod.mk.injEq, ne_eq, not_false_eq_true, not_true_eq_false, ge_iff_le, gt_iff_lt, Int.toNat_natCast, Int.reduceToNat, Int.cast_ofNat_Int, Int.natCast_nonneg, Nat.sub_zero, Try.f108, Try.results108]
    repeat refine And.intro (by omega) ?_
    exact ⟨[(13, 0)], by simp, by simp, by simp [SRes, plB, srA, renV, renAt, renFin, idx, renBlk, renSegs, renSg, Mem.get, assoc, Nat.add_mul]⟩
  | succ k ih =>
    intro hk p u m L hp hu hm' hL hA
    have hl1 : p.length = 10 := hp.1
    have g1 : ¬((N - (k + 1) : Nat) : Int) = N := by omega
    unfold plB boS
    generalize hd : N - (k + 1) = d at g1
    refine acalls_of_body mix Try.func108 rfl fok108 (Nat.le_of_ble_eq_true rfl) ?_
    unfold abody
    simp only [absE, absL, absF, reduceCtorEq, ↓reduceIte, Nat.reduceEqDiff, Nat.reduceAdd, Nat.reduceLT, Nat.reduceMul, Nat.reduceSub, Nat.reduceLeDiff, Int.reduceLT, Int.reduceLE, Int.reduceEq, Option.isSome_some, implies_true, false_implies, Prod.mk.injEq, ne_eq, not_false_eq_true, not_true_eq_false, ge_iff_le, gt_iff_lt, Int.toNat_natCast, Int.reduceToNat, Int.cast_ofNat_Int, Int.natCast_nonneg, g1, Try.f108]
    have hd10 : d < N := by omega
    have ed : N - k = d + 1 := by omega
    rw [ed] at ih
    replace ih := ih (by omega)
    have hdi : (d : Int) < 10 := by omega
    have e1 : srA N (gO N t) noL (k + 1) p u m L = srS (gO N t) noL (srA N (gO N t) noL k) d p u m N L := by rw [← hd]; rfl
    rw [e1]
    skip
    skip
    have hln : ∀ x, x ≤ 10 → (srS (gO N t) noL (srA N (gO N t) noL k) d p u m x L).length ≤ L.length + x * 10 ^ k := fun x _ => srS_len (fun p u m L => srA_len hN)
    have hpw : 10 ^ (k + 1) = 10 * 10 ^ k := by rw [Nat.pow_succ, Nat.mul_comm]
    have hAS : ∀ x, x ≤ 10 → AllPl N (srS (gO N t) noL (srA N (gO N t) noL k) d p u m x L) := fun x hx => srS_all (fun p u m L hp hL => srA_all hN (by omega) hp hL) (by omega) hp hA hx
    generalize srA N (gO N t) noL k = rec at ih hln hAS ⊢
    have w8d := wrap_u8n (show d < 256 by omega)
    refine awpLoop.intro (fun s : Nat × Bool × List (List Int) => [(2, .i .i64 d), (5, (oV s.2.1 s.2.2)), (6, .ref (.ptr 1 0 0 0)), (7, .ref (.ptr 2 0 0 0)), (9, .ref (.ptr 3 0 0 0)), (10, .ref (.ptr 4 0 0 0)), (13, .i .i64 s.1)]) (fun s => ⟨[oA s.2.1 L], [((1, 0), .lv true (sqS N t)), ((2, 0), .lv true (plS p)), ((3, 0), .lv true ([(0, .bools 10 u)])), ((4, 0), .lv true ([(0, .bools 10 m)]))] ++ oB s.2.1 s.2.2, 60⟩)
      (fun s => s.1 ≤ N ∧ s.2.2 = srS (gO N t) noL rec d p u m s.1 L ∧ (s.2.1 = false → s.2.2 = L)) (fun s => N - s.1) (0, false, L) ⟨by simp, rfl, fun _ => rfl⟩ ⟨[((1,0),(1,0)), ((2,0),(2,0)), ((3,0),(3,0)), ((4,0),(4,0))], rfl, ?_, ?_⟩ ?_
    · simp [wkEnv, lk, renV, renAt, renTo, oV, oA, oB]
    · simp [wkMem, wkLoc, Mem.get, assoc, renBlk, renSegs, renSg, renTo, oV, oA, oB]
    · rintro ⟨x, c, L'⟩ ⟨hx, hL', hc⟩
      simp only at hx hL' hc
      have hA' : AllPl N L' := by rw [hL']; exact hAS x (by omega)
      have hl' : L'.length ≤ L.length + x * 10 ^ k := by rw [hL']; exact hln x (by omega)
      cases c
      · have hcl : L' = L := hc rfl
        subst hcl
        by_cases h : (x : Int) < N
        · have w := wrap_i64s (show x < 2 ^ 62 by omega)
          have hgx : x < N := by omega
          have hr : invN N t d < N := (hs.colP hd10).fnd_lt hN hpos
          have hj : gO N t d x < N := hs.cl_lt hr hgx
          have i1 : (x : Int) < 10 := by omega
          have i2 : (gO N t d x : Int) < 10 := by omega
          have i3 : (invN N t d : Int) < 10 := by omega
          have u1 : 0 + invN N t d * 10 + x * 1 < 100 := by omega
          have u2 : 0 + x * 1 < 10 := by omega
          have u3 : 0 + gO N t d x * 1 < 10 := by omega
          have u4 : 0 + d * 1 + 1 ≤ 10 := by omega
          have u5 : 0 + x * 1 + 1 ≤ 10 := by omega
          have u6 : 0 + gO N t d x * 1 + 1 ≤ 10 := by omega
          have k1 : t.getD (0 + invN N t d * 10 + x * 1) 0 = (gO N t d x : Int) := sq_colget ht _ x
          have y1 : u.getD (0 + x * 1) false = u.getD x false := by rw [Nat.zero_add, Nat.mul_one]
          have y2 : m.getD (0 + gO N t d x * 1) false = m.getD (gO N t d x) false := by rw [Nat.zero_add, Nat.mul_one]
          simp only [absE, absL, absF, reduceCtorEq, ↓reduceIte, Nat.reduceEqDiff, Nat.reduceAdd, Nat.reduceLT, Nat.reduceMul, Nat.reduceSub, Nat.reduceLeDiff, Int.reduceLT, Int.reduceLE, Int.reduceEq, Option.isSome_some, implies_true, false_implies, Prod.mk.injEq, ne_eq, not_false_eq_true, not_true_eq_false, ge_iff_le, gt_iff_lt, Int.toNat_natCast, Int.reduceToNat, Int.cast_ofNat_Int, Int.natCast_nonneg, h, w8d, oV, oA, oB]
          refine CallsVia.none (l08Inverse_ok N t d ht hs hd10) ?_
          rintro _ _ _ ⟨rfl, rfl, rfl⟩
          cases hu1 : u.getD x false
          · cases hu2 : m.getD (gO N t d x) false
            · have s1 : u.set (0 + x * 1) true = u.set x true := by rw [Nat.zero_add, Nat.mul_one]
              have s2 : m.set (0 + gO N t d x * 1) true = m.set (gO N t d x) true := by rw [Nat.zero_add, Nat.mul_one]
              have s3 : p.set (0 + d * 1) (x : Int) = p.set d (x : Int) := by rw [Nat.zero_add, Nat.mul_one]
              have w8 := wrap_u8n (show x < 256 by omega)
              have wd := wrap_i64s (show d < 2 ^ 62 by omega)
              have hgo := srS_go (g := gO N t) (lim := noL) (rec := rec) (d := d) (p := p) (u := u) (m := m) (L := L') (x := x) rfl hu1 hu2
              rw [← hL'] at hgo
              simp only [absE, absL, absF, reduceCtorEq, ↓reduceIte, Nat.reduceEqDiff, Nat.reduceAdd, Nat.reduceLT, Nat.reduceMul, Nat.reduceSub, Nat.reduceLeDiff, Int.reduceLT, Int.reduceLE, Int.reduceEq, Option.isSome_some, implies_true, false_implies, Prod.mk.injEq, ne_eq, not_false_eq_true, not_true_eq_false, ge_iff_le, gt_iff_lt, Int.toNat_natCast, Int.reduceToNat, Int.cast_ofNat_Int, Int.natCast_nonneg, i1, i2, i3, hdi, u1, u2, u3, u4, u5, u6, k1, y1, y2, hu1, hu2, s1, s2, s3, w8, wd, oV, oA, oB]
              repeat first | refine And.intro (by decide +kernel) ?_ | refine And.intro (by omega) ?_
              refine CallsVia.args [(0, 0)] (ih (p.set d (x : Int)) (u.set x true) (m.set (gO N t d x) true) L' (hp.set (by omega) (by omega)) (by rw [List.length_set]; exact hu) (by rw [List.length_set]; exact hm') (by first | omega | (have := Nat.mul_le_mul_right (10 ^ k) (show x + 1 ≤ 10 by omega); rw [Nat.add_mul] at this; (try simp only [List.length_nil] at hl' hL); omega)) hA') (by simp) (by simp [Mem.get, assoc]) rfl rfl ?_
              rintro v ms ns (⟨hsame, rfl, rfl, rfl⟩ | ⟨rfl, rfl, rfl⟩)
              · simp only [absE, absL, absF, reduceCtorEq, ↓reduceIte, Nat.reduceEqDiff, Nat.reduceAdd, Nat.reduceLT, Nat.reduceMul, Nat.reduceSub, Nat.reduceLeDiff, Int.reduceLT, Int.reduceLE, Int.reduceEq, Option.isSome_some, implies_true, false_implies, Prod.mk.injEq, ne_eq, not_false_eq_true, not_true_eq_false, ge_iff_le, gt_iff_lt, Int.toNat_natCast, Int.reduceToNat, Int.cast_ofNat_Int, Int.natCast_nonneg, plB]
                refine LoopNext.intro (x + 1, false, L') ⟨by simp; omega, by rw [hgo, hsame], fun _ => rfl⟩ (by simp; omega) ⟨[((1,0),(1,0)), ((2,0),(2,0)), ((3,0),(3,0)), ((4,0),(4,0))], rfl, ?_, ?_⟩
                · simp [wkEnv, lk, renV, renAt, renTo, oV, oA, oB, w]
                · simp [wkMem, wkLoc, Mem.get, assoc, renBlk, renSegs, renSg, renTo, oV, oA, oB, w]
              · simp only [absE, absL, absF, reduceCtorEq, ↓reduceIte, Nat.reduceEqDiff, Nat.reduceAdd, Nat.reduceLT, Nat.reduceMul, Nat.reduceSub, Nat.reduceLeDiff, Int.reduceLT, Int.reduceLE, Int.reduceEq, Option.isSome_some, implies_true, false_implies, Prod.mk.injEq, ne_eq, not_false_eq_true, not_true_eq_false, ge_iff_le, gt_iff_lt, Int.toNat_natCast, Int.reduceToNat, Int.cast_ofNat_Int, Int.natCast_nonneg, plB]
                refine LoopNext.intro (x + 1, true, rec (p.set d (x : Int)) (u.set x true) (m.set (gO N t d x) true) L') ⟨by simp; omega, hgo.symm, by simp⟩ (by simp; omega) ⟨[((1,0),(1,0)), ((2,0),(2,0)), ((3,0),(3,0)), ((4,0),(4,0)), ((109,0),(50,0))], rfl, ?_, ?_⟩
                · simp [wkEnv, lk, renV, renAt, renTo, oV, oA, oB, w]
                · simp [wkMem, wkLoc, Mem.get, assoc, renBlk, renSegs, renSg, renTo, oV, oA, oB, w]
            · simp only [absE, absL, absF, reduceCtorEq, ↓reduceIte, Nat.reduceEqDiff, Nat.reduceAdd, Nat.reduceLT, Nat.reduceMul, Nat.reduceSub, Nat.reduceLeDiff, Int.reduceLT, Int.reduceLE, Int.reduceEq, Option.isSome_some, implies_true, false_implies, Prod.mk.injEq, ne_eq, not_false_eq_true, not_true_eq_false, ge_iff_le, gt_iff_lt, Int.toNat_natCast, Int.reduceToNat, Int.cast_ofNat_Int, Int.natCast_nonneg, i1, i2, i3, hdi, u1, u2, u3, k1, y1, y2, hu1, hu2, oV, oA, oB]
              refine LoopNext.intro (x + 1, false, L') ⟨by simp; omega, hL'.trans (srS_skip (.inr (.inr hu2))).symm, fun _ => rfl⟩ (by simp; omega) ⟨[((1,0),(1,0)), ((2,0),(2,0)), ((3,0),(3,0)), ((4,0),(4,0))], rfl, ?_, ?_⟩
              · simp [wkEnv, lk, renV, renAt, renTo, oV, oA, oB, w]
              · simp [wkMem, wkLoc, Mem.get, assoc, renBlk, renSegs, renSg, renTo, oV, oA, oB, w]
          · simp only [absE, absL, absF, reduceCtorEq, ↓reduceIte, Nat.reduceEqDiff, Nat.reduceAdd, Nat.reduceLT, Nat.reduceMul, Nat.reduceSub, Nat.reduceLeDiff, Int.reduceLT, Int.reduceLE, Int.reduceEq, Option.isSome_some, implies_true, false_implies, Prod.mk.injEq, ne_eq, not_false_eq_true, not_true_eq_false, ge_iff_le, gt_iff_lt, Int.toNat_natCast, Int.reduceToNat, Int.cast_ofNat_Int, Int.natCast_nonneg, i1, i2, i3, hdi, u1, u2, u3, k1, y1, y2, hu1, oV, oA, oB]
            refine LoopNext.intro (x + 1, false, L') ⟨by simp; omega, hL'.trans (srS_skip (.inr (.inl hu1))).symm, fun _ => rfl⟩ (by simp; omega) ⟨[((1,0),(1,0)), ((2,0),(2,0)), ((3,0),(3,0)), ((4,0),(4,0))], rfl, ?_, ?_⟩
            · simp [wkEnv, lk, renV, renAt, renTo, oV, oA, oB, w]
            · simp [wkMem, wkLoc, Mem.get, assoc, renBlk, renSegs, renSg, renTo, oV, oA, oB, w]
        · obtain rfl : x = N := by omega
          simp only [absE, absL, absF, reduceCtorEq, ↓reduceIte, Nat.reduceEqDiff, Nat.reduceAdd, Nat.reduceLT, Nat.reduceMul, Nat.reduceSub, Nat.reduceLeDiff, Int.reduceLT, Int.reduceLE, Int.reduceEq, Option.isSome_some, implies_true, false_implies, Prod.mk.injEq, ne_eq, not_false_eq_true, not_true_eq_false, ge_iff_le, gt_iff_lt, Int.toNat_natCast, Int.reduceToNat, Int.cast_ofNat_Int, Int.natCast_nonneg, h, oV, oA, oB, Try.results108]
          exact ⟨[], by simp, by simp, by simp [SRes, plB, hL'.symm, renV, renAt, renFin, idx, renBlk, renSegs, renSg, Mem.get, assoc]⟩
      · by_cases h : (x : Int) < N
        · have w := wrap_i64s (show x < 2 ^ 62 by omega)
          have hgx : x < N := by omega
          have hr : invN N t d < N := (hs.colP hd10).fnd_lt hN hpos
          have hj : gO N t d x < N := hs.cl_lt hr hgx
          have i1 : (x : Int) < 10 := by omega
          have i2 : (gO N t d x : Int) < 10 := by omega
          have i3 : (invN N t d : Int) < 10 := by omega
          have u1 : 0 + invN N t d * 10 + x * 1 < 100 := by omega
          have u2 : 0 + x * 1 < 10 := by omega
          have u3 : 0 + gO N t d x * 1 < 10 := by omega
          have u4 : 0 + d * 1 + 1 ≤ 10 := by omega
          have u5 : 0 + x * 1 + 1 ≤ 10 := by omega
          have u6 : 0 + gO N t d x * 1 + 1 ≤ 10 := by omega
          have k1 : t.getD (0 + invN N t d * 10 + x * 1) 0 = (gO N t d x : Int) := sq_colget ht _ x
          have y1 : u.getD (0 + x * 1) false = u.getD x false := by rw [Nat.zero_add, Nat.mul_one]
          have y2 : m.getD (0 + gO N t d x * 1) false = m.getD (gO N t d x) false := by rw [Nat.zero_add, Nat.mul_one]
          simp only [absE, absL, absF, reduceCtorEq, ↓reduceIte, Nat.reduceEqDiff, Nat.reduceAdd, Nat.reduceLT, Nat.reduceMul, Nat.reduceSub, Nat.reduceLeDiff, Int.reduceLT, Int.reduceLE, Int.reduceEq, Option.isSome_some, implies_true, false_implies, Prod.mk.injEq, ne_eq, not_false_eq_true, not_true_eq_false, ge_iff_le, gt_iff_lt, Int.toNat_natCast, Int.reduceToNat, Int.cast_ofNat_Int, Int.natCast_nonneg, h, w8d, oV, oA, oB]
          refine CallsVia.none (l08Inverse_ok N t d ht hs hd10) ?_
          rintro _ _ _ ⟨rfl, rfl, rfl⟩
          cases hu1 : u.getD x false
          · cases hu2 : m.getD (gO N t d x) false
            · have s1 : u.set (0 + x * 1) true = u.set x true := by rw [Nat.zero_add, Nat.mul_one]
              have s2 : m.set (0 + gO N t d x * 1) true = m.set (gO N t d x) true := by rw [Nat.zero_add, Nat.mul_one]
              have s3 : p.set (0 + d * 1) (x : Int) = p.set d (x : Int) := by rw [Nat.zero_add, Nat.mul_one]
              have w8 := wrap_u8n (show x < 256 by omega)
              have wd := wrap_i64s (show d < 2 ^ 62 by omega)
              have hgo := srS_go (g := gO N t) (lim := noL) (rec := rec) (d := d) (p := p) (u := u) (m := m) (L := L) (x := x) rfl hu1 hu2
              rw [← hL'] at hgo
              simp only [absE, absL, absF, reduceCtorEq, ↓reduceIte, Nat.reduceEqDiff, Nat.reduceAdd, Nat.reduceLT, Nat.reduceMul, Nat.reduceSub, Nat.reduceLeDiff, Int.reduceLT, Int.reduceLE, Int.reduceEq, Option.isSome_some, implies_true, false_implies, Prod.mk.injEq, ne_eq, not_false_eq_true, not_true_eq_false, ge_iff_le, gt_iff_lt, Int.toNat_natCast, Int.reduceToNat, Int.cast_ofNat_Int, Int.natCast_nonneg, i1, i2, i3, hdi, u1, u2, u3, u4, u5, u6, k1, y1, y2, hu1, hu2, s1, s2, s3, w8, wd, oV, oA, oB]
              repeat first | refine And.intro (by decide +kernel) ?_ | refine And.intro (by omega) ?_
              refine CallsVia.args [(50, 0)] (ih (p.set d (x : Int)) (u.set x true) (m.set (gO N t d x) true) L' (hp.set (by omega) (by omega)) (by rw [List.length_set]; exact hu) (by rw [List.length_set]; exact hm') (by first | omega | (have := Nat.mul_le_mul_right (10 ^ k) (show x + 1 ≤ 10 by omega); rw [Nat.add_mul] at this; (try simp only [List.length_nil] at hl' hL); omega)) hA') (by simp) (by simp [Mem.get, assoc]) rfl rfl ?_
              rintro v ms ns (⟨hsame, rfl, rfl, rfl⟩ | ⟨rfl, rfl, rfl⟩)
              · simp only [absE, absL, absF, reduceCtorEq, ↓reduceIte, Nat.reduceEqDiff, Nat.reduceAdd, Nat.reduceLT, Nat.reduceMul, Nat.reduceSub, Nat.reduceLeDiff, Int.reduceLT, Int.reduceLE, Int.reduceEq, Option.isSome_some, implies_true, false_implies, Prod.mk.injEq, ne_eq, not_false_eq_true, not_true_eq_false, ge_iff_le, gt_iff_lt, Int.toNat_natCast, Int.reduceToNat, Int.cast_ofNat_Int, Int.natCast_nonneg, plB]
                refine LoopNext.intro (x + 1, true, L') ⟨by simp; omega, by rw [hgo, hsame], by simp⟩ (by simp; omega) ⟨[((1,0),(1,0)), ((2,0),(2,0)), ((3,0),(3,0)), ((4,0),(4,0)), ((50,0),(50,0))], rfl, ?_, ?_⟩
                · simp [wkEnv, lk, renV, renAt, renTo, oV, oA, oB, w]
                · simp [wkMem, wkLoc, Mem.get, assoc, renBlk, renSegs, renSg, renTo, oV, oA, oB, w]
              · simp only [absE, absL, absF, reduceCtorEq, ↓reduceIte, Nat.reduceEqDiff, Nat.reduceAdd, Nat.reduceLT, Nat.reduceMul, Nat.reduceSub, Nat.reduceLeDiff, Int.reduceLT, Int.reduceLE, Int.reduceEq, Option.isSome_some, implies_true, false_implies, Prod.mk.injEq, ne_eq, not_false_eq_true, not_true_eq_false, ge_iff_le, gt_iff_lt, Int.toNat_natCast, Int.reduceToNat, Int.cast_ofNat_Int, Int.natCast_nonneg, plB]
                refine LoopNext.intro (x + 1, true, rec (p.set d (x : Int)) (u.set x true) (m.set (gO N t d x) true) L') ⟨by simp; omega, hgo.symm, by simp⟩ (by simp; omega) ⟨[((1,0),(1,0)), ((2,0),(2,0)), ((3,0),(3,0)), ((4,0),(4,0)), ((109,0),(50,0))], rfl, ?_, ?_⟩
                · simp [wkEnv, lk, renV, renAt, renTo, oV, oA, oB, w]
                · simp [wkMem, wkLoc, Mem.get, assoc, renBlk, renSegs, renSg, renTo, oV, oA, oB, w]
            · simp only [absE, absL, absF, reduceCtorEq, ↓reduceIte, Nat.reduceEqDiff, Nat.reduceAdd, Nat.reduceLT, Nat.reduceMul, Nat.reduceSub, Nat.reduceLeDiff, Int.reduceLT, Int.reduceLE, Int.reduceEq, Option.isSome_some, implies_true, false_implies, Prod.mk.injEq, ne_eq, not_false_eq_true, not_true_eq_false, ge_iff_le, gt_iff_lt, Int.toNat_natCast, Int.reduceToNat, Int.cast_ofNat_Int, Int.natCast_nonneg, i1, i2, i3, hdi, u1, u2, u3, k1, y1, y2, hu1, hu2, oV, oA, oB]
              refine LoopNext.intro (x + 1, true, L') ⟨by simp; omega, hL'.trans (srS_skip (.inr (.inr hu2))).symm, by simp⟩ (by simp; omega) ⟨[((1,0),(1,0)), ((2,0),(2,0)), ((3,0),(3,0)), ((4,0),(4,0)), ((50,0),(50,0))], rfl, ?_, ?_⟩
              · simp [wkEnv, lk, renV, renAt, renTo, oV, oA, oB, w]
              · simp [wkMem, wkLoc, Mem.get, assoc, renBlk, renSegs, renSg, renTo, oV, oA, oB, w]
          · simp only [absE, absL, absF, reduceCtorEq, ↓reduceIte, Nat.reduceEqDiff, Nat.reduceAdd, Nat.reduceLT, Nat.reduceMul, Nat.reduceSub, Nat.reduceLeDiff, Int.reduceLT, Int.reduceLE, Int.reduceEq, Option.isSome_some, implies_true, false_implies, Prod.mk.injEq, ne_eq, not_false_eq_true, not_true_eq_false, ge_iff_le, gt_iff_lt, Int.toNat_natCast, Int.reduceToNat, Int.cast_ofNat_Int, Int.natCast_nonneg, i1, i2, i3, hdi, u1, u2, u3, k1, y1, y2, hu1, oV, oA, oB]
            refine LoopNext.intro (x + 1, true, L') ⟨by simp; omega, hL'.trans (srS_skip (.inr (.inl hu1))).symm, by simp⟩ (by simp; omega) ⟨[((1,0),(1,0)), ((2,0),(2,0)), ((3,0),(3,0)), ((4,0),(4,0)), ((50,0),(50,0))], rfl, ?_, ?_⟩
            · simp [wkEnv, lk, renV, renAt, renTo, oV, oA, oB, w]
            · simp [wkMem, wkLoc, Mem.get, assoc, renBlk, renSegs, renSg, renTo, oV, oA, oB, w]
        · obtain rfl : x = N := by omega
          simp only [absE, absL, absF, reduceCtorEq, ↓reduceIte, Nat.reduceEqDiff, Nat.reduceAdd, Nat.reduceLT, Nat.reduceMul, Nat.reduceSub, Nat.reduceLeDiff, Int.reduceLT, Int.reduceLE, Int.reduceEq, Option.isSome_some, implies_true, false_implies, Prod.mk.injEq, ne_eq, not_false_eq_true, not_true_eq_false, ge_iff_le, gt_iff_lt, Int.toNat_natCast, Int.reduceToNat, Int.cast_ofNat_Int, Int.natCast_nonneg, h, oV, oA, oB, Try.results108]
          exact ⟨[(50, 0)], by simp, by simp, by simp [SRes, plB, hL'.symm, renV, renAt, renFin, idx, renBlk, renSegs, renSg, Mem.get, assoc]⟩


end Go.Proofs.Ytkmdhcdfbdjdaaa
