/-
Contracts of functions of the given program, by the abstract walk.
-/
import Derived.Test.YtjmenocghjggcaaAbsY
import Derived.Test.YtjmenocghjggcaaMa
namespace Go.Proofs.Ytjmenocghjggcaa
open Go Go.Abs
set_option linter.unusedVariables false
set_option linter.unusedSectionVars false
set_option linter.unusedSimpArgs false
set_option maxRecDepth 100000
def plB (L : List (List Int)) : Blk := .lv true [(0, .ints .u8 (L.length * 10) L.flatten)]
theorem plB_ren {σ : Ren} {L : List (List Int)} : renBlk σ (plB L) = plB L := by simp [plB, renBlk, renSegs, renSg]
def boS (u : List Bool) : Segs := [(0, .bools 10 u)]
def SRes (L L' : List (List Int)) (v : AV) (ms ns : List Blk) : Prop :=
  (L' = L ∧ v = .ref (.sl 0 0 0 0 L.length 10) ∧ ms = [plB L] ∧ ns = []) ∨ (v = .ref (.sl 1 0 0 0 L'.length 10) ∧ ms = [.dead] ∧ ns = [plB L'])
/-- where the list lies: still the argument's block, or a block of one's own -/
def oV : Bool → List (List Int) → AV
  | false, L => .ref (.sl 0 0 0 0 L.length 10)
  | true, L => .ref (.sl 50 0 0 0 L.length 10)
def oA : Bool → List (List Int) → Blk
  | false, L => .lv true [(0, .ints .u8 (L.length * 10) L.flatten)]
  | true, _ => .dead
def oB : Bool → List (List Int) → List (Abs.Id × Blk)
  | false, _ => []
  | true, L => [((50, 0), .lv true [(0, .ints .u8 (L.length * 10) L.flatten)])]
def ltB (most : Nat) : Nat → Bool := fun n => decide (n < most)
theorem across_ok (N : Nat) (t : List Int) (most : Nat) (ht : Bytes 100 t) (hs : SqP N t) (hm : most ≤ 400) : ∀ k, k ≤ N → ∀ (p : List Int) (u m : List Bool) (L : List (List Int)), PlOk N p → u.length = 10 → m.length = 10 → L.length ≤ 400 → AllPl N L →
    ACalls Try.prog 71 [.agg (sqS N t), .agg (plS p), .i .i64 ((N - k : Nat) : Int), .agg (boS u), .agg (boS m), .i .i64 most, .ref (.sl 0 0 0 0 L.length 10)] [plB L] (fun v ms ns => SRes L (srA N (cl t) (ltB most) k p u m L) v ms ns) := by
  have hN := hs.le
  intro k
  induction k with
  | zero =>
    intro hk p u m L hp hu hm' hL hA
    have hl1 : p.length = 10 := hp.1
    unfold plB boS
    refine acalls_of_body mix Try.func71 rfl fok71 (Nat.le_of_ble_eq_true rfl) ?_
    unfold abody
    simp only [absE, absL, absF, reduceCtorEq, ↓reduceIte, Nat.reduceEqDiff, Nat.reduceAdd, Nat.reduceLT, Nat.reduceMul, Nat.reduceSub, Nat.reduceLeDiff, Int.reduceLT, Int.reduceLE, Int.reduceEq, Option.isSome_some, implies_true, false_implies, Prod.mk.injEq, ne_eq, not_false_eq_true, not_true_eq_false, ge_iff_le, gt_iff_lt, Int.toNat_natCast, Int.reduceToNat, Int.cast_ofNat_Int, Int.natCast_nonneg, Nat.sub_zero, Try.f71, Try.results71]
    repeat refine And.intro (by omega) ?_
    exact ⟨[(13, 0)], by simp, by simp, by simp [SRes, plB, srA, renV, renAt, renFin, idx, renBlk, renSegs, renSg, Mem.get, assoc, Nat.add_mul]⟩
  | succ k ih =>
    intro hk p u m L hp hu hm' hL hA
    have hl1 : p.length = 10 := hp.1
    have g1 : ¬((N - (k + 1) : Nat) : Int) = N := by omega
    unfold plB boS
    generalize hd : N - (k + 1) = d at g1
    refine acalls_of_body mix Try.func71 rfl fok71 (Nat.le_of_ble_eq_true rfl) ?_
    unfold abody
    simp only [absE, absL, absF, reduceCtorEq, ↓reduceIte, Nat.reduceEqDiff, Nat.reduceAdd, Nat.reduceLT, Nat.reduceMul, Nat.reduceSub, Nat.reduceLeDiff, Int.reduceLT, Int.reduceLE, Int.reduceEq, Option.isSome_some, implies_true, false_implies, Prod.mk.injEq, ne_eq, not_false_eq_true, not_true_eq_false, ge_iff_le, gt_iff_lt, Int.toNat_natCast, Int.reduceToNat, Int.cast_ofNat_Int, Int.natCast_nonneg, g1, Try.f71]
    have hd10 : d < N := by omega
    have ed : N - k = d + 1 := by omega
    rw [ed] at ih
    replace ih := ih (by omega)
    have hdi : (d : Int) < 10 := by omega
    have e1 : srA N (cl t) (ltB most) (k + 1) p u m L = srS (cl t) (ltB most) (srA N (cl t) (ltB most) k) d p u m N L := by rw [← hd]; rfl
    rw [e1]
    skip
    skip
    generalize hrec : srA N (cl t) (ltB most) k = rec at ih ⊢
    refine awpLoop.intro (fun s : Nat × Bool × List (List Int) × List Int => [(2, .i .i64 d), (5, .i .i64 most), (6, (oV s.2.1 s.2.2.1)), (7, .ref (.ptr 1 0 0 0)), (8, .ref (.ptr 2 0 0 0)), (10, .ref (.ptr 3 0 0 0)), (11, .ref (.ptr 4 0 0 0)), (15, .i .i64 s.1)]) (fun s => ⟨[oA s.2.1 L], [((1, 0), .lv true (sqS N t)), ((2, 0), .lv true (plS s.2.2.2)), ((3, 0), .lv true ([(0, .bools 10 u)])), ((4, 0), .lv true ([(0, .bools 10 m)]))] ++ oB s.2.1 s.2.2.1, 60⟩)
      (fun s => s.1 ≤ N ∧ s.2.2.1 = srS (cl t) (ltB most) rec d p u m s.1 L ∧ (s.2.1 = false → s.2.2.1 = L) ∧ s.2.2.1.length ≤ 400 ∧ (∀ z : Nat, s.2.2.2.set d (z : Int) = p.set d (z : Int)) ∧ s.2.2.2.length = 10) (fun s => N - s.1) (0, false, L, p) ⟨by simp, rfl, fun _ => rfl, hL, fun _ => rfl, hl1⟩ ⟨[((1,0),(1,0)), ((2,0),(2,0)), ((3,0),(3,0)), ((4,0),(4,0))], rfl, ?_, ?_⟩ ?_
    · simp [wkEnv, lk, renV, renAt, renTo, oV, oA, oB]
    · simp [wkMem, wkLoc, Mem.get, assoc, renBlk, renSegs, renSg, renTo, oV, oA, oB]
    · rintro ⟨x, c, L', p'⟩ ⟨hx, hL', hc, hl', hp', hpl⟩
      simp only at hx hL' hc hl' hp' hpl
      have hA' : AllPl N L' := by
        rw [hL']; exact srS_all (fun p u m L hp hL => by rw [← hrec]; exact srA_all hN (by omega) hp hL) (by omega) hp hA (by omega)
      cases c
      · have hcl : L' = L := hc rfl
        subst hcl
        by_cases h : (x : Int) < N
        · have w := wrap_i64s (show x < 2 ^ 62 by omega)
          have hgx : x < N := by omega
          have hj := hs.cl_lt hd10 hgx
          have i1 : (x : Int) < 10 := by omega
          have i2 : (cl t d x : Int) < 10 := by omega
          have u1 : 0 + d * 10 + x * 1 < 100 := by omega
          have u2 : 0 + x * 1 < 10 := by omega
          have u3 : 0 + cl t d x * 1 < 10 := by omega
          have u4 : 0 + d * 1 < 10 := by omega
          have k1 := sq_colget ht d x
          have y1 : u.getD (0 + x * 1) false = u.getD x false := by rw [Nat.zero_add, Nat.mul_one]
          have y2 : m.getD (0 + cl t d x * 1) false = m.getD (cl t d x) false := by rw [Nat.zero_add, Nat.mul_one]
          by_cases hm1 : (L'.length : Int) < most
          · have hlim : ltB most (L' : List (List Int)).length = true := decide_eq_true (by first | omega | (simp; omega))
            cases hu1 : u.getD x false
            · cases hu2 : m.getD (cl t d x) false
              · have s1 : u.set (0 + x * 1) true = u.set x true := by rw [Nat.zero_add, Nat.mul_one]
                have s2 : m.set (0 + cl t d x * 1) true = m.set (cl t d x) true := by rw [Nat.zero_add, Nat.mul_one]
                have s3 : p'.set (0 + d * 1) (x : Int) = p.set d (x : Int) := by rw [Nat.zero_add, Nat.mul_one, hp']
                have w8 := wrap_u8n (show x < 256 by omega)
                have wd := wrap_i64s (show d < 2 ^ 62 by omega)
                have hgo := srS_go (g := cl t) (rec := rec) (d := d) (p := p) (u := u) (m := m) (L := L') (x := x) (by rw [← hL']; exact hlim) hu1 hu2
                rw [← hL'] at hgo
                have hln : (rec (p.set d (x : Int)) (u.set x true) (m.set (cl t d x) true) L').length ≤ 400 := by
                  have := srA_lim (N := N) (g := cl t) (k := k) (p := p.set d (x : Int)) (u := u.set x true) (m := m.set (cl t d x) true) (L := L') (most := most) (by first | omega | (simp; omega))
                  rw [← hrec]; exact Nat.le_trans this hm
                have hpn : (p.set d (x : Int)).length = 10 := by rw [List.length_set]; exact hl1
                have hpp : ∀ z : Nat, (p.set d (x : Int)).set d (z : Int) = p.set d (z : Int) := fun z => by rw [List.set_set]
                simp only [absE, absL, absF, reduceCtorEq, ↓reduceIte, Nat.reduceEqDiff, Nat.reduceAdd, Nat.reduceLT, Nat.reduceMul, Nat.reduceSub, Nat.reduceLeDiff, Int.reduceLT, Int.reduceLE, Int.reduceEq, Option.isSome_some, implies_true, false_implies, Prod.mk.injEq, ne_eq, not_false_eq_true, not_true_eq_false, ge_iff_le, gt_iff_lt, Int.toNat_natCast, Int.reduceToNat, Int.cast_ofNat_Int, Int.natCast_nonneg, h, hm1, i1, i2, hdi, u1, u2, u3, u4, k1, y1, y2, oV, oA, oB, hu1, hu2, s1, s2, s3, w8, wd]
                repeat first | refine And.intro (by decide +kernel) ?_ | refine And.intro (by omega) ?_
                refine CallsVia.args [(0, 0)] (ih (p.set d (x : Int)) (u.set x true) (m.set (cl t d x) true) L' (hp.set (by omega) (by omega)) (by rw [List.length_set]; exact hu) (by rw [List.length_set]; exact hm') hl' hA') (by simp) (by simp [Mem.get, assoc]) rfl rfl ?_
                rintro v ms ns (⟨hsame, rfl, rfl, rfl⟩ | ⟨rfl, rfl, rfl⟩)
                · simp only [absE, absL, absF, reduceCtorEq, ↓reduceIte, Nat.reduceEqDiff, Nat.reduceAdd, Nat.reduceLT, Nat.reduceMul, Nat.reduceSub, Nat.reduceLeDiff, Int.reduceLT, Int.reduceLE, Int.reduceEq, Option.isSome_some, implies_true, false_implies, Prod.mk.injEq, ne_eq, not_false_eq_true, not_true_eq_false, ge_iff_le, gt_iff_lt, Int.toNat_natCast, Int.reduceToNat, Int.cast_ofNat_Int, Int.natCast_nonneg, plB]
                  refine LoopNext.intro (x + 1, false, L', p.set d (x : Int)) ⟨by simp; omega, by rw [hgo, hsame], fun _ => rfl, hl', hpp, hpn⟩ (by simp; omega) ⟨[((1,0),(1,0)), ((2,0),(2,0)), ((3,0),(3,0)), ((4,0),(4,0))], rfl, ?_, ?_⟩
                  · simp [wkEnv, lk, renV, renAt, renTo, oV, oA, oB, w]
                  · simp [wkMem, wkLoc, Mem.get, assoc, renBlk, renSegs, renSg, renTo, oV, oA, oB, w]
                · simp only [absE, absL, absF, reduceCtorEq, ↓reduceIte, Nat.reduceEqDiff, Nat.reduceAdd, Nat.reduceLT, Nat.reduceMul, Nat.reduceSub, Nat.reduceLeDiff, Int.reduceLT, Int.reduceLE, Int.reduceEq, Option.isSome_some, implies_true, false_implies, Prod.mk.injEq, ne_eq, not_false_eq_true, not_true_eq_false, ge_iff_le, gt_iff_lt, Int.toNat_natCast, Int.reduceToNat, Int.cast_ofNat_Int, Int.natCast_nonneg, plB]
                  refine LoopNext.intro (x + 1, true, rec (p.set d (x : Int)) (u.set x true) (m.set (cl t d x) true) L', p.set d (x : Int)) ⟨by simp; omega, hgo.symm, by simp, hln, hpp, hpn⟩ (by simp; omega) ⟨[((1,0),(1,0)), ((2,0),(2,0)), ((3,0),(3,0)), ((4,0),(4,0)), ((110,0),(50,0))], rfl, ?_, ?_⟩
                  · simp [wkEnv, lk, renV, renAt, renTo, oV, oA, oB, w]
                  · simp [wkMem, wkLoc, Mem.get, assoc, renBlk, renSegs, renSg, renTo, oV, oA, oB, w]
              · simp only [absE, absL, absF, reduceCtorEq, ↓reduceIte, Nat.reduceEqDiff, Nat.reduceAdd, Nat.reduceLT, Nat.reduceMul, Nat.reduceSub, Nat.reduceLeDiff, Int.reduceLT, Int.reduceLE, Int.reduceEq, Option.isSome_some, implies_true, false_implies, Prod.mk.injEq, ne_eq, not_false_eq_true, not_true_eq_false, ge_iff_le, gt_iff_lt, Int.toNat_natCast, Int.reduceToNat, Int.cast_ofNat_Int, Int.natCast_nonneg, h, hm1, i1, i2, hdi, u1, u2, u3, u4, k1, y1, y2, oV, oA, oB, hu1, hu2]
                refine LoopNext.intro (x + 1, false, L', p') ⟨by simp; omega, hL'.trans (srS_skip (.inr (.inr hu2))).symm, fun _ => rfl, hl', hp', hpl⟩ (by simp; omega) ⟨[((1,0),(1,0)), ((2,0),(2,0)), ((3,0),(3,0)), ((4,0),(4,0))], rfl, ?_, ?_⟩
                · simp [wkEnv, lk, renV, renAt, renTo, oV, oA, oB, w]
                · simp [wkMem, wkLoc, Mem.get, assoc, renBlk, renSegs, renSg, renTo, oV, oA, oB, w]
            · simp only [absE, absL, absF, reduceCtorEq, ↓reduceIte, Nat.reduceEqDiff, Nat.reduceAdd, Nat.reduceLT, Nat.reduceMul, Nat.reduceSub, Nat.reduceLeDiff, Int.reduceLT, Int.reduceLE, Int.reduceEq, Option.isSome_some, implies_true, false_implies, Prod.mk.injEq, ne_eq, not_false_eq_true, not_true_eq_false, ge_iff_le, gt_iff_lt, Int.toNat_natCast, Int.reduceToNat, Int.cast_ofNat_Int, Int.natCast_nonneg, h, hm1, i1, i2, hdi, u1, u2, u3, u4, k1, y1, y2, oV, oA, oB, hu1]
              refine LoopNext.intro (x + 1, false, L', p') ⟨by simp; omega, hL'.trans (srS_skip (.inr (.inl hu1))).symm, fun _ => rfl, hl', hp', hpl⟩ (by simp; omega) ⟨[((1,0),(1,0)), ((2,0),(2,0)), ((3,0),(3,0)), ((4,0),(4,0))], rfl, ?_, ?_⟩
              · simp [wkEnv, lk, renV, renAt, renTo, oV, oA, oB, w]
              · simp [wkMem, wkLoc, Mem.get, assoc, renBlk, renSegs, renSg, renTo, oV, oA, oB, w]
          · have hlim : ltB most (L' : List (List Int)).length = false := decide_eq_false (by first | omega | (simp; omega))
            have hst := srS_stop (g := cl t) (rec := rec) (d := d) (p := p) (u := u) (m := m) (L := L') (x := x) (by rw [← hL']; exact hlim) (y := N) (by omega)
            rw [← hL'] at hst
            simp only [absE, absL, absF, reduceCtorEq, ↓reduceIte, Nat.reduceEqDiff, Nat.reduceAdd, Nat.reduceLT, Nat.reduceMul, Nat.reduceSub, Nat.reduceLeDiff, Int.reduceLT, Int.reduceLE, Int.reduceEq, Option.isSome_some, implies_true, false_implies, Prod.mk.injEq, ne_eq, not_false_eq_true, not_true_eq_false, ge_iff_le, gt_iff_lt, Int.toNat_natCast, Int.reduceToNat, Int.cast_ofNat_Int, Int.natCast_nonneg, h, hm1, oV, oA, oB, Try.results71]
            exact ⟨[], by simp, by simp, by simp [SRes, plB, hst, renV, renAt, renFin, idx, renBlk, renSegs, renSg, Mem.get, assoc]⟩
        · obtain rfl : x = N := by omega
          simp only [absE, absL, absF, reduceCtorEq, ↓reduceIte, Nat.reduceEqDiff, Nat.reduceAdd, Nat.reduceLT, Nat.reduceMul, Nat.reduceSub, Nat.reduceLeDiff, Int.reduceLT, Int.reduceLE, Int.reduceEq, Option.isSome_some, implies_true, false_implies, Prod.mk.injEq, ne_eq, not_false_eq_true, not_true_eq_false, ge_iff_le, gt_iff_lt, Int.toNat_natCast, Int.reduceToNat, Int.cast_ofNat_Int, Int.natCast_nonneg, h, oV, oA, oB, Try.results71]
          exact ⟨[], by simp, by simp, by simp [SRes, plB, hL'.symm, renV, renAt, renFin, idx, renBlk, renSegs, renSg, Mem.get, assoc]⟩
      · by_cases h : (x : Int) < N
        · have w := wrap_i64s (show x < 2 ^ 62 by omega)
          have hgx : x < N := by omega
          have hj := hs.cl_lt hd10 hgx
          have i1 : (x : Int) < 10 := by omega
          have i2 : (cl t d x : Int) < 10 := by omega
          have u1 : 0 + d * 10 + x * 1 < 100 := by omega
          have u2 : 0 + x * 1 < 10 := by omega
          have u3 : 0 + cl t d x * 1 < 10 := by omega
          have u4 : 0 + d * 1 < 10 := by omega
          have k1 := sq_colget ht d x
          have y1 : u.getD (0 + x * 1) false = u.getD x false := by rw [Nat.zero_add, Nat.mul_one]
          have y2 : m.getD (0 + cl t d x * 1) false = m.getD (cl t d x) false := by rw [Nat.zero_add, Nat.mul_one]
          by_cases hm1 : (L'.length : Int) < most
          · have hlim : ltB most (L' : List (List Int)).length = true := decide_eq_true (by first | omega | (simp; omega))
            cases hu1 : u.getD x false
            · cases hu2 : m.getD (cl t d x) false
              · have s1 : u.set (0 + x * 1) true = u.set x true := by rw [Nat.zero_add, Nat.mul_one]
                have s2 : m.set (0 + cl t d x * 1) true = m.set (cl t d x) true := by rw [Nat.zero_add, Nat.mul_one]
                have s3 : p'.set (0 + d * 1) (x : Int) = p.set d (x : Int) := by rw [Nat.zero_add, Nat.mul_one, hp']
                have w8 := wrap_u8n (show x < 256 by omega)
                have wd := wrap_i64s (show d < 2 ^ 62 by omega)
                have hgo := srS_go (g := cl t) (rec := rec) (d := d) (p := p) (u := u) (m := m) (L := L) (x := x) (by rw [← hL']; exact hlim) hu1 hu2
                rw [← hL'] at hgo
                have hln : (rec (p.set d (x : Int)) (u.set x true) (m.set (cl t d x) true) L').length ≤ 400 := by
                  have := srA_lim (N := N) (g := cl t) (k := k) (p := p.set d (x : Int)) (u := u.set x true) (m := m.set (cl t d x) true) (L := L') (most := most) (by first | omega | (simp; omega))
                  rw [← hrec]; exact Nat.le_trans this hm
                have hpn : (p.set d (x : Int)).length = 10 := by rw [List.length_set]; exact hl1
                have hpp : ∀ z : Nat, (p.set d (x : Int)).set d (z : Int) = p.set d (z : Int) := fun z => by rw [List.set_set]
                simp only [absE, absL, absF, reduceCtorEq, ↓reduceIte, Nat.reduceEqDiff, Nat.reduceAdd, Nat.reduceLT, Nat.reduceMul, Nat.reduceSub, Nat.reduceLeDiff, Int.reduceLT, Int.reduceLE, Int.reduceEq, Option.isSome_some, implies_true, false_implies, Prod.mk.injEq, ne_eq, not_false_eq_true, not_true_eq_false, ge_iff_le, gt_iff_lt, Int.toNat_natCast, Int.reduceToNat, Int.cast_ofNat_Int, Int.natCast_nonneg, h, hm1, i1, i2, hdi, u1, u2, u3, u4, k1, y1, y2, oV, oA, oB, hu1, hu2, s1, s2, s3, w8, wd]
                repeat first | refine And.intro (by decide +kernel) ?_ | refine And.intro (by omega) ?_
                refine CallsVia.args [(50, 0)] (ih (p.set d (x : Int)) (u.set x true) (m.set (cl t d x) true) L' (hp.set (by omega) (by omega)) (by rw [List.length_set]; exact hu) (by rw [List.length_set]; exact hm') hl' hA') (by simp) (by simp [Mem.get, assoc]) rfl rfl ?_
                rintro v ms ns (⟨hsame, rfl, rfl, rfl⟩ | ⟨rfl, rfl, rfl⟩)
                · simp only [absE, absL, absF, reduceCtorEq, ↓reduceIte, Nat.reduceEqDiff, Nat.reduceAdd, Nat.reduceLT, Nat.reduceMul, Nat.reduceSub, Nat.reduceLeDiff, Int.reduceLT, Int.reduceLE, Int.reduceEq, Option.isSome_some, implies_true, false_implies, Prod.mk.injEq, ne_eq, not_false_eq_true, not_true_eq_false, ge_iff_le, gt_iff_lt, Int.toNat_natCast, Int.reduceToNat, Int.cast_ofNat_Int, Int.natCast_nonneg, plB]
                  refine LoopNext.intro (x + 1, true, L', p.set d (x : Int)) ⟨by simp; omega, by rw [hgo, hsame], by simp, hl', hpp, hpn⟩ (by simp; omega) ⟨[((1,0),(1,0)), ((2,0),(2,0)), ((3,0),(3,0)), ((4,0),(4,0)), ((50,0),(50,0))], rfl, ?_, ?_⟩
                  · simp [wkEnv, lk, renV, renAt, renTo, oV, oA, oB, w]
                  · simp [wkMem, wkLoc, Mem.get, assoc, renBlk, renSegs, renSg, renTo, oV, oA, oB, w]
                · simp only [absE, absL, absF, reduceCtorEq, ↓reduceIte, Nat.reduceEqDiff, Nat.reduceAdd, Nat.reduceLT, Nat.reduceMul, Nat.reduceSub, Nat.reduceLeDiff, Int.reduceLT, Int.reduceLE, Int.reduceEq, Option.isSome_some, implies_true, false_implies, Prod.mk.injEq, ne_eq, not_false_eq_true, not_true_eq_false, ge_iff_le, gt_iff_lt, Int.toNat_natCast, Int.reduceToNat, Int.cast_ofNat_Int, Int.natCast_nonneg, plB]
                  refine LoopNext.intro (x + 1, true, rec (p.set d (x : Int)) (u.set x true) (m.set (cl t d x) true) L', p.set d (x : Int)) ⟨by simp; omega, hgo.symm, by simp, hln, hpp, hpn⟩ (by simp; omega) ⟨[((1,0),(1,0)), ((2,0),(2,0)), ((3,0),(3,0)), ((4,0),(4,0)), ((110,0),(50,0))], rfl, ?_, ?_⟩
                  · simp [wkEnv, lk, renV, renAt, renTo, oV, oA, oB, w]
                  · simp [wkMem, wkLoc, Mem.get, assoc, renBlk, renSegs, renSg, renTo, oV, oA, oB, w]
              · simp only [absE, absL, absF, reduceCtorEq, ↓reduceIte, Nat.reduceEqDiff, Nat.reduceAdd, Nat.reduceLT, Nat.reduceMul, Nat.reduceSub, Nat.reduceLeDiff, Int.reduceLT, Int.reduceLE, Int.reduceEq, Option.isSome_some, implies_true, false_implies, Prod.mk.injEq, ne_eq, not_false_eq_true, not_true_eq_false, ge_iff_le, gt_iff_lt, Int.toNat_natCast, Int.reduceToNat, Int.cast_ofNat_Int, Int.natCast_nonneg, h, hm1, i1, i2, hdi, u1, u2, u3, u4, k1, y1, y2, oV, oA, oB, hu1, hu2]
                refine LoopNext.intro (x + 1, true, L', p') ⟨by simp; omega, hL'.trans (srS_skip (.inr (.inr hu2))).symm, by simp, hl', hp', hpl⟩ (by simp; omega) ⟨[((1,0),(1,0)), ((2,0),(2,0)), ((3,0),(3,0)), ((4,0),(4,0)), ((50,0),(50,0))], rfl, ?_, ?_⟩
                · simp [wkEnv, lk, renV, renAt, renTo, oV, oA, oB, w]
                · simp [wkMem, wkLoc, Mem.get, assoc, renBlk, renSegs, renSg, renTo, oV, oA, oB, w]
            · simp only [absE, absL, absF, reduceCtorEq, ↓reduceIte, Nat.reduceEqDiff, Nat.reduceAdd, Nat.reduceLT, Nat.reduceMul, Nat.reduceSub, Nat.reduceLeDiff, Int.reduceLT, Int.reduceLE, Int.reduceEq, Option.isSome_some, implies_true, false_implies, Prod.mk.injEq, ne_eq, not_false_eq_true, not_true_eq_false, ge_iff_le, gt_iff_lt, Int.toNat_natCast, Int.reduceToNat, Int.cast_ofNat_Int, Int.natCast_nonneg, h, hm1, i1, i2, hdi, u1, u2, u3, u4, k1, y1, y2, oV, oA, oB, hu1]
              refine LoopNext.intro (x + 1, true, L', p') ⟨by simp; omega, hL'.trans (srS_skip (.inr (.inl hu1))).symm, by simp, hl', hp', hpl⟩ (by simp; omega) ⟨[((1,0),(1,0)), ((2,0),(2,0)), ((3,0),(3,0)), ((4,0),(4,0)), ((50,0),(50,0))], rfl, ?_, ?_⟩
              · simp [wkEnv, lk, renV, renAt, renTo, oV, oA, oB, w]
              · simp [wkMem, wkLoc, Mem.get, assoc, renBlk, renSegs, renSg, renTo, oV, oA, oB, w]
          · have hlim : ltB most (L' : List (List Int)).length = false := decide_eq_false (by first | omega | (simp; omega))
            have hst := srS_stop (g := cl t) (rec := rec) (d := d) (p := p) (u := u) (m := m) (L := L) (x := x) (by rw [← hL']; exact hlim) (y := N) (by omega)
            rw [← hL'] at hst
            simp only [absE, absL, absF, reduceCtorEq, ↓reduceIte, Nat.reduceEqDiff, Nat.reduceAdd, Nat.reduceLT, Nat.reduceMul, Nat.reduceSub, Nat.reduceLeDiff, Int.reduceLT, Int.reduceLE, Int.reduceEq, Option.isSome_some, implies_true, false_implies, Prod.mk.injEq, ne_eq, not_false_eq_true, not_true_eq_false, ge_iff_le, gt_iff_lt, Int.toNat_natCast, Int.reduceToNat, Int.cast_ofNat_Int, Int.natCast_nonneg, h, hm1, oV, oA, oB, Try.results71]
            exact ⟨[(50, 0)], by simp, by simp, by simp [SRes, plB, hst, renV, renAt, renFin, idx, renBlk, renSegs, renSg, Mem.get, assoc]⟩
        · obtain rfl : x = N := by omega
          simp only [absE, absL, absF, reduceCtorEq, ↓reduceIte, Nat.reduceEqDiff, Nat.reduceAdd, Nat.reduceLT, Nat.reduceMul, Nat.reduceSub, Nat.reduceLeDiff, Int.reduceLT, Int.reduceLE, Int.reduceEq, Option.isSome_some, implies_true, false_implies, Prod.mk.injEq, ne_eq, not_false_eq_true, not_true_eq_false, ge_iff_le, gt_iff_lt, Int.toNat_natCast, Int.reduceToNat, Int.cast_ofNat_Int, Int.natCast_nonneg, h, oV, oA, oB, Try.results71]
          exact ⟨[(50, 0)], by simp, by simp, by simp [SRes, plB, hL'.symm, renV, renAt, renFin, idx, renBlk, renSegs, renSg, Mem.get, assoc]⟩


end Go.Proofs.Ytjmenocghjggcaa
