/-
Contracts of functions of the given program, by the abstract walk.
-/
import Derived.Test.YtopkdpgbjpjgjaaAbsW
import Derived.Test.YtopkdpgbjpjgjaaDh
import Derived.Test.YtopkdpgbjpjgjaaDi
namespace Go.Proofs.Ytopkdpgbjpjgjaa
open Go Go.Abs
set_option linter.unusedVariables false
set_option linter.unusedSectionVars false
set_option linter.unusedSimpArgs false
set_option maxRecDepth 100000
theorem SqP_mkT {N : Nat} {g : Nat → Nat → Nat} (h1 : 1 ≤ N) (hN : N ≤ 10) (hb : ∀ x y, x < N → y < N → g x y < N)
    (hr : ∀ x y z, x < N → y < N → z < N → g x y = g x z → y = z) (hc : ∀ x y z, x < N → y < N → z < N → g x z = g y z → x = y) : SqP N (mkT g N N) := by
  refine SqP_iff.2 ⟨by omega, by omega, ?_, ?_⟩
  · rw [show (N : Int).toNat = N by omega]
    intro x hx
    refine ⟨fun y hy => ?_, fun y hy => ?_⟩
    · unfold permAt
      split
      · rename_i h
        rw [cl_mkT hN hx h]
        refine ⟨hb x y hx h, fun j hj => ?_⟩
        rw [cl_mkT hN hx (by omega)]
        intro e; exact absurd (hr x j y hx (by omega) h e) (by omega)
      · exact cl_mkT0 hN hy (by omega)
    · unfold permAt
      split
      · rename_i h
        show cl (mkT g N N) y x < N ∧ ∀ j, j < y → cl (mkT g N N) j x ≠ cl (mkT g N N) y x
        rw [cl_mkT hN h hx]
        refine ⟨hb y x h hx, fun j hj => ?_⟩
        rw [cl_mkT hN (by omega) hx]
        intro e; exact absurd (hc j y x (by omega) h hx e) (by omega)
      · exact cl_mkT0 hN (by omega) (by omega)
  · rw [show (N : Int).toNat = N by omega]
    intro x hx hn y hy
    exact ⟨cl_mkT0 hN hy (by omega), cl_mkT0 hN hx (by omega)⟩
theorem PermF.fnd_at {N : Nat} {f : Nat → Nat} (h : PermF N f) (hN : N ≤ 10) {z : Nat} (hz : z < N) : f (fnd f z N) = z := Abs.fnd_at (PermF.fnd_lt h hN hz)
def isoG (N : Nat) (t : List Int) (a b : Nat) (x y : Nat) : Nat := cl t (fnd (fun i => cl t i b) x N) (fnd (cl t a) y N)
theorem isoG_lt {N : Nat} {t : List Int} (hs : SqP N t) {a b x y : Nat} (ha : a < N) (hb : b < N) (hx : x < N) (hy : y < N) : isoG N t a b x y < N :=
  hs.cl_lt (PermF.fnd_lt (hs.colP hb) hs.le hx) (PermF.fnd_lt (hs.rowP ha) hs.le hy)
theorem isoG_sq {N : Nat} {t : List Int} (hs : SqP N t) {a b : Nat} (ha : a < N) (hb : b < N) : SqP N (mkT (isoG N t a b) N N) := by
  have hN := hs.le
  refine SqP_mkT hs.pos hN (fun x y hx hy => isoG_lt hs ha hb hx hy) (fun x y z hx hy hz e => ?_) (fun x y z hx hy hz e => ?_)
  · have h1 := PermF.inj (hs.rowP (PermF.fnd_lt (hs.colP hb) hN hx)) hN (PermF.fnd_lt (hs.rowP ha) hN hy) (PermF.fnd_lt (hs.rowP ha) hN hz) e
    rw [← PermF.fnd_at (hs.rowP ha) hN hy, h1, PermF.fnd_at (hs.rowP ha) hN hz]
  · have h1 := PermF.inj (hs.colP (PermF.fnd_lt (hs.rowP ha) hN hz)) hN (PermF.fnd_lt (hs.colP hb) hN hx) (PermF.fnd_lt (hs.colP hb) hN hy) e
    have h2 := PermF.fnd_at (hs.colP hb) hN hx
    rw [h1, PermF.fnd_at (hs.colP hb) hN hy] at h2
    exact h2.symm
theorem isoG_bytes {N : Nat} {t : List Int} (hs : SqP N t) {a b : Nat} (ha : a < N) (hb : b < N) : Bytes 100 (mkT (isoG N t a b) N N) :=
  mkT_bytes hs.le fun x y hx hy => by have := isoG_lt hs ha hb hx hy; have := hs.le; omega

theorem isotopeFor1_ok (N : Nat) (t : List Int) (a b x y : Nat) (ht : Bytes 100 t) (hs : SqP N t) (ha : a < N) (hb : b < N) (hx : x < N) (hy : y < N) :
    ACalls Try.prog 143 [.i .u8 x, .i .u8 y, .ref (.ptr 0 0 0 0), .ref (.ptr 0 1 0 0), .ref (.ptr 0 2 0 0)] [.lv true (sqS N t), .lv true [(0, .ints .u8 1 [(b : Int)])], .lv true [(0, .ints .u8 1 [(a : Int)])]] (fun v ms ns => v = .i .u8 (isoG N t a b x y) ∧ ms = [.lv true (sqS N t), .lv true [(0, .ints .u8 1 [(b : Int)])], .lv true [(0, .ints .u8 1 [(a : Int)])]] ∧ ns = []) := by
  have hN := hs.le
  have j1 := PermF.fnd_lt (hs.colP hb) hN hx
  have j2 := PermF.fnd_lt (hs.rowP ha) hN hy
  have i1 : (fnd (fun i => cl t i b) x N : Int) < 10 := by omega
  have i2 : (fnd (cl t a) y N : Int) < 10 := by omega
  have u1 : 0 + fnd (fun i => cl t i b) x N * 10 + fnd (cl t a) y N * 1 < 100 := by omega
  have k1 := sq_colget ht (fnd (fun i => cl t i b) x N) (fnd (cl t a) y N)
  refine acalls_of_body mix Try.func143 rfl fok143 (Nat.le_of_ble_eq_true rfl) ?_
  unfold abody
  simp only [absE, absL, absF, reduceCtorEq, ↓reduceIte, Nat.reduceEqDiff, Nat.reduceAdd, Nat.reduceLT, Nat.reduceMul, Nat.reduceSub, Nat.reduceLeDiff, Int.reduceLT, Int.reduceLE, Int.reduceEq, Option.isSome_some, implies_true, false_implies, Prod.mk.injEq, ne_eq, not_false_eq_true, not_true_eq_false, ge_iff_le, gt_iff_lt, Int.toNat_natCast, Int.reduceToNat, Int.cast_ofNat_Int, Int.natCast_nonneg, Try.f143]
  refine CallsX.none (implRight_ok N t x b ht hs hx hb) ?_
  simp only [absE, absL, absF, reduceCtorEq, ↓reduceIte, Nat.reduceEqDiff, Nat.reduceAdd, Nat.reduceLT, Nat.reduceMul, Nat.reduceSub, Nat.reduceLeDiff, Int.reduceLT, Int.reduceLE, Int.reduceEq, Option.isSome_some, implies_true, false_implies, Prod.mk.injEq, ne_eq, not_false_eq_true, not_true_eq_false, ge_iff_le, gt_iff_lt, Int.toNat_natCast, Int.reduceToNat, Int.cast_ofNat_Int, Int.natCast_nonneg]
  refine CallsX.none (implLeft_ok N t a y ht hs ha hy) ?_
  simp only [absE, absL, absF, reduceCtorEq, ↓reduceIte, Nat.reduceEqDiff, Nat.reduceAdd, Nat.reduceLT, Nat.reduceMul, Nat.reduceSub, Nat.reduceLeDiff, Int.reduceLT, Int.reduceLE, Int.reduceEq, Option.isSome_some, implies_true, false_implies, Prod.mk.injEq, ne_eq, not_false_eq_true, not_true_eq_false, ge_iff_le, gt_iff_lt, Int.toNat_natCast, Int.reduceToNat, Int.cast_ofNat_Int, Int.natCast_nonneg, i1, i2, u1, k1, Try.results143]
  exact ⟨[], by simp, by simp, by simp [renV, renVs, renSegs, renSg, renBlk, isoG]⟩
noncomputable def isoForR (N : Nat) (t : List Int) (a b : Nat) : List Int := isoT N (mkT (isoG N t a b) N N) (swL N (cl t a b)) (swL N (cl t a b)) (swL N (cl t a b)) N
theorem swL_perm {N e : Nat} (h1 : 1 ≤ N) (hN : N ≤ 10) (he : e < N) : PermP N (swL N e) := PermP_of h1 hN (swL_permF hN he)
theorem isotopeFor_ok (N : Nat) (t : List Int) (a b : Nat) (ht : Bytes 100 t) (hs : SqP N t) (ha : a < N) (hb : b < N) :
    ACalls Try.prog 89 [.agg (sqS N t), .i .u8 a, .i .u8 b] [] (fun v ms ns => v = .agg (sqS N (isoForR N t a b)) ∧ ms = [] ∧ ns = []) := by
  have hN := hs.le
  have he := hs.cl_lt ha hb
  have i1 : (a : Int) < 10 := by omega
  have i2 : (b : Int) < 10 := by omega
  have i3 : (cl t a b : Int) < 10 := by omega
  have u1 : 0 + a * 10 + b * 1 < 100 := by omega
  have u2 : 0 + cl t a b * 1 + 1 ≤ 10 := by omega
  have k1 := sq_colget ht a b
  have hsw : ((idL N).set 0 (cl t a b : Int)).set (0 + cl t a b * 1) 0 = swL N (cl t a b) := rfl
  refine acalls_of_body mix Try.func89 rfl fok89 (Nat.le_of_ble_eq_true rfl) ?_
  unfold abody
  simp only [absE, absL, absF, reduceCtorEq, ↓reduceIte, Nat.reduceEqDiff, Nat.reduceAdd, Nat.reduceLT, Nat.reduceMul, Nat.reduceSub, Nat.reduceLeDiff, Int.reduceLT, Int.reduceLE, Int.reduceEq, Option.isSome_some, implies_true, false_implies, Prod.mk.injEq, ne_eq, not_false_eq_true, not_true_eq_false, ge_iff_le, gt_iff_lt, Int.toNat_natCast, Int.reduceToNat, Int.cast_ofNat_Int, Int.natCast_nonneg, i1, i2, i3, u1, k1, Try.f89]
  repeat refine ⟨by decide +kernel, ?_⟩
  refine CallsVia.none (implIdentity_ok N hN) ?_
  rintro _ _ _ ⟨rfl, rfl, rfl⟩
  simp only [absE, absL, absF, reduceCtorEq, ↓reduceIte, Nat.reduceEqDiff, Nat.reduceAdd, Nat.reduceLT, Nat.reduceMul, Nat.reduceSub, Nat.reduceLeDiff, Int.reduceLT, Int.reduceLE, Int.reduceEq, Option.isSome_some, implies_true, false_implies, Prod.mk.injEq, ne_eq, not_false_eq_true, not_true_eq_false, ge_iff_le, gt_iff_lt, Int.toNat_natCast, Int.reduceToNat, Int.cast_ofNat_Int, Int.natCast_nonneg, i1, i2, i3, u1, u2, k1, hsw]
  refine CallsVia.args [(1, 0), (3, 0), (2, 0)] (made3_ok N hN 143 (isoG N t a b) (sqS N t) [(0, .ints .u8 1 [(b : Int)])] [(0, .ints .u8 1 [(a : Int)])] (fun ρ => by simp [renSegs, renSg]) (fun ρ => by simp [renSegs, renSg]) (fun ρ => by simp [renSegs, renSg]) (fun x y hx hy => isotopeFor1_ok N t a b x y ht hs ha hb hx hy)) (by simp) (by simp [Mem.get, assoc]) rfl rfl ?_
  rintro _ _ _ ⟨rfl, rfl, rfl⟩
  simp only [absE, absL, absF, reduceCtorEq, ↓reduceIte, Nat.reduceEqDiff, Nat.reduceAdd, Nat.reduceLT, Nat.reduceMul, Nat.reduceSub, Nat.reduceLeDiff, Int.reduceLT, Int.reduceLE, Int.reduceEq, Option.isSome_some, implies_true, false_implies, Prod.mk.injEq, ne_eq, not_false_eq_true, not_true_eq_false, ge_iff_le, gt_iff_lt, Int.toNat_natCast, Int.reduceToNat, Int.cast_ofNat_Int, Int.natCast_nonneg]
  refine CallsVia.none (isotope_ok N _ _ _ _ (isoG_bytes hs ha hb) (swL_bytes hN he) (swL_bytes hN he) (swL_bytes hN he) (isoG_sq hs ha hb) (swL_perm hs.pos hN he) (swL_perm hs.pos hN he)) ?_
  rintro _ _ _ ⟨rfl, rfl, rfl⟩
  simp only [absE, absL, absF, reduceCtorEq, ↓reduceIte, Nat.reduceEqDiff, Nat.reduceAdd, Nat.reduceLT, Nat.reduceMul, Nat.reduceSub, Nat.reduceLeDiff, Int.reduceLT, Int.reduceLE, Int.reduceEq, Option.isSome_some, implies_true, false_implies, Prod.mk.injEq, ne_eq, not_false_eq_true, not_true_eq_false, ge_iff_le, gt_iff_lt, Int.toNat_natCast, Int.reduceToNat, Int.cast_ofNat_Int, Int.natCast_nonneg, Try.results89]
  exact ⟨[], by simp, by simp, by simp [renV, renVs, renSegs, renSg, isoForR]⟩

theorem l01Moved_ok (N : Nat) (t p q r : List Int) (ht : Bytes 100 t) (hp : Bytes 10 p) (hq : Bytes 10 q) (hr : Bytes 10 r) (hs : SqP N t) (pp : PermP N p) (pq : PermP N q) :
    ACalls Try.prog 142 [.agg (sqS N t), .agg (plS p), .agg (plS q), .agg (plS r)] [] (fun v ms ns => v = .agg (sqS N (isoT N t p q r N)) ∧ ms = [] ∧ ns = []) := by
  have hN := hs.le
  refine acalls_of_body mix Try.func142 rfl fok142 (Nat.le_of_ble_eq_true rfl) ?_
  unfold abody
  simp only [absE, absL, absF, reduceCtorEq, ↓reduceIte, Nat.reduceEqDiff, Nat.reduceAdd, Nat.reduceLT, Nat.reduceMul, Nat.reduceSub, Nat.reduceLeDiff, Int.reduceLT, Int.reduceLE, Int.reduceEq, Option.isSome_some, implies_true, false_implies, Prod.mk.injEq, ne_eq, not_false_eq_true, not_true_eq_false, ge_iff_le, gt_iff_lt, Int.toNat_natCast, Int.reduceToNat, Int.cast_ofNat_Int, Int.natCast_nonneg, Try.f142]
  refine awpLoop.intro (fun x : Nat => [(4, .ref (.ptr 1 0 0 0)), (5, .ref (.ptr 2 0 0 0)), (6, .ref (.ptr 3 0 0 0)), (7, .ref (.ptr 4 0 0 0)), (8, .ref (.ptr 5 0 0 0)), (9, .ref (.ptr 9 0 0 0)), (10, .i .i64 x)]) (fun x => ⟨[], [((1, 0), .lv true (sqS N t)), ((2, 0), .lv true (plS p)), ((3, 0), .lv true (plS q)), ((4, 0), .lv true (plS r)), ((5, 0), .lv true (sqS 0 (List.replicate 100 0))), ((9, 0), .lv true (sqS N (isoT N t p q r x)))], 12⟩)
    (fun x => x ≤ N) (fun x => N - x) 0 (by omega) ⟨[((1,0),(1,0)), ((2,0),(2,0)), ((3,0),(3,0)), ((4,0),(4,0)), ((5,0),(5,0)), ((9,0),(9,0))], rfl, ?_, ?_⟩ ?_
  · simp [wkEnv, lk, renV, renAt, renTo, isoT]
  · simp [wkMem, wkLoc, Mem.get, assoc, renBlk, renSegs, renSg, renTo, isoT]
  · intro x hx
    by_cases h : (x : Int) < N
    · have w := wrap_i64s (show x < 2 ^ 62 by omega)
      simp only [absE, absL, absF, reduceCtorEq, ↓reduceIte, Nat.reduceEqDiff, Nat.reduceAdd, Nat.reduceLT, Nat.reduceMul, Nat.reduceSub, Nat.reduceLeDiff, Int.reduceLT, Int.reduceLE, Int.reduceEq, Option.isSome_some, implies_true, false_implies, Prod.mk.injEq, ne_eq, not_false_eq_true, not_true_eq_false, ge_iff_le, gt_iff_lt, Int.toNat_natCast, Int.reduceToNat, Int.cast_ofNat_Int, Int.natCast_nonneg, h]
      refine awpLoop.intro (fun y : Nat => [(4, .ref (.ptr 1 0 0 0)), (5, .ref (.ptr 2 0 0 0)), (6, .ref (.ptr 3 0 0 0)), (7, .ref (.ptr 4 0 0 0)), (8, .ref (.ptr 5 0 0 0)), (9, .ref (.ptr 9 0 0 0)), (10, .i .i64 x), (11, .i .i64 y)]) (fun y => ⟨[], [((1, 0), .lv true (sqS N t)), ((2, 0), .lv true (plS p)), ((3, 0), .lv true (plS q)), ((4, 0), .lv true (plS r)), ((5, 0), .lv true (sqS 0 (List.replicate 100 0))), ((9, 0), .lv true (sqS N (isoIn t p q r x (isoT N t p q r x) y)))], 17⟩)
        (fun y => y ≤ N) (fun y => N - y) 0 (by omega) ⟨[((1,0),(1,0)), ((2,0),(2,0)), ((3,0),(3,0)), ((4,0),(4,0)), ((5,0),(5,0)), ((9,0),(9,0))], rfl, ?_, ?_⟩ ?_
      · simp [wkEnv, lk, renV, renAt, renTo, isoIn]
      · simp [wkMem, wkLoc, Mem.get, assoc, renBlk, renSegs, renSg, renTo, isoIn]
      · intro y hy
        by_cases h' : (y : Int) < N
        · have w' := wrap_i64s (show y < 2 ^ 62 by omega)
          have i1 : (x : Int) < 10 := by omega
          have i2 : (y : Int) < 10 := by omega
          have k1 : p.getD (0 + x * 1) 0 = (pl p x : Int) := by rw [Nat.zero_add, Nat.mul_one]; exact hp.place x
          have k2 : q.getD (0 + y * 1) 0 = (pl q y : Int) := by rw [Nat.zero_add, Nat.mul_one]; exact hq.place y
          have k3 := sq_colget ht x y
          have j1 := permP_lt pp h
          have j2 := permP_lt pq h'
          have j3 := sqP_lt hs h h'
          have l1 : (pl p x : Int) < 10 := by omega
          have l2 : (pl q y : Int) < 10 := by omega
          have l3 : (cl t x y : Int) < 10 := by omega
          have u1 : 0 + x * 1 < 10 := by omega
          have u2 : 0 + y * 1 < 10 := by omega
          have u3 : 0 + x * 10 + y * 1 < 100 := by omega
          have u4 : 0 + cl t x y * 1 < 10 := by omega
          have u5 : 0 + pl p x * 10 + pl q y * 1 + 1 ≤ 100 := by omega
          simp only [absE, absL, absF, reduceCtorEq, ↓reduceIte, Nat.reduceEqDiff, Nat.reduceAdd, Nat.reduceLT, Nat.reduceMul, Nat.reduceSub, Nat.reduceLeDiff, Int.reduceLT, Int.reduceLE, Int.reduceEq, Option.isSome_some, implies_true, false_implies, Prod.mk.injEq, ne_eq, not_false_eq_true, not_true_eq_false, ge_iff_le, gt_iff_lt, Int.toNat_natCast, Int.reduceToNat, Int.cast_ofNat_Int, Int.natCast_nonneg, h, h', i1, i2, k1, k2, k3, l1, l2, l3, u1, u2, u3, u4, u5]
          repeat refine ⟨by decide +kernel, ?_⟩
          refine LoopNext.intro (y + 1) (by omega) (by omega) ⟨[((1,0),(1,0)), ((2,0),(2,0)), ((3,0),(3,0)), ((4,0),(4,0)), ((5,0),(5,0)), ((9,0),(9,0))], rfl, ?_, ?_⟩
          · simp [wkEnv, lk, renV, renAt, renTo, w', isoIn]
          · simp [wkMem, wkLoc, Mem.get, assoc, renBlk, renSegs, renSg, renTo, w', isoIn]
        · have hyN : y = N := by omega
          subst hyN
          simp only [absE, absL, absF, reduceCtorEq, ↓reduceIte, Nat.reduceEqDiff, Nat.reduceAdd, Nat.reduceLT, Nat.reduceMul, Nat.reduceSub, Nat.reduceLeDiff, Int.reduceLT, Int.reduceLE, Int.reduceEq, Option.isSome_some, implies_true, false_implies, Prod.mk.injEq, ne_eq, not_false_eq_true, not_true_eq_false, ge_iff_le, gt_iff_lt, Int.toNat_natCast, Int.reduceToNat, Int.cast_ofNat_Int, Int.natCast_nonneg, h, h']
          refine LoopNext.intro (x + 1) (by omega) (by omega) ⟨[((1,0),(1,0)), ((2,0),(2,0)), ((3,0),(3,0)), ((4,0),(4,0)), ((5,0),(5,0)), ((9,0),(9,0))], rfl, ?_, ?_⟩
          · simp [wkEnv, lk, renV, renAt, renTo, w, isoT]
          · simp [wkMem, wkLoc, Mem.get, assoc, renBlk, renSegs, renSg, renTo, w, isoT]
    · have hxN : x = N := by omega
      subst hxN
      simp only [absE, absL, absF, reduceCtorEq, ↓reduceIte, Nat.reduceEqDiff, Nat.reduceAdd, Nat.reduceLT, Nat.reduceMul, Nat.reduceSub, Nat.reduceLeDiff, Int.reduceLT, Int.reduceLE, Int.reduceEq, Option.isSome_some, implies_true, false_implies, Prod.mk.injEq, ne_eq, not_false_eq_true, not_true_eq_false, ge_iff_le, gt_iff_lt, Int.toNat_natCast, Int.reduceToNat, Int.cast_ofNat_Int, Int.natCast_nonneg, h, Try.results142]
      exact ⟨[], by simp, by simp, by simp [renV, renVs, renSegs, renSg]⟩
theorem swL_other {N e : Nat} (hN : N ≤ 10) (he : e < N) : ((idL N).set (0 + e * 1) 0).set 0 (e : Int) = swL N e := by
  have hl : (idL N).length = 10 := mapL_len
  refine ext_getD (by simp [swL]) fun i hi => ?_
  unfold swL
  rw [getD_set_int (by rw [List.length_set, hl]; omega), getD_set_int (by rw [hl]; omega), getD_set_int (by rw [List.length_set, hl]; omega), getD_set_int (by rw [hl]; omega)]
  by_cases h1 : 0 = i
  · rw [if_pos h1, if_pos h1]
    split
    · omega
    · rfl
  · rw [if_neg h1, if_neg h1]
theorem l07Isotope_ok (N : Nat) (t : List Int) (a b : Nat) (ht : Bytes 100 t) (hs : SqP N t) (ha : a < N) (hb : b < N) :
    ACalls Try.prog 87 [.agg (sqS N t), .i .u8 a, .i .u8 b] [] (fun v ms ns => v = .agg (sqS N (isoForR N t a b)) ∧ ms = [] ∧ ns = []) := by
  have hN := hs.le
  have he := hs.cl_lt ha hb
  have i1 : (a : Int) < 10 := by omega
  have i2 : (b : Int) < 10 := by omega
  have i3 : (cl t a b : Int) < 10 := by omega
  have u1 : 0 + a * 10 + b * 1 < 100 := by omega
  have u2 : 0 + cl t a b * 1 + 1 ≤ 10 := by omega
  have k1 := sq_colget ht a b
  have hsw := swL_other hN he
  refine acalls_of_body mix Try.func87 rfl fok87 (Nat.le_of_ble_eq_true rfl) ?_
  unfold abody
  simp only [absE, absL, absF, reduceCtorEq, ↓reduceIte, Nat.reduceEqDiff, Nat.reduceAdd, Nat.reduceLT, Nat.reduceMul, Nat.reduceSub, Nat.reduceLeDiff, Int.reduceLT, Int.reduceLE, Int.reduceEq, Option.isSome_some, implies_true, false_implies, Prod.mk.injEq, ne_eq, not_false_eq_true, not_true_eq_false, ge_iff_le, gt_iff_lt, Int.toNat_natCast, Int.reduceToNat, Int.cast_ofNat_Int, Int.natCast_nonneg, Try.f87]
  refine CallsX.none (specSame_ok N hN) ?_
  simp only [absE, absL, absF, reduceCtorEq, ↓reduceIte, Nat.reduceEqDiff, Nat.reduceAdd, Nat.reduceLT, Nat.reduceMul, Nat.reduceSub, Nat.reduceLeDiff, Int.reduceLT, Int.reduceLE, Int.reduceEq, Option.isSome_some, implies_true, false_implies, Prod.mk.injEq, ne_eq, not_false_eq_true, not_true_eq_false, ge_iff_le, gt_iff_lt, Int.toNat_natCast, Int.reduceToNat, Int.cast_ofNat_Int, Int.natCast_nonneg]
  repeat refine ⟨by decide +kernel, ?_⟩
  refine awpLoop.intro (fun x : Nat => [(1, .i .u8 a), (2, .i .u8 b), (3, .ref (.ptr 1 0 0 0)), (6, .ref (.ptr 2 0 0 0)), (7, .ref (.ptr 9 0 0 0)), (8, .ref (.ptr 10 0 0 0)), (9, .i .u8 x)]) (fun x => ⟨[], [((1, 0), .lv true (sqS N t)), ((2, 0), .lv true (sqS 0 (List.replicate 100 0))), ((9, 0), .lv true (sqS N (mkT (isoG N t a b) N x))), ((10, 0), .lv true (plS (idL N)))], 14⟩)
    (fun x => x ≤ N) (fun x => N - x) 0 (by omega) ⟨[((1,0),(1,0)), ((2,0),(2,0)), ((9,0),(9,0)), ((10,0),(10,0))], rfl, ?_, ?_⟩ ?_
  · simp [wkEnv, lk, renV, renAt, renTo, mkT]
  · simp [wkMem, wkLoc, Mem.get, assoc, renBlk, renSegs, renSg, renTo, mkT]
  · intro x hx
    have wx := wrap_i64n (show x < 2 ^ 62 by omega)
    by_cases h : (x : Int) < N
    · have w := wrap_u8s (show x < 255 by omega)
      simp only [absE, absL, absF, reduceCtorEq, ↓reduceIte, Nat.reduceEqDiff, Nat.reduceAdd, Nat.reduceLT, Nat.reduceMul, Nat.reduceSub, Nat.reduceLeDiff, Int.reduceLT, Int.reduceLE, Int.reduceEq, Option.isSome_some, implies_true, false_implies, Prod.mk.injEq, ne_eq, not_false_eq_true, not_true_eq_false, ge_iff_le, gt_iff_lt, Int.toNat_natCast, Int.reduceToNat, Int.cast_ofNat_Int, Int.natCast_nonneg, wx, h]
      refine awpLoop.intro (fun y : Nat => [(1, .i .u8 a), (2, .i .u8 b), (3, .ref (.ptr 1 0 0 0)), (6, .ref (.ptr 2 0 0 0)), (7, .ref (.ptr 9 0 0 0)), (8, .ref (.ptr 10 0 0 0)), (9, .i .u8 x), (10, .i .u8 y)]) (fun y => ⟨[], [((1, 0), .lv true (sqS N t)), ((2, 0), .lv true (sqS 0 (List.replicate 100 0))), ((9, 0), .lv true (sqS N (mkIn (isoG N t a b) x (mkT (isoG N t a b) N x) y))), ((10, 0), .lv true (plS (idL N)))], 20⟩)
        (fun y => y ≤ N) (fun y => N - y) 0 (by omega) ⟨[((1,0),(1,0)), ((2,0),(2,0)), ((9,0),(9,0)), ((10,0),(10,0))], rfl, ?_, ?_⟩ ?_
      · simp [wkEnv, lk, renV, renAt, renTo, mkIn]
      · simp [wkMem, wkLoc, Mem.get, assoc, renBlk, renSegs, renSg, renTo, mkIn]
      · intro y hy
        have wy := wrap_i64n (show y < 2 ^ 62 by omega)
        by_cases h' : (y : Int) < N
        · have w' := wrap_u8s (show y < 255 by omega)
          have j1 := PermF.fnd_lt (hs.colP hb) hN (show x < N by omega)
          have j2 := PermF.fnd_lt (hs.rowP ha) hN (show y < N by omega)
          have l1 : (fnd (fun i => cl t i b) x N : Int) < 10 := by omega
          have l2 : (fnd (cl t a) y N : Int) < 10 := by omega
          have l3 : (x : Int) < 10 := by omega
          have l4 : (y : Int) < 10 := by omega
          have u3 : 0 + fnd (fun i => cl t i b) x N * 10 + fnd (cl t a) y N * 1 < 100 := by omega
          have u4 : 0 + x * 10 + y * 1 + 1 ≤ 100 := by omega
          have k2 := sq_colget ht (fnd (fun i => cl t i b) x N) (fnd (cl t a) y N)
          simp only [absE, absL, absF, reduceCtorEq, ↓reduceIte, Nat.reduceEqDiff, Nat.reduceAdd, Nat.reduceLT, Nat.reduceMul, Nat.reduceSub, Nat.reduceLeDiff, Int.reduceLT, Int.reduceLE, Int.reduceEq, Option.isSome_some, implies_true, false_implies, Prod.mk.injEq, ne_eq, not_false_eq_true, not_true_eq_false, ge_iff_le, gt_iff_lt, Int.toNat_natCast, Int.reduceToNat, Int.cast_ofNat_Int, Int.natCast_nonneg, wy, h']
          refine CallsX.none (specRight_ok N t x b ht hs (by omega) hb) ?_
          simp only [absE, absL, absF, reduceCtorEq, ↓reduceIte, Nat.reduceEqDiff, Nat.reduceAdd, Nat.reduceLT, Nat.reduceMul, Nat.reduceSub, Nat.reduceLeDiff, Int.reduceLT, Int.reduceLE, Int.reduceEq, Option.isSome_some, implies_true, false_implies, Prod.mk.injEq, ne_eq, not_false_eq_true, not_true_eq_false, ge_iff_le, gt_iff_lt, Int.toNat_natCast, Int.reduceToNat, Int.cast_ofNat_Int, Int.natCast_nonneg]
          refine CallsX.none (specLeft_ok N t a y ht hs ha (by omega)) ?_
          simp only [absE, absL, absF, reduceCtorEq, ↓reduceIte, Nat.reduceEqDiff, Nat.reduceAdd, Nat.reduceLT, Nat.reduceMul, Nat.reduceSub, Nat.reduceLeDiff, Int.reduceLT, Int.reduceLE, Int.reduceEq, Option.isSome_some, implies_true, false_implies, Prod.mk.injEq, ne_eq, not_false_eq_true, not_true_eq_false, ge_iff_le, gt_iff_lt, Int.toNat_natCast, Int.reduceToNat, Int.cast_ofNat_Int, Int.natCast_nonneg, l1, l2, l3, l4, u3, u4, k2, w']
          repeat refine ⟨by decide +kernel, ?_⟩
          refine LoopNext.intro (y + 1) (by omega) (by omega) ⟨[((1,0),(1,0)), ((2,0),(2,0)), ((9,0),(9,0)), ((10,0),(10,0))], rfl, ?_, ?_⟩
          · simp [wkEnv, lk, renV, renAt, renTo, mkIn, isoG]
          · simp [wkMem, wkLoc, Mem.get, assoc, renBlk, renSegs, renSg, renTo, mkIn, isoG]
        · have hyN : y = N := by omega
          subst hyN
          simp only [absE, absL, absF, reduceCtorEq, ↓reduceIte, Nat.reduceEqDiff, Nat.reduceAdd, Nat.reduceLT, Nat.reduceMul, Nat.reduceSub, Nat.reduceLeDiff, Int.reduceLT, Int.reduceLE, Int.reduceEq, Option.isSome_some, implies_true, false_implies, Prod.mk.injEq, ne_eq, not_false_eq_true, not_true_eq_false, ge_iff_le, gt_iff_lt, Int.toNat_natCast, Int.reduceToNat, Int.cast_ofNat_Int, Int.natCast_nonneg, wy, h', w]
          refine LoopNext.intro (x + 1) (by omega) (by omega) ⟨[((1,0),(1,0)), ((2,0),(2,0)), ((9,0),(9,0)), ((10,0),(10,0))], rfl, ?_, ?_⟩
          · simp [wkEnv, lk, renV, renAt, renTo, mkT]
          · simp [wkMem, wkLoc, Mem.get, assoc, renBlk, renSegs, renSg, renTo, mkT]
    · have hxN : x = N := by omega
      subst hxN
      simp only [absE, absL, absF, reduceCtorEq, ↓reduceIte, Nat.reduceEqDiff, Nat.reduceAdd, Nat.reduceLT, Nat.reduceMul, Nat.reduceSub, Nat.reduceLeDiff, Int.reduceLT, Int.reduceLE, Int.reduceEq, Option.isSome_some, implies_true, false_implies, Prod.mk.injEq, ne_eq, not_false_eq_true, not_true_eq_false, ge_iff_le, gt_iff_lt, Int.toNat_natCast, Int.reduceToNat, Int.cast_ofNat_Int, Int.natCast_nonneg, wx, h, i1, i2, i3, u1, u2, k1, hsw]
      refine CallsVia.none (l01Moved_ok _ _ _ _ _ (isoG_bytes hs ha hb) (swL_bytes hN he) (swL_bytes hN he) (swL_bytes hN he) (isoG_sq hs ha hb) (swL_perm hs.pos hN he) (swL_perm hs.pos hN he)) ?_
      rintro _ _ _ ⟨rfl, rfl, rfl⟩
      simp only [absE, absL, absF, reduceCtorEq, ↓reduceIte, Nat.reduceEqDiff, Nat.reduceAdd, Nat.reduceLT, Nat.reduceMul, Nat.reduceSub, Nat.reduceLeDiff, Int.reduceLT, Int.reduceLE, Int.reduceEq, Option.isSome_some, implies_true, false_implies, Prod.mk.injEq, ne_eq, not_false_eq_true, not_true_eq_false, ge_iff_le, gt_iff_lt, Int.toNat_natCast, Int.reduceToNat, Int.cast_ofNat_Int, Int.natCast_nonneg, Try.results87]
      exact ⟨[], by simp, by simp, by simp [renV, renVs, renSegs, renSg, isoForR]⟩

end Go.Proofs.Ytopkdpgbjpjgjaa
