/-
Contracts of functions of the given program, by the abstract walk.
-/
import Derived.Test.YtgblnnodoabdeaaAbsY
import Derived.Test.YtgblnnodoabdeaaUk
namespace Go.Proofs.Ytgblnnodoabdeaa
open Go Go.Abs
set_option linter.unusedVariables false
set_option linter.unusedSectionVars false
set_option linter.unusedSimpArgs false
set_option maxRecDepth 100000
/-! isomorphisms: the reference's recursion -/
def toS (f : List Int) : List Int := (List.range 10).map fun i => if pl f i = 255 then -1 else ((pl f i : Nat) : Int)
def usS (N : Nat) (f : List Int) : List Int := (List.range 10).map fun y => if usd N f y then 1 else 0
abbrev lmS (N : Nat) (f : List Int) : Segs := [(0, .ints .i64 10 (toS f)), (10, .ints .i64 10 (usS N f)), (20, .ints .i64 1 [((cntL f N : Nat) : Int)])]
theorem toS_len {f : List Int} : (toS f).length = 10 := by simp [toS]
theorem usS_len {N : Nat} {f : List Int} : (usS N f).length = 10 := by simp [usS]
theorem toS_get {f : List Int} {i : Nat} (hi : i < 10) : (toS f).getD i 0 = if pl f i = 255 then -1 else ((pl f i : Nat) : Int) := by
  unfold toS; rw [List.getD_eq_getElem?_getD, List.getElem?_map, List.getElem?_range hi]; rfl
theorem usS_get {N : Nat} {f : List Int} {i : Nat} (hi : i < 10) : (usS N f).getD i 0 = if usd N f i then 1 else 0 := by
  unfold usS; rw [List.getD_eq_getElem?_getD, List.getElem?_map, List.getElem?_range hi]; rfl
theorem toS_set {f : List Int} (hf : f.length = 10) {a b : Nat} (ha : a < 10) (hb : b < 255) : (toS f).set a (b : Int) = toS (f.set a (b : Int)) := by
  refine ext_getD (by simp [toS]) fun i hi => ?_
  have hi : i < 10 := by simpa [toS] using hi
  rw [getD_set_int (by rw [toS_len]; exact ha), toS_get hi, toS_get hi, pl_put hf ha]
  by_cases e : a = i
  · rw [if_pos e, if_pos e, if_neg (by omega)]
  · rw [if_neg e, if_neg e]
theorem usd_set {N : Nat} {f : List Int} (hN : N ≤ 10) (hf : f.length = 10) {a b i : Nat} (ha : a < N) (h : pl f a = 255) (hi : i < 10) : usd N (f.set a (b : Int)) i = if b = i then true else usd N f i := by
  have e := fun j => pl_put (f := f) (j := j) (b := b) hf (show a < 10 by omega)
  rw [Bool.eq_iff_iff, usd_iff]
  split
  · rename_i hb
    exact ⟨fun _ => rfl, fun _ => ⟨a, ha, by rw [e, if_pos rfl, hb]⟩⟩
  · rename_i hb
    rw [usd_iff]
    constructor
    · rintro ⟨c, hc, h1⟩
      rw [e] at h1
      split at h1
      · exact absurd h1 hb
      · exact ⟨c, hc, h1⟩
    · rintro ⟨c, hc, h1⟩
      refine ⟨c, hc, ?_⟩
      rw [e, if_neg]
      · exact h1
      · rintro rfl; omega
theorem usS_set {N : Nat} {f : List Int} (hN : N ≤ 10) (hf : f.length = 10) {a b : Nat} (ha : a < N) (hb : b < 10) (h : pl f a = 255) : (usS N f).set b 1 = usS N (f.set a (b : Int)) := by
  refine ext_getD (by simp [usS]) fun i hi => ?_
  have hi : i < 10 := by simpa [usS] using hi
  rw [getD_set_int (by rw [usS_len]; exact hb), usS_get hi, usS_get hi, usd_set hN hf ha h hi]
  by_cases e : b = i
  · rw [if_pos e, if_pos e]; rfl
  · rw [if_neg e, if_neg e]
theorem cnt_set {f : List Int} (hf : f.length = 10) {a b : Nat} (ha : a < 10) (hb : b < 255) (h : pl f a = 255) : ∀ {k}, cntL (f.set a (b : Int)) k = if a < k then cntL f k + 1 else cntL f k
  | 0 => by simp [cntL]
  | k + 1 => by
    rw [cntL, cntL, pl_put hf ha, cnt_set hf ha hb h (k := k)]
    by_cases e : a = k
    · subst e
      rw [if_pos rfl, if_neg (by omega), if_neg (by omega), if_pos (by omega), h, if_pos rfl]
    · rw [if_neg e]
      by_cases e2 : a < k
      · rw [if_pos e2, if_pos (show a < k + 1 by omega)]; split <;> rfl
      · rw [if_neg e2, if_neg (show ¬ a < k + 1 by omega)]
theorem cloL_stop {rec : List Int → Nat → Nat → List Int × Bool} {t s : List Int} {a b : Nat} {f g : List Int} {z : Nat} (h : cloL t s rec a b z f = (g, false)) : ∀ {y}, z ≤ y → cloL t s rec a b y f = (g, false)
  | 0, hy => by obtain rfl : z = 0 := by omega
                exact h
  | y + 1, hy => by
    by_cases e : z = y + 1
    · subst e; exact h
    · rw [cloL, cloL_stop h (y := y) (by omega)]
theorem l02Close_ok (N : Nat) (t s : List Int) (ht : Bytes 100 t) (hs : Bytes 100 s) (st : SqP N t) (ss : SqP N s) : ∀ d (f : List Int) (x y : Nat), Mid true N N f → x < N → y < N → N ≤ cntL f N + d →
    ACalls Try.prog 155 [.agg (sqS N t), .agg (sqS N s), .agg (lmS N f), .i .i64 x, .i .i64 y] []
      (fun v ms ns => v = .tup [.agg (lmS N (clo true N t s d f x y).1), .b (clo true N t s d f x y).2] ∧ ms = [] ∧ ns = []) := by
  have hN := st.le
  intro d
  induction d with
  | zero =>
    intro f x y hf hx hy hc
    have hdm : pl f x ≠ 255 := cnt_all (by have := cnt_le (f := f) (k := N); omega) x hx
    have x10 : (x : Int) < 10 := by omega
    have x11 : 0 + x * 1 < 10 := by omega
    have k1 : (toS f).getD (0 + x * 1) 0 = ((pl f x : Nat) : Int) := by rw [Nat.zero_add, Nat.mul_one, toS_get (by omega), if_neg hdm]
    have e : decide (((pl f x : Nat) : Int) = (y : Int)) = decide (pl f x = y) := decide_eq_decide.2 (by omega)
    have e0 : clo true N t s 0 f x y = (f, decide (pl f x = y)) := rfl
    rw [e0]
    refine acalls_of_body mix Try.func155 rfl fok155 (Nat.le_of_ble_eq_true rfl) ?_
    unfold abody
    simp only [absE, absL, absF, reduceCtorEq, ↓reduceIte, Nat.reduceEqDiff, Nat.reduceAdd, Nat.reduceLT, Nat.reduceMul, Nat.reduceSub, Nat.reduceLeDiff, Int.reduceLT, Int.reduceLE, Int.reduceEq, Option.isSome_some, implies_true, false_implies, Prod.mk.injEq, ne_eq, not_false_eq_true, not_true_eq_false, ge_iff_le, gt_iff_lt, Int.toNat_natCast, Int.reduceToNat, Int.cast_ofNat_Int, Int.natCast_nonneg, x10, x11, k1, e, Try.f155, Try.results155]
    repeat refine And.intro (by decide +kernel) ?_
    exact ⟨[], by simp, by simp, by simp [renV, renVs, renSegs, renSg], by simp, by simp⟩
  | succ d ih =>
    intro f x y hf hx hy hc
    have x10 : (x : Int) < 10 := by omega
    have y10 : (y : Int) < 10 := by omega
    have x11 : 0 + x * 1 < 10 := by omega
    have y11 : 0 + y * 1 < 10 := by omega
    by_cases hdm : pl f x = 255
    · have k1 : (toS f).getD (0 + x * 1) 0 = -1 := by rw [Nat.zero_add, Nat.mul_one, toS_get (by omega), if_pos hdm]
      cases hu : usd N f y
      · have k2 : (usS N f).getD (0 + y * 1) 0 = 0 := by rw [Nat.zero_add, Nat.mul_one, usS_get (by omega), hu]; rfl
        have e0 : clo true N t s (d + 1) f x y = cloL t s (clo true N t s d) x y N (f.set x (y : Int)) := by rw [clo, if_neg (by rw [hdm, hu]; simp)]
        rw [e0]
        have s1 : (toS f).set (0 + x * 1) (y : Int) = toS (f.set x (y : Int)) := by rw [Nat.zero_add, Nat.mul_one]; exact toS_set hf.pm.by_.len (by omega) (by omega)
        have s2 : (usS N f).set (0 + y * 1) 1 = usS N (f.set x (y : Int)) := by rw [Nat.zero_add, Nat.mul_one]; exact usS_set hN hf.pm.by_.len hx (by omega) hdm
        have hcn := cnt_set (b := y) hf.pm.by_.len (show x < 10 by omega) (by omega) hdm (k := N)
        rw [if_pos hx] at hcn
        have hcl := cnt_le (f := f) (k := N)
        have s3 : IntKind.i64.wrap (((cntL f N : Nat) : Int) + 1) = ((cntL (f.set x (y : Int)) N : Nat) : Int) := by rw [wrap_i64s (by omega), hcn]
        have hun : ∀ c, c < N → pl f c ≠ y := fun c hcN hcb => by
          have := usd_iff.2 ⟨c, hcN, hcb⟩
          rw [hu] at this; cases this
        have hm : Mid true N N (f.set x (y : Int)) := ⟨pm_put hf.pm hN hN hx hy, fun hij => inj_put hf.pm hN (hf.inj hij) hx hun⟩
        have ea : pl (f.set x (y : Int)) x = y := by rw [pl_put hf.pm.by_.len (by omega), if_pos rfl]
        have hL := fun z hz => cloL_ok hN hN st ss hx hy (clo_ok (ij := true) hN hN st ss d) hm ea (by omega) z hz
        generalize f.set x (y : Int) = f1 at s1 s2 s3 hm ea hL hcn
        refine acalls_of_body mix Try.func155 rfl fok155 (Nat.le_of_ble_eq_true rfl) ?_
        unfold abody
        simp only [absE, absL, absF, reduceCtorEq, ↓reduceIte, Nat.reduceEqDiff, Nat.reduceAdd, Nat.reduceLT, Nat.reduceMul, Nat.reduceSub, Nat.reduceLeDiff, Int.reduceLT, Int.reduceLE, Int.reduceEq, Option.isSome_some, implies_true, false_implies, Prod.mk.injEq, ne_eq, not_false_eq_true, not_true_eq_false, ge_iff_le, gt_iff_lt, Int.toNat_natCast, Int.reduceToNat, Int.cast_ofNat_Int, Int.natCast_nonneg, x10, y10, x11, y11, k1, k2, s1, s2, s3, Try.f155]
        repeat first | refine And.intro (by decide +kernel) ?_ | refine And.intro (by omega) ?_
        refine awpLoop.intro (fun c : Nat × List Int => [(3, .i .i64 x), (4, .i .i64 y), (5, .ref (.ptr 1 0 0 0)), (6, .ref (.ptr 2 0 0 0)), (7, .ref (.ptr 3 0 0 0)), (10, .ref (.ptr 4 0 0 0)), (12, .i .i64 c.1), (11, .b false)]) (fun c => ⟨[], [((1, 0), .lv true (sqS N t)), ((2, 0), .lv true (sqS N s)), ((3, 0), .lv true (lmS N c.2)), ((4, 0), .lv true ([(0, .ints .i64 10 (List.replicate 10 0)), (10, .ints .i64 10 (List.replicate 10 0)), (20, .ints .i64 1 [0])]))], 40⟩)
          (fun c => c.1 ≤ N ∧ cloL t s (clo true N t s d) x y c.1 f1 = (c.2, true)) (fun c => N - c.1) (0, f1) ⟨by simp, rfl⟩ ⟨[((1,0),(1,0)), ((2,0),(2,0)), ((3,0),(3,0)), ((4,0),(4,0))], rfl, ?_, ?_⟩ ?_
        · simp [wkEnv, lk, renV, renAt, renTo]
        · simp [wkMem, wkLoc, Mem.get, assoc, renBlk, renSegs, renSg, renTo]
        · rintro ⟨z, g⟩ ⟨hz, hg⟩
          simp only at hz hg
          have hR := hL z hz
          rw [hg] at hR
          have hgm : Mid true N N g := hR.mid
          have hgE : PExt N f1 g := hR.ext
          by_cases h : (z : Int) < N
          · have w := wrap_i64s (show z < 2 ^ 62 by omega)
            have hzN : z < N := by omega
            have z10 : (z : Int) < 10 := by omega
            have z11 : 0 + z * 1 < 10 := by omega
            by_cases e : pl g z = 255
            · have k3 : (toS g).getD (0 + z * 1) 0 = -1 := by rw [Nat.zero_add, Nat.mul_one, toS_get (by omega), if_pos e]
              simp only [absE, absL, absF, reduceCtorEq, ↓reduceIte, Nat.reduceEqDiff, Nat.reduceAdd, Nat.reduceLT, Nat.reduceMul, Nat.reduceSub, Nat.reduceLeDiff, Int.reduceLT, Int.reduceLE, Int.reduceEq, Option.isSome_some, implies_true, false_implies, Prod.mk.injEq, ne_eq, not_false_eq_true, not_true_eq_false, ge_iff_le, gt_iff_lt, Int.toNat_natCast, Int.reduceToNat, Int.cast_ofNat_Int, Int.natCast_nonneg, h, z10, z11, k3]
              refine LoopNext.intro (z + 1, g) ⟨by simp only; omega, by simp only [cloL, hg]; rw [if_pos e]⟩ (by simp only; omega) ⟨[((1,0),(1,0)), ((2,0),(2,0)), ((3,0),(3,0)), ((4,0),(4,0))], rfl, ?_, ?_⟩
              · simp [wkEnv, lk, renV, renAt, renTo, w]
              · simp [wkMem, wkLoc, Mem.get, assoc, renBlk, renSegs, renSg, renTo, w]
            · have hv : pl g z < N := by
                rcases hgm.pm.val z hzN with v | v
                · exact v
                · exact absurd v e
              have k3 : (toS g).getD (0 + z * 1) 0 = ((pl g z : Nat) : Int) := by rw [Nat.zero_add, Nat.mul_one, toS_get (by omega), if_neg e]
              have n3 : ¬ ((pl g z : Nat) : Int) < 0 := by omega
              have v10 : ((pl g z : Nat) : Int) < 10 := by omega
              have u1 : 0 + x * 10 + z * 1 < 100 := by omega
              have u2 : 0 + y * 10 + pl g z * 1 < 100 := by omega
              have u3 : 0 + z * 10 + x * 1 < 100 := by omega
              have u4 : 0 + pl g z * 10 + y * 1 < 100 := by omega
              have q1 := sq_colget ht x z
              have q2 := sq_colget hs y (pl g z)
              have q3 := sq_colget ht z x
              have q4 := sq_colget hs (pl g z) y
              have j1 := st.cl_lt hx hzN
              have j2 := ss.cl_lt hy hv
              have j3 := st.cl_lt hzN hx
              have j4 := ss.cl_lt hv hy
              have w1 := wrap_i64n (show cl t x z < 2 ^ 62 by omega)
              have w2 := wrap_i64n (show cl s y (pl g z) < 2 ^ 62 by omega)
              have w3 := wrap_i64n (show cl t z x < 2 ^ 62 by omega)
              have w4 := wrap_i64n (show cl s (pl g z) y < 2 ^ 62 by omega)
              have hcg : N ≤ cntL g N + d := by
                have := cnt_mono (f := f1) (g := g) (k := N) fun c hcN hfc => hgE.dm hcN hfc
                omega
              have R1 := clo_ok (ij := true) hN hN st ss d g (cl t x z) (cl s y (pl g z)) hgm j1 j2 hcg
              have C1 := ih g (cl t x z) (cl s y (pl g z)) hgm j1 j2 hcg
              have hz1 : cloL t s (clo true N t s d) x y (z + 1) f1 = (match clo true N t s d g (cl t x z) (cl s y (pl g z)) with
                | (h, false) => (h, false)
                | (h, true) => clo true N t s d h (cl t z x) (cl s (pl g z) y)) := by simp only [cloL, hg]; rw [if_neg e]; rfl
              generalize clo true N t s d g (cl t x z) (cl s y (pl g z)) = r1 at R1 C1 hz1
              obtain ⟨h1, ok1⟩ := r1
              have hm1 : Mid true N N h1 := R1.mid
              have hE1 : PExt N g h1 := R1.ext
              simp only [absE, absL, absF, reduceCtorEq, ↓reduceIte, Nat.reduceEqDiff, Nat.reduceAdd, Nat.reduceLT, Nat.reduceMul, Nat.reduceSub, Nat.reduceLeDiff, Int.reduceLT, Int.reduceLE, Int.reduceEq, Option.isSome_some, implies_true, false_implies, Prod.mk.injEq, ne_eq, not_false_eq_true, not_true_eq_false, ge_iff_le, gt_iff_lt, Int.toNat_natCast, Int.reduceToNat, Int.cast_ofNat_Int, Int.natCast_nonneg, h, x10, y10, z10, z11, k3, n3, v10, u1, u2, q1, q2, w1, w2]
              repeat refine And.intro (by decide +kernel) ?_
              refine CallsX.none (C1) ?_
              simp only [absE, absL, absF, reduceCtorEq, ↓reduceIte, Nat.reduceEqDiff, Nat.reduceAdd, Nat.reduceLT, Nat.reduceMul, Nat.reduceSub, Nat.reduceLeDiff, Int.reduceLT, Int.reduceLE, Int.reduceEq, Option.isSome_some, implies_true, false_implies, Prod.mk.injEq, ne_eq, not_false_eq_true, not_true_eq_false, ge_iff_le, gt_iff_lt, Int.toNat_natCast, Int.reduceToNat, Int.cast_ofNat_Int, Int.natCast_nonneg]
              repeat refine And.intro (by decide +kernel) ?_
              cases ok1
              · have hfin : cloL t s (clo true N t s d) x y N f1 = (h1, false) := cloL_stop hz1 (by omega)
                rw [hfin]
                simp only [absE, absL, absF, reduceCtorEq, ↓reduceIte, Nat.reduceEqDiff, Nat.reduceAdd, Nat.reduceLT, Nat.reduceMul, Nat.reduceSub, Nat.reduceLeDiff, Int.reduceLT, Int.reduceLE, Int.reduceEq, Option.isSome_some, implies_true, false_implies, Prod.mk.injEq, ne_eq, not_false_eq_true, not_true_eq_false, ge_iff_le, gt_iff_lt, Int.toNat_natCast, Int.reduceToNat, Int.cast_ofNat_Int, Int.natCast_nonneg, Try.results155]
                exact ⟨[], by simp, by simp, by simp [renV, renVs, renSegs, renSg], by simp, by simp⟩
              · have hch : N ≤ cntL h1 N + d := by
                  have := cnt_mono (f := g) (g := h1) (k := N) fun c hcN hfc => hE1.dm hcN hfc
                  omega
                have C2 := ih h1 (cl t z x) (cl s (pl g z) y) hm1 j3 j4 hch
                simp only at hz1
                generalize clo true N t s d h1 (cl t z x) (cl s (pl g z) y) = r2 at C2 hz1
                obtain ⟨h2, ok2⟩ := r2
                simp only [absE, absL, absF, reduceCtorEq, ↓reduceIte, Nat.reduceEqDiff, Nat.reduceAdd, Nat.reduceLT, Nat.reduceMul, Nat.reduceSub, Nat.reduceLeDiff, Int.reduceLT, Int.reduceLE, Int.reduceEq, Option.isSome_some, implies_true, false_implies, Prod.mk.injEq, ne_eq, not_false_eq_true, not_true_eq_false, ge_iff_le, gt_iff_lt, Int.toNat_natCast, Int.reduceToNat, Int.cast_ofNat_Int, Int.natCast_nonneg, x10, y10, z10, z11, k3, v10, u3, u4, q3, q4, w3, w4]
                repeat refine And.intro (by decide +kernel) ?_
                refine CallsX.none (C2) ?_
                simp only [absE, absL, absF, reduceCtorEq, ↓reduceIte, Nat.reduceEqDiff, Nat.reduceAdd, Nat.reduceLT, Nat.reduceMul, Nat.reduceSub, Nat.reduceLeDiff, Int.reduceLT, Int.reduceLE, Int.reduceEq, Option.isSome_some, implies_true, false_implies, Prod.mk.injEq, ne_eq, not_false_eq_true, not_true_eq_false, ge_iff_le, gt_iff_lt, Int.toNat_natCast, Int.reduceToNat, Int.cast_ofNat_Int, Int.natCast_nonneg]
                repeat refine And.intro (by decide +kernel) ?_
                cases ok2
                · have hfin : cloL t s (clo true N t s d) x y N f1 = (h2, false) := cloL_stop hz1 (by omega)
                  rw [hfin]
                  simp only [absE, absL, absF, reduceCtorEq, ↓reduceIte, Nat.reduceEqDiff, Nat.reduceAdd, Nat.reduceLT, Nat.reduceMul, Nat.reduceSub, Nat.reduceLeDiff, Int.reduceLT, Int.reduceLE, Int.reduceEq, Option.isSome_some, implies_true, false_implies, Prod.mk.injEq, ne_eq, not_false_eq_true, not_true_eq_false, ge_iff_le, gt_iff_lt, Int.toNat_natCast, Int.reduceToNat, Int.cast_ofNat_Int, Int.natCast_nonneg, Try.results155]
                  exact ⟨[], by simp, by simp, by simp [renV, renVs, renSegs, renSg], by simp, by simp⟩
                · simp only [absE, absL, absF, reduceCtorEq, ↓reduceIte, Nat.reduceEqDiff, Nat.reduceAdd, Nat.reduceLT, Nat.reduceMul, Nat.reduceSub, Nat.reduceLeDiff, Int.reduceLT, Int.reduceLE, Int.reduceEq, Option.isSome_some, implies_true, false_implies, Prod.mk.injEq, ne_eq, not_false_eq_true, not_true_eq_false, ge_iff_le, gt_iff_lt, Int.toNat_natCast, Int.reduceToNat, Int.cast_ofNat_Int, Int.natCast_nonneg]
                  refine LoopNext.intro (z + 1, h2) ⟨by simp only; omega, hz1⟩ (by simp only; omega) ⟨[((1,0),(1,0)), ((2,0),(2,0)), ((3,0),(3,0)), ((4,0),(4,0))], rfl, ?_, ?_⟩
                  · simp [wkEnv, lk, renV, renAt, renTo, w]
                  · simp [wkMem, wkLoc, Mem.get, assoc, renBlk, renSegs, renSg, renTo, w]
          · obtain rfl : z = N := by omega
            rw [hg]
            simp only [absE, absL, absF, reduceCtorEq, ↓reduceIte, Nat.reduceEqDiff, Nat.reduceAdd, Nat.reduceLT, Nat.reduceMul, Nat.reduceSub, Nat.reduceLeDiff, Int.reduceLT, Int.reduceLE, Int.reduceEq, Option.isSome_some, implies_true, false_implies, Prod.mk.injEq, ne_eq, not_false_eq_true, not_true_eq_false, ge_iff_le, gt_iff_lt, Int.toNat_natCast, Int.reduceToNat, Int.cast_ofNat_Int, Int.natCast_nonneg, h, Try.results155]
            exact ⟨[], by simp, by simp, by simp [renV, renVs, renSegs, renSg], by simp, by simp⟩
      · have k2 : (usS N f).getD (0 + y * 1) 0 = 1 := by rw [Nat.zero_add, Nat.mul_one, usS_get (by omega), hu]; rfl
        have e0 : clo true N t s (d + 1) f x y = (f, false) := by
          rw [clo, if_pos (.inr ⟨rfl, hu⟩), hdm]
          rw [decide_eq_false (show ¬ 255 = y by omega)]
        rw [e0]
        have e1 : decide ((-1 : Int) = (y : Int)) = false := decide_eq_false (by omega)
        refine acalls_of_body mix Try.func155 rfl fok155 (Nat.le_of_ble_eq_true rfl) ?_
        unfold abody
        simp only [absE, absL, absF, reduceCtorEq, ↓reduceIte, Nat.reduceEqDiff, Nat.reduceAdd, Nat.reduceLT, Nat.reduceMul, Nat.reduceSub, Nat.reduceLeDiff, Int.reduceLT, Int.reduceLE, Int.reduceEq, Option.isSome_some, implies_true, false_implies, Prod.mk.injEq, ne_eq, not_false_eq_true, not_true_eq_false, ge_iff_le, gt_iff_lt, Int.toNat_natCast, Int.reduceToNat, Int.cast_ofNat_Int, Int.natCast_nonneg, x10, y10, x11, y11, k1, k2, e1, Try.f155, Try.results155]
        repeat refine And.intro (by decide +kernel) ?_
        exact ⟨[], by simp, by simp, by simp [renV, renVs, renSegs, renSg], by simp, by simp⟩
    · have k1 : (toS f).getD (0 + x * 1) 0 = ((pl f x : Nat) : Int) := by rw [Nat.zero_add, Nat.mul_one, toS_get (by omega), if_neg hdm]
      have e : decide (((pl f x : Nat) : Int) = (y : Int)) = decide (pl f x = y) := decide_eq_decide.2 (by omega)
      have e0 : clo true N t s (d + 1) f x y = (f, decide (pl f x = y)) := by rw [clo, if_pos (.inl hdm)]
      rw [e0]
      refine acalls_of_body mix Try.func155 rfl fok155 (Nat.le_of_ble_eq_true rfl) ?_
      unfold abody
      simp only [absE, absL, absF, reduceCtorEq, ↓reduceIte, Nat.reduceEqDiff, Nat.reduceAdd, Nat.reduceLT, Nat.reduceMul, Nat.reduceSub, Nat.reduceLeDiff, Int.reduceLT, Int.reduceLE, Int.reduceEq, Option.isSome_some, implies_true, false_implies, Prod.mk.injEq, ne_eq, not_false_eq_true, not_true_eq_false, ge_iff_le, gt_iff_lt, Int.toNat_natCast, Int.reduceToNat, Int.cast_ofNat_Int, Int.natCast_nonneg, x10, x11, k1, e, Try.f155, Try.results155]
      repeat refine And.intro (by decide +kernel) ?_
      exact ⟨[], by simp, by simp, by simp [renV, renVs, renSegs, renSg], by simp, by simp⟩

end Go.Proofs.Ytgblnnodoabdeaa
