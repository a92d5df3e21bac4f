/-
Contracts of functions of the given program, by the abstract walk.
-/
import Derived.Test.YtkmdhcdfbdjdaaaAbsY
import Derived.Test.YtkmdhcdfbdjdaaaQa
import Derived.Test.YtkmdhcdfbdjdaaaDo
import Derived.Test.YtkmdhcdfbdjdaaaDa
namespace Go.Proofs.Ytkmdhcdfbdjdaaa
open Go Go.Abs
set_option linter.unusedVariables false
set_option linter.unusedSectionVars false
set_option linter.unusedSimpArgs false
set_option maxRecDepth 100000
/-! normal orthomorphisms: the program's search -/
def fA (N : Nat) (t q : List Int) (out : Atom) (b : Blk) : List Blk :=
  [.lv true (sqS N t), ceB out, .lv true (plS q), ceB (.fn 58 [(0, 0, 0, 0), (0, 1, 0, 0), (0, 2, 0, 0), (0, 3, 0, 0)]), b]
def Agr (N d : Nat) (q p : List Int) : Prop := q.length = 10 ∧ ∀ j, (j < d ∨ N ≤ j) → q.getD j 0 = p.getD j 0
def FO (N d : Nat) (t p : List Int) (L L' : List (List Int)) (v : AV) (ms ns : List Blk) : Prop :=
  ∃ q, Agr N d q p ∧ v = .tup [] ∧ ((L' = L ∧ ms = fA N t q (.sl 0 4 0 0 L.length 10) (plB L) ∧ ns = []) ∨ (ms = fA N t q (.sl 1 0 0 0 L'.length 10) .dead ∧ ns = [plB L']))
def outO : Bool → List (List Int) → Atom
  | false, L => .sl 0 4 0 0 L.length 10
  | true, L => .sl 50 0 0 0 L.length 10
theorem Agr.set {N d x : Nat} {q p : List Int} (h : Agr N d q p) (hp : p.length = 10) (hd : d < N) (hN : N ≤ 10) : Agr N (d + 1) (q.set d (x : Int)) (p.set d (x : Int)) := by
  refine ⟨by simp [h.1], fun j hj => ?_⟩
  rw [getD_set_int (by rw [h.1]; omega), getD_set_int (by omega)]
  split
  · rfl
  · exact h.2 j (by omega)
theorem Agr.back {N d x : Nat} {q p : List Int} (h : Agr N (d + 1) q (p.set d (x : Int))) (hp : p.length = 10) (hd : d < N) (hN : N ≤ 10) : Agr N d q p := by
  refine ⟨h.1, fun j hj => ?_⟩
  rw [h.2 j (by omega), getD_set_int (by omega), if_neg (by omega)]
theorem fillo_ok (N : Nat) (t : List Int) (ht : Bytes 100 t) (hs : SqP N t) : ∀ k, k ≤ N → ∀ (p q : List Int) (u m : List Bool) (U V : Nat) (L : List (List Int)), PlOk N p → Agr N (N - k) q p → BitL U u → BitL V m → L.length + 10 ^ k ≤ 10 ^ 10 → AllPl N L →
    ACalls Try.prog 58 [.i .u8 ((N - k : Nat) : Int), .i .i64 U, .i .i64 V, .ref (.ptr 0 0 0 0), .ref (.ptr 0 1 0 0), .ref (.ptr 0 2 0 0), .ref (.ptr 0 3 0 0)] (fA N t q (.sl 0 4 0 0 L.length 10) (plB L))
      (fun v ms ns => FO N (N - k) t p L (srA N (gO N t) noL k p u m L) v ms ns) := by
  have hN := hs.le
  have hpos := hs.pos
  intro k
  induction k with
  | zero =>
    intro hk p q u m U V L hp hq hu hv hL hA
    have hl1 : p.length = 10 := hp.1
    have hql := hq.1
    have wN := wrap_i64n (show N < 2 ^ 62 by omega)
    have hqp : q = p := ext_getD (by rw [hq.1, hl1]) fun j hj => hq.2 j (by omega)
    subst hqp
    unfold fA ceB plB
    refine acalls_of_body mix Try.func58 rfl fok58 (Nat.le_of_ble_eq_true rfl) ?_
    unfold abody
    simp only [absE, absL, absF, reduceCtorEq, ↓reduceIte, Nat.reduceEqDiff, Nat.reduceAdd, Nat.reduceLT, Nat.reduceMul, Nat.reduceSub, Nat.reduceLeDiff, Int.reduceLT, Int.reduceLE, Int.reduceEq, Option.isSome_some, implies_true, false_implies, Prod.mk.injEq, ne_eq, not_false_eq_true, not_true_eq_false, ge_iff_le, gt_iff_lt, Int.toNat_natCast, Int.reduceToNat, Int.cast_ofNat_Int, Int.natCast_nonneg, Nat.sub_zero, wN, Try.f58, Try.results58]
    repeat first | refine And.intro (by decide +kernel) ?_ | refine And.intro (by omega) ?_
    refine ⟨[(9, 0)], by simp, by simp, q, by simpa using hq, by simp [renV, renVs], .inr ⟨by simp [fA, ceB, srA, renBlk, renSegs, renSg, renAt, renOut, renCaps, renFin, idx], by simp [plB, srA, renBlk, renSegs, renSg, Mem.get, assoc, Nat.add_mul]⟩⟩
  | succ k ih =>
    intro hk p q0 u m U V L hp hq hu hv hL hA
    have hl1 : p.length = 10 := hp.1
    have g1 : ¬((N - (k + 1) : Nat) : Int) = N := by omega
    have wN := wrap_i64n (show N - (k + 1) < 2 ^ 62 by omega)
    unfold fA ceB plB
    generalize hd : N - (k + 1) = d at g1 wN hq ⊢
    refine acalls_of_body mix Try.func58 rfl fok58 (Nat.le_of_ble_eq_true rfl) ?_
    unfold abody
    simp only [absE, absL, absF, reduceCtorEq, ↓reduceIte, Nat.reduceEqDiff, Nat.reduceAdd, Nat.reduceLT, Nat.reduceMul, Nat.reduceSub, Nat.reduceLeDiff, Int.reduceLT, Int.reduceLE, Int.reduceEq, Option.isSome_some, implies_true, false_implies, Prod.mk.injEq, ne_eq, not_false_eq_true, not_true_eq_false, ge_iff_le, gt_iff_lt, Int.toNat_natCast, Int.reduceToNat, Int.cast_ofNat_Int, Int.natCast_nonneg, g1, wN, Try.f58]
    refine CallsVia.none (elements_ok N t hN) ?_
    rintro _ _ _ ⟨rfl, rfl, rfl⟩
    simp only [absE, absL, absF, reduceCtorEq, ↓reduceIte, Nat.reduceEqDiff, Nat.reduceAdd, Nat.reduceLT, Nat.reduceMul, Nat.reduceSub, Nat.reduceLeDiff, Int.reduceLT, Int.reduceLE, Int.reduceEq, Option.isSome_some, implies_true, false_implies, Prod.mk.injEq, ne_eq, not_false_eq_true, not_true_eq_false, ge_iff_le, gt_iff_lt, Int.toNat_natCast, Int.reduceToNat, Int.cast_ofNat_Int, Int.natCast_nonneg]
    have hd10 : d < N := by omega
    have ed : N - k = d + 1 := by omega
    rw [ed] at ih
    replace ih := ih (by omega)
    have hdi : (d : Int) < 10 := by omega
    have e1 : srA N (gO N t) noL (k + 1) p u m L = srS (gO N t) noL (srA N (gO N t) noL k) d p u m N L := by rw [← hd]; rfl
    rw [e1]
    have hln : ∀ x, x ≤ 10 → (srS (gO N t) noL (srA N (gO N t) noL k) d p u m x L).length ≤ L.length + x * 10 ^ k := fun x _ => srS_len (fun p u m L => srA_len hN)
    have hpw : 10 ^ (k + 1) = 10 * 10 ^ k := by rw [Nat.pow_succ, Nat.mul_comm]
    have hAS : ∀ x, x ≤ 10 → AllPl N (srS (gO N t) noL (srA N (gO N t) noL k) d p u m x L) := fun x hx => srS_all (fun p u m L hp hL => srA_all hN (by omega) hp hL) (by omega) hp hA hx
    generalize srA N (gO N t) noL k = rec at ih hln hAS ⊢
    refine awpLoop.intro (fun s : Nat × Bool × List (List Int) × List Int => [(0, .i .u8 d), (1, .i .i64 U), (2, .i .i64 V), (3, .ref (.ptr 0 0 0 0)), (4, .ref (.ptr 0 1 0 0)), (5, .ref (.ptr 0 2 0 0)), (6, .ref (.ptr 0 3 0 0)), (23, .ref (.sl 7 0 0 0 N 1)), (24, .i .i64 N), (25, .i .i64 s.1)]) (fun s => ⟨[.lv true (sqS N t), .lv true [(0, .cells 1 [outO s.2.1 s.2.2.1])], .lv true (plS s.2.2.2), .lv true [(0, .cells 1 [.fn 58 [(0, 0, 0, 0), (0, 1, 0, 0), (0, 2, 0, 0), (0, 3, 0, 0)]])], oA s.2.1 L], [((7, 0), .lv true ([(0, .ints .u8 N (bytesTo N))]))] ++ oB s.2.1 s.2.2.1, 60⟩)
      (fun s => s.1 ≤ N ∧ s.2.2.1 = srS (gO N t) noL rec d p u m s.1 L ∧ (s.2.1 = false → s.2.2.1 = L) ∧ Agr N d s.2.2.2 p) (fun s => N - s.1) (0, false, L, q0) ⟨by simp, rfl, fun _ => rfl, hq⟩ ⟨[((7,0),(7,0))], rfl, ?_, ?_⟩ ?_
    · simp [wkEnv, lk, renV, renAt, renTo, outO, oA, oB, renCaps, renAt]
    · simp [wkMem, wkLoc, Mem.get, assoc, renBlk, renSegs, renSg, renTo, outO, oA, oB, renCaps, renAt]
    · rintro ⟨x, c, L', q⟩ ⟨hx, hL', hc, hqA⟩
      simp only at hx hL' hc hqA
      have hql := hqA.1
      have hA' : AllPl N L' := by rw [hL']; exact hAS x (by omega)
      have hl' : L'.length ≤ L.length + x * 10 ^ k := by rw [hL']; exact hln x (by omega)
      cases c
      · have hcl : L' = L := hc rfl
        subst hcl
        by_cases h : (x : Int) < N
        · have w := wrap_i64s (show x < 2 ^ 62 by omega)
          have hgx : x < N := by omega
          have hr : invN N t d < N := (hs.colP hd10).fnd_lt hN hpos
          have hj : gO N t d x < N := hs.cl_lt hr hgx
          have b1 : (bytesTo N).getD (0 + x * 1) 0 = (x : Int) := by rw [Nat.zero_add, Nat.mul_one]; exact bytesTo_get (by omega)
          have v1 : 0 + x * 1 < N := by omega
          have i1 : (x : Int) < 10 := by omega
          have i3 : (invN N t d : Int) < 10 := by omega
          have u1 : 0 + invN N t d * 10 + x * 1 < 100 := by omega
          have u4 : 0 + d * 1 + 1 ≤ 10 := by omega
          have k1 : t.getD (0 + invN N t d * 10 + x * 1) 0 = (gO N t d x : Int) := sq_colget ht _ x
          have hU : U < 2 ^ 10 := hu.1
          have hV : V < 2 ^ 10 := hv.1
          have hrt : ACalls Try.prog 60 [.agg (sqS N t), .i .u8 0, .i .u8 d] [] (fun v ms ns => v = .i .u8 (invN N t d) ∧ ms = [] ∧ ns = []) := implRight_ok N t 0 d ht hs hpos hd10
          simp only [absE, absL, absF, reduceCtorEq, ↓reduceIte, Nat.reduceEqDiff, Nat.reduceAdd, Nat.reduceLT, Nat.reduceMul, Nat.reduceSub, Nat.reduceLeDiff, Int.reduceLT, Int.reduceLE, Int.reduceEq, Option.isSome_some, implies_true, false_implies, Prod.mk.injEq, ne_eq, not_false_eq_true, not_true_eq_false, ge_iff_le, gt_iff_lt, Int.toNat_natCast, Int.reduceToNat, Int.cast_ofNat_Int, Int.natCast_nonneg, h, b1, v1, outO, oA, oB]
          refine CallsVia.none (hrt) ?_
          rintro _ _ _ ⟨rfl, rfl, rfl⟩
          simp only [absE, absL, absF, reduceCtorEq, ↓reduceIte, Nat.reduceEqDiff, Nat.reduceAdd, Nat.reduceLT, Nat.reduceMul, Nat.reduceSub, Nat.reduceLeDiff, Int.reduceLT, Int.reduceLE, Int.reduceEq, Option.isSome_some, implies_true, false_implies, Prod.mk.injEq, ne_eq, not_false_eq_true, not_true_eq_false, ge_iff_le, gt_iff_lt, Int.toNat_natCast, Int.reduceToNat, Int.cast_ofNat_Int, Int.natCast_nonneg, i1, i3, u1, k1]
          refine CallsVia.none (setHas_ok U x (by omega) (by omega)) ?_
          rintro _ _ _ ⟨rfl, rfl, rfl⟩
          rw [hu.2.2 x (by omega)]
          cases hu1 : u.getD x false
          · simp only [absE, absL, absF, reduceCtorEq, ↓reduceIte, Nat.reduceEqDiff, Nat.reduceAdd, Nat.reduceLT, Nat.reduceMul, Nat.reduceSub, Nat.reduceLeDiff, Int.reduceLT, Int.reduceLE, Int.reduceEq, Option.isSome_some, implies_true, false_implies, Prod.mk.injEq, ne_eq, not_false_eq_true, not_true_eq_false, ge_iff_le, gt_iff_lt, Int.toNat_natCast, Int.reduceToNat, Int.cast_ofNat_Int, Int.natCast_nonneg]
            refine CallsVia.none (setHas_ok V (gO N t d x) (by omega) (by omega)) ?_
            rintro _ _ _ ⟨rfl, rfl, rfl⟩
            rw [hv.2.2 (gO N t d x) (by omega)]
            cases hu2 : m.getD (gO N t d x) false
            · have s3 : q.set (0 + d * 1) (x : Int) = q.set d (x : Int) := by rw [Nat.zero_add, Nat.mul_one]
              have wd := wrap_u8s (show d < 255 by omega)
              have q1 : (2 : Nat) ^ x < 2 ^ 10 := Nat.pow_lt_pow_right (by decide) (by omega)
              have q2 : (2 : Nat) ^ (gO N t d x) < 2 ^ 10 := Nat.pow_lt_pow_right (by decide) (by omega)
              have t1 := wrap_shl (c := x) (by omega)
              have t2 := wrap_shl (c := gO N t d x) (by omega)
              have o1 := wrap_or (a := U) (b := 2 ^ x) (by omega) (by omega)
              have o2 := wrap_or (a := V) (b := 2 ^ (gO N t d x)) (by omega) (by omega)
              have hgo := srS_go (g := gO N t) (lim := noL) (rec := rec) (d := d) (p := p) (u := u) (m := m) (L := L') (x := x) rfl hu1 hu2
              rw [← hL'] at hgo
              simp only [absE, absL, absF, reduceCtorEq, ↓reduceIte, Nat.reduceEqDiff, Nat.reduceAdd, Nat.reduceLT, Nat.reduceMul, Nat.reduceSub, Nat.reduceLeDiff, Int.reduceLT, Int.reduceLE, Int.reduceEq, Option.isSome_some, implies_true, false_implies, Prod.mk.injEq, ne_eq, not_false_eq_true, not_true_eq_false, ge_iff_le, gt_iff_lt, Int.toNat_natCast, Int.reduceToNat, Int.cast_ofNat_Int, Int.natCast_nonneg, hdi, u4, s3, wd, t1, t2, o1, o2, outO, oA, oB]
              repeat first | refine And.intro (by decide +kernel) ?_ | refine And.intro (by omega) ?_
              refine CallsVia.args [(0, 0), (0, 1), (0, 2), (0, 3), (0, 4)] (ih (p.set d (x : Int)) (q.set d (x : Int)) (u.set x true) (m.set (gO N t d x) true) (U ||| 2 ^ x) (V ||| 2 ^ (gO N t d x)) L' (hp.set (by omega) (by omega)) (hqA.set hl1 hd10 hN) (hu.set (by omega)) (hv.set (by omega)) (by first | omega | (have := Nat.mul_le_mul_right (10 ^ k) (show x + 1 ≤ 10 by omega); rw [Nat.add_mul] at this; omega)) hA') (by simp) (by simp [Mem.get, assoc]) rfl rfl ?_
              rintro v ms ns ⟨q'', hq'', rfl, hcase⟩
              have hqb := hq''.back hl1 hd10 hN
              rcases hcase with ⟨hsame, rfl, rfl⟩ | ⟨rfl, rfl⟩
              · simp only [absE, absL, absF, reduceCtorEq, ↓reduceIte, Nat.reduceEqDiff, Nat.reduceAdd, Nat.reduceLT, Nat.reduceMul, Nat.reduceSub, Nat.reduceLeDiff, Int.reduceLT, Int.reduceLE, Int.reduceEq, Option.isSome_some, implies_true, false_implies, Prod.mk.injEq, ne_eq, not_false_eq_true, not_true_eq_false, ge_iff_le, gt_iff_lt, Int.toNat_natCast, Int.reduceToNat, Int.cast_ofNat_Int, Int.natCast_nonneg, fA, ceB, plB]
                refine LoopNext.intro (x + 1, false, L', q'') ⟨by simp; omega, by rw [hgo, hsame], fun _ => rfl, hqb⟩ (by simp; omega) ⟨[((7,0),(7,0))], rfl, ?_, ?_⟩
                · simp [wkEnv, lk, renV, renAt, renTo, outO, oA, oB, w, renCaps, renAt, renOut, idx]
                · simp [wkMem, wkLoc, Mem.get, assoc, renBlk, renSegs, renSg, renTo, outO, oA, oB, w, renCaps, renAt, renOut, idx]
              · simp only [absE, absL, absF, reduceCtorEq, ↓reduceIte, Nat.reduceEqDiff, Nat.reduceAdd, Nat.reduceLT, Nat.reduceMul, Nat.reduceSub, Nat.reduceLeDiff, Int.reduceLT, Int.reduceLE, Int.reduceEq, Option.isSome_some, implies_true, false_implies, Prod.mk.injEq, ne_eq, not_false_eq_true, not_true_eq_false, ge_iff_le, gt_iff_lt, Int.toNat_natCast, Int.reduceToNat, Int.cast_ofNat_Int, Int.natCast_nonneg, fA, ceB, plB]
                refine LoopNext.intro (x + 1, true, rec (p.set d (x : Int)) (u.set x true) (m.set (gO N t d x) true) L', q'') ⟨by simp; omega, hgo.symm, by simp, hqb⟩ (by simp; omega) ⟨[((7,0),(7,0)), ((98,0),(50,0))], rfl, ?_, ?_⟩
                · simp [wkEnv, lk, renV, renAt, renTo, outO, oA, oB, w, renCaps, renAt, renOut, idx]
                · simp [wkMem, wkLoc, Mem.get, assoc, renBlk, renSegs, renSg, renTo, outO, oA, oB, w, renCaps, renAt, renOut, idx]
            · simp only [absE, absL, absF, reduceCtorEq, ↓reduceIte, Nat.reduceEqDiff, Nat.reduceAdd, Nat.reduceLT, Nat.reduceMul, Nat.reduceSub, Nat.reduceLeDiff, Int.reduceLT, Int.reduceLE, Int.reduceEq, Option.isSome_some, implies_true, false_implies, Prod.mk.injEq, ne_eq, not_false_eq_true, not_true_eq_false, ge_iff_le, gt_iff_lt, Int.toNat_natCast, Int.reduceToNat, Int.cast_ofNat_Int, Int.natCast_nonneg, outO, oA, oB]
              refine LoopNext.intro (x + 1, false, L', q) ⟨by simp; omega, hL'.trans (srS_skip (.inr (.inr hu2))).symm, fun _ => rfl, hqA⟩ (by simp; omega) ⟨[((7,0),(7,0))], rfl, ?_, ?_⟩
              · simp [wkEnv, lk, renV, renAt, renTo, outO, oA, oB, w, renCaps, renAt]
              · simp [wkMem, wkLoc, Mem.get, assoc, renBlk, renSegs, renSg, renTo, outO, oA, oB, w, renCaps, renAt]
          · simp only [absE, absL, absF, reduceCtorEq, ↓reduceIte, Nat.reduceEqDiff, Nat.reduceAdd, Nat.reduceLT, Nat.reduceMul, Nat.reduceSub, Nat.reduceLeDiff, Int.reduceLT, Int.reduceLE, Int.reduceEq, Option.isSome_some, implies_true, false_implies, Prod.mk.injEq, ne_eq, not_false_eq_true, not_true_eq_false, ge_iff_le, gt_iff_lt, Int.toNat_natCast, Int.reduceToNat, Int.cast_ofNat_Int, Int.natCast_nonneg, outO, oA, oB]
            refine LoopNext.intro (x + 1, false, L', q) ⟨by simp; omega, hL'.trans (srS_skip (.inr (.inl hu1))).symm, fun _ => rfl, hqA⟩ (by simp; omega) ⟨[((7,0),(7,0))], rfl, ?_, ?_⟩
            · simp [wkEnv, lk, renV, renAt, renTo, outO, oA, oB, w, renCaps, renAt]
            · simp [wkMem, wkLoc, Mem.get, assoc, renBlk, renSegs, renSg, renTo, outO, oA, oB, w, renCaps, renAt]
        · obtain rfl : x = N := by omega
          have hq' := hL'.symm
          simp only [absE, absL, absF, reduceCtorEq, ↓reduceIte, Nat.reduceEqDiff, Nat.reduceAdd, Nat.reduceLT, Nat.reduceMul, Nat.reduceSub, Nat.reduceLeDiff, Int.reduceLT, Int.reduceLE, Int.reduceEq, Option.isSome_some, implies_true, false_implies, Prod.mk.injEq, ne_eq, not_false_eq_true, not_true_eq_false, ge_iff_le, gt_iff_lt, Int.toNat_natCast, Int.reduceToNat, Int.cast_ofNat_Int, Int.natCast_nonneg, h, outO, oA, oB, Try.results58]
          refine ⟨[], by simp, by simp, q, hqA, by simp [renV, renVs], .inl ⟨hq', by simp [fA, ceB, plB, renBlk, renSegs, renSg, renAt, renOut, renCaps, renFin, idx], by simp⟩⟩
      · by_cases h : (x : Int) < N
        · have w := wrap_i64s (show x < 2 ^ 62 by omega)
          have hgx : x < N := by omega
          have hr : invN N t d < N := (hs.colP hd10).fnd_lt hN hpos
          have hj : gO N t d x < N := hs.cl_lt hr hgx
          have b1 : (bytesTo N).getD (0 + x * 1) 0 = (x : Int) := by rw [Nat.zero_add, Nat.mul_one]; exact bytesTo_get (by omega)
          have v1 : 0 + x * 1 < N := by omega
          have i1 : (x : Int) < 10 := by omega
          have i3 : (invN N t d : Int) < 10 := by omega
          have u1 : 0 + invN N t d * 10 + x * 1 < 100 := by omega
          have u4 : 0 + d * 1 + 1 ≤ 10 := by omega
          have k1 : t.getD (0 + invN N t d * 10 + x * 1) 0 = (gO N t d x : Int) := sq_colget ht _ x
          have hU : U < 2 ^ 10 := hu.1
          have hV : V < 2 ^ 10 := hv.1
          have hrt : ACalls Try.prog 60 [.agg (sqS N t), .i .u8 0, .i .u8 d] [] (fun v ms ns => v = .i .u8 (invN N t d) ∧ ms = [] ∧ ns = []) := implRight_ok N t 0 d ht hs hpos hd10
          simp only [absE, absL, absF, reduceCtorEq, ↓reduceIte, Nat.reduceEqDiff, Nat.reduceAdd, Nat.reduceLT, Nat.reduceMul, Nat.reduceSub, Nat.reduceLeDiff, Int.reduceLT, Int.reduceLE, Int.reduceEq, Option.isSome_some, implies_true, false_implies, Prod.mk.injEq, ne_eq, not_false_eq_true, not_true_eq_false, ge_iff_le, gt_iff_lt, Int.toNat_natCast, Int.reduceToNat, Int.cast_ofNat_Int, Int.natCast_nonneg, h, b1, v1, outO, oA, oB]
          refine CallsVia.none (hrt) ?_
          rintro _ _ _ ⟨rfl, rfl, rfl⟩
          simp only [absE, absL, absF, reduceCtorEq, ↓reduceIte, Nat.reduceEqDiff, Nat.reduceAdd, Nat.reduceLT, Nat.reduceMul, Nat.reduceSub, Nat.reduceLeDiff, Int.reduceLT, Int.reduceLE, Int.reduceEq, Option.isSome_some, implies_true, false_implies, Prod.mk.injEq, ne_eq, not_false_eq_true, not_true_eq_false, ge_iff_le, gt_iff_lt, Int.toNat_natCast, Int.reduceToNat, Int.cast_ofNat_Int, Int.natCast_nonneg, i1, i3, u1, k1]
          refine CallsVia.none (setHas_ok U x (by omega) (by omega)) ?_
          rintro _ _ _ ⟨rfl, rfl, rfl⟩
          rw [hu.2.2 x (by omega)]
          cases hu1 : u.getD x false
          · simp only [absE, absL, absF, reduceCtorEq, ↓reduceIte, Nat.reduceEqDiff, Nat.reduceAdd, Nat.reduceLT, Nat.reduceMul, Nat.reduceSub, Nat.reduceLeDiff, Int.reduceLT, Int.reduceLE, Int.reduceEq, Option.isSome_some, implies_true, false_implies, Prod.mk.injEq, ne_eq, not_false_eq_true, not_true_eq_false, ge_iff_le, gt_iff_lt, Int.toNat_natCast, Int.reduceToNat, Int.cast_ofNat_Int, Int.natCast_nonneg]
            refine CallsVia.none (setHas_ok V (gO N t d x) (by omega) (by omega)) ?_
            rintro _ _ _ ⟨rfl, rfl, rfl⟩
            rw [hv.2.2 (gO N t d x) (by omega)]
            cases hu2 : m.getD (gO N t d x) false
            · have s3 : q.set (0 + d * 1) (x : Int) = q.set d (x : Int) := by rw [Nat.zero_add, Nat.mul_one]
              have wd := wrap_u8s (show d < 255 by omega)
              have q1 : (2 : Nat) ^ x < 2 ^ 10 := Nat.pow_lt_pow_right (by decide) (by omega)
              have q2 : (2 : Nat) ^ (gO N t d x) < 2 ^ 10 := Nat.pow_lt_pow_right (by decide) (by omega)
              have t1 := wrap_shl (c := x) (by omega)
              have t2 := wrap_shl (c := gO N t d x) (by omega)
              have o1 := wrap_or (a := U) (b := 2 ^ x) (by omega) (by omega)
              have o2 := wrap_or (a := V) (b := 2 ^ (gO N t d x)) (by omega) (by omega)
              have hgo := srS_go (g := gO N t) (lim := noL) (rec := rec) (d := d) (p := p) (u := u) (m := m) (L := L) (x := x) rfl hu1 hu2
              rw [← hL'] at hgo
              simp only [absE, absL, absF, reduceCtorEq, ↓reduceIte, Nat.reduceEqDiff, Nat.reduceAdd, Nat.reduceLT, Nat.reduceMul, Nat.reduceSub, Nat.reduceLeDiff, Int.reduceLT, Int.reduceLE, Int.reduceEq, Option.isSome_some, implies_true, false_implies, Prod.mk.injEq, ne_eq, not_false_eq_true, not_true_eq_false, ge_iff_le, gt_iff_lt, Int.toNat_natCast, Int.reduceToNat, Int.cast_ofNat_Int, Int.natCast_nonneg, hdi, u4, s3, wd, t1, t2, o1, o2, outO, oA, oB]
              repeat first | refine And.intro (by decide +kernel) ?_ | refine And.intro (by omega) ?_
              refine CallsVia.args [(0, 0), (0, 1), (0, 2), (0, 3), (50, 0)] (ih (p.set d (x : Int)) (q.set d (x : Int)) (u.set x true) (m.set (gO N t d x) true) (U ||| 2 ^ x) (V ||| 2 ^ (gO N t d x)) L' (hp.set (by omega) (by omega)) (hqA.set hl1 hd10 hN) (hu.set (by omega)) (hv.set (by omega)) (by first | omega | (have := Nat.mul_le_mul_right (10 ^ k) (show x + 1 ≤ 10 by omega); rw [Nat.add_mul] at this; omega)) hA') (by simp) (by simp [Mem.get, assoc]) rfl rfl ?_
              rintro v ms ns ⟨q'', hq'', rfl, hcase⟩
              have hqb := hq''.back hl1 hd10 hN
              rcases hcase with ⟨hsame, rfl, rfl⟩ | ⟨rfl, rfl⟩
              · simp only [absE, absL, absF, reduceCtorEq, ↓reduceIte, Nat.reduceEqDiff, Nat.reduceAdd, Nat.reduceLT, Nat.reduceMul, Nat.reduceSub, Nat.reduceLeDiff, Int.reduceLT, Int.reduceLE, Int.reduceEq, Option.isSome_some, implies_true, false_implies, Prod.mk.injEq, ne_eq, not_false_eq_true, not_true_eq_false, ge_iff_le, gt_iff_lt, Int.toNat_natCast, Int.reduceToNat, Int.cast_ofNat_Int, Int.natCast_nonneg, fA, ceB, plB]
                refine LoopNext.intro (x + 1, true, L', q'') ⟨by simp; omega, by rw [hgo, hsame], by simp, hqb⟩ (by simp; omega) ⟨[((7,0),(7,0)), ((50,0),(50,0))], rfl, ?_, ?_⟩
                · simp [wkEnv, lk, renV, renAt, renTo, outO, oA, oB, w, renCaps, renAt, renOut, idx]
                · simp [wkMem, wkLoc, Mem.get, assoc, renBlk, renSegs, renSg, renTo, outO, oA, oB, w, renCaps, renAt, renOut, idx]
              · simp only [absE, absL, absF, reduceCtorEq, ↓reduceIte, Nat.reduceEqDiff, Nat.reduceAdd, Nat.reduceLT, Nat.reduceMul, Nat.reduceSub, Nat.reduceLeDiff, Int.reduceLT, Int.reduceLE, Int.reduceEq, Option.isSome_some, implies_true, false_implies, Prod.mk.injEq, ne_eq, not_false_eq_true, not_true_eq_false, ge_iff_le, gt_iff_lt, Int.toNat_natCast, Int.reduceToNat, Int.cast_ofNat_Int, Int.natCast_nonneg, fA, ceB, plB]
                refine LoopNext.intro (x + 1, true, rec (p.set d (x : Int)) (u.set x true) (m.set (gO N t d x) true) L', q'') ⟨by simp; omega, hgo.symm, by simp, hqb⟩ (by simp; omega) ⟨[((7,0),(7,0)), ((98,0),(50,0))], rfl, ?_, ?_⟩
                · simp [wkEnv, lk, renV, renAt, renTo, outO, oA, oB, w, renCaps, renAt, renOut, idx]
                · simp [wkMem, wkLoc, Mem.get, assoc, renBlk, renSegs, renSg, renTo, outO, oA, oB, w, renCaps, renAt, renOut, idx]
            · simp only [absE, absL, absF, reduceCtorEq, ↓reduceIte, Nat.reduceEqDiff, Nat.reduceAdd, Nat.reduceLT, Nat.reduceMul, Nat.reduceSub, Nat.reduceLeDiff, Int.reduceLT, Int.reduceLE, Int.reduceEq, Option.isSome_some, implies_true, false_implies, Prod.mk.injEq, ne_eq, not_false_eq_true, not_true_eq_false, ge_iff_le, gt_iff_lt, Int.toNat_natCast, Int.reduceToNat, Int.cast_ofNat_Int, Int.natCast_nonneg, outO, oA, oB]
              refine LoopNext.intro (x + 1, true, L', q) ⟨by simp; omega, hL'.trans (srS_skip (.inr (.inr hu2))).symm, by simp, hqA⟩ (by simp; omega) ⟨[((7,0),(7,0)), ((50,0),(50,0))], rfl, ?_, ?_⟩
              · simp [wkEnv, lk, renV, renAt, renTo, outO, oA, oB, w, renCaps, renAt]
              · simp [wkMem, wkLoc, Mem.get, assoc, renBlk, renSegs, renSg, renTo, outO, oA, oB, w, renCaps, renAt]
          · simp only [absE, absL, absF, reduceCtorEq, ↓reduceIte, Nat.reduceEqDiff, Nat.reduceAdd, Nat.reduceLT, Nat.reduceMul, Nat.reduceSub, Nat.reduceLeDiff, Int.reduceLT, Int.reduceLE, Int.reduceEq, Option.isSome_some, implies_true, false_implies, Prod.mk.injEq, ne_eq, not_false_eq_true, not_true_eq_false, ge_iff_le, gt_iff_lt, Int.toNat_natCast, Int.reduceToNat, Int.cast_ofNat_Int, Int.natCast_nonneg, outO, oA, oB]
            refine LoopNext.intro (x + 1, true, L', q) ⟨by simp; omega, hL'.trans (srS_skip (.inr (.inl hu1))).symm, by simp, hqA⟩ (by simp; omega) ⟨[((7,0),(7,0)), ((50,0),(50,0))], rfl, ?_, ?_⟩
            · simp [wkEnv, lk, renV, renAt, renTo, outO, oA, oB, w, renCaps, renAt]
            · simp [wkMem, wkLoc, Mem.get, assoc, renBlk, renSegs, renSg, renTo, outO, oA, oB, w, renCaps, renAt]
        · obtain rfl : x = N := by omega
          have hq' := hL'.symm
          simp only [absE, absL, absF, reduceCtorEq, ↓reduceIte, Nat.reduceEqDiff, Nat.reduceAdd, Nat.reduceLT, Nat.reduceMul, Nat.reduceSub, Nat.reduceLeDiff, Int.reduceLT, Int.reduceLE, Int.reduceEq, Option.isSome_some, implies_true, false_implies, Prod.mk.injEq, ne_eq, not_false_eq_true, not_true_eq_false, ge_iff_le, gt_iff_lt, Int.toNat_natCast, Int.reduceToNat, Int.cast_ofNat_Int, Int.natCast_nonneg, h, outO, oA, oB, Try.results58]
          refine ⟨[(50, 0)], by simp, by simp, q, hqA, by simp [renV, renVs], .inr ⟨by rw [hq']; simp [fA, ceB, plB, renBlk, renSegs, renSg, renAt, renOut, renCaps, renFin, idx], by rw [hq']; simp [plB, renBlk, renSegs, renSg, Mem.get, assoc]⟩⟩


end Go.Proofs.Ytkmdhcdfbdjdaaa
