/-
Contracts of functions of the given program, by the abstract walk.
-/
import Derived.Test.YtjmenocghjggcaaAbsY
import Derived.Test.YtjmenocghjggcaaOk
namespace Go.Proofs.Ytjmenocghjggcaa
open Go Go.Abs
set_option linter.unusedVariables false
set_option linter.unusedSectionVars false
set_option linter.unusedSimpArgs false
set_option maxRecDepth 100000
/-! mates: the search for transversals at the first place -/
def lfO (N : Nat) (t : List Int) (y : Nat) : List (List Int) := srA N (cl t) lmT (N - 1) (p00.set 0 (y : Int)) (b00.set y true) (b00.set (cl t 0 y) true) []
def lfT (N : Nat) (t : List Int) (y : Nat) : List (List (List Int)) := (List.range y).map (lfO N t)
theorem lfT_len {N : Nat} {t : List Int} {y : Nat} : (lfT N t y).length = y := by simp [lfT]
theorem lfT_succ {N : Nat} {t : List Int} {y : Nat} : lfT N t (y + 1) = lfT N t y ++ [lfO N t y] := by simp [lfT, List.range_succ]
theorem b00_get {x : Nat} : b00.getD x false = false := by
  unfold b00; rw [List.getD_eq_getElem?_getD, List.getElem?_replicate]; split <;> rfl
theorem p00_get {x : Nat} : p00.getD x 0 = 0 := by unfold p00; exact getD_rep0
set_option maxHeartbeats 4000000 in
theorem fillD_ok (N : Nat) (t : List Int) (ht : Bytes 100 t) (hs : SqP N t) (h8 : N ≤ 8) (d : Nat) (hd : d = 0) (U V : Nat) (hu : BitL U b00) (hv : BitL V b00) :
    ACalls Try.prog 75 [.i .u8 (d : Int), .i .i64 U, .i .i64 V, .ref (.ptr 0 0 0 0), .ref (.ptr 0 1 0 0), .ref (.ptr 0 2 0 0), .ref (.ptr 0 3 0 0)] (fiA N t p00 (byD 0 0 [])) (fun v xs ns => v = .b false ∧ xs = fiA N t p00 (byD 1 0 (lfT N t N)) ∧ ns = blksF (lfT N t N)) := by
  have hN := hs.le
  have hpos := hs.pos
  have hl1 : p00.length = 10 := by simp [p00]
  have hN1 : 1 ≤ N := hpos
  have g1 : ¬(d : Int) = N := by omega
  have wN := wrap_i64n (show d < 2 ^ 62 by omega)
  unfold fiA
  refine acalls_of_body mix Try.func75 rfl fok75 (Nat.le_of_ble_eq_true rfl) ?_
  unfold abody
  simp only [absE, absL, absF, reduceCtorEq, ↓reduceIte, Nat.reduceEqDiff, Nat.reduceAdd, Nat.reduceLT, Nat.reduceMul, Nat.reduceSub, Nat.reduceLeDiff, Int.reduceLT, Int.reduceLE, Int.reduceEq, Option.isSome_some, implies_true, false_implies, Prod.mk.injEq, ne_eq, not_false_eq_true, not_true_eq_false, ge_iff_le, gt_iff_lt, Int.toNat_natCast, Int.reduceToNat, Int.cast_ofNat_Int, Int.natCast_nonneg, List.getD_cons_zero, List.getD_cons_succ, List.set_cons_zero, List.set_cons_succ, List.cons_append, List.nil_append, g1, wN, Try.f75]
  refine CallsVia.none (elements_ok N t hN) ?_
  rintro _ _ _ ⟨rfl, rfl, rfl⟩
  simp only [absE, absL, absF, reduceCtorEq, ↓reduceIte, Nat.reduceEqDiff, Nat.reduceAdd, Nat.reduceLT, Nat.reduceMul, Nat.reduceSub, Nat.reduceLeDiff, Int.reduceLT, Int.reduceLE, Int.reduceEq, Option.isSome_some, implies_true, false_implies, Prod.mk.injEq, ne_eq, not_false_eq_true, not_true_eq_false, ge_iff_le, gt_iff_lt, Int.toNat_natCast, Int.reduceToNat, Int.cast_ofNat_Int, Int.natCast_nonneg, List.getD_cons_zero, List.getD_cons_succ, List.set_cons_zero, List.set_cons_succ, List.cons_append, List.nil_append]
  have hd10 : d < N := by omega
  have hdi : (d : Int) < 10 := by omega
  refine awpLoop.intro (fun s : Nat × List Int => [(0, .i .u8 d), (1, .i .i64 U), (2, .i .i64 V), (3, .ref (.ptr 0 0 0 0)), (4, .ref (.ptr 0 1 0 0)), (5, .ref (.ptr 0 2 0 0)), (6, .ref (.ptr 0 3 0 0)), (23, .ref (.sl 8 0 0 0 N 1)), (24, .i .i64 N), (25, .i .i64 s.1)]) (fun s => ⟨[.lv true (sqS N t), .lv true [(0, .cells 1 [.fn 45 [(0, 4, 0, 0)]])], .lv true (plS s.2), .lv true [(0, .cells 1 [.fn 75 [(0, 0, 0, 0), (0, 1, 0, 0), (0, 2, 0, 0), (0, 3, 0, 0)]])], byD 60 0 (lfT N t s.1)], ((8, 0), .lv true [(0, .ints .u8 N (bytesTo N))]) :: bagB 60 (blksF (lfT N t s.1)), 70⟩)
    (fun s => s.1 ≤ N ∧ (∀ z : Nat, s.2.set d (z : Int) = p00.set d (z : Int)) ∧ s.2.length = 10) (fun s => N - s.1) (0, p00) ⟨by simp, fun _ => rfl, hl1⟩ ⟨[((8,0),(8,0))], rfl, ?_, ?_⟩ ?_
  · simp [wkEnv, lk, renV, renTo, renAt]
  · simp [wkMem, wkLoc, Mem.get, assoc, renBlk, renSegs, renSg, renTo, renCaps, renAt, byD, lfT, cellsF, blksF, bagB]
  · rintro ⟨x, p'⟩ ⟨hx, hp', hpl⟩
    simp only at hx hp' hpl
    by_cases h : (x : Int) < N
    · have w := wrap_i64s (show x < 2 ^ 62 by omega)
      have hgx : x < N := by omega
      have hj := hs.cl_lt hd10 hgx
      have b1 : (bytesTo N).getD (0 + x * 1) 0 = (x : Int) := by rw [Nat.zero_add, Nat.mul_one]; exact bytesTo_get (by omega)
      have v1 : 0 + x * 1 < N := by omega
      have i1 : (x : Int) < 10 := by omega
      have u1 : 0 + d * 10 + x * 1 < 100 := by omega
      have u4 : 0 + d * 1 < 10 := by omega
      have k1 := sq_colget ht d x
      have hU : U < 2 ^ 10 := hu.1
      have hV : V < 2 ^ 10 := hv.1
      simp only [absE, absL, absF, reduceCtorEq, ↓reduceIte, Nat.reduceEqDiff, Nat.reduceAdd, Nat.reduceLT, Nat.reduceMul, Nat.reduceSub, Nat.reduceLeDiff, Int.reduceLT, Int.reduceLE, Int.reduceEq, Option.isSome_some, implies_true, false_implies, Prod.mk.injEq, ne_eq, not_false_eq_true, not_true_eq_false, ge_iff_le, gt_iff_lt, Int.toNat_natCast, Int.reduceToNat, Int.cast_ofNat_Int, Int.natCast_nonneg, List.getD_cons_zero, List.getD_cons_succ, List.set_cons_zero, List.set_cons_succ, List.cons_append, List.nil_append, h, b1, v1, i1, hdi, u1, k1]
      refine CallsVia.none (setHas_ok U x (by omega) (by omega)) ?_
      rintro _ _ _ ⟨rfl, rfl, rfl⟩
      rw [hu.2.2 x (by omega), b00_get]
      simp only [absE, absL, absF, reduceCtorEq, ↓reduceIte, Nat.reduceEqDiff, Nat.reduceAdd, Nat.reduceLT, Nat.reduceMul, Nat.reduceSub, Nat.reduceLeDiff, Int.reduceLT, Int.reduceLE, Int.reduceEq, Option.isSome_some, implies_true, false_implies, Prod.mk.injEq, ne_eq, not_false_eq_true, not_true_eq_false, ge_iff_le, gt_iff_lt, Int.toNat_natCast, Int.reduceToNat, Int.cast_ofNat_Int, Int.natCast_nonneg, List.getD_cons_zero, List.getD_cons_succ, List.set_cons_zero, List.set_cons_succ, List.cons_append, List.nil_append]
      refine CallsVia.none (setHas_ok V (cl t d x) (by omega) (by omega)) ?_
      rintro _ _ _ ⟨rfl, rfl, rfl⟩
      rw [hv.2.2 (cl t d x) (by omega), b00_get]
      have s3 : p'.set (0 + d * 1) (x : Int) = p00.set d (x : Int) := by rw [Nat.zero_add, Nat.mul_one, hp']
      have wd := wrap_u8s (show d < 255 by omega)
      have q1 : (2 : Nat) ^ x < 2 ^ 10 := Nat.pow_lt_pow_right (by decide) (by omega)
      have q2 : (2 : Nat) ^ (cl t d x) < 2 ^ 10 := Nat.pow_lt_pow_right (by decide) (by omega)
      have t1 := wrap_shl (c := x) (by omega)
      have t2 := wrap_shl (c := cl t d x) (by omega)
      have o1 := wrap_or (a := U) (b := 2 ^ x) (by omega) (by omega)
      have o2 := wrap_or (a := V) (b := 2 ^ (cl t d x)) (by omega) (by omega)
      have hpp : ∀ z : Nat, (p00.set d (x : Int)).set d (z : Int) = p00.set d (z : Int) := fun z => by rw [List.set_set]
      have hpn : (p00.set d (x : Int)).length = 10 := by rw [List.length_set]; exact hl1
      have hz0 : ∀ z, d + 1 ≤ z → (p00.set d (x : Int)).getD z 0 = 0 := fun z hz => by
        rw [getD_set_int (by rw [hl1]; omega), if_neg (by omega)]; exact p00_get
      have h000 : (p00.set d (x : Int)).getD 0 0 = x := by rw [getD_set_int (by rw [hl1]; omega), if_pos (by omega)]
      simp only [absE, absL, absF, reduceCtorEq, ↓reduceIte, Nat.reduceEqDiff, Nat.reduceAdd, Nat.reduceLT, Nat.reduceMul, Nat.reduceSub, Nat.reduceLeDiff, Int.reduceLT, Int.reduceLE, Int.reduceEq, Option.isSome_some, implies_true, false_implies, Prod.mk.injEq, ne_eq, not_false_eq_true, not_true_eq_false, ge_iff_le, gt_iff_lt, Int.toNat_natCast, Int.reduceToNat, Int.cast_ofNat_Int, Int.natCast_nonneg, List.getD_cons_zero, List.getD_cons_succ, List.set_cons_zero, List.set_cons_succ, List.cons_append, List.nil_append, hdi, u4, s3, wd, t1, t2, o1, o2]
      repeat first | refine And.intro (by decide +kernel) ?_ | refine And.intro (by omega) ?_
      have hfr : frN (b00.set x true) N ≤ N - 1 := by
        rw [frN_set (by simp [b00]; omega) b00_get, if_pos hgx, frN_rep hN]; exact Nat.le_refl _
      have hcon := (fillM_ok N t ht hs h8 x (lfT N t x) lfT_len hgx (N - 1) (by omega)).1 (p00.set d (x : Int)) (b00.set x true) (b00.set (cl t d x) true) (U ||| 2 ^ x) (V ||| 2 ^ (cl t d x)) (p00_ok.set (by omega) (by omega)) (fun z hz => hz0 z (by omega)) h000 (hu.set (by omega)) (hv.set (by omega)) hfr
      rw [show N - (N - 1) = d + 1 by omega, show srA N (cl t) lmT (N - 1) (p00.set d (x : Int)) (b00.set x true) (b00.set (cl t d x) true) [] = lfO N t x by subst hd; rfl] at hcon
      have hlx : (lfT N t x).length < 10 := by rw [lfT_len]; omega
      have e1 := byD_ren (a := 60) (b := 0) (a' := 0) (b' := 5) (LF := lfT N t x) (σ := renIn ([(0, 0), (0, 1), (0, 2), (0, 3), (0, 4)] ++ srcs 60 0 (blksF (lfT N t x)).length)) fun i hi => tailL_in rfl (by simp) hi
      simp only [List.getD_cons_zero, List.getD_cons_succ, List.set_cons_zero, List.set_cons_succ, List.cons_append, List.nil_append] at e1
      refine CallsVia.tailL (a := 60) (bf := 5) (E := blksF (lfT N t x)) [(0, 0), (0, 1), (0, 2), (0, 3), (0, 4)] rfl (by decide) (by simp) (by simp) (fun σ => blksF_ren) blksF_live (fun i hi => by simp only [assoc]; simp; have := bagB_get (a := 60) hi; rwa [Nat.zero_add] at this) (by simp [Mem.get, byD]) hcon ?_ ?_ ?_
      · simp [renVs, renV, renAt, renIn, idx, renSegs, renSg]
      · simp only [List.map_cons, List.map_nil, Mem.get, assoc, if_true, List.getD_cons_zero, List.getD_cons_succ, List.set_cons_zero, List.set_cons_succ, List.cons_append, List.nil_append, e1]
        rw [byC_nil hlx]
        simp [renBlk, renSegs, renSg, renCaps, renAt, renIn, idx, fiA]
      · rintro r xs0 ns ⟨rfl, ⟨hq1, rfl, rfl⟩ | ⟨hq1, rfl, rfl⟩⟩ hx0 ups rd hu'
        · have e2 := byD_ren (a := 0) (b := 5) (a' := 60) (b' := 0) (LF := lfT N t x) (σ := renOut 106 ([(0, 0), (0, 1), (0, 2), (0, 3), (0, 4)] ++ srcs 60 0 (blksF (lfT N t x)).length)) fun i hi => tailL_out rfl hi
          simp only [List.getD_cons_zero, List.getD_cons_succ, List.set_cons_zero, List.set_cons_succ, List.cons_append, List.nil_append] at e2
          rw [byC_nil hlx] at hu'
          have hz := fun n' => hu' n' [.lv true (sqS N t), .lv true [(0, .cells 1 [.fn 45 [(0, 4, 0, 0)]])], .lv true (plS (p00.set d (x : Int))), .lv true [(0, .cells 1 [.fn 75 [(0, 0, 0, 0), (0, 1, 0, 0), (0, 2, 0, 0), (0, 3, 0, 0)]])], byD 60 0 (lfT N t x)] (((8, 0), .lv true [(0, .ints .u8 N (bytesTo N))]) :: bagB 60 (blksF (lfT N t x))) (by
            simp only [zipUps, fiA, e2, sqB_ren, plSB_ren, cell_ren, renAt, renCaps, renOut, List.getElem?_cons_zero, List.getElem?_cons_succ, Mem.upd, Mem.put, if_true, List.getD_cons_zero, List.getD_cons_succ, List.set_cons_zero, List.set_cons_succ, List.cons_append, List.nil_append])
          simp only [newUps, Mem.upd] at hz
          simp only [hz]
          simp only [absE, absL, absF, reduceCtorEq, ↓reduceIte, Nat.reduceEqDiff, Nat.reduceAdd, Nat.reduceLT, Nat.reduceMul, Nat.reduceSub, Nat.reduceLeDiff, Int.reduceLT, Int.reduceLE, Int.reduceEq, Option.isSome_some, implies_true, false_implies, Prod.mk.injEq, ne_eq, not_false_eq_true, not_true_eq_false, ge_iff_le, gt_iff_lt, Int.toNat_natCast, Int.reduceToNat, Int.cast_ofNat_Int, Int.natCast_nonneg, List.getD_cons_zero, List.getD_cons_succ, List.set_cons_zero, List.set_cons_succ, List.cons_append, List.nil_append]
          have et : lfT N t (x + 1) = lfT N t x ++ [[]] := by rw [lfT_succ, hq1]
          have hr : ∀ j, j < (blksF (lfT N t x)).length → renTo ([((8, 0), (8, 0))] ++ rids (fun j => (60, 0 + j)) (blksF (lfT N t x)).length 60 0) 60 (0 + j) = some (60, 0 + j) := fun j hj => renTo_row (src := fun j => (60, 0 + j)) std_inj (by simp) hj (by simp)
          refine LoopNext.intro (x + 1, p00.set d (x : Int)) ⟨by simp; omega, hpp, hpn⟩ (by simp; omega) ⟨[((8, 0), (8, 0))] ++ rids (fun j => (60, 0 + j)) (blksF (lfT N t x)).length 60 0, wkOk_rids (by simp [wkOk]) std_inj (by simp) (by simp) (by simp) (by simp) (by simp), ?_, ?_⟩
          · simp [wkEnv, lk, renV, renTo, renAt, w]
          · simp only [wkMem]
            rw [wkLoc_app, wkLoc_bagB (a := 60) (fun σ => blksF_ren) (fun i hi => by rw [Mem.get, if_neg (by decide)]; exact assoc_updL_in hi), et, blksF_snoc0, byD_snoc0 hlx]
            have hτ0 := fun k => renTo_zero (σ := [((8, 0), (8, 0))] ++ rids (fun j => (60, 0 + j)) (blksF (lfT N t x)).length 60 0) k
            generalize renTo ([((8, 0), (8, 0))] ++ rids (fun j => (60, 0 + j)) (blksF (lfT N t x)).length 60 0) = τ at hr hτ0 ⊢
            have h8' : assoc (updL 60 0 (blksF (lfT N t x)) (((8, 0), Blk.lv true [(0, .ints .u8 N (bytesTo N))]) :: bagB 60 (blksF (lfT N t x)))) 8 0 = .lv true [(0, .ints .u8 N (bytesTo N))] := by rw [assoc_updL_ne (by decide)]; rfl
            simp only [List.map_cons, byD_ren hr, wkLoc, Mem.get, h8', sqB_ren, plSB_ren, cell_ren]
            simp [renAt, renCaps, hτ0, renBlk, renSegs, renSg, plB]
        · have e2 := byX_ren (a := 0) (b := 5) (a' := 60) (b' := 0) (LF := lfT N t x) (A := .sl 1 0 0 0 (lfO N t x).length 10) (σ := renOut 106 ([(0, 0), (0, 1), (0, 2), (0, 3), (0, 4)] ++ srcs 60 0 (blksF (lfT N t x)).length)) fun i hi => tailL_out rfl hi
          simp only [List.getD_cons_zero, List.getD_cons_succ, List.set_cons_zero, List.set_cons_succ, List.cons_append, List.nil_append, renAt, renOut, Nat.one_ne_zero, if_true, if_false] at e2
          change ∀ n' A L, _ → _ at hu'
          have hz := fun n' => hu' n' [.lv true (sqS N t), .lv true [(0, .cells 1 [.fn 45 [(0, 4, 0, 0)]])], .lv true (plS (p00.set d (x : Int))), .lv true [(0, .cells 1 [.fn 75 [(0, 0, 0, 0), (0, 1, 0, 0), (0, 2, 0, 0), (0, 3, 0, 0)]])], byX 60 0 (lfT N t x) (.sl 106 0 0 0 (lfO N t x).length 10)] (((8, 0), .lv true [(0, .ints .u8 N (bytesTo N))]) :: bagB 60 (blksF (lfT N t x))) (by
            have ec : byC 5 (lfT N t x) (.sl 1 0 0 0 (lfO N t x).length 10) = byX 0 5 (lfT N t x) (.sl 1 0 0 0 (lfO N t x).length 10) := rfl
            simp only [zipUps, fiA, ec, e2, sqB_ren, plSB_ren, cell_ren, renAt, renCaps, renOut, List.getElem?_cons_zero, List.getElem?_cons_succ, Mem.upd, Mem.put, if_true, List.getD_cons_zero, List.getD_cons_succ, List.set_cons_zero, List.set_cons_succ, List.cons_append, List.nil_append])
          have h106 : ¬ (106 : Nat) = 0 := by decide
          simp only [newUps, Mem.upd, Mem.put, h106, if_false, plB_ren] at hz
          simp only [hz]
          simp only [absE, absL, absF, reduceCtorEq, ↓reduceIte, Nat.reduceEqDiff, Nat.reduceAdd, Nat.reduceLT, Nat.reduceMul, Nat.reduceSub, Nat.reduceLeDiff, Int.reduceLT, Int.reduceLE, Int.reduceEq, Option.isSome_some, implies_true, false_implies, Prod.mk.injEq, ne_eq, not_false_eq_true, not_true_eq_false, ge_iff_le, gt_iff_lt, Int.toNat_natCast, Int.reduceToNat, Int.cast_ofNat_Int, Int.natCast_nonneg, List.getD_cons_zero, List.getD_cons_succ, List.set_cons_zero, List.set_cons_succ, List.cons_append, List.nil_append]
          have et : lfT N t (x + 1) = lfT N t x ++ [lfO N t x] := lfT_succ
          have hr : ∀ j, j < (blksF (lfT N t x)).length → renTo ([((8, 0), (8, 0)), ((106, 0), (60, 0 + (blksF (lfT N t x)).length))] ++ rids (fun j => (60, 0 + j)) (blksF (lfT N t x)).length 60 0) 60 (0 + j) = some (60, 0 + j) := fun j hj => renTo_row (src := fun j => (60, 0 + j)) std_inj (by simp) hj (by simp)
          have hr2 : renTo ([((8, 0), (8, 0)), ((106, 0), (60, 0 + (blksF (lfT N t x)).length))] ++ rids (fun j => (60, 0 + j)) (blksF (lfT N t x)).length 60 0) 106 0 = some (60, 0 + (blksF (lfT N t x)).length) := by simp [renTo]
          refine LoopNext.intro (x + 1, p00.set d (x : Int)) ⟨by simp; omega, hpp, hpn⟩ (by simp; omega) ⟨[((8, 0), (8, 0)), ((106, 0), (60, 0 + (blksF (lfT N t x)).length))] ++ rids (fun j => (60, 0 + j)) (blksF (lfT N t x)).length 60 0, wkOk_rids (by simp [wkOk]) std_inj (by simp) (by simp) (by simp) (by simp) (fun y hy i hi he => by
              simp at hy
              rcases hy with rfl | rfl
              · simp at he
              · have := congrArg (·.2) he; simp at this; omega), ?_, ?_⟩
          · simp [wkEnv, lk, renV, renTo, renAt, w]
          · simp only [wkMem]
            rw [wkLoc_app, wkLoc_bagB (a := 60) (fun σ => blksF_ren) (fun i hi => by rw [Mem.get, if_neg (by decide), assoc, if_neg (by simp)]; exact assoc_updL_in hi), et, blksF_snoc hq1, bagB_snoc]
            have hτ0 := fun k => renTo_zero (σ := [((8, 0), (8, 0)), ((106, 0), (60, 0 + (blksF (lfT N t x)).length))] ++ rids (fun j => (60, 0 + j)) (blksF (lfT N t x)).length 60 0) k
            generalize renTo ([((8, 0), (8, 0)), ((106, 0), (60, 0 + (blksF (lfT N t x)).length))] ++ rids (fun j => (60, 0 + j)) (blksF (lfT N t x)).length 60 0) = τ at hr hr2 hτ0 ⊢
            have h8' : assoc (updL 60 0 (blksF (lfT N t x)) (((8, 0), Blk.lv true [(0, .ints .u8 N (bytesTo N))]) :: bagB 60 (blksF (lfT N t x)))) 8 0 = .lv true [(0, .ints .u8 N (bytesTo N))] := by rw [assoc_updL_ne (by decide)]; rfl
            simp only [List.map_cons, byX_grow hlx hq1 hr hr2, wkLoc, Mem.get, assoc, h8', sqB_ren, plSB_ren, cell_ren]
            simp [renAt, renCaps, hτ0, renBlk, renSegs, renSg, plB]
    · obtain rfl : x = N := by omega
      have s0 : p'.set (0 + d * 1) (0 : Int) = p00 := by
        rw [Nat.zero_add, Nat.mul_one]; exact (hp' 0).trans (set_zero p00_get)
      have u4 : 0 + d * 1 < 10 := by omega
      simp only [absE, absL, absF, reduceCtorEq, ↓reduceIte, Nat.reduceEqDiff, Nat.reduceAdd, Nat.reduceLT, Nat.reduceMul, Nat.reduceSub, Nat.reduceLeDiff, Int.reduceLT, Int.reduceLE, Int.reduceEq, Option.isSome_some, implies_true, false_implies, Prod.mk.injEq, ne_eq, not_false_eq_true, not_true_eq_false, ge_iff_le, gt_iff_lt, Int.toNat_natCast, Int.reduceToNat, Int.cast_ofNat_Int, Int.natCast_nonneg, List.getD_cons_zero, List.getD_cons_succ, List.set_cons_zero, List.set_cons_succ, List.cons_append, List.nil_append, h, hdi, u4, s0, Try.results75]
      repeat first | refine And.intro (by decide +kernel) ?_ | refine And.intro (by omega) ?_
      refine ⟨srcs 60 0 (blksF (lfT x t x)).length, srcs_nodup, fun q hq => by rw [(srcs_mem.1 hq).1]; decide, by simp [renV], ?_, map_srcs (fun σ => blksF_ren) fun i hi => by rw [Mem.get, if_neg (by decide), assoc, if_neg (by simp)]; exact bagB_get hi⟩
      have hr : ∀ j, j < (blksF (lfT x t x)).length → renFin (srcs 60 0 (blksF (lfT x t x)).length) 60 (0 + j) = some (1, 0 + j) := fun j hj => renFin_srcs (by decide) hj
      have hτ0 := fun k => renFin_zero (keep := srcs 60 0 (blksF (lfT x t x)).length) k
      generalize renFin (srcs 60 0 (blksF (lfT x t x)).length) = τ at hr hτ0 ⊢
      simp only [List.map_cons, List.map_nil, byD_ren hr, sqB_ren, cell_ren]
      simp [renAt, renCaps, hτ0, renBlk, renSegs, renSg]


end Go.Proofs.Ytjmenocghjggcaa
