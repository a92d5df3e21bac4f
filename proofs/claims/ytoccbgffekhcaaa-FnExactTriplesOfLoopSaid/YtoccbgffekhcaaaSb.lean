/-
Contracts of functions of the given program, by the abstract walk.
-/
import Derived.Test.YtoccbgffekhcaaaAbsY
import Derived.Test.YtoccbgffekhcaaaSa
namespace Go.Proofs.Ytoccbgffekhcaaa
open Go Go.Abs
set_option linter.unusedVariables false
set_option linter.unusedSectionVars false
set_option linter.unusedSimpArgs false
set_option maxRecDepth 100000
/-! TriplesOfLoop: the walks -/
theorem l08Triples_ok (N : Nat) (t : List Int) (ht : Bytes 100 t) (hs : SqP N t) :
    ACalls Try.prog 82 [.agg (sqS N t)] [] (fun v ms ns => v = .tup [.ref (.sl 1 0 0 0 (trL t N N).length 1), .b (trOk N t)] ∧ ms = [] ∧ ns = llN (trL t N N)) := by
  have hN := hs.le
  have hN1 := hs.1
  refine acalls_of_body mix Try.func82 rfl fok82 (Nat.le_of_ble_eq_true rfl) ?_
  unfold abody
  simp only [absE, absL, absF, reduceCtorEq, ↓reduceIte, Nat.reduceEqDiff, Nat.reduceAdd, Nat.reduceLT, Nat.reduceMul, Nat.reduceSub, Nat.reduceLeDiff, Int.reduceLT, Int.reduceLE, Int.reduceEq, Option.isSome_some, implies_true, false_implies, Prod.mk.injEq, ne_eq, not_false_eq_true, not_true_eq_false, ge_iff_le, gt_iff_lt, Int.toNat_natCast, Int.reduceToNat, Int.cast_ofNat_Int, Int.natCast_nonneg, Try.f82]
  refine awpLoop.intro (fun a : Nat => [(1, .ref (.ptr 1 0 0 0)), (4, .ref (.sl 4 0 0 0 (trL t N a).length 1)), (5, .i .i64 a)]) (fun a => ⟨[], [((1, 0), .lv true (sqS N t)), ((4, 0), .lv true ([(0, .cells (trL t N a).length (outs 5 0 (trL t N a)))]))] ++ rbag 5 0 (trL t N a), 100⟩)
    (fun a => 1 ≤ a ∧ a ≤ N) (fun a => N - a) 1 (by omega) ⟨[((1,0),(1,0)), ((4,0),(4,0))], rfl, ?_, ?_⟩ ?_
  · simp [wkEnv, lk, renV, renAt, renTo, trL]
  · simp [wkMem, wkLoc, Mem.get, assoc, renBlk, renSegs, renSg, renTo, rbag_nil, outs_nil, zeroArr, trL]
  · rintro a ⟨ha1, ha⟩
    by_cases h : (a : Int) < N
    · have w := wrap_i64s (show a < 2 ^ 62 by omega)
      have hA : trL t N (a + 1) = trL t N a ++ lsT t a N := by rw [trL, if_neg (by omega)]
      have hAl := trL_len (t := t) (N := N) (a := a)
      have haN : a * N ≤ 100 := Nat.le_trans (Nat.mul_le_mul (show a ≤ 10 by omega) hN) (by decide)
      have hl0 : lsT t a (a + 1) = [] := lsT_nil (Nat.le_refl _)
      generalize hLA : trL t N a = LA at hA hAl ⊢
      simp only [absE, absL, absF, reduceCtorEq, ↓reduceIte, Nat.reduceEqDiff, Nat.reduceAdd, Nat.reduceLT, Nat.reduceMul, Nat.reduceSub, Nat.reduceLeDiff, Int.reduceLT, Int.reduceLE, Int.reduceEq, Option.isSome_some, implies_true, false_implies, Prod.mk.injEq, ne_eq, not_false_eq_true, not_true_eq_false, ge_iff_le, gt_iff_lt, Int.toNat_natCast, Int.reduceToNat, Int.cast_ofNat_Int, Int.natCast_nonneg, h, w]
      refine awpLoop.intro (fun b : Nat => [(1, .ref (.ptr 1 0 0 0)), (4, .ref (.sl 4 0 0 0 (LA ++ lsT t a b).length 1)), (5, .i .i64 a), (6, .i .i64 b)]) (fun b => ⟨[], [((1, 0), .lv true (sqS N t)), ((4, 0), .lv true ([(0, .cells (LA ++ lsT t a b).length (outs 5 0 (LA ++ lsT t a b)))]))] ++ rbag 5 0 (LA ++ lsT t a b), 200⟩)
        (fun b => a < b ∧ b ≤ N) (fun b => N - b) (a + 1) (by omega) ⟨[((1, 0), (1, 0))] ++ ((4, 0), (4, 0)) :: stdR 5 LA.length, wkOk_keep_ob (next := 200) (by simp [wkOk]) (by decide) (by decide) (by simp), ?_, ?_⟩ ?_
      · simp [wkEnv, lk, renV, renAt, renTo, hl0]
      · simp only [wkMem]
        rw [wk_keep_ob (LL := LA) (by decide) (by simp) (by decide) (by simp [Mem.get, assoc, ob]) (fun j hj => by
          simp only [Mem.get, assoc]
          simp
          have q := assoc_rbag_in' (a := 5) (k := 0) (i := j) (LL := LA) hj
          rwa [Nat.zero_add] at q)]
        simp [wkLoc, ob, Mem.get, assoc, renBlk, renSegs, renSg, hl0]
      · rintro b ⟨hb1, hb⟩
        have hBl := lsT_len (t := t) (a := a) (b := b)
        by_cases h' : (b : Int) < N
        · have w' := wrap_i64s (show b < 2 ^ 62 by omega)
          have i1 : (a : Int) < 10 := by omega
          have i2 : (b : Int) < 10 := by omega
          have u : 0 + a * 10 + b * 1 < 100 := by omega
          have gc : t.getD (0 + a * 10 + b * 1) 0 = (cl t a b : Int) := by rw [show 0 + a * 10 + b * 1 = a * 10 + b by omega]; exact ht.cell ..
          have hcl := hs.cl_lt (show a < N by omega) (show b < N by omega)
          have wc := wrap_i64n (show cl t a b < 2 ^ 62 by omega)
          have hstep : lsT t a (b + 1) = if a < b ∧ b < cl t a b then lsT t a b ++ [[(a : Int) - 1, (b : Int) - 1, (cl t a b : Int) - 1]] else lsT t a b := rfl
          generalize hLB : lsT t a b = LB at hstep hBl ⊢
          by_cases hcb : b < cl t a b
          · rw [if_pos ⟨by omega, hcb⟩] at hstep
            have hci : (b : Int) < (cl t a b : Nat) := by omega
            have wa : IntKind.i64.wrap ((a : Int) - 1) = (a : Int) - 1 := wrap_i64 (by omega) (by omega)
            have wb : IntKind.i64.wrap ((b : Int) - 1) = (b : Int) - 1 := wrap_i64 (by omega) (by omega)
            have wd : IntKind.i64.wrap ((cl t a b : Int) - 1) = (cl t a b : Int) - 1 := wrap_i64 (by omega) (by omega)
            have mL : (LA ++ LB).length * 1 = (LA ++ LB).length := Nat.mul_one _
            have hLl : (LA ++ LB).length ≤ 200 := by rw [List.length_append]; omega
            have hS : LA ++ lsT t a (b + 1) = (LA ++ LB) ++ [[(a : Int) - 1, (b : Int) - 1, (cl t a b : Int) - 1]] := by rw [hstep, List.append_assoc]
            generalize LA ++ LB = L at mL hLl hS ⊢
            simp only [absE, absL, absF, reduceCtorEq, ↓reduceIte, Nat.reduceEqDiff, Nat.reduceAdd, Nat.reduceLT, Nat.reduceMul, Nat.reduceSub, Nat.reduceLeDiff, Int.reduceLT, Int.reduceLE, Int.reduceEq, Option.isSome_some, implies_true, false_implies, Prod.mk.injEq, ne_eq, not_false_eq_true, not_true_eq_false, ge_iff_le, gt_iff_lt, Int.toNat_natCast, Int.reduceToNat, Int.cast_ofNat_Int, Int.natCast_nonneg, h', i1, i2, u, gc, wc, hci, wa, wb, wd, mL]
            repeat refine And.intro (by omega) ?_
            refine LoopNext.intro (b + 1) (by omega) (by omega) ⟨[((1, 0), (1, 0))] ++ snocS (224, 0) 4 222 5 L.length, wkOk_snoc (next := 200) (by simp [wkOk]) (by decide) (by decide) (by decide) (by decide) (by simp) (by decide), ?_, ?_⟩
            · simp [wkEnv, lk, renV, renAt, snocS, renTo, w', hS]
            · simp only [wkMem]
              rw [hS, wk_snoc (LL := L) (xs := [(a : Int) - 1, (b : Int) - 1, (cl t a b : Int) - 1]) rfl (by decide) (by decide) (by decide) (by simp) (by decide) (by simp [Mem.get, assoc]) (by simp [Mem.get, assoc, ib, List.replicate]) (fun j hj => by
                simp only [Mem.get, assoc]
                simp
                have q := assoc_rbag_in' (a := 5) (k := 0) (i := j) (LL := L) hj
                rwa [Nat.zero_add] at q)]
              simp [wkLoc, ob, Mem.get, assoc, renBlk, renSegs, renSg]
          · rw [if_neg (fun hh => hcb hh.2)] at hstep
            have hci : ¬(b : Int) < (cl t a b : Nat) := by omega
            have hS : LA ++ lsT t a (b + 1) = LA ++ LB := by rw [hstep]
            generalize LA ++ LB = L at hS ⊢
            simp only [absE, absL, absF, reduceCtorEq, ↓reduceIte, Nat.reduceEqDiff, Nat.reduceAdd, Nat.reduceLT, Nat.reduceMul, Nat.reduceSub, Nat.reduceLeDiff, Int.reduceLT, Int.reduceLE, Int.reduceEq, Option.isSome_some, implies_true, false_implies, Prod.mk.injEq, ne_eq, not_false_eq_true, not_true_eq_false, ge_iff_le, gt_iff_lt, Int.toNat_natCast, Int.reduceToNat, Int.cast_ofNat_Int, Int.natCast_nonneg, h', i1, i2, u, gc, wc, hci]
            refine LoopNext.intro (b + 1) (by omega) (by omega) ⟨[((1, 0), (1, 0))] ++ ((4, 0), (4, 0)) :: stdR 5 L.length, wkOk_keep_ob (next := 200) (by simp [wkOk]) (by decide) (by decide) (by simp), ?_, ?_⟩
            · simp [wkEnv, lk, renV, renAt, renTo, w', hS]
            · simp only [wkMem]
              rw [hS, wk_keep_ob (LL := L) (by decide) (by simp) (by decide) (by simp [Mem.get, assoc, ob]) (fun j hj => by
                simp only [Mem.get, assoc]
                simp
                have q := assoc_rbag_in' (a := 5) (k := 0) (i := j) (LL := L) hj
                rwa [Nat.zero_add] at q)]
              simp [wkLoc, ob, Mem.get, assoc, renBlk, renSegs, renSg]
        · have hbN : b = N := by omega
          subst hbN
          generalize LA ++ lsT t a b = L at hA ⊢
          simp only [absE, absL, absF, reduceCtorEq, ↓reduceIte, Nat.reduceEqDiff, Nat.reduceAdd, Nat.reduceLT, Nat.reduceMul, Nat.reduceSub, Nat.reduceLeDiff, Int.reduceLT, Int.reduceLE, Int.reduceEq, Option.isSome_some, implies_true, false_implies, Prod.mk.injEq, ne_eq, not_false_eq_true, not_true_eq_false, ge_iff_le, gt_iff_lt, Int.toNat_natCast, Int.reduceToNat, Int.cast_ofNat_Int, Int.natCast_nonneg, h', w]
          refine LoopNext.intro (a + 1) (by omega) (by omega) ⟨[((1, 0), (1, 0))] ++ ((4, 0), (4, 0)) :: stdR 5 L.length, wkOk_keep_ob (next := 100) (by simp [wkOk]) (by decide) (by decide) (by simp), ?_, ?_⟩
          · simp [wkEnv, lk, renV, renAt, renTo, hA]
          · simp only [wkMem]
            rw [hA, wk_keep_ob (LL := L) (by decide) (by simp) (by decide) (by simp [Mem.get, assoc, ob]) (fun j hj => by
              simp only [Mem.get, assoc]
              simp
              have q := assoc_rbag_in' (a := 5) (k := 0) (i := j) (LL := L) hj
              rwa [Nat.zero_add] at q)]
            simp [wkLoc, ob, Mem.get, assoc, renBlk, renSegs, renSg]
    · have haN : a = N := by omega
      subst haN
      have hfit := trL_fits (t := t) hN
      have wa : IntKind.i64.wrap ((a : Int) - 1) = (a : Int) - 1 := wrap_i64 (by omega) (by omega)
      have hk : -2 ^ 63 ≤ (a : Int) - 1 ∧ (a : Int) - 1 < 2 ^ 63 := by omega
      have hl : ∀ i, i < (trL t a a).length → (at_ (trL t a a) i).length ≤ 2 ^ 20 := fun i hi => by rw [trL_at hi]; decide
      have hm : (trL t a a).length ≤ 2 ^ 20 := by have := hfit.1; omega
      have hc := specTL_ok ((a : Int) - 1) (trL t a a) hk hl hm
      obtain ⟨k, sq, e, hsq, hE⟩ := tl_form ((a : Int) - 1) (trL t a a) hk hl hm
      have hO : trOk a t = decide (e = 0 ∧ k = (a : Int) ∧ sq = t) := by
        rw [Bool.eq_iff_iff, trOk_iff, decide_eq_true_iff]
        rw [show ((a : Int).toNat) = a by omega, hE]
        constructor
        · intro hh; simp [sqS] at hh; exact ⟨hh.2, hh.1.1, hh.1.2⟩
        · rintro ⟨rfl, rfl, rfl⟩; rfl
      rw [hE] at hc
      simp only [absE, absL, absF, reduceCtorEq, ↓reduceIte, Nat.reduceEqDiff, Nat.reduceAdd, Nat.reduceLT, Nat.reduceMul, Nat.reduceSub, Nat.reduceLeDiff, Int.reduceLT, Int.reduceLE, Int.reduceEq, Option.isSome_some, implies_true, false_implies, Prod.mk.injEq, ne_eq, not_false_eq_true, not_true_eq_false, ge_iff_le, gt_iff_lt, Int.toNat_natCast, Int.reduceToNat, Int.cast_ofNat_Int, Int.natCast_nonneg, h, wa]
      generalize trL t a a = L at hc hfit ⊢
      refine CallsVia.rowW (O := 4) (B := 5) (LL := L) (by decide) (by decide) (by decide) (by simp [assoc, ob]) (fun j hj => by
        simp only [assoc]
        simp
        have q := assoc_rbag_in' (a := 5) (k := 0) (i := j) (LL := L) hj
        rwa [Nat.zero_add] at q) (fun σ h0 => by simp [renVs, renV, renAt, h0]) (fun σ => by simp [renV, renVs, renSegs, renSg]) hc ?_
      intro ups rd loc' hu hl'
      have x1 : assoc loc' 1 0 = .lv true (sqS a t) := by rw [hl']; simp [assoc]
      simp only [hu]
      simp only [absE, absL, absF, reduceCtorEq, ↓reduceIte, Nat.reduceEqDiff, Nat.reduceAdd, Nat.reduceLT, Nat.reduceMul, Nat.reduceSub, Nat.reduceLeDiff, Int.reduceLT, Int.reduceLE, Int.reduceEq, Option.isSome_some, implies_true, false_implies, Prod.mk.injEq, ne_eq, not_false_eq_true, not_true_eq_false, ge_iff_le, gt_iff_lt, Int.toNat_natCast, Int.reduceToNat, Int.cast_ofNat_Int, Int.natCast_nonneg, x1]
      by_cases he : e = 0
      · simp only [absE, absL, absF, reduceCtorEq, ↓reduceIte, Nat.reduceEqDiff, Nat.reduceAdd, Nat.reduceLT, Nat.reduceMul, Nat.reduceSub, Nat.reduceLeDiff, Int.reduceLT, Int.reduceLE, Int.reduceEq, Option.isSome_some, implies_true, false_implies, Prod.mk.injEq, ne_eq, not_false_eq_true, not_true_eq_false, ge_iff_le, gt_iff_lt, Int.toNat_natCast, Int.reduceToNat, Int.cast_ofNat_Int, Int.natCast_nonneg, x1, he]
        simp only [absE, absL, absF, reduceCtorEq, ↓reduceIte, Nat.reduceEqDiff, Nat.reduceAdd, Nat.reduceLT, Nat.reduceMul, Nat.reduceSub, Nat.reduceLeDiff, Int.reduceLT, Int.reduceLE, Int.reduceEq, Option.isSome_some, implies_true, false_implies, Prod.mk.injEq, ne_eq, not_false_eq_true, not_true_eq_false, ge_iff_le, gt_iff_lt, Int.toNat_natCast, Int.reduceToNat, Int.cast_ofNat_Int, Int.natCast_nonneg, Try.results82]
        refine ⟨(4, 0) :: srcs 5 0 L.length, row_nodup (.inl (by decide)), row_keep (by decide) (by decide), ?_, by simp, ?_⟩
        · simp [renV, renVs, renAt, renFin, idx, hO, he]
        · exact row_map (p := (4, 0)) (B := 5) (LL := L) (by decide) (by decide) (by simp only [Mem.get, assoc]; simp; rw [hl']; simp [assoc, ob]) fun j hj => by
            simp only [Mem.get, assoc]
            simp
            have q := hl' 5 (0 + j)
            rw [Nat.zero_add] at q
            rw [q]
            simp only [assoc]
            simp
            have q := assoc_rbag_in' (a := 5) (k := 0) (i := j) (LL := L) hj
            rwa [Nat.zero_add] at q
      · simp only [absE, absL, absF, reduceCtorEq, ↓reduceIte, Nat.reduceEqDiff, Nat.reduceAdd, Nat.reduceLT, Nat.reduceMul, Nat.reduceSub, Nat.reduceLeDiff, Int.reduceLT, Int.reduceLE, Int.reduceEq, Option.isSome_some, implies_true, false_implies, Prod.mk.injEq, ne_eq, not_false_eq_true, not_true_eq_false, ge_iff_le, gt_iff_lt, Int.toNat_natCast, Int.reduceToNat, Int.cast_ofNat_Int, Int.natCast_nonneg, x1, he]
        simp only [absE, absL, absF, reduceCtorEq, ↓reduceIte, Nat.reduceEqDiff, Nat.reduceAdd, Nat.reduceLT, Nat.reduceMul, Nat.reduceSub, Nat.reduceLeDiff, Int.reduceLT, Int.reduceLE, Int.reduceEq, Option.isSome_some, implies_true, false_implies, Prod.mk.injEq, ne_eq, not_false_eq_true, not_true_eq_false, ge_iff_le, gt_iff_lt, Int.toNat_natCast, Int.reduceToNat, Int.cast_ofNat_Int, Int.natCast_nonneg, Try.results82]
        refine ⟨(4, 0) :: srcs 5 0 L.length, row_nodup (.inl (by decide)), row_keep (by decide) (by decide), ?_, by simp, ?_⟩
        · simp [renV, renVs, renAt, renFin, idx, hO, he]
        · exact row_map (p := (4, 0)) (B := 5) (LL := L) (by decide) (by decide) (by simp only [Mem.get, assoc]; simp; rw [hl']; simp [assoc, ob]) fun j hj => by
            simp only [Mem.get, assoc]
            simp
            have q := hl' 5 (0 + j)
            rw [Nat.zero_add] at q
            rw [q]
            simp only [assoc]
            simp
            have q := assoc_rbag_in' (a := 5) (k := 0) (i := j) (LL := L) hj
            rwa [Nat.zero_add] at q
def tolP (n : Int) (t : List Int) : AV → List Blk → List Blk → Prop := fun v ms ns => ms = [] ∧ ((tolB n t = true ∧ v = llV (trL t n.toNat n.toNat) ∧ ns = llN (trL t n.toNat n.toNat)) ∨ (tolB n t = false ∧ v = .tup [.ref .nils, .i .i64 (tolC n t)] ∧ ns = []))
theorem trOk_one {t : List Int} : trOk 1 t = false := by
  cases h : trOk 1 t
  · rfl
  · have h := trOk_iff.1 h
    have h2 : thirdOk (1 - 1) (trL t (1 : Int).toNat (1 : Int).toNat) = false := by unfold thirdOk; simp
    rw [tlR_no h2] at h
    simp at h
theorem implTol_ok (n : Int) (t : List Int) (ht : Bytes 100 t) : ACalls Try.prog 36 [.agg (sqS n t)] [] (tolP n t) := by
  refine acalls_of_body mix Try.func36 rfl fok36 (Nat.le_of_ble_eq_true rfl) ?_
  unfold abody
  simp only [absE, absL, absF, reduceCtorEq, ↓reduceIte, Nat.reduceEqDiff, Nat.reduceAdd, Nat.reduceLT, Nat.reduceMul, Nat.reduceSub, Nat.reduceLeDiff, Int.reduceLT, Int.reduceLE, Int.reduceEq, Option.isSome_some, implies_true, false_implies, Prod.mk.injEq, ne_eq, not_false_eq_true, not_true_eq_false, ge_iff_le, gt_iff_lt, Int.toNat_natCast, Int.reduceToNat, Int.cast_ofNat_Int, Int.natCast_nonneg, Try.f36]
  refine CallsVia.none (isSquare_ok n t ht) ?_
  rintro _ _ _ ⟨rfl, rfl, rfl⟩
  cases h1 : sqB n t
  · simp only [absE, absL, absF, reduceCtorEq, ↓reduceIte, Nat.reduceEqDiff, Nat.reduceAdd, Nat.reduceLT, Nat.reduceMul, Nat.reduceSub, Nat.reduceLeDiff, Int.reduceLT, Int.reduceLE, Int.reduceEq, Option.isSome_some, implies_true, false_implies, Prod.mk.injEq, ne_eq, not_false_eq_true, not_true_eq_false, ge_iff_le, gt_iff_lt, Int.toNat_natCast, Int.reduceToNat, Int.cast_ofNat_Int, Int.natCast_nonneg, Try.results36]
    exact ⟨[], by simp, by simp, rfl, .inr ⟨by simp [tolB, h1], by simp [renV, renVs, renAt, tolC, h1], rfl⟩⟩
  · have hs := sqB_iff.1 h1
    obtain ⟨N, rfl⟩ : ∃ N : Nat, n = N := ⟨n.toNat, by have := hs.1; omega⟩
    have hN := hs.le
    have hN1 := hs.1
    simp only [absE, absL, absF, reduceCtorEq, ↓reduceIte, Nat.reduceEqDiff, Nat.reduceAdd, Nat.reduceLT, Nat.reduceMul, Nat.reduceSub, Nat.reduceLeDiff, Int.reduceLT, Int.reduceLE, Int.reduceEq, Option.isSome_some, implies_true, false_implies, Prod.mk.injEq, ne_eq, not_false_eq_true, not_true_eq_false, ge_iff_le, gt_iff_lt, Int.toNat_natCast, Int.reduceToNat, Int.cast_ofNat_Int, Int.natCast_nonneg]
    refine CallsVia.none (isLoop_ok N t ht) ?_
    rintro _ _ _ ⟨rfl, rfl, rfl⟩
    cases h2 : loopB N t
    · simp only [absE, absL, absF, reduceCtorEq, ↓reduceIte, Nat.reduceEqDiff, Nat.reduceAdd, Nat.reduceLT, Nat.reduceMul, Nat.reduceSub, Nat.reduceLeDiff, Int.reduceLT, Int.reduceLE, Int.reduceEq, Option.isSome_some, implies_true, false_implies, Prod.mk.injEq, ne_eq, not_false_eq_true, not_true_eq_false, ge_iff_le, gt_iff_lt, Int.toNat_natCast, Int.reduceToNat, Int.cast_ofNat_Int, Int.natCast_nonneg, Try.results36]
      repeat first | refine And.intro (by decide +kernel) ?_ | refine And.intro (by omega) ?_
      exact ⟨[], by simp, by simp, rfl, .inr ⟨by simp [tolB, h2], by simp [renV, renVs, renAt, tolC, h1], rfl⟩⟩
    · by_cases n1 : N = 1
      · subst n1
        simp only [absE, absL, absF, reduceCtorEq, ↓reduceIte, Nat.reduceEqDiff, Nat.reduceAdd, Nat.reduceLT, Nat.reduceMul, Nat.reduceSub, Nat.reduceLeDiff, Int.reduceLT, Int.reduceLE, Int.reduceEq, Option.isSome_some, implies_true, false_implies, Prod.mk.injEq, ne_eq, not_false_eq_true, not_true_eq_false, ge_iff_le, gt_iff_lt, Int.toNat_natCast, Int.reduceToNat, Int.cast_ofNat_Int, Int.natCast_nonneg, Try.results36]
        repeat first | refine And.intro (by decide +kernel) ?_ | refine And.intro (by omega) ?_
        have h1' : sqB 1 t = true := h1
        exact ⟨[], by simp, by simp, rfl, .inr ⟨by have := trOk_one (t := t); simp [tolB, this], by simp [renV, renVs, renAt, tolC, h1'], rfl⟩⟩
      · have n1i : ¬ (N : Int) = 1 := by omega
        simp only [absE, absL, absF, reduceCtorEq, ↓reduceIte, Nat.reduceEqDiff, Nat.reduceAdd, Nat.reduceLT, Nat.reduceMul, Nat.reduceSub, Nat.reduceLeDiff, Int.reduceLT, Int.reduceLE, Int.reduceEq, Option.isSome_some, implies_true, false_implies, Prod.mk.injEq, ne_eq, not_false_eq_true, not_true_eq_false, ge_iff_le, gt_iff_lt, Int.toNat_natCast, Int.reduceToNat, Int.cast_ofNat_Int, Int.natCast_nonneg, n1i]
        refine awpLoop.intro (fun a : Nat => [(1, .ref (.ptr 1 0 0 0)), (4, .ref (.sl 17 0 0 0 (trL t N a).length 1)), (5, .i .i64 a)]) (fun a => ⟨[], [((1, 0), .lv true (sqS N t)), ((17, 0), .lv true ([(0, .cells (trL t N a).length (outs 5 0 (trL t N a)))]))] ++ rbag 5 0 (trL t N a), 100⟩)
          (fun a => 1 ≤ a ∧ a ≤ N) (fun a => N - a) 1 (by omega) ⟨[((1,0),(1,0)), ((17,0),(17,0))], rfl, ?_, ?_⟩ ?_
        · simp [wkEnv, lk, renV, renAt, renTo, trL]
        · simp [wkMem, wkLoc, Mem.get, assoc, renBlk, renSegs, renSg, renTo, rbag_nil, outs_nil, zeroArr, trL]
        · rintro a ⟨ha1, ha⟩
          by_cases h : (a : Int) < N
          · have w := wrap_i64s (show a < 2 ^ 62 by omega)
            have hA : trL t N (a + 1) = trL t N a ++ lsT t a N := by rw [trL, if_neg (by omega)]
            have hAl := trL_len (t := t) (N := N) (a := a)
            have haN : a * N ≤ 100 := Nat.le_trans (Nat.mul_le_mul (show a ≤ 10 by omega) hN) (by decide)
            have hl0 : lsT t a (a + 1) = [] := lsT_nil (Nat.le_refl _)
            generalize hLA : trL t N a = LA at hA hAl ⊢
            simp only [absE, absL, absF, reduceCtorEq, ↓reduceIte, Nat.reduceEqDiff, Nat.reduceAdd, Nat.reduceLT, Nat.reduceMul, Nat.reduceSub, Nat.reduceLeDiff, Int.reduceLT, Int.reduceLE, Int.reduceEq, Option.isSome_some, implies_true, false_implies, Prod.mk.injEq, ne_eq, not_false_eq_true, not_true_eq_false, ge_iff_le, gt_iff_lt, Int.toNat_natCast, Int.reduceToNat, Int.cast_ofNat_Int, Int.natCast_nonneg, h, w]
            refine awpLoop.intro (fun b : Nat => [(1, .ref (.ptr 1 0 0 0)), (4, .ref (.sl 17 0 0 0 (LA ++ lsT t a b).length 1)), (5, .i .i64 a), (6, .i .i64 b)]) (fun b => ⟨[], [((1, 0), .lv true (sqS N t)), ((17, 0), .lv true ([(0, .cells (LA ++ lsT t a b).length (outs 5 0 (LA ++ lsT t a b)))]))] ++ rbag 5 0 (LA ++ lsT t a b), 200⟩)
              (fun b => a < b ∧ b ≤ N) (fun b => N - b) (a + 1) (by omega) ⟨[((1, 0), (1, 0))] ++ ((17, 0), (17, 0)) :: stdR 5 LA.length, wkOk_keep_ob (next := 200) (by simp [wkOk]) (by decide) (by decide) (by simp), ?_, ?_⟩ ?_
            · simp [wkEnv, lk, renV, renAt, renTo, hl0]
            · simp only [wkMem]
              rw [wk_keep_ob (LL := LA) (by decide) (by simp) (by decide) (by simp [Mem.get, assoc, ob]) (fun j hj => by
                simp only [Mem.get, assoc]
                simp
                have q := assoc_rbag_in' (a := 5) (k := 0) (i := j) (LL := LA) hj
                rwa [Nat.zero_add] at q)]
              simp [wkLoc, ob, Mem.get, assoc, renBlk, renSegs, renSg, hl0]
            · rintro b ⟨hb1, hb⟩
              have hBl := lsT_len (t := t) (a := a) (b := b)
              by_cases h' : (b : Int) < N
              · have w' := wrap_i64s (show b < 2 ^ 62 by omega)
                have i1 : (a : Int) < 10 := by omega
                have i2 : (b : Int) < 10 := by omega
                have u : 0 + a * 10 + b * 1 < 100 := by omega
                have gc : t.getD (0 + a * 10 + b * 1) 0 = (cl t a b : Int) := by rw [show 0 + a * 10 + b * 1 = a * 10 + b by omega]; exact ht.cell ..
                have hcl := hs.cl_lt (show a < N by omega) (show b < N by omega)
                have wc := wrap_i64n (show cl t a b < 2 ^ 62 by omega)
                have hstep : lsT t a (b + 1) = if a < b ∧ b < cl t a b then lsT t a b ++ [[(a : Int) - 1, (b : Int) - 1, (cl t a b : Int) - 1]] else lsT t a b := rfl
                generalize hLB : lsT t a b = LB at hstep hBl ⊢
                by_cases hcb : b < cl t a b
                · rw [if_pos ⟨by omega, hcb⟩] at hstep
                  have hci : (b : Int) < (cl t a b : Nat) := by omega
                  have wa : IntKind.i64.wrap ((a : Int) - 1) = (a : Int) - 1 := wrap_i64 (by omega) (by omega)
                  have wb : IntKind.i64.wrap ((b : Int) - 1) = (b : Int) - 1 := wrap_i64 (by omega) (by omega)
                  have wd : IntKind.i64.wrap ((cl t a b : Int) - 1) = (cl t a b : Int) - 1 := wrap_i64 (by omega) (by omega)
                  have mL : (LA ++ LB).length * 1 = (LA ++ LB).length := Nat.mul_one _
                  have hLl : (LA ++ LB).length ≤ 200 := by rw [List.length_append]; omega
                  have hS : LA ++ lsT t a (b + 1) = (LA ++ LB) ++ [[(a : Int) - 1, (b : Int) - 1, (cl t a b : Int) - 1]] := by rw [hstep, List.append_assoc]
                  generalize LA ++ LB = L at mL hLl hS ⊢
                  simp only [absE, absL, absF, reduceCtorEq, ↓reduceIte, Nat.reduceEqDiff, Nat.reduceAdd, Nat.reduceLT, Nat.reduceMul, Nat.reduceSub, Nat.reduceLeDiff, Int.reduceLT, Int.reduceLE, Int.reduceEq, Option.isSome_some, implies_true, false_implies, Prod.mk.injEq, ne_eq, not_false_eq_true, not_true_eq_false, ge_iff_le, gt_iff_lt, Int.toNat_natCast, Int.reduceToNat, Int.cast_ofNat_Int, Int.natCast_nonneg, h', i1, i2, u, gc, wc, hci, wa, wb, wd, mL]
                  repeat refine And.intro (by omega) ?_
                  refine LoopNext.intro (b + 1) (by omega) (by omega) ⟨[((1, 0), (1, 0))] ++ snocS (224, 0) 17 222 5 L.length, wkOk_snoc (next := 200) (by simp [wkOk]) (by decide) (by decide) (by decide) (by decide) (by simp) (by decide), ?_, ?_⟩
                  · simp [wkEnv, lk, renV, renAt, snocS, renTo, w', hS]
                  · simp only [wkMem]
                    rw [hS, wk_snoc (LL := L) (xs := [(a : Int) - 1, (b : Int) - 1, (cl t a b : Int) - 1]) rfl (by decide) (by decide) (by decide) (by simp) (by decide) (by simp [Mem.get, assoc]) (by simp [Mem.get, assoc, ib, List.replicate]) (fun j hj => by
                      simp only [Mem.get, assoc]
                      simp
                      have q := assoc_rbag_in' (a := 5) (k := 0) (i := j) (LL := L) hj
                      rwa [Nat.zero_add] at q)]
                    simp [wkLoc, ob, Mem.get, assoc, renBlk, renSegs, renSg]
                · rw [if_neg (fun hh => hcb hh.2)] at hstep
                  have hci : ¬(b : Int) < (cl t a b : Nat) := by omega
                  have hS : LA ++ lsT t a (b + 1) = LA ++ LB := by rw [hstep]
                  generalize LA ++ LB = L at hS ⊢
                  simp only [absE, absL, absF, reduceCtorEq, ↓reduceIte, Nat.reduceEqDiff, Nat.reduceAdd, Nat.reduceLT, Nat.reduceMul, Nat.reduceSub, Nat.reduceLeDiff, Int.reduceLT, Int.reduceLE, Int.reduceEq, Option.isSome_some, implies_true, false_implies, Prod.mk.injEq, ne_eq, not_false_eq_true, not_true_eq_false, ge_iff_le, gt_iff_lt, Int.toNat_natCast, Int.reduceToNat, Int.cast_ofNat_Int, Int.natCast_nonneg, h', i1, i2, u, gc, wc, hci]
                  refine LoopNext.intro (b + 1) (by omega) (by omega) ⟨[((1, 0), (1, 0))] ++ ((17, 0), (17, 0)) :: stdR 5 L.length, wkOk_keep_ob (next := 200) (by simp [wkOk]) (by decide) (by decide) (by simp), ?_, ?_⟩
                  · simp [wkEnv, lk, renV, renAt, renTo, w', hS]
                  · simp only [wkMem]
                    rw [hS, wk_keep_ob (LL := L) (by decide) (by simp) (by decide) (by simp [Mem.get, assoc, ob]) (fun j hj => by
                      simp only [Mem.get, assoc]
                      simp
                      have q := assoc_rbag_in' (a := 5) (k := 0) (i := j) (LL := L) hj
                      rwa [Nat.zero_add] at q)]
                    simp [wkLoc, ob, Mem.get, assoc, renBlk, renSegs, renSg]
              · have hbN : b = N := by omega
                subst hbN
                generalize LA ++ lsT t a b = L at hA ⊢
                simp only [absE, absL, absF, reduceCtorEq, ↓reduceIte, Nat.reduceEqDiff, Nat.reduceAdd, Nat.reduceLT, Nat.reduceMul, Nat.reduceSub, Nat.reduceLeDiff, Int.reduceLT, Int.reduceLE, Int.reduceEq, Option.isSome_some, implies_true, false_implies, Prod.mk.injEq, ne_eq, not_false_eq_true, not_true_eq_false, ge_iff_le, gt_iff_lt, Int.toNat_natCast, Int.reduceToNat, Int.cast_ofNat_Int, Int.natCast_nonneg, h', w]
                refine LoopNext.intro (a + 1) (by omega) (by omega) ⟨[((1, 0), (1, 0))] ++ ((17, 0), (17, 0)) :: stdR 5 L.length, wkOk_keep_ob (next := 100) (by simp [wkOk]) (by decide) (by decide) (by simp), ?_, ?_⟩
                · simp [wkEnv, lk, renV, renAt, renTo, hA]
                · simp only [wkMem]
                  rw [hA, wk_keep_ob (LL := L) (by decide) (by simp) (by decide) (by simp [Mem.get, assoc, ob]) (fun j hj => by
                    simp only [Mem.get, assoc]
                    simp
                    have q := assoc_rbag_in' (a := 5) (k := 0) (i := j) (LL := L) hj
                    rwa [Nat.zero_add] at q)]
                  simp [wkLoc, ob, Mem.get, assoc, renBlk, renSegs, renSg]
          · have haN : a = N := by omega
            subst haN
            have hfit := trL_fits (t := t) hN
            have wa : IntKind.i64.wrap ((a : Int) - 1) = (a : Int) - 1 := wrap_i64 (by omega) (by omega)
            have hk : -2 ^ 63 ≤ (a : Int) - 1 ∧ (a : Int) - 1 < 2 ^ 63 := by omega
            have hl : ∀ i, i < (trL t a a).length → (at_ (trL t a a) i).length ≤ 2 ^ 20 := fun i hi => by rw [trL_at hi]; decide
            have hm : (trL t a a).length ≤ 2 ^ 20 := by have := hfit.1; omega
            have hc := implTL_ok ((a : Int) - 1) (trL t a a) hk hl hm
            obtain ⟨k, sq, e, hsq, hE⟩ := tl_form ((a : Int) - 1) (trL t a a) hk hl hm
            have hO : trOk a t = decide (e = 0 ∧ k = (a : Int) ∧ sq = t) := by
              rw [Bool.eq_iff_iff, trOk_iff, decide_eq_true_iff]
              rw [show ((a : Int).toNat) = a by omega, hE]
              constructor
              · intro hh; simp [sqS] at hh; exact ⟨hh.2, hh.1.1, hh.1.2⟩
              · rintro ⟨rfl, rfl, rfl⟩; rfl
            rw [hE] at hc
            simp only [absE, absL, absF, reduceCtorEq, ↓reduceIte, Nat.reduceEqDiff, Nat.reduceAdd, Nat.reduceLT, Nat.reduceMul, Nat.reduceSub, Nat.reduceLeDiff, Int.reduceLT, Int.reduceLE, Int.reduceEq, Option.isSome_some, implies_true, false_implies, Prod.mk.injEq, ne_eq, not_false_eq_true, not_true_eq_false, ge_iff_le, gt_iff_lt, Int.toNat_natCast, Int.reduceToNat, Int.cast_ofNat_Int, Int.natCast_nonneg, h, wa]
            generalize hLd : trL t a a = L at hc hfit ⊢
            refine CallsVia.rowW (O := 17) (B := 5) (LL := L) (by decide) (by decide) (by decide) (by simp [assoc, ob]) (fun j hj => by
              simp only [assoc]
              simp
              have q := assoc_rbag_in' (a := 5) (k := 0) (i := j) (LL := L) hj
              rwa [Nat.zero_add] at q) (fun σ h0 => by simp [renVs, renV, renAt, h0]) (fun σ => by simp [renV, renVs, renSegs, renSg]) hc ?_
            intro ups rd loc' hu hl'
            have x1 : assoc loc' 1 0 = .lv true (sqS a t) := by rw [hl']; simp [assoc]
            simp only [hu]
            simp only [absE, absL, absF, reduceCtorEq, ↓reduceIte, Nat.reduceEqDiff, Nat.reduceAdd, Nat.reduceLT, Nat.reduceMul, Nat.reduceSub, Nat.reduceLeDiff, Int.reduceLT, Int.reduceLE, Int.reduceEq, Option.isSome_some, implies_true, false_implies, Prod.mk.injEq, ne_eq, not_false_eq_true, not_true_eq_false, ge_iff_le, gt_iff_lt, Int.toNat_natCast, Int.reduceToNat, Int.cast_ofNat_Int, Int.natCast_nonneg, x1]
            have tN : (a : Int).toNat = a := by omega
            by_cases he : e = 0
            · by_cases hk2 : k = (a : Int)
              · by_cases hs2 : sq = t
                · have hT : tolB a t = true := by simp only [tolB, h1, h2, hO, he, hk2, hs2]; simp
                  have hkl : ([k] = [(a : Int)]) = True := by simp [hk2]
                  simp only [absE, absL, absF, reduceCtorEq, ↓reduceIte, Nat.reduceEqDiff, Nat.reduceAdd, Nat.reduceLT, Nat.reduceMul, Nat.reduceSub, Nat.reduceLeDiff, Int.reduceLT, Int.reduceLE, Int.reduceEq, Option.isSome_some, implies_true, false_implies, Prod.mk.injEq, ne_eq, not_false_eq_true, not_true_eq_false, ge_iff_le, gt_iff_lt, Int.toNat_natCast, Int.reduceToNat, Int.cast_ofNat_Int, Int.natCast_nonneg, x1, he, hs2, hkl, Try.results36]
                  refine ⟨(17, 0) :: srcs 5 0 L.length, row_nodup (.inl (by decide)), row_keep (by decide) (by decide), rfl, .inl ⟨hT, ?_, ?_⟩⟩
                  · rw [tN, hLd]; simp [renV, renVs, renAt, renFin, idx, llV]
                  · rw [tN, hLd]
                    exact row_map (p := (17, 0)) (B := 5) (LL := L) (by decide) (by decide) (by simp only [Mem.get, assoc]; simp; rw [hl']; simp [assoc, ob]) fun j hj => by
                      simp only [Mem.get, assoc]
                      simp
                      have q := hl' 5 (0 + j)
                      rw [Nat.zero_add] at q
                      rw [q]
                      simp only [assoc]
                      simp
                      have q := assoc_rbag_in' (a := 5) (k := 0) (i := j) (LL := L) hj
                      rwa [Nat.zero_add] at q
                · have hT : tolB a t = false := by simp only [tolB, h1, h2, hO, hs2]; simp
                  simp only [absE, absL, absF, reduceCtorEq, ↓reduceIte, Nat.reduceEqDiff, Nat.reduceAdd, Nat.reduceLT, Nat.reduceMul, Nat.reduceSub, Nat.reduceLeDiff, Int.reduceLT, Int.reduceLE, Int.reduceEq, Option.isSome_some, implies_true, false_implies, Prod.mk.injEq, ne_eq, not_false_eq_true, not_true_eq_false, ge_iff_le, gt_iff_lt, Int.toNat_natCast, Int.reduceToNat, Int.cast_ofNat_Int, Int.natCast_nonneg, x1, he, hs2, Try.results36]
                  exact ⟨[], by simp, by simp, rfl, .inr ⟨hT, by simp [renV, renVs, renAt, tolC, h1], rfl⟩⟩
              · have hT : tolB a t = false := by simp only [tolB, h1, h2, hO, hk2]; simp
                have hkl : ([k] = [(a : Int)]) = False := by simp [hk2]
                simp only [absE, absL, absF, reduceCtorEq, ↓reduceIte, Nat.reduceEqDiff, Nat.reduceAdd, Nat.reduceLT, Nat.reduceMul, Nat.reduceSub, Nat.reduceLeDiff, Int.reduceLT, Int.reduceLE, Int.reduceEq, Option.isSome_some, implies_true, false_implies, Prod.mk.injEq, ne_eq, not_false_eq_true, not_true_eq_false, ge_iff_le, gt_iff_lt, Int.toNat_natCast, Int.reduceToNat, Int.cast_ofNat_Int, Int.natCast_nonneg, x1, he, hkl, Try.results36]
                exact ⟨[], by simp, by simp, rfl, .inr ⟨hT, by simp [renV, renVs, renAt, tolC, h1], rfl⟩⟩
            · have hT : tolB a t = false := by simp only [tolB, h1, h2, hO, he]; simp
              simp only [absE, absL, absF, reduceCtorEq, ↓reduceIte, Nat.reduceEqDiff, Nat.reduceAdd, Nat.reduceLT, Nat.reduceMul, Nat.reduceSub, Nat.reduceLeDiff, Int.reduceLT, Int.reduceLE, Int.reduceEq, Option.isSome_some, implies_true, false_implies, Prod.mk.injEq, ne_eq, not_false_eq_true, not_true_eq_false, ge_iff_le, gt_iff_lt, Int.toNat_natCast, Int.reduceToNat, Int.cast_ofNat_Int, Int.natCast_nonneg, x1, he, Try.results36]
              exact ⟨[], by simp, by simp, rfl, .inr ⟨hT, by simp [renV, renVs, renAt, tolC, h1], rfl⟩⟩
theorem specTol_ok (n : Int) (t : List Int) (ht : Bytes 100 t) : ACalls Try.prog 35 [.agg (sqS n t)] [] (tolP n t) := by
  refine acalls_of_body mix Try.func35 rfl fok35 (Nat.le_of_ble_eq_true rfl) ?_
  unfold abody
  simp only [absE, absL, absF, reduceCtorEq, ↓reduceIte, Nat.reduceEqDiff, Nat.reduceAdd, Nat.reduceLT, Nat.reduceMul, Nat.reduceSub, Nat.reduceLeDiff, Int.reduceLT, Int.reduceLE, Int.reduceEq, Option.isSome_some, implies_true, false_implies, Prod.mk.injEq, ne_eq, not_false_eq_true, not_true_eq_false, ge_iff_le, gt_iff_lt, Int.toNat_natCast, Int.reduceToNat, Int.cast_ofNat_Int, Int.natCast_nonneg, Try.f35]
  refine CallsVia.none (l01Is_ok n t ht) ?_
  rintro _ _ _ ⟨rfl, rfl, rfl⟩
  cases h1 : sqB n t
  · simp only [absE, absL, absF, reduceCtorEq, ↓reduceIte, Nat.reduceEqDiff, Nat.reduceAdd, Nat.reduceLT, Nat.reduceMul, Nat.reduceSub, Nat.reduceLeDiff, Int.reduceLT, Int.reduceLE, Int.reduceEq, Option.isSome_some, implies_true, false_implies, Prod.mk.injEq, ne_eq, not_false_eq_true, not_true_eq_false, ge_iff_le, gt_iff_lt, Int.toNat_natCast, Int.reduceToNat, Int.cast_ofNat_Int, Int.natCast_nonneg, Try.results35]
    exact ⟨[], by simp, by simp, rfl, .inr ⟨by simp [tolB, h1], by simp [renV, renVs, renAt, tolC, h1], rfl⟩⟩
  · have hs := sqB_iff.1 h1
    obtain ⟨N, rfl⟩ : ∃ N : Nat, n = N := ⟨n.toNat, by have := hs.1; omega⟩
    have tN : (N : Int).toNat = N := by omega
    simp only [absE, absL, absF, reduceCtorEq, ↓reduceIte, Nat.reduceEqDiff, Nat.reduceAdd, Nat.reduceLT, Nat.reduceMul, Nat.reduceSub, Nat.reduceLeDiff, Int.reduceLT, Int.reduceLE, Int.reduceEq, Option.isSome_some, implies_true, false_implies, Prod.mk.injEq, ne_eq, not_false_eq_true, not_true_eq_false, ge_iff_le, gt_iff_lt, Int.toNat_natCast, Int.reduceToNat, Int.cast_ofNat_Int, Int.natCast_nonneg]
    refine CallsVia.none (l01Loop_ok N t ht) ?_
    rintro _ _ _ ⟨rfl, rfl, rfl⟩
    cases h2 : loopB N t
    · simp only [absE, absL, absF, reduceCtorEq, ↓reduceIte, Nat.reduceEqDiff, Nat.reduceAdd, Nat.reduceLT, Nat.reduceMul, Nat.reduceSub, Nat.reduceLeDiff, Int.reduceLT, Int.reduceLE, Int.reduceEq, Option.isSome_some, implies_true, false_implies, Prod.mk.injEq, ne_eq, not_false_eq_true, not_true_eq_false, ge_iff_le, gt_iff_lt, Int.toNat_natCast, Int.reduceToNat, Int.cast_ofNat_Int, Int.natCast_nonneg, Try.results35]
      exact ⟨[], by simp, by simp, rfl, .inr ⟨by simp [tolB, h2], by simp [renV, renVs, renAt, tolC, h1], rfl⟩⟩
    · simp only [absE, absL, absF, reduceCtorEq, ↓reduceIte, Nat.reduceEqDiff, Nat.reduceAdd, Nat.reduceLT, Nat.reduceMul, Nat.reduceSub, Nat.reduceLeDiff, Int.reduceLT, Int.reduceLE, Int.reduceEq, Option.isSome_some, implies_true, false_implies, Prod.mk.injEq, ne_eq, not_false_eq_true, not_true_eq_false, ge_iff_le, gt_iff_lt, Int.toNat_natCast, Int.reduceToNat, Int.cast_ofNat_Int, Int.natCast_nonneg]
      have hT : tolB N t = trOk N t := by simp [tolB, h1, h2]
      refine CallsVia.none (l08Triples_ok N t ht hs) ?_
      rintro _ _ _ ⟨rfl, rfl, rfl⟩
      unfold tolP
      rw [tN]
      generalize trL t N N = L
      simp only [llN]
      cases h3 : trOk N t
      · simp only [absE, absL, absF, reduceCtorEq, ↓reduceIte, Nat.reduceEqDiff, Nat.reduceAdd, Nat.reduceLT, Nat.reduceMul, Nat.reduceSub, Nat.reduceLeDiff, Int.reduceLT, Int.reduceLE, Int.reduceEq, Option.isSome_some, implies_true, false_implies, Prod.mk.injEq, ne_eq, not_false_eq_true, not_true_eq_false, ge_iff_le, gt_iff_lt, Int.toNat_natCast, Int.reduceToNat, Int.cast_ofNat_Int, Int.natCast_nonneg, newUps_inn, ob_out, Mem.upd_bagU, Try.results35]
        exact ⟨[], by simp, by simp, rfl, .inr ⟨by rw [hT, h3], by simp [renV, renVs, renAt, tolC, h1], rfl⟩⟩
      · simp only [absE, absL, absF, reduceCtorEq, ↓reduceIte, Nat.reduceEqDiff, Nat.reduceAdd, Nat.reduceLT, Nat.reduceMul, Nat.reduceSub, Nat.reduceLeDiff, Int.reduceLT, Int.reduceLE, Int.reduceEq, Option.isSome_some, implies_true, false_implies, Prod.mk.injEq, ne_eq, not_false_eq_true, not_true_eq_false, ge_iff_le, gt_iff_lt, Int.toNat_natCast, Int.reduceToNat, Int.cast_ofNat_Int, Int.natCast_nonneg, newUps_inn, ob_out, Mem.upd_bagU, Try.results35]
        refine ⟨(13, 0) :: srcs 13 1 L.length, row_nodup (.inr (by decide)), row_keep (by decide) (by decide), rfl, .inl ⟨by rw [hT, h3], ?_, ?_⟩⟩
        · simp [renV, renVs, renAt, renFin, idx, llV]
        · exact row_map' (p := (13, 0)) (B := 13) (k := 1) (LL := L) (.inr (by decide)) (by decide) (show assoc (rbag 13 1 _ ++ _) 13 0 = _ by rw [assoc_rbag_lt (by decide)]; rfl) fun j hj => show assoc (rbag 13 1 _ ++ _) 13 (1 + j) = _ from assoc_rbag_in hj
theorem tol_fits {n : Int} {t : List Int} (h : tolB n t = true) : FitsL (trL t n.toNat n.toNat) := by
  unfold tolB at h
  simp only [Bool.and_eq_true] at h
  have := (sqB_iff.1 h.1).2.1
  exact trL_fits (by omega)
theorem implTol_yes (n : Int) (t : List Int) (ht : Bytes 100 t) (h : tolB n t = true) : ACalls Try.prog 36 [.agg (sqS n t)] [] (fun v ms ns => v = llV (trL t n.toNat n.toNat) ∧ ms = [] ∧ ns = llN (trL t n.toNat n.toNat)) := by
  refine (implTol_ok n t ht).mono ?_
  rintro v ms ns ⟨h1, h2 | h2⟩
  · exact ⟨h2.2.1, h1, h2.2.2⟩
  · rw [h] at h2; exact absurd h2.1 (by simp)
theorem implTol_no (n : Int) (t : List Int) (ht : Bytes 100 t) (h : tolB n t = false) : ACalls Try.prog 36 [.agg (sqS n t)] [] (fun v ms ns => v = .tup [.ref .nils, .i .i64 (tolC n t)] ∧ ms = [] ∧ ns = []) := by
  refine (implTol_ok n t ht).mono ?_
  rintro v ms ns ⟨h1, h2 | h2⟩
  · rw [h] at h2; exact absurd h2.1 (by simp)
  · exact ⟨h2.2.1, h1, h2.2.2⟩
theorem specTol_yes (n : Int) (t : List Int) (ht : Bytes 100 t) (h : tolB n t = true) : ACalls Try.prog 35 [.agg (sqS n t)] [] (fun v ms ns => v = llV (trL t n.toNat n.toNat) ∧ ms = [] ∧ ns = llN (trL t n.toNat n.toNat)) := by
  refine (specTol_ok n t ht).mono ?_
  rintro v ms ns ⟨h1, h2 | h2⟩
  · exact ⟨h2.2.1, h1, h2.2.2⟩
  · rw [h] at h2; exact absurd h2.1 (by simp)
theorem specTol_no (n : Int) (t : List Int) (ht : Bytes 100 t) (h : tolB n t = false) : ACalls Try.prog 35 [.agg (sqS n t)] [] (fun v ms ns => v = .tup [.ref .nils, .i .i64 (tolC n t)] ∧ ms = [] ∧ ns = []) := by
  refine (specTol_ok n t ht).mono ?_
  rintro v ms ns ⟨h1, h2 | h2⟩
  · rw [h] at h2; exact absurd h2.1 (by simp)
  · exact ⟨h2.2.1, h1, h2.2.2⟩

end Go.Proofs.Ytoccbgffekhcaaa
