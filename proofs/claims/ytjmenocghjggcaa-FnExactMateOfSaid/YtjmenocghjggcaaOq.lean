/-
Contracts of functions of the given program, by the abstract walk.
-/
import Derived.Test.YtjmenocghjggcaaAbsY
import Derived.Test.YtjmenocghjggcaaOp
import Derived.Test.YtjmenocghjggcaaOg
namespace Go.Proofs.Ytjmenocghjggcaa
open Go Go.Abs
set_option linter.unusedVariables false
set_option linter.unusedSectionVars false
set_option linter.unusedSimpArgs false
set_option maxRecDepth 100000
/-! mates: the program -/
theorem lfT_pl {N : Nat} {t : List Int} (h1 : 1 ≤ N) (h8 : N ≤ 8) : (∀ L ∈ lfT N t N, ∀ p ∈ L, p.length = 10) ∧ ∀ L ∈ lfT N t N, L.length ≤ 1000000 := by
  have key : ∀ L ∈ lfT N t N, ∃ k, L = firstB (trA N t) k := fun L hL => by
    obtain ⟨k, hk, e⟩ := List.getElem_of_mem hL
    rw [lfT_len] at hk
    have := lfT_get (t := t) h1 h8 hk
    rw [List.getD_eq_getElem?_getD, List.getElem?_eq_getElem (by rw [lfT_len]; exact hk)] at this
    exact ⟨k, e.symm.trans this⟩
  refine ⟨fun L hL p hp => ?_, fun L hL => ?_⟩
  · obtain ⟨k, rfl⟩ := key L hL
    exact (trA_pln h8 p (List.mem_filter.1 hp).1).1
  · obtain ⟨k, rfl⟩ := key L hL
    have := trA_len (t := t) h8
    exact Nat.le_trans (List.length_filter_le _ _) (by omega)
theorem tkL_congr {N : Nat} {rec rec' : List (List Int) → Nat → TkR} (h : ∀ tk r, rec tk r = rec' tk r) {tk : List (List Int)} : ∀ {P : List (List Int)} {r : Nat}, tkL N rec tk P r = tkL N rec' tk P r := by
  have : rec = rec' := by funext tk r; exact h tk r
  subst this; intros; rfl
theorem tkA_congr {N : Nat} {B B' : Nat → List (List Int)} (h : ∀ k, k < N → B k = B' k) : ∀ {d} {tk : List (List Int)} {r : Nat}, d ≤ N → tkA N B d tk r = tkA N B' d tk r
  | 0, _, _, _ => rfl
  | d + 1, tk, r, hd => by
    rw [tkA, tkA, h _ (by omega)]
    exact tkL_congr fun tk r => tkA_congr h (by omega)
theorem mtR_lf {N : Nat} {t : List Int} (h1 : 1 ≤ N) (h8 : N ≤ 8) : tkA N (fun k => (lfT N t N).getD k []) N [] 0 = mtR N t := tkA_congr (fun k hk => lfT_get h1 h8 hk) (Nat.le_refl N)
theorem assoc_ne {p : Abs.Id} {b : Blk} {l : Loc} {a k : Nat} (h : p.1 ≠ a) : assoc ((p, b) :: l) a k = assoc l a k := by rw [assoc, if_neg (fun e => h e.1)]
theorem implMate_ok (n : Int) (t : List Int) (ht : Bytes 100 t) : ACalls Try.prog 20 [.agg (sqS n t)] [] (fun v ms ns => v = mtAV n t ∧ ms = [] ∧ ns = []) := by
  unfold mtAV
  refine acalls_of_body mix Try.func20 rfl fok20 (Nat.le_of_ble_eq_true rfl) ?_
  unfold abody
  simp only [absE, absL, absF, reduceCtorEq, ↓reduceIte, Nat.reduceEqDiff, Nat.reduceAdd, Nat.reduceLT, Nat.reduceMul, Nat.reduceSub, Nat.reduceLeDiff, Int.reduceLT, Int.reduceLE, Int.reduceEq, Option.isSome_some, implies_true, false_implies, Prod.mk.injEq, ne_eq, not_false_eq_true, not_true_eq_false, ge_iff_le, gt_iff_lt, Int.toNat_natCast, Int.reduceToNat, Int.cast_ofNat_Int, Int.natCast_nonneg, Try.f20]
  refine CallsVia.none (isSquare_ok n t ht) ?_
  rintro _ _ _ ⟨rfl, rfl, rfl⟩
  cases h1 : sqB n t
  · simp only [absE, absL, absF, reduceCtorEq, ↓reduceIte, Nat.reduceEqDiff, Nat.reduceAdd, Nat.reduceLT, Nat.reduceMul, Nat.reduceSub, Nat.reduceLeDiff, Int.reduceLT, Int.reduceLE, Int.reduceEq, Option.isSome_some, implies_true, false_implies, Prod.mk.injEq, ne_eq, not_false_eq_true, not_true_eq_false, ge_iff_le, gt_iff_lt, Int.toNat_natCast, Int.reduceToNat, Int.cast_ofNat_Int, Int.natCast_nonneg, Try.results20]
    exact ⟨[], by simp, by simp, by simp [renV, renVs, renSegs, renSg, h1, renAt]⟩
  · by_cases h2 : 8 < n
    · simp only [absE, absL, absF, reduceCtorEq, ↓reduceIte, Nat.reduceEqDiff, Nat.reduceAdd, Nat.reduceLT, Nat.reduceMul, Nat.reduceSub, Nat.reduceLeDiff, Int.reduceLT, Int.reduceLE, Int.reduceEq, Option.isSome_some, implies_true, false_implies, Prod.mk.injEq, ne_eq, not_false_eq_true, not_true_eq_false, ge_iff_le, gt_iff_lt, Int.toNat_natCast, Int.reduceToNat, Int.cast_ofNat_Int, Int.natCast_nonneg, h2, Try.results20]
      exact ⟨[], by simp, by simp, by simp [renV, renVs, renSegs, renSg, h1, h2, renAt]⟩
    · have hs : SqP n t := sqB_iff.1 h1
      obtain ⟨N, rfl⟩ : ∃ N : Nat, n = N := ⟨n.toNat, by have := hs.1; omega⟩
      have hN1 := hs.pos
      have hN8 : N ≤ 8 := by omega
      have hN := hs.le
      obtain ⟨v0, htr⟩ := transM_ok N t ht hs hN8
      have hfa := mtR_facts (N := N) (t := t) hN8
      have hpl := lfT_pl (t := t) (show 1 ≤ N by exact hN1) hN8
      have hLS : (lfT N t N).length = N := lfT_len
      have hR := mtR_lf (t := t) (show 1 ≤ N by exact hN1) hN8
      simp only [if_true, Int.toNat_natCast, if_neg h2]
      unfold mtO
      have hO : ∀ g, (mtR N t).2.1 = g → grF N (fun i => (i : Int)) (mtR N t).2.1 = grF N (fun i => (i : Int)) g := fun g h => by rw [h]
      generalize lfT N t N = LS at htr hpl hLS hR
      have htk := takeM_ok N t ht hs LS hLS hpl.1 hpl.2 N (Nat.le_refl N) [] 0 0 [] (fun p hp => by cases hp) (by simp) (by omega) ⟨rfl, Nat.le_refl _, rfl⟩ (by omega)
      rw [hR] at htk
      generalize mtR N t = S at htk hfa
      obtain ⟨sc, stk, sr⟩ := S
      simp only at hfa
      simp only [absE, absL, absF, reduceCtorEq, ↓reduceIte, Nat.reduceEqDiff, Nat.reduceAdd, Nat.reduceLT, Nat.reduceMul, Nat.reduceSub, Nat.reduceLeDiff, Int.reduceLT, Int.reduceLE, Int.reduceEq, Option.isSome_some, implies_true, false_implies, Prod.mk.injEq, ne_eq, not_false_eq_true, not_true_eq_false, ge_iff_le, gt_iff_lt, Int.toNat_natCast, Int.reduceToNat, Int.cast_ofNat_Int, Int.natCast_nonneg, h2]
      have e2 := byD_ren (a := 1) (b := 0) (a' := 17) (b' := 0) (LF := LS) (σ := renOut 17 [(13, 0)]) fun i hi => rfl
      have h13 : ¬ (13 : Nat) = 0 := by decide
      refine CallsVia.news [(13, 0)] (by decide) (by simp) (fun σ => blksF_ren) (by simp [Mem.get, assoc]) htr rfl rfl ?_
      intro ups rd hu
      have hz := fun n' => hu n' _ _ (by
        simp only [zipUps, e2, Mem.upd, Mem.put, if_false, h13]
        rfl)
      simp only [hz]
      simp only [absE, absL, absF, reduceCtorEq, ↓reduceIte, Nat.reduceEqDiff, Nat.reduceAdd, Nat.reduceLT, Nat.reduceMul, Nat.reduceSub, Nat.reduceLeDiff, Int.reduceLT, Int.reduceLE, Int.reduceEq, Option.isSome_some, implies_true, false_implies, Prod.mk.injEq, ne_eq, not_false_eq_true, not_true_eq_false, ge_iff_le, gt_iff_lt, Int.toNat_natCast, Int.reduceToNat, Int.cast_ofNat_Int, Int.natCast_nonneg]
      have aN : ∀ b j (L : Loc), b ≠ 17 → assoc (updL 17 0 (blksF LS) L) b j = assoc L b j := fun b j L h => assoc_updL_ne h
      have a1 : ∀ L, assoc (updL 17 0 (blksF LS) L) 1 0 = assoc L 1 0 := fun L => assoc_updL_ne (by decide)
      have a13 : ∀ L, assoc (updL 17 0 (blksF LS) L) 13 0 = assoc L 13 0 := fun L => assoc_updL_ne (by decide)
      have e4 := byD_ren (a := 17) (b := 0) (a' := 0) (b' := 6) (LF := LS) (σ := renIn ([(19, 0), (1, 0), (13, 0), (20, 0), (23, 0), (18, 0)] ++ srcs 17 0 (blksF LS).length)) fun i hi => tailL_in rfl (by simp) hi
      have e3 := byD_ren (a := 0) (b := 6) (a' := 17) (b' := 0) (LF := LS) (σ := renOut 27 ([(19, 0), (1, 0), (13, 0), (20, 0), (23, 0), (18, 0)] ++ srcs 17 0 (blksF LS).length)) fun i hi => tailL_out rfl hi
      simp only [List.cons_append, List.nil_append] at e3 e4
      have h19 : ¬ (19 : Nat) = 0 := by decide
      have h1' : ¬ (1 : Nat) = 0 := by decide
      have h20 : ¬ (20 : Nat) = 0 := by decide
      have h23 : ¬ (23 : Nat) = 0 := by decide
      have h18 : ¬ (18 : Nat) = 0 := by decide
      have h27 : ¬ (27 : Nat) = 0 := by decide
      refine CallsVia.tailL (a := 17) (bf := 6) (E := blksF LS) [(19, 0), (1, 0), (13, 0), (20, 0), (23, 0), (18, 0)] rfl (by decide) (by simp) (by simp) (fun σ => blksF_ren) blksF_live (fun i hi => by
        repeat rw [assoc_ne (by decide)]
        exact assoc_updL_in hi) (by simp [Mem.get, assoc, a1, a13, byD]) htk ?_ ?_ ?_
      · simp [renVs, renV, renAt, renIn, idx]
      · simp only [List.map_cons, List.map_nil, Mem.get, assoc, a1, a13, List.cons_append, List.nil_append]
        simp [e4, cell1_ren, cnt_ren, sqB_ren]
        simp [renBlk, renSegs, renSg, renCaps, renAt, renIn, idx, tkAr, mB]
      · rintro r xs0 ns ⟨rfl, ⟨hs1, rfl, rfl⟩ | ⟨M2, F2, hF2, hM2, rfl, rfl⟩⟩ hx0 ups' rd' hu'
        · have hz' := fun n' => hu' n' _ _ (by
            simp only [zipUps, tkAr, cell1_ren, cnt_ren, sqB_ren, e3, mB_ren, ren_dead, renAt, renCaps, renOut, List.cons_append, List.nil_append, List.getElem?_cons_zero, List.getElem?_cons_succ, Mem.upd, Mem.put, if_true, if_false, h19, h1', h20, h23, h18, h13]
            rfl)
          simp only [newUps, Mem.upd] at hz'
          simp only [hz']
          have hsc : ¬ sc = 0 := fun h0 => by
            obtain ⟨_, hl⟩ := hfa.2.2.2 h0
            have hs2 : stk = [] := hs1
            rw [hs2] at hl; simp at hl; omega
          have hsi : ¬ (sc : Int) = 0 := by omega
          simp only [absE, absL, absF, reduceCtorEq, ↓reduceIte, Nat.reduceEqDiff, Nat.reduceAdd, Nat.reduceLT, Nat.reduceMul, Nat.reduceSub, Nat.reduceLeDiff, Int.reduceLT, Int.reduceLE, Int.reduceEq, Option.isSome_some, implies_true, false_implies, Prod.mk.injEq, ne_eq, not_false_eq_true, not_true_eq_false, ge_iff_le, gt_iff_lt, Int.toNat_natCast, Int.reduceToNat, Int.cast_ofNat_Int, Int.natCast_nonneg, hsi, if_neg hsc, aN, Try.results20]
          exact ⟨[], by simp, by simp, by simp [renV, renVs, renSegs, renSg, hsc], by simp, by simp⟩
        · have hz' := fun n' => hu' n' _ _ (by
            simp only [zipUps, tkAr, cell1_ren, cnt_ren, sqB_ren, e3, mB_ren, ren_dead, renAt, renCaps, renOut, Nat.one_ne_zero, List.cons_append, List.nil_append, List.getElem?_cons_zero, List.getElem?_cons_succ, Mem.upd, Mem.put, if_true, if_false, h19, h1', h20, h23, h18, h13]
            rfl)
          simp only [newUps, Mem.upd, Mem.put, h27, if_false, mB_ren] at hz'
          simp only [hz']
          by_cases hsc : sc = 0
          · subst hsc
            obtain ⟨hk, hl⟩ := hfa.2.2.2 rfl
            simp only [absE, absL, absF, reduceCtorEq, ↓reduceIte, Nat.reduceEqDiff, Nat.reduceAdd, Nat.reduceLT, Nat.reduceMul, Nat.reduceSub, Nat.reduceLeDiff, Int.reduceLT, Int.reduceLE, Int.reduceEq, Option.isSome_some, implies_true, false_implies, Prod.mk.injEq, ne_eq, not_false_eq_true, not_true_eq_false, ge_iff_le, gt_iff_lt, Int.toNat_natCast, Int.reduceToNat, Int.cast_ofNat_Int, Int.natCast_nonneg, aN]
            rw [hl]
            simp only [if_true]
            refine awpLoop.intro (fun k : Nat => [(1, .ref (.ptr 1 0 0 0)), (2, .ref (.ptr 2 0 0 0)), (9, .ref (.ptr 34 0 0 0)), (39, .ref (.sl 27 0 0 0 N 10)), (40, .i .i64 N), (41, .i .i64 k)]) (fun k => ⟨[], [((1, 0), .lv true (sqS N t)), ((2, 0), .lv true [(0, .ints .i64 1 [0]), (1, .ints .u8 100 (List.replicate 100 0))]), ((27, 0), mB M2 F2), ((34, 0), .lv true [(0, .ints .i64 1 [(N : Int)]), (1, .ints .u8 100 (grF N (fun i => (i : Int)) (stk.take k)))])], 60⟩) (fun k => k ≤ N) (fun k => N - k) 0 (by omega) ⟨[((1,0),(1,0)), ((2,0),(2,0)), ((27,0),(27,0)), ((34,0),(34,0))], rfl, ?_, ?_⟩ ?_
            · simp [wkEnv, lk, renV, renAt, renTo]
            · simp [wkMem, wkLoc, Mem.get, assoc, aN, mB, renBlk, renSegs, renSg, renAt, renTo, grF]
            · intro k hk'
              by_cases h : (k : Int) < N
              · have hkN : k < N := by omega
                have w := wrap_i64s (show k < 2 ^ 62 by omega)
                have hpm : stk.getD k [] ∈ stk := getD_mem (by omega)
                have hplN := hk.pl _ hpm
                have hle2 := hF2.le
                simp only at hle2
                have v2 : 0 + k * 10 + 10 ≤ M2 * 10 := by omega
                have v3 : 0 + k * 10 < M2 * 10 := by omega
                have kp : (F2.drop (0 + k * 10)).take 10 = stk.getD k [] := by rw [Nat.zero_add]; exact hF2.get (fun q hq => (hk.pl q hq).1) (by simp only; omega)
                have hgt := grF_take (N := N) (f := fun i => (i : Int)) (tk := stk) (k := k) (by omega)
                generalize hp : stk.getD k [] = p at hpm hplN kp hgt
                unfold mB
                simp only [absE, absL, absF, reduceCtorEq, ↓reduceIte, Nat.reduceEqDiff, Nat.reduceAdd, Nat.reduceLT, Nat.reduceMul, Nat.reduceSub, Nat.reduceLeDiff, Int.reduceLT, Int.reduceLE, Int.reduceEq, Option.isSome_some, implies_true, false_implies, Prod.mk.injEq, ne_eq, not_false_eq_true, not_true_eq_false, ge_iff_le, gt_iff_lt, Int.toNat_natCast, Int.reduceToNat, Int.cast_ofNat_Int, Int.natCast_nonneg, h, v2, v3, kp]
                refine ite_m (fun h10 hy => ?_) (fun h10 => by omega) ?_
                · have e : F2 = p := by
                    rw [← kp, show 0 + k * 10 = 0 by omega, List.drop_zero, List.take_of_length_le (by rw [hF2.len]; omega)]
                  rw [h10, e] at hy ⊢
                  exact ⟨by omega, rfl, by rw [if_pos rfl]; exact hy⟩
                · refine CallsVia.none (elements_ok N t hN) ?_
                  rintro _ _ _ ⟨rfl, rfl, rfl⟩
                  simp only [absE, absL, absF, reduceCtorEq, ↓reduceIte, Nat.reduceEqDiff, Nat.reduceAdd, Nat.reduceLT, Nat.reduceMul, Nat.reduceSub, Nat.reduceLeDiff, Int.reduceLT, Int.reduceLE, Int.reduceEq, Option.isSome_some, implies_true, false_implies, Prod.mk.injEq, ne_eq, not_false_eq_true, not_true_eq_false, ge_iff_le, gt_iff_lt, Int.toNat_natCast, Int.reduceToNat, Int.cast_ofNat_Int, Int.natCast_nonneg]
                  generalize hg : grF N (fun i => (i : Int)) (stk.take k) = g at hgt
                  refine awpLoop.intro (fun x : Nat => [(1, .ref (.ptr 1 0 0 0)), (2, .ref (.ptr 2 0 0 0)), (9, .ref (.ptr 34 0 0 0)), (10, .i .i64 k), (11, .ref (.ptr 64 0 0 0)), (39, .ref (.sl 27 0 0 0 N 10)), (40, .i .i64 N), (41, .i .i64 k), (47, .ref (.sl 68 0 0 0 N 1)), (48, .i .i64 N), (49, .i .i64 x)]) (fun x => ⟨[], [((1, 0), .lv true (sqS N t)), ((2, 0), .lv true [(0, .ints .i64 1 [0]), (1, .ints .u8 100 (List.replicate 100 0))]), ((27, 0), mB M2 F2), ((34, 0), .lv true [(0, .ints .i64 1 [(N : Int)]), (1, .ints .u8 100 (mkA p k g x))]), ((64, 0), .lv true (plS p)), ((68, 0), .lv true [(0, .ints .u8 N (bytesTo N))])], 90⟩) (fun x => x ≤ N) (fun x => N - x) 0 (by omega) ⟨[((1,0),(1,0)), ((2,0),(2,0)), ((27,0),(27,0)), ((34,0),(34,0)), ((64,0),(64,0)), ((68,0),(68,0))], rfl, ?_, ?_⟩ ?_
                  · simp [wkEnv, lk, renV, renAt, renTo]
                  · simp [wkMem, wkLoc, Mem.get, assoc, mB, renBlk, renSegs, renSg, renAt, renTo, mkA]
                  · intro x hx
                    by_cases h' : (x : Int) < N
                    · have hxN : x < N := by omega
                      have w' := wrap_i64s (show x < 2 ^ 62 by omega)
                      obtain ⟨y, hy, ey⟩ := hplN.2 x hxN
                      have b1 : (bytesTo N).getD (0 + x * 1) 0 = (x : Int) := by rw [Nat.zero_add, Nat.mul_one]; exact bytesTo_get (by omega)
                      have v4 : 0 + x * 1 < N := by omega
                      have x10 : (x : Int) < 10 := by omega
                      have y10 : (y : Int) < 10 := by omega
                      have v5 : 0 + x * 1 < 10 := by omega
                      have pe : p.getD (0 + x * 1) 0 = (y : Int) := by rw [Nat.zero_add, Nat.mul_one]; exact ey
                      have gi : 0 + x * 10 + y * 1 < 100 := by omega
                      have wk8 := wrap_u8n (show k < 256 by omega)
                      have es : (mkA p k g x).set (0 + x * 10 + y * 1) (k : Int) = mkA p k g (x + 1) := by rw [mkA, ey, Nat.zero_add, Nat.mul_one]; rfl
                      simp only [absE, absL, absF, reduceCtorEq, ↓reduceIte, Nat.reduceEqDiff, Nat.reduceAdd, Nat.reduceLT, Nat.reduceMul, Nat.reduceSub, Nat.reduceLeDiff, Int.reduceLT, Int.reduceLE, Int.reduceEq, Option.isSome_some, implies_true, false_implies, Prod.mk.injEq, ne_eq, not_false_eq_true, not_true_eq_false, ge_iff_le, gt_iff_lt, Int.toNat_natCast, Int.reduceToNat, Int.cast_ofNat_Int, Int.natCast_nonneg, h', b1, v4, x10, y10, v5, pe, gi, wk8, es]
                      refine And.intro (by omega) ?_
                      refine LoopNext.intro (x + 1) (by omega) (by omega) ⟨[((1,0),(1,0)), ((2,0),(2,0)), ((27,0),(27,0)), ((34,0),(34,0)), ((64,0),(64,0)), ((68,0),(68,0))], rfl, ?_, ?_⟩
                      · simp [wkEnv, lk, renV, renAt, renTo, w']
                      · simp [wkMem, wkLoc, Mem.get, assoc, mB, renBlk, renSegs, renSg, renAt, renTo]
                    · obtain rfl : N = x := by omega
                      simp only [absE, absL, absF, reduceCtorEq, ↓reduceIte, Nat.reduceEqDiff, Nat.reduceAdd, Nat.reduceLT, Nat.reduceMul, Nat.reduceSub, Nat.reduceLeDiff, Int.reduceLT, Int.reduceLE, Int.reduceEq, Option.isSome_some, implies_true, false_implies, Prod.mk.injEq, ne_eq, not_false_eq_true, not_true_eq_false, ge_iff_le, gt_iff_lt, Int.toNat_natCast, Int.reduceToNat, Int.cast_ofNat_Int, Int.natCast_nonneg, h']
                      refine LoopNext.intro (k + 1) (by omega) (by omega) ⟨[((1,0),(1,0)), ((2,0),(2,0)), ((27,0),(27,0)), ((34,0),(34,0))], rfl, ?_, ?_⟩
                      · simp [wkEnv, lk, renV, renAt, renTo, w]
                      · simp [wkMem, wkLoc, Mem.get, assoc, mB, renBlk, renSegs, renSg, renAt, renTo, hgt]
              · obtain rfl : N = k := by omega
                have et : stk.take N = stk := List.take_of_length_le (by omega)
                simp only [absE, absL, absF, reduceCtorEq, ↓reduceIte, Nat.reduceEqDiff, Nat.reduceAdd, Nat.reduceLT, Nat.reduceMul, Nat.reduceSub, Nat.reduceLeDiff, Int.reduceLT, Int.reduceLE, Int.reduceEq, Option.isSome_some, implies_true, false_implies, Prod.mk.injEq, ne_eq, not_false_eq_true, not_true_eq_false, ge_iff_le, gt_iff_lt, Int.toNat_natCast, Int.reduceToNat, Int.cast_ofNat_Int, Int.natCast_nonneg, h, Try.results20]
                exact ⟨[], by simp, by simp, by simp [renV, renVs, renSegs, renSg, et], by simp, by simp⟩
          · have hsi : ¬ (sc : Int) = 0 := by omega
            simp only [absE, absL, absF, reduceCtorEq, ↓reduceIte, Nat.reduceEqDiff, Nat.reduceAdd, Nat.reduceLT, Nat.reduceMul, Nat.reduceSub, Nat.reduceLeDiff, Int.reduceLT, Int.reduceLE, Int.reduceEq, Option.isSome_some, implies_true, false_implies, Prod.mk.injEq, ne_eq, not_false_eq_true, not_true_eq_false, ge_iff_le, gt_iff_lt, Int.toNat_natCast, Int.reduceToNat, Int.cast_ofNat_Int, Int.natCast_nonneg, hsi, if_neg hsc, aN, Try.results20]
            exact ⟨[], by simp, by simp, by simp [renV, renVs, renSegs, renSg, hsc], by simp, by simp⟩
theorem mtO_len {N : Nat} {t : List Int} : (mtO N t).length = 100 := grF_len
theorem mate_form (n : Int) (t : List Int) (ht : Bytes 100 t) : ∃ k s e, s.length = 100 ∧ mtAV n t = .tup [.agg (sqS k s), .i .i64 e] := by
  unfold mtAV
  split
  · split
    · exact ⟨_, _, _, by simp, rfl⟩
    · split
      · exact ⟨_, _, _, mtO_len, rfl⟩
      · exact ⟨_, _, _, by simp, rfl⟩
  · exact ⟨_, _, _, by simp, rfl⟩

end Go.Proofs.Ytjmenocghjggcaa
