/-
Contracts of functions of the given program, by the abstract walk.
-/
import Derived.Test.YtjmenocghjggcaaAbsY
import Derived.Test.YtjmenocghjggcaaBu
namespace Go.Proofs.Ytjmenocghjggcaa
open Go Go.Abs
set_option linter.unusedVariables false
set_option linter.unusedSectionVars false
set_option linter.unusedSimpArgs false
set_option maxRecDepth 100000
/-! look -/
set_option maxHeartbeats 4000000 in
theorem lookW_step {N : Nat} (hN : N ≤ 10) {L0 : List Int → Prop} {f : Nat} (ihl : LookW N L0 f) (iha : AddW N L0 f) : LookW N L0 (f + 1) := by
  intro k p st hB
  have hk := hB.kN
  obtain ⟨hpv, hpf⟩ := gen_keeps hN (by omega) (hB.ok.mv k) hB.gen
  have hj := hpv.lt hN hk
  have k10 : (k : Int) < 10 := by omega
  have j10 : (pl p k : Int) < 10 := by omega
  have v1 : 0 + k * 1 < 10 := by omega
  have e1 : p.getD (0 + k * 1) 0 = (pl p k : Int) := by rw [Nat.zero_add, Nat.mul_one]; exact hpv.by_.place k
  have v2 : 0 + k * 10 + pl p k * 1 < 100 := by omega
  have v2' : 0 + k * 10 + pl p k * 1 ≤ 99 := by omega
  have eh : st.h.getD (0 + k * 10 + pl p k * 1) false = hasG st k (pl p k) := rfl
  have v3 : 0 + k * 100 + pl p k * 10 + 10 ≤ 1000 := by omega
  have eb : (st.b.drop (0 + k * 100 + pl p k * 10)).take 10 = byG st k (pl p k) := rfl
  have wk := wrap_i64s (show k < 2 ^ 62 by omega)
  have hpl := hpv.by_.len
  have eX : grX N st.gl st = .lv true [(0, .ints .i64 1 [(N : Int)]), (1, .cells 10 (cellsN (outN st.gl st.gl) st.gl)), (11, .ints .u8 1000 st.b), (1011, .bools 100 st.h)] :: outE st.gl st.gl := rfl
  have hent : ∀ (loc : LocB) (n : Nat), 0 < n → Body st.gl ⟨.lv true [(0, .ints .i64 1 [(N : Int)]), (1, .cells 10 (cellsN (outN st.gl st.gl) st.gl)), (11, .ints .u8 1000 st.b), (1011, .bools 100 st.h)] :: outE st.gl st.gl, loc, n⟩ (outN st.gl st.gl) N st := fun loc n hn => Body.entry hn
  rw [goF_look, eX]
  cases hh : hasG st k (pl p k)
  · rw [if_neg (by simp)]
    obtain ⟨q1, q2, q3, q4, q5, q6, q7, q8, q9⟩ := hB.put hN hh
    have hg1 : Gen N (InL ((putG k (pl p k) p st).gl k)) p := hB.gen
    have hlk := hB.lk
    refine acalls_of_body mix Try.func106 rfl fok106 (Nat.le_of_ble_eq_true rfl) ?_
    unfold abody
    simp only [absE, absL, absF, reduceCtorEq, ↓reduceIte, Nat.reduceEqDiff, Nat.reduceAdd, Nat.reduceLT, Nat.reduceMul, Nat.reduceSub, Nat.reduceLeDiff, Int.reduceLT, Int.reduceLE, Int.reduceEq, Option.isSome_some, implies_true, false_implies, Prod.mk.injEq, ne_eq, not_false_eq_true, not_true_eq_false, ge_iff_le, gt_iff_lt, Int.toNat_natCast, Int.reduceToNat, Int.cast_ofNat_Int, Int.natCast_nonneg, k10, j10, v1, e1, v2, v2', eh, hh, v3, Try.f106]
    repeat first | refine And.intro (chk_g rfl (by decide +kernel)) ?_ | refine And.intro (by omega) ?_
    have hb0 : Body st.gl ⟨.lv true [(0, .ints .i64 1 [(N : Int)]), (1, .cells 10 (cellsN (outN st.gl st.gl) st.gl)), (11, .ints .u8 1000 (spl st.b (0 + k * 100 + pl p k * 10) p)), (1011, .bools 100 (st.h.set (0 + k * 10 + pl p k * 1) true))] :: outE st.gl st.gl, [((1, 0), .lv true (plS p))], 32⟩ (outN st.gl st.gl) N (putG k (pl p k) p st) := Body.entry (st := putG k (pl p k) p st) (by decide)
    obtain ⟨w1, w2⟩ := hb0.weak (x := 1) (t := 2) (n0 := 32) (bx := .lv true (plS p)) (by decide) (by decide) (by decide) (by decide) (by decide) rfl (fun σ => by simp [renBlk, renSegs, renSg]) (fun i hi hc => by rw [show chB st.gl (putG k (pl p k) p st).gl i = false from chB_self] at hc; cases hc)
    refine awpLoop.intro (fun i : Nat => [(0, .ref (.ptr 0 0 0 0)), (1, .i .i64 k), (5, .ref (.ptr 1 0 0 0)), (8, .i .i64 i)]) (fun i => ⟨grB N (canN 2 st.gl (lookFold N f k p ((st.gl k).take i) (putG k (pl p k) p st)).gl) (lookFold N f k p ((st.gl k).take i) (putG k (pl p k) p st)) :: outE st.gl (lookFold N f k p ((st.gl k).take i) (putG k (pl p k) p st)).gl, ((1, 0), .lv true (plS p)) :: bagN 2 st.gl (lookFold N f k p ((st.gl k).take i) (putG k (pl p k) p st)).gl, 32⟩)
      (fun i => i ≤ (st.gl k).length) (fun i => (st.gl k).length - i) 0 (by omega) ⟨_, w1, ?_, w2 _⟩ ?_
    · simp [wkEnv, lk, renV, renAt, renTo]
    · intro i hi
      obtain ⟨⟨g1, _⟩, g2⟩ := look_fold hN (goF_ok hN (L0 := L0) f).1 hk q1 q2 hg1 q6 q7 hlk ((st.gl k).take i) (fun q hq => List.mem_of_mem_take hq)
      have gfin : i = (st.gl k).length → lookFold N f k p ((st.gl k).take i) (putG k (pl p k) p st) = lookFold N f k p (st.gl k) (putG k (pl p k) p st) := fun e => by rw [List.take_of_length_le (by omega)]
      have gnx : ∀ h : i < (st.gl k).length, lookFold N f k p ((st.gl k).take (i + 1)) (putG k (pl p k) p st) = goF N f false k (th N p ((st.gl k).getD i [])) (lookFold N f k p ((st.gl k).take i) (putG k (pl p k) p st)) := fun h => by
        rw [List.take_add_one, List.getElem?_eq_getElem h, Option.toList_some, lookFold_snoc, List.getD_eq_getElem?_getD, List.getElem?_eq_getElem h]; rfl
      generalize lookFold N f k p ((st.gl k).take i) (putG k (pl p k) p st) = s at g1 g2 gfin gnx ⊢
      have hp2 : Pre st.gl s.gl := g1.pre
      have hsame : s.gl k = st.gl k := g1.same k (Nat.le_refl k)
      have hck : chB st.gl s.gl k = false := by unfold chB; rw [hsame]; simp
      have hcan : Body st.gl ⟨grB N (canN 2 st.gl s.gl) s :: outE st.gl s.gl, ((1, 0), .lv true (plS p)) :: bagN 2 st.gl s.gl, 32⟩ (canN 2 st.gl s.gl) N s := Body.can hp2 (by decide) (by decide) (by decide)
      have hcx : ∀ i, i < 10 → chB st.gl s.gl i = true → canN 2 st.gl s.gl i ≠ (1, 0) := fun i hi hc e => by
        unfold canN at e; rw [hc, if_pos rfl] at e
        have := congrArg Prod.fst e
        simp only at this; omega
      have ecell : (cellsN (canN 2 st.gl s.gl) s.gl).getD (0 + k * 1) .top = if neB st.gl k = true then .sl 0 (1 + rkF (neB st.gl) k) 0 0 (st.gl k).length 10 else .nils := by
        rw [Nat.zero_add, Nat.mul_one, cellsN_get (by omega)]
        have e2 : canN 2 st.gl s.gl k = (0, 1 + rkF (neB st.gl) k) := by unfold canN; rw [hck, if_neg (by simp)]
        have e3 : neB s.gl k = neB st.gl k := by unfold neB; rw [hsame]
        rw [e2, e3, hsame]
      have eG : ∀ nm, grB N nm s = .lv true [(0, .ints .i64 1 [(N : Int)]), (1, .cells 10 (cellsN nm s.gl)), (11, .ints .u8 1000 s.b), (1011, .bools 100 s.h)] := fun _ => rfl
      cases hne : neB st.gl k
      · rw [hne, if_neg (by simp)] at ecell
        have hl0 : (st.gl k).length = 0 := by unfold neB at hne; have := of_decide_eq_false hne; omega
        have hi0 : i = (st.gl k).length := by omega
        have i0 : ¬ ((i : Nat) : Int) < 0 := by omega
        simp only [absE, absL, absF, reduceCtorEq, ↓reduceIte, Nat.reduceEqDiff, Nat.reduceAdd, Nat.reduceLT, Nat.reduceMul, Nat.reduceSub, Nat.reduceLeDiff, Int.reduceLT, Int.reduceLE, Int.reduceEq, Option.isSome_some, implies_true, false_implies, Prod.mk.injEq, ne_eq, not_false_eq_true, not_true_eq_false, ge_iff_le, gt_iff_lt, Int.toNat_natCast, Int.reduceToNat, Int.cast_ofNat_Int, Int.natCast_nonneg, eG, k10, v1, ecell, i0, Try.results106]
        rw [← gfin hi0]
        exact (hcan.at (by decide)).fin
      · rw [hne, if_pos rfl] at ecell
        by_cases h : (i : Int) < (st.gl k).length
        · have hi2 : i < (st.gl k).length := by omega
          have w := wrap_i64s (show i < 2 ^ 62 by omega)
          have eg : (outE st.gl s.gl).getD (rkF (neB st.gl) k) .dead = .lv true [(0, .ints .u8 ((st.gl k).length * 10) (st.gl k).flatten)] := by
            rw [outE_get (by omega) hne, hck]; rfl
          have gs := gnx hi2
          simp only [absE, absL, absF, reduceCtorEq, ↓reduceIte, Nat.reduceEqDiff, Nat.reduceAdd, Nat.reduceLT, Nat.reduceMul, Nat.reduceSub, Nat.reduceLeDiff, Int.reduceLT, Int.reduceLE, Int.reduceEq, Option.isSome_some, implies_true, false_implies, Prod.mk.injEq, ne_eq, not_false_eq_true, not_true_eq_false, ge_iff_le, gt_iff_lt, Int.toNat_natCast, Int.reduceToNat, Int.cast_ofNat_Int, Int.natCast_nonneg, eG, k10, v1, ecell, h, eg, getD_args]
          have hqm := getD_mem hi2
          have gL := g2 _ hqm
          have hM : Maps (st.gl k) := fun q hq => (hB.ok.mv k q hq).1.by_.len
          have hfg := flat_get hM hi2
          have hqv := (hB.ok.mv k _ hqm).1
          generalize (st.gl k).getD i [] = q at hqm gL hfg hqv gs
          have v4 : 0 + i * 10 + 10 ≤ (st.gl k).length * 10 := by omega
          have kp : ((st.gl k).flatten.drop (0 + i * 10)).take 10 = q := by rw [Nat.zero_add]; exact hfg
          simp only [kp, v4]
          refine ite_b (fun h10 hy => ?_) (fun h10 => by omega) ?_
          · have e2 : (st.gl k).flatten = q := by rw [← kp, show 0 + i * 10 = 0 by omega, List.drop_zero, List.take_of_length_le (by rw [flat_len hM]; omega)]
            rw [h10, e2]
            exact ⟨by omega, hy.2⟩
          · obtain ⟨hGr, _⟩ := (goF_ok hN (L0 := L0) f).1 k _ s gL
            refine And.intro trivial ?_
            refine CallsX.none (implThen_ok N p q hpv.by_ hqv.by_ hN (fun x hx => by have := hpv.lt hN hx; omega)) ?_
            have fold : mapL (fun x => pl q (pl p x)) N = th N p q := rfl
            simp only [absE, absL, absF, reduceCtorEq, ↓reduceIte, Nat.reduceEqDiff, Nat.reduceAdd, Nat.reduceLT, Nat.reduceMul, Nat.reduceSub, Nat.reduceLeDiff, Int.reduceLT, Int.reduceLE, Int.reduceEq, Option.isSome_some, implies_true, false_implies, Prod.mk.injEq, ne_eq, not_false_eq_true, not_true_eq_false, ge_iff_le, gt_iff_lt, Int.toNat_natCast, Int.reduceToNat, Int.cast_ofNat_Int, Int.natCast_nonneg, fold]
            refine Body.callX (gl0 := st.gl) (nm := canN 2 st.gl s.gl) (N := N) (st := s) (st' := goF N f false k (th N p q) s) (hcan.at (by decide)) hGr.pre (ihl k _ s gL) (by simp [renVs, renV, renAt, renIn, idsF, idx, renSegs, renSg]) (fun σ => by simp [renV, renVs]) ?_
            intro ups loc' hu hb' hl'
            refine And.intro (chk_g (l := [(16, true), (15, false), (14, true), (13, true), (12, true), (11, false), (10, true), (9, true), (8, false), (7, true), (6, true), (5, true), (4, true), (3, true), (2, false), (1, true), (0, true)]) rfl (by decide +kernel)) ?_
            have hcx' : ∀ i, i < 10 → chB st.gl (goF N f false k (th N p q) s).gl i = true → nmC 58 (canN 2 st.gl s.gl) s.gl (goF N f false k (th N p q) s).gl i ≠ (1, 0) := fun i hi hc e => by
              unfold nmC at e
              split at e
              · have := congrArg Prod.fst e
                simp only at this; omega
              · rename_i hc2
                exact hcx i hi (((hp2.ch hGr.pre).1 hc).resolve_right hc2) e
            have hl1' : assoc loc' 1 0 = .lv true (plS p) := hl' (1, 0) (by decide) (by decide) (fun i hi hc e => hcx i hi hc e.symm)
            obtain ⟨u1, u2⟩ := hb'.weak (x := 1) (t := 2) (n0 := 32) (by decide) (by decide) (by decide) (by decide) (by decide) hl1' (fun σ => by simp [renBlk, renSegs, renSg]) hcx'
            simp only [absE, absL, absF, reduceCtorEq, ↓reduceIte, Nat.reduceEqDiff, Nat.reduceAdd, Nat.reduceLT, Nat.reduceMul, Nat.reduceSub, Nat.reduceLeDiff, Int.reduceLT, Int.reduceLE, Int.reduceEq, Option.isSome_some, implies_true, false_implies, Prod.mk.injEq, ne_eq, not_false_eq_true, not_true_eq_false, ge_iff_le, gt_iff_lt, Int.toNat_natCast, Int.reduceToNat, Int.cast_ofNat_Int, Int.natCast_nonneg, hu]
            refine LoopNext.intro (i + 1) (by omega) (by omega) ⟨_, u1, ?_, ?_⟩
            · simp [wkEnv, lk, renV, renAt, renTo, w]
            · rw [gs]; exact u2 _
        · simp only [absE, absL, absF, reduceCtorEq, ↓reduceIte, Nat.reduceEqDiff, Nat.reduceAdd, Nat.reduceLT, Nat.reduceMul, Nat.reduceSub, Nat.reduceLeDiff, Int.reduceLT, Int.reduceLE, Int.reduceEq, Option.isSome_some, implies_true, false_implies, Prod.mk.injEq, ne_eq, not_false_eq_true, not_true_eq_false, ge_iff_le, gt_iff_lt, Int.toNat_natCast, Int.reduceToNat, Int.cast_ofNat_Int, Int.natCast_nonneg, eG, k10, v1, ecell, h, Try.results106]
          rw [← gfin (by omega)]
          exact (hcan.at (by decide)).fin
  · rw [if_pos rfl]
    obtain ⟨r1, r2, r3⟩ := hB.rest hN hh
    have hb := (hB.ok.by_ hN hk (by omega) hh).1
    refine acalls_of_body mix Try.func106 rfl fok106 (Nat.le_of_ble_eq_true rfl) ?_
    unfold abody
    simp only [absE, absL, absF, reduceCtorEq, ↓reduceIte, Nat.reduceEqDiff, Nat.reduceAdd, Nat.reduceLT, Nat.reduceMul, Nat.reduceSub, Nat.reduceLeDiff, Int.reduceLT, Int.reduceLE, Int.reduceEq, Option.isSome_some, implies_true, false_implies, Prod.mk.injEq, ne_eq, not_false_eq_true, not_true_eq_false, ge_iff_le, gt_iff_lt, Int.toNat_natCast, Int.reduceToNat, Int.cast_ofNat_Int, Int.natCast_nonneg, k10, j10, v1, e1, v2, eh, hh, v3, eb, Try.f106]
    refine CallsX.none (implBack_ok N (byG st k (pl p k)) hb.by_ hN (fun x hx => by have := hb.lt hN hx; omega)) ?_
    simp only [absE, absL, absF, reduceCtorEq, ↓reduceIte, Nat.reduceEqDiff, Nat.reduceAdd, Nat.reduceLT, Nat.reduceMul, Nat.reduceSub, Nat.reduceLeDiff, Int.reduceLT, Int.reduceLE, Int.reduceEq, Option.isSome_some, implies_true, false_implies, Prod.mk.injEq, ne_eq, not_false_eq_true, not_true_eq_false, ge_iff_le, gt_iff_lt, Int.toNat_natCast, Int.reduceToNat, Int.cast_ofNat_Int, Int.natCast_nonneg]
    repeat refine And.intro (by decide +kernel) ?_
    refine CallsX.none (implThen_ok N p (bkL (pl (byG st k (pl p k))) N) hpv.by_ (hb.bk hN).by_ hN (fun x hx => by have := hpv.lt hN hx; omega)) ?_
    have fold : mapL (fun x => pl (bkL (pl (byG st k (pl p k))) N) (pl p x)) N = th N p (bk N (byG st k (pl p k))) := rfl
    simp only [absE, absL, absF, reduceCtorEq, ↓reduceIte, Nat.reduceEqDiff, Nat.reduceAdd, Nat.reduceLT, Nat.reduceMul, Nat.reduceSub, Nat.reduceLeDiff, Int.reduceLT, Int.reduceLE, Int.reduceEq, Option.isSome_some, implies_true, false_implies, Prod.mk.injEq, ne_eq, not_false_eq_true, not_true_eq_false, ge_iff_le, gt_iff_lt, Int.toNat_natCast, Int.reduceToNat, Int.cast_ofNat_Int, Int.natCast_nonneg, fold]
    repeat refine And.intro (by decide +kernel) ?_
    generalize th N p (bk N (byG st k (pl p k))) = rest at r1 r2 r3 ⊢
    simp only [absE, absL, absF, reduceCtorEq, ↓reduceIte, Nat.reduceEqDiff, Nat.reduceAdd, Nat.reduceLT, Nat.reduceMul, Nat.reduceSub, Nat.reduceLeDiff, Int.reduceLT, Int.reduceLE, Int.reduceEq, Option.isSome_some, implies_true, false_implies, Prod.mk.injEq, ne_eq, not_false_eq_true, not_true_eq_false, ge_iff_le, gt_iff_lt, Int.toNat_natCast, Int.reduceToNat, Int.cast_ofNat_Int, Int.natCast_nonneg, wk]
    refine (hent _ 39 (by decide)).callV (st' := st) Pre.refl (has_okG N hN st hB.ok (k + 1) (by omega) rest r1 r2) (by simp [renVs, renV, renAt, renIn, idsF, idx, renSegs, renSg]) (fun σ => by simp [renV]) ?_
    intro ups loc' hu hb' hl'
    have hl33 : assoc loc' 33 0 = .lv true (plS rest) := hl' (33, 0) (by decide) (by decide) (fun i hi hc => by rw [chB_self] at hc; cases hc)
    have eG : ∀ nm, grB N nm st = .lv true [(0, .ints .i64 1 [(N : Int)]), (1, .cells 10 (cellsN nm st.gl)), (11, .ints .u8 1000 st.b), (1011, .bools 100 st.h)] := fun _ => rfl
    cases hs : sftG N st (k + 1) rest
    · rw [if_neg (by simp)]
      have hA := (goF_ok hN (L0 := L0) f).2 (k + 1) rest st (r3 hs)
      simp only [absE, absL, absF, reduceCtorEq, ↓reduceIte, Nat.reduceEqDiff, Nat.reduceAdd, Nat.reduceLT, Nat.reduceMul, Nat.reduceSub, Nat.reduceLeDiff, Int.reduceLT, Int.reduceLE, Int.reduceEq, Option.isSome_some, implies_true, false_implies, Prod.mk.injEq, ne_eq, not_false_eq_true, not_true_eq_false, ge_iff_le, gt_iff_lt, Int.toNat_natCast, Int.reduceToNat, Int.cast_ofNat_Int, Int.natCast_nonneg, hu, wk, hl33]
      refine (hb'.at (by decide)).callV (st' := goF N f true (k + 1) rest st) hA.pre (iha (k + 1) rest st (r3 hs)) (by simp [renVs, renV, renAt, renIn, idsF, idx, renSegs, renSg]) (fun σ => by simp [renV, renVs]) ?_
      intro ups2 loc2 hu2 hb2 hl2
      simp only [absE, absL, absF, reduceCtorEq, ↓reduceIte, Nat.reduceEqDiff, Nat.reduceAdd, Nat.reduceLT, Nat.reduceMul, Nat.reduceSub, Nat.reduceLeDiff, Int.reduceLT, Int.reduceLE, Int.reduceEq, Option.isSome_some, implies_true, false_implies, Prod.mk.injEq, ne_eq, not_false_eq_true, not_true_eq_false, ge_iff_le, gt_iff_lt, Int.toNat_natCast, Int.reduceToNat, Int.cast_ofNat_Int, Int.natCast_nonneg, hu2, Try.results106]
      exact (hb2.at (by decide)).fin
    · rw [if_pos rfl]
      simp only [absE, absL, absF, reduceCtorEq, ↓reduceIte, Nat.reduceEqDiff, Nat.reduceAdd, Nat.reduceLT, Nat.reduceMul, Nat.reduceSub, Nat.reduceLeDiff, Int.reduceLT, Int.reduceLE, Int.reduceEq, Option.isSome_some, implies_true, false_implies, Prod.mk.injEq, ne_eq, not_false_eq_true, not_true_eq_false, ge_iff_le, gt_iff_lt, Int.toNat_natCast, Int.reduceToNat, Int.cast_ofNat_Int, Int.natCast_nonneg, hu, Try.results106]
      exact (hb'.at (by decide)).fin

end Go.Proofs.Ytjmenocghjggcaa
