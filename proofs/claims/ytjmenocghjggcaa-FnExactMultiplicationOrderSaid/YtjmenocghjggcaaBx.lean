/-
Contracts of functions of the given program, by the abstract walk.
-/
import Derived.Test.YtjmenocghjggcaaAbsY
import Derived.Test.YtjmenocghjggcaaBw
namespace Go.Proofs.Ytjmenocghjggcaa
open Go Go.Abs
set_option linter.unusedVariables false
set_option linter.unusedSectionVars false
set_option linter.unusedSimpArgs false
set_option maxRecDepth 100000
/-! groupOf -/
def grpNs (N : Nat) (st : GS) : List Blk := grB N (fun k => (1, 1 + rkF (neB st.gl) k)) st :: (fl (neB st.gl)).map fun k => plB (st.gl k)
theorem HasGrp.more {args : List Blk} {loc : LocB} {n : Nat} {gid x : Abs.Id} {b : Blk} {nm : Nm} {N : Nat} {st : GS} (h : HasGrp ⟨args, loc, n⟩ gid nm N st) (hx0 : x.1 ≠ 0) (hx : x ≠ gid) (hxn : ∀ k, k < 10 → neB st.gl k = true → x ≠ nm k) : HasGrp ⟨args, (x, b) :: loc, n⟩ gid nm N st := by
  have key : ∀ p : Abs.Id, x ≠ p → (Mem.mk args ((x, b) :: loc) n).get p.1 p.2 = (Mem.mk args loc n).get p.1 p.2 := fun p hp => by
    unfold Mem.get
    split
    · rfl
    · show assoc ((x, b) :: loc) p.1 p.2 = assoc loc p.1 p.2
      rw [assoc, if_neg (fun e => hp (Prod.ext e.1 e.2))]
  exact ⟨(key gid hx).trans h.grp, fun k hk hn => (key (nm k) (hxn k hk hn)).trans (h.nam k hk hn), h.inj, h.ne, h.frg, h.frn⟩
theorem HasGrp.fin {args : List Blk} {loc : LocB} {n g : Nat} {nm : Nm} {N : Nat} {st : GS} (h : HasGrp ⟨args, loc, n⟩ (g, 0) nm N st) (hg : g ≠ 0) (hnz : ∀ k, k < 10 → neB st.gl k = true → (nm k).1 ≠ 0) (hargs : ∀ σ : Ren, args.map (renBlk σ) = args) : Abs.Fin (fun v ms ns => v = .ref (.ptr 1 0 0 0) ∧ ms = args ∧ ns = grpNs N st) ⟨args, loc, n⟩ (.ref (.ptr g 0 0 0)) := by
  refine ⟨idsF (g, 0) nm st.gl, h.nodup, fun p hp => ?_, ?_, hargs _, ?_⟩
  · rcases List.mem_cons.1 hp with rfl | hp
    · exact hg
    · obtain ⟨k, hk, rfl⟩ := List.mem_map.1 hp
      obtain ⟨h1, h2⟩ := fl_mem.1 hk
      exact hnz k h1 h2
  · have e : renFin (idsF (g, 0) nm st.gl) g 0 = some (1, 0) := by
      unfold renFin
      rw [if_neg hg, show idx (idsF (g, 0) nm st.gl) g 0 = some 0 from h.idx0]; rfl
    simp only [renV, renAt, e]
  · unfold grpNs
    have e0 : renBlk (renFin (idsF (g, 0) nm st.gl)) ((Mem.mk args loc n).get (g, 0).1 (g, 0).2) = grB N (fun k => (1, 1 + rkF (neB st.gl) k)) st := by
      rw [h.grp]
      refine grB_ren fun k hk hn => ?_
      unfold renFin
      rw [if_neg (hnz k hk hn), h.idxk hk hn]; rfl
    have e1 : ((fl (neB st.gl)).map nm).map (fun p => renBlk (renFin (idsF (g, 0) nm st.gl)) ((Mem.mk args loc n).get p.1 p.2)) = (fl (neB st.gl)).map fun k => plB (st.gl k) := by
      rw [List.map_map]
      refine List.map_congr_left fun k hk => ?_
      obtain ⟨h1, h2⟩ := fl_mem.1 hk
      show renBlk _ ((Mem.mk args loc n).get (nm k).1 (nm k).2) = _
      rw [h.nam k h1 h2, plB_ren]
    exact (congr (congrArg List.cons e0) e1).symm ▸ rfl
set_option maxHeartbeats 4000000 in
theorem groupOf_ok (N : Nat) (hN : N ≤ 10) (h1N : 1 ≤ N) (L : List (List Int)) (hL : ∀ p ∈ L, Vp N p) (hl : L.length ≤ 1000) :
    ACalls Try.prog 82 [.ref (.sl 0 0 0 0 L.length 10), .i .i64 N] [plB L] (fun v ms ns => v = .ref (.ptr 1 0 0 0) ∧ ms = [plB L] ∧ ns = grpNs N (groupF N L (initF N N))) := by
  refine acalls_of_body mix Try.func82 rfl fok82 (Nat.le_of_ble_eq_true rfl) ?_
  unfold abody
  simp only [absE, absL, absF, reduceCtorEq, ↓reduceIte, Nat.reduceEqDiff, Nat.reduceAdd, Nat.reduceLT, Nat.reduceMul, Nat.reduceSub, Nat.reduceLeDiff, Int.reduceLT, Int.reduceLE, Int.reduceEq, Option.isSome_some, implies_true, false_implies, Prod.mk.injEq, ne_eq, not_false_eq_true, not_true_eq_false, ge_iff_le, gt_iff_lt, Int.toNat_natCast, Int.reduceToNat, Int.cast_ofNat_Int, Int.natCast_nonneg, Try.f82]
  refine awpLoop.intro (fun k : Nat => [(0, .ref (.sl 0 0 0 0 L.length 10)), (1, .i .i64 N), (5, .ref (.ptr 4 0 0 0)), (12, .i .i64 N), (13, .i .i64 k)]) (fun k => ⟨[plB L], [((4, 0), .lv true [(0, .ints .i64 1 [(N : Int)]), (1, .cells 10 (List.replicate 10 .nils)), (11, .ints .u8 1000 (initF N k).b), (1011, .bools 100 (initF N k).h)])], 8⟩)
    (fun k => k ≤ N) (fun k => N - k) 0 (by omega) ⟨[((4,0),(4,0))], rfl, ?_, ?_⟩ ?_
  · simp [wkEnv, lk, renV, renAt, renTo]
  · simp [wkMem, wkLoc, Mem.get, assoc, renBlk, renSegs, renSg, renAt, renTo, plB, initF]
  · intro k hk
    by_cases h : (k : Int) < N
    · have w := wrap_i64s (show k < 2 ^ 62 by omega)
      have k10 : (k : Int) < 10 := by omega
      have v3 : 0 + k * 100 + k * 10 + 10 ≤ 1000 := by omega
      have v2 : 0 + k * 10 + k * 1 ≤ 99 := by omega
      have hidl := (vp_id hN).by_.len
      simp only [absE, absL, absF, reduceCtorEq, ↓reduceIte, Nat.reduceEqDiff, Nat.reduceAdd, Nat.reduceLT, Nat.reduceMul, Nat.reduceSub, Nat.reduceLeDiff, Int.reduceLT, Int.reduceLE, Int.reduceEq, Option.isSome_some, implies_true, false_implies, Prod.mk.injEq, ne_eq, not_false_eq_true, not_true_eq_false, ge_iff_le, gt_iff_lt, Int.toNat_natCast, Int.reduceToNat, Int.cast_ofNat_Int, Int.natCast_nonneg, h]
      refine CallsX.none (implIdentity_ok N hN) ?_
      simp only [absE, absL, absF, reduceCtorEq, ↓reduceIte, Nat.reduceEqDiff, Nat.reduceAdd, Nat.reduceLT, Nat.reduceMul, Nat.reduceSub, Nat.reduceLeDiff, Int.reduceLT, Int.reduceLE, Int.reduceEq, Option.isSome_some, implies_true, false_implies, Prod.mk.injEq, ne_eq, not_false_eq_true, not_true_eq_false, ge_iff_le, gt_iff_lt, Int.toNat_natCast, Int.reduceToNat, Int.cast_ofNat_Int, Int.natCast_nonneg, k10, v3, v2]
      repeat refine And.intro (by decide +kernel) ?_
      refine LoopNext.intro (k + 1) (by omega) (by omega) ⟨[((4,0),(4,0))], rfl, ?_, ?_⟩
      · simp [wkEnv, lk, renV, renAt, renTo, w]
      · simp [wkMem, wkLoc, Mem.get, assoc, renBlk, renSegs, renSg, renAt, renTo, plB, initF, putG]
    · obtain rfl : N = k := by omega
      simp only [absE, absL, absF, reduceCtorEq, ↓reduceIte, Nat.reduceEqDiff, Nat.reduceAdd, Nat.reduceLT, Nat.reduceMul, Nat.reduceSub, Nat.reduceLeDiff, Int.reduceLT, Int.reduceLE, Int.reduceEq, Option.isSome_some, implies_true, false_implies, Prod.mk.injEq, ne_eq, not_false_eq_true, not_true_eq_false, ge_iff_le, gt_iff_lt, Int.toNat_natCast, Int.reduceToNat, Int.cast_ofNat_Int, Int.natCast_nonneg, h]
      have ePl : plB L = .lv true [(0, .ints .u8 (L.length * 10) L.flatten)] := rfl
      have hrenP : ∀ σ : Ren, [plB L].map (renBlk σ) = [plB L] := fun σ => by simp [plB_ren]
      have hgl0 : (initF N N).gl = fun _ => [] := groupF_gl0
      have hno : ∀ k, neB (initF N N).gl k = true → False := fun k hk => by rw [hgl0] at hk; cases hk
      have hg0 : HasGrp ⟨[plB L], [((4, 0), .lv true [(0, .ints .i64 1 [(N : Int)]), (1, .cells 10 (List.replicate 10 .nils)), (11, .ints .u8 1000 (initF N N).b), (1011, .bools 100 (initF N N).h)])], 12⟩ (4, 0) (lcN 2) N (initF N N) := by
        refine ⟨?_, fun k _ hk => (hno k hk).elim, fun i j _ _ hi => (hno i hi).elim, fun k _ hk => (hno k hk).elim, (by show 4 < 12; decide), fun k _ hk => (hno k hk).elim⟩
        have ec : cellsN (lcN 2) (initF N N).gl = List.replicate 10 .nils := by rw [hgl0]; rfl
        show _ = Blk.lv true (grS N (cellsN (lcN 2) (initF N N).gl) (initF N N).b (initF N N).h)
        rw [ec]; rfl
      obtain ⟨w1, w2⟩ := hg0.weak (t := 2) (n0 := 12) (by decide) (by decide) (by decide) (by decide) (by decide) (fun k _ hk => (hno k hk).elim) hrenP
      refine awpLoop.intro (fun i : Nat => [(5, .ref (.ptr 4 0 0 0)), (33, .ref (.sl 0 0 0 0 L.length 10)), (34, .i .i64 L.length), (35, .i .i64 i)]) (fun i => ⟨[plB L], ((4, 0), grB N (lcN 2) (groupF N (L.take i) (initF N N))) :: bagL 2 (groupF N (L.take i) (initF N N)).gl, 12⟩)
        (fun i => i ≤ L.length) (fun i => L.length - i) 0 (by omega) ⟨_, w1, ?_, w2 _⟩ ?_
      · simp [wkEnv, lk, renV, renAt, renTo]
      · intro i hi
        obtain ⟨hA, _⟩ := groupF_ok hN h1N (initF_all hN (L0 := InL L)) (L.take i) (fun p hp => ⟨hL p (List.mem_of_mem_take hp), List.mem_of_mem_take hp⟩)
        have gfin : i = L.length → groupF N (L.take i) (initF N N) = groupF N L (initF N N) := fun e => by rw [List.take_of_length_le (by omega)]
        have gnx : ∀ h : i < L.length, groupF N (L.take (i + 1)) (initF N N) = if sftG N (groupF N (L.take i) (initF N N)) 0 (L.getD i []) = true then groupF N (L.take i) (initF N N) else goF N fuelG true 0 (L.getD i []) (groupF N (L.take i) (initF N N)) := fun h => by
          rw [List.take_add_one, List.getElem?_eq_getElem h, Option.toList_some, groupF_snoc, List.getD_eq_getElem?_getD, List.getElem?_eq_getElem h]; rfl
        generalize groupF N (L.take i) (initF N N) = s at hA gfin gnx ⊢
        have hcan : HasGrp ⟨[plB L], ((4, 0), grB N (lcN 2) s) :: bagL 2 s.gl, 12⟩ (4, 0) (lcN 2) N s := HasGrp.can (by decide) (by decide) (by decide) (by decide) (by decide)
        by_cases h2 : (i : Int) < L.length
        · have hi2 : i < L.length := by omega
          have w := wrap_i64s (show i < 2 ^ 62 by omega)
          have hM : Maps L := fun p hp => (hL p hp).by_.len
          have hpm := getD_mem hi2
          have hfg := flat_get hM hi2
          have hp := hL _ hpm
          have gs := gnx hi2
          generalize L.getD i [] = p at hpm hfg hp gs
          have v4 : 0 + i * 10 + 10 ≤ L.length * 10 := by omega
          have kp : (L.flatten.drop (0 + i * 10)).take 10 = p := by rw [Nat.zero_add]; exact hfg
          simp only [absE, absL, absF, reduceCtorEq, ↓reduceIte, Nat.reduceEqDiff, Nat.reduceAdd, Nat.reduceLT, Nat.reduceMul, Nat.reduceSub, Nat.reduceLeDiff, Int.reduceLT, Int.reduceLE, Int.reduceEq, Option.isSome_some, implies_true, false_implies, Prod.mk.injEq, ne_eq, not_false_eq_true, not_true_eq_false, ge_iff_le, gt_iff_lt, Int.toNat_natCast, Int.reduceToNat, Int.cast_ofNat_Int, Int.natCast_nonneg, h2, ePl, kp, v4]
          refine ite_b (fun h10 hy => ?_) (fun h10 => by omega) ?_
          · have e2 : L.flatten = p := by rw [← kp, show 0 + i * 10 = 0 by omega, List.drop_zero, List.take_of_length_le (by rw [flat_len hM]; omega)]
            rw [h10, e2] at hy ⊢
            exact ⟨by omega, rfl, by rw [if_pos rfl]; exact hy⟩
          · have hx : ∀ k, k < 10 → neB s.gl k = true → ((15, 0) : Abs.Id) ≠ lcN 2 k := fun k _ _ e => by
              have := congrArg Prod.fst e
              unfold lcN at this
              simp only at this; omega
            have hm1 : HasGrp ⟨[plB L], ((15, 0), .lv true [(0, .ints .u8 10 p)]) :: ((15, 0), .lv true [(0, .ints .u8 10 (List.replicate 10 0))]) :: ((4, 0), grB N (lcN 2) s) :: bagL 2 s.gl, 19⟩ (4, 0) (lcN 2) N s := ((hcan.at (by decide)).more (by decide) (by decide) hx).more (by decide) (by decide) hx
            refine HasGrp.callL hm1 (by decide) (fun k _ _ => by unfold lcN; simp) (by decide) (st' := s) Pre.refl (has_okG N hN s hA.ok 0 (by omega) p hp (fun i hi => absurd hi (by omega))) (by simp [renVs, renV, renAt, renIn, idsF, idx, renSegs, renSg]) (fun σ => by simp [renV]) ?_
            intro ups loc1 hu hg1 hz1 hl1
            have h15 : assoc loc1 15 0 = .lv true [(0, .ints .u8 10 p)] := hl1 (15, 0) (by decide) (by decide) (by decide) hx
            cases hs : sftG N s 0 p
            · rw [hs, if_neg (by simp)] at gs
              have hpre := hA.pre hN h1N hp hpm hs
              have hAd := (goF_ok hN (L0 := InL L) fuelG).2 0 p s hpre
              simp only [absE, absL, absF, reduceCtorEq, ↓reduceIte, Nat.reduceEqDiff, Nat.reduceAdd, Nat.reduceLT, Nat.reduceMul, Nat.reduceSub, Nat.reduceLeDiff, Int.reduceLT, Int.reduceLE, Int.reduceEq, Option.isSome_some, implies_true, false_implies, Prod.mk.injEq, ne_eq, not_false_eq_true, not_true_eq_false, ge_iff_le, gt_iff_lt, Int.toNat_natCast, Int.reduceToNat, Int.cast_ofNat_Int, Int.natCast_nonneg, hu, h15]
              refine HasGrp.callL (hg1.at (by decide)) (by decide) hz1 (by decide) (st' := goF N fuelG true 0 p s) hAd.pre ((goW hN fuelG).2 0 p s hpre) (by simp [renVs, renV, renAt, renIn, idsF, idx, renSegs, renSg]) (fun σ => by simp [renV, renVs]) ?_
              intro ups2 loc2 hu2 hg2 hz2 hl2
              obtain ⟨u1, u2⟩ := hg2.weak (t := 2) (n0 := 12) (by decide) (by decide) (by decide) (by decide) (by decide) hz2 hrenP
              simp only [absE, absL, absF, reduceCtorEq, ↓reduceIte, Nat.reduceEqDiff, Nat.reduceAdd, Nat.reduceLT, Nat.reduceMul, Nat.reduceSub, Nat.reduceLeDiff, Int.reduceLT, Int.reduceLE, Int.reduceEq, Option.isSome_some, implies_true, false_implies, Prod.mk.injEq, ne_eq, not_false_eq_true, not_true_eq_false, ge_iff_le, gt_iff_lt, Int.toNat_natCast, Int.reduceToNat, Int.cast_ofNat_Int, Int.natCast_nonneg, hu2]
              refine LoopNext.intro (i + 1) (by omega) (by omega) ⟨_, u1, ?_, ?_⟩
              · simp [wkEnv, lk, renV, renAt, renTo, w]
              · rw [gs]; exact u2 _
            · rw [hs, if_pos rfl] at gs
              obtain ⟨u1, u2⟩ := hg1.weak (t := 2) (n0 := 12) (by decide) (by decide) (by decide) (by decide) (by decide) hz1 hrenP
              simp only [absE, absL, absF, reduceCtorEq, ↓reduceIte, Nat.reduceEqDiff, Nat.reduceAdd, Nat.reduceLT, Nat.reduceMul, Nat.reduceSub, Nat.reduceLeDiff, Int.reduceLT, Int.reduceLE, Int.reduceEq, Option.isSome_some, implies_true, false_implies, Prod.mk.injEq, ne_eq, not_false_eq_true, not_true_eq_false, ge_iff_le, gt_iff_lt, Int.toNat_natCast, Int.reduceToNat, Int.cast_ofNat_Int, Int.natCast_nonneg, hu]
              refine LoopNext.intro (i + 1) (by omega) (by omega) ⟨_, u1, ?_, ?_⟩
              · simp [wkEnv, lk, renV, renAt, renTo, w]
              · rw [gs]; exact u2 _
        · simp only [absE, absL, absF, reduceCtorEq, ↓reduceIte, Nat.reduceEqDiff, Nat.reduceAdd, Nat.reduceLT, Nat.reduceMul, Nat.reduceSub, Nat.reduceLeDiff, Int.reduceLT, Int.reduceLE, Int.reduceEq, Option.isSome_some, implies_true, false_implies, Prod.mk.injEq, ne_eq, not_false_eq_true, not_true_eq_false, ge_iff_le, gt_iff_lt, Int.toNat_natCast, Int.reduceToNat, Int.cast_ofNat_Int, Int.natCast_nonneg, h2, Try.results82]
          rw [← gfin (by omega)]
          exact (hcan.at (by decide)).fin (by decide) (fun k _ _ => by unfold lcN; simp) hrenP

end Go.Proofs.Ytjmenocghjggcaa
