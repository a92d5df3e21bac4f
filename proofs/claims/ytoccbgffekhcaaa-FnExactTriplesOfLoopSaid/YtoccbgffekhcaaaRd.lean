/-
Contracts of functions of the given program, by the abstract walk.
-/
import Derived.Test.YtoccbgffekhcaaaAbsY
import Derived.Test.YtoccbgffekhcaaaRc
namespace Go.Proofs.Ytoccbgffekhcaaa
open Go Go.Abs
set_option linter.unusedVariables false
set_option linter.unusedSectionVars false
set_option linter.unusedSimpArgs false
set_option maxRecDepth 100000
/-! triple systems: the program's table -/
theorem tob_zero : tob (fun _ _ => -1) = List.replicate 81 0 := by decide +kernel
theorem tbb_zero : tbb (fun _ _ => -1) = List.replicate 81 false := by decide +kernel
theorem qI_ge {th : Nat → Nat → Int} {t : Nat → Nat} {k : Nat} : (tob (qI th t k)).length = 81 ∧ (tbb (qI th t k)).length = 81 := ⟨tob_len, tbb_len⟩
theorem k3a {k : Nat} : Int.tmod ((k + 1 : Nat) : Int) 3 = (((k + 1) % 3 : Nat) : Int) := rfl
theorem k3b {k : Nat} : Int.tmod ((k + 2 : Nat) : Int) 3 = (((k + 2) % 3 : Nat) : Int) := rfl
set_option maxHeartbeats 4000000 in
theorem third_ok (v : Int) (LL : LLs) (hl : ∀ i, i < LL.length → (at_ LL i).length ≤ 2 ^ 20) (hm : LL.length ≤ 2 ^ 20) :
    ACalls Try.prog 139 [.i .i64 v, .ref (.sl 0 0 0 0 LL.length 1)] (ms1 LL) (fun r ms ns => ∃ X : List Int, X.length = 81 ∧ (thirdOk v LL = true → X = tob (thirdF v LL)) ∧ r = .tup [.agg [(0, .ints .u8 81 X)], .b (thirdOk v LL)] ∧ ms = ms1 LL ∧ ns = []) := by
  have g0 := ms1_0 (LL := LL)
  have hst : ∀ σ : Pairs, (ms1 LL).map (renBlk (renTo σ)) = ms1 LL := fun σ => ms1_ren renTo_zero
  have hfin : (ms1 LL).map (renBlk (renFin [])) = ms1 LL := ms1_ren renFin_zero
  refine acalls_of_body mix Try.func139 rfl fok139 (Nat.le_of_ble_eq_true rfl) ?_
  unfold abody
  simp only [absE, absL, absF, reduceCtorEq, ↓reduceIte, Nat.reduceEqDiff, Nat.reduceAdd, Nat.reduceLT, Nat.reduceMul, Nat.reduceSub, Nat.reduceLeDiff, Int.reduceLT, Int.reduceLE, Int.reduceEq, Option.isSome_some, implies_true, false_implies, Prod.mk.injEq, ne_eq, not_false_eq_true, not_true_eq_false, ge_iff_le, gt_iff_lt, Int.toNat_natCast, Int.reduceToNat, Int.cast_ofNat_Int, Int.natCast_nonneg, Try.f139]
  repeat first | refine And.intro (by decide +kernel) ?_ | refine And.intro (by omega) ?_
  refine CallsVia.none (within_ok v 1 9) ?_
  rintro _ _ _ ⟨rfl, rfl, rfl⟩
  by_cases hv : 1 ≤ v ∧ v ≤ 9
  · have hvd : decide (1 ≤ v ∧ v ≤ 9) = true := decide_eq_true hv
    obtain ⟨V, hVe⟩ : ∃ V : Nat, v = V := ⟨v.toNat, by omega⟩
    subst hVe
    simp only [absE, absL, absF, reduceCtorEq, ↓reduceIte, Nat.reduceEqDiff, Nat.reduceAdd, Nat.reduceLT, Nat.reduceMul, Nat.reduceSub, Nat.reduceLeDiff, Int.reduceLT, Int.reduceLE, Int.reduceEq, Option.isSome_some, implies_true, false_implies, Prod.mk.injEq, ne_eq, not_false_eq_true, not_true_eq_false, ge_iff_le, gt_iff_lt, Int.toNat_natCast, Int.reduceToNat, Int.cast_ofNat_Int, Int.natCast_nonneg, hvd]
    repeat first | refine And.intro (by decide +kernel) ?_ | refine And.intro (by omega) ?_
    refine awpLoop.intro (fun s : Nat × (Nat → Nat → Int) => [(0, .i .i64 V), (1, .ref (.sl 0 0 0 0 LL.length 1)), (4, .ref (.ptr 1 0 0 0)), (6, .ref (.ptr 4 0 0 0)), (7, .ref (.ptr 10 0 0 0)), (22, .ref (.sl 0 0 0 0 LL.length 1)), (23, .i .i64 LL.length), (24, .i .i64 s.1)]) (fun s => ⟨ms1 LL, [((1, 0), .lv true ([(0, .ints .u8 81 (List.replicate 81 0))])), ((4, 0), .lv true ([(0, .ints .u8 81 (tob s.2))])), ((10, 0), .lv true ([(0, .bools 81 (tbb s.2))]))], 14⟩)
      (fun s => s.1 ≤ LL.length ∧ stT V LL s.1 = some s.2) (fun s => LL.length - s.1) (0, fun _ _ => -1) ⟨by simp, rfl⟩ ⟨[((1,0),(1,0)), ((4,0),(4,0)), ((10,0),(10,0))], rfl, ?_, ?_⟩ ?_
    · simp [wkEnv, lk, renV, renAt, renTo]
    · simp only [wkMem, hst, tob_zero, tbb_zero]; simp [wkLoc, Mem.get, assoc, renBlk, renSegs, renSg]
    · rintro ⟨i, th⟩ ⟨hi, hth⟩
      simp only at hi hth
      have hTI := stT_TI hv.2 hth
      by_cases h : (i : Int) < LL.length
      · have w := wrap_i64s (show i < 2 ^ 62 by omega)
        have hil : i < LL.length := by omega
        have v1 : 0 + i * 1 < LL.length := by omega
        have e1 : (outs 0 1 LL).getD (0 + i * 1) .top = .sl 0 (1 + i) 0 0 (at_ LL i).length 1 := by rw [Nat.zero_add, Nat.mul_one]; exact outs_get hil
        have q1 : (ms1 LL).getD (1 + i) .dead = .lv true [(0, .ints .i64 (at_ LL i).length (at_ LL i))] := ms1_at hil
        have hbad : ¬ okP V (at_ LL (i - 1)) (at_ LL i) i → thirdOk V LL = false := fun hh => by
          have h1 : okT V LL i = false := by unfold okT; exact decide_eq_false hh
          exact thirdOk_none (stT_stop hth (by rw [h1]; rfl)) hil
        have hok : okP V (at_ LL (i - 1)) (at_ LL i) i → okT V LL i = true := fun hh => by unfold okT; exact decide_eq_true hh
        have hlex : 0 < i → (at_ LL (i - 1)).length = 3 := fun h0 => by
          obtain ⟨j, rfl⟩ : ∃ j, i = j + 1 := ⟨i - 1, by omega⟩
          rw [Nat.add_sub_cancel]
          unfold stT at hth
          cases hj : stT V LL j with
          | none => rw [hj] at hth; cases hth
          | some th0 =>
            rw [hj] at hth
            simp only at hth
            split at hth
            · rename_i hc
              simp only [Bool.and_eq_true] at hc
              exact (okT_iff.1 hc.1).1
            · cases hth
        generalize hxs : at_ LL i = xs at e1 q1 hbad hok
        by_cases c1 : xs.length = 3
        · rw [c1] at e1 q1
          by_cases c2 : xs.getD 0 0 < 0
          · have hno := hbad fun hh => by have := hh.2.1; omega
            simp only [absE, absL, absF, reduceCtorEq, ↓reduceIte, Nat.reduceEqDiff, Nat.reduceAdd, Nat.reduceLT, Nat.reduceMul, Nat.reduceSub, Nat.reduceLeDiff, Int.reduceLT, Int.reduceLE, Int.reduceEq, Option.isSome_some, implies_true, false_implies, Prod.mk.injEq, ne_eq, not_false_eq_true, not_true_eq_false, ge_iff_le, gt_iff_lt, Int.toNat_natCast, Int.reduceToNat, Int.cast_ofNat_Int, Int.natCast_nonneg, h, v1, e1, g0, q1, c2, Try.results139]
            repeat first | refine And.intro (by decide +kernel) ?_ | refine And.intro (by omega) ?_
            exact ⟨[], by simp, by simp, tob th, tob_len, fun hh => absurd hh (by simp [hno]), by simp [renV, renVs, renSegs, renSg, hno], hfin, by simp⟩
          · by_cases c3 : xs.getD 1 0 ≤ xs.getD 0 0
            · have hno := hbad fun hh => by have := hh.2.2.1; omega
              simp only [absE, absL, absF, reduceCtorEq, ↓reduceIte, Nat.reduceEqDiff, Nat.reduceAdd, Nat.reduceLT, Nat.reduceMul, Nat.reduceSub, Nat.reduceLeDiff, Int.reduceLT, Int.reduceLE, Int.reduceEq, Option.isSome_some, implies_true, false_implies, Prod.mk.injEq, ne_eq, not_false_eq_true, not_true_eq_false, ge_iff_le, gt_iff_lt, Int.toNat_natCast, Int.reduceToNat, Int.cast_ofNat_Int, Int.natCast_nonneg, h, v1, e1, g0, q1, c2, c3, Try.results139]
              repeat first | refine And.intro (by decide +kernel) ?_ | refine And.intro (by omega) ?_
              exact ⟨[], by simp, by simp, tob th, tob_len, fun hh => absurd hh (by simp [hno]), by simp [renV, renVs, renSegs, renSg, hno], hfin, by simp⟩
            · by_cases c4 : xs.getD 2 0 ≤ xs.getD 1 0
              · have hno := hbad fun hh => by have := hh.2.2.2.1; omega
                simp only [absE, absL, absF, reduceCtorEq, ↓reduceIte, Nat.reduceEqDiff, Nat.reduceAdd, Nat.reduceLT, Nat.reduceMul, Nat.reduceSub, Nat.reduceLeDiff, Int.reduceLT, Int.reduceLE, Int.reduceEq, Option.isSome_some, implies_true, false_implies, Prod.mk.injEq, ne_eq, not_false_eq_true, not_true_eq_false, ge_iff_le, gt_iff_lt, Int.toNat_natCast, Int.reduceToNat, Int.cast_ofNat_Int, Int.natCast_nonneg, h, v1, e1, g0, q1, c2, c3, c4, Try.results139]
                repeat first | refine And.intro (by decide +kernel) ?_ | refine And.intro (by omega) ?_
                exact ⟨[], by simp, by simp, tob th, tob_len, fun hh => absurd hh (by simp [hno]), by simp [renV, renVs, renSegs, renSg, hno], hfin, by simp⟩
              · by_cases c5 : (V : Int) ≤ xs.getD 2 0
                · have hno := hbad fun hh => by have := hh.2.2.2.2.1; omega
                  simp only [absE, absL, absF, reduceCtorEq, ↓reduceIte, Nat.reduceEqDiff, Nat.reduceAdd, Nat.reduceLT, Nat.reduceMul, Nat.reduceSub, Nat.reduceLeDiff, Int.reduceLT, Int.reduceLE, Int.reduceEq, Option.isSome_some, implies_true, false_implies, Prod.mk.injEq, ne_eq, not_false_eq_true, not_true_eq_false, ge_iff_le, gt_iff_lt, Int.toNat_natCast, Int.reduceToNat, Int.cast_ofNat_Int, Int.natCast_nonneg, h, v1, e1, g0, q1, c2, c3, c4, c5, Try.results139]
                  repeat first | refine And.intro (by decide +kernel) ?_ | refine And.intro (by omega) ?_
                  exact ⟨[], by simp, by simp, tob th, tob_len, fun hh => absurd hh (by simp [hno]), by simp [renV, renVs, renSegs, renSg, hno], hfin, by simp⟩
                · by_cases h0 : 0 < i
                  · have g00 : (0 : Int) < i := by omega
                    have wi : IntKind.i64.wrap ((i : Int) - 1) = ((i - 1 : Nat) : Int) := by rw [wrap_i64 (by omega) (by omega)]; omega
                    have hil1 : i - 1 < LL.length := by omega
                    have v2 : 0 + (i - 1) * 1 < LL.length := by omega
                    have z2 : (0 : Int) ≤ ((i - 1 : Nat) : Int) := by omega
                    have l2 : ((i - 1 : Nat) : Int) < LL.length := by omega
                    have e2 : (outs 0 1 LL).getD (0 + (i - 1) * 1) .top = .sl 0 (1 + (i - 1)) 0 0 (at_ LL (i - 1)).length 1 := by rw [Nat.zero_add, Nat.mul_one]; exact outs_get hil1
                    have q2 : (ms1 LL).getD (1 + (i - 1)) .dead = .lv true [(0, .ints .i64 (at_ LL (i - 1)).length (at_ LL (i - 1)))] := ms1_at hil1
                    have hp3 := hlex h0
                    generalize hps : at_ LL (i - 1) = ps at e2 q2 hp3 hbad hok
                    rw [hp3] at e2 q2
                    simp only [absE, absL, absF, reduceCtorEq, ↓reduceIte, Nat.reduceEqDiff, Nat.reduceAdd, Nat.reduceLT, Nat.reduceMul, Nat.reduceSub, Nat.reduceLeDiff, Int.reduceLT, Int.reduceLE, Int.reduceEq, Option.isSome_some, implies_true, false_implies, Prod.mk.injEq, ne_eq, not_false_eq_true, not_true_eq_false, ge_iff_le, gt_iff_lt, Int.toNat_natCast, Int.reduceToNat, Int.cast_ofNat_Int, Int.natCast_nonneg, h, v1, e1, g0, q1, c2, c3, c4, c5, g00, wi, v2, z2, l2, e2]
                    refine CallsX.args [(0, 1 + (i - 1)), (0, 1 + i)] (compare_ok ps xs hp3 c1) ?_ ?_ ?_ ?_ ?_
                    · simp; omega
                    · intro p hp
                      simp at hp
                      rcases hp with rfl | rfl
                      · show (ms1 LL).getD _ .dead ≠ .dead; rw [q2]; simp
                      · show (ms1 LL).getD _ .dead ≠ .dead; rw [q1]; simp
                    · have hne : ¬ i - 1 = i := by omega
                      simp [renVs, renV, renAt, renIn, idx, hne]
                    · show [renBlk _ ((ms1 LL).getD (1 + (i - 1)) .dead), renBlk _ ((ms1 LL).getD (1 + i) .dead)] = _
                      rw [q1, q2]; rfl
                    · have u : ∀ loc n, Mem.upd ⟨ms1 LL, loc, n⟩ [((0, 1 + (i - 1)), .lv true [(0, .ints .i64 3 ps)]), ((0, 1 + i), .lv true [(0, .ints .i64 3 xs)])] = ⟨ms1 LL, loc, n⟩ := fun loc n => by
                        show ((Mem.mk (ms1 LL) loc n).put (0, 1 + (i - 1)) (.lv true [(0, .ints .i64 3 ps)])).put (0, 1 + i) (.lv true [(0, .ints .i64 3 xs)]) = _
                        rw [put_same (m := ⟨ms1 LL, loc, n⟩) q2, put_same (m := ⟨ms1 LL, loc, n⟩) q1]
                      simp only [ibk, zipUps, newUps, List.append_nil, renBlk, renSegs, renSg, u]
                      by_cases c6 : lex3 ps xs
                      · have c6d : ¬ 0 ≤ cmp3 ps xs := fun hh => cmp3_neg.1 hh c6
                        have HOKP : okP V ps xs i := ⟨c1, by omega, by omega, by omega, by omega, fun _ => c6⟩
                        simp only [absE, absL, absF, reduceCtorEq, ↓reduceIte, Nat.reduceEqDiff, Nat.reduceAdd, Nat.reduceLT, Nat.reduceMul, Nat.reduceSub, Nat.reduceLeDiff, Int.reduceLT, Int.reduceLE, Int.reduceEq, Option.isSome_some, implies_true, false_implies, Prod.mk.injEq, ne_eq, not_false_eq_true, not_true_eq_false, ge_iff_le, gt_iff_lt, Int.toNat_natCast, Int.reduceToNat, Int.cast_ofNat_Int, Int.natCast_nonneg, c6d]
                        refine And.intro (chk_x (l := (List.range 43).reverse) rfl (by decide +kernel)) ?_
                        simp only [absE, absL, absF, reduceCtorEq, ↓reduceIte, Nat.reduceEqDiff, Nat.reduceAdd, Nat.reduceLT, Nat.reduceMul, Nat.reduceSub, Nat.reduceLeDiff, Int.reduceLT, Int.reduceLE, Int.reduceEq, Option.isSome_some, implies_true, false_implies, Prod.mk.injEq, ne_eq, not_false_eq_true, not_true_eq_false, ge_iff_le, gt_iff_lt, Int.toNat_natCast, Int.reduceToNat, Int.cast_ofNat_Int, Int.natCast_nonneg, c6d]
                        have hokT : okT V LL i = true := hok HOKP
                        obtain ⟨p1, p2, p3, p4, pts⟩ := okP_pts hv.2 HOKP
                        have l9 : ∀ j, j < 3 → tr3 xs j < 9 := fun j hj => by
                          match j, hj with
                          | 0, _ => omega
                          | 1, _ => omega
                          | 2, _ => omega
                        refine awpLoop.intro (fun k : Nat => [(0, .i .i64 V), (1, .ref (.sl 0 0 0 0 LL.length 1)), (4, .ref (.ptr 1 0 0 0)), (6, .ref (.ptr 4 0 0 0)), (7, .ref (.ptr 10 0 0 0)), (22, .ref (.sl 0 0 0 0 LL.length 1)), (23, .i .i64 LL.length), (24, .i .i64 i), (8, .i .i64 i), (9, .ref (.sl 0 (1 + i) 0 0 3 1)), (78, .i .i64 k)]) (fun k => ⟨ms1 LL, [((1, 0), .lv true ([(0, .ints .u8 81 (List.replicate 81 0))])), ((4, 0), .lv true ([(0, .ints .u8 81 (tob (qI th (tr3 xs) k)))])), ((10, 0), .lv true ([(0, .bools 81 (tbb (qI th (tr3 xs) k)))]))], 300⟩)
                          (fun k => k ≤ 3 ∧ ∀ k', k' < k → th (tr3 xs k') (tr3 xs ((k' + 1) % 3)) < 0) (fun k => 3 - k) 0 ⟨by omega, fun k' hk' => absurd hk' (by omega)⟩ ⟨[((1,0),(1,0)), ((4,0),(4,0)), ((10,0),(10,0))], rfl, ?_, ?_⟩ ?_
                        · simp [wkEnv, lk, renV, renAt, renTo]
                        · simp only [wkMem, hst]; simp [wkLoc, Mem.get, assoc, renBlk, renSegs, renSg, qI]
                        · rintro k ⟨hk, hqk⟩
                          by_cases hk3 : (k : Int) < 3
                          · have wk1 := wrap_i64s (show k < 2 ^ 62 by omega)
                            have wk2 : IntKind.i64.wrap ((k : Int) + 2) = ((k + 2 : Nat) : Int) := by rw [wrap_i64 (by omega) (by omega)]; omega
                            have m1 : (k + 1) % 3 < 3 := Nat.mod_lt _ (by omega)
                            have m2 : (k + 2) % 3 < 3 := Nat.mod_lt _ (by omega)
                            have mi1 : (((k + 1) % 3 : Nat) : Int) < 3 := by omega
                            have mi2 : (((k + 2) % 3 : Nat) : Int) < 3 := by omega
                            have mz1 : (0 : Int) ≤ (((k + 1) % 3 : Nat) : Int) := by omega
                            have mz2 : (0 : Int) ≤ (((k + 2) % 3 : Nat) : Int) := by omega
                            have ea : xs.getD (0 + k * 1) 0 = ((tr3 xs k : Nat) : Int) := by rw [Nat.zero_add, Nat.mul_one]; exact pts k (by omega)
                            have eb : xs.getD (0 + (k + 1) % 3 * 1) 0 = ((tr3 xs ((k + 1) % 3) : Nat) : Int) := by rw [Nat.zero_add, Nat.mul_one]; exact pts _ m1
                            have ec : xs.getD (0 + (k + 2) % 3 * 1) 0 = ((tr3 xs ((k + 2) % 3) : Nat) : Int) := by rw [Nat.zero_add, Nat.mul_one]; exact pts _ m2
                            have va : 0 + k * 1 < 3 := by omega
                            have vb : 0 + (k + 1) % 3 * 1 < 3 := by omega
                            have vc : 0 + (k + 2) % 3 * 1 < 3 := by omega
                            have la := l9 k (by omega)
                            have lb := l9 _ m1
                            have lc := l9 _ m2
                            have gq := qI_get (v := V) (th := th) p1 p2 (show k < 3 by omega)
                            have gB : (tbb (qI th (tr3 xs) k)).getD (0 + tr3 xs k * 9 + tr3 xs ((k + 1) % 3) * 1) false = decide (0 ≤ th (tr3 xs k) (tr3 xs ((k + 1) % 3))) := by
                              rw [show 0 + tr3 xs k * 9 + tr3 xs ((k + 1) % 3) * 1 = tr3 xs k * 9 + tr3 xs ((k + 1) % 3) by omega, tbb_get la lb, gq]
                            have lai : (tr3 xs k : Int) < 9 := by omega
                            have lbi : (tr3 xs ((k + 1) % 3) : Int) < 9 := by omega
                            have u0 : 0 + tr3 xs k * 9 + tr3 xs ((k + 1) % 3) * 1 < 81 := by omega
                            have u1 : 0 + tr3 xs k * 9 + tr3 xs ((k + 1) % 3) * 1 + 1 ≤ 81 := by omega
                            have u2 : 0 + tr3 xs ((k + 1) % 3) * 9 + tr3 xs k * 1 + 1 ≤ 81 := by omega
                            have zc : (0 : Int) ≤ (tr3 xs ((k + 2) % 3) : Nat) := by omega
                            have wc : IntKind.u8.wrap ((tr3 xs ((k + 2) % 3) : Nat) : Int) = ((tr3 xs ((k + 2) % 3) : Nat) : Int) := wrap_u8n (by omega)
                            have sB1 : (tbb (qI th (tr3 xs) k)).set (0 + tr3 xs k * 9 + tr3 xs ((k + 1) % 3) * 1) true = tbb (thU (qI th (tr3 xs) k) (tr3 xs k) (tr3 xs ((k + 1) % 3)) (tr3 xs ((k + 2) % 3) : Nat)) := by
                              rw [show 0 + tr3 xs k * 9 + tr3 xs ((k + 1) % 3) * 1 = tr3 xs k * 9 + tr3 xs ((k + 1) % 3) by omega, tbb_set la lb zc]
                            have sB2 : (tbb (thU (qI th (tr3 xs) k) (tr3 xs k) (tr3 xs ((k + 1) % 3)) (tr3 xs ((k + 2) % 3) : Nat))).set (0 + tr3 xs ((k + 1) % 3) * 9 + tr3 xs k * 1) true = tbb (qI th (tr3 xs) (k + 1)) := by
                              rw [show 0 + tr3 xs ((k + 1) % 3) * 9 + tr3 xs k * 1 = tr3 xs ((k + 1) % 3) * 9 + tr3 xs k by omega, tbb_set lb la zc, qI]
                            have sO1 : (tob (qI th (tr3 xs) k)).set (0 + tr3 xs k * 9 + tr3 xs ((k + 1) % 3) * 1) ((tr3 xs ((k + 2) % 3) : Nat) : Int) = tob (thU (qI th (tr3 xs) k) (tr3 xs k) (tr3 xs ((k + 1) % 3)) (tr3 xs ((k + 2) % 3) : Nat)) := by
                              rw [show 0 + tr3 xs k * 9 + tr3 xs ((k + 1) % 3) * 1 = tr3 xs k * 9 + tr3 xs ((k + 1) % 3) by omega, tob_set la lb zc]
                            have sO2 : (tob (thU (qI th (tr3 xs) k) (tr3 xs k) (tr3 xs ((k + 1) % 3)) (tr3 xs ((k + 2) % 3) : Nat))).set (0 + tr3 xs ((k + 1) % 3) * 9 + tr3 xs k * 1) ((tr3 xs ((k + 2) % 3) : Nat) : Int) = tob (qI th (tr3 xs) (k + 1)) := by
                              rw [show 0 + tr3 xs ((k + 1) % 3) * 9 + tr3 xs k * 1 = tr3 xs ((k + 1) % 3) * 9 + tr3 xs k by omega, tob_set lb la zc, qI]
                            simp only [absE, absL, absF, reduceCtorEq, ↓reduceIte, Nat.reduceEqDiff, Nat.reduceAdd, Nat.reduceLT, Nat.reduceMul, Nat.reduceSub, Nat.reduceLeDiff, Int.reduceLT, Int.reduceLE, Int.reduceEq, Option.isSome_some, implies_true, false_implies, Prod.mk.injEq, ne_eq, not_false_eq_true, not_true_eq_false, ge_iff_le, gt_iff_lt, Int.toNat_natCast, Int.reduceToNat, Int.cast_ofNat_Int, Int.natCast_nonneg, hk3]
                            by_cases hz : 0 ≤ th (tr3 xs k) (tr3 xs ((k + 1) % 3))
                            · have hno : thirdOk V LL = false := by
                                refine thirdOk_none (stT_stop hth ?_) hil
                                rw [hxs, Bool.and_eq_false_iff]
                                refine .inr ?_
                                cases hf : freeT th (tr3 xs 0) (tr3 xs 1) (tr3 xs 2)
                                · rfl
                                · have := (free_three hTI (t := tr3 xs)).1 hf k (by omega); omega
                              simp only [absE, absL, absF, reduceCtorEq, ↓reduceIte, Nat.reduceEqDiff, Nat.reduceAdd, Nat.reduceLT, Nat.reduceMul, Nat.reduceSub, Nat.reduceLeDiff, Int.reduceLT, Int.reduceLE, Int.reduceEq, Option.isSome_some, implies_true, false_implies, Prod.mk.injEq, ne_eq, not_false_eq_true, not_true_eq_false, ge_iff_le, gt_iff_lt, Int.toNat_natCast, Int.reduceToNat, Int.cast_ofNat_Int, Int.natCast_nonneg, hk3, wk1, wk2, k3a, k3b, mi1, mi2, mz1, mz2, ea, eb, ec, va, vb, vc, q1, gB, hz, lai, lbi, u0]
                              repeat first | refine And.intro (by decide +kernel) ?_ | refine And.intro (by omega) ?_
                              simp only [absE, absL, absF, reduceCtorEq, ↓reduceIte, Nat.reduceEqDiff, Nat.reduceAdd, Nat.reduceLT, Nat.reduceMul, Nat.reduceSub, Nat.reduceLeDiff, Int.reduceLT, Int.reduceLE, Int.reduceEq, Option.isSome_some, implies_true, false_implies, Prod.mk.injEq, ne_eq, not_false_eq_true, not_true_eq_false, ge_iff_le, gt_iff_lt, Int.toNat_natCast, Int.reduceToNat, Int.cast_ofNat_Int, Int.natCast_nonneg, Try.results139]
                              repeat first | refine And.intro (by decide +kernel) ?_ | refine And.intro (by omega) ?_
                              exact ⟨[], by simp, by simp, tob (qI th (tr3 xs) k), tob_len, fun hh => absurd hh (by simp [hno]), by simp [renV, renVs, renSegs, renSg, hno], hfin, by simp⟩
                            · simp only [absE, absL, absF, reduceCtorEq, ↓reduceIte, Nat.reduceEqDiff, Nat.reduceAdd, Nat.reduceLT, Nat.reduceMul, Nat.reduceSub, Nat.reduceLeDiff, Int.reduceLT, Int.reduceLE, Int.reduceEq, Option.isSome_some, implies_true, false_implies, Prod.mk.injEq, ne_eq, not_false_eq_true, not_true_eq_false, ge_iff_le, gt_iff_lt, Int.toNat_natCast, Int.reduceToNat, Int.cast_ofNat_Int, Int.natCast_nonneg, hk3, wk1, wk2, k3a, k3b, mi1, mi2, mz1, mz2, ea, eb, ec, va, vb, vc, q1, gB, hz, lai, lbi, u0, u1, u2, sB1, sB2]
                              repeat first | refine And.intro (by decide +kernel) ?_ | refine And.intro (by omega) ?_
                              simp only [absE, absL, absF, reduceCtorEq, ↓reduceIte, Nat.reduceEqDiff, Nat.reduceAdd, Nat.reduceLT, Nat.reduceMul, Nat.reduceSub, Nat.reduceLeDiff, Int.reduceLT, Int.reduceLE, Int.reduceEq, Option.isSome_some, implies_true, false_implies, Prod.mk.injEq, ne_eq, not_false_eq_true, not_true_eq_false, ge_iff_le, gt_iff_lt, Int.toNat_natCast, Int.reduceToNat, Int.cast_ofNat_Int, Int.natCast_nonneg, hk3, wk1, wk2, k3a, k3b, mi1, mi2, mz1, mz2, ea, eb, ec, va, vb, vc, q1, gB, hz, lai, lbi, u0, u1, u2, sB1, sB2, sO1, sO2, wc]
                              repeat first | refine And.intro (by decide +kernel) ?_ | refine And.intro (by omega) ?_
                              simp only [absE, absL, absF, reduceCtorEq, ↓reduceIte, Nat.reduceEqDiff, Nat.reduceAdd, Nat.reduceLT, Nat.reduceMul, Nat.reduceSub, Nat.reduceLeDiff, Int.reduceLT, Int.reduceLE, Int.reduceEq, Option.isSome_some, implies_true, false_implies, Prod.mk.injEq, ne_eq, not_false_eq_true, not_true_eq_false, ge_iff_le, gt_iff_lt, Int.toNat_natCast, Int.reduceToNat, Int.cast_ofNat_Int, Int.natCast_nonneg]
                              refine LoopNext.intro (k + 1) ⟨by omega, fun k' hk' => ?_⟩ (by omega) ⟨[((1,0),(1,0)), ((4,0),(4,0)), ((10,0),(10,0))], rfl, ?_, ?_⟩
                              · by_cases e : k' = k
                                · subst e; omega
                                · exact hqk k' (by omega)
                              · simp [wkEnv, lk, renV, renAt, renTo, wk1]
                              · simp only [wkMem, hst]; simp [wkLoc, Mem.get, assoc, renBlk, renSegs, renSg]
                          · have hk3' : k = 3 := by omega
                            subst hk3'
                            have hfree : freeT th (tr3 xs 0) (tr3 xs 1) (tr3 xs 2) = true := (free_three hTI (t := tr3 xs)).2 fun k hk => hqk k hk
                            have hnx := stT_next hth hokT (by rw [hxs]; exact hfree)
                            rw [hxs, ← qI_put p1 p2] at hnx
                            simp only [absE, absL, absF, reduceCtorEq, ↓reduceIte, Nat.reduceEqDiff, Nat.reduceAdd, Nat.reduceLT, Nat.reduceMul, Nat.reduceSub, Nat.reduceLeDiff, Int.reduceLT, Int.reduceLE, Int.reduceEq, Option.isSome_some, implies_true, false_implies, Prod.mk.injEq, ne_eq, not_false_eq_true, not_true_eq_false, ge_iff_le, gt_iff_lt, Int.toNat_natCast, Int.reduceToNat, Int.cast_ofNat_Int, Int.natCast_nonneg]
                            refine LoopNext.intro (i + 1, qI th (tr3 xs) 3) ⟨by simp only; omega, hnx⟩ (by simp only; omega) ⟨[((1,0),(1,0)), ((4,0),(4,0)), ((10,0),(10,0))], rfl, ?_, ?_⟩
                            · simp [wkEnv, lk, renV, renAt, renTo, w]
                            · simp only [wkMem, hst]; simp [wkLoc, Mem.get, assoc, renBlk, renSegs, renSg]
                      · have hno := hbad fun hh => c6 (hh.2.2.2.2.2 h0)
                        have c6d : 0 ≤ cmp3 ps xs := cmp3_neg.2 c6
                        simp only [absE, absL, absF, reduceCtorEq, ↓reduceIte, Nat.reduceEqDiff, Nat.reduceAdd, Nat.reduceLT, Nat.reduceMul, Nat.reduceSub, Nat.reduceLeDiff, Int.reduceLT, Int.reduceLE, Int.reduceEq, Option.isSome_some, implies_true, false_implies, Prod.mk.injEq, ne_eq, not_false_eq_true, not_true_eq_false, ge_iff_le, gt_iff_lt, Int.toNat_natCast, Int.reduceToNat, Int.cast_ofNat_Int, Int.natCast_nonneg, c6d]
                        refine And.intro (chk_x (l := (List.range 43).reverse) rfl (by decide +kernel)) ?_
                        simp only [absE, absL, absF, reduceCtorEq, ↓reduceIte, Nat.reduceEqDiff, Nat.reduceAdd, Nat.reduceLT, Nat.reduceMul, Nat.reduceSub, Nat.reduceLeDiff, Int.reduceLT, Int.reduceLE, Int.reduceEq, Option.isSome_some, implies_true, false_implies, Prod.mk.injEq, ne_eq, not_false_eq_true, not_true_eq_false, ge_iff_le, gt_iff_lt, Int.toNat_natCast, Int.reduceToNat, Int.cast_ofNat_Int, Int.natCast_nonneg, h, c6d, Try.results139]
                        repeat first | refine And.intro (by decide +kernel) ?_ | refine And.intro (by omega) ?_
                        exact ⟨[], by simp, by simp, tob th, tob_len, fun hh => absurd hh (by simp [hno]), by simp [renV, renVs, renSegs, renSg, hno], hfin, by simp⟩
                  · have g00 : ¬(0 : Int) < i := by omega
                    have HOKP : okP V (at_ LL (i - 1)) xs i := ⟨c1, by omega, by omega, by omega, by omega, fun hh => absurd hh h0⟩
                    simp only [absE, absL, absF, reduceCtorEq, ↓reduceIte, Nat.reduceEqDiff, Nat.reduceAdd, Nat.reduceLT, Nat.reduceMul, Nat.reduceSub, Nat.reduceLeDiff, Int.reduceLT, Int.reduceLE, Int.reduceEq, Option.isSome_some, implies_true, false_implies, Prod.mk.injEq, ne_eq, not_false_eq_true, not_true_eq_false, ge_iff_le, gt_iff_lt, Int.toNat_natCast, Int.reduceToNat, Int.cast_ofNat_Int, Int.natCast_nonneg, h, v1, e1, g0, q1, c2, c3, c4, c5, g00]
                    repeat first | refine And.intro (by decide +kernel) ?_ | refine And.intro (by omega) ?_
                    have hokT : okT V LL i = true := hok HOKP
                    obtain ⟨p1, p2, p3, p4, pts⟩ := okP_pts hv.2 HOKP
                    have l9 : ∀ j, j < 3 → tr3 xs j < 9 := fun j hj => by
                      match j, hj with
                      | 0, _ => omega
                      | 1, _ => omega
                      | 2, _ => omega
                    refine awpLoop.intro (fun k : Nat => [(0, .i .i64 V), (1, .ref (.sl 0 0 0 0 LL.length 1)), (4, .ref (.ptr 1 0 0 0)), (6, .ref (.ptr 4 0 0 0)), (7, .ref (.ptr 10 0 0 0)), (22, .ref (.sl 0 0 0 0 LL.length 1)), (23, .i .i64 LL.length), (24, .i .i64 i), (8, .i .i64 i), (9, .ref (.sl 0 (1 + i) 0 0 3 1)), (78, .i .i64 k)]) (fun k => ⟨ms1 LL, [((1, 0), .lv true ([(0, .ints .u8 81 (List.replicate 81 0))])), ((4, 0), .lv true ([(0, .ints .u8 81 (tob (qI th (tr3 xs) k)))])), ((10, 0), .lv true ([(0, .bools 81 (tbb (qI th (tr3 xs) k)))]))], 300⟩)
                      (fun k => k ≤ 3 ∧ ∀ k', k' < k → th (tr3 xs k') (tr3 xs ((k' + 1) % 3)) < 0) (fun k => 3 - k) 0 ⟨by omega, fun k' hk' => absurd hk' (by omega)⟩ ⟨[((1,0),(1,0)), ((4,0),(4,0)), ((10,0),(10,0))], rfl, ?_, ?_⟩ ?_
                    · simp [wkEnv, lk, renV, renAt, renTo]
                    · simp only [wkMem, hst]; simp [wkLoc, Mem.get, assoc, renBlk, renSegs, renSg, qI]
                    · rintro k ⟨hk, hqk⟩
                      by_cases hk3 : (k : Int) < 3
                      · have wk1 := wrap_i64s (show k < 2 ^ 62 by omega)
                        have wk2 : IntKind.i64.wrap ((k : Int) + 2) = ((k + 2 : Nat) : Int) := by rw [wrap_i64 (by omega) (by omega)]; omega
                        have m1 : (k + 1) % 3 < 3 := Nat.mod_lt _ (by omega)
                        have m2 : (k + 2) % 3 < 3 := Nat.mod_lt _ (by omega)
                        have mi1 : (((k + 1) % 3 : Nat) : Int) < 3 := by omega
                        have mi2 : (((k + 2) % 3 : Nat) : Int) < 3 := by omega
                        have mz1 : (0 : Int) ≤ (((k + 1) % 3 : Nat) : Int) := by omega
                        have mz2 : (0 : Int) ≤ (((k + 2) % 3 : Nat) : Int) := by omega
                        have ea : xs.getD (0 + k * 1) 0 = ((tr3 xs k : Nat) : Int) := by rw [Nat.zero_add, Nat.mul_one]; exact pts k (by omega)
                        have eb : xs.getD (0 + (k + 1) % 3 * 1) 0 = ((tr3 xs ((k + 1) % 3) : Nat) : Int) := by rw [Nat.zero_add, Nat.mul_one]; exact pts _ m1
                        have ec : xs.getD (0 + (k + 2) % 3 * 1) 0 = ((tr3 xs ((k + 2) % 3) : Nat) : Int) := by rw [Nat.zero_add, Nat.mul_one]; exact pts _ m2
                        have va : 0 + k * 1 < 3 := by omega
                        have vb : 0 + (k + 1) % 3 * 1 < 3 := by omega
                        have vc : 0 + (k + 2) % 3 * 1 < 3 := by omega
                        have la := l9 k (by omega)
                        have lb := l9 _ m1
                        have lc := l9 _ m2
                        have gq := qI_get (v := V) (th := th) p1 p2 (show k < 3 by omega)
                        have gB : (tbb (qI th (tr3 xs) k)).getD (0 + tr3 xs k * 9 + tr3 xs ((k + 1) % 3) * 1) false = decide (0 ≤ th (tr3 xs k) (tr3 xs ((k + 1) % 3))) := by
                          rw [show 0 + tr3 xs k * 9 + tr3 xs ((k + 1) % 3) * 1 = tr3 xs k * 9 + tr3 xs ((k + 1) % 3) by omega, tbb_get la lb, gq]
                        have lai : (tr3 xs k : Int) < 9 := by omega
                        have lbi : (tr3 xs ((k + 1) % 3) : Int) < 9 := by omega
                        have u0 : 0 + tr3 xs k * 9 + tr3 xs ((k + 1) % 3) * 1 < 81 := by omega
                        have u1 : 0 + tr3 xs k * 9 + tr3 xs ((k + 1) % 3) * 1 + 1 ≤ 81 := by omega
                        have u2 : 0 + tr3 xs ((k + 1) % 3) * 9 + tr3 xs k * 1 + 1 ≤ 81 := by omega
                        have zc : (0 : Int) ≤ (tr3 xs ((k + 2) % 3) : Nat) := by omega
                        have wc : IntKind.u8.wrap ((tr3 xs ((k + 2) % 3) : Nat) : Int) = ((tr3 xs ((k + 2) % 3) : Nat) : Int) := wrap_u8n (by omega)
                        have sB1 : (tbb (qI th (tr3 xs) k)).set (0 + tr3 xs k * 9 + tr3 xs ((k + 1) % 3) * 1) true = tbb (thU (qI th (tr3 xs) k) (tr3 xs k) (tr3 xs ((k + 1) % 3)) (tr3 xs ((k + 2) % 3) : Nat)) := by
                          rw [show 0 + tr3 xs k * 9 + tr3 xs ((k + 1) % 3) * 1 = tr3 xs k * 9 + tr3 xs ((k + 1) % 3) by omega, tbb_set la lb zc]
                        have sB2 : (tbb (thU (qI th (tr3 xs) k) (tr3 xs k) (tr3 xs ((k + 1) % 3)) (tr3 xs ((k + 2) % 3) : Nat))).set (0 + tr3 xs ((k + 1) % 3) * 9 + tr3 xs k * 1) true = tbb (qI th (tr3 xs) (k + 1)) := by
                          rw [show 0 + tr3 xs ((k + 1) % 3) * 9 + tr3 xs k * 1 = tr3 xs ((k + 1) % 3) * 9 + tr3 xs k by omega, tbb_set lb la zc, qI]
                        have sO1 : (tob (qI th (tr3 xs) k)).set (0 + tr3 xs k * 9 + tr3 xs ((k + 1) % 3) * 1) ((tr3 xs ((k + 2) % 3) : Nat) : Int) = tob (thU (qI th (tr3 xs) k) (tr3 xs k) (tr3 xs ((k + 1) % 3)) (tr3 xs ((k + 2) % 3) : Nat)) := by
                          rw [show 0 + tr3 xs k * 9 + tr3 xs ((k + 1) % 3) * 1 = tr3 xs k * 9 + tr3 xs ((k + 1) % 3) by omega, tob_set la lb zc]
                        have sO2 : (tob (thU (qI th (tr3 xs) k) (tr3 xs k) (tr3 xs ((k + 1) % 3)) (tr3 xs ((k + 2) % 3) : Nat))).set (0 + tr3 xs ((k + 1) % 3) * 9 + tr3 xs k * 1) ((tr3 xs ((k + 2) % 3) : Nat) : Int) = tob (qI th (tr3 xs) (k + 1)) := by
                          rw [show 0 + tr3 xs ((k + 1) % 3) * 9 + tr3 xs k * 1 = tr3 xs ((k + 1) % 3) * 9 + tr3 xs k by omega, tob_set lb la zc, qI]
                        simp only [absE, absL, absF, reduceCtorEq, ↓reduceIte, Nat.reduceEqDiff, Nat.reduceAdd, Nat.reduceLT, Nat.reduceMul, Nat.reduceSub, Nat.reduceLeDiff, Int.reduceLT, Int.reduceLE, Int.reduceEq, Option.isSome_some, implies_true, false_implies, Prod.mk.injEq, ne_eq, not_false_eq_true, not_true_eq_false, ge_iff_le, gt_iff_lt, Int.toNat_natCast, Int.reduceToNat, Int.cast_ofNat_Int, Int.natCast_nonneg, hk3]
                        by_cases hz : 0 ≤ th (tr3 xs k) (tr3 xs ((k + 1) % 3))
                        · have hno : thirdOk V LL = false := by
                            refine thirdOk_none (stT_stop hth ?_) hil
                            rw [hxs, Bool.and_eq_false_iff]
                            refine .inr ?_
                            cases hf : freeT th (tr3 xs 0) (tr3 xs 1) (tr3 xs 2)
                            · rfl
                            · have := (free_three hTI (t := tr3 xs)).1 hf k (by omega); omega
                          simp only [absE, absL, absF, reduceCtorEq, ↓reduceIte, Nat.reduceEqDiff, Nat.reduceAdd, Nat.reduceLT, Nat.reduceMul, Nat.reduceSub, Nat.reduceLeDiff, Int.reduceLT, Int.reduceLE, Int.reduceEq, Option.isSome_some, implies_true, false_implies, Prod.mk.injEq, ne_eq, not_false_eq_true, not_true_eq_false, ge_iff_le, gt_iff_lt, Int.toNat_natCast, Int.reduceToNat, Int.cast_ofNat_Int, Int.natCast_nonneg, hk3, wk1, wk2, k3a, k3b, mi1, mi2, mz1, mz2, ea, eb, ec, va, vb, vc, q1, gB, hz, lai, lbi, u0]
                          repeat first | refine And.intro (by decide +kernel) ?_ | refine And.intro (by omega) ?_
                          simp only [absE, absL, absF, reduceCtorEq, ↓reduceIte, Nat.reduceEqDiff, Nat.reduceAdd, Nat.reduceLT, Nat.reduceMul, Nat.reduceSub, Nat.reduceLeDiff, Int.reduceLT, Int.reduceLE, Int.reduceEq, Option.isSome_some, implies_true, false_implies, Prod.mk.injEq, ne_eq, not_false_eq_true, not_true_eq_false, ge_iff_le, gt_iff_lt, Int.toNat_natCast, Int.reduceToNat, Int.cast_ofNat_Int, Int.natCast_nonneg, Try.results139]
                          repeat first | refine And.intro (by decide +kernel) ?_ | refine And.intro (by omega) ?_
                          exact ⟨[], by simp, by simp, tob (qI th (tr3 xs) k), tob_len, fun hh => absurd hh (by simp [hno]), by simp [renV, renVs, renSegs, renSg, hno], hfin, by simp⟩
                        · simp only [absE, absL, absF, reduceCtorEq, ↓reduceIte, Nat.reduceEqDiff, Nat.reduceAdd, Nat.reduceLT, Nat.reduceMul, Nat.reduceSub, Nat.reduceLeDiff, Int.reduceLT, Int.reduceLE, Int.reduceEq, Option.isSome_some, implies_true, false_implies, Prod.mk.injEq, ne_eq, not_false_eq_true, not_true_eq_false, ge_iff_le, gt_iff_lt, Int.toNat_natCast, Int.reduceToNat, Int.cast_ofNat_Int, Int.natCast_nonneg, hk3, wk1, wk2, k3a, k3b, mi1, mi2, mz1, mz2, ea, eb, ec, va, vb, vc, q1, gB, hz, lai, lbi, u0, u1, u2, sB1, sB2]
                          repeat first | refine And.intro (by decide +kernel) ?_ | refine And.intro (by omega) ?_
                          simp only [absE, absL, absF, reduceCtorEq, ↓reduceIte, Nat.reduceEqDiff, Nat.reduceAdd, Nat.reduceLT, Nat.reduceMul, Nat.reduceSub, Nat.reduceLeDiff, Int.reduceLT, Int.reduceLE, Int.reduceEq, Option.isSome_some, implies_true, false_implies, Prod.mk.injEq, ne_eq, not_false_eq_true, not_true_eq_false, ge_iff_le, gt_iff_lt, Int.toNat_natCast, Int.reduceToNat, Int.cast_ofNat_Int, Int.natCast_nonneg, hk3, wk1, wk2, k3a, k3b, mi1, mi2, mz1, mz2, ea, eb, ec, va, vb, vc, q1, gB, hz, lai, lbi, u0, u1, u2, sB1, sB2, sO1, sO2, wc]
                          repeat first | refine And.intro (by decide +kernel) ?_ | refine And.intro (by omega) ?_
                          simp only [absE, absL, absF, reduceCtorEq, ↓reduceIte, Nat.reduceEqDiff, Nat.reduceAdd, Nat.reduceLT, Nat.reduceMul, Nat.reduceSub, Nat.reduceLeDiff, Int.reduceLT, Int.reduceLE, Int.reduceEq, Option.isSome_some, implies_true, false_implies, Prod.mk.injEq, ne_eq, not_false_eq_true, not_true_eq_false, ge_iff_le, gt_iff_lt, Int.toNat_natCast, Int.reduceToNat, Int.cast_ofNat_Int, Int.natCast_nonneg]
                          refine LoopNext.intro (k + 1) ⟨by omega, fun k' hk' => ?_⟩ (by omega) ⟨[((1,0),(1,0)), ((4,0),(4,0)), ((10,0),(10,0))], rfl, ?_, ?_⟩
                          · by_cases e : k' = k
                            · subst e; omega
                            · exact hqk k' (by omega)
                          · simp [wkEnv, lk, renV, renAt, renTo, wk1]
                          · simp only [wkMem, hst]; simp [wkLoc, Mem.get, assoc, renBlk, renSegs, renSg]
                      · have hk3' : k = 3 := by omega
                        subst hk3'
                        have hfree : freeT th (tr3 xs 0) (tr3 xs 1) (tr3 xs 2) = true := (free_three hTI (t := tr3 xs)).2 fun k hk => hqk k hk
                        have hnx := stT_next hth hokT (by rw [hxs]; exact hfree)
                        rw [hxs, ← qI_put p1 p2] at hnx
                        simp only [absE, absL, absF, reduceCtorEq, ↓reduceIte, Nat.reduceEqDiff, Nat.reduceAdd, Nat.reduceLT, Nat.reduceMul, Nat.reduceSub, Nat.reduceLeDiff, Int.reduceLT, Int.reduceLE, Int.reduceEq, Option.isSome_some, implies_true, false_implies, Prod.mk.injEq, ne_eq, not_false_eq_true, not_true_eq_false, ge_iff_le, gt_iff_lt, Int.toNat_natCast, Int.reduceToNat, Int.cast_ofNat_Int, Int.natCast_nonneg]
                        refine LoopNext.intro (i + 1, qI th (tr3 xs) 3) ⟨by simp only; omega, hnx⟩ (by simp only; omega) ⟨[((1,0),(1,0)), ((4,0),(4,0)), ((10,0),(10,0))], rfl, ?_, ?_⟩
                        · simp [wkEnv, lk, renV, renAt, renTo, w]
                        · simp only [wkMem, hst]; simp [wkLoc, Mem.get, assoc, renBlk, renSegs, renSg]
        · have hno := hbad fun hh => c1 hh.1
          have c1i : ¬((xs.length : Nat) : Int) = 3 := by omega
          simp only [absE, absL, absF, reduceCtorEq, ↓reduceIte, Nat.reduceEqDiff, Nat.reduceAdd, Nat.reduceLT, Nat.reduceMul, Nat.reduceSub, Nat.reduceLeDiff, Int.reduceLT, Int.reduceLE, Int.reduceEq, Option.isSome_some, implies_true, false_implies, Prod.mk.injEq, ne_eq, not_false_eq_true, not_true_eq_false, ge_iff_le, gt_iff_lt, Int.toNat_natCast, Int.reduceToNat, Int.cast_ofNat_Int, Int.natCast_nonneg, h, v1, e1, g0, q1, c1i, Try.results139]
          repeat first | refine And.intro (by decide +kernel) ?_ | refine And.intro (by omega) ?_
          exact ⟨[], by simp, by simp, tob th, tob_len, fun hh => absurd hh (by simp [hno]), by simp [renV, renVs, renSegs, renSg, hno], hfin, by simp⟩
      · have hi' : i = LL.length := by omega
        subst hi'
        obtain ⟨hO, hF⟩ := thirdOk_some hv hth
        simp only [absE, absL, absF, reduceCtorEq, ↓reduceIte, Nat.reduceEqDiff, Nat.reduceAdd, Nat.reduceLT, Nat.reduceMul, Nat.reduceSub, Nat.reduceLeDiff, Int.reduceLT, Int.reduceLE, Int.reduceEq, Option.isSome_some, implies_true, false_implies, Prod.mk.injEq, ne_eq, not_false_eq_true, not_true_eq_false, ge_iff_le, gt_iff_lt, Int.toNat_natCast, Int.reduceToNat, Int.cast_ofNat_Int, Int.natCast_nonneg, h]
        refine awpLoop.intro (fun a : Nat => [(0, .i .i64 V), (1, .ref (.sl 0 0 0 0 LL.length 1)), (4, .ref (.ptr 1 0 0 0)), (6, .ref (.ptr 4 0 0 0)), (7, .ref (.ptr 10 0 0 0)), (125, .i .i64 V), (126, .i .i64 a)]) (fun a => ⟨ms1 LL, [((1, 0), .lv true ([(0, .ints .u8 81 (List.replicate 81 0))])), ((4, 0), .lv true ([(0, .ints .u8 81 (tob th))])), ((10, 0), .lv true ([(0, .bools 81 (tbb th))]))], 500⟩)
          (fun a => a ≤ V ∧ ∀ x, x < a → ∀ b, b < V → x ≠ b → 0 ≤ th x b) (fun a => V - a) 0 ⟨by omega, fun x hx => absurd hx (by omega)⟩ ⟨[((1,0),(1,0)), ((4,0),(4,0)), ((10,0),(10,0))], rfl, ?_, ?_⟩ ?_
        · simp [wkEnv, lk, renV, renAt, renTo]
        · simp only [wkMem, hst]; simp [wkLoc, Mem.get, assoc, renBlk, renSegs, renSg]
        · rintro a ⟨ha, hqa⟩
          by_cases h : (a : Int) < V
          · have w := wrap_i64s (show a < 2 ^ 62 by omega)
            simp only [absE, absL, absF, reduceCtorEq, ↓reduceIte, Nat.reduceEqDiff, Nat.reduceAdd, Nat.reduceLT, Nat.reduceMul, Nat.reduceSub, Nat.reduceLeDiff, Int.reduceLT, Int.reduceLE, Int.reduceEq, Option.isSome_some, implies_true, false_implies, Prod.mk.injEq, ne_eq, not_false_eq_true, not_true_eq_false, ge_iff_le, gt_iff_lt, Int.toNat_natCast, Int.reduceToNat, Int.cast_ofNat_Int, Int.natCast_nonneg, h]
            refine awpLoop.intro (fun b : Nat => [(0, .i .i64 V), (1, .ref (.sl 0 0 0 0 LL.length 1)), (4, .ref (.ptr 1 0 0 0)), (6, .ref (.ptr 4 0 0 0)), (7, .ref (.ptr 10 0 0 0)), (125, .i .i64 V), (126, .i .i64 a), (14, .i .i64 a), (129, .i .i64 V), (130, .i .i64 b)]) (fun b => ⟨ms1 LL, [((1, 0), .lv true ([(0, .ints .u8 81 (List.replicate 81 0))])), ((4, 0), .lv true ([(0, .ints .u8 81 (tob th))])), ((10, 0), .lv true ([(0, .bools 81 (tbb th))]))], 600⟩)
              (fun b => b ≤ V ∧ ∀ y, y < b → a ≠ y → 0 ≤ th a y) (fun b => V - b) 0 ⟨by omega, fun y hy => absurd hy (by omega)⟩ ⟨[((1,0),(1,0)), ((4,0),(4,0)), ((10,0),(10,0))], rfl, ?_, ?_⟩ ?_
            · simp [wkEnv, lk, renV, renAt, renTo]
            · simp only [wkMem, hst]; simp [wkLoc, Mem.get, assoc, renBlk, renSegs, renSg]
            · rintro b ⟨hb, hqb⟩
              by_cases h' : (b : Int) < V
              · have w' := wrap_i64s (show b < 2 ^ 62 by omega)
                by_cases eab : a = b
                · have eabi : (a : Int) = (b : Int) := by omega
                  simp only [absE, absL, absF, reduceCtorEq, ↓reduceIte, Nat.reduceEqDiff, Nat.reduceAdd, Nat.reduceLT, Nat.reduceMul, Nat.reduceSub, Nat.reduceLeDiff, Int.reduceLT, Int.reduceLE, Int.reduceEq, Option.isSome_some, implies_true, false_implies, Prod.mk.injEq, ne_eq, not_false_eq_true, not_true_eq_false, ge_iff_le, gt_iff_lt, Int.toNat_natCast, Int.reduceToNat, Int.cast_ofNat_Int, Int.natCast_nonneg, h', eabi]
                  refine LoopNext.intro (b + 1) ⟨by omega, fun y hy hne => ?_⟩ (by omega) ⟨[((1,0),(1,0)), ((4,0),(4,0)), ((10,0),(10,0))], rfl, ?_, ?_⟩
                  · by_cases e : y = b
                    · subst e; exact absurd eab hne
                    · exact hqb y (by omega) hne
                  · simp [wkEnv, lk, renV, renAt, renTo, w', eabi]
                  · simp only [wkMem, hst]; simp [wkLoc, Mem.get, assoc, renBlk, renSegs, renSg]
                · have eabi : ¬(a : Int) = (b : Int) := by omega
                  have gc : (tbb th).getD (0 + a * 9 + b * 1) false = decide (0 ≤ th a b) := by
                    rw [show 0 + a * 9 + b * 1 = a * 9 + b by omega, tbb_get (by omega) (by omega)]
                  have la : (a : Int) < 9 := by omega
                  have lb : (b : Int) < 9 := by omega
                  have uv : 0 + a * 9 + b * 1 < 81 := by omega
                  by_cases hz : 0 ≤ th a b
                  · simp only [absE, absL, absF, reduceCtorEq, ↓reduceIte, Nat.reduceEqDiff, Nat.reduceAdd, Nat.reduceLT, Nat.reduceMul, Nat.reduceSub, Nat.reduceLeDiff, Int.reduceLT, Int.reduceLE, Int.reduceEq, Option.isSome_some, implies_true, false_implies, Prod.mk.injEq, ne_eq, not_false_eq_true, not_true_eq_false, ge_iff_le, gt_iff_lt, Int.toNat_natCast, Int.reduceToNat, Int.cast_ofNat_Int, Int.natCast_nonneg, h', eabi, gc, la, lb, uv, hz]
                    refine LoopNext.intro (b + 1) ⟨by omega, fun y hy hne => ?_⟩ (by omega) ⟨[((1,0),(1,0)), ((4,0),(4,0)), ((10,0),(10,0))], rfl, ?_, ?_⟩
                    · by_cases e : y = b
                      · subst e; omega
                      · exact hqb y (by omega) hne
                    · simp [wkEnv, lk, renV, renAt, renTo, w']
                    · simp only [wkMem, hst]; simp [wkLoc, Mem.get, assoc, renBlk, renSegs, renSg]
                  · have hno : thirdOk V LL = false := by
                      rw [hO]
                      cases hc : cmplB V th
                      · rfl
                      · have := cmplB_iff.1 hc a (by omega) b (by omega) eab; omega
                    simp only [absE, absL, absF, reduceCtorEq, ↓reduceIte, Nat.reduceEqDiff, Nat.reduceAdd, Nat.reduceLT, Nat.reduceMul, Nat.reduceSub, Nat.reduceLeDiff, Int.reduceLT, Int.reduceLE, Int.reduceEq, Option.isSome_some, implies_true, false_implies, Prod.mk.injEq, ne_eq, not_false_eq_true, not_true_eq_false, ge_iff_le, gt_iff_lt, Int.toNat_natCast, Int.reduceToNat, Int.cast_ofNat_Int, Int.natCast_nonneg, h', eabi, gc, la, lb, uv, hz, Try.results139]
                    repeat first | refine And.intro (by decide +kernel) ?_ | refine And.intro (by omega) ?_
                    exact ⟨[], by simp, by simp, tob th, tob_len, fun hh => absurd hh (by simp [hno]), by simp [renV, renVs, renSegs, renSg, hno], hfin, by simp⟩
              · simp only [absE, absL, absF, reduceCtorEq, ↓reduceIte, Nat.reduceEqDiff, Nat.reduceAdd, Nat.reduceLT, Nat.reduceMul, Nat.reduceSub, Nat.reduceLeDiff, Int.reduceLT, Int.reduceLE, Int.reduceEq, Option.isSome_some, implies_true, false_implies, Prod.mk.injEq, ne_eq, not_false_eq_true, not_true_eq_false, ge_iff_le, gt_iff_lt, Int.toNat_natCast, Int.reduceToNat, Int.cast_ofNat_Int, Int.natCast_nonneg, h', w]
                refine LoopNext.intro (a + 1) ⟨by omega, fun x hx y hy hne => ?_⟩ (by omega) ⟨[((1,0),(1,0)), ((4,0),(4,0)), ((10,0),(10,0))], rfl, ?_, ?_⟩
                · by_cases e : x = a
                  · subst e; exact hqb y (by omega) hne
                  · exact hqa x (by omega) y hy hne
                · simp [wkEnv, lk, renV, renAt, renTo]
                · simp only [wkMem, hst]; simp [wkLoc, Mem.get, assoc, renBlk, renSegs, renSg]
          · have hyes : thirdOk V LL = true := by
              rw [hO]
              exact cmplB_iff.2 fun x hx y hy hne => hqa x (by omega) y (by omega) hne
            simp only [absE, absL, absF, reduceCtorEq, ↓reduceIte, Nat.reduceEqDiff, Nat.reduceAdd, Nat.reduceLT, Nat.reduceMul, Nat.reduceSub, Nat.reduceLeDiff, Int.reduceLT, Int.reduceLE, Int.reduceEq, Option.isSome_some, implies_true, false_implies, Prod.mk.injEq, ne_eq, not_false_eq_true, not_true_eq_false, ge_iff_le, gt_iff_lt, Int.toNat_natCast, Int.reduceToNat, Int.cast_ofNat_Int, Int.natCast_nonneg, h, Try.results139]
            repeat first | refine And.intro (by decide +kernel) ?_ | refine And.intro (by omega) ?_
            exact ⟨[], by simp, by simp, tob th, tob_len, fun _ => by rw [hF], by simp [renV, renVs, renSegs, renSg, hyes], hfin, by simp⟩
  · have hvd : decide (1 ≤ v ∧ v ≤ 9) = false := decide_eq_false hv
    have hno : thirdOk v LL = false := by unfold thirdOk; rw [hvd]; rfl
    simp only [absE, absL, absF, reduceCtorEq, ↓reduceIte, Nat.reduceEqDiff, Nat.reduceAdd, Nat.reduceLT, Nat.reduceMul, Nat.reduceSub, Nat.reduceLeDiff, Int.reduceLT, Int.reduceLE, Int.reduceEq, Option.isSome_some, implies_true, false_implies, Prod.mk.injEq, ne_eq, not_false_eq_true, not_true_eq_false, ge_iff_le, gt_iff_lt, Int.toNat_natCast, Int.reduceToNat, Int.cast_ofNat_Int, Int.natCast_nonneg, hvd, Try.results139]
    repeat first | refine And.intro (by decide +kernel) ?_ | refine And.intro (by omega) ?_
    exact ⟨[], by simp, by simp, List.replicate 81 0, by simp, fun hh => absurd hh (by simp [hno]), by simp [renV, renVs, renSegs, renSg, hno], hfin, by simp⟩

end Go.Proofs.Ytoccbgffekhcaaa
