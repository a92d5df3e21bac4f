/-
Contracts of functions of the given program, by the abstract walk.
-/
import Derived.Test.YtjmenocghjggcaaAbsY
import Derived.Test.YtjmenocghjggcaaWs
namespace Go.Proofs.Ytjmenocghjggcaa
open Go Go.Abs
set_option linter.unusedVariables false
set_option linter.unusedSectionVars false
set_option linter.unusedSimpArgs false
set_option maxRecDepth 100000
/-! linear algebra modulo p: the reference's solutions -/
def slA (I : LLs) (due : List Int) : List Blk := ms1 I ++ [ib due]
theorem slA_0 {I : LLs} {due : List Int} : (slA I due).getD 0 .dead = ob 0 1 I := rfl
theorem slA_at {I : LLs} {due : List Int} {i : Nat} (h : i < I.length) : (slA I due).getD (1 + i) .dead = ib (at_ I i) := by
  unfold slA
  rw [List.getD_eq_getElem?_getD, List.getElem?_append_left (by simp [ms1, inn_len]; omega), ← List.getD_eq_getElem?_getD, ms1_at h]
theorem slA_due {I : LLs} {due : List Int} : (slA I due).getD (1 + I.length) .dead = ib due := by
  unfold slA
  rw [List.getD_eq_getElem?_getD, List.getElem?_append_right (by simp [ms1, inn_len]; omega)]
  simp [ms1, inn_len, show 1 + I.length - (I.length + 1) = 0 by omega]
theorem slA_ren {σ : Ren} (hs : ∀ k, σ 0 k = some (0, k)) {I : LLs} {due : List Int} : (slA I due).map (renBlk σ) = slA I due := by
  unfold slA; rw [List.map_append, ms1_ren hs]; simp [ib, renBlk, renSegs, renSg]
theorem take_atL {L : LLs} {k : Nat} (h : k < L.length) : L.take (k + 1) = L.take k ++ [at_ L k] := by
  rw [List.take_succ_eq_append_getElem h, at_lt h]
theorem extL_at {N : Nat} {I : LLs} {k : Nat} (h : k < I.length) : at_ (extL N I) k = at_ I k ++ unitK N k := by
  show (extL N I).getD k [] = _; unfold extL; simp [h]
/-- what the solution hands back: the list at 15, its rows, the sum at 18 -/
def keepZ (m : Nat) : List Abs.Id := (15, 0) :: (srcs 16 0 m ++ [(18, 0)])
theorem keepZ_16 {m j : Nat} (h : j < m) : renFin (keepZ m) 16 (0 + j) = some (1, 1 + j) := by
  simp only [renFin, keepZ, idx, idx_app, idx_srcs_in h]
  simp; omega
theorem keepZ_18 {m : Nat} : renFin (keepZ m) 18 0 = some (1, m + 1) := by
  have e : idx (srcs 16 0 m) 18 0 = none := by rw [idx_srcs, if_neg]; simp
  simp only [renFin, keepZ, idx, idx_app, e, srcs_len]
  simp
theorem keepZ_nodup {m : Nat} : (keepZ m).Nodup := by
  unfold keepZ
  rw [List.nodup_cons, List.nodup_append]
  refine ⟨fun h => ?_, srcs_nodup, by simp, fun p hp q hq e => ?_⟩
  · rcases List.mem_append.1 h with h | h
    · have := (srcs_mem.1 h).1; simp at this
    · simp at h
  · subst e
    have h1 := (srcs_mem.1 hp).1
    simp only [List.mem_singleton] at hq
    rw [hq] at h1; simp at h1
theorem keepZ_nz {m : Nat} : ∀ p ∈ keepZ m, p.1 ≠ 0 := by
  intro p hp
  unfold keepZ at hp
  rcases List.mem_cons.1 hp with rfl | hp
  · simp
  · rcases List.mem_append.1 hp with hp | hp
    · rw [(srcs_mem.1 hp).1]; decide
    · simp only [List.mem_singleton] at hp; subst hp; simp
theorem keepZ_map {Q : LLs} {s : List Int} {mem : Mem} (h0 : mem.get 15 0 = ob 16 0 Q) (hi : ∀ j, j < Q.length → mem.get 16 (0 + j) = ib (at_ Q j)) (h1 : mem.get 18 0 = ib s) :
    (keepZ Q.length).map (fun q => renBlk (renFin (keepZ Q.length)) (mem.get q.1 q.2)) = ob 1 1 Q :: (inn Q ++ [ib s]) := by
  have r1 : renBlk (renFin (keepZ Q.length)) (ob 16 0 Q) = ob 1 1 Q := ob_ren fun j hj => keepZ_16 hj
  have g1 := srcs_get (σ := renFin (keepZ Q.length)) (mem := mem) (a := 16) (k := 0) (LL := Q) hi
  generalize renFin (keepZ Q.length) = τ at r1 g1 ⊢
  rw [keepZ, List.map_cons, List.map_append, g1, h0, r1, List.map_cons, List.map_nil, h1]
  rfl
set_option maxHeartbeats 4000000 in
theorem l10Solve_ok (N : Nat) (p : Int) (I : LLs) (due : List Int) (hp : PrP p) (hN : N ≤ 10) (hN1 : 1 ≤ N) (hIl : I.length = N) (hm : Mat p N I) (hdl : due.length = N) (hdr : RngP p due) :
    ACalls Try.prog 36 [.i .i64 p, .ref (.sl 0 0 0 0 N 1), .ref (.sl 0 (1 + N) 0 0 N 1)] (slA I due)
      (fun v ms ns => v = .tup [.ref (.sl 1 0 0 0 (sovK p N I).length 1), .ref (.sl 1 ((sovK p N I).length + 1) 0 0 N 1), .b (decide (fsP N (sovS p N (sovD p N I) due (sovD p N I).length).1 = N))] ∧ ms = slA I due ∧
        ns = ob 1 1 (sovK p N I) :: (inn (sovK p N I) ++ [ib (sovS p N (sovD p N I) due (sovD p N I).length).2])) := by
  have hp2 := hp.le
  have p0 : ¬ p = 0 := by omega
  have hlen : ∀ i, i < N → (at_ I i).length = N := fun i hi => hm.len _ (by rw [at_lt (by omega)]; exact List.getElem_mem _)
  have hX : (extL N I).length = N := by rw [extL_len, hIl]
  have hXl : ∀ i, i < N → (at_ (extL N I) i).length = N + N := fun i hi => by rw [extL_at (by omega), List.length_append, hlen i hi, unitK_len]
  have g0 := slA_0 (I := I) (due := due)
  refine acalls_of_body mix Try.func36 rfl fok36 (Nat.le_of_ble_eq_true rfl) ?_
  unfold abody
  simp only [absE, absL, absF, reduceCtorEq, ↓reduceIte, Nat.reduceEqDiff, Nat.reduceAdd, Nat.reduceLT, Nat.reduceMul, Nat.reduceSub, Nat.reduceLeDiff, Int.reduceLT, Int.reduceLE, Int.reduceEq, Option.isSome_some, implies_true, false_implies, Prod.mk.injEq, ne_eq, not_false_eq_true, not_true_eq_false, ge_iff_le, gt_iff_lt, Int.toNat_natCast, Int.reduceToNat, Int.cast_ofNat_Int, Int.natCast_nonneg, Try.f36]
  refine awpLoop.intro (fun k : Nat => [(0, .i .i64 p), (1, .ref (.sl 0 0 0 0 N 1)), (2, .ref (.sl 0 (1 + N) 0 0 N 1)), (9, .i .i64 N), (10, .i .i64 N), (11, .ref (.sl 13 0 0 0 k 1)), (12, .i .i64 k)]) (fun k => ⟨slA I due, ((13, 0), .lv true [(0, .cells k (outs 14 0 ((extL N I).take k)))]) :: rbag 14 0 ((extL N I).take k), 200⟩) (fun k => k ≤ N) (fun k => N - k) 0 (by omega) ⟨[((8, 0), (13, 0))], rfl, ?_, ?_⟩ ?_
  · simp [wkEnv, lk, renV, renAt, renTo]
  · simp [wkMem, slA_ren renTo_zero, wkLoc, Mem.get, assoc, renBlk, renSegs, renSg, rbag_nil, outs_nil]
  · intro k hk
    by_cases h : (k : Int) < N
    · have hkN : k < N := by omega
      have hLs : (extL N I).take (k + 1) = (extL N I).take k ++ [at_ (extL N I) k] := take_atL (by omega)
      have hLl : ((extL N I).take k).length = k := by rw [List.length_take]; omega
      have hxe : at_ (extL N I) k = at_ I k ++ unitK N k := extL_at (by omega)
      have hxl := hXl k hkN
      generalize (extL N I).take k = T at hLs hLl ⊢
      have w := wrap_i64s (show k < 2 ^ 62 by omega)
      have v1 : 0 + k * 1 < N := by omega
      have o1 : (outs 0 1 I).getD (0 + k * 1) .top = .sl 0 (1 + k) 0 0 N 1 := by rw [Nat.zero_add, Nat.mul_one, outs_get (by omega), hlen k hkN]
      have o1k : (outs 0 1 I).getD (0 + k) .top = .sl 0 (1 + k) 0 0 N 1 := by rw [Nat.zero_add, outs_get (by omega), hlen k hkN]
      have v1k : 0 + k < N := by omega
      have q1 : (slA I due).getD (1 + k) .dead = .lv true [(0, .ints .i64 N (at_ I k))] := by rw [slA_at (by omega), ib, hlen k hkN]
      have g00 : (slA I due).getD 0 .dead = .lv true [(0, .cells N (outs 0 1 I))] := by rw [g0, ob, hIl]
      have mk1 : k * 1 = k := Nat.mul_one _
      have mN : N * 1 = N := Nat.mul_one _
      have hU := l10UnitK_ok N k hN hkN
      have zN : 0 + N = N := Nat.zero_add N
      have NN1 : (N + N) * 1 = N + N := Nat.mul_one _
      simp only [absE, absL, absF, reduceCtorEq, ↓reduceIte, Nat.reduceEqDiff, Nat.reduceAdd, Nat.reduceLT, Nat.reduceMul, Nat.reduceSub, Nat.reduceLeDiff, Int.reduceLT, Int.reduceLE, Int.reduceEq, Option.isSome_some, implies_true, false_implies, Prod.mk.injEq, ne_eq, not_false_eq_true, not_true_eq_false, ge_iff_le, gt_iff_lt, Int.toNat_natCast, Int.reduceToNat, Int.cast_ofNat_Int, Int.natCast_nonneg, h, v1, v1k, o1, o1k, q1, g00, mk1, mN, zN, List.replicate_zero, List.nil_append]
      repeat refine And.intro (by omega) ?_
      refine CallsVia.args [] hU (by simp) (by simp) rfl rfl ?_
      rintro _ _ _ ⟨rfl, rfl, rfl⟩
      simp only [absE, absL, absF, reduceCtorEq, ↓reduceIte, Nat.reduceEqDiff, Nat.reduceAdd, Nat.reduceLT, Nat.reduceMul, Nat.reduceSub, Nat.reduceLeDiff, Int.reduceLT, Int.reduceLE, Int.reduceEq, Option.isSome_some, implies_true, false_implies, Prod.mk.injEq, ne_eq, not_false_eq_true, not_true_eq_false, ge_iff_le, gt_iff_lt, Int.toNat_natCast, Int.reduceToNat, Int.cast_ofNat_Int, Int.natCast_nonneg, mN, mk1, NN1]
      repeat refine And.intro (by omega) ?_
      refine LoopNext.intro (k + 1) (by omega) (by omega) ⟨[] ++ snocS (215, 0) 13 213 14 k, wkOk_snoc (next := 200) (by simp [wkOk]) (by decide) (by decide) (by decide) (by decide) (by simp) (by decide), ?_, ?_⟩
      · simp [wkEnv, lk, renV, renAt, snocS, renTo, w]
      · simp only [wkMem]
        rw [slA_ren renTo_zero, hLs, hxe, wk_snoc (LL := T) (xs := at_ I k ++ unitK N k) hLl.symm (by decide) (by decide) (by decide) (by simp) (by decide) (by rw [hxe] at hxl; simp [Mem.get, assoc, hxl]) (by rw [hxe] at hxl; simp [Mem.get, assoc, ib, hxl]) (fun j hj => by
          simp only [Mem.get, assoc]
          simp
          have q := assoc_rbag_in' (a := 14) (k := 0) (i := j) (LL := T) (by omega)
          rwa [Nat.zero_add] at q)]
        simp [wkLoc, ob, hLl]
    · obtain rfl : N = k := by omega
      have hT : (extL N I).take N = extL N I := List.take_of_length_le (by omega)
      rw [hT]
      have hXm : Mat p (N + N) (extL N I) := by
        refine ⟨fun a ha => ?_, fun a ha => ?_⟩
        · obtain ⟨i, hi, rfl⟩ := at_in ha
          exact hXl i (by omega)
        · obtain ⟨i, hi, rfl⟩ := at_in ha
          rw [hX] at hi
          rw [extL_at (by omega)]
          intro j
          by_cases hj : j < N
          · rw [List.getD_eq_getElem?_getD, List.getElem?_append_left (by rw [hlen i hi]; exact hj), ← List.getD_eq_getElem?_getD]
            exact hm.rng _ (by rw [at_lt (by omega)]; exact List.getElem_mem _) j
          · rw [List.getD_eq_getElem?_getD, List.getElem?_append_right (by rw [hlen i hi]; omega), ← List.getD_eq_getElem?_getD]
            exact unitK_rng hp hi _
      have hDD : sovD p N I = (redS p (N + N) (extL N I) N).1 := rfl
      have hRR : sovR p N I = (redS p (N + N) (extL N I) N).2 := rfl
      have hred := redS_red hp hXm (c := N) (by omega)
      have hKK : sovK p N I = (redS p N (kerR N (sovR p N I)) N).1 := rfl
      generalize hXX : extL N I = X at hX hXl hXm hDD hRR hred ⊢
      simp only [absE, absL, absF, reduceCtorEq, ↓reduceIte, Nat.reduceEqDiff, Nat.reduceAdd, Nat.reduceLT, Nat.reduceMul, Nat.reduceSub, Nat.reduceLeDiff, Int.reduceLT, Int.reduceLE, Int.reduceEq, Option.isSome_some, implies_true, false_implies, Prod.mk.injEq, ne_eq, not_false_eq_true, not_true_eq_false, ge_iff_le, gt_iff_lt, Int.toNat_natCast, Int.reduceToNat, Int.cast_ofNat_Int, Int.natCast_nonneg, h]
      refine red_via (rows := X) (O := 13) (B := 14) (L := N + N) hX.symm (by decide) (by decide) (by decide) (by decide) (by decide) (by decide) (by simp [assoc, ob, hX]) (fun i hi => by
        simp only [assoc]
        simp
        have q := assoc_rbag_in' (a := 14) (k := 0) (i := i) (LL := X) hi
        rwa [Nat.zero_add] at q) (by omega) (by omega) hp hXm (by omega) ?_
      intro ups rd loc' kR b hu hl hkR f0 f1 f2 f3
      rw [← hDD] at hkR f0 f1
      rw [← hDD] at hred
      rw [← hRR] at f2 f3 hred
      rw [← hDD, ← hRR]
      generalize sovD p N I = D at hkR f0 f1 hred ⊢
      generalize sovR p N I = R at f2 f3 hred hKK ⊢
      have hM := hred.mat hp.le.1 hXm
      have hcnt := hred.count
      rw [hX] at hcnt
      have hpv := hred.pv hp.le.1 hXm (by omega)
      have hRl : ∀ j, j < R.length → (at_ R j).length = N + N := fun j hj => hM.len _ (List.mem_append_right _ (by rw [at_lt hj]; exact List.getElem_mem _))
      have hDl : ∀ j, j < D.length → (at_ D j).length = N + N := fun j hj => hM.len _ (List.mem_append_left _ (by rw [at_lt hj]; exact List.getElem_mem _))
      have hDr : ∀ j, j < D.length → RngP p (at_ D j) := fun j hj => hM.rng _ (List.mem_append_left _ (by rw [at_lt hj]; exact List.getElem_mem _))
      simp only [hu]
      simp only [absE, absL, absF, reduceCtorEq, ↓reduceIte, Nat.reduceEqDiff, Nat.reduceAdd, Nat.reduceLT, Nat.reduceMul, Nat.reduceSub, Nat.reduceLeDiff, Int.reduceLT, Int.reduceLE, Int.reduceEq, Option.isSome_some, implies_true, false_implies, Prod.mk.injEq, ne_eq, not_false_eq_true, not_true_eq_false, ge_iff_le, gt_iff_lt, Int.toNat_natCast, Int.reduceToNat, Int.cast_ofNat_Int, Int.natCast_nonneg]
      have sD : ∀ a b, a < D.length → b < D.length → ((fun j => ((206, 1 + j) : Abs.Id)) a) = (fun j => ((206, 1 + j) : Abs.Id)) b → a = b := fun a b _ _ e => by have := congrArg (·.2) e; simp only at this; omega
      have sR : ∀ a c, a < R.length → c < R.length → restS 206 14 kR b a = restS 206 14 kR b c → a = c := fun a c _ _ e => by
        have := congrArg (·.2) e
        unfold restS at this
        cases b <;> simp at this <;> exact this
      have sRn : ∀ i, (restS 206 14 kR b i).1 ≠ 0 ∧ restS 206 14 kR b i ≠ (206, 0) ∧ restS 206 14 kR b i ≠ (206, kR) ∧ restS 206 14 kR b i ≠ (212, 0) ∧ ∀ j, j < D.length → (206, 1 + j) ≠ restS 206 14 kR b i := fun i => by
        unfold restS
        cases b
        · simp only [Bool.false_eq_true, if_false]
          exact ⟨by decide, by simp, by simp; omega, by simp, fun j hj => by simp; omega⟩
        · simp
      have hok0 : wkOk ([((212, 0), (18, 0)), ((206, 0), (13, 0)), ((206, kR), (15, 0))] ++ (segR (fun j => (206, 1 + j)) D.length 14 ++ segR (restS 206 14 kR b) R.length 16)) 200 = true := ok_two (by simp [wkOk]; omega) sD sR (fun _ _ => by simp) (fun i _ => (sRn i).1) (by decide) (by decide) (by decide) (by decide) (by decide) (fun x hx i hi => by
          simp only [List.mem_cons, List.not_mem_nil, or_false] at hx
          rcases hx with rfl | rfl | rfl <;> simp <;> omega) (fun x hx i hi e => by
          simp only [List.mem_cons, List.not_mem_nil, or_false] at hx
          rcases hx with rfl | rfl | rfl
          · exact (sRn i).2.2.2.1 e.symm
          · exact (sRn i).2.1 e.symm
          · exact (sRn i).2.2.1 e.symm) (by simp) (by simp) (fun i j hi _ => (sRn j).2.2.2.2 i hi)
      have hKl : (kerR N R).length = R.length := by simp [kerR]
      have hKat : ∀ j, j < R.length → at_ (kerR N R) j = (at_ R j).drop N := fun j hj => by
        rw [at_lt (by omega), at_lt hj]; simp [kerR]
      refine awpLoop.intro (fun k : Nat => [(0, .i .i64 p), (2, .ref (.sl 0 (1 + N) 0 0 N 1)), (9, .i .i64 N), (10, .i .i64 N), (13, .ref (.sl 13 0 0 0 D.length 1)), (14, .ref (.sl 15 0 0 0 R.length 1)), (15, .ref (.sl 18 0 0 0 k 1)), (16, .i .i64 k)]) (fun k => ⟨slA I due, ((18, 0), .lv true [(0, .cells k (outs 19 0 ((kerR N R).take k)))]) :: (rbag 19 0 ((kerR N R).take k) ++ rdL D R false), 200⟩) (fun k => k ≤ R.length) (fun k => R.length - k) 0 (by omega) ⟨[((212, 0), (18, 0)), ((206, 0), (13, 0)), ((206, kR), (15, 0))] ++ (segR (fun j => (206, 1 + j)) D.length 14 ++ segR (restS 206 14 kR b) R.length 16), hok0, ?_, ?_⟩ ?_
      · have r1 := renTo_ok (p := (212, 0)) (q := (18, 0)) hok0 (by simp) (by simp)
        have r2 := renTo_ok (p := (206, 0)) (q := (13, 0)) hok0 (by simp) (by simp)
        have r3 := renTo_ok (p := (206, kR)) (q := (15, 0)) hok0 (by simp) (by simp)
        have z0 := renTo_zero (σ := [((212, 0), (18, 0)), ((206, 0), (13, 0)), ((206, kR), (15, 0))] ++ (segR (fun j => (206, 1 + j)) D.length 14 ++ segR (restS 206 14 kR b) R.length 16)) (1 + N)
        simp only [wkEnv]
        generalize renTo ([((212, 0), (18, 0)), ((206, 0), (13, 0)), ((206, kR), (15, 0))] ++ (segR (fun j => (206, 1 + j)) D.length 14 ++ segR (restS 206 14 kR b) R.length 16)) = τ at r1 r2 r3 z0 ⊢
        simp [lk, renV, renAt, r1, r2, r3, z0]
      · have w1 : (outs 206 1 D).map (renAt (renTo ([((212, 0), (18, 0)), ((206, 0), (13, 0)), ((206, kR), (15, 0))] ++ (segR (fun j => (206, 1 + j)) D.length 14 ++ segR (restS 206 14 kR b) R.length 16)))) = outs 14 0 D := by
          rw [outs_S]; exact outsS_ren fun j hj => renTo_ok (p := (206, 1 + j)) hok0 (by simp) (List.mem_append_right _ (List.mem_append_left _ (seg_mem (src := fun j => (206, 1 + j)) hj)))
        have w2 : (outsS (restS 206 14 kR b) R).map (renAt (renTo ([((212, 0), (18, 0)), ((206, 0), (13, 0)), ((206, kR), (15, 0))] ++ (segR (fun j => (206, 1 + j)) D.length 14 ++ segR (restS 206 14 kR b) R.length 16)))) = outs 16 0 R := outsS_ren fun j hj => renTo_ok hok0 (sRn j).1 (List.mem_append_right _ (List.mem_append_right _ (seg_mem hj)))
        have ea : ∀ a k, (a, k) ≠ ((212, 0) : Abs.Id) → assoc (((212, 0), .lv true [(0, .cells 0 (List.replicate 0 .nils))]) :: loc') a k = assoc loc' a k := fun a k hne => by
          rw [assoc, if_neg (fun e => hne (by rw [← e.1, ← e.2]))]
        simp only [wkMem, List.take_zero, rbag_nil, outs_nil, List.nil_append]
        rw [slA_ren renTo_zero, wk_two (L1 := D) (L2 := R) rfl rfl (fun j hj => by
            show (if (206 : Nat) = 0 then _ else assoc _ 206 (1 + j)) = _
            rw [if_neg (by decide), ea _ _ (by simp)]; exact f1 j hj) (fun j hj => by
            show (if (restS 206 14 kR b j).1 = 0 then _ else assoc _ (restS 206 14 kR b j).1 (restS 206 14 kR b j).2) = _
            rw [if_neg (sRn j).1, ea (restS 206 14 kR b j).1 (restS 206 14 kR b j).2 (fun e => (sRn j).2.2.2.1 (by rw [← e]))]; exact f3 j hj)]
        generalize renTo ([((212, 0), (18, 0)), ((206, 0), (13, 0)), ((206, kR), (15, 0))] ++ (segR (fun j => (206, 1 + j)) D.length 14 ++ segR (restS 206 14 kR b) R.length 16)) = τ at w1 w2 ⊢
        simp [wkLoc, Mem.get, assoc, renBlk, renSegs, renSg, f0, f2, w1, w2, rdL, bagA, show outsS (srcA false) R = outs 16 0 R from outs_S.symm]
      · intro k hk
        by_cases hkR2 : (k : Int) < R.length
        · have hkR3 : k < R.length := by omega
          have wk := wrap_i64s (show k < 2 ^ 62 by omega)
          have hLs : (kerR N R).take (k + 1) = (kerR N R).take k ++ [(at_ R k).drop N] := by rw [take_atL (by omega), hKat k hkR3]
          have hLl : ((kerR N R).take k).length = k := by rw [List.length_take]; omega
          generalize (kerR N R).take k = T at hLs hLl ⊢
          have lk1 := hRl k hkR3
          have v1 : 0 + k * 1 < R.length := by omega
          have v1k : 0 + k < R.length := by omega
          have o1 : (outsS (srcA false) R).getD (0 + k * 1) .top = .sl 16 k 0 0 (N + N) 1 := by rw [Nat.zero_add, Nat.mul_one, outsS_get hkR3, lk1]; simp [srcA]
          have o1k : (outsS (srcA false) R).getD (0 + k) .top = .sl 16 k 0 0 (N + N) 1 := by rw [Nat.zero_add, outsS_get hkR3, lk1]; simp [srcA]
          have q16 : assoc (rbag 19 0 T ++ rdL D R false) 16 k = .lv true [(0, .ints .i64 (N + N) (at_ R k))] := by
            rw [assoc_rbag_ne (by decide)]
            have q := rdL_16 (D := D) (R := R) (b := false) (j := k) hkR3
            rw [Nat.zero_add] at q; rw [q, ib, show bagA false R = R from rfl, lk1]
          have q15 : assoc (rbag 19 0 T ++ rdL D R false) 15 0 = .lv true [(0, .cells R.length (outsS (srcA false) R))] := by rw [assoc_rbag_ne (by decide), rdL_15]
          have mk1 : k * 1 = k := Nat.mul_one _
          have mN : N * 1 = N := Nat.mul_one _
          have zN : 0 + N = N := Nat.zero_add N
          have n2 : N + N - N = N := by omega
          have hN0 : ¬ N = 0 := by omega
          have td : List.take N (List.drop N (at_ R k)) = List.drop N (at_ R k) := List.take_of_length_le (by rw [List.length_drop, lk1]; omega)
          have hxl : ((at_ R k).drop N).length = N := by rw [List.length_drop, lk1]; omega
          have zk : 0 + k = k := Nat.zero_add k
          simp only [absE, absL, absF, reduceCtorEq, ↓reduceIte, Nat.reduceEqDiff, Nat.reduceAdd, Nat.reduceLT, Nat.reduceMul, Nat.reduceSub, Nat.reduceLeDiff, Int.reduceLT, Int.reduceLE, Int.reduceEq, Option.isSome_some, implies_true, false_implies, Prod.mk.injEq, ne_eq, not_false_eq_true, not_true_eq_false, ge_iff_le, gt_iff_lt, Int.toNat_natCast, Int.reduceToNat, Int.cast_ofNat_Int, Int.natCast_nonneg, hkR2, v1, v1k, o1, o1k, q16, q15, mk1, mN, zN, n2, hN0, td, List.replicate_zero, List.nil_append]
          repeat refine And.intro (by omega) ?_
          generalize (at_ R k).drop N = xs at hLs hxl ⊢
          have hok := grow19_ok (A := [((214, 0), (18, 0))]) (b := false) (D := D) (R := R) (n := T.length) (t := 212) (by simp [wkOk]) (by decide) (by simp)
          rw [← show (T ++ [xs]).length = T.length + 1 by simp] at hok
          have r13 := renTo_ok (p := (13, 0)) (q := (13, 0)) hok (by simp) (by simp [keepG])
          have r15 := renTo_ok (p := (15, 0)) (q := (15, 0)) hok (by simp) (by simp [keepG])
          have r18 := renTo_ok (p := (214, 0)) (q := (18, 0)) hok (by simp) (by simp [keepG])
          have z0 := renTo_zero (σ := [((214, 0), (18, 0))] ++ segR (growS 19 212 T.length) (T ++ [xs]).length 19 ++ keepG stdS (13, 0) D.length false R) (1 + N)
          have r4 := ren4 (RR := T ++ [xs]) hok (fun i _ => by have q := growS_fst (B := 19) (t := 212) (n := T.length) (i := i); omega)
          rw [← outs_grow, hxl] at r4
          refine LoopNext.intro (k + 1) (by omega) (by omega) ⟨[((214, 0), (18, 0))] ++ segR (growS 19 212 T.length) (T ++ [xs]).length 19 ++ keepG stdS (13, 0) D.length false R, hok, ?_, ?_⟩
          · simp only [wkEnv]
            generalize renTo ([((214, 0), (18, 0))] ++ segR (growS 19 212 T.length) (T ++ [xs]).length 19 ++ keepG stdS (13, 0) D.length false R) = τ at r13 r15 r18 z0 ⊢
            simp [lk, renV, renAt, r13, r15, r18, z0, wk]
          · simp only [wkMem]
            rw [slA_ren renTo_zero, hLs, keep4_wk (RR := T ++ [xs]) hok (fun _ _ => by simp [stdS]) (fun i hi => by
                unfold growS
                by_cases e : i < T.length
                · rw [if_pos e]
                  have q := assoc_rbag_in (a := 19) (k := 0) (i := i) (LL := T) (r := rdL D R false) e
                  simp only [Nat.zero_add] at q ⊢
                  simp [Mem.get, assoc, q, at_app, show ¬ i = T.length by omega]
                · rw [if_neg e]
                  obtain rfl : i = T.length := by simp at hi; omega
                  simp [Mem.get, assoc, at_app, ib, hxl]) (by
                have q := rdL_13 (D := D) (R := R) (b := false)
                simp [Mem.get, assoc, assoc_rbag_ne, q]) (by simp [Mem.get, assoc, q15]) (fun i hi => by
                have q := rdL_14 (D := D) (R := R) (b := false) hi
                simp only [Nat.zero_add, stdS] at q ⊢
                simp [Mem.get, assoc, assoc_rbag_ne, q]) (fun i hi => by
                have q := rdL_16 (D := D) (R := R) (b := false) hi
                simp only [Nat.zero_add] at q ⊢
                simp [Mem.get, assoc, assoc_rbag_ne, q])]
            generalize renTo ([((214, 0), (18, 0))] ++ segR (growS 19 212 T.length) (T ++ [xs]).length 19 ++ keepG stdS (13, 0) D.length false R) = τ at r4 ⊢
            simp only [List.map_append, List.map_cons, List.map_nil] at r4
            simp [wkLoc, Mem.get, assoc, renBlk, renSegs, renSg, r4, hLl]
        · obtain rfl : k = R.length := by omega
          have hT : (kerR N R).take R.length = kerR N R := List.take_of_length_le (by omega)
          rw [hT]
          have hKm : Mat p N (kerR N R) := kerR_mat ⟨fun a ha => hM.len a (by simp [ha]), fun a ha => hM.rng a (by simp [ha])⟩
          simp only [absE, absL, absF, reduceCtorEq, ↓reduceIte, Nat.reduceEqDiff, Nat.reduceAdd, Nat.reduceLT, Nat.reduceMul, Nat.reduceSub, Nat.reduceLeDiff, Int.reduceLT, Int.reduceLE, Int.reduceEq, Option.isSome_some, implies_true, false_implies, Prod.mk.injEq, ne_eq, not_false_eq_true, not_true_eq_false, ge_iff_le, gt_iff_lt, Int.toNat_natCast, Int.reduceToNat, Int.cast_ofNat_Int, Int.natCast_nonneg, hkR2]
          have m13 : ∀ rest : Loc, assoc (((18, 0), .lv true [(0, .cells R.length (outs 19 0 (kerR N R)))]) :: (rbag 19 0 (kerR N R) ++ rdL D R false)) 13 0 = .lv true [(0, .cells D.length (outsS stdS D))] := fun _ => by
            rw [assoc, if_neg (by simp), assoc_rbag_ne (by decide), rdL_13]
          have m14 : ∀ j, j < D.length → assoc (((18, 0), .lv true [(0, .cells R.length (outs 19 0 (kerR N R)))]) :: (rbag 19 0 (kerR N R) ++ rdL D R false)) 14 (0 + j) = ib (at_ D j) := fun j hj => by
            rw [assoc, if_neg (by simp), assoc_rbag_ne (by decide), rdL_14 hj]
          refine red_via (rows := kerR N R) (O := 18) (B := 19) (L := N) hKl.symm (by decide) (by decide) (by decide) (by decide) (by decide) (by decide) (by simp [assoc, ob, hKl]) (fun i hi => by
            have q := assoc_rbag_in (a := 19) (k := 0) (i := i) (LL := kerR N R) (r := rdL D R false) hi
            rw [assoc, if_neg (by simp), q]) (by omega) (Nat.le_refl N) hp hKm (by omega) ?_
          intro ups2 rd2 loc2 kR2 b2 hu2 hl2 _ e0 e1 _ _
          rw [← hKK] at e0 e1 ⊢
          have n13 : assoc loc2 13 0 = .lv true [(0, .cells D.length (outsS stdS D))] := by rw [hl2 13 0 (by decide)]; exact m13 []
          have n14 : ∀ j, j < D.length → assoc loc2 14 (0 + j) = ib (at_ D j) := fun j hj => by rw [hl2 14 _ (by decide)]; exact m14 j hj
          generalize sovK p N I = Q at e0 e1 ⊢
          have gd : (slA I due).getD (1 + N) .dead = .lv true [(0, .ints .i64 N due)] := by
            have q := slA_due (I := I) (due := due)
            rw [hIl, ib, hdl] at q; exact q
          have zN : 0 + N = N := Nat.zero_add N
          have mN : N * 1 = N := Nat.mul_one _
          have N8 : (N : Int) * 8 ≤ 140737488355328 := by omega
          simp only [hu2]
          simp only [absE, absL, absF, reduceCtorEq, ↓reduceIte, Nat.reduceEqDiff, Nat.reduceAdd, Nat.reduceLT, Nat.reduceMul, Nat.reduceSub, Nat.reduceLeDiff, Int.reduceLT, Int.reduceLE, Int.reduceEq, Option.isSome_some, implies_true, false_implies, Prod.mk.injEq, ne_eq, not_false_eq_true, not_true_eq_false, ge_iff_le, gt_iff_lt, Int.toNat_natCast, Int.reduceToNat, Int.cast_ofNat_Int, Int.natCast_nonneg, gd, zN, mN, N8, List.replicate_zero, List.nil_append]
          repeat refine And.intro (by omega) ?_
          refine And.intro (chk_m (l := [(0, false)]) rfl (by decide +kernel)) (And.intro (by simp [chk, disj]) ?_)
          have hok0 : wkOk ([((214, 0), (17, 0)), ((216, 0), (18, 0)), ((13, 0), (13, 0)), ((207, 0), (15, 0))] ++ (segR stdS D.length 14 ++ segR (fun j => (207, 1 + j)) Q.length 16)) 200 = true := ok_two (by simp [wkOk]) stdS_inj (fun a b _ _ e => by have := congrArg (·.2) e; simp only at this; omega) (fun _ _ => by simp [stdS]) (fun i _ => by simp) (by decide) (by decide) (by decide) (by decide) (by decide) (fun x hx i hi => by
            simp only [List.mem_cons, List.not_mem_nil, or_false] at hx
            rcases hx with rfl | rfl | rfl | rfl <;> simp [stdS]) (fun x hx i hi => by
            simp only [List.mem_cons, List.not_mem_nil, or_false] at hx
            rcases hx with rfl | rfl | rfl | rfl <;> simp; omega) (by simp) (by simp) (fun i j hi _ => by simp [stdS])
          have hF := fun i => sovS_facts (p := p) (N := N) (D := D) (due := due) hp hdl hdr (i := i)
          refine awpLoop.intro (fun i : Nat => [(0, .i .i64 p), (10, .i .i64 N), (13, .ref (.sl 13 0 0 0 D.length 1)), (15, .ref (.sl 15 0 0 0 Q.length 1)), (17, .ref (.sl 17 0 0 0 N 1)), (18, .ref (.sl 18 0 0 0 N 1)), (19, .i .i64 i)]) (fun i => ⟨slA I due, ((17, 0), .lv true [(0, .ints .i64 N (sovS p N D due i).1)]) :: ((18, 0), .lv true [(0, .ints .i64 N (sovS p N D due i).2)]) :: rdL D Q false, 200⟩) (fun i => i ≤ D.length) (fun i => D.length - i) 0 (by omega) ⟨[((214, 0), (17, 0)), ((216, 0), (18, 0)), ((13, 0), (13, 0)), ((207, 0), (15, 0))] ++ (segR stdS D.length 14 ++ segR (fun j => (207, 1 + j)) Q.length 16), hok0, ?_, ?_⟩ ?_
          · have r1 := renTo_ok (p := (214, 0)) (q := (17, 0)) hok0 (by simp) (by simp)
            have r2 := renTo_ok (p := (216, 0)) (q := (18, 0)) hok0 (by simp) (by simp)
            have r3 := renTo_ok (p := (13, 0)) (q := (13, 0)) hok0 (by simp) (by simp)
            have r4 := renTo_ok (p := (207, 0)) (q := (15, 0)) hok0 (by simp) (by simp)
            simp only [wkEnv]
            generalize renTo ([((214, 0), (17, 0)), ((216, 0), (18, 0)), ((13, 0), (13, 0)), ((207, 0), (15, 0))] ++ (segR stdS D.length 14 ++ segR (fun j => (207, 1 + j)) Q.length 16)) = τ at r1 r2 r3 r4 ⊢
            simp [lk, renV, renAt, r1, r2, r3, r4]
          · have w1 : (outsS stdS D).map (renAt (renTo ([((214, 0), (17, 0)), ((216, 0), (18, 0)), ((13, 0), (13, 0)), ((207, 0), (15, 0))] ++ (segR stdS D.length 14 ++ segR (fun j => (207, 1 + j)) Q.length 16)))) = outs 14 0 D := outsS_ren fun j hj => renTo_ok hok0 (by simp [stdS]) (List.mem_append_right _ (List.mem_append_left _ (seg_mem hj)))
            have w2 : (outs 207 1 Q).map (renAt (renTo ([((214, 0), (17, 0)), ((216, 0), (18, 0)), ((13, 0), (13, 0)), ((207, 0), (15, 0))] ++ (segR stdS D.length 14 ++ segR (fun j => (207, 1 + j)) Q.length 16)))) = outs 16 0 Q := by
              rw [outs_S]; exact outsS_ren fun j hj => renTo_ok (p := (207, 1 + j)) hok0 (by simp) (List.mem_append_right _ (List.mem_append_right _ (seg_mem (src := fun j => (207, 1 + j)) hj)))
            simp only [wkMem]
            rw [slA_ren renTo_zero, wk_two (L1 := D) (L2 := Q) rfl rfl (fun j hj => by
                have q := n14 j hj
                simp only [stdS, Nat.zero_add] at q ⊢
                simp [Mem.get, assoc, q]) (fun j hj => by simp [Mem.get, assoc, e1 j hj])]
            generalize renTo ([((214, 0), (17, 0)), ((216, 0), (18, 0)), ((13, 0), (13, 0)), ((207, 0), (15, 0))] ++ (segR stdS D.length 14 ++ segR (fun j => (207, 1 + j)) Q.length 16)) = τ at w1 w2 ⊢
            simp [wkLoc, Mem.get, assoc, renBlk, renSegs, renSg, n13, e0, w1, w2, rdL, bagA, sovS, show outsS (srcA false) Q = outs 16 0 Q from outs_S.symm]
          · intro i hi
            obtain ⟨ll, ls, lr, lsr⟩ := hF i
            have hst : sovS p N D due (i + 1) = (addS p (sovS p N D due i).1 (at_ D i) (-((sovS p N D due i).1.getD (fsP N (at_ D i)) 0)) N, addS p (sovS p N D due i).2 ((at_ D i).drop N) ((sovS p N D due i).1.getD (fsP N (at_ D i)) 0) N) := rfl
            by_cases hiD : (i : Int) < D.length
            · have hiD2 : i < D.length := by omega
              have wi := wrap_i64s (show i < 2 ^ 62 by omega)
              generalize (sovS p N D due i).1 = l at ll lr hst ⊢
              generalize (sovS p N D due i).2 = s at ls lsr hst ⊢
              have lD := hDl i hiD2
              have rD := hDr i hiD2
              obtain ⟨jv, hjv1, hjv2⟩ := hpv (at_ D i) (by rw [at_lt hiD2]; exact List.getElem_mem _)
              have hfl : fsP N (at_ D i) < N := by
                rcases Nat.lt_or_ge (fsP N (at_ D i)) N with h1 | h1
                · exact h1
                · exact absurd (fsP_none (w := N) (a := at_ D i) (k := jv) (by omega)) hjv2
              have hfV : fsV N (at_ D i) = fsP N (at_ D i) := by unfold fsV; rw [if_pos hfl]
              have v1 : 0 + i * 1 < D.length := by omega
              have o1 : (outsS stdS D).getD (0 + i * 1) .top = .sl 14 i 0 0 (N + N) 1 := by rw [Nat.zero_add, Nat.mul_one, outsS_get hiD2, lD]; simp [stdS]
              have q13 := rdL_13 (D := D) (R := Q) (b := false)
              have q14 : assoc (rdL D Q false) 14 i = .lv true [(0, .ints .i64 (N + N) (at_ D i))] := by
                have q := rdL_14 (D := D) (R := Q) (b := false) (j := i) hiD2
                rw [Nat.zero_add] at q; rw [q, ib, lD]
              have hC := l10FirstP_ok N (N + N) (at_ D i) (by omega) (by omega)
              rw [hfV] at hC
              simp only [absE, absL, absF, reduceCtorEq, ↓reduceIte, Nat.reduceEqDiff, Nat.reduceAdd, Nat.reduceLT, Nat.reduceMul, Nat.reduceSub, Nat.reduceLeDiff, Int.reduceLT, Int.reduceLE, Int.reduceEq, Option.isSome_some, implies_true, false_implies, Prod.mk.injEq, ne_eq, not_false_eq_true, not_true_eq_false, ge_iff_le, gt_iff_lt, Int.toNat_natCast, Int.reduceToNat, Int.cast_ofNat_Int, Int.natCast_nonneg, hiD, v1, o1, q13, q14]
              refine CallsVia.args [(14, i)] hC (by simp) (by simp [Mem.get, assoc, q14]) (by simp [renVs, renV, renAt, renIn, idx]) (by simp [argBlks, Mem.get, assoc, q14, renBlk, renSegs, renSg]) ?_
              rintro _ _ _ ⟨rfl, rfl, rfl⟩
              have v2 : 0 + fsP N (at_ D i) * 1 < N := by omega
              have v2i : ((fsP N (at_ D i) : Nat) : Int) < N := by omega
              have g2 : l.getD (0 + fsP N (at_ D i) * 1) 0 = l.getD (fsP N (at_ D i)) 0 := by rw [Nat.zero_add, Nat.mul_one]
              have hfr := lr (fsP N (at_ D i))
              generalize l.getD (fsP N (at_ D i)) 0 = f at hfr hst g2 ⊢
              have wn : IntKind.i64.wrap (0 - f) = -f := by rw [Int.zero_sub]; exact wrap_i64 (by omega) (by omega)
              have n0 : N - 0 = N := Nat.sub_zero N
              have nz : 0 + N = N := Nat.zero_add N
              have n2 : N + N - N = N := by omega
              simp only [absE, absL, absF, reduceCtorEq, ↓reduceIte, Nat.reduceEqDiff, Nat.reduceAdd, Nat.reduceLT, Nat.reduceMul, Nat.reduceSub, Nat.reduceLeDiff, Int.reduceLT, Int.reduceLE, Int.reduceEq, Option.isSome_some, implies_true, false_implies, Prod.mk.injEq, ne_eq, not_false_eq_true, not_true_eq_false, ge_iff_le, gt_iff_lt, Int.toNat_natCast, Int.reduceToNat, Int.cast_ofNat_Int, Int.natCast_nonneg, v2, v2i, g2, v1, o1, q13, q14, wn, n0, nz, n2]
              repeat refine And.intro (by omega) ?_
              have hA1 := l10AddO_ok N (N + N) 0 p l (at_ D i) (-f) (by omega) hp lr rD (by omega) (by omega)
              rw [List.drop_zero] at hA1
              refine CallsVia.args [(17, 0), (14, i)] hA1 (by simp) (by simp [Mem.get, assoc, q14]) (by simp [renVs, renV, renAt, renIn, idx]) (by simp [argBlks, Mem.get, assoc, q14, renBlk, renSegs, renSg]) ?_
              rintro _ _ _ ⟨rfl, rfl, rfl⟩
              simp only [absE, absL, absF, reduceCtorEq, ↓reduceIte, Nat.reduceEqDiff, Nat.reduceAdd, Nat.reduceLT, Nat.reduceMul, Nat.reduceSub, Nat.reduceLeDiff, Int.reduceLT, Int.reduceLE, Int.reduceEq, Option.isSome_some, implies_true, false_implies, Prod.mk.injEq, ne_eq, not_false_eq_true, not_true_eq_false, ge_iff_le, gt_iff_lt, Int.toNat_natCast, Int.reduceToNat, Int.cast_ofNat_Int, Int.natCast_nonneg, v1, o1, q13, q14, n0, nz, n2]
              repeat refine And.intro (by omega) ?_
              have hA2 := l10AddO_ok N (N + N) N p s (at_ D i) f (by omega) hp lsr rD (by omega) (by omega)
              refine CallsVia.args [(18, 0), (14, i)] hA2 (by simp) (by simp [Mem.get, assoc, q14]) (by simp [renVs, renV, renAt, renIn, idx]) (by simp [argBlks, Mem.get, assoc, q14, renBlk, renSegs, renSg]) ?_
              rintro _ _ _ ⟨rfl, rfl, rfl⟩
              simp only [absE, absL, absF, reduceCtorEq, ↓reduceIte, Nat.reduceEqDiff, Nat.reduceAdd, Nat.reduceLT, Nat.reduceMul, Nat.reduceSub, Nat.reduceLeDiff, Int.reduceLT, Int.reduceLE, Int.reduceEq, Option.isSome_some, implies_true, false_implies, Prod.mk.injEq, ne_eq, not_false_eq_true, not_true_eq_false, ge_iff_le, gt_iff_lt, Int.toNat_natCast, Int.reduceToNat, Int.cast_ofNat_Int, Int.natCast_nonneg]
              have hok := keepG_ok (A := [((224, 0), (17, 0)), ((235, 0), (18, 0))]) (s1 := stdS) (o1 := (13, 0)) (b := false) (D := D) (R := Q) (n := 200) (by simp [wkOk]) stdS_inj (fun _ _ => by simp [stdS]) (by decide) (fun x hx i hi => by
                simp only [List.cons_append, List.nil_append, List.mem_cons, List.not_mem_nil, or_false] at hx
                rcases hx with rfl | rfl | rfl | rfl <;> simp [stdS]) (by simp) (by simp) (by simp [stdS])
              have r13 := renTo_ok (p := (13, 0)) (q := (13, 0)) hok (by simp) (by simp [keepG])
              have r15 := renTo_ok (p := (15, 0)) (q := (15, 0)) hok (by simp) (by simp [keepG])
              have r17 := renTo_ok (p := (224, 0)) (q := (17, 0)) hok (by simp) (by simp [keepG])
              have r18 := renTo_ok (p := (235, 0)) (q := (18, 0)) hok (by simp) (by simp [keepG])
              have q15 := rdL_15 (D := D) (R := Q) (b := false)
              refine LoopNext.intro (i + 1) (by omega) (by omega) ⟨[((224, 0), (17, 0)), ((235, 0), (18, 0))] ++ keepG stdS (13, 0) D.length false Q, hok, ?_, ?_⟩
              · simp only [wkEnv]
                generalize renTo ([((224, 0), (17, 0)), ((235, 0), (18, 0))] ++ keepG stdS (13, 0) D.length false Q) = τ at r13 r15 r17 r18 ⊢
                simp [lk, renV, renAt, r13, r15, r17, r18, wi]
              · simp only [wkMem]
                rw [slA_ren renTo_zero, keepG_wk hok (fun _ _ => by simp [stdS]) (by simp [Mem.get, assoc, q13]) (by simp [Mem.get, assoc, q15]) (fun j hj => by
                    have q := rdL_14 (D := D) (R := Q) (b := false) hj
                    simp only [Nat.zero_add, stdS] at q ⊢
                    by_cases e : i = j
                    · subst e; simp [Mem.get, assoc, ib, lD]
                    · simp [Mem.get, assoc, q, e]) (fun j hj => by
                    have q := rdL_16 (D := D) (R := Q) (b := false) hj
                    simp only [Nat.zero_add] at q ⊢
                    simp [Mem.get, assoc, q])]
                generalize renTo ([((224, 0), (17, 0)), ((235, 0), (18, 0))] ++ keepG stdS (13, 0) D.length false Q) = τ
                simp [wkLoc, Mem.get, assoc, renBlk, renSegs, renSg, hst]
            · obtain rfl : i = D.length := by omega
              have hC := l10FirstP_ok N N (sovS p N D due D.length).1 (Nat.le_refl N) (by omega)
              have hfV : decide (fsV N (sovS p N D due D.length).1 < 0) = decide (fsP N (sovS p N D due D.length).1 = N) := by
                have hle := fsP_le (w := N) (a := (sovS p N D due D.length).1)
                refine decide_eq_decide.2 ?_
                unfold fsV
                split <;> constructor <;> intro hh <;> omega
              simp only [absE, absL, absF, reduceCtorEq, ↓reduceIte, Nat.reduceEqDiff, Nat.reduceAdd, Nat.reduceLT, Nat.reduceMul, Nat.reduceSub, Nat.reduceLeDiff, Int.reduceLT, Int.reduceLE, Int.reduceEq, Option.isSome_some, implies_true, false_implies, Prod.mk.injEq, ne_eq, not_false_eq_true, not_true_eq_false, ge_iff_le, gt_iff_lt, Int.toNat_natCast, Int.reduceToNat, Int.cast_ofNat_Int, Int.natCast_nonneg, hiD]
              refine CallsVia.args [(17, 0)] hC (by simp) (by simp [Mem.get, assoc]) (by simp [renVs, renV, renAt, renIn, idx]) (by simp [argBlks, Mem.get, assoc, renBlk, renSegs, renSg]) ?_
              rintro _ _ _ ⟨rfl, rfl, rfl⟩
              simp only [absE, absL, absF, reduceCtorEq, ↓reduceIte, Nat.reduceEqDiff, Nat.reduceAdd, Nat.reduceLT, Nat.reduceMul, Nat.reduceSub, Nat.reduceLeDiff, Int.reduceLT, Int.reduceLE, Int.reduceEq, Option.isSome_some, implies_true, false_implies, Prod.mk.injEq, ne_eq, not_false_eq_true, not_true_eq_false, ge_iff_le, gt_iff_lt, Int.toNat_natCast, Int.reduceToNat, Int.cast_ofNat_Int, Int.natCast_nonneg, hfV, Try.results36]
              obtain ⟨_, ls2, _, _⟩ := hF D.length
              have z15 : renFin (keepZ Q.length) 15 0 = some (1, 0) := by simp [renFin, keepZ, idx]
              have z18 := keepZ_18 (m := Q.length)
              refine ⟨keepZ Q.length, keepZ_nodup, keepZ_nz, by simp [renV, renVs, renAt, z15, z18], slA_ren renFin_zero, keepZ_map ?_ (fun j hj => ?_) ?_⟩
              · have q15 := rdL_15 (D := D) (R := Q) (b := false)
                simp [Mem.get, assoc, q15, ob, show outsS (srcA false) Q = outs 16 0 Q from outs_S.symm]
              · have q := rdL_16 (D := D) (R := Q) (b := false) hj
                simp only [Nat.zero_add] at q ⊢
                simp [Mem.get, assoc, q, bagA]
              · simp [Mem.get, assoc, ib, ls2]

end Go.Proofs.Ytjmenocghjggcaa
