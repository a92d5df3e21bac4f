/-
Contracts of functions of the given program, by the abstract walk.
-/
import Derived.Test.YtoccbgffekhcaaaAbsY
import Derived.Test.YtoccbgffekhcaaaJj
import Derived.Test.YtoccbgffekhcaaaDh
import Derived.Test.YtoccbgffekhcaaaDi
import Derived.Test.YtoccbgffekhcaaaCc
namespace Go.Proofs.Ytoccbgffekhcaaa
open Go Go.Abs
set_option linter.unusedVariables false
set_option linter.unusedSectionVars false
set_option linter.unusedSimpArgs false
set_option maxRecDepth 100000
theorem disj_nil2 {l : List Abs.Id} : disj l [] = true := by simp [disj]
theorem disj_nil1 {l : List Abs.Id} : disj [] l = true := rfl
theorem madeG_ok (N : Nat) (hN : N ≤ 10) (f : FuncId) (g : Nat → Nat → Nat) (caps : List (Nat × Nat × Nat × Nat)) (ms : List Blk) (hl : ∀ b ∈ ms, b ≠ .dead) (hst : StMs ms)
    (hc : ∀ σ : Ren, (∀ k, k < ms.length → σ 0 k = some (0, k)) → renCaps σ caps = some caps) (hca : StVs ms (capArgs caps))
    (hf : ∀ x y, x < N → y < N → ACalls Try.prog f (.i .u8 x :: .i .u8 y :: capArgs caps) ms (fun v ms' ns => v = .i .u8 (g x y) ∧ ms' = ms ∧ ns = [])) :
    ACalls Try.prog 140 [.i .i64 N, .ref (.fn f caps)] ms (fun v ms' ns => v = .agg (sqS N (mkT g N N)) ∧ ms' = ms ∧ ns = []) := by
  have hrc : ∀ σ : Pairs, renCaps (renTo σ) caps = some caps := fun σ => hc _ fun k _ => renTo_zero k
  have hm : ∀ σ : Pairs, ms.map (renBlk (renTo σ)) = ms := fun σ => hst _ fun k _ => renTo_zero k
  have hme : ∀ (loc : Loc) (n : Nat) (σ : Pairs), Mem.mk (ms.map (renBlk (renTo σ))) loc n = ⟨ms, loc, n⟩ := fun loc n σ => by rw [hm]
  refine acalls_of_body mix Try.func140 rfl fok140 (Nat.le_of_ble_eq_true rfl) ?_
  unfold abody
  simp only [absE, absL, absF, reduceCtorEq, ↓reduceIte, Nat.reduceEqDiff, Nat.reduceAdd, Nat.reduceLT, Nat.reduceMul, Nat.reduceSub, Nat.reduceLeDiff, Int.reduceLT, Int.reduceLE, Int.reduceEq, Option.isSome_some, implies_true, false_implies, Prod.mk.injEq, ne_eq, not_false_eq_true, not_true_eq_false, ge_iff_le, gt_iff_lt, Int.toNat_natCast, Int.reduceToNat, Int.cast_ofNat_Int, Int.natCast_nonneg, Try.f140]
  refine CallsVia.none (elements_ok N (List.replicate 100 0) hN) ?_
  rintro _ _ _ ⟨rfl, rfl, rfl⟩
  simp only [absE, absL, absF, reduceCtorEq, ↓reduceIte, Nat.reduceEqDiff, Nat.reduceAdd, Nat.reduceLT, Nat.reduceMul, Nat.reduceSub, Nat.reduceLeDiff, Int.reduceLT, Int.reduceLE, Int.reduceEq, Option.isSome_some, implies_true, false_implies, Prod.mk.injEq, ne_eq, not_false_eq_true, not_true_eq_false, ge_iff_le, gt_iff_lt, Int.toNat_natCast, Int.reduceToNat, Int.cast_ofNat_Int, Int.natCast_nonneg]
  refine awpLoop.intro (fun x : Nat => [(1, .ref (.fn f caps)), (4, .ref (.ptr 1 0 0 0)), (5, .ref (.ptr 4 0 0 0)), (13, .ref (.sl 7 0 0 0 N 1)), (14, .i .i64 N), (15, .i .i64 x)]) (fun x => ⟨ms, [((1, 0), .lv true (sqS 0 (List.replicate 100 0))), ((4, 0), .lv true (sqS N (mkT g N x))), ((7, 0), .lv true ([(0, .ints .u8 N (bytesTo N))]))], 10⟩)
    (fun x => x ≤ N) (fun x => N - x) 0 (by omega) ⟨[((1,0),(1,0)), ((4,0),(4,0)), ((7,0),(7,0))], rfl, ?_, ?_⟩ ?_
  · (simp [wkEnv, lk, renV, renAt, hrc]; try simp [renTo])
  · simp only [wkMem, hm]; simp [wkLoc, Mem.get, assoc, renBlk, renSegs, renSg, mkT]
  · intro x hx
    by_cases h : (x : Int) < N
    · have w := wrap_i64s (show x < 2 ^ 62 by omega)
      have b1 : (bytesTo N).getD (0 + x * 1) 0 = (x : Int) := by rw [Nat.zero_add, Nat.mul_one]; exact bytesTo_get (by omega)
      have v1 : 0 + x * 1 < N := by omega
      have i1 : (x : Int) < 10 := by omega
      simp only [absE, absL, absF, reduceCtorEq, ↓reduceIte, Nat.reduceEqDiff, Nat.reduceAdd, Nat.reduceLT, Nat.reduceMul, Nat.reduceSub, Nat.reduceLeDiff, Int.reduceLT, Int.reduceLE, Int.reduceEq, Option.isSome_some, implies_true, false_implies, Prod.mk.injEq, ne_eq, not_false_eq_true, not_true_eq_false, ge_iff_le, gt_iff_lt, Int.toNat_natCast, Int.reduceToNat, Int.cast_ofNat_Int, Int.natCast_nonneg, h, b1, v1]
      refine CallsVia.none (elements_ok N (mkT g N x) hN) ?_
      rintro _ _ _ ⟨rfl, rfl, rfl⟩
      simp only [absE, absL, absF, reduceCtorEq, ↓reduceIte, Nat.reduceEqDiff, Nat.reduceAdd, Nat.reduceLT, Nat.reduceMul, Nat.reduceSub, Nat.reduceLeDiff, Int.reduceLT, Int.reduceLE, Int.reduceEq, Option.isSome_some, implies_true, false_implies, Prod.mk.injEq, ne_eq, not_false_eq_true, not_true_eq_false, ge_iff_le, gt_iff_lt, Int.toNat_natCast, Int.reduceToNat, Int.cast_ofNat_Int, Int.natCast_nonneg]
      refine awpLoop.intro (fun y : Nat => [(1, .ref (.fn f caps)), (4, .ref (.ptr 1 0 0 0)), (5, .ref (.ptr 4 0 0 0)), (13, .ref (.sl 7 0 0 0 N 1)), (14, .i .i64 N), (15, .i .i64 x), (7, .i .u8 x), (20, .ref (.sl 15 0 0 0 N 1)), (21, .i .i64 N), (22, .i .i64 y)]) (fun y => ⟨ms, [((1, 0), .lv true (sqS 0 (List.replicate 100 0))), ((4, 0), .lv true (sqS N (mkIn g x (mkT g N x) y))), ((7, 0), .lv true ([(0, .ints .u8 N (bytesTo N))])), ((15, 0), .lv true ([(0, .ints .u8 N (bytesTo N))]))], 18⟩)
        (fun y => y ≤ N) (fun y => N - y) 0 (by omega) ⟨[((1,0),(1,0)), ((4,0),(4,0)), ((7,0),(7,0)), ((15,0),(15,0))], rfl, ?_, ?_⟩ ?_
      · (simp [wkEnv, lk, renV, renAt, hrc]; try simp [renTo])
      · simp only [wkMem, hm]; simp [wkLoc, Mem.get, assoc, renBlk, renSegs, renSg, mkIn]
      · intro y hy
        by_cases h' : (y : Int) < N
        · have w' := wrap_i64s (show y < 2 ^ 62 by omega)
          have b2 : (bytesTo N).getD (0 + y * 1) 0 = (y : Int) := by rw [Nat.zero_add, Nat.mul_one]; exact bytesTo_get (by omega)
          have v2 : 0 + y * 1 < N := by omega
          have i2 : (y : Int) < 10 := by omega
          have u2 : 0 + x * 10 + y * 1 + 1 ≤ 100 := by omega
          simp only [absE, absL, absF, reduceCtorEq, ↓reduceIte, Nat.reduceEqDiff, Nat.reduceAdd, Nat.reduceLT, Nat.reduceMul, Nat.reduceSub, Nat.reduceLeDiff, Int.reduceLT, Int.reduceLE, Int.reduceEq, Option.isSome_some, implies_true, false_implies, Prod.mk.injEq, ne_eq, not_false_eq_true, not_true_eq_false, ge_iff_le, gt_iff_lt, Int.toNat_natCast, Int.reduceToNat, Int.cast_ofNat_Int, Int.natCast_nonneg, h', b2, v2]
          refine CallsX.all hl hst (fun σ hσ => by simp only [renVs, renV, hca σ hσ]) (fun _ => rfl) (hf x y (by omega) (by omega)) ?_
          intro ups rd hu h1 h2
          simp only [hu]
          simp only [absE, absL, absF, reduceCtorEq, ↓reduceIte, Nat.reduceEqDiff, Nat.reduceAdd, Nat.reduceLT, Nat.reduceMul, Nat.reduceSub, Nat.reduceLeDiff, Int.reduceLT, Int.reduceLE, Int.reduceEq, Option.isSome_some, implies_true, false_implies, Prod.mk.injEq, ne_eq, not_false_eq_true, not_true_eq_false, ge_iff_le, gt_iff_lt, Int.toNat_natCast, Int.reduceToNat, Int.cast_ofNat_Int, Int.natCast_nonneg, i1, i2, u2]
          refine ⟨?_, LoopNext.intro (y + 1) (by omega) (by omega) ⟨[((1,0),(1,0)), ((4,0),(4,0)), ((7,0),(7,0)), ((15,0),(15,0))], rfl, ?_, ?_⟩⟩
          · simp [chk, (disj_args (l := [(4, 0)]) rfl h1).2, (disj_args (l := [(4, 0)]) rfl h2).2, disj_nil2, disj_nil1]
          · (simp [wkEnv, lk, renV, renAt, hrc, w']; try simp [renTo])
          · simp only [wkMem, hm]; simp [wkLoc, Mem.get, assoc, renBlk, renSegs, renSg, mkIn]
        · have hyN : y = N := by omega
          subst hyN
          simp only [absE, absL, absF, reduceCtorEq, ↓reduceIte, Nat.reduceEqDiff, Nat.reduceAdd, Nat.reduceLT, Nat.reduceMul, Nat.reduceSub, Nat.reduceLeDiff, Int.reduceLT, Int.reduceLE, Int.reduceEq, Option.isSome_some, implies_true, false_implies, Prod.mk.injEq, ne_eq, not_false_eq_true, not_true_eq_false, ge_iff_le, gt_iff_lt, Int.toNat_natCast, Int.reduceToNat, Int.cast_ofNat_Int, Int.natCast_nonneg, h']
          refine LoopNext.intro (x + 1) (by omega) (by omega) ⟨[((1,0),(1,0)), ((4,0),(4,0)), ((7,0),(7,0))], rfl, ?_, ?_⟩
          · (simp [wkEnv, lk, renV, renAt, hrc, w]; try simp [renTo])
          · simp only [wkMem, hm]; simp [wkLoc, Mem.get, assoc, renBlk, renSegs, renSg, mkT]
    · have hxN : x = N := by omega
      subst hxN
      simp only [absE, absL, absF, reduceCtorEq, ↓reduceIte, Nat.reduceEqDiff, Nat.reduceAdd, Nat.reduceLT, Nat.reduceMul, Nat.reduceSub, Nat.reduceLeDiff, Int.reduceLT, Int.reduceLE, Int.reduceEq, Option.isSome_some, implies_true, false_implies, Prod.mk.injEq, ne_eq, not_false_eq_true, not_true_eq_false, ge_iff_le, gt_iff_lt, Int.toNat_natCast, Int.reduceToNat, Int.cast_ofNat_Int, Int.natCast_nonneg, h, Try.results140]
      exact ⟨[], by simp, by simp, by simp [renV, renSegs, renSg], hst _ fun k _ => renFin_zero k, by simp⟩
/-! the square of lists -/
def cv (LL : LLs) (x y : Nat) : Nat := ((at_ LL x).getD y 0).toNat
def SolP (N : Nat) (LL : LLs) : Prop := ∀ x, x < N → (at_ LL x).length = N ∧ ∀ y, y < N → 0 ≤ (at_ LL x).getD y 0 ∧ (at_ LL x).getD y 0 ≤ (N : Int) - 1
open Classical in
noncomputable def solB (LL : LLs) : Bool := decide (1 ≤ LL.length ∧ LL.length ≤ 10 ∧ SolP LL.length LL)
theorem solB_true {LL : LLs} (h : 1 ≤ LL.length ∧ LL.length ≤ 10 ∧ SolP LL.length LL) : solB LL = true := by unfold solB; exact @decide_eq_true _ (_) h
theorem solB_false {LL : LLs} (h : ¬(1 ≤ LL.length ∧ LL.length ≤ 10 ∧ SolP LL.length LL)) : solB LL = false := by unfold solB; exact @decide_eq_false _ (_) h
noncomputable def solR (LL : LLs) : AV := resSq (if solB LL then (if sqB LL.length (mkT (cv LL) LL.length LL.length) then 0 else 5) else 2) LL.length (mkT (cv LL) LL.length LL.length)
theorem sol_form (LL : LLs) : ∃ k s e, s.length = 100 ∧ solR LL = .tup [.agg (sqS k s), .i .i64 e] := resSq_form _ _ mkT_len
theorem solR_2 {LL : LLs} (h : solB LL = false) : solR LL = .tup [.agg (sqS 0 (List.replicate 100 0)), .i .i64 2] := by simp [solR, h, resSq]
theorem solR_5 {LL : LLs} (h : solB LL = true) (h2 : sqB LL.length (mkT (cv LL) LL.length LL.length) = false) : solR LL = .tup [.agg (sqS 0 (List.replicate 100 0)), .i .i64 5] := by simp [solR, h, h2, resSq]
theorem solR_0 {LL : LLs} (h : solB LL = true) (h2 : sqB LL.length (mkT (cv LL) LL.length LL.length) = true) : solR LL = .tup [.agg (sqS LL.length (mkT (cv LL) LL.length LL.length)), .i .i64 0] := by simp [solR, h, h2, resSq]
/-- Some blocks, a variable that holds a list of lists, and that list of lists. -/
def msE (pre : List Blk) (LL : LLs) : List Blk := pre ++ .lv true [(0, .cells 1 [.sl 0 (pre.length + 1) 0 0 LL.length 1])] :: ob 0 (pre.length + 2) LL :: inn LL
theorem msE_len {pre : List Blk} {LL : LLs} : (msE pre LL).length = pre.length + 2 + LL.length := by simp [msE, inn_len]; omega
theorem msE_live {pre : List Blk} {LL : LLs} (h : ∀ b ∈ pre, b ≠ .dead) : ∀ b ∈ msE pre LL, b ≠ .dead := by
  intro b hb
  rcases List.mem_append.1 hb with hb | hb
  · exact h b hb
  · rcases List.mem_cons.1 hb with rfl | hb
    · simp
    · rcases List.mem_cons.1 hb with rfl | hb
      · simp [ob]
      · obtain ⟨i, _, rfl⟩ := List.mem_map.1 hb; simp [ib]
theorem msE_st {pre : List Blk} {LL : LLs} (h : ∀ σ : Ren, pre.map (renBlk σ) = pre) : StMs (msE pre LL) := by
  intro σ hσ
  rw [msE_len] at hσ
  have e1 := hσ (pre.length + 1) (by omega)
  have e2 : renBlk σ (ob 0 (pre.length + 2) LL) = ob 0 (pre.length + 2) LL := ob_ren fun i hi => hσ (pre.length + 2 + i) (by omega)
  rw [msE, List.map_append, List.map_cons, List.map_cons, h σ, inn_ren, e2]
  simp only [renBlk, renSegs, renSg, List.map_cons, List.map_nil, renAt, e1]
theorem msE_row {pre : List Blk} {LL : LLs} {i : Nat} (h : i < LL.length) : (msE pre LL).getD (pre.length + 2 + i) .dead = ib (at_ LL i) := by
  rw [msE, List.getD_eq_getElem?_getD, List.getElem?_append_right (by omega), show pre.length + 2 + i - pre.length = i + 1 + 1 by omega, List.getElem?_cons_succ, List.getElem?_cons_succ, ← List.getD_eq_getElem?_getD, inn_get h]
theorem CallsVia.cellRow {P : Program} {f : FuncId} {pre : List (Nat × Blk)} {loc : Loc} {n b : Nat} {LL : LLs} {v : AV} {vs vs' : List AV} (hb : b ≠ 0) (hp0 : ∀ x ∈ pre, x.1 ≠ 0) (hnd : (pre.map (·.1)).Nodup) (hbp : b ∉ pre.map (·.1)) (hpre : ∀ x ∈ pre, assoc loc x.1 0 = x.2 ∧ x.2 ≠ .dead) (hren : ∀ σ : Ren, (pre.map (·.2)).map (renBlk σ) = pre.map (·.2))
    (hc : assoc loc b 0 = .lv true [(0, .cells 1 [.sl 0 0 0 0 LL.length 1])]) (hv : renVs (renIn ((pre.map fun x => (x.1, 0)) ++ (b, 0) :: (0, 0) :: srcs 0 1 LL.length)) vs = vs') (hr : ∀ σ, renV σ v = v)
    (h : ACalls P f vs' (msE (pre.map (·.2)) LL) (fun r ms ns => r = v ∧ ms = msE (pre.map (·.2)) LL ∧ ns = []))
    {K : AV → Ups → List Abs.Id → Prop} (hK : ∀ ups rd, (∀ n, (Mem.mk (ms1 LL) loc n).upd ups = ⟨ms1 LL, ((b, 0), .lv true [(0, .cells 1 [.sl 0 0 0 0 LL.length 1])]) :: ((pre.map fun x => ((x.1, 0), x.2)).reverse ++ loc), n⟩) → K v ups rd) :
    CallsVia P f vs ⟨ms1 LL, loc, n⟩ K := by
  have hF : ((pre.map fun x => ((x.1, 0) : Abs.Id)) ++ (b, 0) :: (0, 0) :: srcs 0 1 LL.length).Nodup := by
    rw [List.nodup_append]
    refine ⟨?_, ?_, ?_⟩
    · have : (pre.map fun x => ((x.1, 0) : Abs.Id)) = (pre.map (·.1)).map fun k => (k, 0) := by simp
      rw [this]
      unfold List.Nodup
      rw [List.pairwise_map]
      exact hnd.imp fun h e => h (by simpa using e)
    · rw [List.nodup_cons]
      refine ⟨fun hm => ?_, row_nodup (.inr (Nat.lt_succ_self 0))⟩
      rcases List.mem_cons.1 hm with e | hm
      · exact hb (by simpa using e)
      · exact hb (srcs_mem.1 hm).1
    · intro p hp q hq e
      subst e
      obtain ⟨x, hx, rfl⟩ := List.mem_map.1 hp
      rcases List.mem_cons.1 hq with e | hq
      · exact hbp (List.mem_map.2 ⟨x, hx, by simpa using congrArg (·.1) e⟩)
      · rcases List.mem_cons.1 hq with e | hq
        · exact hp0 x hx (by simpa using congrArg (·.1) e)
        · exact hp0 x hx (srcs_mem.1 hq).1
  have ipre : ∀ a k, a = 0 → idx (pre.map fun x => ((x.1, 0) : Abs.Id)) a k = none := fun a k ha => idx_none fun hm => by
    obtain ⟨x, hx, e⟩ := List.mem_map.1 hm
    exact hp0 x hx (by rw [show x.1 = a from congrArg (·.1) e]; exact ha)
  have i0 : renIn ((pre.map fun x => (x.1, 0)) ++ (b, 0) :: (0, 0) :: srcs 0 1 LL.length) 0 0 = some (0, pre.length + 1) := by
    simp only [renIn, idx_app, ipre 0 0 rfl, idx, hb, false_and, if_false]
    simp; omega
  have i1 : ∀ j, j < LL.length → renIn ((pre.map fun x => (x.1, 0)) ++ (b, 0) :: (0, 0) :: srcs 0 1 LL.length) 0 (1 + j) = some (0, pre.length + 2 + j) := fun j hj => by
    have e : ¬(0 = 1 + j) := by omega
    simp only [renIn, idx_app, ipre 0 (1 + j) rfl, idx, hb, false_and, if_false, e, and_false, idx_srcs_in hj]
    simp; omega
  have hq : ∀ j, j < LL.length → (Mem.mk (ms1 LL) loc n).get 0 (1 + j) = ib (at_ LL j) := fun j hj => ms1_at hj
  refine CallsVia.args _ h hF ?_ hv ?_ ?_
  · intro p hp
    rcases List.mem_append.1 hp with hp | hp
    · obtain ⟨x, hx, rfl⟩ := List.mem_map.1 hp
      show (if x.1 = 0 then _ else assoc loc x.1 0) ≠ _
      rw [if_neg (hp0 x hx), (hpre x hx).1]; exact (hpre x hx).2
    · rcases List.mem_cons.1 hp with rfl | hp
      · show (if b = 0 then _ else assoc loc b 0) ≠ _
        rw [if_neg hb, hc]; simp
      · rcases List.mem_cons.1 hp with rfl | hp
        · show (ms1 LL).getD 0 .dead ≠ .dead; rw [ms1_0]; simp
        · obtain ⟨h1, h2, h3⟩ := srcs_mem.1 hp
          obtain ⟨x, y⟩ := p
          simp only at h1 h2 h3
          subst h1
          rw [show y = 1 + (y - 1) by omega, hq _ (by omega)]; simp [ib]
  · unfold argBlks
    rw [List.map_append, List.map_cons, List.map_cons]
    have e1 : (pre.map fun x => ((x.1, 0) : Abs.Id)).map (fun p => renBlk (renIn ((pre.map fun x => (x.1, 0)) ++ (b, 0) :: (0, 0) :: srcs 0 1 LL.length)) ((Mem.mk (ms1 LL) loc n).get p.1 p.2)) = pre.map (·.2) := by
      conv => rhs; rw [← hren (renIn ((pre.map fun x => (x.1, 0)) ++ (b, 0) :: (0, 0) :: srcs 0 1 LL.length))]
      rw [List.map_map, List.map_map]
      exact List.map_congr_left fun x hx => by
        show renBlk _ (if x.1 = 0 then _ else assoc loc x.1 0) = _
        rw [if_neg (hp0 x hx), (hpre x hx).1]; rfl
    have e2 : (Mem.mk (ms1 LL) loc n).get b 0 = .lv true [(0, .cells 1 [.sl 0 0 0 0 LL.length 1])] := by
      show (if b = 0 then _ else assoc loc b 0) = _
      rw [if_neg hb, hc]
    have e3 : (Mem.mk (ms1 LL) loc n).get 0 0 = ob 0 1 LL := rfl
    rw [e1, e2, e3, srcs_get hq, ob_ren i1]
    simp only [msE, renBlk, renSegs, renSg, List.map_cons, List.map_nil, renAt, i0, List.length_map]
  · rintro _ _ _ ⟨rfl, rfl, rfl⟩
    rw [hr]
    have oget : ∀ k, renOut n ((pre.map fun x => (x.1, 0)) ++ (b, 0) :: (0, 0) :: srcs 0 1 LL.length) 0 k = ((pre.map fun x => ((x.1, 0) : Abs.Id)) ++ (b, 0) :: (0, 0) :: srcs 0 1 LL.length)[k]? := fun k => rfl
    have o0 : renOut n ((pre.map fun x => (x.1, 0)) ++ (b, 0) :: (0, 0) :: srcs 0 1 LL.length) 0 (pre.length + 1) = some (0, 0) := by
      rw [oget, List.getElem?_append_right (by simp), List.length_map, Nat.add_sub_cancel_left]; rfl
    have o1 : ∀ j, j < LL.length → renOut n ((pre.map fun x => (x.1, 0)) ++ (b, 0) :: (0, 0) :: srcs 0 1 LL.length) 0 (pre.length + 2 + j) = some (0, 1 + j) := fun j hj => by
      rw [oget, List.getElem?_append_right (by simp; omega), List.length_map, show pre.length + 2 + j - pre.length = j + 1 + 1 by omega, List.getElem?_cons_succ, List.getElem?_cons_succ]
      simp [srcs, hj]
    refine hK _ _ fun n' => ?_
    simp only [msE, List.length_map, newUps, List.append_nil]
    rw [zipUps_app (by simp)]
    simp only [zipUps]
    rw [ob_ren o1, zipUps_srcs rfl]
    simp only [renBlk, renSegs, renSg, List.map_cons, List.map_nil, renAt, o0]
    have ez : ∀ (l : List (Nat × Blk)) (σ : Ren), (l.map (·.2)).map (renBlk σ) = l.map (·.2) → zipUps σ (l.map fun x => ((x.1, 0) : Abs.Id)) (l.map (·.2)) = l.map fun x => ((x.1, 0), x.2) := by
      intro l σ
      induction l with
      | nil => intro _; rfl
      | cons x l ih =>
        intro hl
        simp only [List.map_cons, List.cons.injEq] at hl
        simp only [List.map_cons, zipUps, ih hl.2, hl.1]
    rw [ez pre _ (hren _), Mem.upd_app, Mem.upd_loc (pre.map fun x => (((x.1, 0) : Abs.Id), x.2)) fun x hx => by
      obtain ⟨y, hy, rfl⟩ := List.mem_map.1 hx; exact hp0 y hy]
    simp only [Mem.upd]
    have p1 : (Mem.mk (ms1 LL) ((pre.map fun x => (((x.1, 0) : Abs.Id), x.2)).reverse ++ loc) n').put (b, 0) (.lv true [(0, .cells 1 [.sl 0 0 0 0 LL.length 1])]) = ⟨ms1 LL, ((b, 0), .lv true [(0, .cells 1 [.sl 0 0 0 0 LL.length 1])]) :: ((pre.map fun x => ((x.1, 0), x.2)).reverse ++ loc), n'⟩ := by
      simp only [Mem.put, hb, if_false]
    have p2 : ∀ L : Loc, (Mem.mk (ms1 LL) L n').put (0, 0) (ob 0 1 LL) = Mem.mk (ms1 LL) L n' := fun L => put_same rfl
    rw [p1, p2]
    have hu := upd_all (loc := ((b, 0), .lv true [(0, .cells 1 [.sl 0 0 0 0 LL.length 1])]) :: ((pre.map fun x => ((x.1, 0), x.2)).reverse ++ loc)) (n := n') [ob 0 1 LL] (inn LL)
    have eb : bagU 0 1 LL = (List.range (inn LL).length).map fun i => ((0, [ob 0 1 LL].length + i), (inn LL).getD i .dead) := by
      unfold bagU
      rw [inn_len]
      exact List.map_congr_left fun i hi => by rw [inn_get (List.mem_range.1 hi)]; rfl
    rw [eb]
    exact hu

end Go.Proofs.Ytoccbgffekhcaaa
