/-
Contracts of functions of the given program, by the abstract walk.
-/
import Derived.Test.YtjmenocghjggcaaAbsY
import Derived.Test.YtjmenocghjggcaaWl
import Derived.Test.YtjmenocghjggcaaTx
namespace Go.Proofs.Ytjmenocghjggcaa
open Go Go.Abs
set_option linter.unusedVariables false
set_option linter.unusedSectionVars false
set_option linter.unusedSimpArgs false
set_option maxRecDepth 100000
/-! calls that are handed a list of lists and may change it, in a region that draws its order; CountUnits: the reference -/
theorem upd_nz {args : List Blk} : ∀ {ups : Ups} {loc : Loc}, (∀ q ∈ ups, q.1.1 ≠ 0) → ∃ loc', (∀ n', (Mem.mk args loc n').upd ups = ⟨args, loc', n'⟩) ∧ ∀ a k, (∀ q ∈ ups, q.1.1 ≠ a) → assoc loc' a k = assoc loc a k
  | [], loc, _ => ⟨loc, fun _ => rfl, fun _ _ _ => rfl⟩
  | (p, b) :: r, loc, h => by
    obtain ⟨loc', h1, h2⟩ := upd_nz (args := args) (ups := r) (loc := (p, b) :: loc) fun q hq => h q (by simp [hq])
    have hp : p.1 ≠ 0 := h (p, b) (by simp)
    refine ⟨loc', fun n' => ?_, fun a k hh => ?_⟩
    · simp only [Mem.upd, Mem.put, hp, if_false]; exact h1 n'
    · rw [h2 a k fun q hq => hh q (by simp [hq]), assoc, if_neg (fun e => hh (p, b) (by simp) e.1)]
theorem zip_mem {σ : Ren} : ∀ {F : List Abs.Id} {xs : List Blk}, ∀ q ∈ zipUps σ F xs, q.1 ∈ F
  | [], _, q, h => by simp [zipUps] at h
  | _ :: _, [], q, h => by simp [zipUps] at h
  | p :: F, b :: r, q, h => by
    rw [zipUps, List.mem_cons] at h
    rcases h with rfl | h
    · simp
    · exact List.mem_cons_of_mem _ (zip_mem q h)
theorem new_mem {σ : Ren} {n : Nat} : ∀ {xs : List Blk} {i : Nat}, ∀ q ∈ newUps σ n i xs, q.1.1 = n
  | [], _, q, h => by simp [newUps] at h
  | x :: xs, i, q, h => by
    rw [newUps, List.mem_cons] at h
    rcases h with rfl | h
    · rfl
    · exact new_mem q h
theorem CallsX.rowG {P : Program} {f : FuncId} {args : List Blk} {loc : Loc} {n g : Nat} {LL : LLs} {v : AV} {vs vs' : List AV} {MS NS : List Blk} (hg : g ≠ 0) (hn : n ≠ 0) (rg : Row loc g LL) (hv : ∀ σ : Ren, σ g 0 = some (0, 0) → renVs σ vs = vs')
    (h : ACalls P f vs' (ms1 LL) (fun r ms ns => r = v ∧ ms = MS ∧ ns = NS))
    {K : AV → Ups → List Abs.Id → Prop} (hK : ∀ ups rd loc', (∀ n', (Mem.mk args loc n').upd ups = ⟨args, loc', n'⟩) → (∀ a k, a ≠ g → a ≠ n → assoc loc' a k = assoc loc a k) → K (renV (renOut n ((g, 0) :: srcs g 1 LL.length)) v) ups rd) :
    CallsX P f vs ⟨args, loc, n⟩ K := by
  refine CallsX.args ((g, 0) :: srcs g 1 LL.length) h (row_nodup (.inr (Nat.lt_succ_self 0))) ?_ (hv _ (by simp [renIn, idx])) ?_ ?_
  · intro p hp
    rcases List.mem_cons.1 hp with rfl | hp
    · rw [rg.get0 hg]; simp [ob]
    · exact srcs_live hg rg p hp
  · unfold argBlks
    rw [List.map_cons, rg.get0 hg, get_srcs hg rg, ob_ren fun j hj => row_in hj]
    rfl
  · have hk : ∀ q ∈ zipUps (renOut n ((g, 0) :: srcs g 1 LL.length)) ((g, 0) :: srcs g 1 LL.length) MS ++ newUps (renOut n ((g, 0) :: srcs g 1 LL.length)) n 0 NS, q.1.1 = g ∨ q.1.1 = n := fun q hq => by
      rcases List.mem_append.1 hq with hq | hq
      · rcases List.mem_cons.1 (zip_mem q hq) with e | e
        · left; rw [e]
        · exact .inl (srcs_mem.1 e).1
      · exact .inr (new_mem q hq)
    obtain ⟨loc', h1, h2⟩ := upd_nz (args := args) (loc := loc) fun q hq => by
      rcases hk q hq with e | e <;> rw [e]
      · exact hg
      · exact hn
    exact hK _ _ loc' h1 fun a k ha hb => h2 a k fun q hq e => by
      rcases hk q hq with e' | e'
      · exact ha (e.symm.trans e')
      · exact hb (e.symm.trans e')
theorem disj_bag {a k : Nat} {LL : LLs} {l : List Abs.Id} (h : ∀ p ∈ l, p.1 ≠ a) : disj (List.map (fun x => x.1) (bagU a k LL)) l = true := by
  unfold disj
  rw [List.all_eq_true]
  intro p hp
  simp only [Bool.not_eq_true', List.contains_eq_mem, decide_eq_false_iff_not]
  intro hm
  obtain ⟨q, hq, rfl⟩ := List.mem_map.1 hp
  unfold bagU at hq
  obtain ⟨i, _, rfl⟩ := List.mem_map.1 hq
  exact h _ hm rfl
theorem disj_bag' {a k : Nat} {LL : LLs} {l : List Abs.Id} (h : ∀ p ∈ l, p.1 ≠ a) : disj l (List.map (fun x => x.1) (bagU a k LL)) = true := by
  unfold disj
  rw [List.all_eq_true]
  intro p hp
  simp only [Bool.not_eq_true', List.contains_eq_mem, decide_eq_false_iff_not]
  intro hm
  obtain ⟨q, hq, e⟩ := List.mem_map.1 hm
  unfold bagU at hq
  obtain ⟨i, _, rfl⟩ := List.mem_map.1 hq
  exact h _ hp (by rw [← e])
theorem disj_nl {l : List Abs.Id} : disj [] l = true := rfl
theorem disj_nr {l : List Abs.Id} : disj l [] = true := by simp [disj]
theorem disj_cons {p : Abs.Id} {r l : List Abs.Id} : disj (p :: r) l = (!l.contains p && disj r l) := rfl
set_option maxHeartbeats 1000000 in
theorem specCnU_yes (N : Nat) (t : List Int) (P : Nat) (ht : Bytes 100 t) (h : limC N t P = 0) :
    ACalls Try.prog 8 [.agg (sqS N t), .i .i64 P] [] (fun v ms ns => v = .tup [.i .i64 (cnU N t P (P ^ N) : Nat), .i .i64 0] ∧ ms = [] ∧ ns = []) := by
  have hr : rcd0 N t P = 0 := by unfold limC at h; split at h; · omega
                                 · exact h
  have hle : P ^ N ≤ 20000 := by
    apply Decidable.byContradiction; intro hn
    unfold limC at h
    rw [if_pos ⟨hr, by simpa using (show 20000 < P ^ N by omega)⟩] at h
    cases h
  obtain ⟨hs, hlp, hp⟩ := rcd0_zero hr
  obtain ⟨P', hPP, hP1, hP2⟩ := hp.nat
  obtain rfl : P = P' := by omega
  have hN := hs.le
  have hN1 := hs.1
  have m1 : N * 1 = N := Nat.mul_one N
  have hk8 : (N : Int) * 8 ≤ 140737488355328 := by omega
  have em : ((min (P ^ N) 20001 : Nat) : Int) = ((P ^ N : Nat) : Int) := by omega
  refine acalls_of_body mix Try.func8 rfl fok8 (Nat.le_of_ble_eq_true rfl) ?_
  unfold abody
  simp only [absE, absL, absF, reduceCtorEq, ↓reduceIte, Nat.reduceEqDiff, Nat.reduceAdd, Nat.reduceLT, Nat.reduceMul, Nat.reduceSub, Nat.reduceLeDiff, Int.reduceLT, Int.reduceLE, Int.reduceEq, Option.isSome_some, implies_true, false_implies, Prod.mk.injEq, ne_eq, not_false_eq_true, not_true_eq_false, ge_iff_le, gt_iff_lt, Int.toNat_natCast, Int.reduceToNat, Int.cast_ofNat_Int, Int.natCast_nonneg, Try.f8]
  refine CallsVia.none (l10Limit_ok N t P ht) ?_
  rintro _ _ _ ⟨rfl, rfl, rfl⟩
  simp only [absE, absL, absF, reduceCtorEq, ↓reduceIte, Nat.reduceEqDiff, Nat.reduceAdd, Nat.reduceLT, Nat.reduceMul, Nat.reduceSub, Nat.reduceLeDiff, Int.reduceLT, Int.reduceLE, Int.reduceEq, Option.isSome_some, implies_true, false_implies, Prod.mk.injEq, ne_eq, not_false_eq_true, not_true_eq_false, ge_iff_le, gt_iff_lt, Int.toNat_natCast, Int.reduceToNat, Int.cast_ofNat_Int, Int.natCast_nonneg, h, hk8, m1]
  repeat first | refine And.intro (by decide +kernel) ?_ | refine And.intro (by omega) ?_
  refine CallsVia.none (l10Many_ok N P hP1 (by omega) hN) ?_
  rintro _ _ _ ⟨rfl, rfl, rfl⟩
  simp only [absE, absL, absF, reduceCtorEq, ↓reduceIte, Nat.reduceEqDiff, Nat.reduceAdd, Nat.reduceLT, Nat.reduceMul, Nat.reduceSub, Nat.reduceLeDiff, Int.reduceLT, Int.reduceLE, Int.reduceEq, Option.isSome_some, implies_true, false_implies, Prod.mk.injEq, ne_eq, not_false_eq_true, not_true_eq_false, ge_iff_le, gt_iff_lt, Int.toNat_natCast, Int.reduceToNat, Int.cast_ofNat_Int, Int.natCast_nonneg, em]
  refine awpLoop.intro (fun k : Nat => [(1, .i .i64 P), (2, .ref (.ptr 1 0 0 0)), (7, .ref (.sl 12 0 0 0 N 1)), (8, .i .i64 (cnU N t P k : Nat)), (9, .i .i64 (((P ^ N : Nat) : Int) - k))]) (fun k => ⟨[], [((1, 0), .lv true (sqS N t)), ((12, 0), .lv true ([(0, .ints .i64 N (digL P N k))]))], 100⟩)
    (fun k => k ≤ P ^ N) (fun k => P ^ N - k) 0 (by omega) ⟨[((1,0),(1,0)), ((12,0),(12,0))], rfl, ?_, ?_⟩ ?_
  · simp [wkEnv, lk, renV, renAt, renTo, cnU]
  · simp [wkMem, wkLoc, Mem.get, assoc, renBlk, renSegs, renSg, renTo, zeroArr, digL_zero]
  · intro k hk
    have hCl := cnU_le (N := N) (t := t) (P := P) (k := k)
    have hCs : cnU N t P (k + 1) = if unB N t P k then cnU N t P k + 1 else cnU N t P k := rfl
    generalize hCd : cnU N t P k = C at hCl hCs ⊢
    by_cases h2 : k < P ^ N
    · have g1 : (0 : Int) < ((P ^ N : Nat) : Int) - k := by omega
      have wn : IntKind.i64.wrap (((P ^ N : Nat) : Int) - k - 1) = ((P ^ N : Nat) : Int) - ((k + 1 : Nat) : Int) := by rw [wrap_i64 (by omega) (by omega)]; omega
      have wC := wrap_i64s (show C < 2 ^ 62 by omega)
      have hT := l10Images_ok N t P (digL P N k) ht hs hp (digL_rng (by omega)) digL_len
      have hX := l10Next_ok P N k hP1 (by omega) hN (by omega)
      unfold nkL at hX
      simp only [absE, absL, absF, reduceCtorEq, ↓reduceIte, Nat.reduceEqDiff, Nat.reduceAdd, Nat.reduceLT, Nat.reduceMul, Nat.reduceSub, Nat.reduceLeDiff, Int.reduceLT, Int.reduceLE, Int.reduceEq, Option.isSome_some, implies_true, false_implies, Prod.mk.injEq, ne_eq, not_false_eq_true, not_true_eq_false, ge_iff_le, gt_iff_lt, Int.toNat_natCast, Int.reduceToNat, Int.cast_ofNat_Int, Int.natCast_nonneg, g1]
      refine CallsX.args [(12, 0)] hT (by simp) (by simp [Mem.get, assoc]) (by simp [renVs, renV, renAt, renIn, idx, renSegs, renSg]) (by simp [argBlks, Mem.get, assoc, renBlk, renSegs, renSg]) ?_
      simp only [absE, absL, absF, reduceCtorEq, ↓reduceIte, Nat.reduceEqDiff, Nat.reduceAdd, Nat.reduceLT, Nat.reduceMul, Nat.reduceSub, Nat.reduceLeDiff, Int.reduceLT, Int.reduceLE, Int.reduceEq, Option.isSome_some, implies_true, false_implies, Prod.mk.injEq, ne_eq, not_false_eq_true, not_true_eq_false, ge_iff_le, gt_iff_lt, Int.toNat_natCast, Int.reduceToNat, Int.cast_ofNat_Int, Int.natCast_nonneg, newUps_inn, ob_out, Mem.upd_bagU]
      refine And.intro (chk_m (l := [(1, false), (0, true)]) rfl (by decide +kernel)) ?_
      simp only [absE, absL, absF, reduceCtorEq, ↓reduceIte, Nat.reduceEqDiff, Nat.reduceAdd, Nat.reduceLT, Nat.reduceMul, Nat.reduceSub, Nat.reduceLeDiff, Int.reduceLT, Int.reduceLE, Int.reduceEq, Option.isSome_some, implies_true, false_implies, Prod.mk.injEq, ne_eq, not_false_eq_true, not_true_eq_false, ge_iff_le, gt_iff_lt, Int.toNat_natCast, Int.reduceToNat, Int.cast_ofNat_Int, Int.natCast_nonneg, assoc_rbag_ne]
      refine And.intro (by simp [chk, disj_cons, disj_bag, disj_bag', disj_nl, disj_nr]) ?_
      have hri := unS (N := N) (t := t) (P := P) (i := k) hp hs (by omega)
      have hmI := img_mat (N := N) (t := t) hp hs (digL_rng (N := N) (P := P) (i := k) (by omega))
      have hIl := imgL_len (N := N) (t := t) (p := P) (a := digL P N k) (k := N)
      generalize hI : imgL N t P (digL P N k) N = I at hri hmI hIl ⊢
      have hRd := l10Reduce_ok N N P I (by omega) (Nat.le_refl N) hp hmI (by omega) (by omega)
      rw [hIl] at hRd
      have hDl := redS_len hp hmI (c := N) (Nat.le_refl N)
      generalize (redS P N I N).1 = D at hri hRd hDl
      generalize (redS P N I N).2 = R at hRd hDl
      obtain ⟨b, m, NS, hC⟩ : ∃ b m NS, ACalls Try.prog 26 [.i .i64 P, .ref (.sl 0 0 0 0 N 1), .i .i64 N] (ms1 I) (fun r ms ns => r = .tup [.ref (.sl 1 0 0 0 D.length 1), .ref (.sl 1 b 0 0 m 1)] ∧ ms = ms1 I ∧ ns = NS) := by
        by_cases hD : D = []
        · subst hD
          exact ⟨_, _, _, hRd.mono fun r ms ns ⟨a, h⟩ => h.elim (fun ⟨_, h1, h2⟩ => ⟨h1, a, h2⟩) fun ⟨h0, _⟩ => absurd rfl h0⟩
        · exact ⟨_, _, _, hRd.mono fun r ms ns ⟨a, h⟩ => h.elim (fun ⟨h0, _⟩ => absurd h0 hD) fun ⟨_, h1, h2⟩ => ⟨h1, a, h2⟩⟩
      refine CallsX.rowG (g := 106) (LL := I) (by decide) (by decide) Row.new (fun σ h0 => by simp [renVs, renV, renAt, h0]) hC ?_
      intro ups rd loc' hu hl
      have l1 : assoc loc' 1 0 = .lv true (sqS N t) := by rw [hl 1 0 (by decide) (by decide), assoc_rbag_ne (by decide)]; rfl
      have l12 : assoc loc' 12 0 = .lv true [(0, .ints .i64 N (digL P N k))] := by rw [hl 12 0 (by decide) (by decide), assoc_rbag_ne (by decide)]; rfl
      have e109 : ∀ j, renOut 109 ((106, 0) :: srcs 106 1 I.length) 1 j = some (109, j) := fun j => rfl
      refine And.intro (chk_w (l := [6, 5, 4, 3, 2, 1, 0]) rfl (by decide +kernel)) ?_
      simp only [renV, renVs, List.map_cons, List.map_nil, renAt, e109, hu]
      simp only [absE, absL, absF, reduceCtorEq, ↓reduceIte, Nat.reduceEqDiff, Nat.reduceAdd, Nat.reduceLT, Nat.reduceMul, Nat.reduceSub, Nat.reduceLeDiff, Int.reduceLT, Int.reduceLE, Int.reduceEq, Option.isSome_some, implies_true, false_implies, Prod.mk.injEq, ne_eq, not_false_eq_true, not_true_eq_false, ge_iff_le, gt_iff_lt, Int.toNat_natCast, Int.reduceToNat, Int.cast_ofNat_Int, Int.natCast_nonneg, l1]
      by_cases hDN : D.length = N
      · rw [if_pos (hri.1 hDN)] at hCs
        have hDN2 : ((D.length : Nat) : Int) = N := by omega
        simp only [absE, absL, absF, reduceCtorEq, ↓reduceIte, Nat.reduceEqDiff, Nat.reduceAdd, Nat.reduceLT, Nat.reduceMul, Nat.reduceSub, Nat.reduceLeDiff, Int.reduceLT, Int.reduceLE, Int.reduceEq, Option.isSome_some, implies_true, false_implies, Prod.mk.injEq, ne_eq, not_false_eq_true, not_true_eq_false, ge_iff_le, gt_iff_lt, Int.toNat_natCast, Int.reduceToNat, Int.cast_ofNat_Int, Int.natCast_nonneg, hDN2, l1, wC]
        refine CallsVia.args [(12, 0)] hX (by simp) (by simp [Mem.get, l12]) (by simp [renVs, renV, renAt, renIn, idx]) (by simp [argBlks, Mem.get, l12, renBlk, renSegs, renSg]) ?_
        rintro _ _ _ ⟨rfl, rfl, rfl⟩
        simp only [absE, absL, absF, reduceCtorEq, ↓reduceIte, Nat.reduceEqDiff, Nat.reduceAdd, Nat.reduceLT, Nat.reduceMul, Nat.reduceSub, Nat.reduceLeDiff, Int.reduceLT, Int.reduceLE, Int.reduceEq, Option.isSome_some, implies_true, false_implies, Prod.mk.injEq, ne_eq, not_false_eq_true, not_true_eq_false, ge_iff_le, gt_iff_lt, Int.toNat_natCast, Int.reduceToNat, Int.cast_ofNat_Int, Int.natCast_nonneg, wn]
        refine LoopNext.intro (k + 1) (by omega) (by omega) ⟨[((1, 0), (1, 0)), ((125, 0), (12, 0))], rfl, ?_, ?_⟩
        · simp [wkEnv, lk, renV, renAt, renTo, hCs]
        · simp [wkMem, wkLoc, Mem.get, assoc, renBlk, renSegs, renSg, l1]
      · rw [if_neg (fun h => hDN (hri.2 h))] at hCs
        have hDN2 : ¬ ((D.length : Nat) : Int) = N := by omega
        simp only [absE, absL, absF, reduceCtorEq, ↓reduceIte, Nat.reduceEqDiff, Nat.reduceAdd, Nat.reduceLT, Nat.reduceMul, Nat.reduceSub, Nat.reduceLeDiff, Int.reduceLT, Int.reduceLE, Int.reduceEq, Option.isSome_some, implies_true, false_implies, Prod.mk.injEq, ne_eq, not_false_eq_true, not_true_eq_false, ge_iff_le, gt_iff_lt, Int.toNat_natCast, Int.reduceToNat, Int.cast_ofNat_Int, Int.natCast_nonneg, hDN2, l1]
        refine CallsVia.args [(12, 0)] hX (by simp) (by simp [Mem.get, l12]) (by simp [renVs, renV, renAt, renIn, idx]) (by simp [argBlks, Mem.get, l12, renBlk, renSegs, renSg]) ?_
        rintro _ _ _ ⟨rfl, rfl, rfl⟩
        simp only [absE, absL, absF, reduceCtorEq, ↓reduceIte, Nat.reduceEqDiff, Nat.reduceAdd, Nat.reduceLT, Nat.reduceMul, Nat.reduceSub, Nat.reduceLeDiff, Int.reduceLT, Int.reduceLE, Int.reduceEq, Option.isSome_some, implies_true, false_implies, Prod.mk.injEq, ne_eq, not_false_eq_true, not_true_eq_false, ge_iff_le, gt_iff_lt, Int.toNat_natCast, Int.reduceToNat, Int.cast_ofNat_Int, Int.natCast_nonneg, wn]
        refine LoopNext.intro (k + 1) (by omega) (by omega) ⟨[((1, 0), (1, 0)), ((122, 0), (12, 0))], rfl, ?_, ?_⟩
        · simp [wkEnv, lk, renV, renAt, renTo, hCs]
        · simp [wkMem, wkLoc, Mem.get, assoc, renBlk, renSegs, renSg, l1]
    · have hkN : k = P ^ N := by omega
      subst hkN
      have g1 : ¬ (0 : Int) < ((P ^ N : Nat) : Int) - ((P ^ N : Nat) : Int) := by omega
      rw [hCd]
      simp only [absE, absL, absF, reduceCtorEq, ↓reduceIte, Nat.reduceEqDiff, Nat.reduceAdd, Nat.reduceLT, Nat.reduceMul, Nat.reduceSub, Nat.reduceLeDiff, Int.reduceLT, Int.reduceLE, Int.reduceEq, Option.isSome_some, implies_true, false_implies, Prod.mk.injEq, ne_eq, not_false_eq_true, not_true_eq_false, ge_iff_le, gt_iff_lt, Int.toNat_natCast, Int.reduceToNat, Int.cast_ofNat_Int, Int.natCast_nonneg, g1, Try.results8]
      exact ⟨[], by simp, by simp, by simp [renV, renVs], by simp, by simp⟩
theorem specCnU_no (n : Int) (t : List Int) (p : Int) (ht : Bytes 100 t) (h : limC n t p ≠ 0) :
    ACalls Try.prog 8 [.agg (sqS n t), .i .i64 p] [] (fun v ms ns => v = .tup [.i .i64 0, .i .i64 (limC n t p)] ∧ ms = [] ∧ ns = []) := by
  refine acalls_of_body mix Try.func8 rfl fok8 (Nat.le_of_ble_eq_true rfl) ?_
  unfold abody
  simp only [absE, absL, absF, reduceCtorEq, ↓reduceIte, Nat.reduceEqDiff, Nat.reduceAdd, Nat.reduceLT, Nat.reduceMul, Nat.reduceSub, Nat.reduceLeDiff, Int.reduceLT, Int.reduceLE, Int.reduceEq, Option.isSome_some, implies_true, false_implies, Prod.mk.injEq, ne_eq, not_false_eq_true, not_true_eq_false, ge_iff_le, gt_iff_lt, Int.toNat_natCast, Int.reduceToNat, Int.cast_ofNat_Int, Int.natCast_nonneg, Try.f8]
  refine CallsVia.none (l10Limit_ok n t p ht) ?_
  rintro _ _ _ ⟨rfl, rfl, rfl⟩
  simp only [absE, absL, absF, reduceCtorEq, ↓reduceIte, Nat.reduceEqDiff, Nat.reduceAdd, Nat.reduceLT, Nat.reduceMul, Nat.reduceSub, Nat.reduceLeDiff, Int.reduceLT, Int.reduceLE, Int.reduceEq, Option.isSome_some, implies_true, false_implies, Prod.mk.injEq, ne_eq, not_false_eq_true, not_true_eq_false, ge_iff_le, gt_iff_lt, Int.toNat_natCast, Int.reduceToNat, Int.cast_ofNat_Int, Int.natCast_nonneg, h, Try.results8]
  exact ⟨[], by simp, by simp, by simp [renV, renVs], by simp, by simp⟩

end Go.Proofs.Ytjmenocghjggcaa
