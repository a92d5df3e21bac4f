/-
Contracts of functions of the given program, by the abstract walk.
-/
import Derived.Test.YtjmenocghjggcaaAbsY
import Derived.Test.YtjmenocghjggcaaWv
namespace Go.Proofs.Ytjmenocghjggcaa
open Go Go.Abs
set_option linter.unusedVariables false
set_option linter.unusedSectionVars false
set_option linter.unusedSimpArgs false
set_option maxRecDepth 100000
/-! linear algebra modulo p: the program's kernel, the walk -/
theorem upd_allM {loc : Loc} {n : Nat} : ∀ (done rest rest' : List Blk), rest'.length = rest.length → (Mem.mk (done ++ rest) loc n).upd ((List.range rest'.length).map fun i => ((0, done.length + i), rest'.getD i .dead)) = ⟨done ++ rest', loc, n⟩
  | done, [], [], _ => rfl
  | done, b :: rest, b' :: rest', h => by
    rw [List.length_cons, List.range_succ_eq_map, List.map_cons, List.map_map]
    simp only [Mem.upd]
    have e : (Mem.mk (done ++ b :: rest) loc n).put (0, done.length + 0) ((b' :: rest').getD 0 .dead) = ⟨(done ++ [b']) ++ rest, loc, n⟩ := by
      show Mem.mk ((done ++ b :: rest).set (done.length + 0) b') loc n = _
      simp
    rw [e]
    have h := upd_allM (loc := loc) (n := n) (done ++ [b']) rest rest' (by simpa using h)
    have e2 : ((fun i => (((0 : Nat), done.length + i), (b' :: rest').getD i Blk.dead)) ∘ Nat.succ) = fun i => (((0 : Nat), (done ++ [b']).length + i), rest'.getD i .dead) := by
      funext i; simp; omega
    rw [e2, h]
    simp
theorem zip_allM {σ : Ren} {ms MS : List Blk} (hl : MS.length = ms.length) (h : MS.map (renBlk σ) = MS) : zipUps σ (allF ms) MS = (List.range MS.length).map fun i => ((0, 0 + i), MS.getD i .dead) := by
  have := zip_all (σ := σ) (ms := MS) h
  unfold allF at this ⊢
  rw [hl] at this
  rw [hl]; exact this
theorem CallsVia.allM {P : Program} {f : FuncId} {vs : List AV} {ms MS NS : List Blk} {loc : Loc} {n : Nat} {v : AV} (hl : ∀ b ∈ ms, b ≠ .dead) (hst : StMs ms) (hlen : MS.length = ms.length) (hstM : ∀ σ : Ren, (∀ k, k < ms.length → σ 0 k = some (0, k)) → MS.map (renBlk σ) = MS) (hv : StVs ms vs)
    (h : ACalls P f vs ms (fun r ms' ns => r = v ∧ ms' = MS ∧ ns = NS)) {K : AV → Ups → List Abs.Id → Prop}
    (hK : ∀ ups rd, (∀ n', (Mem.mk ms loc n').upd ups = (Mem.mk MS loc n').upd (newUps (renOut n (allF ms)) n 0 NS)) → K (renV (renOut n (allF ms)) v) ups rd) : CallsVia P f vs ⟨ms, loc, n⟩ K := by
  refine CallsVia.args (allF ms) h srcs_nodup ?_ (hv _ fun k hk => allF_in hk) (allF_blks hst) ?_
  · intro p hp
    obtain ⟨h1, h2, h3⟩ := srcs_mem.1 hp
    obtain ⟨x, y⟩ := p
    simp only at h1 h2 h3
    subst h1
    show ms.getD y .dead ≠ .dead
    rw [List.getD_eq_getElem?_getD, List.getElem?_eq_getElem (by omega)]
    exact hl _ (List.getElem_mem _)
  · rintro r xs ns ⟨e1, e2, e3⟩
    rw [e1, e2, e3]
    refine hK _ _ fun n' => ?_
    rw [Mem.upd_app, zip_allM hlen (hstM _ fun k hk => allF_out hk)]
    have := upd_allM (loc := loc) (n := n') [] ms MS hlen
    have e : (Mem.mk ms loc n').upd ((List.range MS.length).map fun i => ((0, 0 + i), MS.getD i .dead)) = Mem.mk MS loc n' := by simpa using this
    rw [e]
theorem ms1_st {LL : LLs} : StMs (ms1 LL) := fun σ hσ => by
  have hl : (ms1 LL).length = LL.length + 1 := by simp [ms1, inn_len]
  simp only [ms1, List.map_cons, inn_ren]
  rw [ob_ren fun i hi => hσ (1 + i) (by rw [hl]; omega)]
theorem ms1_live {LL : LLs} : ∀ b ∈ ms1 LL, b ≠ .dead := fun b hb => by
  rcases List.mem_cons.1 hb with rfl | hb
  · simp [ob]
  · unfold inn at hb
    obtain ⟨i, _, rfl⟩ := List.mem_map.1 hb
    simp [ib]
theorem ms1_len {LL : LLs} : (ms1 LL).length = LL.length + 1 := by simp [ms1, inn_len]
theorem msP_len {n L : Nat} {P : LLs} {pi : List Nat} : (msP n L P pi).length = P.length + 1 := by simp [msP, inn_len]
theorem msP_ren' {n L : Nat} {P : LLs} {pi : List Nat} (hpi : ∀ i ∈ pi, i < n) {σ : Ren} (hs : ∀ k, k < n + 1 → σ 0 k = some (0, k)) : (msP n L P pi).map (renBlk σ) = msP n L P pi := by
  have e : (celP L pi).map (renAt σ) = celP L pi := by
    unfold celP
    rw [List.map_map]
    exact List.map_congr_left fun i hi => by simp [renAt, hs (1 + i) (by have := hpi i hi; omega)]
  simp only [msP, List.map_cons, inn_ren, renBlk, renSegs, renSg, e]
theorem rdS_none {p : Int} : ∀ {c}, rdS p 0 [] c = ([], [], [])
  | 0 => rfl
  | c + 1 => by rw [rdS, rdS_none]; rfl
theorem reducedA_ok (n L : Nat) (p : Int) (rows : LLs) (hp : PrP p) (hn : n ≤ 10) (hL : L ≤ 20) (hrn : rows.length = n) (hm : Mat p L rows) :
    ACalls Try.prog 33 [.ref (.sl 0 0 0 0 n 1), .i .i64 p] (ms1 rows)
      (fun v ms ns => v = .tup [.ref (.sl 0 0 0 0 (rdS p n rows L).2.2.length 1), .ref (.sl 1 0 0 0 (rdS p n rows L).2.2.length 1)] ∧ ms = msP n L (rdS p n rows L).1 (rdS p n rows L).2.1 ∧ ns = [plB (rdS p n rows L).2.2]) := by
  by_cases h : n = 0
  · subst h
    obtain rfl : rows = [] := List.length_eq_zero_iff.1 hrn
    rw [rdS_none]; exact reduced0_ok L p
  · exact reduced_ok n L p rows hp hn hL hrn hm (by omega)
set_option maxHeartbeats 4000000 in
theorem kernel_ok (N : Nat) (p : Int) (E : LLs) (hp : PrP p) (hN : N ≤ 10) (hN1 : 1 ≤ N) (hE : E.length = N) (hm : Mat p N E) :
    ACalls Try.prog 67 [.ref (.sl 0 0 0 0 N 1), .i .i64 N, .i .i64 p] (ms1 E)
      (fun v ms ns => v = .ref (.sl 1 0 0 0 (kerN p N E) 1) ∧ ms = msP N N (rdS p N E N).1 (rdS p N E N).2.1 ∧ ns = [.lv true [(0, .cells (kerI p N (rdS p N E N).1 (rdS p N E N).2.1 (rdS p N E N).2.2 N).length (List.replicate (kerI p N (rdS p N E N).1 (rdS p N E N).2.1 (rdS p N E N).2.2 N).length .top))]]) := by
  have hp2 := hp.le
  have p0 : ¬ p = 0 := by omega
  have hRd := reduced_ok N N p E hp hN (by omega) hE hm hN1
  have hI := rdS_I hp hm hE (Nat.le_refl N)
  unfold kerN
  generalize rdS p N E N = S at hRd hI ⊢
  obtain ⟨P, pi, pl⟩ := S
  simp only at hRd hI ⊢
  obtain ⟨hl, hlt, hinj, _⟩ := perm_lt hI.perm
  have hkn := hI.kn
  have hrr : ∀ i, i < pl.length → RngP p (at_ P (pi.getD i 0)) := fun i hi => hI.rng _ (hlt i (by omega))
  have hmK := kerI_mat (pl := pl) hp hrr (Nat.le_refl N)
  have hren := fun σ (hs : ∀ k, k < (ms1 E).length → σ 0 k = some (0, k)) => msP_ren' (n := N) (L := N) (P := P) (pi := pi) (fun i hi => List.mem_range.1 (hI.perm.mem_iff.1 hi)) (σ := σ) fun k hk => hs k (by rw [ms1_len, hE]; exact hk)
  have N8 : (N : Int) * 8 ≤ 140737488355328 := by omega
  have m1 : N * 1 = N := Nat.mul_one N
  refine acalls_of_body mix Try.func67 rfl fok67 (Nat.le_of_ble_eq_true rfl) ?_
  unfold abody
  simp only [absE, absL, absF, reduceCtorEq, ↓reduceIte, Nat.reduceEqDiff, Nat.reduceAdd, Nat.reduceLT, Nat.reduceMul, Nat.reduceSub, Nat.reduceLeDiff, Int.reduceLT, Int.reduceLE, Int.reduceEq, Option.isSome_some, implies_true, false_implies, Prod.mk.injEq, ne_eq, not_false_eq_true, not_true_eq_false, ge_iff_le, gt_iff_lt, Int.toNat_natCast, Int.reduceToNat, Int.cast_ofNat_Int, Int.natCast_nonneg, Try.f67]
  refine CallsVia.allM ms1_live ms1_st (by rw [msP_len, ms1_len, hI.len, hE]) hren (fun σ hs => by simp [renVs, renV, renAt, hs 0 (by rw [ms1_len]; omega)]) hRd ?_
  intro ups rd hu
  have e00 : renOut 4 (allF (ms1 E)) 0 0 = some (0, 0) := allF_out (by rw [ms1_len]; omega)
  have e10 : renOut 4 (allF (ms1 E)) 1 0 = some (4, 0) := rfl
  have ep : renBlk (renOut 4 (allF (ms1 E))) (plB pl) = plB pl := by simp [plB, renBlk, renSegs, renSg]
  simp only [hu, renV, renVs, List.map_cons, List.map_nil, renAt, e00, e10]
  simp only [absE, absL, absF, reduceCtorEq, ↓reduceIte, Nat.reduceEqDiff, Nat.reduceAdd, Nat.reduceLT, Nat.reduceMul, Nat.reduceSub, Nat.reduceLeDiff, Int.reduceLT, Int.reduceLE, Int.reduceEq, Option.isSome_some, implies_true, false_implies, Prod.mk.injEq, ne_eq, not_false_eq_true, not_true_eq_false, ge_iff_le, gt_iff_lt, Int.toNat_natCast, Int.reduceToNat, Int.cast_ofNat_Int, Int.natCast_nonneg, ep]
  refine awpLoop.intro (fun c : Nat => [(0, .ref (.sl 0 0 0 0 pl.length 1)), (1, .i .i64 N), (2, .i .i64 p), (7, .ref (.sl 13 0 0 0 pl.length 1)), (8, .ref (.sl 15 0 0 0 (kerI p N P pi pl c).length 1)), (20, .i .i64 N), (21, .i .i64 c)]) (fun c => ⟨msP N N P pi, ((13, 0), plB pl) :: ((15, 0), ob 16 0 (kerI p N P pi pl c)) :: rbag 16 0 (kerI p N P pi pl c), 200⟩) (fun c => c ≤ N) (fun c => N - c) 0 (by omega) ⟨[((4, 0), (13, 0)), ((10, 0), (15, 0))], rfl, ?_, ?_⟩ ?_
  · simp [wkEnv, lk, renV, renAt, renTo, kerI]
  · simp [wkMem, msP_ren renTo_zero, wkLoc, Mem.get, assoc, renBlk, renSegs, renSg, plB, kerI, ob, rbag_nil, outs_nil]
  · intro c hc
    have hOl := kerI_len (p := p) (N := N) (P := P) (pi := pi) (pl := pl) (c := c)
    have hOs : kerI p N P pi pl (c + 1) = if c ∈ pl then kerI p N P pi pl c else kerI p N P pi pl c ++ [lsI p N P pi pl c pl.length] := rfl
    by_cases hcN : (c : Int) < N
    · have hcN2 : c < N := by omega
      have wc := wrap_i64s (show c < 2 ^ 62 by omega)
      generalize kerI p N P pi pl c = O at hOl hOs ⊢
      have hC := containsP_ok pl c (by omega)
      simp only [absE, absL, absF, reduceCtorEq, ↓reduceIte, Nat.reduceEqDiff, Nat.reduceAdd, Nat.reduceLT, Nat.reduceMul, Nat.reduceSub, Nat.reduceLeDiff, Int.reduceLT, Int.reduceLE, Int.reduceEq, Option.isSome_some, implies_true, false_implies, Prod.mk.injEq, ne_eq, not_false_eq_true, not_true_eq_false, ge_iff_le, gt_iff_lt, Int.toNat_natCast, Int.reduceToNat, Int.cast_ofNat_Int, Int.natCast_nonneg, hcN]
      refine CallsVia.args [(13, 0)] hC (by simp) (by simp [Mem.get, assoc, plB]) (by simp [renVs, renV, renAt, renIn, idx]) (by simp [argBlks, Mem.get, assoc, plB, renBlk, renSegs, renSg]) ?_
      rintro _ _ _ ⟨rfl, rfl, rfl⟩
      by_cases hm : c ∈ pl
      · rw [if_pos hm] at hOs
        simp only [absE, absL, absF, reduceCtorEq, ↓reduceIte, Nat.reduceEqDiff, Nat.reduceAdd, Nat.reduceLT, Nat.reduceMul, Nat.reduceSub, Nat.reduceLeDiff, Int.reduceLT, Int.reduceLE, Int.reduceEq, Option.isSome_some, implies_true, false_implies, Prod.mk.injEq, ne_eq, not_false_eq_true, not_true_eq_false, ge_iff_le, gt_iff_lt, Int.toNat_natCast, Int.reduceToNat, Int.cast_ofNat_Int, Int.natCast_nonneg, hm]
        refine LoopNext.intro (c + 1) (by omega) (by omega) ⟨[((13, 0), (13, 0))] ++ ((15, 0), (15, 0)) :: stdR 16 O.length, wkOk_keepO (next := 200) (by simp [wkOk]) (by decide) (by decide) (by simp), ?_, ?_⟩
        · simp [wkEnv, lk, renV, renAt, renTo, wc, hOs]
        · simp only [wkMem]
          rw [msP_ren renTo_zero, hOs, wk_keepO (LL := O) (by decide) (by simp) (by decide) (by simp [Mem.get, assoc]) (fun j hj => by
            have q := assoc_rbag_in' (a := 16) (k := 0) (i := j) (LL := O) hj
            simp only [Nat.zero_add] at q ⊢
            simp [Mem.get, assoc, q])]
          simp [wkLoc, Mem.get, assoc, plB, renBlk, renSegs, renSg]
      · rw [if_neg hm] at hOs
        simp only [absE, absL, absF, reduceCtorEq, ↓reduceIte, Nat.reduceEqDiff, Nat.reduceAdd, Nat.reduceLT, Nat.reduceMul, Nat.reduceSub, Nat.reduceLeDiff, Int.reduceLT, Int.reduceLE, Int.reduceEq, Option.isSome_some, implies_true, false_implies, Prod.mk.injEq, ne_eq, not_false_eq_true, not_true_eq_false, ge_iff_le, gt_iff_lt, Int.toNat_natCast, Int.reduceToNat, Int.cast_ofNat_Int, Int.natCast_nonneg, hm, N8, m1, hcN]
        refine ite_st (fun h1n hy => ?_) ?_
        · refine ⟨by omega, ?_⟩
          rw [one_int (l := List.replicate N 0) (i := 0 + c * 1) (x := 1) (by simp; omega) (by omega)]; exact hy.2
        · refine And.intro (by omega) ?_
          rw [Nat.zero_add, Nat.mul_one]
          refine awpLoop.intro (fun i : Nat => [(0, .ref (.sl 0 0 0 0 pl.length 1)), (1, .i .i64 N), (2, .i .i64 p), (7, .ref (.sl 13 0 0 0 pl.length 1)), (8, .ref (.sl 15 0 0 0 O.length 1)), (9, .i .i64 c), (10, .ref (.sl 17 0 0 0 N 1)), (20, .i .i64 N), (21, .i .i64 c), (32, .ref (.sl 13 0 0 0 pl.length 1)), (33, .i .i64 pl.length), (34, .i .i64 i)]) (fun i => ⟨msP N N P pi, ((17, 0), .lv true [(0, .ints .i64 N (lsI p N P pi pl c i))]) :: ((13, 0), plB pl) :: ((15, 0), ob 16 0 O) :: rbag 16 0 O, 200⟩) (fun i => i ≤ pl.length) (fun i => pl.length - i) 0 (by omega) ⟨[((207, 0), (17, 0)), ((13, 0), (13, 0))] ++ ((15, 0), (15, 0)) :: stdR 16 O.length, wkOk_keepO (next := 200) (by simp [wkOk]) (by decide) (by decide) (by simp), ?_, ?_⟩ ?_
          · simp [wkEnv, lk, renV, renAt, renTo]
          · simp only [wkMem]
            rw [msP_ren renTo_zero, wk_keepO (LL := O) (by decide) (by simp) (by decide) (by simp [Mem.get, assoc]) (fun j hj => by
              have q := assoc_rbag_in' (a := 16) (k := 0) (i := j) (LL := O) hj
              simp only [Nat.zero_add] at q ⊢
              simp [Mem.get, assoc, q])]
            simp [wkLoc, Mem.get, assoc, plB, renBlk, renSegs, renSg, lsI]
          · intro i hi
            have hSl := lsI_len (p := p) (N := N) (P := P) (pi := pi) (pl := pl) (c := c) (i := i)
            have hSn : lsI p N P pi pl c (i + 1) = (lsI p N P pi pl c i).set (pl.getD i 0) ((p - (at_ P (pi.getD i 0)).getD c 0).tmod p) := rfl
            by_cases hik : (i : Int) < pl.length
            · have hik2 : i < pl.length := by omega
              generalize lsI p N P pi pl c i = S at hSl hSn ⊢
              have wi := wrap_i64s (show i < 2 ^ 62 by omega)
              have v1 : 0 + i * 1 < pl.length := by omega
              have e1 : (pl.map Int.ofNat).getD (0 + i * 1) 0 = (pl.getD i 0 : Nat) := by rw [Nat.zero_add, Nat.mul_one]; simp [hik2]
              have hplt : pl.getD i 0 < N := by
                rw [List.getD_eq_getElem?_getD, List.getElem?_eq_getElem hik2]; exact hI.plt _ (List.getElem_mem _)
              have v2 : ((pl.getD i 0 : Nat) : Int) < N := by omega
              have v3 : 0 + pl.getD i 0 * 1 < N := by omega
              have o1 : (celP N pi).getD (0 + i * 1) .top = .sl 0 (1 + pi.getD i 0) 0 0 N 1 := by rw [Nat.zero_add, Nat.mul_one, celP_get (by omega)]
              have v1n : 0 + i * 1 < N := by omega
              have hx := hlt i (by omega)
              have hxl := hI.rlen _ hx
              have hxr := hI.rng _ hx c
              have q1 : (msP N N P pi).getD (1 + pi.getD i 0) .dead = .lv true [(0, .ints .i64 N (at_ P (pi.getD i 0)))] := by rw [msP_at (by rw [hI.len]; exact hx), ib, hxl]
              have g0 := msP_0 (n := N) (L := N) (P := P) (pi := pi)
              have v4 : 0 + c * 1 < N := by omega
              have gc : (at_ P (pi.getD i 0)).getD (0 + c * 1) 0 = (at_ P (pi.getD i 0)).getD c 0 := by rw [Nat.zero_add, Nat.mul_one]
              have ws : IntKind.i64.wrap (p - (at_ P (pi.getD i 0)).getD c 0) = p - (at_ P (pi.getD i 0)).getD c 0 := wrap_i64 (by omega) (by omega)
              simp only [plB]
              simp only [absE, absL, absF, reduceCtorEq, ↓reduceIte, Nat.reduceEqDiff, Nat.reduceAdd, Nat.reduceLT, Nat.reduceMul, Nat.reduceSub, Nat.reduceLeDiff, Int.reduceLT, Int.reduceLE, Int.reduceEq, Option.isSome_some, implies_true, false_implies, Prod.mk.injEq, ne_eq, not_false_eq_true, not_true_eq_false, ge_iff_le, gt_iff_lt, Int.toNat_natCast, Int.reduceToNat, Int.cast_ofNat_Int, Int.natCast_nonneg, hik, v1, v1n, e1, v2, v3, o1, q1, g0, v4, gc, ws, p0, hcN]
              refine ite_st (fun h1n hy => ?_) ?_
              · refine ⟨by omega, ?_⟩
                rw [one_int (l := S) (i := 0 + pl.getD i 0 * 1) (x := (p - (at_ P (pi.getD i 0)).getD c 0).tmod p) (by omega) (by omega)]; exact hy.2
              · refine And.intro (by omega) ?_
                rw [Nat.zero_add, Nat.mul_one, ← hSn]
                refine LoopNext.intro (i + 1) (by omega) (by omega) ⟨[((17, 0), (17, 0)), ((13, 0), (13, 0))] ++ ((15, 0), (15, 0)) :: stdR 16 O.length, wkOk_keepO (next := 200) (by simp [wkOk]) (by decide) (by decide) (by simp), ?_, ?_⟩
                · simp [wkEnv, lk, renV, renAt, renTo, wi]
                · simp only [wkMem]
                  rw [msP_ren renTo_zero, wk_keepO (LL := O) (by decide) (by simp) (by decide) (by simp [Mem.get, assoc]) (fun j hj => by
                    have q := assoc_rbag_in' (a := 16) (k := 0) (i := j) (LL := O) hj
                    simp only [Nat.zero_add] at q ⊢
                    simp [Mem.get, assoc, q])]
                  simp [wkLoc, Mem.get, assoc, renBlk, renSegs, renSg]
            · obtain rfl : i = pl.length := by omega
              have mO : O.length * 1 = O.length := Nat.mul_one _
              simp only [ob]
              simp only [absE, absL, absF, reduceCtorEq, ↓reduceIte, Nat.reduceEqDiff, Nat.reduceAdd, Nat.reduceLT, Nat.reduceMul, Nat.reduceSub, Nat.reduceLeDiff, Int.reduceLT, Int.reduceLE, Int.reduceEq, Option.isSome_some, implies_true, false_implies, Prod.mk.injEq, ne_eq, not_false_eq_true, not_true_eq_false, ge_iff_le, gt_iff_lt, Int.toNat_natCast, Int.reduceToNat, Int.cast_ofNat_Int, Int.natCast_nonneg, hik, mO]
              repeat refine And.intro (by omega) ?_
              refine LoopNext.intro (c + 1) (by omega) (by omega) ⟨[((13, 0), (13, 0))] ++ snocS (204, 0) 15 17 16 O.length, wkOk_snoc (next := 200) (by simp [wkOk]) (by decide) (by decide) (by decide) (by decide) (by simp) (by decide), ?_, ?_⟩
              · simp [wkEnv, lk, renV, renAt, snocS, renTo, wc, hOs]
              · simp only [wkMem]
                rw [msP_ren renTo_zero, hOs, wk_snoc (LL := O) (xs := lsI p N P pi pl c pl.length) rfl (by decide) (by decide) (by decide) (by simp) (by decide) (by simp [Mem.get, assoc, hSl]) (by simp [Mem.get, assoc, ib, hSl]) (fun j hj => by
                  have q := assoc_rbag_in' (a := 16) (k := 0) (i := j) (LL := O) hj
                  simp only [Nat.zero_add] at q ⊢
                  simp [Mem.get, assoc, q])]
                simp [wkLoc, Mem.get, assoc, plB, renBlk, renSegs, renSg, ob]
    · obtain rfl : N = c := by omega
      simp only [absE, absL, absF, reduceCtorEq, ↓reduceIte, Nat.reduceEqDiff, Nat.reduceAdd, Nat.reduceLT, Nat.reduceMul, Nat.reduceSub, Nat.reduceLeDiff, Int.reduceLT, Int.reduceLE, Int.reduceEq, Option.isSome_some, implies_true, false_implies, Prod.mk.injEq, ne_eq, not_false_eq_true, not_true_eq_false, ge_iff_le, gt_iff_lt, Int.toNat_natCast, Int.reduceToNat, Int.cast_ofNat_Int, Int.natCast_nonneg, hcN]
      generalize kerI p N P pi pl N = O at hOl hmK ⊢
      have hR2 := reducedA_ok O.length N p O hp (by omega) (by omega) rfl hmK
      have hl2 := (perm_lt (rdS_I hp hmK rfl (Nat.le_refl N)).perm).1
      generalize rdS p O.length O N = S2 at hR2 hl2 ⊢
      obtain ⟨P2, pi2, pl2⟩ := S2
      simp only at hR2 hl2 ⊢
      have rin : ∀ j, j < O.length → renIn ((15, 0) :: srcs 16 0 O.length) 16 (0 + j) = some (0, 1 + j) := fun j hj => by
        simp only [renIn, idx, idx_srcs_in hj]
        simp; omega
      refine CallsVia.args ((15, 0) :: srcs 16 0 O.length) hR2 (row_nodup (.inl (by decide))) ?_ (by simp [renVs, renV, renAt, renIn, idx]) ?_ ?_
      · intro q hq
        rcases List.mem_cons.1 hq with rfl | hq
        · simp [Mem.get, assoc, ob]
        · obtain ⟨h1, h2, h3⟩ := srcs_mem.1 hq
          obtain ⟨x, y⟩ := q
          simp only at h1 h2 h3
          subst h1
          have q := assoc_rbag_in' (a := 16) (k := 0) (i := y) (LL := O) (by omega)
          rw [Nat.zero_add] at q
          simp [Mem.get, assoc, q, ib]
      · unfold argBlks
        rw [List.map_cons, srcs_get fun i hh => by
          have q := assoc_rbag_in' (a := 16) (k := 0) (i := i) (LL := O) hh
          simp only [Nat.zero_add] at q ⊢
          simp [Mem.get, assoc, q]]
        have : Mem.get ⟨msP N N P pi, ((13, 0), plB pl) :: ((15, 0), ob 16 0 O) :: rbag 16 0 O, 203⟩ 15 0 = ob 16 0 O := by simp [Mem.get, assoc]
        rw [this, ob_ren rin]; rfl
      · rintro _ _ _ ⟨rfl, rfl, rfl⟩
        obtain ⟨loc', h1, h2⟩ : ∃ loc', (∀ n', (Mem.mk (msP N N P pi) (((13, 0), plB pl) :: ((15, 0), ob 16 0 O) :: rbag 16 0 O) n').upd (zipUps (renOut 203 ((15, 0) :: srcs 16 0 O.length)) ((15, 0) :: srcs 16 0 O.length) (msP O.length N P2 pi2) ++ newUps (renOut 203 ((15, 0) :: srcs 16 0 O.length)) 203 0 [plB pl2]) = ⟨msP N N P pi, loc', n'⟩) ∧
            assoc loc' 15 0 = .lv true [(0, .cells O.length ((celP N pi2).map (renAt (renOut 203 ((15, 0) :: srcs 16 0 O.length)))))] := by
          have hk : ∀ q ∈ zipUps (renOut 203 ((15, 0) :: srcs 16 0 O.length)) (srcs 16 0 O.length) (inn P2) ++ newUps (renOut 203 ((15, 0) :: srcs 16 0 O.length)) 203 0 [plB pl2], q.1.1 = 16 ∨ q.1.1 = 203 := fun q hq => by
            rcases List.mem_append.1 hq with hq | hq
            · exact .inl (srcs_mem.1 (zip_mem q hq)).1
            · exact .inr (new_mem q hq)
          obtain ⟨loc', h1, h2⟩ := upd_nz (args := msP N N P pi) (loc := ((15, 0), renBlk (renOut 203 ((15, 0) :: srcs 16 0 O.length)) (.lv true [(0, .cells O.length (celP N pi2))])) :: ((13, 0), plB pl) :: ((15, 0), ob 16 0 O) :: rbag 16 0 O) fun q hq => by
            rcases hk q hq with e | e <;> rw [e] <;> decide
          refine ⟨loc', fun n' => ?_, ?_⟩
          · have ez : zipUps (renOut 203 ((15, 0) :: srcs 16 0 O.length)) ((15, 0) :: srcs 16 0 O.length) (msP O.length N P2 pi2) = ((15, 0), renBlk (renOut 203 ((15, 0) :: srcs 16 0 O.length)) (.lv true [(0, .cells O.length (celP N pi2))])) :: zipUps (renOut 203 ((15, 0) :: srcs 16 0 O.length)) (srcs 16 0 O.length) (inn P2) := rfl
            rw [ez, List.cons_append]
            simp only [Mem.upd, Mem.put]
            rw [if_neg (by decide)]
            exact h1 n'
          · rw [h2 15 0 fun q hq e => by rcases hk q hq with e' | e' <;> rw [e'] at e <;> exact absurd e (by decide), assoc, if_pos ⟨rfl, rfl⟩]; rfl
        have e0 : renOut 203 ((15, 0) :: srcs 16 0 O.length) 0 0 = some (15, 0) := rfl
        have e1 : renOut 203 ((15, 0) :: srcs 16 0 O.length) 1 0 = some (203, 0) := rfl
        simp only [h1, renV, renVs, List.map_cons, List.map_nil, renAt, e0, e1]
        simp only [absE, absL, absF, reduceCtorEq, ↓reduceIte, Nat.reduceEqDiff, Nat.reduceAdd, Nat.reduceLT, Nat.reduceMul, Nat.reduceSub, Nat.reduceLeDiff, Int.reduceLT, Int.reduceLE, Int.reduceEq, Option.isSome_some, implies_true, false_implies, Prod.mk.injEq, ne_eq, not_false_eq_true, not_true_eq_false, ge_iff_le, gt_iff_lt, Int.toNat_natCast, Int.reduceToNat, Int.cast_ofNat_Int, Int.natCast_nonneg, Try.results67]
        have etop : ((celP N pi2).map (renAt (renOut 203 ((15, 0) :: srcs 16 0 O.length)))).map (renAt (renFin [(15, 0)])) = List.replicate O.length .top := by
          rw [List.map_map]
          refine List.ext_getElem (by simp [celP_len, hl2]) fun j h1 h2 => ?_
          have hj : j < pi2.length := by simpa [celP_len] using h1
          simp only [List.getElem_map, List.getElem_replicate, Function.comp, celP]
          have er : renAt (renOut 203 ((15, 0) :: srcs 16 0 O.length)) (.sl 0 (1 + pi2[j]) 0 0 N 1) = (match (srcs 16 0 O.length)[pi2[j]]? with | some q => .sl q.1 q.2 0 0 N 1 | none => .top) := by
            have : renOut 203 ((15, 0) :: srcs 16 0 O.length) 0 (1 + pi2[j]) = (srcs 16 0 O.length)[pi2[j]]? := by
              show ((15, 0) :: srcs 16 0 O.length)[1 + pi2[j]]? = _
              rw [Nat.add_comm, List.getElem?_cons_succ]
            simp only [renAt, this]
            cases (srcs 16 0 O.length)[pi2[j]]? <;> rfl
          rw [er]
          cases hq : (srcs 16 0 O.length)[pi2[j]]? with
          | none => rfl
          | some q =>
            have := (srcs_mem.1 (List.mem_of_getElem? hq)).1
            simp [renAt, renFin, idx, this]
        refine ⟨[(15, 0)], by simp, by simp, by simp [renV, renVs, renAt, renFin, idx], msP_ren renFin_zero, ?_⟩
        simp only [List.map_cons, List.map_nil, Mem.get]
        rw [if_neg (by decide), h2]
        simp only [renBlk, renSegs, renSg, etop]

end Go.Proofs.Ytjmenocghjggcaa
