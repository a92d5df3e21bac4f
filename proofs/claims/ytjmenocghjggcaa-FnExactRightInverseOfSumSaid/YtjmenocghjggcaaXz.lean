/-
Contracts of functions of the given program, by the abstract walk.
-/
import Derived.Test.YtjmenocghjggcaaAbsY
import Derived.Test.YtjmenocghjggcaaWz
namespace Go.Proofs.Ytjmenocghjggcaa
open Go Go.Abs
set_option linter.unusedVariables false
set_option linter.unusedSectionVars false
set_option linter.unusedSimpArgs false
set_option maxRecDepth 100000
/-! RightInverseOfSum: the program -/
def oneZ (z : Nat) : Int := if z = 0 then 1 else 0
def exL (E : LLs) : Nat → LLs
  | 0 => E
  | z + 1 => (exL E z).set z (at_ E z ++ [oneZ z])
theorem exL_len {E : LLs} : ∀ {z}, (exL E z).length = E.length
  | 0 => rfl
  | z + 1 => by rw [exL, List.length_set, exL_len]
theorem exL_at {E : LLs} {i : Nat} : ∀ {z}, z ≤ E.length → at_ (exL E z) i = if i < z then at_ E i ++ [oneZ i] else at_ E i
  | 0, _ => by simp [exL]
  | z + 1, h => by
    rw [exL, at_set (by rw [exL_len]; omega), exL_at (by omega)]
    by_cases e : i = z
    · subst e; rw [if_pos rfl, if_pos (by omega)]
    · rw [if_neg e]
      by_cases e2 : i < z
      · rw [if_pos e2, if_pos (by omega)]
      · rw [if_neg e2, if_neg (by omega)]
theorem exL_all {N : Nat} {E : LLs} (h : E.length = N) : exL E N = eqX N E := by
  refine List.ext_getElem (by rw [exL_len, eqX_len, h]) fun i h1 h2 => ?_
  have hi : i < N := by rw [exL_len, h] at h1; exact h1
  have e1 := exL_at (E := E) (i := i) (z := N) (by omega)
  rw [if_pos hi, at_lt h1] at e1
  have e2 := eqX_row (N := N) (E := E) hi
  rw [at_lt h2] at e2
  rw [e1, e2]; rfl
theorem redI_via {args : List Blk} {loc : Loc} {n O B L nr : Nat} {p : Int} {rows P : LLs} {pi pl : List Nat} (hnr : nr = rows.length) (hPl : P.length = nr) (hO : O ≠ 0) (hB : B ≠ 0) (hn : n ≠ 0) (hOB : O ≠ B) (hnO : n ≠ O) (hnB : n ≠ B) (h0 : assoc loc O 0 = ob B 0 rows) (hi : ∀ i, i < rows.length → assoc loc B (0 + i) = ib (at_ rows i))
    (hpi : ∀ i ∈ pi, i < nr) (h : ACalls Try.prog 33 [.ref (.sl 0 0 0 0 nr 1), .i .i64 p] (ms1 rows) (fun v ms ns => v = .tup [.ref (.sl 0 0 0 0 pl.length 1), .ref (.sl 1 0 0 0 pl.length 1)] ∧ ms = msP nr L P pi ∧ ns = [plB pl])) {K : AV → Ups → List Abs.Id → Prop}
    (hK : ∀ ups rd loc', (∀ n', (Mem.mk args loc n').upd ups = ⟨args, loc', n'⟩) → (∀ a k, a ≠ O → a ≠ B → a ≠ n → assoc loc' a k = assoc loc a k) → assoc loc' O 0 = .lv true [(0, .cells nr (pi.map fun i => .sl B i 0 0 L 1))] → (∀ x, x < nr → assoc loc' B x = ib (at_ P x)) → assoc loc' n 0 = plB pl →
      K (.tup [.ref (.sl O 0 0 0 pl.length 1), .ref (.sl n 0 0 0 pl.length 1)]) ups rd) :
    CallsVia Try.prog 33 [.ref (.sl O 0 0 0 nr 1), .i .i64 p] ⟨args, loc, n⟩ K := by
  subst hnr
  have g0 : ∀ n, (Mem.mk args loc n).get O 0 = ob B 0 rows := fun n => by show (if O = 0 then _ else assoc loc O 0) = _; rw [if_neg hO]; exact h0
  have gi : ∀ n i, i < rows.length → (Mem.mk args loc n).get B (0 + i) = ib (at_ rows i) := fun n i hh => by show (if B = 0 then _ else assoc loc B (0 + i)) = _; rw [if_neg hB]; exact hi i hh
  have rin : ∀ j, j < rows.length → renIn ((O, 0) :: srcs B 0 rows.length) B (0 + j) = some (0, 1 + j) := fun j hj => by
    simp only [renIn, idx, hOB, false_and, if_false, idx_srcs_in hj]
    simp; omega
  have rout : ∀ j, j < rows.length → renOut n ((O, 0) :: srcs B 0 rows.length) 0 (1 + j) = some (B, j) := fun j hj => by
    show ((O, 0) :: srcs B 0 rows.length)[1 + j]? = _
    rw [show 1 + j = j + 1 by omega, List.getElem?_cons_succ]
    simp [srcs, hj]
  refine CallsVia.args ((O, 0) :: srcs B 0 rows.length) h (row_nodup (.inl hOB)) ?_ (by simp [renVs, renV, renAt, renIn, idx]) ?_ ?_
  · intro q hq
    rcases List.mem_cons.1 hq with rfl | hq
    · rw [g0]; simp [ob]
    · obtain ⟨h1, h2, h3⟩ := srcs_mem.1 hq
      obtain ⟨x, y⟩ := q
      simp only at h1 h2 h3
      subst h1
      rw [show y = 0 + y by omega, gi _ _ (by omega)]
      simp [ib]
  · unfold argBlks
    rw [List.map_cons, g0, srcs_get fun i hh => gi _ i hh, ob_ren rin]
    rfl
  · rintro r ms ns ⟨e1, e2, e3⟩
    rw [e1, e2, e3]
    have ec : (celP L pi).map (renAt (renOut n ((O, 0) :: srcs B 0 rows.length))) = pi.map fun i => .sl B i 0 0 L 1 := by
      unfold celP
      rw [List.map_map]
      exact List.map_congr_left fun i hi => by simp [renAt, rout i (hpi i hi)]
    have ep : renBlk (renOut n ((O, 0) :: srcs B 0 rows.length)) (plB pl) = plB pl := by simp [plB, renBlk, renSegs, renSg]
    exact hK (zipUps (renOut n ((O, 0) :: srcs B 0 rows.length)) ((O, 0) :: srcs B 0 rows.length) (msP rows.length L P pi) ++ newUps (renOut n ((O, 0) :: srcs B 0 rows.length)) n 0 [plB pl]) ((O, 0) :: srcs B 0 rows.length)
      (((n, 0), plB pl) :: (rbag B 0 P ++ ((O, 0), .lv true [(0, .cells rows.length (pi.map fun i => .sl B i 0 0 L 1))]) :: loc)) (fun n' => by
        simp only [msP, zipUps, renBlk, renSegs, renSg, ec]
        rw [zipUps_srcs hPl.symm]
        simp only [newUps, ep, Mem.upd_app, Mem.upd, Mem.put, hO, hn, if_false, Mem.upd_bagU hB]) (fun a k ha hb hc => by
        rw [assoc, if_neg (fun e => hc e.1.symm), assoc_rbag_ne hb, assoc, if_neg (fun e => ha e.1.symm)]) (by
        rw [assoc, if_neg (fun e => hnO e.1), assoc_rbag_ne hOB, assoc, if_pos ⟨rfl, rfl⟩]) (fun x hx => by
        rw [assoc, if_neg (fun e => hnB e.1)]
        have q := assoc_rbag_in (a := B) (k := 0) (i := x) (LL := P) (r := ((O, 0), .lv true [(0, .cells rows.length (pi.map fun i => .sl B i 0 0 L 1))]) :: loc) (by omega)
        rwa [Nat.zero_add] at q) (by rw [assoc, if_pos ⟨rfl, rfl⟩])
set_option maxHeartbeats 4000000 in
theorem implRi_core (t : List Int) (p : Int) (xs : List Int) (k : Nat) (ht : Bytes 100 t) (hx : xs.length = k) (hk : k ≤ 2 ^ 20) (h1 : rcd1 (k : Int) t p xs k = 0) (hs : SqP (k : Int) t) (hp : PrP p) (hr : RngP p xs) :
    ACalls Try.prog 13 [.agg (sqS k t), .i .i64 p, .ref (.sl 0 0 0 0 k 1)] [.lv true [(0, .ints .i64 k xs)]] (fun v ms ns => ms = [.lv true [(0, .ints .i64 k xs)]] ∧
      ((Triv p k (eqT k t p xs k) ∧ v = .tup [.ref (.sl 1 0 0 0 k 1), .i .i64 0] ∧ ns = [.lv true [(0, .ints .i64 k (riL k t p xs))]]) ∨ (¬ Triv p k (eqT k t p xs k) ∧ v = .tup [.ref .nils, .i .i64 4] ∧ ns = []))) := by
  have hN := hs.le
  have hN1 := hs.pos
  have hEq := equations_ok k t p xs ht hs hp hr hx
  have hE := eqT_eqs (N := k) (t := t) hp hs hr (Nat.le_refl k)
  have hEm := eqT_mat (N := k) (t := t) hp hs hr
  have hfull := eqX_full hp hN1 hE hEm
  rw [← hEm] at hfull
  have hXm := eqX_mat hp hE
  have hsol : Triv p k (eqT k t p xs k) → ∀ i, i < k → (at_ (rdS p k (eqX k (eqT k t p xs k)) (k + 1)).1 ((rdS p k (eqX k (eqT k t p xs k)) (k + 1)).2.1.getD i 0)).getD k 0 = (riL k t p xs).getD i 0 := fun ht2 => by
    obtain ⟨_, _, h3⟩ := ri_ok hp hs hr ht2
    have hlS := sovS_facts (p := p) (N := k) (D := sovD p k (imgL k t p xs k)) (i := k) hp (unitK_len (N := k) (k := 0)) (unitK_rng (N := k) hp hN1)
    unfold riL
    simp only [Int.toNat_natCast]
    refine eqX_sol hp hN1 hE hEm (by rw [← hEm]; exact ht2) hlS.2.2.2 fun z hz => ?_
    have := h3 z hz
    rw [unitK_get (by omega)] at this
    exact this
  have hrl : (riL k t p xs).length = k := by
    unfold riL
    simp only [Int.toNat_natCast]
    exact (sovS_facts (p := p) (N := k) (D := sovD p k (imgL k t p xs k)) (i := k) hp (unitK_len (N := k) (k := 0)) (unitK_rng (N := k) hp hN1)).2.1
  have hRd := reduced_ok k (k + 1) p (eqX k (eqT k t p xs k)) hp hN (by omega) eqX_len hXm hN1
  have hI := rdS_I hp hXm eqX_len (Nat.le_refl (k + 1))
  have hXX := exL_all hE.len
  generalize hEE : eqT k t p xs k = E at hEq hE hEm hfull hXm hsol hRd hI hXX ⊢
  generalize rdS p k (eqX k E) (k + 1) = S at hfull hsol hRd hI
  obtain ⟨P, pi, pl⟩ := S
  simp only at hfull hsol hRd hI
  refine acalls_of_body mix Try.func13 rfl fok13 (Nat.le_of_ble_eq_true rfl) ?_
  unfold abody
  simp only [absE, absL, absF, reduceCtorEq, ↓reduceIte, Nat.reduceEqDiff, Nat.reduceAdd, Nat.reduceLT, Nat.reduceMul, Nat.reduceSub, Nat.reduceLeDiff, Int.reduceLT, Int.reduceLE, Int.reduceEq, Option.isSome_some, implies_true, false_implies, Prod.mk.injEq, ne_eq, not_false_eq_true, not_true_eq_false, ge_iff_le, gt_iff_lt, Int.toNat_natCast, Int.reduceToNat, Int.cast_ofNat_Int, Int.natCast_nonneg, Try.f13]
  refine CallsVia.args [(7, 0), (0, 0)] (ringCode1_ok k t p xs k ht hx hk) (by simp) (by simp [Mem.get, assoc]) rfl rfl ?_
  rintro _ _ _ ⟨rfl, rfl, rfl⟩
  simp only [absE, absL, absF, reduceCtorEq, ↓reduceIte, Nat.reduceEqDiff, Nat.reduceAdd, Nat.reduceLT, Nat.reduceMul, Nat.reduceSub, Nat.reduceLeDiff, Int.reduceLT, Int.reduceLE, Int.reduceEq, Option.isSome_some, implies_true, false_implies, Prod.mk.injEq, ne_eq, not_false_eq_true, not_true_eq_false, ge_iff_le, gt_iff_lt, Int.toNat_natCast, Int.reduceToNat, Int.cast_ofNat_Int, Int.natCast_nonneg, h1]
  refine CallsVia.args [(0, 0)] hEq (by simp) (by simp [Mem.get]) (by simp [renVs, renV, renAt, renIn, idx, renSegs, renSg]) (by simp [argBlks, Mem.get, renBlk, renSegs, renSg]) ?_
  rintro _ _ _ ⟨rfl, rfl, rfl⟩
  simp only [absE, absL, absF, reduceCtorEq, ↓reduceIte, Nat.reduceEqDiff, Nat.reduceAdd, Nat.reduceLT, Nat.reduceMul, Nat.reduceSub, Nat.reduceLeDiff, Int.reduceLT, Int.reduceLE, Int.reduceEq, Option.isSome_some, implies_true, false_implies, Prod.mk.injEq, ne_eq, not_false_eq_true, not_true_eq_false, ge_iff_le, gt_iff_lt, Int.toNat_natCast, Int.reduceToNat, Int.cast_ofNat_Int, Int.natCast_nonneg, newUps_inn, ob_out, Mem.upd_bagU, assoc_rbag_ne]
  have hok0 : wkOk ([((1, 0), (1, 0)), ((15, 0), (13, 0))] ++ segR (fun j => (15, 1 + j)) E.length 14) 200 = true := wkOk_seg (by simp [wkOk]) (fun a b _ _ e => by have := congrArg (·.2) e; simp only at this; omega) (fun _ _ => by simp) (by decide) (by decide) (fun x hx i hi => by
    simp only [List.mem_cons, List.not_mem_nil, or_false] at hx
    rcases hx with rfl | rfl <;> simp; omega) (by simp)
  refine awpLoop.intro (fun z : Nat => [(1, .i .i64 p), (3, .ref (.ptr 1 0 0 0)), (9, .ref (.sl 13 0 0 0 k 1)), (29, .i .i64 k), (30, .i .i64 z)]) (fun z => ⟨[.lv true [(0, .ints .i64 k xs)]], ((1, 0), .lv true (sqS k t)) :: ((13, 0), .lv true [(0, .cells k (outs 14 0 (exL E z)))]) :: rbag 14 0 (exL E z), 200⟩) (fun z => z ≤ k) (fun z => k - z) 0 (by omega) ⟨[((1, 0), (1, 0)), ((15, 0), (13, 0))] ++ segR (fun j => (15, 1 + j)) E.length 14, hok0, ?_, ?_⟩ ?_
  · have r1 := renTo_ok (p := (1, 0)) (q := (1, 0)) hok0 (by simp) (by simp)
    have r2 := renTo_ok (p := (15, 0)) (q := (13, 0)) hok0 (by simp) (by simp)
    simp only [wkEnv]
    generalize renTo ([((1, 0), (1, 0)), ((15, 0), (13, 0))] ++ segR (fun j => (15, 1 + j)) E.length 14) = τ at r1 r2 ⊢
    simp [lk, renV, renAt, r1, r2]
  · have w1 : (outs 15 1 E).map (renAt (renTo ([((1, 0), (1, 0)), ((15, 0), (13, 0))] ++ segR (fun j => (15, 1 + j)) E.length 14))) = outs 14 0 E := by
      rw [outs_S]; exact outsS_ren fun j hj => renTo_ok (p := (15, 1 + j)) hok0 (by simp) (List.mem_append_right _ (seg_mem (src := fun j => (15, 1 + j)) hj))
    simp only [wkMem]
    rw [wkLoc_app, wk_seg (LL := E) rfl fun j hj => by
      have q := assoc_rbag_in (a := 15) (k := 1) (i := j) (LL := E) (r := [((15, 0), ob 15 1 E), ((7, 0), .lv true [(0, .cells 1 [.sl 0 0 0 0 k 1])]), ((7, 0), .lv true [(0, .cells 1 [.sl 0 0 0 0 k 1])]), ((1, 0), .lv true (sqS (k : Int) t))]) hj
      simp [Mem.get, q]]
    have q0 : ∀ (B : Blk) (rest : Loc), assoc (rbag 15 1 E ++ ((15, 0), B) :: rest) 15 0 = B := fun B rest => by rw [assoc_rbag_lt (by decide), assoc, if_pos ⟨rfl, rfl⟩]
    have q1 : ∀ rest : Loc, assoc (rbag 15 1 E ++ rest) 1 0 = assoc rest 1 0 := fun rest => assoc_rbag_ne (by decide)
    generalize renTo ([((1, 0), (1, 0)), ((15, 0), (13, 0))] ++ segR (fun j => (15, 1 + j)) E.length 14) = τ at w1 ⊢
    simp [wkLoc, Mem.get, q0, q1, assoc, renBlk, renSegs, renSg, ob, w1, exL, hE.len]
  · intro z hz
    have hLl := exL_len (E := E) (z := z)
    rw [hE.len] at hLl
    have hLs : exL E (z + 1) = (exL E z).set z (at_ E z ++ [oneZ z]) := rfl
    by_cases h : (z : Int) < k
    · have hzk : z < k := by omega
      have hat : at_ (exL E z) z = at_ E z := by rw [exL_at (by rw [hE.len]; omega), if_neg (by omega)]
      have hrw := hE.row z hzk
      generalize exL E z = T at hLl hLs hat ⊢
      have w := wrap_i64s (show z < 2 ^ 62 by omega)
      have v1 : 0 + z * 1 < k := by omega
      have o1 : (outs 14 0 T).getD (0 + z * 1) .top = .sl 14 z 0 0 k 1 := by rw [Nat.zero_add, Nat.mul_one, outs_get (by omega), hat, hrw, Nat.zero_add]
      have q14 : assoc (rbag 14 0 T) 14 z = .lv true [(0, .ints .i64 k (at_ E z))] := by
        have q := assoc_rbag_in' (a := 14) (k := 0) (i := z) (LL := T) (by omega)
        rw [Nat.zero_add] at q; rw [q, ib, hat, hrw]
      have mk : k * 1 = k := Nat.mul_one k
      by_cases hz0 : (z : Int) = 0
      · have hone : oneZ z = 1 := by unfold oneZ; rw [if_pos (by omega)]
        rw [hone] at hLs
        have hz1 : ((z : Int) = 0) = True := eq_true hz0
        simp only [absE, absL, absF, reduceCtorEq, ↓reduceIte, Nat.reduceEqDiff, Nat.reduceAdd, Nat.reduceLT, Nat.reduceMul, Nat.reduceSub, Nat.reduceLeDiff, Int.reduceLT, Int.reduceLE, Int.reduceEq, Option.isSome_some, implies_true, false_implies, Prod.mk.injEq, ne_eq, not_false_eq_true, not_true_eq_false, ge_iff_le, gt_iff_lt, Int.toNat_natCast, Int.reduceToNat, Int.cast_ofNat_Int, Int.natCast_nonneg, h, hz1, v1, o1, q14, mk]
        refine And.intro (by omega) (And.intro (by omega) ?_)
        have hxl : (at_ E z ++ [(1 : Int)]).length = k + 1 := by rw [List.length_append, hrw]; rfl
        generalize at_ E z ++ [(1 : Int)] = ys at hLs hxl ⊢
        refine ite_st (fun h1n hy => ?_) ?_
        · refine ⟨by omega, ?_⟩
          rw [one_at (l := outs 14 0 T) (i := 0 + z * 1) (x := .sl 215 0 0 0 (k + 1) 1) (by rw [outs_len]; omega) (by omega)]; exact hy.2
        · refine And.intro (by omega) ?_
          have u : (outs 14 0 T).set (0 + z * 1) (.sl 215 0 0 0 (k + 1) 1) = outsS (swapS 14 215 z) (T.set z ys) := by
            rw [Nat.zero_add, Nat.mul_one, ← hxl]; exact outs_swap (by omega)
          rw [u]
          have hok : wkOk ([((1, 0), (1, 0)), ((13, 0), (13, 0))] ++ segR (swapS 14 215 z) (T.set z ys).length 14) 200 = true := wkOk_seg (by simp [wkOk]) (fun a b _ _ e => swapS_inj (by decide) a b e) (fun i _ => by have q := swapS_fst (B := 14) (t := 215) (n := z) (i := i); omega) (by decide) (by decide) (fun x hx i hi e => by
            have q := swapS_fst (B := 14) (t := 215) (n := z) (i := i)
            have e' := congrArg (·.1) e
            simp only [List.mem_cons, List.not_mem_nil, or_false] at hx
            rcases hx with rfl | rfl <;> simp only at e' <;> omega) (by simp)
          have r1 := renTo_ok (p := (1, 0)) (q := (1, 0)) hok (by simp) (by simp)
          have r2 := renTo_ok (p := (13, 0)) (q := (13, 0)) hok (by simp) (by simp)
          have w1 : (outsS (swapS 14 215 z) (T.set z ys)).map (renAt (renTo ([((1, 0), (1, 0)), ((13, 0), (13, 0))] ++ segR (swapS 14 215 z) (T.set z ys).length 14))) = outs 14 0 (T.set z ys) := outsS_ren fun j hj => renTo_ok hok (by have q := swapS_fst (B := 14) (t := 215) (n := z) (i := j); omega) (List.mem_append_right _ (seg_mem hj))
          refine LoopNext.intro (z + 1) (by omega) (by omega) ⟨[((1, 0), (1, 0)), ((13, 0), (13, 0))] ++ segR (swapS 14 215 z) (T.set z ys).length 14, hok, ?_, ?_⟩
          · simp only [wkEnv]
            generalize renTo ([((1, 0), (1, 0)), ((13, 0), (13, 0))] ++ segR (swapS 14 215 z) (T.set z ys).length 14) = τ at r1 r2 ⊢
            simp [lk, renV, renAt, r1, r2, w]
          · simp only [wkMem]
            rw [hLs, wkLoc_app, wk_seg (LL := T.set z ys) rfl fun j hj => by
              have hjT : j < T.length := by simpa using hj
              rw [at_set (by omega)]
              unfold swapS
              by_cases e : j = z
              · rw [if_pos e, if_pos e]; simp [Mem.get, assoc, ib, hxl]
              · rw [if_neg e, if_neg e]
                have q := assoc_rbag_in' (a := 14) (k := 0) (i := j) (LL := T) hjT
                simp only [Nat.zero_add] at q ⊢
                simp [Mem.get, assoc, q, show ¬ z = j from fun h => e h.symm]]
            generalize renTo ([((1, 0), (1, 0)), ((13, 0), (13, 0))] ++ segR (swapS 14 215 z) (T.set z ys).length 14) = τ at w1 ⊢
            simp [wkLoc, Mem.get, assoc, renBlk, renSegs, renSg, w1]
      · have hone : oneZ z = 0 := by unfold oneZ; rw [if_neg (by omega)]
        rw [hone] at hLs
        simp only [absE, absL, absF, reduceCtorEq, ↓reduceIte, Nat.reduceEqDiff, Nat.reduceAdd, Nat.reduceLT, Nat.reduceMul, Nat.reduceSub, Nat.reduceLeDiff, Int.reduceLT, Int.reduceLE, Int.reduceEq, Option.isSome_some, implies_true, false_implies, Prod.mk.injEq, ne_eq, not_false_eq_true, not_true_eq_false, ge_iff_le, gt_iff_lt, Int.toNat_natCast, Int.reduceToNat, Int.cast_ofNat_Int, Int.natCast_nonneg, h, hz0, v1, o1, q14, mk]
        refine And.intro (by omega) (And.intro (by omega) ?_)
        have hxl : (at_ E z ++ [(0 : Int)]).length = k + 1 := by rw [List.length_append, hrw]; rfl
        generalize at_ E z ++ [(0 : Int)] = ys at hLs hxl ⊢
        refine ite_st (fun h1n hy => ?_) ?_
        · refine ⟨by omega, ?_⟩
          rw [one_at (l := outs 14 0 T) (i := 0 + z * 1) (x := .sl 214 0 0 0 (k + 1) 1) (by rw [outs_len]; omega) (by omega)]; exact hy.2
        · refine And.intro (by omega) ?_
          have u : (outs 14 0 T).set (0 + z * 1) (.sl 214 0 0 0 (k + 1) 1) = outsS (swapS 14 214 z) (T.set z ys) := by
            rw [Nat.zero_add, Nat.mul_one, ← hxl]; exact outs_swap (by omega)
          rw [u]
          have hok : wkOk ([((1, 0), (1, 0)), ((13, 0), (13, 0))] ++ segR (swapS 14 214 z) (T.set z ys).length 14) 200 = true := wkOk_seg (by simp [wkOk]) (fun a b _ _ e => swapS_inj (by decide) a b e) (fun i _ => by have q := swapS_fst (B := 14) (t := 214) (n := z) (i := i); omega) (by decide) (by decide) (fun x hx i hi e => by
            have q := swapS_fst (B := 14) (t := 214) (n := z) (i := i)
            have e' := congrArg (·.1) e
            simp only [List.mem_cons, List.not_mem_nil, or_false] at hx
            rcases hx with rfl | rfl <;> simp only at e' <;> omega) (by simp)
          have r1 := renTo_ok (p := (1, 0)) (q := (1, 0)) hok (by simp) (by simp)
          have r2 := renTo_ok (p := (13, 0)) (q := (13, 0)) hok (by simp) (by simp)
          have w1 : (outsS (swapS 14 214 z) (T.set z ys)).map (renAt (renTo ([((1, 0), (1, 0)), ((13, 0), (13, 0))] ++ segR (swapS 14 214 z) (T.set z ys).length 14))) = outs 14 0 (T.set z ys) := outsS_ren fun j hj => renTo_ok hok (by have q := swapS_fst (B := 14) (t := 214) (n := z) (i := j); omega) (List.mem_append_right _ (seg_mem hj))
          refine LoopNext.intro (z + 1) (by omega) (by omega) ⟨[((1, 0), (1, 0)), ((13, 0), (13, 0))] ++ segR (swapS 14 214 z) (T.set z ys).length 14, hok, ?_, ?_⟩
          · simp only [wkEnv]
            generalize renTo ([((1, 0), (1, 0)), ((13, 0), (13, 0))] ++ segR (swapS 14 214 z) (T.set z ys).length 14) = τ at r1 r2 ⊢
            simp [lk, renV, renAt, r1, r2, w]
          · simp only [wkMem]
            rw [hLs, wkLoc_app, wk_seg (LL := T.set z ys) rfl fun j hj => by
              have hjT : j < T.length := by simpa using hj
              rw [at_set (by omega)]
              unfold swapS
              by_cases e : j = z
              · rw [if_pos e, if_pos e]; simp [Mem.get, assoc, ib, hxl]
              · rw [if_neg e, if_neg e]
                have q := assoc_rbag_in' (a := 14) (k := 0) (i := j) (LL := T) hjT
                simp only [Nat.zero_add] at q ⊢
                simp [Mem.get, assoc, q, show ¬ z = j from fun h => e h.symm]]
            generalize renTo ([((1, 0), (1, 0)), ((13, 0), (13, 0))] ++ segR (swapS 14 214 z) (T.set z ys).length 14) = τ at w1 ⊢
            simp [wkLoc, Mem.get, assoc, renBlk, renSegs, renSg, w1]
    · obtain rfl : k = z := by omega
      rw [hXX]
      have hXl := eqX_len (N := k) (E := E)
      have hXr : ∀ i, i < k → (at_ (eqX k E) i).length = k + 1 := fun i hi => hXm.len _ (by rw [at_lt (by omega)]; exact List.getElem_mem _)
      generalize eqX k E = X at hXm hXl hXr hRd hI ⊢
      simp only [absE, absL, absF, reduceCtorEq, ↓reduceIte, Nat.reduceEqDiff, Nat.reduceAdd, Nat.reduceLT, Nat.reduceMul, Nat.reduceSub, Nat.reduceLeDiff, Int.reduceLT, Int.reduceLE, Int.reduceEq, Option.isSome_some, implies_true, false_implies, Prod.mk.injEq, ne_eq, not_false_eq_true, not_true_eq_false, ge_iff_le, gt_iff_lt, Int.toNat_natCast, Int.reduceToNat, Int.cast_ofNat_Int, Int.natCast_nonneg, h]
      obtain ⟨hl, hlt, hinj, _⟩ := perm_lt hI.perm
      refine redI_via (rows := X) (O := 13) (B := 14) hXl.symm hI.len (by decide) (by decide) (by decide) (by decide) (by decide) (by decide) (by simp [assoc, ob, hXl]) (fun i hi => by
        have q := assoc_rbag_in' (a := 14) (k := 0) (i := i) (LL := X) hi
        simp only [Nat.zero_add] at q ⊢
        simp [assoc, q]) (fun i hi => List.mem_range.1 (hI.perm.mem_iff.1 hi)) hRd ?_
      intro ups rd loc' hu hsame f0 f1 f2
      have l1 : assoc loc' 1 0 = .lv true (sqS k t) := by rw [hsame 1 0 (by decide) (by decide) (by decide)]; simp [assoc]
      rw [plB] at f2
      simp only [hu]
      by_cases hKN : pl.length = k
      · have hKN2 : ((pl.length : Nat) : Int) = k := by omega
        have wk1 : IntKind.i64.wrap ((k : Int) - 1) = ((k - 1 : Nat) : Int) := by rw [wrap_i64 (by omega) (by omega)]; omega
        have wt : (((k - 1 : Nat) : Int)).toNat = k - 1 := Int.toNat_natCast _
        have w0 : (0 : Int) ≤ ((k - 1 : Nat) : Int) := by omega
        have w2 : ((k - 1 : Nat) : Int) < k := by omega
        have w3 : 0 + (k - 1) * 1 < pl.length := by omega
        have gl : (pl.map Int.ofNat).getD (0 + (k - 1) * 1) 0 = (pl.getD (k - 1) 0 : Nat) := by rw [Nat.zero_add, Nat.mul_one]; simp [show k - 1 < pl.length by omega]
        by_cases hlast : pl.getD (k - 1) 0 = k
        · have hlast2 : ((pl.getD (k - 1) 0 : Nat) : Int) = k := by omega
          have hnT : ¬ Triv p k E := fun ht2 => (hfull.2 ht2).2 hlast
          simp only [absE, absL, absF, reduceCtorEq, ↓reduceIte, Nat.reduceEqDiff, Nat.reduceAdd, Nat.reduceLT, Nat.reduceMul, Nat.reduceSub, Nat.reduceLeDiff, Int.reduceLT, Int.reduceLE, Int.reduceEq, Option.isSome_some, implies_true, false_implies, Prod.mk.injEq, ne_eq, not_false_eq_true, not_true_eq_false, ge_iff_le, gt_iff_lt, Int.toNat_natCast, Int.reduceToNat, Int.cast_ofNat_Int, Int.natCast_nonneg, l1, hKN2, f2, wk1, wt, w0, w2, w3, gl, hlast2, Try.results13]
          exact ⟨[], by simp, by simp, by simp [renBlk, renSegs, renSg], .inr ⟨hnT, by simp [renV, renVs, renAt], by simp⟩⟩
        · have hlast2 : ¬ ((pl.getD (k - 1) 0 : Nat) : Int) = k := by omega
          have hT : Triv p k E := hfull.1 ⟨hKN, hlast⟩
          have hs2 := hsol hT
          simp only [absE, absL, absF, reduceCtorEq, ↓reduceIte, Nat.reduceEqDiff, Nat.reduceAdd, Nat.reduceLT, Nat.reduceMul, Nat.reduceSub, Nat.reduceLeDiff, Int.reduceLT, Int.reduceLE, Int.reduceEq, Option.isSome_some, implies_true, false_implies, Prod.mk.injEq, ne_eq, not_false_eq_true, not_true_eq_false, ge_iff_le, gt_iff_lt, Int.toNat_natCast, Int.reduceToNat, Int.cast_ofNat_Int, Int.natCast_nonneg, l1, hKN2, f2, wk1, wt, w0, w2, w3, gl, hlast2]
          have hR : ∀ j, j < k → at_ (pi.map (at_ P)) j = at_ P (pi.getD j 0) := fun j hj => by
            rw [at_lt (by simp; omega), List.getElem_map]; simp [show j < pi.length by omega]
          have hRl : (pi.map (at_ P)).length = k := by simp [hl]
          have hRr : ∀ j, j < k → (at_ (pi.map (at_ P)) j).length = k + 1 := fun j hj => by rw [hR j hj]; exact hI.rlen _ (hlt j hj)
          have hRv : ∀ j, j < k → (at_ (pi.map (at_ P)) j).getD k 0 = (riL k t p xs).getD j 0 := fun j hj => by rw [hR j hj]; exact hs2 j hj
          have ec : (pi.map fun i => (.sl 14 i 0 0 (k + 1) 1 : Atom)) = outsS (fun j => (14, pi.getD j 0)) (pi.map (at_ P)) := by
            refine List.ext_getElem (by simp [outsS]) fun j h1 h2 => ?_
            have hj : j < k := by rw [List.length_map, hl] at h1; exact h1
            simp only [outsS, List.getElem_map, List.getElem_range, hRr j hj]
            simp [show j < pi.length by omega]
          have gR : ∀ j, j < k → assoc loc' 14 (pi.getD j 0) = ib (at_ (pi.map (at_ P)) j) := fun j hj => by rw [f1 _ (hlt j hj), hR j hj]
          rw [ec] at f0
          generalize pi.map (at_ P) = R at f0 hRl hRr hRv gR
          generalize riL k t p xs = V at hrl hRv ⊢
          have hok0 : wkOk ([((1, 0), (1, 0)), ((225, 0), (17, 0)), ((13, 0), (13, 0))] ++ segR (fun j => (14, pi.getD j 0)) k 14) 200 = true := wkOk_seg (by simp [wkOk]) (fun a b ha hb e => by
            have e' := congrArg (·.2) e
            simp only at e'; exact hinj a b ha hb e') (fun _ _ => by simp) (by decide) (by decide) (fun x hx i hi => by
            simp only [List.mem_cons, List.not_mem_nil, or_false] at hx
            rcases hx with rfl | rfl | rfl <;> simp) (by simp)
          refine awpLoop.intro (fun i : Nat => [(3, .ref (.ptr 1 0 0 0)), (13, .ref (.sl 17 0 0 0 i 1)), (69, .ref (.sl 13 0 0 0 pl.length 1)), (70, .i .i64 k), (71, .i .i64 i)]) (fun i => ⟨[.lv true [(0, .ints .i64 k xs)]], ((1, 0), .lv true (sqS k t)) :: ((17, 0), .lv true [(0, .ints .i64 i (V.take i))]) :: ((13, 0), ob 14 0 R) :: rbag 14 0 R, 200⟩) (fun i => i ≤ k) (fun i => k - i) 0 (by omega) ⟨[((1, 0), (1, 0)), ((225, 0), (17, 0)), ((13, 0), (13, 0))] ++ segR (fun j => (14, pi.getD j 0)) k 14, hok0, ?_, ?_⟩ ?_
          · have r1 := renTo_ok (p := (1, 0)) (q := (1, 0)) hok0 (by simp) (by simp)
            have r2 := renTo_ok (p := (225, 0)) (q := (17, 0)) hok0 (by simp) (by simp)
            have r3 := renTo_ok (p := (13, 0)) (q := (13, 0)) hok0 (by simp) (by simp)
            simp only [wkEnv]
            generalize renTo ([((1, 0), (1, 0)), ((225, 0), (17, 0)), ((13, 0), (13, 0))] ++ segR (fun j => (14, pi.getD j 0)) k 14) = τ at r1 r2 r3 ⊢
            simp [lk, renV, renAt, r1, r2, r3]
          · have w1 : (outsS (fun j => (14, pi.getD j 0)) R).map (renAt (renTo ([((1, 0), (1, 0)), ((225, 0), (17, 0)), ((13, 0), (13, 0))] ++ segR (fun j => (14, pi.getD j 0)) k 14))) = outs 14 0 R := outsS_ren fun j hj => renTo_ok hok0 (by simp) (List.mem_append_right _ (seg_mem (src := fun j => (14, pi.getD j 0)) (by omega)))
            simp only [wkMem]
            rw [wkLoc_app, wk_seg (LL := R) hRl.symm fun j hj => by
              have q := gR j (by omega)
              simp only [Mem.get, assoc]
              rw [if_neg (by decide), if_neg (by simp)]; exact q]
            generalize renTo ([((1, 0), (1, 0)), ((225, 0), (17, 0)), ((13, 0), (13, 0))] ++ segR (fun j => (14, pi.getD j 0)) k 14) = τ at w1 ⊢
            generalize outsS (fun j => (14, pi.getD j 0)) R = cs at f0 w1
            simp [wkLoc, Mem.get, assoc, l1, f0, renBlk, renSegs, renSg, w1, ob, hRl]
          · intro i hi
            have mi : i * 1 = i := Nat.mul_one i
            by_cases hik : (i : Int) < k
            · have hik2 : i < k := by omega
              have wi := wrap_i64s (show i < 2 ^ 62 by omega)
              have v1 : 0 + i * 1 < pl.length := by omega
              have v1k : 0 + i * 1 < k := by omega
              have v1R : 0 + i * 1 < R.length := by omega
              have o1 : (outs 14 0 R).getD (0 + i * 1) .top = .sl 14 i 0 0 (k + 1) 1 := by rw [Nat.zero_add, Nat.mul_one, outs_get (by omega), hRr i hik2, Nat.zero_add]
              have q14 : assoc (rbag 14 0 R) 14 i = .lv true [(0, .ints .i64 (k + 1) (at_ R i))] := by
                have q := assoc_rbag_in' (a := 14) (k := 0) (i := i) (LL := R) (by omega)
                rw [Nat.zero_add] at q; rw [q, ib, hRr i hik2]
              have v2 : 0 + k * 1 < k + 1 := by omega
              have v2i : (k : Int) < ((k + 1 : Nat) : Int) := by omega
              have g2 : (at_ R i).getD (0 + k * 1) 0 = V.getD i 0 := by rw [Nat.zero_add, Nat.mul_one]; exact hRv i hik2
              have hVs : V.take (i + 1) = V.take i ++ [V.getD i 0] := by
                rw [List.take_succ_eq_append_getElem (by omega)]; simp [show i < V.length by omega]
              simp only [ob]
              have o1i : (outs 14 0 R).getD (0 + i) .top = .sl 14 i 0 0 (k + 1) 1 := by rw [Nat.zero_add, outs_get (by omega), hRr i hik2, Nat.zero_add]
              have vi : 0 + i < k := by omega
              simp only [absE, absL, absF, reduceCtorEq, ↓reduceIte, Nat.reduceEqDiff, Nat.reduceAdd, Nat.reduceLT, Nat.reduceMul, Nat.reduceSub, Nat.reduceLeDiff, Int.reduceLT, Int.reduceLE, Int.reduceEq, Option.isSome_some, implies_true, false_implies, Prod.mk.injEq, ne_eq, not_false_eq_true, not_true_eq_false, ge_iff_le, gt_iff_lt, Int.toNat_natCast, Int.reduceToNat, Int.cast_ofNat_Int, Int.natCast_nonneg, hik, v1, v1k, v1R, vi, o1, o1i, q14, v2, v2i, g2, mi, hRl]
              repeat refine And.intro (by omega) ?_
              refine LoopNext.intro (i + 1) (by omega) (by omega) ⟨[((1, 0), (1, 0)), ((211, 0), (17, 0))] ++ ((13, 0), (13, 0)) :: stdR 14 R.length, wkOk_keepO (next := 200) (by simp [wkOk]) (by decide) (by decide) (by simp), ?_, ?_⟩
              · simp [wkEnv, lk, renV, renAt, renTo, wi]
              · simp only [wkMem]
                rw [wk_keepO (LL := R) (by decide) (by simp) (by decide) (by simp [Mem.get, assoc, ob, hRl]) (fun j hj => by
                  have q := assoc_rbag_in' (a := 14) (k := 0) (i := j) (LL := R) hj
                  simp only [Nat.zero_add] at q ⊢
                  simp [Mem.get, assoc, q]), hVs]
                simp [wkLoc, Mem.get, assoc, renBlk, renSegs, renSg, ob]
            · obtain rfl : k = i := by omega
              have hVk : V.take k = V := List.take_of_length_le (by omega)
              simp only [absE, absL, absF, reduceCtorEq, ↓reduceIte, Nat.reduceEqDiff, Nat.reduceAdd, Nat.reduceLT, Nat.reduceMul, Nat.reduceSub, Nat.reduceLeDiff, Int.reduceLT, Int.reduceLE, Int.reduceEq, Option.isSome_some, implies_true, false_implies, Prod.mk.injEq, ne_eq, not_false_eq_true, not_true_eq_false, ge_iff_le, gt_iff_lt, Int.toNat_natCast, Int.reduceToNat, Int.cast_ofNat_Int, Int.natCast_nonneg, hik, Try.results13]
              exact ⟨[(17, 0)], by simp, by simp, by simp [renBlk, renSegs, renSg], .inl ⟨hT, by simp [renV, renVs, renAt, renFin, idx], by simp [Mem.get, assoc, renBlk, renSegs, renSg, hVk]⟩⟩
      · have hKN2 : ¬ ((pl.length : Nat) : Int) = k := by omega
        have hnT : ¬ Triv p k E := fun ht2 => hKN (hfull.2 ht2).1
        simp only [absE, absL, absF, reduceCtorEq, ↓reduceIte, Nat.reduceEqDiff, Nat.reduceAdd, Nat.reduceLT, Nat.reduceMul, Nat.reduceSub, Nat.reduceLeDiff, Int.reduceLT, Int.reduceLE, Int.reduceEq, Option.isSome_some, implies_true, false_implies, Prod.mk.injEq, ne_eq, not_false_eq_true, not_true_eq_false, ge_iff_le, gt_iff_lt, Int.toNat_natCast, Int.reduceToNat, Int.cast_ofNat_Int, Int.natCast_nonneg, l1, hKN2, Try.results13]
        exact ⟨[], by simp, by simp, by simp [renBlk, renSegs, renSg], .inr ⟨hnT, by simp [renV, renVs, renAt], by simp⟩⟩
theorem implRi_yes (n : Int) (t : List Int) (p : Int) (xs : List Int) (k : Nat) (ht : Bytes 100 t) (hx : xs.length = k) (hk : k ≤ 2 ^ 20) (h : decide (riC n t p xs k = 0) = true) :
    ACalls Try.prog 13 [.agg (sqS n t), .i .i64 p, .ref (.sl 0 0 0 0 k 1)] [.lv true [(0, .ints .i64 k xs)]] (fun v ms ns => v = .tup [.ref (.sl 1 0 0 0 (riL n t p xs).length 1), .i .i64 0] ∧ ms = [.lv true [(0, .ints .i64 k xs)]] ∧ ns = [.lv true [(0, .ints .i64 (riL n t p xs).length (riL n t p xs))]]) := by
  obtain ⟨h1, h2⟩ := riC_zero (of_decide_eq_true h)
  obtain ⟨N, rfl, rfl, hs, hp, hr⟩ := ring_factsR hx h1
  have hN1 := hs.pos
  have hrl : (riL k t p xs).length = k := by
    unfold riL
    simp only [Int.toNat_natCast]
    exact (sovS_facts (p := p) (N := k) (D := sovD p k (imgL k t p xs k)) (i := k) hp (unitK_len (N := k) (k := 0)) (unitK_rng (N := k) hp hN1)).2.1
  rw [Int.toNat_natCast] at h2
  rw [hrl]
  refine (implRi_core t p xs k ht hx hk h1 hs hp hr).mono fun v ms ns => ?_
  rintro ⟨hm, ⟨_, hv, hns⟩ | ⟨hn, _⟩⟩
  · exact ⟨hv, hm, hns⟩
  · exact absurd h2 hn
theorem implRi_no (n : Int) (t : List Int) (p : Int) (xs : List Int) (k : Nat) (ht : Bytes 100 t) (hx : xs.length = k) (hk : k ≤ 2 ^ 20) (h : decide (riC n t p xs k = 0) = false) :
    ACalls Try.prog 13 [.agg (sqS n t), .i .i64 p, .ref (.sl 0 0 0 0 k 1)] [.lv true [(0, .ints .i64 k xs)]] (fun v ms ns => v = .tup [.ref .nils, .i .i64 (riC n t p xs k)] ∧ ms = [.lv true [(0, .ints .i64 k xs)]] ∧ ns = []) := by
  have h := of_decide_eq_false h
  by_cases h1 : rcd1 n t p xs k = 0
  · obtain ⟨N, rfl, rfl, hs, hp, hr⟩ := ring_factsR hx h1
    have h2 : ¬ Triv p k (eqT k t p xs k) := fun ht => h (by unfold riC; rw [if_pos h1, if_pos (by simpa using ht)])
    rw [riC_four h1 (by simpa using h2)]
    refine (implRi_core t p xs k ht hx hk h1 hs hp hr).mono fun v ms ns => ?_
    rintro ⟨hm, ⟨ht, _⟩ | ⟨_, hv, hns⟩⟩
    · exact absurd ht h2
    · exact ⟨hv, hm, hns⟩
  · have e := riC_code h1
    refine acalls_of_body mix Try.func13 rfl fok13 (Nat.le_of_ble_eq_true rfl) ?_
    unfold abody
    simp only [absE, absL, absF, reduceCtorEq, ↓reduceIte, Nat.reduceEqDiff, Nat.reduceAdd, Nat.reduceLT, Nat.reduceMul, Nat.reduceSub, Nat.reduceLeDiff, Int.reduceLT, Int.reduceLE, Int.reduceEq, Option.isSome_some, implies_true, false_implies, Prod.mk.injEq, ne_eq, not_false_eq_true, not_true_eq_false, ge_iff_le, gt_iff_lt, Int.toNat_natCast, Int.reduceToNat, Int.cast_ofNat_Int, Int.natCast_nonneg, Try.f13]
    refine CallsVia.args [(7, 0), (0, 0)] (ringCode1_ok n t p xs k ht hx hk) (by simp) (by simp [Mem.get, assoc]) rfl rfl ?_
    rintro _ _ _ ⟨rfl, rfl, rfl⟩
    simp only [absE, absL, absF, reduceCtorEq, ↓reduceIte, Nat.reduceEqDiff, Nat.reduceAdd, Nat.reduceLT, Nat.reduceMul, Nat.reduceSub, Nat.reduceLeDiff, Int.reduceLT, Int.reduceLE, Int.reduceEq, Option.isSome_some, implies_true, false_implies, Prod.mk.injEq, ne_eq, not_false_eq_true, not_true_eq_false, ge_iff_le, gt_iff_lt, Int.toNat_natCast, Int.reduceToNat, Int.cast_ofNat_Int, Int.natCast_nonneg, h1, Try.results13]
    exact ⟨[], by simp, by simp, by simp [renV, renVs, renAt, e], by simp [renBlk, renSegs, renSg], by simp⟩
theorem riL_fits {n : Int} {t : List Int} {p : Int} {xs : List Int} {k : Nat} (h : decide (riC n t p xs k = 0) = true) : (riL n t p xs).length < 2 ^ 40 := by
  obtain ⟨h1, _⟩ := riC_zero (of_decide_eq_true h)
  obtain ⟨hl, hp, hS⟩ := rcd1_zero h1
  have hN := loopB_le hl
  unfold riL
  cases hn : n.toNat with
  | zero => simp [sovS]
  | succ m =>
    show (addS p _ _ _ (m + 1)).length < 2 ^ 40
    rw [addS_len]; omega

end Go.Proofs.Ytjmenocghjggcaa
