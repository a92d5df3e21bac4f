/-
Contracts of functions of the given program, by the abstract walk.
-/
import Derived.Test.YtjmenocghjggcaaAbsY
import Derived.Test.YtjmenocghjggcaaBme
namespace Go.Proofs.Ytjmenocghjggcaa
open Go Go.Abs
set_option linter.unusedVariables false
set_option linter.unusedSectionVars false
set_option linter.unusedSimpArgs false
set_option maxRecDepth 100000
/-! add and look -/
def LookW (N : Nat) (L0 : List Int → Prop) (f : Nat) : Prop := ∀ k p st, LookPre N L0 f k p st → ACalls Try.prog 106 [.ref (.ptr 0 0 0 0), .i .i64 k, .agg (plS p)] (grX N st.gl st) (fun v ms ns => v = .tup [] ∧ ms = grX N st.gl (goF N f false k p st) ∧ ns = outNs st.gl (goF N f false k p st).gl)
def AddW (N : Nat) (L0 : List Int → Prop) (f : Nat) : Prop := ∀ k p st, AddPre N L0 f k p st → ACalls Try.prog 95 [.ref (.ptr 0 0 0 0), .i .i64 k, .agg (plS p)] (grX N st.gl st) (fun v ms ns => v = .tup [] ∧ ms = grX N st.gl (goF N f true k p st) ∧ ns = outNs st.gl (goF N f true k p st).gl)
theorem grX_at {N : Nat} {st : GS} {k : Nat} (hk : k < 10) (hn : neB st.gl k = true) : (grX N st.gl st).getD (1 + rkF (neB st.gl) k) .dead = plB (st.gl k) := by
  unfold grX
  rw [getD_args, outE_get hk hn, chB_self, if_neg (by simp)]
theorem chk_g {ops : List Oper} {j : Nat} {wr rd : List Abs.Id} : ∀ {h : Hist} {l : List (Nat × Bool)}, h.map (fun x => (x.1, x.2.1.isEmpty && x.2.2.isEmpty)) = l → (l.all fun y => y.2 || ordB ops y.1 j) = true → chk ops j wr rd h
  | [], _, _, _ => trivial
  | (i, a, b) :: r, l, h1, h2 => by
    subst h1
    rw [List.map_cons, List.all_cons, Bool.and_eq_true] at h2
    refine ⟨?_, chk_g rfl h2.2⟩
    rcases Bool.or_eq_true_iff.1 h2.1 with h3 | h3
    · simp only [Bool.and_eq_true, List.isEmpty_iff] at h3
      rw [h3.1, h3.2]; rfl
    · simp only at h3
      rw [h3, Bool.or_true]
theorem set_args {a x : Blk} {l : List Blk} {i : Nat} : (a :: l).set (1 + i) x = a :: l.set i x := by rw [Nat.add_comm]; rfl
theorem outE_kill {gl : GL} {k : Nat} {L : List (List Int)} (hk : k < 10) (hn : neB gl k = true) (hL : L.length ≠ (gl k).length) : (outE gl gl).set (rkF (neB gl) k) .dead = outE gl (fun i => if i = k then L else gl i) := by
  have ext : ∀ (A B : List Blk), A.length = B.length → (∀ i, i < A.length → A.getD i .dead = B.getD i .dead) → A = B := by
    intro A B hl he
    refine List.ext_getElem hl fun i h1 h2 => ?_
    have := he i h1
    simpa [h1, h2] using this
  refine ext _ _ (by simp [outE_len]) fun i hi => ?_
  rw [List.length_set, outE_len] at hi
  obtain ⟨k', hk', hn', rfl⟩ := rk_of hi
  rw [outE_get hk' hn', List.getD_eq_getElem?_getD, List.getElem?_set]
  by_cases e : rkF (neB gl) k = rkF (neB gl) k'
  · have := rk_inj hk hk' hn hn' e
    subst this
    have hc : chB gl (fun i => if i = k then L else gl i) k = true := by
      unfold chB; simp only [if_true]; exact decide_eq_true (fun h => hL h.symm)
    rw [if_pos rfl, if_pos (by rw [outE_len]; exact rk_lt hk hn), hc, if_pos rfl]; rfl
  · have hne : k' ≠ k := fun h => e (by rw [h])
    have hc : chB gl (fun i => if i = k then L else gl i) k' = false := by
      unfold chB; simp [if_neg hne]
    rw [if_neg e, hc, if_neg (by simp), ← List.getD_eq_getElem?_getD, outE_get hk' hn', chB_self, if_neg (by simp)]
theorem Body.at {gl0 : GL} {args : List Blk} {loc : LocB} {n n' : Nat} {nm : Nm} {N : Nat} {st : GS} (h : Body gl0 ⟨args, loc, n⟩ nm N st) (hn : n ≤ n') : Body gl0 ⟨args, loc, n'⟩ nm N st :=
  ⟨h.args, h.pre, h.nmU, fun k hk hc => ⟨(h.nmN k hk hc).1, Nat.lt_of_lt_of_le (h.nmN k hk hc).2.1 hn, (h.nmN k hk hc).2.2⟩, h.inj, Nat.lt_of_lt_of_le h.pos hn⟩
set_option maxHeartbeats 4000000 in
theorem addW_step {N : Nat} (hN : N ≤ 10) {L0 : List Int → Prop} {f : Nat} (ihl : LookW N L0 f) : AddW N L0 (f + 1) := by
  intro k p st hB
  have hk := hB.kN
  have k10 : (k : Int) < 10 := by omega
  have v1 : 0 + k * 1 < 10 := by omega
  have v9 : 0 + k * 1 ≤ 9 := by omega
  have hpl := hB.vp.by_.len
  obtain ⟨q1, q2, q3, q4, q5, q6⟩ := hB.app hN
  have hlk := hB.len k (Nat.le_refl k)
  have hR := RG_le (st := st)
  have eX : grX N st.gl st = .lv true [(0, .ints .i64 1 [(N : Int)]), (1, .cells 10 (cellsN (outN st.gl st.gl) st.gl)), (11, .ints .u8 1000 st.b), (1011, .bools 100 st.h)] :: outE st.gl st.gl := rfl
  have eo : outN st.gl st.gl k = (0, 1 + rkF (neB st.gl) k) := by unfold outN; rw [chB_self]; rfl
  have ecell : (cellsN (outN st.gl st.gl) st.gl).getD (0 + k * 1) .top = if neB st.gl k = true then .sl 0 (1 + rkF (neB st.gl) k) 0 0 (st.gl k).length 10 else .nils := by
    rw [Nat.zero_add, Nat.mul_one, cellsN_get (by omega), eo]
  rw [goF_add]
  have hpre1 : Pre st.gl (appG k p st).gl := fun i => by
    by_cases e : i = k
    · subst e; exact ⟨[p], if_pos rfl⟩
    · exact ⟨[], by rw [List.append_nil]; exact if_neg e⟩
  have hch : ∀ i, chB st.gl (appG k p st).gl i = true ↔ i = k := fun i => by
    unfold chB
    rw [decide_eq_true_iff]
    by_cases e : i = k
    · subst e
      have : (appG i p st).gl i = st.gl i ++ [p] := if_pos rfl
      rw [this]; simp
    · have : (appG k p st).gl i = st.gl i := if_neg e
      rw [this]; simp [e]
  have hnek : neB (appG k p st).gl k = true := by
    have : (appG k p st).gl k = st.gl k ++ [p] := if_pos rfl
    unfold neB; rw [this, decide_eq_true_iff]; simp
  have hset := fun (x : Abs.Id) => cellsN_set (nm := outN st.gl st.gl) (gl := st.gl) (gl' := (appG k p st).gl) (k := k) (x := x) (by omega) hnek (fun i hi => if_neg hi)
  have hglk : (appG k p st).gl k = st.gl k ++ [p] := if_pos rfl
  have hbody : ∀ (args : List Blk) (loc : LocB), args = grB N (fun i => if i = k then (12, 0) else outN st.gl st.gl i) (appG k p st) :: outE st.gl (appG k p st).gl → assoc loc 12 0 = plB (st.gl k ++ [p]) → Body st.gl ⟨args, loc, 22⟩ (fun i => if i = k then (12, 0) else outN st.gl st.gl i) N (appG k p st) := fun args loc ha hl => by
    refine ⟨ha, hpre1, fun i hi hc => ?_, fun i hi hc => ?_, fun i j hi hj ci cj e => by rw [(hch i).1 ci, (hch j).1 cj], by show 0 < 22; omega⟩
    · have : i ≠ k := fun e => by rw [(hch i).2 e] at hc; cases hc
      simp only [if_neg this]
      unfold outN; rw [chB_self]; rfl
    · have := (hch i).1 hc
      subst this
      simp only [if_pos]
      refine ⟨by decide, by show 12 < 22; omega, ?_⟩
      rw [hglk]; exact hl
  rw [eX]
  refine acalls_of_body mix Try.func95 rfl fok95 (Nat.le_of_ble_eq_true rfl) ?_
  unfold abody
  simp only [absE, absL, absF, reduceCtorEq, ↓reduceIte, Nat.reduceEqDiff, Nat.reduceAdd, Nat.reduceLT, Nat.reduceMul, Nat.reduceSub, Nat.reduceLeDiff, Int.reduceLT, Int.reduceLE, Int.reduceEq, Option.isSome_some, implies_true, false_implies, Prod.mk.injEq, ne_eq, not_false_eq_true, not_true_eq_false, ge_iff_le, gt_iff_lt, Int.toNat_natCast, Int.reduceToNat, Int.cast_ofNat_Int, Int.natCast_nonneg, Try.f95]
  cases hne : neB st.gl k
  case' false =>
    rw [hne, if_neg (by simp)] at ecell
    have hl0 : (st.gl k) = [] := by unfold neB at hne; have := of_decide_eq_false hne; exact List.length_eq_zero_iff.1 (by omega)
    simp only [absE, absL, absF, reduceCtorEq, ↓reduceIte, Nat.reduceEqDiff, Nat.reduceAdd, Nat.reduceLT, Nat.reduceMul, Nat.reduceSub, Nat.reduceLeDiff, Int.reduceLT, Int.reduceLE, Int.reduceEq, Option.isSome_some, implies_true, false_implies, Prod.mk.injEq, ne_eq, not_false_eq_true, not_true_eq_false, ge_iff_le, gt_iff_lt, Int.toNat_natCast, Int.reduceToNat, Int.cast_ofNat_Int, Int.natCast_nonneg, k10, v1, v9, ecell]
    repeat refine And.intro (chk_g rfl (by decide +kernel)) ?_
    obtain ⟨args, ha⟩ : ∃ a : List Blk, a = .lv true [(0, .ints .i64 1 [(N : Int)]), (1, .cells 10 ((cellsN (outN st.gl st.gl) st.gl).set (0 + k * 1) (.sl 12 0 0 0 1 10))), (11, .ints .u8 1000 st.b), (1011, .bools 100 st.h)] :: outE st.gl st.gl := ⟨_, rfl⟩
    obtain ⟨loc, hlo⟩ : ∃ l : LocB, l = [((12, 0), .lv true [(0, .ints .u8 10 (List.replicate 0 0 ++ p))]), ((11, 0), .lv true [(0, .ints .u8 10 p)]), ((1, 0), .lv true (plS p))] := ⟨_, rfl⟩
    rw [← ha, ← hlo]
    have hb := hbody args loc (by
      rw [ha]
      have e1 := hset (12, 0)
      rw [hglk, hl0] at e1
      have e2 : outE st.gl st.gl = outE st.gl (appG k p st).gl := by
        unfold outE
        refine List.map_congr_left fun i hi => ?_
        have hni := (fl_mem.1 hi).2
        have : i ≠ k := fun e => by subst e; rw [hne] at hni; cases hni
        have hc : chB st.gl (appG k p st).gl i = false := by
          cases e : chB st.gl (appG k p st).gl i
          · rfl
          · exact absurd ((hch i).1 e) this
        rw [chB_self, hc]
      rw [Nat.zero_add, Nat.mul_one, ← e2]
      exact congr (congrArg List.cons (by rw [grB, grS, ← e1]; rfl)) rfl) (by rw [hlo, hl0]; simp [assoc, plB, hpl])
    have hl1 : assoc loc 1 0 = .lv true (plS p) := by rw [hlo]; rfl
    clear hlo ha
  case' true =>
    rw [hne, if_pos rfl] at ecell
    have eg : (outE st.gl st.gl).getD (rkF (neB st.gl) k) .dead = .lv true [(0, .ints .u8 ((st.gl k).length * 10) (st.gl k).flatten)] := by
      rw [outE_get (by omega) hne, chB_self]; rfl
    simp only [absE, absL, absF, reduceCtorEq, ↓reduceIte, Nat.reduceEqDiff, Nat.reduceAdd, Nat.reduceLT, Nat.reduceMul, Nat.reduceSub, Nat.reduceLeDiff, Int.reduceLT, Int.reduceLE, Int.reduceEq, Option.isSome_some, implies_true, false_implies, Prod.mk.injEq, ne_eq, not_false_eq_true, not_true_eq_false, ge_iff_le, gt_iff_lt, Int.toNat_natCast, Int.reduceToNat, Int.cast_ofNat_Int, Int.natCast_nonneg, k10, v1, v9, ecell, eg, getD_args, set_args]
    repeat first | refine And.intro (chk_g (l := [(9, false), (8, false), (7, false), (6, true), (5, true), (4, true), (3, true), (2, true), (1, true), (0, true)]) rfl (by decide +kernel)) ?_ | refine And.intro (chk_g (l := [(10, false), (9, false), (8, false), (7, false), (6, true), (5, true), (4, true), (3, true), (2, true), (1, true), (0, true)]) rfl (by decide +kernel)) ?_ | refine And.intro (by omega) ?_
    obtain ⟨args, ha⟩ : ∃ a : List Blk, a = .lv true [(0, .ints .i64 1 [(N : Int)]), (1, .cells 10 ((cellsN (outN st.gl st.gl) st.gl).set (0 + k * 1) (.sl 12 0 0 0 ((st.gl k).length + 1) 10))), (11, .ints .u8 1000 st.b), (1011, .bools 100 st.h)] :: (outE st.gl st.gl).set (rkF (neB st.gl) k) .dead := ⟨_, rfl⟩
    obtain ⟨loc, hlo⟩ : ∃ l : LocB, l = [((12, 0), .lv true [(0, .ints .u8 ((st.gl k).length * 10 + 10) ((st.gl k).flatten ++ p))]), ((11, 0), .lv true [(0, .ints .u8 10 p)]), ((1, 0), .lv true (plS p))] := ⟨_, rfl⟩
    rw [← ha, ← hlo]
    have hb := hbody args loc (by
      rw [ha]
      have e1 := hset (12, 0)
      rw [hglk, List.length_append, List.length_singleton] at e1
      have e2 : (outE st.gl st.gl).set (rkF (neB st.gl) k) .dead = outE st.gl (appG k p st).gl := outE_kill (L := st.gl k ++ [p]) (by omega) hne (by simp)
      rw [Nat.zero_add, Nat.mul_one, e2]
      exact congr (congrArg List.cons (by rw [grB, grS, ← e1]; rfl)) rfl) (by rw [hlo]; simp [assoc, plB, Nat.add_mul])
    have hl1 : assoc loc 1 0 = .lv true (plS p) := by rw [hlo]; rfl
    clear hlo ha
  all_goals
    have hnx : ∀ i, i < 10 → chB st.gl (appG k p st).gl i = true → (if i = k then ((12, 0) : Abs.Id) else outN st.gl st.gl i) ≠ (1, 0) := fun i hi hc => by
      rw [if_pos ((hch i).1 hc)]; decide
    obtain ⟨w1, w2⟩ := hb.weak (x := 1) (t := 2) (n0 := 22) (by decide) (by decide) (by decide) (by decide) (by decide) hl1 (fun σ => by simp [renBlk, renSegs, renSg]) hnx
    refine awpLoop.intro (fun j : Nat => [(0, .ref (.ptr 0 0 0 0)), (1, .i .i64 k), (5, .ref (.ptr 1 0 0 0)), (24, .i .i64 N), (25, .i .i64 j)]) (fun j => ⟨grB N (canN 2 st.gl (addFold N f k p j (appG k p st)).gl) (addFold N f k p j (appG k p st)) :: outE st.gl (addFold N f k p j (appG k p st)).gl, ((1, 0), .lv true (plS p)) :: bagN 2 st.gl (addFold N f k p j (appG k p st)).gl, 22⟩)
      (fun j => j ≤ N) (fun j => N - j) 0 (by omega) ⟨((1, 0), (1, 0)) :: sgN 2 st.gl (appG k p st).gl (fun i => if i = k then (12, 0) else outN st.gl st.gl i), w1, ?_, w2 _⟩ ?_
    · simp [wkEnv, lk, renV, renAt, renTo]
    · intro j hj
      by_cases h : (j : Int) < N
      · have hj2 : j < N := by omega
        have w := wrap_i64s (show j < 2 ^ 62 by omega)
        obtain ⟨⟨g1, _⟩, g2⟩ := add_fold hN (goF_ok hN (L0 := L0) f).1 hk q1 q2 q3 q4 q5 q6 j hj
        have gn := g2 j hj2
        have gs := addFold_succ (N := N) (f := f) (k := k) (m := j) (p := p) (st := appG k p st)
        generalize addFold N f k p j (appG k p st) = s at g1 gn gs ⊢
        have hp2 : Pre st.gl s.gl := hpre1.trans g1.pre
        have hcan : Body st.gl ⟨grB N (canN 2 st.gl s.gl) s :: outE st.gl s.gl, ((1, 0), .lv true (plS p)) :: bagN 2 st.gl s.gl, 22⟩ (canN 2 st.gl s.gl) N s := Body.can hp2 (by decide) (by decide) (by decide)
        have hcx : ∀ i, i < 10 → chB st.gl s.gl i = true → canN 2 st.gl s.gl i ≠ (1, 0) := fun i hi hc e => by
          unfold canN at e; rw [hc, if_pos rfl] at e
          have := congrArg Prod.fst e
          simp only at this; omega
        have eG : ∀ nm, grB N nm s = .lv true [(0, .ints .i64 1 [(N : Int)]), (1, .cells 10 (cellsN nm s.gl)), (11, .ints .u8 1000 s.b), (1011, .bools 100 s.h)] := fun _ => rfl
        have j10 : (j : Int) < 10 := by omega
        have v2 : 0 + k * 10 + j * 1 < 100 := by omega
        have eh : s.h.getD (0 + k * 10 + j * 1) false = hasG s k j := rfl
        have v3 : 0 + k * 100 + j * 10 + 10 ≤ 1000 := by omega
        have eb : (s.b.drop (0 + k * 100 + j * 10)).take 10 = byG s k j := rfl
        simp only [absE, absL, absF, reduceCtorEq, ↓reduceIte, Nat.reduceEqDiff, Nat.reduceAdd, Nat.reduceLT, Nat.reduceMul, Nat.reduceSub, Nat.reduceLeDiff, Int.reduceLT, Int.reduceLE, Int.reduceEq, Option.isSome_some, implies_true, false_implies, Prod.mk.injEq, ne_eq, not_false_eq_true, not_true_eq_false, ge_iff_le, gt_iff_lt, Int.toNat_natCast, Int.reduceToNat, Int.cast_ofNat_Int, Int.natCast_nonneg, h, eG, k10, j10, v2, eh]
        cases hh : hasG s k j
        · rw [hh, if_neg (by simp)] at gs
          obtain ⟨u1, u2⟩ := hcan.weak (x := 1) (t := 2) (n0 := 22) (bx := .lv true (plS p)) (by decide) (by decide) (by decide) (by decide) (by decide) rfl (fun σ => by simp [renBlk, renSegs, renSg]) hcx
          simp only [absE, absL, absF, reduceCtorEq, ↓reduceIte, Nat.reduceEqDiff, Nat.reduceAdd, Nat.reduceLT, Nat.reduceMul, Nat.reduceSub, Nat.reduceLeDiff, Int.reduceLT, Int.reduceLE, Int.reduceEq, Option.isSome_some, implies_true, false_implies, Prod.mk.injEq, ne_eq, not_false_eq_true, not_true_eq_false, ge_iff_le, gt_iff_lt, Int.toNat_natCast, Int.reduceToNat, Int.cast_ofNat_Int, Int.natCast_nonneg]
          refine LoopNext.intro (j + 1) (by omega) (by omega) ⟨_, u1, ?_, ?_⟩
          · simp [wkEnv, lk, renV, renAt, renTo, w]
          · rw [gs]; exact u2 _
        · rw [hh, if_pos rfl] at gs
          simp only [absE, absL, absF, reduceCtorEq, ↓reduceIte, Nat.reduceEqDiff, Nat.reduceAdd, Nat.reduceLT, Nat.reduceMul, Nat.reduceSub, Nat.reduceLeDiff, Int.reduceLT, Int.reduceLE, Int.reduceEq, Option.isSome_some, implies_true, false_implies, Prod.mk.injEq, ne_eq, not_false_eq_true, not_true_eq_false, ge_iff_le, gt_iff_lt, Int.toNat_natCast, Int.reduceToNat, Int.cast_ofNat_Int, Int.natCast_nonneg, eG, k10, j10, v3, eb]
          have hby := (g1.ok.by_ hN hk (by omega) hh).1
          have gL := gn hh
          obtain ⟨hGr, _⟩ := (goF_ok hN (L0 := L0) f).1 k _ s gL
          refine CallsX.none (implThen_ok N (byG s k j) p hby.by_ hB.vp.by_ hN (fun x hx => by have := hby.lt hN hx; omega)) ?_
          have fold : mapL (fun x => pl p (pl (byG s k j) x)) N = th N (byG s k j) p := rfl
          simp only [absE, absL, absF, reduceCtorEq, ↓reduceIte, Nat.reduceEqDiff, Nat.reduceAdd, Nat.reduceLT, Nat.reduceMul, Nat.reduceSub, Nat.reduceLeDiff, Int.reduceLT, Int.reduceLE, Int.reduceEq, Option.isSome_some, implies_true, false_implies, Prod.mk.injEq, ne_eq, not_false_eq_true, not_true_eq_false, ge_iff_le, gt_iff_lt, Int.toNat_natCast, Int.reduceToNat, Int.cast_ofNat_Int, Int.natCast_nonneg, fold]
          repeat refine And.intro (by decide +kernel) ?_
          refine Body.callX (gl0 := st.gl) (nm := canN 2 st.gl s.gl) (N := N) (st := s) (st' := goF N f false k (th N (byG s k j) p) s) (hcan.at (by decide)) hGr.pre (ihl k _ s gL) (by simp [renVs, renV, renAt, renIn, idsF, idx, renSegs, renSg]) (fun σ => by simp [renV, renVs]) ?_
          intro ups loc' hu hb' hl'
          refine And.intro (chk_g (l := [(15, true), (14, false), (13, true), (12, true), (11, true), (10, false), (9, false), (8, true), (7, true), (6, true), (5, true), (4, true), (3, true), (2, true), (1, true), (0, true)]) rfl (by decide +kernel)) ?_
          have hcx' : ∀ i, i < 10 → chB st.gl (goF N f false k (th N (byG s k j) p) s).gl i = true → nmC 49 (canN 2 st.gl s.gl) s.gl (goF N f false k (th N (byG s k j) p) s).gl i ≠ (1, 0) := fun i hi hc e => by
            unfold nmC at e
            split at e
            · have := congrArg Prod.fst e
              simp only at this; omega
            · rename_i hc2
              exact hcx i hi (((hp2.ch hGr.pre).1 hc).resolve_right hc2) e
          have hl1' : assoc loc' 1 0 = .lv true (plS p) := hl' (1, 0) (by decide) (by decide) (fun i hi hc e => hcx i hi hc e.symm)
          obtain ⟨u1, u2⟩ := hb'.weak (x := 1) (t := 2) (n0 := 22) (by decide) (by decide) (by decide) (by decide) (by decide) hl1' (fun σ => by simp [renBlk, renSegs, renSg]) hcx'
          simp only [absE, absL, absF, reduceCtorEq, ↓reduceIte, Nat.reduceEqDiff, Nat.reduceAdd, Nat.reduceLT, Nat.reduceMul, Nat.reduceSub, Nat.reduceLeDiff, Int.reduceLT, Int.reduceLE, Int.reduceEq, Option.isSome_some, implies_true, false_implies, Prod.mk.injEq, ne_eq, not_false_eq_true, not_true_eq_false, ge_iff_le, gt_iff_lt, Int.toNat_natCast, Int.reduceToNat, Int.cast_ofNat_Int, Int.natCast_nonneg, hu]
          refine LoopNext.intro (j + 1) (by omega) (by omega) ⟨_, u1, ?_, ?_⟩
          · simp [wkEnv, lk, renV, renAt, renTo, w]
          · rw [gs]; exact u2 _
      · obtain rfl : j = N := by omega
        obtain ⟨⟨g1, _⟩, _⟩ := add_fold hN (goF_ok hN (L0 := L0) f).1 hk q1 q2 q3 q4 q5 q6 j hj
        simp only [absE, absL, absF, reduceCtorEq, ↓reduceIte, Nat.reduceEqDiff, Nat.reduceAdd, Nat.reduceLT, Nat.reduceMul, Nat.reduceSub, Nat.reduceLeDiff, Int.reduceLT, Int.reduceLE, Int.reduceEq, Option.isSome_some, implies_true, false_implies, Prod.mk.injEq, ne_eq, not_false_eq_true, not_true_eq_false, ge_iff_le, gt_iff_lt, Int.toNat_natCast, Int.reduceToNat, Int.cast_ofNat_Int, Int.natCast_nonneg, h, Try.results95]
        exact Body.fin (Body.can (hpre1.trans g1.pre) (by decide) (by decide) (by decide))

end Go.Proofs.Ytjmenocghjggcaa
