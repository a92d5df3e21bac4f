/-
Contracts of functions of the given program, by the abstract walk.
-/
import Derived.Test.YtjmenocghjggcaaAbsY
import Derived.Test.YtjmenocghjggcaaWj
namespace Go.Proofs.Ytjmenocghjggcaa
open Go Go.Abs
set_option linter.unusedVariables false
set_option linter.unusedSectionVars false
set_option linter.unusedSimpArgs false
set_option maxRecDepth 100000
/-! linear algebra modulo p: the program's reduction, the walk -/
theorem ite_st {c : Prop} [Decidable c] {X Y : Prop} (h : c → Y → X) (hy : Y) : if c then X else Y := by
  by_cases hc : c
  · rw [if_pos hc]; exact h hc hy
  · rw [if_neg hc]; exact hy
def fl (n : Nat) (fs : List Nat) : List (Nat × Bool) := (List.range n).reverse.map fun i => (i, !fs.contains i)
theorem one_at {l : List Atom} {i : Nat} {x : Atom} (hl : l.length = 1) (hi : i < 1) : [x] = l.set i x := by
  obtain rfl : i = 0 := by omega
  match l, hl with
  | [v], _ => rfl
theorem one_int {l : List Int} {i : Nat} {x : Int} (hl : l.length = 1) (hi : i < 1) : [x] = l.set i x := by
  obtain rfl : i = 0 := by omega
  match l, hl with
  | [v], _ => rfl
theorem msP_s0 {n L : Nat} {P : LLs} {pi : List Nat} {B : Blk} : ((msP n L P pi).set 0 B).getD 0 .dead = B := rfl
theorem msP_ss {n L : Nat} {P : LLs} {pi : List Nat} {B B' : Blk} : ((msP n L P pi).set 0 B).set 0 B' = (msP n L P pi).set 0 B' := rfl
theorem msP_sw {n L : Nat} {P : LLs} {pi : List Nat} {r i : Nat} {B : Blk} : ((msP n L P pi).set 0 B).set 0 (.lv true [(0, .cells n ((celP L (pi.set r (pi.getD i 0))).set i (.sl 0 (1 + pi.getD r 0) 0 0 L 1)))]) = msP n L P (swP pi r i) := by
  simp [msP, celP_set, swP]
theorem set_at_same {P : LLs} {x : Nat} (h : x < P.length) : P.set x (at_ P x) = P := by
  rw [at_lt h]; exact List.set_getElem_self h
theorem msP_st {n L : Nat} {P : LLs} {pi : List Nat} {x : Nat} {S S' : List Int} (h : x < P.length) (hl : S'.length = L) : (msP n L (P.set x S) pi).set (1 + x) (.lv true [(0, .ints .i64 L S')]) = msP n L (P.set x S') pi := by
  have := msP_set (n := n) (L := L) (P := P.set x S) (pi := pi) (x := x) (xs := S') (by simpa using h)
  rw [ib, hl, List.set_set] at this; exact this
theorem msP_ld {n L : Nat} {P : LLs} {pi : List Nat} {x : Nat} {S : List Int} (h : x < P.length) (hl : S.length = L) : (msP n L (P.set x S) pi).getD (1 + x) .dead = .lv true [(0, .ints .i64 L S)] := by
  rw [msP_at (by simpa using h), at_set h, if_pos rfl, ib, hl]
def plB (pl : List Nat) : Blk := .lv true [(0, .ints .i64 pl.length (pl.map Int.ofNat))]
def rdE (n L : Nat) (p : Int) (pl : List Nat) (c : Nat) : Env := [(0, .ref (.sl 0 0 0 0 n 1)), (1, .i .i64 p), (6, .ref (.sl 13 0 0 0 pl.length 1)), (25, .i .i64 L), (26, .i .i64 c)]
set_option maxHeartbeats 4000000 in
theorem reduced_ok (n L : Nat) (p : Int) (rows : LLs) (hp : PrP p) (hn : n ≤ 10) (hL : L ≤ 20) (hrn : rows.length = n) (hm : Mat p L rows) (h0 : 1 ≤ n) :
    ACalls Try.prog 33 [.ref (.sl 0 0 0 0 n 1), .i .i64 p] (ms1 rows)
      (fun v ms ns => v = .tup [.ref (.sl 0 0 0 0 (rdS p n rows L).2.2.length 1), .ref (.sl 1 0 0 0 (rdS p n rows L).2.2.length 1)] ∧ ms = msP n L (rdS p n rows L).1 (rdS p n rows L).2.1 ∧ ns = [plB (rdS p n rows L).2.2]) := by
  have hp2 := hp.le
  have p0 : ¬ p = 0 := by omega
  have hmem : ∀ i, i < n → at_ rows i ∈ rows := fun i hi => by rw [at_lt (by omega)]; exact List.getElem_mem _
  have hlen : ∀ i, i < rows.length → (at_ rows i).length = L := fun i hi => hm.len _ (hmem i (by omega))
  have hI0 := RdI.init hm hrn
  rw [ms1_P hlen, hrn]
  have n0 : ¬ (n : Int) = 0 := by omega
  have o0 : (celP L (List.range n)).getD (0 + 0 * 1) .top = .sl 0 (1 + 0) 0 0 L 1 := by rw [celP_get (by simp; omega)]; simp [show 0 < n by omega]
  have nn : 0 + 0 * 1 < n := by omega
  have g0 := msP_0 (n := n) (L := L) (P := rows) (pi := List.range n)
  refine acalls_of_body mix Try.func33 rfl fok33 (Nat.le_of_ble_eq_true rfl) ?_
  unfold abody
  simp only [absE, absL, absF, reduceCtorEq, ↓reduceIte, Nat.reduceEqDiff, Nat.reduceAdd, Nat.reduceLT, Nat.reduceMul, Nat.reduceSub, Nat.reduceLeDiff, Int.reduceLT, Int.reduceLE, Int.reduceEq, Option.isSome_some, implies_true, false_implies, Prod.mk.injEq, ne_eq, not_false_eq_true, not_true_eq_false, ge_iff_le, gt_iff_lt, Int.toNat_natCast, Int.reduceToNat, Int.cast_ofNat_Int, Int.natCast_nonneg, n0, o0, g0, nn, h0, Try.f33]
  refine And.intro (by omega) ?_
  refine awpLoop.intro (fun c : Nat => rdE n L p (rdS p n rows c).2.2 c) (fun c => ⟨msP n L (rdS p n rows c).1 (rdS p n rows c).2.1, [((13, 0), plB (rdS p n rows c).2.2)], 100⟩) (fun c => c ≤ L) (fun c => L - c) 0 (by omega) ⟨[((3, 0), (13, 0))], rfl, ?_, ?_⟩ ?_
  · simp [wkEnv, lk, renV, renAt, renTo, rdE, rdS]
  · simp [wkMem, msP_ren renTo_zero, wkLoc, Mem.get, assoc, renBlk, renSegs, renSg, plB, rdS]
  · intro c hc
    have hI := rdS_I hp hm hrn hc
    have hNx : rdS p n rows (c + 1) = rdN p n c (rdS p n rows c) := rfl
    generalize hS : rdS p n rows c = S at hI hNx ⊢
    obtain ⟨P, pi, pl⟩ := S
    simp only at hI ⊢
    obtain ⟨hl, hlt, hinj, _⟩ := perm_lt hI.perm
    have hkn := hI.kn
    simp only [rdE, plB]
    by_cases hcL : (c : Int) < L
    · have hcL2 : 0 + c * 1 < L := by omega
      have wc := wrap_i64s (show c < 2 ^ 62 by omega)
      simp only [absE, absL, absF, reduceCtorEq, ↓reduceIte, Nat.reduceEqDiff, Nat.reduceAdd, Nat.reduceLT, Nat.reduceMul, Nat.reduceSub, Nat.reduceLeDiff, Int.reduceLT, Int.reduceLE, Int.reduceEq, Option.isSome_some, implies_true, false_implies, Prod.mk.injEq, ne_eq, not_false_eq_true, not_true_eq_false, ge_iff_le, gt_iff_lt, Int.toNat_natCast, Int.reduceToNat, Int.cast_ofNat_Int, Int.natCast_nonneg, hcL]
      refine awpLoop.intro (fun i : Nat => [(0, .ref (.sl 0 0 0 0 n 1)), (1, .i .i64 p), (6, .ref (.sl 13 0 0 0 pl.length 1)), (7, .i .i64 c), (8, .i .i64 pl.length), (9, .i .i64 i), (25, .i .i64 L), (26, .i .i64 c)]) (fun _ => ⟨msP n L P pi, [((13, 0), plB pl)], 100⟩) (fun i => pl.length ≤ i ∧ i ≤ n ∧ ∀ j, pl.length ≤ j → j < i → (at_ P (pi.getD j 0)).getD c 0 = 0) (fun i => n - i) pl.length ⟨by omega, by omega, fun j h1 h2 => absurd h2 (by omega)⟩ ⟨[((13, 0), (13, 0))], rfl, ?_, ?_⟩ ?_
      · simp [wkEnv, lk, renV, renAt, renTo]
      · simp [wkMem, msP_ren renTo_zero, wkLoc, Mem.get, assoc, renBlk, renSegs, renSg, plB]
      · rintro i ⟨hi1, hi2, hi3⟩
        have wi := wrap_i64s (show i < 2 ^ 62 by omega)
        simp only [plB]
        by_cases hin : (i : Int) < n
        · have hin2 : i < n := by omega
          have v1 : 0 + i * 1 < n := by omega
          have o1 : (celP L pi).getD (0 + i * 1) .top = .sl 0 (1 + pi.getD i 0) 0 0 L 1 := by rw [Nat.zero_add, Nat.mul_one, celP_get (by omega)]
          have hx := hlt i hin2
          have hxl := hI.rlen _ hx
          have hxr := hI.rng _ hx
          have q : (msP n L P pi).getD (1 + pi.getD i 0) .dead = .lv true [(0, .ints .i64 L (at_ P (pi.getD i 0)))] := by rw [msP_at (by rw [hI.len]; exact hx), ib, hxl]
          have g0 := msP_0 (n := n) (L := L) (P := P) (pi := pi)
          have g1 : (at_ P (pi.getD i 0)).getD (0 + c * 1) 0 = (at_ P (pi.getD i 0)).getD c 0 := by rw [Nat.zero_add, Nat.mul_one]
          by_cases hz : (at_ P (pi.getD i 0)).getD c 0 = 0
          · simp only [absE, absL, absF, reduceCtorEq, ↓reduceIte, Nat.reduceEqDiff, Nat.reduceAdd, Nat.reduceLT, Nat.reduceMul, Nat.reduceSub, Nat.reduceLeDiff, Int.reduceLT, Int.reduceLE, Int.reduceEq, Option.isSome_some, implies_true, false_implies, Prod.mk.injEq, ne_eq, not_false_eq_true, not_true_eq_false, ge_iff_le, gt_iff_lt, Int.toNat_natCast, Int.reduceToNat, Int.cast_ofNat_Int, Int.natCast_nonneg, hin, v1, o1, q, g0, g1, hz, hcL, hcL2]
            refine LoopNext.intro (i + 1) ⟨by omega, by omega, fun j h1 h2 => ?_⟩ (by omega) ⟨[((13, 0), (13, 0))], rfl, ?_, ?_⟩
            · by_cases e : j = i
              · subst e; exact hz
              · exact hi3 j h1 (by omega)
            · simp [wkEnv, lk, renV, renAt, renTo, wi]
            · simp [wkMem, msP_ren renTo_zero, wkLoc, Mem.get, assoc, renBlk, renSegs, renSg]
          · have hne : ¬ (i : Int) = n := by omega
            have kn : pl.length < n := by omega
            have kn2 : (pl.length : Int) < n := by omega
            have vr : 0 + pl.length * 1 < n := by omega
            have or' : (celP L pi).getD (0 + pl.length * 1) .top = .sl 0 (1 + pi.getD pl.length 0) 0 0 L 1 := by rw [Nat.zero_add, Nat.mul_one, celP_get (by omega)]
            have hN2 : rdS p n rows (c + 1) = (elJ p c pl.length (pvB p c P (pi.getD i 0)) (swP pi pl.length i) (P.set (pi.getD i 0) (pvB p c P (pi.getD i 0))) n, swP pi pl.length i, pl ++ [c]) := by
              rw [hNx]; unfold rdN; simp only
              rw [fz_eq (i := i) hi1 (by omega) hi3 (.inr hz), if_pos hin2]
            simp only [absE, absL, absF, reduceCtorEq, ↓reduceIte, Nat.reduceEqDiff, Nat.reduceAdd, Nat.reduceLT, Nat.reduceMul, Nat.reduceSub, Nat.reduceLeDiff, Int.reduceLT, Int.reduceLE, Int.reduceEq, Option.isSome_some, implies_true, false_implies, Prod.mk.injEq, ne_eq, not_false_eq_true, not_true_eq_false, ge_iff_le, gt_iff_lt, Int.toNat_natCast, Int.reduceToNat, Int.cast_ofNat_Int, Int.natCast_nonneg, hin, v1, o1, q, g0, g1, hz, hcL, hcL2, hne, kn2, vr, or']
            refine ite_st (fun h1n hy => ?_) ?_
            · refine ⟨by omega, ?_⟩
              rw [one_at (l := celP L pi) (i := 0 + pl.length * 1) (by rw [celP_len]; omega) (by omega)]; exact hy.2
            · refine And.intro (by omega) <| And.intro (chk_m (l := fl 12 [11, 7]) rfl (by decide +kernel)) ?_
              rw [Nat.zero_add, Nat.zero_add, Nat.mul_one, Nat.mul_one, celP_set]
              have v1' : i < n := by omega
              simp only [absE, absL, absF, reduceCtorEq, ↓reduceIte, Nat.reduceEqDiff, Nat.reduceAdd, Nat.reduceLT, Nat.reduceMul, Nat.reduceSub, Nat.reduceLeDiff, Int.reduceLT, Int.reduceLE, Int.reduceEq, Option.isSome_some, implies_true, false_implies, Prod.mk.injEq, ne_eq, not_false_eq_true, not_true_eq_false, ge_iff_le, gt_iff_lt, Int.toNat_natCast, Int.reduceToNat, Int.cast_ofNat_Int, Int.natCast_nonneg, msP_s0, v1']
              refine ite_st (fun h1n hy => ?_) ?_
              · refine ⟨by omega, ?_⟩
                rw [one_at (l := celP L (pi.set pl.length (pi.getD i 0))) (i := i) (by rw [celP_len, List.length_set]; omega) (by omega)]; exact hy.2
              · refine And.intro (by omega) <| And.intro (chk_m (l := fl 14 [13, 11, 7]) rfl (by decide +kernel)) ?_
                rw [msP_sw]
                have hpm : (swP pi pl.length i).Perm (List.range n) := (swP_perm (by omega) (by omega)).trans hI.perm
                have hr : (swP pi pl.length i).getD pl.length 0 = pi.getD i 0 := by
                  rw [swP_get (by omega) (by omega)]
                  by_cases e : i = pl.length
                  · subst e; simp
                  · rw [if_neg e, if_pos rfl]
                generalize hpj : swP pi pl.length i = pj at hpm hr hN2 ⊢
                generalize hxx : pi.getD i 0 = x at hx hxl hxr q g1 hz hr hN2 ⊢
                unfold pvB at hN2
                obtain ⟨hlj, hltj, hinjj, _⟩ := perm_lt hpm
                have or2 : (celP L pj).getD (0 + pl.length * 1) .top = .sl 0 (1 + x) 0 0 L 1 := by rw [Nat.zero_add, Nat.mul_one, celP_get (by omega), hr]
                have q2 : (msP n L P pj).getD (1 + x) .dead = .lv true [(0, .ints .i64 L (at_ P x))] := by rw [msP_at (by rw [hI.len]; exact hx), ib, hxl]
                have g02 := msP_0 (n := n) (L := L) (P := P) (pi := pj)
                have vr' : pl.length < n := kn
                obtain ⟨hi1', hi2', hs', _⟩ := inv_facts hp hz (hxr c)
                simp only [absE, absL, absF, reduceCtorEq, ↓reduceIte, Nat.reduceEqDiff, Nat.reduceAdd, Nat.reduceLT, Nat.reduceMul, Nat.reduceSub, Nat.reduceLeDiff, Int.reduceLT, Int.reduceLE, Int.reduceEq, Option.isSome_some, implies_true, false_implies, Prod.mk.injEq, ne_eq, not_false_eq_true, not_true_eq_false, ge_iff_le, gt_iff_lt, Int.toNat_natCast, Int.reduceToNat, Int.cast_ofNat_Int, Int.natCast_nonneg, or2, q2, g02, kn2, vr, g1, hcL, hcL2]
                refine CallsVia.none (inverse_ok p _ hp hz (hxr c)) ?_
                rintro _ _ _ ⟨rfl, rfl, rfl⟩
                simp only [absE, absL, absF, reduceCtorEq, ↓reduceIte, Nat.reduceEqDiff, Nat.reduceAdd, Nat.reduceLT, Nat.reduceMul, Nat.reduceSub, Nat.reduceLeDiff, Int.reduceLT, Int.reduceLE, Int.reduceEq, Option.isSome_some, implies_true, false_implies, Prod.mk.injEq, ne_eq, not_false_eq_true, not_true_eq_false, ge_iff_le, gt_iff_lt, Int.toNat_natCast, Int.reduceToNat, Int.cast_ofNat_Int, Int.natCast_nonneg, or2, q2, g02, kn2, vr, g1, hcL, hcL2]
                generalize hff : invF p ((at_ P x).getD c 0) = f at hi1' hi2' hs' hN2 ⊢
                have hxP : x < P.length := by rw [hI.len]; exact hx
                refine awpLoop.intro (fun k : Nat => [(0, .ref (.sl 0 0 0 0 n 1)), (1, .i .i64 p), (6, .ref (.sl 13 0 0 0 pl.length 1)), (7, .i .i64 c), (8, .i .i64 pl.length), (10, .i .i64 f), (25, .i .i64 L), (26, .i .i64 c), (79, .i .i64 L), (80, .i .i64 k)]) (fun k => ⟨msP n L (P.set x (scP p f (at_ P x) k)) pj, [((13, 0), plB pl)], 100⟩) (fun k => k ≤ L) (fun k => L - k) 0 (by omega) ⟨[((13, 0), (13, 0))], rfl, ?_, ?_⟩ ?_
                · simp [wkEnv, lk, renV, renAt, renTo]
                · simp [wkMem, msP_ren renTo_zero, wkLoc, Mem.get, assoc, renBlk, renSegs, renSg, plB, scP]
                  rw [set_at_same hxP]
                · intro k hk
                  have wk := wrap_i64s (show k < 2 ^ 62 by omega)
                  have hSl : (scP p f (at_ P x) k).length = L := by rw [scP_len]; exact hxl
                  have hSk : (scP p f (at_ P x) k).getD k 0 = (at_ P x).getD k 0 := by rw [scP_get (by omega), if_neg (by omega)]
                  have hSn : scP p f (at_ P x) (k + 1) = (scP p f (at_ P x) k).set k (((scP p f (at_ P x) k).getD k 0 * f).tmod p) := rfl
                  simp only [plB]
                  by_cases hkL : (k : Int) < L
                  · generalize scP p f (at_ P x) k = S at hSl hSk hSn ⊢
                    have q3 := msP_ld (n := n) (pi := pj) hxP hSl
                    have g03 := msP_0 (n := n) (L := L) (P := P.set x S) (pi := pj)
                    have vk : 0 + k * 1 < L := by omega
                    have vk2 : 0 + k * 1 + 1 ≤ L := by omega
                    have gk : S.getD (0 + k * 1) 0 = S.getD k 0 := by rw [Nat.zero_add, Nat.mul_one]
                    have hpr := prod_le hp (hxr k) ⟨by omega, hi2'⟩
                    have wm : IntKind.i64.wrap (S.getD k 0 * f) = S.getD k 0 * f := by rw [hSk]; exact wrap_i64 (by omega) (by omega)
                    simp only [absE, absL, absF, reduceCtorEq, ↓reduceIte, Nat.reduceEqDiff, Nat.reduceAdd, Nat.reduceLT, Nat.reduceMul, Nat.reduceSub, Nat.reduceLeDiff, Int.reduceLT, Int.reduceLE, Int.reduceEq, Option.isSome_some, implies_true, false_implies, Prod.mk.injEq, ne_eq, not_false_eq_true, not_true_eq_false, ge_iff_le, gt_iff_lt, Int.toNat_natCast, Int.reduceToNat, Int.cast_ofNat_Int, Int.natCast_nonneg, hkL, or2, q3, g03, vk, gk, kn2, vr, wm, p0]
                    refine ite_st (fun h1n hy => ?_) ?_
                    · refine ⟨by omega, ?_⟩
                      rw [one_int (l := S) (i := 0 + k * 1) (x := (S.getD k 0 * f).tmod p) (by omega) (by omega)]; exact hy.2
                    · refine And.intro (by omega) <| And.intro (chk_m (l := fl 12 [11, 8, 3]) rfl (by decide +kernel)) ?_
                      rw [Nat.zero_add, Nat.mul_one, ← hSn]
                      have hSn2 : (scP p f (at_ P x) (k + 1)).length = L := by rw [scP_len]; exact hxl
                      refine LoopNext.intro (k + 1) (by omega) (by omega) ⟨[((13, 0), (13, 0))], rfl, ?_, ?_⟩
                      · simp [wkEnv, lk, renV, renAt, renTo, wk]
                      · simp only [wkMem]
                        rw [msP_st hxP hSn2, msP_ren renTo_zero]
                        simp [wkLoc, Mem.get, assoc, renBlk, renSegs, renSg]
                  · have hkk : L = k := by omega
                    subst hkk
                    have hb : scP p f (at_ P x) L = scaleR p f (at_ P x) := by
                      have := scP_scaleR (f := f) hp hxr ⟨by omega, hi2'⟩
                      rwa [hxl] at this
                    have hlb : (scaleR p f (at_ P x)).length = L := by rw [scaleR_len]; exact hxl
                    have hbr : RngP p (scaleR p f (at_ P x)) := scaleR_rng hp2.1
                    rw [hb]
                    generalize hbb : scaleR p f (at_ P x) = b at hlb hbr hN2 ⊢
                    have hP1l : (P.set x b).length = n := by rw [List.length_set]; exact hI.len
                    have hP1 : ∀ y, y < n → at_ (P.set x b) y = if y = x then b else at_ P y := fun y _ => at_set hxP
                    generalize hP1e : P.set x b = P1 at hP1l hP1 hN2 ⊢
                    simp only [absE, absL, absF, reduceCtorEq, ↓reduceIte, Nat.reduceEqDiff, Nat.reduceAdd, Nat.reduceLT, Nat.reduceMul, Nat.reduceSub, Nat.reduceLeDiff, Int.reduceLT, Int.reduceLE, Int.reduceEq, Option.isSome_some, implies_true, false_implies, Prod.mk.injEq, ne_eq, not_false_eq_true, not_true_eq_false, ge_iff_le, gt_iff_lt, Int.toNat_natCast, Int.reduceToNat, Int.cast_ofNat_Int, Int.natCast_nonneg, hkL]
                    refine awpLoop.intro (fun j : Nat => [(0, .ref (.sl 0 0 0 0 n 1)), (1, .i .i64 p), (6, .ref (.sl 13 0 0 0 pl.length 1)), (7, .i .i64 c), (8, .i .i64 pl.length), (25, .i .i64 L), (26, .i .i64 c), (101, .ref (.sl 0 0 0 0 n 1)), (102, .i .i64 n), (103, .i .i64 j)]) (fun j => ⟨msP n L (elJ p c pl.length b pj P1 j) pj, [((13, 0), plB pl)], 100⟩) (fun j => j ≤ n) (fun j => n - j) 0 (by omega) ⟨[((13, 0), (13, 0))], rfl, ?_, ?_⟩ ?_
                    · simp [wkEnv, lk, renV, renAt, renTo]
                    · simp [wkMem, msP_ren renTo_zero, wkLoc, Mem.get, assoc, renBlk, renSegs, renSg, plB, elJ]
                    · intro j hj
                      have hEl : (elJ p c pl.length b pj P1 j).length = n := by rw [elJ_len]; exact hP1l
                      have hEa : ∀ i, i < n → at_ (elJ p c pl.length b pj P1 j) (pj.getD i 0) = if i < j ∧ i ≠ pl.length then elimR p b c (at_ P1 (pj.getD i 0)) else at_ P1 (pj.getD i 0) := fun i hi => elJ_at hpm hP1l hi hj
                      have hEn : elJ p c pl.length b pj P1 (j + 1) = if j = pl.length then elJ p c pl.length b pj P1 j else (elJ p c pl.length b pj P1 j).set (pj.getD j 0) (elimR p b c (at_ P1 (pj.getD j 0))) := rfl
                      simp only [plB]
                      by_cases hjn : (j : Int) < n
                      · generalize elJ p c pl.length b pj P1 j = E at hEl hEa hEn ⊢
                        have hjn2 : j < n := by omega
                        have wj := wrap_i64s (show j < 2 ^ 62 by omega)
                        have vj : 0 + j * 1 < n := by omega
                        have oj : (celP L pj).getD (0 + j * 1) .top = .sl 0 (1 + pj.getD j 0) 0 0 L 1 := by rw [Nat.zero_add, Nat.mul_one, celP_get (by omega)]
                        have hy := hltj j hjn2
                        have hEr := hEa pl.length vr'
                        rw [if_neg (by simp), hr, hP1 x hx, if_pos rfl] at hEr
                        have hEj := hEa j hjn2
                        rw [if_neg (by omega)] at hEj
                        have hrowl : (at_ P1 (pj.getD j 0)).length = L := by
                          rw [hP1 _ hy]; split
                          · exact hlb
                          · exact hI.rlen _ hy
                        have hrowr : RngP p (at_ P1 (pj.getD j 0)) := by
                          rw [hP1 _ hy]; split
                          · exact hbr
                          · exact hI.rng _ hy
                        have qj : (msP n L E pj).getD (1 + pj.getD j 0) .dead = .lv true [(0, .ints .i64 L (at_ P1 (pj.getD j 0)))] := by rw [msP_at (by rw [hEl]; exact hy), ib, hEj, hrowl]
                        have g0j := msP_0 (n := n) (L := L) (P := E) (pi := pj)
                        have gcj : (at_ P1 (pj.getD j 0)).getD (0 + c * 1) 0 = (at_ P1 (pj.getD j 0)).getD c 0 := by rw [Nat.zero_add, Nat.mul_one]
                        by_cases hjr : (j : Int) = pl.length
                        · have hjr2 : j = pl.length := by omega
                          rw [if_pos hjr2] at hEn
                          subst hjr2
                          simp only [absE, absL, absF, reduceCtorEq, ↓reduceIte, Nat.reduceEqDiff, Nat.reduceAdd, Nat.reduceLT, Nat.reduceMul, Nat.reduceSub, Nat.reduceLeDiff, Int.reduceLT, Int.reduceLE, Int.reduceEq, Option.isSome_some, implies_true, false_implies, Prod.mk.injEq, ne_eq, not_false_eq_true, not_true_eq_false, ge_iff_le, gt_iff_lt, Int.toNat_natCast, Int.reduceToNat, Int.cast_ofNat_Int, Int.natCast_nonneg, hjn, vj, oj, qj, g0j, gcj, hcL, hcL2, kn2, vr]
                          refine LoopNext.intro (pl.length + 1) (by omega) (by omega) ⟨[((13, 0), (13, 0))], rfl, ?_, ?_⟩
                          · simp [wkEnv, lk, renV, renAt, renTo, wj]
                          · simp only [wkMem]
                            rw [hEn, msP_ren renTo_zero]
                            simp [wkLoc, Mem.get, assoc, renBlk, renSegs, renSg]
                        · rw [if_neg (by omega)] at hEn
                          by_cases hm0 : (at_ P1 (pj.getD j 0)).getD c 0 = 0
                          · rw [elim_same hp hrowr hm0, ← hEj, set_at_same (by rw [hEl]; exact hy)] at hEn
                            simp only [absE, absL, absF, reduceCtorEq, ↓reduceIte, Nat.reduceEqDiff, Nat.reduceAdd, Nat.reduceLT, Nat.reduceMul, Nat.reduceSub, Nat.reduceLeDiff, Int.reduceLT, Int.reduceLE, Int.reduceEq, Option.isSome_some, implies_true, false_implies, Prod.mk.injEq, ne_eq, not_false_eq_true, not_true_eq_false, ge_iff_le, gt_iff_lt, Int.toNat_natCast, Int.reduceToNat, Int.cast_ofNat_Int, Int.natCast_nonneg, hjn, vj, oj, qj, g0j, gcj, hcL, hcL2, hjr, hm0]
                            refine LoopNext.intro (j + 1) (by omega) (by omega) ⟨[((13, 0), (13, 0))], rfl, ?_, ?_⟩
                            · simp [wkEnv, lk, renV, renAt, renTo, wj]
                            · simp only [wkMem]
                              rw [hEn, msP_ren renTo_zero]
                              simp [wkLoc, Mem.get, assoc, renBlk, renSegs, renSg]
                          · have hyx : pj.getD j 0 ≠ x := fun e => by
                              rw [← hr] at e
                              exact hjr (by have := hinjj _ _ hjn2 vr' e; omega)
                            simp only [absE, absL, absF, reduceCtorEq, ↓reduceIte, Nat.reduceEqDiff, Nat.reduceAdd, Nat.reduceLT, Nat.reduceMul, Nat.reduceSub, Nat.reduceLeDiff, Int.reduceLT, Int.reduceLE, Int.reduceEq, Option.isSome_some, implies_true, false_implies, Prod.mk.injEq, ne_eq, not_false_eq_true, not_true_eq_false, ge_iff_le, gt_iff_lt, Int.toNat_natCast, Int.reduceToNat, Int.cast_ofNat_Int, Int.natCast_nonneg, hjn, vj, oj, qj, g0j, gcj, hcL, hcL2, hjr, hm0]
                            have hel := elP_elimR (c := c) hp hrowr hbr
                            rw [hrowl] at hel
                            have hmr := hrowr c
                            rw [← hel] at hEn
                            have hyE : pj.getD j 0 < E.length := by rw [hEl]; exact hy
                            have hE0 : E = E.set (pj.getD j 0) (elP p (p - (at_ P1 (pj.getD j 0)).getD c 0) b (at_ P1 (pj.getD j 0)) 0) := by
                              rw [elP, ← hEj, set_at_same hyE]
                            generalize hrw : at_ P1 (pj.getD j 0) = row at hrowl hrowr hm0 hEn hmr hE0 ⊢
                            generalize hmm : row.getD c 0 = m at hm0 hEn hmr hE0 ⊢
                            generalize hyy : pj.getD j 0 = y at hy hyx hEn hyE hE0 ⊢
                            refine awpLoop.intro (fun k : Nat => [(0, .ref (.sl 0 0 0 0 n 1)), (1, .i .i64 p), (6, .ref (.sl 13 0 0 0 pl.length 1)), (7, .i .i64 c), (8, .i .i64 pl.length), (13, .ref (.sl 0 (1 + y) 0 0 L 1)), (14, .i .i64 m), (25, .i .i64 L), (26, .i .i64 c), (101, .ref (.sl 0 0 0 0 n 1)), (102, .i .i64 n), (103, .i .i64 j), (120, .i .i64 L), (121, .i .i64 k)]) (fun k => ⟨msP n L (E.set y (elP p (p - m) b row k)) pj, [((13, 0), plB pl)], 100⟩) (fun k => k ≤ L) (fun k => L - k) 0 (by omega) ⟨[((13, 0), (13, 0))], rfl, ?_, ?_⟩ ?_
                            · simp [wkEnv, lk, renV, renAt, renTo]
                            · simp only [wkMem]
                              rw [← hE0, msP_ren renTo_zero]
                              simp [wkLoc, Mem.get, assoc, renBlk, renSegs, renSg, plB]
                            · intro k hk
                              have wk := wrap_i64s (show k < 2 ^ 62 by omega)
                              have hSl : (elP p (p - m) b row k).length = L := by rw [elP_len]; exact hrowl
                              have hSk : (elP p (p - m) b row k).getD k 0 = row.getD k 0 := by rw [elP_get (by omega), if_neg (by omega)]
                              have hSn : elP p (p - m) b row (k + 1) = (elP p (p - m) b row k).set k (((elP p (p - m) b row k).getD k 0 + (p - m) * b.getD k 0).tmod p) := rfl
                              simp only [plB]
                              by_cases hkL : (k : Int) < L
                              · generalize elP p (p - m) b row k = S at hSl hSk hSn ⊢
                                have q3 := msP_ld (n := n) (pi := pj) hyE hSl
                                have qx : (msP n L (E.set y S) pj).getD (1 + x) .dead = .lv true [(0, .ints .i64 L b)] := by
                                  rw [msP_at (by rw [List.length_set, hEl]; exact hx), at_set hyE, if_neg (fun e => hyx e.symm), hEr, ib, hlb]
                                have g03 := msP_0 (n := n) (L := L) (P := E.set y S) (pi := pj)
                                have vk : 0 + k * 1 < L := by omega
                                have vk2 : 0 + k * 1 + 1 ≤ L := by omega
                                have gk : S.getD (0 + k * 1) 0 = S.getD k 0 := by rw [Nat.zero_add, Nat.mul_one]
                                have gb : b.getD (0 + k * 1) 0 = b.getD k 0 := by rw [Nat.zero_add, Nat.mul_one]
                                have hpm1 : 0 ≤ p - m ∧ p - m ≤ p - 1 := by omega
                                have hpr := prod_le hp hpm1 (hbr k)
                                have wpm : IntKind.i64.wrap (p - m) = p - m := wrap_i64 (by omega) (by omega)
                                have wm : IntKind.i64.wrap ((p - m) * b.getD k 0) = (p - m) * b.getD k 0 := wrap_i64 (by omega) (by omega)
                                have hrk := hrowr k
                                have wa : IntKind.i64.wrap (S.getD k 0 + (p - m) * b.getD k 0) = S.getD k 0 + (p - m) * b.getD k 0 := by rw [hSk]; exact wrap_i64 (by omega) (by omega)
                                simp only [absE, absL, absF, reduceCtorEq, ↓reduceIte, Nat.reduceEqDiff, Nat.reduceAdd, Nat.reduceLT, Nat.reduceMul, Nat.reduceSub, Nat.reduceLeDiff, Int.reduceLT, Int.reduceLE, Int.reduceEq, Option.isSome_some, implies_true, false_implies, Prod.mk.injEq, ne_eq, not_false_eq_true, not_true_eq_false, ge_iff_le, gt_iff_lt, Int.toNat_natCast, Int.reduceToNat, Int.cast_ofNat_Int, Int.natCast_nonneg, hkL, or2, q3, qx, g03, vk, gk, gb, kn2, vr, wpm, wm, wa, p0]
                                refine ite_st (fun h1n hy => ?_) ?_
                                · refine ⟨by omega, ?_⟩
                                  rw [one_int (l := S) (i := 0 + k * 1) (x := (S.getD k 0 + (p - m) * b.getD k 0).tmod p) (by omega) (by omega)]; exact hy.2
                                · refine And.intro (by omega) ?_
                                  refine And.intro (chk_m (l := fl 16 [15, 12, 5]) rfl (by decide +kernel)) ?_
                                  rw [Nat.zero_add, Nat.mul_one, ← hSn]
                                  have hSn2 : (elP p (p - m) b row (k + 1)).length = L := by rw [elP_len]; exact hrowl
                                  refine LoopNext.intro (k + 1) (by omega) (by omega) ⟨[((13, 0), (13, 0))], rfl, ?_, ?_⟩
                                  · simp [wkEnv, lk, renV, renAt, renTo, wk]
                                  · simp only [wkMem]
                                    rw [msP_st hyE hSn2, msP_ren renTo_zero]
                                    simp [wkLoc, Mem.get, assoc, renBlk, renSegs, renSg]
                              · have hkk : L = k := by omega
                                subst hkk
                                simp only [absE, absL, absF, reduceCtorEq, ↓reduceIte, Nat.reduceEqDiff, Nat.reduceAdd, Nat.reduceLT, Nat.reduceMul, Nat.reduceSub, Nat.reduceLeDiff, Int.reduceLT, Int.reduceLE, Int.reduceEq, Option.isSome_some, implies_true, false_implies, Prod.mk.injEq, ne_eq, not_false_eq_true, not_true_eq_false, ge_iff_le, gt_iff_lt, Int.toNat_natCast, Int.reduceToNat, Int.cast_ofNat_Int, Int.natCast_nonneg, hkL]
                                refine LoopNext.intro (j + 1) (by omega) (by omega) ⟨[((13, 0), (13, 0))], rfl, ?_, ?_⟩
                                · simp [wkEnv, lk, renV, renAt, renTo, wj]
                                · simp only [wkMem]
                                  rw [hEn, msP_ren renTo_zero]
                                  simp [wkLoc, Mem.get, assoc, renBlk, renSegs, renSg]
                      · have hjn3 : n = j := by omega
                        subst hjn3
                        have mp : pl.length * 1 = pl.length := Nat.mul_one _
                        have hlm : (pl.map Int.ofNat).length = pl.length := by simp
                        simp only [absE, absL, absF, reduceCtorEq, ↓reduceIte, Nat.reduceEqDiff, Nat.reduceAdd, Nat.reduceLT, Nat.reduceMul, Nat.reduceSub, Nat.reduceLeDiff, Int.reduceLT, Int.reduceLE, Int.reduceEq, Option.isSome_some, implies_true, false_implies, Prod.mk.injEq, ne_eq, not_false_eq_true, not_true_eq_false, ge_iff_le, gt_iff_lt, Int.toNat_natCast, Int.reduceToNat, Int.cast_ofNat_Int, Int.natCast_nonneg, hjn, mp]
                        repeat refine And.intro (by omega) ?_
                        refine LoopNext.intro (c + 1) (by omega) (by omega) ⟨[((104, 0), (13, 0))], rfl, ?_, ?_⟩
                        · simp [wkEnv, lk, renV, renAt, renTo, wc, hN2]
                        · simp only [wkMem]
                          rw [msP_ren renTo_zero, hN2]
                          simp [wkLoc, Mem.get, assoc, renBlk, renSegs, renSg]
        · have hin3 : i = n := by omega
          subst hin3
          have hno : ¬ (i : Int) < i := by omega
          simp only [absE, absL, absF, reduceCtorEq, ↓reduceIte, Nat.reduceEqDiff, Nat.reduceAdd, Nat.reduceLT, Nat.reduceMul, Nat.reduceSub, Nat.reduceLeDiff, Int.reduceLT, Int.reduceLE, Int.reduceEq, Option.isSome_some, implies_true, false_implies, Prod.mk.injEq, ne_eq, not_false_eq_true, not_true_eq_false, ge_iff_le, gt_iff_lt, Int.toNat_natCast, Int.reduceToNat, Int.cast_ofNat_Int, Int.natCast_nonneg, hno]
          have hN2 : rdS p i rows (c + 1) = (P, pi, pl) := by
            rw [hNx]; unfold rdN; simp only
            rw [fz_eq (i := i) hi1 (by omega) hi3 (.inl (by omega)), if_neg (Nat.lt_irrefl i)]
          refine LoopNext.intro (c + 1) (by omega) (by omega) ⟨[((13, 0), (13, 0))], rfl, ?_, ?_⟩
          · simp [wkEnv, lk, renV, renAt, renTo, rdE, wc, hN2]
          · simp [hN2, wkMem, msP_ren renTo_zero, wkLoc, Mem.get, assoc, renBlk, renSegs, renSg, plB]
    · obtain rfl : c = L := by omega
      simp only [absE, absL, absF, reduceCtorEq, ↓reduceIte, Nat.reduceEqDiff, Nat.reduceAdd, Nat.reduceLT, Nat.reduceMul, Nat.reduceSub, Nat.reduceLeDiff, Int.reduceLT, Int.reduceLE, Int.reduceEq, Option.isSome_some, implies_true, false_implies, Prod.mk.injEq, ne_eq, not_false_eq_true, not_true_eq_false, ge_iff_le, gt_iff_lt, Int.toNat_natCast, Int.reduceToNat, Int.cast_ofNat_Int, Int.natCast_nonneg, hcL]
      refine And.intro (by omega) ?_
      simp only [absE, absL, absF, reduceCtorEq, ↓reduceIte, Nat.reduceEqDiff, Nat.reduceAdd, Nat.reduceLT, Nat.reduceMul, Nat.reduceSub, Nat.reduceLeDiff, Int.reduceLT, Int.reduceLE, Int.reduceEq, Option.isSome_some, implies_true, false_implies, Prod.mk.injEq, ne_eq, not_false_eq_true, not_true_eq_false, ge_iff_le, gt_iff_lt, Int.toNat_natCast, Int.reduceToNat, Int.cast_ofNat_Int, Int.natCast_nonneg, Try.results33]
      rw [hS]
      exact ⟨[(13, 0)], by simp, by simp, by simp [renV, renVs, renAt, renFin, idx], by simp only; exact msP_ren renFin_zero, by simp [Mem.get, assoc, renBlk, renSegs, renSg]⟩

end Go.Proofs.Ytjmenocghjggcaa
