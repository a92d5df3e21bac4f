/-
Contracts of functions of the given program, by the abstract walk.
-/
import Derived.Test.YtcaadjjgggjefaaAbsY
import Derived.Test.YtcaadjjgggjefaaKd
namespace Go.Proofs.Ytcaadjjgggjefaa
open Go Go.Abs
set_option linter.unusedVariables false
set_option linter.unusedSectionVars false
set_option linter.unusedSimpArgs false
set_option maxRecDepth 100000
def extV (t : List Int) (K : Nat) (LL : LLs) (x y : Nat) : Nat := K * cl t (x / K) (y / K) + (x % K + y % K + cv LL (x / K) (y / K)) % K
theorem div_lt' {x N K : Nat} (h : x < N * K) : x / K < N := by
  rcases Nat.eq_zero_or_pos K with h0 | h0
  · subst h0; simp at h
  · exact (Nat.div_lt_iff_lt_mul h0).2 h
structure ExtF (N : Nat) (t : List Int) (K : Nat) (LL : LLs) : Prop where
  sq : SqP N t
  k1 : 1 ≤ K
  nk : N * K ≤ 10
  coc : CocP N K LL
theorem ExtF.cvl {N : Nat} {t : List Int} {K : Nat} {LL : LLs} (h : ExtF N t K LL) {x y : Nat} (hx : x < N) (hy : y < N) : cv LL x y < K ∧ (at_ LL x).getD y 0 = ((cv LL x y : Nat) : Int) := by
  have := ((h.coc.2 x hx).2 y hy).1
  have := h.k1
  unfold cv; omega
theorem ExtF.lt {N : Nat} {t : List Int} {K : Nat} {LL : LLs} (h : ExtF N t K LL) {x y : Nat} (hx : x < N * K) (hy : y < N * K) : extV t K LL x y < N * K := by
  have h1 := h.sq.cl_lt (div_lt' hx) (div_lt' hy)
  have h2 := Nat.mod_lt (x % K + y % K + cv LL (x / K) (y / K)) (show 0 < K from h.k1)
  have h3 : K * (cl t (x / K) (y / K) + 1) ≤ K * N := Nat.mul_le_mul_left K h1
  rw [Nat.mul_add, Nat.mul_one, Nat.mul_comm K N] at h3
  unfold extV; omega
theorem ext1_ok (N : Nat) (t : List Int) (K : Nat) (LL : LLs) (ht : Bytes 100 t) (h : ExtF N t K LL) (x y : Nat) (hx : x < N * K) (hy : y < N * K) :
    ACalls Try.prog 82 [.i .u8 x, .i .u8 y, .ref (.ptr 0 0 0 0), .ref (.ptr 0 1 0 0), .ref (.ptr 0 2 0 0)] (msE [.lv true [(0, .ints .u8 1 [(K : Int)])], .lv true (sqS N t)] LL) (fun v ms ns => v = .i .u8 (extV t K LL x y) ∧ ms = msE [.lv true [(0, .ints .u8 1 [(K : Int)])], .lv true (sqS N t)] LL ∧ ns = []) := by
  have hN := h.sq.le
  have hk1 := h.k1
  have hnk := h.nk
  have hK10 : K ≤ 10 := by have := Nat.le_mul_of_pos_left K h.sq.pos; omega
  have hX := div_lt' hx
  have hY := div_lt' hy
  have k0 : ¬(K : Int) = 0 := by omega
  have hlen : LL.length = N := h.coc.1
  have d1 := (Int.ofNat_tdiv x K).symm
  have d2 := (Int.ofNat_tdiv y K).symm
  have m1 := (Int.ofNat_tmod x K).symm
  have m2 := (Int.ofNat_tmod y K).symm
  have w1 := wrap_u8n (show x / K < 256 by omega)
  have w2 := wrap_u8n (show y / K < 256 by omega)
  have mx := Nat.mod_lt x (show 0 < K from hk1)
  have my := Nat.mod_lt y (show 0 < K from hk1)
  obtain ⟨hc, ec⟩ := h.cvl hX hY
  have hl := h.lt hx hy
  have hcl := h.sq.cl_lt hX hY
  have hmul : K * cl t (x / K) (y / K) ≤ 100 := Nat.le_trans (Nat.mul_le_mul hK10 (show cl t (x / K) (y / K) ≤ 10 by omega)) (by decide)
  have w3 : IntKind.u8.wrap ((K : Int) * (cl t (x / K) (y / K) : Nat)) = ((K * cl t (x / K) (y / K) : Nat) : Int) := by rw [← Int.natCast_mul]; exact wrap_u8n (by omega)
  have w4 : IntKind.u8.wrap (((x % K : Nat) : Int) + ((y % K : Nat) : Int)) = ((x % K + y % K : Nat) : Int) := by rw [← Int.natCast_add]; exact wrap_u8n (by omega)
  have w5 := wrap_u8n (show cv LL (x / K) (y / K) < 256 by omega)
  have w6 : IntKind.u8.wrap (((x % K + y % K : Nat) : Int) + (cv LL (x / K) (y / K) : Nat)) = ((x % K + y % K + cv LL (x / K) (y / K) : Nat) : Int) := by rw [← Int.natCast_add]; exact wrap_u8n (by omega)
  have m3 := (Int.ofNat_tmod (x % K + y % K + cv LL (x / K) (y / K)) K).symm
  have w7 : IntKind.u8.wrap (((K * cl t (x / K) (y / K) : Nat) : Int) + (((x % K + y % K + cv LL (x / K) (y / K)) % K : Nat) : Int)) = ((extV t K LL x y : Nat) : Int) := by
    rw [← Int.natCast_add]; exact wrap_u8n (show extV t K LL x y < 256 by omega)
  generalize hi : x / K = i at *
  generalize hj : y / K = j at *
  have hil : i < LL.length := by omega
  have g0 : (msE [.lv true [(0, .ints .u8 1 [(K : Int)])], .lv true (sqS N t)] LL).getD 0 .dead = .lv true [(0, .ints .u8 1 [(K : Int)])] := rfl
  have g1 : (msE [.lv true [(0, .ints .u8 1 [(K : Int)])], .lv true (sqS N t)] LL).getD 1 .dead = .lv true (sqS N t) := rfl
  have g2 : (msE [.lv true [(0, .ints .u8 1 [(K : Int)])], .lv true (sqS N t)] LL).getD 2 .dead = .lv true [(0, .cells 1 [.sl 0 3 0 0 LL.length 1])] := rfl
  have g3 : (msE [.lv true [(0, .ints .u8 1 [(K : Int)])], .lv true (sqS N t)] LL).getD 3 .dead = .lv true [(0, .cells LL.length (outs 0 4 LL))] := rfl
  have q1 : (msE [.lv true [(0, .ints .u8 1 [(K : Int)])], .lv true (sqS N t)] LL).getD (4 + i) .dead = .lv true [(0, .ints .i64 (at_ LL i).length (at_ LL i))] := msE_row (pre := [.lv true [(0, .ints .u8 1 [(K : Int)])], .lv true (sqS N t)]) hil
  have e1 : (outs 0 4 LL).getD (0 + i * 1) .top = .sl 0 (4 + i) 0 0 (at_ LL i).length 1 := by rw [Nat.zero_add, Nat.mul_one]; exact outs_get hil
  have lr := (h.coc.2 i hX).1
  have e2 : (at_ LL i).getD (0 + j * 1) 0 = ((cv LL i j : Nat) : Int) := by rw [Nat.zero_add, Nat.mul_one]; exact ec
  have i1 : (i : Int) < LL.length := by omega
  have i2 : (j : Int) < (at_ LL i).length := by omega
  have i3 : (i : Int) < 10 := by omega
  have i4 : (j : Int) < 10 := by omega
  have v1 : 0 + i * 1 < LL.length := by omega
  have v2 : 0 + j * 1 < (at_ LL i).length := by omega
  have u1 : 0 + i * 10 + j * 1 < 100 := by omega
  have kq := sq_colget ht i j
  have hfin : (msE [.lv true [(0, .ints .u8 1 [(K : Int)])], .lv true (sqS N t)] LL).map (renBlk (renFin [])) = msE [.lv true [(0, .ints .u8 1 [(K : Int)])], .lv true (sqS N t)] LL := msE_st (fun _ => rfl) _ fun k _ => renFin_zero k
  refine acalls_of_body mix Try.func82 rfl fok82 (Nat.le_of_ble_eq_true rfl) ?_
  unfold abody
  simp only [absE, absL, absF, reduceCtorEq, ↓reduceIte, Nat.reduceEqDiff, Nat.reduceAdd, Nat.reduceLT, Nat.reduceMul, Nat.reduceSub, Nat.reduceLeDiff, Int.reduceLT, Int.reduceLE, Int.reduceEq, Option.isSome_some, implies_true, false_implies, Prod.mk.injEq, ne_eq, not_false_eq_true, not_true_eq_false, ge_iff_le, gt_iff_lt, Int.toNat_natCast, Int.reduceToNat, Int.cast_ofNat_Int, Int.natCast_nonneg, g0, g1, g2, g3, List.getD_cons_zero, k0, d1, d2, m1, m2, m3, hi, hj, w1, w2, w3, w4, w5, w6, w7, i1, i2, i3, i4, v1, v2, u1, kq, q1, e1, e2, Try.f82, Try.results82]
  repeat refine And.intro (by decide +kernel) ?_
  exact ⟨[], by simp, by simp, by simp [renV], hfin, by simp⟩
noncomputable def extC (n : Int) (t : List Int) (k : Int) (LL : LLs) : Int := if sqB n t then (if decide (1 ≤ k ∧ k ≤ 10) && cocB n.toNat k LL then (if loopB n t then (if n * k > 10 then 3 else 0) else 5) else 2) else 1
noncomputable def extR (n : Int) (t : List Int) (k : Int) (LL : LLs) : AV := resSq (extC n t k LL) (n * k) (mkT (extV t k.toNat LL) (n.toNat * k.toNat) (n.toNat * k.toNat))
theorem ext_form (n : Int) (t : List Int) (k : Int) (LL : LLs) (ht : Bytes 100 t) (hk : -2 ^ 63 ≤ k ∧ k < 2 ^ 63) (hl : ∀ i, i < LL.length → (at_ LL i).length ≤ 2 ^ 20) (hm : LL.length ≤ 2 ^ 20) : ∃ m s e, s.length = 100 ∧ extR n t k LL = .tup [.agg (sqS m s), .i .i64 e] := resSq_form _ _ mkT_len
theorem implExt_ok (n : Int) (t : List Int) (k : Int) (LL : LLs) (ht : Bytes 100 t) (hk : -2 ^ 63 ≤ k ∧ k < 2 ^ 63) (hl : ∀ i, i < LL.length → (at_ LL i).length ≤ 2 ^ 20) (hm : LL.length ≤ 2 ^ 20) :
    ACalls Try.prog 43 [.agg (sqS n t), .i .i64 k, .ref (.sl 0 0 0 0 LL.length 1)] (ms1 LL) (fun v ms ns => v = extR n t k LL ∧ ms = ms1 LL ∧ ns = []) := by
  have g0 := ms1_0 (LL := LL)
  have hst : ∀ σ : Pairs, (ms1 LL).map (renBlk (renTo σ)) = ms1 LL := fun σ => ms1_ren renTo_zero
  have hfin : (ms1 LL).map (renBlk (renFin [])) = ms1 LL := ms1_ren renFin_zero
  have hcode : ∀ c, extC n t k LL = c → c ≠ 0 → extR n t k LL = .tup [.agg (sqS 0 (List.replicate 100 0)), .i .i64 c] := fun c hc h0 => by unfold extR; rw [hc, resSqN h0]
  have hstv : StVs (ms1 LL) [.agg (sqS n t), .i .i64 k, .ref (.sl 0 0 0 0 LL.length 1)] := fun σ hσ => by simp [renVs, renV, renAt, renSegs, renSg, hσ 0 (by rw [ms1_len]; omega)]
  have hstv2 : StVs (ms1 LL) [.i .i64 n, .i .i64 k, .ref (.sl 0 0 0 0 LL.length 1)] := fun σ hσ => by simp [renVs, renV, renAt, renSegs, renSg, hσ 0 (by rw [ms1_len]; omega)]
  refine acalls_of_body mix Try.func43 rfl fok43 (Nat.le_of_ble_eq_true rfl) ?_
  unfold abody
  simp only [absE, absL, absF, reduceCtorEq, ↓reduceIte, Nat.reduceEqDiff, Nat.reduceAdd, Nat.reduceLT, Nat.reduceMul, Nat.reduceSub, Nat.reduceLeDiff, Int.reduceLT, Int.reduceLE, Int.reduceEq, Option.isSome_some, implies_true, false_implies, Prod.mk.injEq, ne_eq, not_false_eq_true, not_true_eq_false, ge_iff_le, gt_iff_lt, Int.toNat_natCast, Int.reduceToNat, Int.cast_ofNat_Int, Int.natCast_nonneg, Try.f43]
  refine CallsVia.none (isSquare_ok n t ht) ?_
  rintro _ _ _ ⟨rfl, rfl, rfl⟩
  cases h1 : sqB n t
  · have e := hcode 1 (by simp [extC, h1]) (by decide)
    simp only [absE, absL, absF, reduceCtorEq, ↓reduceIte, Nat.reduceEqDiff, Nat.reduceAdd, Nat.reduceLT, Nat.reduceMul, Nat.reduceSub, Nat.reduceLeDiff, Int.reduceLT, Int.reduceLE, Int.reduceEq, Option.isSome_some, implies_true, false_implies, Prod.mk.injEq, ne_eq, not_false_eq_true, not_true_eq_false, ge_iff_le, gt_iff_lt, Int.toNat_natCast, Int.reduceToNat, Int.cast_ofNat_Int, Int.natCast_nonneg, Try.results43]
    exact ⟨[], by simp, by simp, by simp [renV, renVs, renSegs, renSg, e], hfin, by simp⟩
  · have hs := sqB_iff.1 h1
    obtain ⟨N, rfl⟩ : ∃ N : Nat, n = N := ⟨n.toNat, by have := hs.1; omega⟩
    have hN := hs.le
    have tN : (N : Int).toNat = N := by omega
    simp only [absE, absL, absF, reduceCtorEq, ↓reduceIte, Nat.reduceEqDiff, Nat.reduceAdd, Nat.reduceLT, Nat.reduceMul, Nat.reduceSub, Nat.reduceLeDiff, Int.reduceLT, Int.reduceLE, Int.reduceEq, Option.isSome_some, implies_true, false_implies, Prod.mk.injEq, ne_eq, not_false_eq_true, not_true_eq_false, ge_iff_le, gt_iff_lt, Int.toNat_natCast, Int.reduceToNat, Int.cast_ofNat_Int, Int.natCast_nonneg]
    refine CallsVia.none (within_ok k 1 10) ?_
    rintro _ _ _ ⟨rfl, rfl, rfl⟩
    by_cases hk10 : 1 ≤ k ∧ k ≤ 10
    · simp only [absE, absL, absF, reduceCtorEq, ↓reduceIte, Nat.reduceEqDiff, Nat.reduceAdd, Nat.reduceLT, Nat.reduceMul, Nat.reduceSub, Nat.reduceLeDiff, Int.reduceLT, Int.reduceLE, Int.reduceEq, Option.isSome_some, implies_true, false_implies, Prod.mk.injEq, ne_eq, not_false_eq_true, not_true_eq_false, ge_iff_le, gt_iff_lt, Int.toNat_natCast, Int.reduceToNat, Int.cast_ofNat_Int, Int.natCast_nonneg, hk10]
      refine CallsVia.allV ms1_live ms1_st hstv (fun _ => rfl) (isCocycle_ok N t k LL hN hk10 hm) ?_
      intro ups1 rd1 hu1
      simp only [hu1]
      cases hcc0 : cocB N k LL
      · have hcc : (decide (1 ≤ k ∧ k ≤ 10) && cocB N k LL) = false := by rw [hcc0, Bool.and_false]
        have e := hcode 2 (by simp only [extC, h1, tN, hcc]; simp) (by decide)
        simp only [absE, absL, absF, reduceCtorEq, ↓reduceIte, Nat.reduceEqDiff, Nat.reduceAdd, Nat.reduceLT, Nat.reduceMul, Nat.reduceSub, Nat.reduceLeDiff, Int.reduceLT, Int.reduceLE, Int.reduceEq, Option.isSome_some, implies_true, false_implies, Prod.mk.injEq, ne_eq, not_false_eq_true, not_true_eq_false, ge_iff_le, gt_iff_lt, Int.toNat_natCast, Int.reduceToNat, Int.cast_ofNat_Int, Int.natCast_nonneg, Try.results43]
        exact ⟨[], by simp, by simp, by simp [renV, renVs, renSegs, renSg, e], hfin, by simp⟩
      · have hcc' : (decide (1 ≤ k ∧ k ≤ 10) && cocB N k LL) = true := by rw [hcc0, decide_eq_true hk10]; rfl
        have hcoc := cocB_iff.1 hcc0
        simp only [absE, absL, absF, reduceCtorEq, ↓reduceIte, Nat.reduceEqDiff, Nat.reduceAdd, Nat.reduceLT, Nat.reduceMul, Nat.reduceSub, Nat.reduceLeDiff, Int.reduceLT, Int.reduceLE, Int.reduceEq, Option.isSome_some, implies_true, false_implies, Prod.mk.injEq, ne_eq, not_false_eq_true, not_true_eq_false, ge_iff_le, gt_iff_lt, Int.toNat_natCast, Int.reduceToNat, Int.cast_ofNat_Int, Int.natCast_nonneg]
        refine CallsVia.none (isLoop_ok N t ht) ?_
        rintro _ _ _ ⟨rfl, rfl, rfl⟩
        cases hlp : loopB N t
        · have e := hcode 5 (by simp only [extC, h1, tN, hcc', hlp]; simp) (by decide)
          simp only [absE, absL, absF, reduceCtorEq, ↓reduceIte, Nat.reduceEqDiff, Nat.reduceAdd, Nat.reduceLT, Nat.reduceMul, Nat.reduceSub, Nat.reduceLeDiff, Int.reduceLT, Int.reduceLE, Int.reduceEq, Option.isSome_some, implies_true, false_implies, Prod.mk.injEq, ne_eq, not_false_eq_true, not_true_eq_false, ge_iff_le, gt_iff_lt, Int.toNat_natCast, Int.reduceToNat, Int.cast_ofNat_Int, Int.natCast_nonneg, Try.results43]
          exact ⟨[], by simp, by simp, by simp [renV, renVs, renSegs, renSg, e], hfin, by simp⟩
        · obtain ⟨K, rfl⟩ : ∃ K : Nat, k = K := ⟨k.toNat, by omega⟩
          have tK : (K : Int).toNat = K := by omega
          have hnk : (N : Int) * K = ((N * K : Nat) : Int) := by rw [Int.natCast_mul]
          have hNK : N * K ≤ 100 := Nat.le_trans (Nat.mul_le_mul hN (show K ≤ 10 by omega)) (by decide)
          have wnk : IntKind.i64.wrap ((N : Int) * K) = ((N * K : Nat) : Int) := by rw [hnk]; exact wrap_i64n (by omega)
          by_cases hbig : (10 : Int) < ((N * K : Nat) : Int)
          · have e := hcode 3 (by simp only [extC, h1, tN, hcc', hlp]; simp; rw [hnk]; exact hbig) (by decide)
            simp only [absE, absL, absF, reduceCtorEq, ↓reduceIte, Nat.reduceEqDiff, Nat.reduceAdd, Nat.reduceLT, Nat.reduceMul, Nat.reduceSub, Nat.reduceLeDiff, Int.reduceLT, Int.reduceLE, Int.reduceEq, Option.isSome_some, implies_true, false_implies, Prod.mk.injEq, ne_eq, not_false_eq_true, not_true_eq_false, ge_iff_le, gt_iff_lt, Int.toNat_natCast, Int.reduceToNat, Int.cast_ofNat_Int, Int.natCast_nonneg, wnk, hbig, Try.results43]
            exact ⟨[], by simp, by simp, by simp [renV, renVs, renSegs, renSg, e], hfin, by simp⟩
          · have hF : ExtF N t K LL := ⟨hs, by omega, by omega, hcoc⟩
            have e : extR N t K LL = .tup [.agg (sqS ((N * K : Nat) : Int) (mkT (extV t K LL) (N * K) (N * K))), .i .i64 0] := by
              have hc : extC N t K LL = 0 := by simp only [extC, h1, tN, hcc', hlp]; simp; rw [hnk]; omega
              unfold extR; rw [resSq0 hc, hnk, tN, tK]
            have w8 := wrap_u8n (show K < 256 by omega)
            simp only [absE, absL, absF, reduceCtorEq, ↓reduceIte, Nat.reduceEqDiff, Nat.reduceAdd, Nat.reduceLT, Nat.reduceMul, Nat.reduceSub, Nat.reduceLeDiff, Int.reduceLT, Int.reduceLE, Int.reduceEq, Option.isSome_some, implies_true, false_implies, Prod.mk.injEq, ne_eq, not_false_eq_true, not_true_eq_false, ge_iff_le, gt_iff_lt, Int.toNat_natCast, Int.reduceToNat, Int.cast_ofNat_Int, Int.natCast_nonneg, wnk, hbig, w8]
            refine CallsVia.cellRow (pre := [(32, .lv true [(0, .ints .u8 1 [(K : Int)])]), (1, .lv true (sqS N t))]) (b := 2) (LL := LL) (by decide) (by simp) (by simp) (by simp) (by simp [assoc]) (fun _ => rfl) rfl rfl (fun _ => rfl)
              (madeG_ok (N * K) hF.nk 82 (extV t K LL) [(0, 0, 0, 0), (0, 1, 0, 0), (0, 2, 0, 0)] (msE [.lv true [(0, .ints .u8 1 [(K : Int)])], .lv true (sqS N t)] LL) (msE_live (by simp)) (msE_st fun _ => rfl) (fun σ hσ => by simp [renCaps, hσ 0 (by rw [msE_len]; simp; omega), hσ 1 (by rw [msE_len]; simp; omega), hσ 2 (by rw [msE_len]; simp; omega)]) (fun σ hσ => by simp [capArgs, renVs, renV, renAt, hσ 0 (by rw [msE_len]; simp; omega), hσ 1 (by rw [msE_len]; simp; omega), hσ 2 (by rw [msE_len]; simp; omega)]) fun a b ha hb => ext1_ok N t K LL ht hF a b ha hb) ?_
            intro ups rd hu
            simp only [hu, List.map_nil, List.map_cons, List.reverse_nil, List.reverse_cons, List.nil_append, List.cons_append]
            simp only [absE, absL, absF, reduceCtorEq, ↓reduceIte, Nat.reduceEqDiff, Nat.reduceAdd, Nat.reduceLT, Nat.reduceMul, Nat.reduceSub, Nat.reduceLeDiff, Int.reduceLT, Int.reduceLE, Int.reduceEq, Option.isSome_some, implies_true, false_implies, Prod.mk.injEq, ne_eq, not_false_eq_true, not_true_eq_false, ge_iff_le, gt_iff_lt, Int.toNat_natCast, Int.reduceToNat, Int.cast_ofNat_Int, Int.natCast_nonneg, Try.results43]
            exact ⟨[], by simp, by simp, by simp [renV, renVs, renSegs, renSg, e], hfin, by simp⟩
    · have hcc : (decide (1 ≤ k ∧ k ≤ 10) && cocB N k LL) = false := by rw [decide_eq_false hk10, Bool.false_and]
      have e := hcode 2 (by simp only [extC, h1, tN, hcc]; simp) (by decide)
      simp only [absE, absL, absF, reduceCtorEq, ↓reduceIte, Nat.reduceEqDiff, Nat.reduceAdd, Nat.reduceLT, Nat.reduceMul, Nat.reduceSub, Nat.reduceLeDiff, Int.reduceLT, Int.reduceLE, Int.reduceEq, Option.isSome_some, implies_true, false_implies, Prod.mk.injEq, ne_eq, not_false_eq_true, not_true_eq_false, ge_iff_le, gt_iff_lt, Int.toNat_natCast, Int.reduceToNat, Int.cast_ofNat_Int, Int.natCast_nonneg, hk10, Try.results43]
      exact ⟨[], by simp, by simp, by simp [renV, renVs, renSegs, renSg, e], hfin, by simp⟩
theorem specExt_ok (n : Int) (t : List Int) (k : Int) (LL : LLs) (ht : Bytes 100 t) (hk : -2 ^ 63 ≤ k ∧ k < 2 ^ 63) (hl : ∀ i, i < LL.length → (at_ LL i).length ≤ 2 ^ 20) (hm : LL.length ≤ 2 ^ 20) :
    ACalls Try.prog 41 [.agg (sqS n t), .i .i64 k, .ref (.sl 0 0 0 0 LL.length 1)] (ms1 LL) (fun v ms ns => v = extR n t k LL ∧ ms = ms1 LL ∧ ns = []) := by
  have g0 := ms1_0 (LL := LL)
  have hst : ∀ σ : Pairs, (ms1 LL).map (renBlk (renTo σ)) = ms1 LL := fun σ => ms1_ren renTo_zero
  have hfin : (ms1 LL).map (renBlk (renFin [])) = ms1 LL := ms1_ren renFin_zero
  have hcode : ∀ c, extC n t k LL = c → c ≠ 0 → extR n t k LL = .tup [.agg (sqS 0 (List.replicate 100 0)), .i .i64 c] := fun c hc h0 => by unfold extR; rw [hc, resSqN h0]
  have hstv : StVs (ms1 LL) [.agg (sqS n t), .i .i64 k, .ref (.sl 0 0 0 0 LL.length 1)] := fun σ hσ => by simp [renVs, renV, renAt, renSegs, renSg, hσ 0 (by rw [ms1_len]; omega)]
  have hstv2 : StVs (ms1 LL) [.i .i64 n, .i .i64 k, .ref (.sl 0 0 0 0 LL.length 1)] := fun σ hσ => by simp [renVs, renV, renAt, renSegs, renSg, hσ 0 (by rw [ms1_len]; omega)]
  refine acalls_of_body mix Try.func41 rfl fok41 (Nat.le_of_ble_eq_true rfl) ?_
  unfold abody
  simp only [absE, absL, absF, reduceCtorEq, ↓reduceIte, Nat.reduceEqDiff, Nat.reduceAdd, Nat.reduceLT, Nat.reduceMul, Nat.reduceSub, Nat.reduceLeDiff, Int.reduceLT, Int.reduceLE, Int.reduceEq, Option.isSome_some, implies_true, false_implies, Prod.mk.injEq, ne_eq, not_false_eq_true, not_true_eq_false, ge_iff_le, gt_iff_lt, Int.toNat_natCast, Int.reduceToNat, Int.cast_ofNat_Int, Int.natCast_nonneg, Try.f41]
  refine CallsVia.none (l01Is_ok n t ht) ?_
  rintro _ _ _ ⟨rfl, rfl, rfl⟩
  cases h1 : sqB n t
  · have e := hcode 1 (by simp [extC, h1]) (by decide)
    simp only [absE, absL, absF, reduceCtorEq, ↓reduceIte, Nat.reduceEqDiff, Nat.reduceAdd, Nat.reduceLT, Nat.reduceMul, Nat.reduceSub, Nat.reduceLeDiff, Int.reduceLT, Int.reduceLE, Int.reduceEq, Option.isSome_some, implies_true, false_implies, Prod.mk.injEq, ne_eq, not_false_eq_true, not_true_eq_false, ge_iff_le, gt_iff_lt, Int.toNat_natCast, Int.reduceToNat, Int.cast_ofNat_Int, Int.natCast_nonneg, Try.results41]
    exact ⟨[], by simp, by simp, by simp [renV, renVs, renSegs, renSg, e], hfin, by simp⟩
  · have hs := sqB_iff.1 h1
    obtain ⟨N, rfl⟩ : ∃ N : Nat, n = N := ⟨n.toNat, by have := hs.1; omega⟩
    have hN := hs.le
    have tN : (N : Int).toNat = N := by omega
    simp only [absE, absL, absF, reduceCtorEq, ↓reduceIte, Nat.reduceEqDiff, Nat.reduceAdd, Nat.reduceLT, Nat.reduceMul, Nat.reduceSub, Nat.reduceLeDiff, Int.reduceLT, Int.reduceLE, Int.reduceEq, Option.isSome_some, implies_true, false_implies, Prod.mk.injEq, ne_eq, not_false_eq_true, not_true_eq_false, ge_iff_le, gt_iff_lt, Int.toNat_natCast, Int.reduceToNat, Int.cast_ofNat_Int, Int.natCast_nonneg]
    refine CallsVia.allV ms1_live ms1_st hstv2 (fun _ => rfl) (l08Cocycle_ok N k LL hN hm) ?_
    intro ups1 rd1 hu1
    simp only [hu1]
    cases hcc : (decide (1 ≤ k ∧ k ≤ 10) && cocB N k LL)
    · have e := hcode 2 (by simp only [extC, h1, tN, hcc]; simp) (by decide)
      simp only [absE, absL, absF, reduceCtorEq, ↓reduceIte, Nat.reduceEqDiff, Nat.reduceAdd, Nat.reduceLT, Nat.reduceMul, Nat.reduceSub, Nat.reduceLeDiff, Int.reduceLT, Int.reduceLE, Int.reduceEq, Option.isSome_some, implies_true, false_implies, Prod.mk.injEq, ne_eq, not_false_eq_true, not_true_eq_false, ge_iff_le, gt_iff_lt, Int.toNat_natCast, Int.reduceToNat, Int.cast_ofNat_Int, Int.natCast_nonneg, Try.results41]
      exact ⟨[], by simp, by simp, by simp [renV, renVs, renSegs, renSg, e], hfin, by simp⟩
    · have hcc' := hcc
      rw [Bool.and_eq_true] at hcc
      have hk10 := of_decide_eq_true hcc.1
      have hcoc := cocB_iff.1 hcc.2
      simp only [absE, absL, absF, reduceCtorEq, ↓reduceIte, Nat.reduceEqDiff, Nat.reduceAdd, Nat.reduceLT, Nat.reduceMul, Nat.reduceSub, Nat.reduceLeDiff, Int.reduceLT, Int.reduceLE, Int.reduceEq, Option.isSome_some, implies_true, false_implies, Prod.mk.injEq, ne_eq, not_false_eq_true, not_true_eq_false, ge_iff_le, gt_iff_lt, Int.toNat_natCast, Int.reduceToNat, Int.cast_ofNat_Int, Int.natCast_nonneg]
      refine CallsVia.none (l01Loop_ok N t ht) ?_
      rintro _ _ _ ⟨rfl, rfl, rfl⟩
      cases hlp : loopB N t
      · have e := hcode 5 (by simp only [extC, h1, tN, hcc', hlp]; simp) (by decide)
        simp only [absE, absL, absF, reduceCtorEq, ↓reduceIte, Nat.reduceEqDiff, Nat.reduceAdd, Nat.reduceLT, Nat.reduceMul, Nat.reduceSub, Nat.reduceLeDiff, Int.reduceLT, Int.reduceLE, Int.reduceEq, Option.isSome_some, implies_true, false_implies, Prod.mk.injEq, ne_eq, not_false_eq_true, not_true_eq_false, ge_iff_le, gt_iff_lt, Int.toNat_natCast, Int.reduceToNat, Int.cast_ofNat_Int, Int.natCast_nonneg, Try.results41]
        exact ⟨[], by simp, by simp, by simp [renV, renVs, renSegs, renSg, e], hfin, by simp⟩
      · obtain ⟨K, rfl⟩ : ∃ K : Nat, k = K := ⟨k.toNat, by omega⟩
        have tK : (K : Int).toNat = K := by omega
        have hnk : (N : Int) * K = ((N * K : Nat) : Int) := by rw [Int.natCast_mul]
        have hNK : N * K ≤ 100 := Nat.le_trans (Nat.mul_le_mul hN (show K ≤ 10 by omega)) (by decide)
        have wnk : IntKind.i64.wrap ((N : Int) * K) = ((N * K : Nat) : Int) := by rw [hnk]; exact wrap_i64n (by omega)
        by_cases hbig : (10 : Int) < ((N * K : Nat) : Int)
        · have e := hcode 3 (by simp only [extC, h1, tN, hcc', hlp]; simp; rw [hnk]; exact hbig) (by decide)
          simp only [absE, absL, absF, reduceCtorEq, ↓reduceIte, Nat.reduceEqDiff, Nat.reduceAdd, Nat.reduceLT, Nat.reduceMul, Nat.reduceSub, Nat.reduceLeDiff, Int.reduceLT, Int.reduceLE, Int.reduceEq, Option.isSome_some, implies_true, false_implies, Prod.mk.injEq, ne_eq, not_false_eq_true, not_true_eq_false, ge_iff_le, gt_iff_lt, Int.toNat_natCast, Int.reduceToNat, Int.cast_ofNat_Int, Int.natCast_nonneg, wnk, hbig, Try.results41]
          exact ⟨[], by simp, by simp, by simp [renV, renVs, renSegs, renSg, e], hfin, by simp⟩
        · have hF : ExtF N t K LL := ⟨hs, by omega, by omega, hcoc⟩
          have e : extR N t K LL = .tup [.agg (sqS ((N * K : Nat) : Int) (mkT (extV t K LL) (N * K) (N * K))), .i .i64 0] := by
            have hc : extC N t K LL = 0 := by simp only [extC, h1, tN, hcc', hlp]; simp; rw [hnk]; omega
            unfold extR; rw [resSq0 hc, hnk, tN, tK]
          have k0 : ¬(K : Int) = 0 := by omega
          simp only [absE, absL, absF, reduceCtorEq, ↓reduceIte, Nat.reduceEqDiff, Nat.reduceAdd, Nat.reduceLT, Nat.reduceMul, Nat.reduceSub, Nat.reduceLeDiff, Int.reduceLT, Int.reduceLE, Int.reduceEq, Option.isSome_some, implies_true, false_implies, Prod.mk.injEq, ne_eq, not_false_eq_true, not_true_eq_false, ge_iff_le, gt_iff_lt, Int.toNat_natCast, Int.reduceToNat, Int.cast_ofNat_Int, Int.natCast_nonneg, wnk, hbig]
          refine awpLoop.intro (fun x : Nat => [(1, .i .i64 K), (2, .ref (.sl 0 0 0 0 LL.length 1)), (3, .ref (.ptr 1 0 0 0)), (6, .ref (.ptr 2 0 0 0)), (8, .ref (.ptr 30 0 0 0)), (9, .i .i64 x)]) (fun x => ⟨ms1 LL, [((1, 0), .lv true (sqS N t)), ((2, 0), .lv true (sqS 0 (List.replicate 100 0))), ((30, 0), .lv true (sqS ((N * K : Nat) : Int) (mkT (extV t K LL) (N * K) x)))], 33⟩)
            (fun x => x ≤ N * K) (fun x => N * K - x) 0 (by omega) ⟨[((1,0),(1,0)), ((2,0),(2,0)), ((30,0),(30,0))], rfl, ?_, ?_⟩ ?_
          · simp [wkEnv, lk, renV, renAt, renTo]
          · simp only [wkMem, hst]; simp [wkLoc, Mem.get, assoc, renBlk, renSegs, renSg, mkT]
          · intro x hx
            by_cases h : (x : Int) < ((N * K : Nat) : Int)
            · have w := wrap_i64s (show x < 2 ^ 62 by omega)
              simp only [absE, absL, absF, reduceCtorEq, ↓reduceIte, Nat.reduceEqDiff, Nat.reduceAdd, Nat.reduceLT, Nat.reduceMul, Nat.reduceSub, Nat.reduceLeDiff, Int.reduceLT, Int.reduceLE, Int.reduceEq, Option.isSome_some, implies_true, false_implies, Prod.mk.injEq, ne_eq, not_false_eq_true, not_true_eq_false, ge_iff_le, gt_iff_lt, Int.toNat_natCast, Int.reduceToNat, Int.cast_ofNat_Int, Int.natCast_nonneg, h]
              refine awpLoop.intro (fun y : Nat => [(1, .i .i64 K), (2, .ref (.sl 0 0 0 0 LL.length 1)), (3, .ref (.ptr 1 0 0 0)), (6, .ref (.ptr 2 0 0 0)), (8, .ref (.ptr 30 0 0 0)), (9, .i .i64 x), (10, .i .i64 y)]) (fun y => ⟨ms1 LL, [((1, 0), .lv true (sqS N t)), ((2, 0), .lv true (sqS 0 (List.replicate 100 0))), ((30, 0), .lv true (sqS ((N * K : Nat) : Int) (mkIn (extV t K LL) x (mkT (extV t K LL) (N * K) x) y)))], 38⟩)
                (fun y => y ≤ N * K) (fun y => N * K - y) 0 (by omega) ⟨[((1,0),(1,0)), ((2,0),(2,0)), ((30,0),(30,0))], rfl, ?_, ?_⟩ ?_
              · simp [wkEnv, lk, renV, renAt, renTo]
              · simp only [wkMem, hst]; simp [wkLoc, Mem.get, assoc, renBlk, renSegs, renSg, mkIn]
              · intro y hy
                by_cases h' : (y : Int) < ((N * K : Nat) : Int)
                · have w' := wrap_i64s (show y < 2 ^ 62 by omega)
                  have hX := div_lt' (show x < N * K by omega)
                  have hY := div_lt' (show y < N * K by omega)
                  have hlen : LL.length = N := hcoc.1
                  have d1 := (Int.ofNat_tdiv x K).symm
                  have d2 := (Int.ofNat_tdiv y K).symm
                  have m1 := (Int.ofNat_tmod x K).symm
                  have m2 := (Int.ofNat_tmod y K).symm
                  have w1 := wrap_i64n (show x / K < 2 ^ 62 by omega)
                  have w2 := wrap_i64n (show y / K < 2 ^ 62 by omega)
                  have mx := Nat.mod_lt x (show 0 < K by omega)
                  have my := Nat.mod_lt y (show 0 < K by omega)
                  obtain ⟨hc, ec⟩ := hF.cvl hX hY
                  have hlt := hF.lt (show x < N * K by omega) (show y < N * K by omega)
                  have hcl := hs.cl_lt hX hY
                  have hmul : K * cl t (x / K) (y / K) ≤ 100 := Nat.le_trans (Nat.mul_le_mul (show K ≤ 10 by omega) (show cl t (x / K) (y / K) ≤ 10 by omega)) (by decide)
                  have wc := wrap_i64n (show cl t (x / K) (y / K) < 2 ^ 62 by omega)
                  have w3 : IntKind.i64.wrap ((K : Int) * (cl t (x / K) (y / K) : Nat)) = ((K * cl t (x / K) (y / K) : Nat) : Int) := by rw [← Int.natCast_mul]; exact wrap_i64n (by omega)
                  have w4 : IntKind.i64.wrap (((x % K : Nat) : Int) + ((y % K : Nat) : Int)) = ((x % K + y % K : Nat) : Int) := by rw [← Int.natCast_add]; exact wrap_i64n (by omega)
                  have w6 : IntKind.i64.wrap (((x % K + y % K : Nat) : Int) + (cv LL (x / K) (y / K) : Nat)) = ((x % K + y % K + cv LL (x / K) (y / K) : Nat) : Int) := by rw [← Int.natCast_add]; exact wrap_i64n (by omega)
                  have m3 := (Int.ofNat_tmod (x % K + y % K + cv LL (x / K) (y / K)) K).symm
                  have w7 : IntKind.i64.wrap (((K * cl t (x / K) (y / K) : Nat) : Int) + (((x % K + y % K + cv LL (x / K) (y / K)) % K : Nat) : Int)) = ((extV t K LL x y : Nat) : Int) := by
                    rw [← Int.natCast_add]; exact wrap_i64n (show extV t K LL x y < 2 ^ 62 by omega)
                  have w8 := wrap_u8n (show extV t K LL x y < 256 by omega)
                  have ez : (mkIn (extV t K LL) x (mkT (extV t K LL) (N * K) x) y).set (0 + x * 10 + y * 1) ((extV t K LL x y : Nat) : Int) = mkIn (extV t K LL) x (mkT (extV t K LL) (N * K) x) (y + 1) := rfl
                  generalize extV t K LL x y = V at w7 w8 ez hlt
                  generalize hi : x / K = i at *
                  generalize hj : y / K = j at *
                  have hil : i < LL.length := by omega
                  have q1 : (ms1 LL).getD (1 + i) .dead = .lv true [(0, .ints .i64 (at_ LL i).length (at_ LL i))] := ms1_at hil
                  have e1 : (outs 0 1 LL).getD (0 + i * 1) .top = .sl 0 (1 + i) 0 0 (at_ LL i).length 1 := by rw [Nat.zero_add, Nat.mul_one]; exact outs_get hil
                  have lr := (hcoc.2 i hX).1
                  have e2 : (at_ LL i).getD (0 + j * 1) 0 = ((cv LL i j : Nat) : Int) := by rw [Nat.zero_add, Nat.mul_one]; exact ec
                  have i1 : (i : Int) < LL.length := by omega
                  have i2 : (j : Int) < (at_ LL i).length := by omega
                  have i3 : (i : Int) < 10 := by omega
                  have i4 : (j : Int) < 10 := by omega
                  have i5 : (x : Int) < 10 := by omega
                  have i6 : (y : Int) < 10 := by omega
                  have v1 : 0 + i * 1 < LL.length := by omega
                  have v2 : 0 + j * 1 < (at_ LL i).length := by omega
                  have u1 : 0 + i * 10 + j * 1 < 100 := by omega
                  have u2 : 0 + x * 10 + y * 1 + 1 ≤ 100 := by omega
                  have kq := sq_colget ht i j
                  simp only [absE, absL, absF, reduceCtorEq, ↓reduceIte, Nat.reduceEqDiff, Nat.reduceAdd, Nat.reduceLT, Nat.reduceMul, Nat.reduceSub, Nat.reduceLeDiff, Int.reduceLT, Int.reduceLE, Int.reduceEq, Option.isSome_some, implies_true, false_implies, Prod.mk.injEq, ne_eq, not_false_eq_true, not_true_eq_false, ge_iff_le, gt_iff_lt, Int.toNat_natCast, Int.reduceToNat, Int.cast_ofNat_Int, Int.natCast_nonneg, h', g0, k0, d1, d2, m1, m2, m3, hi, hj, w1, w2, w3, w4, wc, w6, w7, w8, i1, i2, i3, i4, i5, i6, v1, v2, u1, u2, kq, q1, e1, e2, ez]
                  repeat refine And.intro (by decide +kernel) ?_
                  refine LoopNext.intro (y + 1) (by omega) (by omega) ⟨[((1,0),(1,0)), ((2,0),(2,0)), ((30,0),(30,0))], rfl, ?_, ?_⟩
                  · simp [wkEnv, lk, renV, renAt, renTo, w']
                  · simp only [wkMem, hst]; simp [wkLoc, Mem.get, assoc, renBlk, renSegs, renSg]
                · obtain rfl : y = N * K := by omega
                  simp only [absE, absL, absF, reduceCtorEq, ↓reduceIte, Nat.reduceEqDiff, Nat.reduceAdd, Nat.reduceLT, Nat.reduceMul, Nat.reduceSub, Nat.reduceLeDiff, Int.reduceLT, Int.reduceLE, Int.reduceEq, Option.isSome_some, implies_true, false_implies, Prod.mk.injEq, ne_eq, not_false_eq_true, not_true_eq_false, ge_iff_le, gt_iff_lt, Int.toNat_natCast, Int.reduceToNat, Int.cast_ofNat_Int, Int.natCast_nonneg, h']
                  refine LoopNext.intro (x + 1) (by omega) (by omega) ⟨[((1,0),(1,0)), ((2,0),(2,0)), ((30,0),(30,0))], rfl, ?_, ?_⟩
                  · simp [wkEnv, lk, renV, renAt, renTo, w]
                  · simp only [wkMem, hst]; simp [wkLoc, Mem.get, assoc, renBlk, renSegs, renSg, mkT]
            · obtain rfl : x = N * K := by omega
              simp only [absE, absL, absF, reduceCtorEq, ↓reduceIte, Nat.reduceEqDiff, Nat.reduceAdd, Nat.reduceLT, Nat.reduceMul, Nat.reduceSub, Nat.reduceLeDiff, Int.reduceLT, Int.reduceLE, Int.reduceEq, Option.isSome_some, implies_true, false_implies, Prod.mk.injEq, ne_eq, not_false_eq_true, not_true_eq_false, ge_iff_le, gt_iff_lt, Int.toNat_natCast, Int.reduceToNat, Int.cast_ofNat_Int, Int.natCast_nonneg, h, Try.results41]
              exact ⟨[], by simp, by simp, by simp [renV, renVs, renSegs, renSg, e], hfin, by simp⟩

end Go.Proofs.Ytcaadjjgggjefaa
