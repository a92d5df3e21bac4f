/-
Contracts of functions of the given program, by the abstract walk.
-/
import Derived.Test.YtjmenocghjggcaaAbsY
import Derived.Test.YtjmenocghjggcaaOi
import Derived.Test.YtjmenocghjggcaaDo
import Derived.Test.YtjmenocghjggcaaDc
import Derived.Test.YtjmenocghjggcaaOe
namespace Go.Proofs.Ytjmenocghjggcaa
open Go Go.Abs
set_option linter.unusedVariables false
set_option linter.unusedSectionVars false
set_option linter.unusedSimpArgs false
set_option maxRecDepth 100000
/-! mates: the search for transversals, behind the first place -/
def fiA (N : Nat) (t p : List Int) (B : Blk) : List Blk := [.lv true (sqS N t), .lv true [(0, .cells 1 [.fn 45 [(0, 4, 0, 0)]])], .lv true (plS p), .lv true [(0, .cells 1 [.fn 75 [(0, 0, 0, 0), (0, 1, 0, 0), (0, 2, 0, 0), (0, 3, 0, 0)]])], B]
def FR0 (N : Nat) (t p : List Int) (LF : List (List (List Int))) (L' : List (List Int)) (v : AV) (xs0 ns : List Blk) : Prop :=
  v = .b false ∧ ((L' = [] ∧ xs0 = fiA N t p (byC 5 LF .nils) ∧ ns = []) ∨ (L' ≠ [] ∧ xs0 = fiA N t p (byC 5 LF (.sl 1 0 0 0 L'.length 10)) ∧ ns = [plB L']))
def FR1 (N : Nat) (t p : List Int) (LF : List (List (List Int))) (L L' : List (List Int)) (v : AV) (xs0 ns : List Blk) : Prop :=
  v = .b false ∧ ((L' = L ∧ xs0 = fiA N t p (byC 6 LF (.sl 0 5 0 0 L.length 10)) ++ [plB L] ∧ ns = []) ∨ (L' ≠ [] ∧ xs0 = fiA N t p (byC 6 LF (.sl 1 0 0 0 L'.length 10)) ++ [.dead] ∧ ns = [plB L']))
theorem ren_dead {σ : Ren} : renBlk σ .dead = .dead := rfl
theorem sqB_ren {σ : Ren} {N : Nat} {t : List Int} : renBlk σ (.lv true (sqS N t)) = .lv true (sqS N t) := rfl
theorem plSB_ren {σ : Ren} {p : List Int} : renBlk σ (.lv true (plS p)) = .lv true (plS p) := rfl
theorem cell_ren {σ : Ren} {n : Nat} {f : FuncId} {c : List (Nat × Nat × Nat × Nat)} : renBlk σ (.lv true [(0, .cells n [.fn f c])]) = .lv true [(0, .cells n [renAt σ (.fn f c)])] := rfl
theorem byC_to {b : Nat} {LF : List (List (List Int))} {A : Atom} {σ : Pairs} : renBlk (renTo σ) (byC b LF A) = byC b LF (renAt (renTo σ) A) := byC_ren fun i _ => renTo_zero _
theorem byC_fin {b : Nat} {LF : List (List (List Int))} {A : Atom} {keep : List Abs.Id} : renBlk (renFin keep) (byC b LF A) = byC b LF (renAt (renFin keep) A) := byC_ren fun i _ => renFin_zero _
theorem byC_in {F0 : List Abs.Id} {b bf : Nat} {LF : List (List (List Int))} {A : Atom} (hb : F0.length = bf) (hF : ∀ p ∈ F0, ¬(p.1 = 0 ∧ b ≤ p.2)) : renBlk (renIn (F0 ++ srcs 0 b (blksF LF).length)) (byC b LF A) = byC bf LF (renAt (renIn (F0 ++ srcs 0 b (blksF LF).length)) A) := byC_ren fun i hi => tail_in hb hF hi
theorem byC_out {F0 : List Abs.Id} {n b bf : Nat} {LF : List (List (List Int))} {A : Atom} (hb : F0.length = bf) : renBlk (renOut n (F0 ++ srcs 0 b (blksF LF).length)) (byC bf LF A) = byC b LF (renAt (renOut n (F0 ++ srcs 0 b (blksF LF).length)) A) := byC_ren fun i hi => tail_out hb hi
theorem set_zero {p : List Int} {d : Nat} (h : p.getD d 0 = 0) : p.set d 0 = p := by
  refine ext_getD (by simp) fun i hi => ?_
  by_cases hd : d < p.length
  · rw [getD_set_int hd]
    split
    · rename_i e; rw [← e, h]
    · rfl
  · rw [List.set_eq_of_length_le (by omega)]
theorem fill0_base (N : Nat) (t : List Int) (ht : Bytes 100 t) (hs : SqP N t) (y : Nat) (LF : List (List (List Int))) (hLF : LF.length = y) (hy : y < N) (p : List Int) (u m : List Bool) (U V : Nat) (hp : PlOk N p) (h0 : p.getD 0 0 = y) :
    ACalls Try.prog 75 [.i .u8 ((N : Nat) : Int), .i .i64 U, .i .i64 V, .ref (.ptr 0 0 0 0), .ref (.ptr 0 1 0 0), .ref (.ptr 0 2 0 0), .ref (.ptr 0 3 0 0)] (fiA N t p (byC 5 LF .nils) ++ blksF LF)
      (fun v xs ns => ∃ xs0, xs = xs0 ++ blksF LF ∧ xs0.length = 5 ∧ FR0 N t p LF (srA N (cl t) lmT 0 p u m []) v xs0 ns) := by
  have hN := hs.le
  have hl1 : p.length = 10 := hp.1
  have hy10 : y < 10 := by omega
  have wN := wrap_i64n (show N < 2 ^ 62 by omega)
  unfold fiA
  refine acalls_of_body mix Try.func75 rfl fok75 (Nat.le_of_ble_eq_true rfl) ?_
  unfold abody
  simp only [absE, absL, absF, reduceCtorEq, ↓reduceIte, Nat.reduceEqDiff, Nat.reduceAdd, Nat.reduceLT, Nat.reduceMul, Nat.reduceSub, Nat.reduceLeDiff, Int.reduceLT, Int.reduceLE, Int.reduceEq, Option.isSome_some, implies_true, false_implies, Prod.mk.injEq, ne_eq, not_false_eq_true, not_true_eq_false, ge_iff_le, gt_iff_lt, Int.toNat_natCast, Int.reduceToNat, Int.cast_ofNat_Int, Int.natCast_nonneg, List.cons_append, List.nil_append, List.getD_cons_zero, List.getD_cons_succ, wN, Try.f75]
  refine CallsVia.tail (aP := [.lv true (sqS N t), .lv true [(0, .cells 1 [.fn 45 [(0, 4, 0, 0)]])], .lv true (plS p), .lv true [(0, .cells 1 [.fn 75 [(0, 0, 0, 0), (0, 1, 0, 0), (0, 2, 0, 0), (0, 3, 0, 0)]])], byC 5 LF .nils]) (b := 5) (bf := 1) [(0, 4)] rfl rfl (by simp) (by simp) (fun σ => blksF_ren) blksF_live (by simp [Mem.get, byC, plB]) (sort0_ok p y LF hl1 hy10 hLF h0) ?_ ?_ ?_
  · simp [renVs, renV, renAt, renIn, idx, renSegs, renSg]
  · have e := byC_in (F0 := [(0, 4)]) (b := 5) (bf := 1) (LF := LF) (A := .nils) rfl (by simp)
    simp only [List.cons_append, List.nil_append] at e
    simp only [List.map_cons, List.map_nil, Mem.get, if_true, List.cons_append, List.nil_append, List.getD_cons_zero, List.getD_cons_succ, plB_ren, e]
    simp [renAt, renIn, idx]
  · rintro r xs0 ns ⟨rfl, rfl, rfl⟩ hx0 ups rd hu
    have e := byC_out (F0 := [(0, 4)]) (n := 9) (b := 5) (bf := 1) (LF := LF) (A := .sl 1 0 0 0 1 10) rfl
    simp only [List.cons_append, List.nil_append, renAt, renOut] at e
    have h9 : ¬ (9 : Nat) = 0 := by decide
    simp only [zipUps, newUps, plB_ren, e, ren_dead, Mem.upd, Mem.put, if_true, h9, if_false, List.cons_append, List.nil_append, List.set_cons_zero, List.set_cons_succ, List.getElem?_cons_zero, List.getElem?_cons_succ] at hu
    simp only [hu]
    simp only [absE, absL, absF, reduceCtorEq, ↓reduceIte, Nat.reduceEqDiff, Nat.reduceAdd, Nat.reduceLT, Nat.reduceMul, Nat.reduceSub, Nat.reduceLeDiff, Int.reduceLT, Int.reduceLE, Int.reduceEq, Option.isSome_some, implies_true, false_implies, Prod.mk.injEq, ne_eq, not_false_eq_true, not_true_eq_false, ge_iff_le, gt_iff_lt, Int.toNat_natCast, Int.reduceToNat, Int.cast_ofNat_Int, Int.natCast_nonneg, Try.results75]
    refine ⟨[(9, 0)], by simp, by simp, fiA N t p (byC 5 LF (.sl 1 0 0 0 1 10)), ?_, rfl, by simp [renV], .inr ⟨by simp [srA], rfl, by simp [srA, Mem.get, assoc, plB_ren]⟩⟩
    simp only [List.map_cons, byC_fin, blksF_ren, srA]
    simp [renBlk, renSegs, renSg, renAt, renFin, renCaps, idx, fiA, srA]
theorem fill1_base (N : Nat) (t : List Int) (ht : Bytes 100 t) (hs : SqP N t) (y : Nat) (LF : List (List (List Int))) (hLF : LF.length = y) (hy : y < N) (p : List Int) (u m : List Bool) (U V : Nat) (L : List (List Int)) (hL : L.length ≤ 1000000) (hp : PlOk N p) (h0 : p.getD 0 0 = y) :
    ACalls Try.prog 75 [.i .u8 ((N : Nat) : Int), .i .i64 U, .i .i64 V, .ref (.ptr 0 0 0 0), .ref (.ptr 0 1 0 0), .ref (.ptr 0 2 0 0), .ref (.ptr 0 3 0 0)] ((fiA N t p (byC 6 LF (.sl 0 5 0 0 L.length 10)) ++ [plB L]) ++ blksF LF)
      (fun v xs ns => ∃ xs0, xs = xs0 ++ blksF LF ∧ xs0.length = 6 ∧ FR1 N t p LF L (srA N (cl t) lmT 0 p u m L) v xs0 ns) := by
  have hN := hs.le
  have hl1 : p.length = 10 := hp.1
  have hy10 : y < 10 := by omega
  have wN := wrap_i64n (show N < 2 ^ 62 by omega)
  unfold fiA
  refine acalls_of_body mix Try.func75 rfl fok75 (Nat.le_of_ble_eq_true rfl) ?_
  unfold abody
  simp only [absE, absL, absF, reduceCtorEq, ↓reduceIte, Nat.reduceEqDiff, Nat.reduceAdd, Nat.reduceLT, Nat.reduceMul, Nat.reduceSub, Nat.reduceLeDiff, Int.reduceLT, Int.reduceLE, Int.reduceEq, Option.isSome_some, implies_true, false_implies, Prod.mk.injEq, ne_eq, not_false_eq_true, not_true_eq_false, ge_iff_le, gt_iff_lt, Int.toNat_natCast, Int.reduceToNat, Int.cast_ofNat_Int, Int.natCast_nonneg, List.cons_append, List.nil_append, List.getD_cons_zero, List.getD_cons_succ, wN, Try.f75]
  refine CallsVia.tail (aP := [.lv true (sqS N t), .lv true [(0, .cells 1 [.fn 45 [(0, 4, 0, 0)]])], .lv true (plS p), .lv true [(0, .cells 1 [.fn 75 [(0, 0, 0, 0), (0, 1, 0, 0), (0, 2, 0, 0), (0, 3, 0, 0)]])], byC 6 LF (.sl 0 5 0 0 L.length 10), plB L]) (b := 6) (bf := 2) [(0, 4), (0, 5)] rfl rfl (by simp) (by simp) (fun σ => blksF_ren) blksF_live (by simp [Mem.get, byC, plB]) (sort1_ok p y LF L hL hl1 hy10 hLF h0) ?_ ?_ ?_
  · simp [renVs, renV, renAt, renIn, idx, renSegs, renSg]
  · have e := byC_in (F0 := [(0, 4), (0, 5)]) (b := 6) (bf := 2) (LF := LF) (A := .sl 0 5 0 0 L.length 10) rfl (by simp)
    simp only [List.cons_append, List.nil_append] at e
    simp only [List.map_cons, List.map_nil, Mem.get, if_true, List.cons_append, List.nil_append, List.getD_cons_zero, List.getD_cons_succ, plB_ren, e]
    simp [renAt, renIn, idx]
  · rintro r xs0 ns ⟨rfl, rfl, rfl⟩ hx0 ups rd hu
    have e := byC_out (F0 := [(0, 4), (0, 5)]) (n := 9) (b := 6) (bf := 2) (LF := LF) (A := .sl 1 0 0 0 (L.length + 1) 10) rfl
    simp only [List.cons_append, List.nil_append, renAt, renOut] at e
    have h9 : ¬ (9 : Nat) = 0 := by decide
    simp only [zipUps, newUps, plB_ren, e, ren_dead, Mem.upd, Mem.put, if_true, h9, if_false, List.cons_append, List.nil_append, List.set_cons_zero, List.set_cons_succ, List.getElem?_cons_zero, List.getElem?_cons_succ] at hu
    simp only [hu]
    simp only [absE, absL, absF, reduceCtorEq, ↓reduceIte, Nat.reduceEqDiff, Nat.reduceAdd, Nat.reduceLT, Nat.reduceMul, Nat.reduceSub, Nat.reduceLeDiff, Int.reduceLT, Int.reduceLE, Int.reduceEq, Option.isSome_some, implies_true, false_implies, Prod.mk.injEq, ne_eq, not_false_eq_true, not_true_eq_false, ge_iff_le, gt_iff_lt, Int.toNat_natCast, Int.reduceToNat, Int.cast_ofNat_Int, Int.natCast_nonneg, Try.results75]
    refine ⟨[(9, 0)], by simp, by simp, fiA N t p (byC 6 LF (.sl 1 0 0 0 (L ++ [p]).length 10)) ++ [.dead], ?_, rfl, by simp [renV], .inr ⟨by simp [srA], rfl, by simp [srA, Mem.get, assoc, plB_ren]⟩⟩
    simp only [List.map_cons, byC_fin, blksF_ren, srA]
    simp [renBlk, renSegs, renSg, renAt, renFin, renCaps, idx, fiA, srA]
def cA0 : Bool → List (List Int) → Atom
  | false, _ => .nils
  | true, L => .sl 50 0 0 0 L.length 10
def cA1 : Bool → List (List Int) → Atom
  | false, L => .sl 0 5 0 0 L.length 10
  | true, L => .sl 50 0 0 0 L.length 10
theorem frN_lt {u : List Bool} {x : Nat} : ∀ {N}, x < N → u.getD x false = false → frN u x + 1 ≤ frN u N
  | 0, h, _ => absurd h (by omega)
  | n + 1, h, hu => by
    have e3 : frN u (n + 1) = frN u n + (if u.getD n false = false then 1 else 0) := rfl
    by_cases e : x = n
    · subst e; rw [e3, if_pos hu]; exact Nat.le_refl _
    · have := frN_lt (u := u) (x := x) (N := n) (by omega) hu; omega
set_option maxHeartbeats 8000000 in
theorem fillM_ok (N : Nat) (t : List Int) (ht : Bytes 100 t) (hs : SqP N t) (h8 : N ≤ 8) (y : Nat) (LF : List (List (List Int))) (hLF : LF.length = y) (hy : y < N) : ∀ k, k + 1 ≤ N →
    (∀ (p : List Int) (u m : List Bool) (U V : Nat), PlOk N p → (∀ z, N - k ≤ z → p.getD z 0 = 0) → p.getD 0 0 = y → BitL U u → BitL V m → frN u N ≤ k →
      ACalls Try.prog 75 [.i .u8 ((N - k : Nat) : Int), .i .i64 U, .i .i64 V, .ref (.ptr 0 0 0 0), .ref (.ptr 0 1 0 0), .ref (.ptr 0 2 0 0), .ref (.ptr 0 3 0 0)] (fiA N t p (byC 5 LF .nils) ++ blksF LF) (fun v xs ns => ∃ xs0, xs = xs0 ++ blksF LF ∧ xs0.length = 5 ∧ FR0 N t p LF (srA N (cl t) lmT k p u m []) v xs0 ns)) ∧
    (∀ (p : List Int) (u m : List Bool) (U V : Nat) (L : List (List Int)), PlOk N p → (∀ z, N - k ≤ z → p.getD z 0 = 0) → p.getD 0 0 = y → BitL U u → BitL V m → frN u N ≤ k → L ≠ [] → L.length + fct k ≤ 1000000 →
      ACalls Try.prog 75 [.i .u8 ((N - k : Nat) : Int), .i .i64 U, .i .i64 V, .ref (.ptr 0 0 0 0), .ref (.ptr 0 1 0 0), .ref (.ptr 0 2 0 0), .ref (.ptr 0 3 0 0)] ((fiA N t p (byC 6 LF (.sl 0 5 0 0 L.length 10)) ++ [plB L]) ++ blksF LF) (fun v xs ns => ∃ xs0, xs = xs0 ++ blksF LF ∧ xs0.length = 6 ∧ FR1 N t p LF L (srA N (cl t) lmT k p u m L) v xs0 ns)) := by
  have hN := hs.le
  intro k
  induction k with
  | zero =>
    intro hk
    refine ⟨fun p u m U V hp hp0 h00 hu hv hfr => ?_, fun p u m U V L hp hp0 h00 hu hv hfr hLn hLc => ?_⟩
    · rw [Nat.sub_zero]; exact fill0_base N t ht hs y LF hLF hy p u m U V hp h00
    · rw [Nat.sub_zero]; exact fill1_base N t ht hs y LF hLF hy p u m U V L (by omega) hp h00
  | succ k ih =>
    intro hk
    replace ih := ih (by omega)
    constructor
    · intro p u m U V hp hp0 h00 hu hv hfr
      have hl1 : p.length = 10 := hp.1
      have g1 : ¬((N - (k + 1) : Nat) : Int) = N := by omega
      have wN := wrap_i64n (show N - (k + 1) < 2 ^ 62 by omega)
      have hul : N ≤ u.length := by rw [hu.2.1]; omega
      unfold fiA
      have hdp : 1 ≤ N - (k + 1) := by omega
      generalize hd : N - (k + 1) = d at g1 wN hp0 hdp ⊢
      refine acalls_of_body mix Try.func75 rfl fok75 (Nat.le_of_ble_eq_true rfl) ?_
      unfold abody
      simp only [absE, absL, absF, reduceCtorEq, ↓reduceIte, Nat.reduceEqDiff, Nat.reduceAdd, Nat.reduceLT, Nat.reduceMul, Nat.reduceSub, Nat.reduceLeDiff, Int.reduceLT, Int.reduceLE, Int.reduceEq, Option.isSome_some, implies_true, false_implies, Prod.mk.injEq, ne_eq, not_false_eq_true, not_true_eq_false, ge_iff_le, gt_iff_lt, Int.toNat_natCast, Int.reduceToNat, Int.cast_ofNat_Int, Int.natCast_nonneg, List.getD_cons_zero, List.getD_cons_succ, List.set_cons_zero, List.set_cons_succ, List.cons_append, List.nil_append, g1, wN, Try.f75]
      refine CallsVia.none (elements_ok N t hN) ?_
      rintro _ _ _ ⟨rfl, rfl, rfl⟩
      simp only [absE, absL, absF, reduceCtorEq, ↓reduceIte, Nat.reduceEqDiff, Nat.reduceAdd, Nat.reduceLT, Nat.reduceMul, Nat.reduceSub, Nat.reduceLeDiff, Int.reduceLT, Int.reduceLE, Int.reduceEq, Option.isSome_some, implies_true, false_implies, Prod.mk.injEq, ne_eq, not_false_eq_true, not_true_eq_false, ge_iff_le, gt_iff_lt, Int.toNat_natCast, Int.reduceToNat, Int.cast_ofNat_Int, Int.natCast_nonneg, List.getD_cons_zero, List.getD_cons_succ, List.set_cons_zero, List.set_cons_succ, List.cons_append, List.nil_append]
      have hd10 : d < N := by omega
      have ed : N - k = d + 1 := by omega
      rw [ed] at ih
      have hdi : (d : Int) < 10 := by omega
      have e1 : srA N (cl t) lmT (k + 1) p u m [] = srS (cl t) lmT (srA N (cl t) lmT k) d p u m N [] := by rw [← hd]; rfl
      rw [e1]
      have hlen : ∀ x L, x < N → u.getD x false = false → (srA N (cl t) lmT k (p.set d (x : Int)) (u.set x true) (m.set (cl t d x) true) L).length ≤ L.length + fct k := fun x L hx hux => srA_fr (by rw [List.length_set]; exact hul) (by rw [frN_set (by omega) hux, if_pos hx]; omega)
      have hfrx : ∀ x, x < N → u.getD x false = false → frN (u.set x true) N ≤ k := fun x hx hux => by rw [frN_set (by omega) hux, if_pos hx]; omega
      have hbnd : ∀ x, x < N → u.getD x false = false → (srS (cl t) lmT (srA N (cl t) lmT k) d p u m x []).length + fct k ≤ 1000000 := fun x hx hux => by
        have hl := srS_fr (lim := lmT) (L := []) (N := N) hlen (x := x) (by omega)
        have h1 := frN_lt (u := u) hx hux
        have h2 : (frN u x + 1) * fct k ≤ (k + 1) * fct k := Nat.mul_le_mul_right _ (by omega)
        rw [Nat.add_mul, Nat.one_mul] at h2
        have h3 := fct_8 (N := k + 1) (by omega)
        rw [fct] at h3
        simp only [List.length_nil] at hl
        omega
      generalize hrec : srA N (cl t) lmT k = rec at ih hbnd ⊢
      refine awpLoop.intro (fun s : Nat × Bool × List (List Int) × List Int => [(0, .i .u8 d), (1, .i .i64 U), (2, .i .i64 V), (3, .ref (.ptr 0 0 0 0)), (4, .ref (.ptr 0 1 0 0)), (5, .ref (.ptr 0 2 0 0)), (6, .ref (.ptr 0 3 0 0)), (23, .ref (.sl 8 0 0 0 N 1)), (24, .i .i64 N), (25, .i .i64 s.1)]) (fun s => ⟨.lv true (sqS N t) :: .lv true [(0, .cells 1 [.fn 45 [(0, 4, 0, 0)]])] :: .lv true (plS s.2.2.2) :: .lv true [(0, .cells 1 [.fn 75 [(0, 0, 0, 0), (0, 1, 0, 0), (0, 2, 0, 0), (0, 3, 0, 0)]])] :: byC 5 LF (cA0 s.2.1 s.2.2.1) :: blksF LF, ((8, 0), .lv true [(0, .ints .u8 N (bytesTo N))]) :: oB s.2.1 s.2.2.1, 60⟩)
        (fun s => s.1 ≤ N ∧ s.2.2.1 = srS (cl t) lmT rec d p u m s.1 [] ∧ (s.2.1 = false → s.2.2.1 = []) ∧ (s.2.1 = true → s.2.2.1 ≠ []) ∧ (∀ z : Nat, s.2.2.2.set d (z : Int) = p.set d (z : Int)) ∧ s.2.2.2.length = 10) (fun s => N - s.1) (0, false, [], p) ⟨by simp, rfl, fun _ => rfl, by simp, fun _ => rfl, hl1⟩ ⟨[((8,0),(8,0))], rfl, ?_, ?_⟩ ?_
      · simp [wkEnv, lk, renV, renTo, renAt]
      · simp only [wkMem, List.map_cons, byC_to, blksF_ren, ren_dead]
        simp [wkLoc, Mem.get, assoc, renBlk, renSegs, renSg, renTo, cA0, oA, oB, renCaps, renAt, plB]
      · rintro ⟨x, c, L', p'⟩ ⟨hx, hL', hc, hne, hp', hpl⟩
        simp only at hx hL' hc hne hp' hpl
        cases c
        · have hcl : L' = [] := hc rfl
          subst hcl
          by_cases h : (x : Int) < N
          · have w := wrap_i64s (show x < 2 ^ 62 by omega)
            have hgx : x < N := by omega
            have hj := hs.cl_lt hd10 hgx
            have b1 : (bytesTo N).getD (0 + x * 1) 0 = (x : Int) := by rw [Nat.zero_add, Nat.mul_one]; exact bytesTo_get (by omega)
            have v1 : 0 + x * 1 < N := by omega
            have i1 : (x : Int) < 10 := by omega
            have u1 : 0 + d * 10 + x * 1 < 100 := by omega
            have u4 : 0 + d * 1 < 10 := by omega
            have k1 := sq_colget ht d x
            have hU : U < 2 ^ 10 := hu.1
            have hV : V < 2 ^ 10 := hv.1
            simp only [absE, absL, absF, reduceCtorEq, ↓reduceIte, Nat.reduceEqDiff, Nat.reduceAdd, Nat.reduceLT, Nat.reduceMul, Nat.reduceSub, Nat.reduceLeDiff, Int.reduceLT, Int.reduceLE, Int.reduceEq, Option.isSome_some, implies_true, false_implies, Prod.mk.injEq, ne_eq, not_false_eq_true, not_true_eq_false, ge_iff_le, gt_iff_lt, Int.toNat_natCast, Int.reduceToNat, Int.cast_ofNat_Int, Int.natCast_nonneg, List.getD_cons_zero, List.getD_cons_succ, List.set_cons_zero, List.set_cons_succ, List.cons_append, List.nil_append, h, b1, v1, i1, hdi, u1, k1, cA0, oA, oB]
            refine CallsVia.none (setHas_ok U x (by omega) (by omega)) ?_
            rintro _ _ _ ⟨rfl, rfl, rfl⟩
            rw [hu.2.2 x (by omega)]
            cases hu1 : u.getD x false
            · simp only [absE, absL, absF, reduceCtorEq, ↓reduceIte, Nat.reduceEqDiff, Nat.reduceAdd, Nat.reduceLT, Nat.reduceMul, Nat.reduceSub, Nat.reduceLeDiff, Int.reduceLT, Int.reduceLE, Int.reduceEq, Option.isSome_some, implies_true, false_implies, Prod.mk.injEq, ne_eq, not_false_eq_true, not_true_eq_false, ge_iff_le, gt_iff_lt, Int.toNat_natCast, Int.reduceToNat, Int.cast_ofNat_Int, Int.natCast_nonneg, List.getD_cons_zero, List.getD_cons_succ, List.set_cons_zero, List.set_cons_succ, List.cons_append, List.nil_append]
              refine CallsVia.none (setHas_ok V (cl t d x) (by omega) (by omega)) ?_
              rintro _ _ _ ⟨rfl, rfl, rfl⟩
              rw [hv.2.2 (cl t d x) (by omega)]
              cases hu2 : m.getD (cl t d x) false
              · have s3 : p'.set (0 + d * 1) (x : Int) = p.set d (x : Int) := by rw [Nat.zero_add, Nat.mul_one, hp']
                have wd := wrap_u8s (show d < 255 by omega)
                have q1 : (2 : Nat) ^ x < 2 ^ 10 := Nat.pow_lt_pow_right (by decide) (by omega)
                have q2 : (2 : Nat) ^ (cl t d x) < 2 ^ 10 := Nat.pow_lt_pow_right (by decide) (by omega)
                have t1 := wrap_shl (c := x) (by omega)
                have t2 := wrap_shl (c := cl t d x) (by omega)
                have o1 := wrap_or (a := U) (b := 2 ^ x) (by omega) (by omega)
                have o2 := wrap_or (a := V) (b := 2 ^ (cl t d x)) (by omega) (by omega)
                have hgo := srS_go (g := cl t) (lim := lmT) (rec := rec) (d := d) (p := p) (u := u) (m := m) (L := []) (x := x) rfl hu1 hu2
                rw [← hL'] at hgo
                have hb1 := hbnd x hgx hu1
                rw [← hL'] at hb1
                have hpp : ∀ z : Nat, (p.set d (x : Int)).set d (z : Int) = p.set d (z : Int) := fun z => by rw [List.set_set]
                have hpn : (p.set d (x : Int)).length = 10 := by rw [List.length_set]; exact hl1
                have hz0 : ∀ z, d + 1 ≤ z → (p.set d (x : Int)).getD z 0 = 0 := fun z hz => by
                  rw [getD_set_int (by rw [hl1]; omega), if_neg (by omega)]; exact hp0 z (by omega)
                have h000 : (p.set d (x : Int)).getD 0 0 = y := by rw [getD_set_int (by rw [hl1]; omega), if_neg (by omega)]; exact h00
                simp only [absE, absL, absF, reduceCtorEq, ↓reduceIte, Nat.reduceEqDiff, Nat.reduceAdd, Nat.reduceLT, Nat.reduceMul, Nat.reduceSub, Nat.reduceLeDiff, Int.reduceLT, Int.reduceLE, Int.reduceEq, Option.isSome_some, implies_true, false_implies, Prod.mk.injEq, ne_eq, not_false_eq_true, not_true_eq_false, ge_iff_le, gt_iff_lt, Int.toNat_natCast, Int.reduceToNat, Int.cast_ofNat_Int, Int.natCast_nonneg, List.getD_cons_zero, List.getD_cons_succ, List.set_cons_zero, List.set_cons_succ, List.cons_append, List.nil_append, hdi, u4, s3, wd, t1, t2, o1, o2, cA0, oA, oB]
                repeat first | refine And.intro (by decide +kernel) ?_ | refine And.intro (by omega) ?_
                have e1 := byC_in (F0 := [(0, 0), (0, 1), (0, 2), (0, 3), (0, 4)]) (b := 5) (bf := 5) (LF := LF) (A := .nils) rfl (by simp)
                have e2 := byC_out (F0 := [(0, 0), (0, 1), (0, 2), (0, 3), (0, 4)]) (n := 96) (b := 5) (bf := 5) (LF := LF) (A := .nils) rfl
                have e3 := byC_out (F0 := [(0, 0), (0, 1), (0, 2), (0, 3), (0, 4)]) (n := 96) (b := 5) (bf := 5) (LF := LF) (A := .sl 1 0 0 0 (rec (p.set d (x : Int)) (u.set x true) (m.set (cl t d x) true) []).length 10) rfl
                simp only [List.getD_cons_zero, List.getD_cons_succ, List.set_cons_zero, List.set_cons_succ, List.cons_append, List.nil_append] at e1
                simp only [List.getD_cons_zero, List.getD_cons_succ, List.set_cons_zero, List.set_cons_succ, List.cons_append, List.nil_append, renAt, renOut, Nat.one_ne_zero, if_true, if_false] at e2 e3
                have h96 : ¬ (96 : Nat) = 0 := by decide
                have h50 : ¬ (50 : Nat) = 0 := by decide
                refine CallsVia.tail (aP := [.lv true (sqS N t), .lv true [(0, .cells 1 [.fn 45 [(0, 4, 0, 0)]])], .lv true (plS (p.set d (x : Int))), .lv true [(0, .cells 1 [.fn 75 [(0, 0, 0, 0), (0, 1, 0, 0), (0, 2, 0, 0), (0, 3, 0, 0)]])], byC 5 LF (.nils)]) (b := 5) (bf := 5) [(0, 0), (0, 1), (0, 2), (0, 3), (0, 4)] rfl rfl (by simp) (by simp) (fun σ => blksF_ren) blksF_live (by simp [Mem.get, assoc, byC, plB]) (ih.1 (p.set d (x : Int)) (u.set x true) (m.set (cl t d x) true) (U ||| 2 ^ x) (V ||| 2 ^ (cl t d x)) (hp.set (by omega) (by omega)) hz0 h000 (hu.set (by omega)) (hv.set (by omega)) (hfrx x hgx hu1)) ?_ ?_ ?_
                · simp [renVs, renV, renAt, renIn, idx, renSegs, renSg]
                · simp only [List.map_cons, List.map_nil, Mem.get, assoc, if_true, List.getD_cons_zero, List.getD_cons_succ, List.set_cons_zero, List.set_cons_succ, List.cons_append, List.nil_append, plB_ren, e1]
                  simp [renBlk, renSegs, renSg, renCaps, renAt, renIn, idx, fiA, plB]
                · rintro r xs0 ns ⟨rfl, ⟨hq1, rfl, rfl⟩ | ⟨hq1, rfl, rfl⟩⟩ hx0 ups rd hu
                  · simp only [zipUps, newUps, plB_ren, e2, fiA, ren_dead, sqB_ren, plSB_ren, cell_ren, renAt, renCaps, renOut, List.getElem?_cons_zero, List.getElem?_cons_succ, Mem.upd, Mem.put, if_true, h96, h50, if_false, List.getD_cons_zero, List.getD_cons_succ, List.set_cons_zero, List.set_cons_succ, List.cons_append, List.nil_append] at hu
                    skip
                    simp only [hu]
                    simp only [absE, absL, absF, reduceCtorEq, ↓reduceIte, Nat.reduceEqDiff, Nat.reduceAdd, Nat.reduceLT, Nat.reduceMul, Nat.reduceSub, Nat.reduceLeDiff, Int.reduceLT, Int.reduceLE, Int.reduceEq, Option.isSome_some, implies_true, false_implies, Prod.mk.injEq, ne_eq, not_false_eq_true, not_true_eq_false, ge_iff_le, gt_iff_lt, Int.toNat_natCast, Int.reduceToNat, Int.cast_ofNat_Int, Int.natCast_nonneg, List.getD_cons_zero, List.getD_cons_succ, List.set_cons_zero, List.set_cons_succ, List.cons_append, List.nil_append, h96]
                    refine LoopNext.intro (x + 1, false, [], p.set d (x : Int)) ⟨by simp; omega, (hgo.trans hq1).symm, hc, hne, hpp, hpn⟩ (by simp; omega) ⟨[((8,0),(8,0))], rfl, ?_, ?_⟩
                    · simp [wkEnv, lk, renV, renTo, cA0, oA, oB, renCaps, renAt, renOut, idx, w]
                    · simp only [wkMem, List.map_cons, byC_to, blksF_ren, ren_dead]
                      simp [wkLoc, Mem.get, assoc, renBlk, renSegs, renSg, renTo, cA0, oA, oB, renCaps, renAt, renOut, idx, w, plB]
                  · simp only [zipUps, newUps, plB_ren, e3, fiA, ren_dead, sqB_ren, plSB_ren, cell_ren, renAt, renCaps, renOut, List.getElem?_cons_zero, List.getElem?_cons_succ, Mem.upd, Mem.put, if_true, h96, h50, if_false, List.getD_cons_zero, List.getD_cons_succ, List.set_cons_zero, List.set_cons_succ, List.cons_append, List.nil_append] at hu
                    skip
                    simp only [hu]
                    simp only [absE, absL, absF, reduceCtorEq, ↓reduceIte, Nat.reduceEqDiff, Nat.reduceAdd, Nat.reduceLT, Nat.reduceMul, Nat.reduceSub, Nat.reduceLeDiff, Int.reduceLT, Int.reduceLE, Int.reduceEq, Option.isSome_some, implies_true, false_implies, Prod.mk.injEq, ne_eq, not_false_eq_true, not_true_eq_false, ge_iff_le, gt_iff_lt, Int.toNat_natCast, Int.reduceToNat, Int.cast_ofNat_Int, Int.natCast_nonneg, List.getD_cons_zero, List.getD_cons_succ, List.set_cons_zero, List.set_cons_succ, List.cons_append, List.nil_append, h96]
                    refine LoopNext.intro (x + 1, true, rec (p.set d (x : Int)) (u.set x true) (m.set (cl t d x) true) [], p.set d (x : Int)) ⟨by simp; omega, hgo.symm, by simp, fun _ => hq1, hpp, hpn⟩ (by simp; omega) ⟨[((8,0),(8,0)), ((96,0),(50,0))], rfl, ?_, ?_⟩
                    · simp [wkEnv, lk, renV, renTo, cA0, oA, oB, renCaps, renAt, renOut, idx, w]
                    · simp only [wkMem, List.map_cons, byC_to, blksF_ren, ren_dead]
                      simp [wkLoc, Mem.get, assoc, renBlk, renSegs, renSg, renTo, cA0, oA, oB, renCaps, renAt, renOut, idx, w, plB]
              · simp only [absE, absL, absF, reduceCtorEq, ↓reduceIte, Nat.reduceEqDiff, Nat.reduceAdd, Nat.reduceLT, Nat.reduceMul, Nat.reduceSub, Nat.reduceLeDiff, Int.reduceLT, Int.reduceLE, Int.reduceEq, Option.isSome_some, implies_true, false_implies, Prod.mk.injEq, ne_eq, not_false_eq_true, not_true_eq_false, ge_iff_le, gt_iff_lt, Int.toNat_natCast, Int.reduceToNat, Int.cast_ofNat_Int, Int.natCast_nonneg, List.getD_cons_zero, List.getD_cons_succ, List.set_cons_zero, List.set_cons_succ, List.cons_append, List.nil_append, cA0, oA, oB]
                refine LoopNext.intro (x + 1, false, [], p') ⟨by simp; omega, hL'.trans (srS_skip (.inr (.inr hu2))).symm, hc, hne, hp', hpl⟩ (by simp; omega) ⟨[((8,0),(8,0))], rfl, ?_, ?_⟩
                · simp [wkEnv, lk, renV, renTo, cA0, oA, oB, renCaps, renAt, renOut, idx, w]
                · simp only [wkMem, List.map_cons, byC_to, blksF_ren, ren_dead]
                  simp [wkLoc, Mem.get, assoc, renBlk, renSegs, renSg, renTo, cA0, oA, oB, renCaps, renAt, renOut, idx, w, plB]
            · simp only [absE, absL, absF, reduceCtorEq, ↓reduceIte, Nat.reduceEqDiff, Nat.reduceAdd, Nat.reduceLT, Nat.reduceMul, Nat.reduceSub, Nat.reduceLeDiff, Int.reduceLT, Int.reduceLE, Int.reduceEq, Option.isSome_some, implies_true, false_implies, Prod.mk.injEq, ne_eq, not_false_eq_true, not_true_eq_false, ge_iff_le, gt_iff_lt, Int.toNat_natCast, Int.reduceToNat, Int.cast_ofNat_Int, Int.natCast_nonneg, List.getD_cons_zero, List.getD_cons_succ, List.set_cons_zero, List.set_cons_succ, List.cons_append, List.nil_append, cA0, oA, oB]
              refine LoopNext.intro (x + 1, false, [], p') ⟨by simp; omega, hL'.trans (srS_skip (.inr (.inl hu1))).symm, hc, hne, hp', hpl⟩ (by simp; omega) ⟨[((8,0),(8,0))], rfl, ?_, ?_⟩
              · simp [wkEnv, lk, renV, renTo, cA0, oA, oB, renCaps, renAt, renOut, idx, w]
              · simp only [wkMem, List.map_cons, byC_to, blksF_ren, ren_dead]
                simp [wkLoc, Mem.get, assoc, renBlk, renSegs, renSg, renTo, cA0, oA, oB, renCaps, renAt, renOut, idx, w, plB]
          · obtain rfl : x = N := by omega
            have s0 : p'.set (0 + d * 1) (0 : Int) = p := by
              rw [Nat.zero_add, Nat.mul_one]; exact (hp' 0).trans (set_zero (hp0 d (Nat.le_refl d)))
            have u4 : 0 + d * 1 < 10 := by omega
            have hq := hL'.symm
            simp only [absE, absL, absF, reduceCtorEq, ↓reduceIte, Nat.reduceEqDiff, Nat.reduceAdd, Nat.reduceLT, Nat.reduceMul, Nat.reduceSub, Nat.reduceLeDiff, Int.reduceLT, Int.reduceLE, Int.reduceEq, Option.isSome_some, implies_true, false_implies, Prod.mk.injEq, ne_eq, not_false_eq_true, not_true_eq_false, ge_iff_le, gt_iff_lt, Int.toNat_natCast, Int.reduceToNat, Int.cast_ofNat_Int, Int.natCast_nonneg, List.getD_cons_zero, List.getD_cons_succ, List.set_cons_zero, List.set_cons_succ, List.cons_append, List.nil_append, h, hdi, u4, s0, hq, cA0, oA, oB, Try.results75]
            repeat first | refine And.intro (by decide +kernel) ?_ | refine And.intro (by omega) ?_
            refine ⟨[], by simp, by simp, fiA x t p (byC 5 LF (.nils)), ?_, rfl, by simp [renV], .inl ⟨hq, rfl, rfl⟩⟩
            simp only [List.map_cons, byC_fin, blksF_ren]
            simp [renBlk, renSegs, renSg, renAt, renFin, renCaps, idx, fiA, plB]
        · skip
          by_cases h : (x : Int) < N
          · have w := wrap_i64s (show x < 2 ^ 62 by omega)
            have hgx : x < N := by omega
            have hj := hs.cl_lt hd10 hgx
            have b1 : (bytesTo N).getD (0 + x * 1) 0 = (x : Int) := by rw [Nat.zero_add, Nat.mul_one]; exact bytesTo_get (by omega)
            have v1 : 0 + x * 1 < N := by omega
            have i1 : (x : Int) < 10 := by omega
            have u1 : 0 + d * 10 + x * 1 < 100 := by omega
            have u4 : 0 + d * 1 < 10 := by omega
            have k1 := sq_colget ht d x
            have hU : U < 2 ^ 10 := hu.1
            have hV : V < 2 ^ 10 := hv.1
            simp only [absE, absL, absF, reduceCtorEq, ↓reduceIte, Nat.reduceEqDiff, Nat.reduceAdd, Nat.reduceLT, Nat.reduceMul, Nat.reduceSub, Nat.reduceLeDiff, Int.reduceLT, Int.reduceLE, Int.reduceEq, Option.isSome_some, implies_true, false_implies, Prod.mk.injEq, ne_eq, not_false_eq_true, not_true_eq_false, ge_iff_le, gt_iff_lt, Int.toNat_natCast, Int.reduceToNat, Int.cast_ofNat_Int, Int.natCast_nonneg, List.getD_cons_zero, List.getD_cons_succ, List.set_cons_zero, List.set_cons_succ, List.cons_append, List.nil_append, h, b1, v1, i1, hdi, u1, k1, cA0, oA, oB]
            refine CallsVia.none (setHas_ok U x (by omega) (by omega)) ?_
            rintro _ _ _ ⟨rfl, rfl, rfl⟩
            rw [hu.2.2 x (by omega)]
            cases hu1 : u.getD x false
            · simp only [absE, absL, absF, reduceCtorEq, ↓reduceIte, Nat.reduceEqDiff, Nat.reduceAdd, Nat.reduceLT, Nat.reduceMul, Nat.reduceSub, Nat.reduceLeDiff, Int.reduceLT, Int.reduceLE, Int.reduceEq, Option.isSome_some, implies_true, false_implies, Prod.mk.injEq, ne_eq, not_false_eq_true, not_true_eq_false, ge_iff_le, gt_iff_lt, Int.toNat_natCast, Int.reduceToNat, Int.cast_ofNat_Int, Int.natCast_nonneg, List.getD_cons_zero, List.getD_cons_succ, List.set_cons_zero, List.set_cons_succ, List.cons_append, List.nil_append]
              refine CallsVia.none (setHas_ok V (cl t d x) (by omega) (by omega)) ?_
              rintro _ _ _ ⟨rfl, rfl, rfl⟩
              rw [hv.2.2 (cl t d x) (by omega)]
              cases hu2 : m.getD (cl t d x) false
              · have s3 : p'.set (0 + d * 1) (x : Int) = p.set d (x : Int) := by rw [Nat.zero_add, Nat.mul_one, hp']
                have wd := wrap_u8s (show d < 255 by omega)
                have q1 : (2 : Nat) ^ x < 2 ^ 10 := Nat.pow_lt_pow_right (by decide) (by omega)
                have q2 : (2 : Nat) ^ (cl t d x) < 2 ^ 10 := Nat.pow_lt_pow_right (by decide) (by omega)
                have t1 := wrap_shl (c := x) (by omega)
                have t2 := wrap_shl (c := cl t d x) (by omega)
                have o1 := wrap_or (a := U) (b := 2 ^ x) (by omega) (by omega)
                have o2 := wrap_or (a := V) (b := 2 ^ (cl t d x)) (by omega) (by omega)
                have hgo := srS_go (g := cl t) (lim := lmT) (rec := rec) (d := d) (p := p) (u := u) (m := m) (L := []) (x := x) rfl hu1 hu2
                rw [← hL'] at hgo
                have hb1 := hbnd x hgx hu1
                rw [← hL'] at hb1
                have hpp : ∀ z : Nat, (p.set d (x : Int)).set d (z : Int) = p.set d (z : Int) := fun z => by rw [List.set_set]
                have hpn : (p.set d (x : Int)).length = 10 := by rw [List.length_set]; exact hl1
                have hz0 : ∀ z, d + 1 ≤ z → (p.set d (x : Int)).getD z 0 = 0 := fun z hz => by
                  rw [getD_set_int (by rw [hl1]; omega), if_neg (by omega)]; exact hp0 z (by omega)
                have h000 : (p.set d (x : Int)).getD 0 0 = y := by rw [getD_set_int (by rw [hl1]; omega), if_neg (by omega)]; exact h00
                simp only [absE, absL, absF, reduceCtorEq, ↓reduceIte, Nat.reduceEqDiff, Nat.reduceAdd, Nat.reduceLT, Nat.reduceMul, Nat.reduceSub, Nat.reduceLeDiff, Int.reduceLT, Int.reduceLE, Int.reduceEq, Option.isSome_some, implies_true, false_implies, Prod.mk.injEq, ne_eq, not_false_eq_true, not_true_eq_false, ge_iff_le, gt_iff_lt, Int.toNat_natCast, Int.reduceToNat, Int.cast_ofNat_Int, Int.natCast_nonneg, List.getD_cons_zero, List.getD_cons_succ, List.set_cons_zero, List.set_cons_succ, List.cons_append, List.nil_append, hdi, u4, s3, wd, t1, t2, o1, o2, cA0, oA, oB]
                repeat first | refine And.intro (by decide +kernel) ?_ | refine And.intro (by omega) ?_
                have e1 := byC_in (F0 := [(0, 0), (0, 1), (0, 2), (0, 3), (0, 4), (50, 0)]) (b := 5) (bf := 6) (LF := LF) (A := .sl 50 0 0 0 L'.length 10) rfl (by simp)
                have e2 := byC_out (F0 := [(0, 0), (0, 1), (0, 2), (0, 3), (0, 4), (50, 0)]) (n := 96) (b := 5) (bf := 6) (LF := LF) (A := .sl 0 5 0 0 L'.length 10) rfl
                have e3 := byC_out (F0 := [(0, 0), (0, 1), (0, 2), (0, 3), (0, 4), (50, 0)]) (n := 96) (b := 5) (bf := 6) (LF := LF) (A := .sl 1 0 0 0 (rec (p.set d (x : Int)) (u.set x true) (m.set (cl t d x) true) L').length 10) rfl
                simp only [List.getD_cons_zero, List.getD_cons_succ, List.set_cons_zero, List.set_cons_succ, List.cons_append, List.nil_append] at e1
                simp only [List.getD_cons_zero, List.getD_cons_succ, List.set_cons_zero, List.set_cons_succ, List.cons_append, List.nil_append, renAt, renOut, Nat.one_ne_zero, if_true, if_false] at e2 e3
                have h96 : ¬ (96 : Nat) = 0 := by decide
                have h50 : ¬ (50 : Nat) = 0 := by decide
                refine CallsVia.tail (aP := [.lv true (sqS N t), .lv true [(0, .cells 1 [.fn 45 [(0, 4, 0, 0)]])], .lv true (plS (p.set d (x : Int))), .lv true [(0, .cells 1 [.fn 75 [(0, 0, 0, 0), (0, 1, 0, 0), (0, 2, 0, 0), (0, 3, 0, 0)]])], byC 5 LF (.sl 50 0 0 0 L'.length 10)]) (b := 5) (bf := 6) [(0, 0), (0, 1), (0, 2), (0, 3), (0, 4), (50, 0)] rfl rfl (by simp) (by simp) (fun σ => blksF_ren) blksF_live (by simp [Mem.get, assoc, byC, plB]) (ih.2 (p.set d (x : Int)) (u.set x true) (m.set (cl t d x) true) (U ||| 2 ^ x) (V ||| 2 ^ (cl t d x)) L' (hp.set (by omega) (by omega)) hz0 h000 (hu.set (by omega)) (hv.set (by omega)) (hfrx x hgx hu1) (hne rfl) hb1) ?_ ?_ ?_
                · simp [renVs, renV, renAt, renIn, idx, renSegs, renSg]
                · simp only [List.map_cons, List.map_nil, Mem.get, assoc, if_true, List.getD_cons_zero, List.getD_cons_succ, List.set_cons_zero, List.set_cons_succ, List.cons_append, List.nil_append, plB_ren, e1]
                  simp [renBlk, renSegs, renSg, renCaps, renAt, renIn, idx, fiA, plB]
                · rintro r xs0 ns ⟨rfl, ⟨hq1, rfl, rfl⟩ | ⟨hq1, rfl, rfl⟩⟩ hx0 ups rd hu
                  · simp only [zipUps, newUps, plB_ren, e2, fiA, ren_dead, sqB_ren, plSB_ren, cell_ren, renAt, renCaps, renOut, List.getElem?_cons_zero, List.getElem?_cons_succ, Mem.upd, Mem.put, if_true, h96, h50, if_false, List.getD_cons_zero, List.getD_cons_succ, List.set_cons_zero, List.set_cons_succ, List.cons_append, List.nil_append] at hu
                    skip
                    simp only [hu]
                    simp only [absE, absL, absF, reduceCtorEq, ↓reduceIte, Nat.reduceEqDiff, Nat.reduceAdd, Nat.reduceLT, Nat.reduceMul, Nat.reduceSub, Nat.reduceLeDiff, Int.reduceLT, Int.reduceLE, Int.reduceEq, Option.isSome_some, implies_true, false_implies, Prod.mk.injEq, ne_eq, not_false_eq_true, not_true_eq_false, ge_iff_le, gt_iff_lt, Int.toNat_natCast, Int.reduceToNat, Int.cast_ofNat_Int, Int.natCast_nonneg, List.getD_cons_zero, List.getD_cons_succ, List.set_cons_zero, List.set_cons_succ, List.cons_append, List.nil_append, h96]
                    refine LoopNext.intro (x + 1, true, L', p.set d (x : Int)) ⟨by simp; omega, (hgo.trans hq1).symm, hc, hne, hpp, hpn⟩ (by simp; omega) ⟨[((8,0),(8,0)), ((50,0),(50,0))], rfl, ?_, ?_⟩
                    · simp [wkEnv, lk, renV, renTo, cA0, oA, oB, renCaps, renAt, renOut, idx, w]
                    · simp only [wkMem, List.map_cons, byC_to, blksF_ren, ren_dead]
                      simp [wkLoc, Mem.get, assoc, renBlk, renSegs, renSg, renTo, cA0, oA, oB, renCaps, renAt, renOut, idx, w, plB]
                  · simp only [zipUps, newUps, plB_ren, e3, fiA, ren_dead, sqB_ren, plSB_ren, cell_ren, renAt, renCaps, renOut, List.getElem?_cons_zero, List.getElem?_cons_succ, Mem.upd, Mem.put, if_true, h96, h50, if_false, List.getD_cons_zero, List.getD_cons_succ, List.set_cons_zero, List.set_cons_succ, List.cons_append, List.nil_append] at hu
                    skip
                    simp only [hu]
                    simp only [absE, absL, absF, reduceCtorEq, ↓reduceIte, Nat.reduceEqDiff, Nat.reduceAdd, Nat.reduceLT, Nat.reduceMul, Nat.reduceSub, Nat.reduceLeDiff, Int.reduceLT, Int.reduceLE, Int.reduceEq, Option.isSome_some, implies_true, false_implies, Prod.mk.injEq, ne_eq, not_false_eq_true, not_true_eq_false, ge_iff_le, gt_iff_lt, Int.toNat_natCast, Int.reduceToNat, Int.cast_ofNat_Int, Int.natCast_nonneg, List.getD_cons_zero, List.getD_cons_succ, List.set_cons_zero, List.set_cons_succ, List.cons_append, List.nil_append, h96]
                    refine LoopNext.intro (x + 1, true, rec (p.set d (x : Int)) (u.set x true) (m.set (cl t d x) true) L', p.set d (x : Int)) ⟨by simp; omega, hgo.symm, by simp, fun _ => hq1, hpp, hpn⟩ (by simp; omega) ⟨[((8,0),(8,0)), ((96,0),(50,0))], rfl, ?_, ?_⟩
                    · simp [wkEnv, lk, renV, renTo, cA0, oA, oB, renCaps, renAt, renOut, idx, w]
                    · simp only [wkMem, List.map_cons, byC_to, blksF_ren, ren_dead]
                      simp [wkLoc, Mem.get, assoc, renBlk, renSegs, renSg, renTo, cA0, oA, oB, renCaps, renAt, renOut, idx, w, plB]
              · simp only [absE, absL, absF, reduceCtorEq, ↓reduceIte, Nat.reduceEqDiff, Nat.reduceAdd, Nat.reduceLT, Nat.reduceMul, Nat.reduceSub, Nat.reduceLeDiff, Int.reduceLT, Int.reduceLE, Int.reduceEq, Option.isSome_some, implies_true, false_implies, Prod.mk.injEq, ne_eq, not_false_eq_true, not_true_eq_false, ge_iff_le, gt_iff_lt, Int.toNat_natCast, Int.reduceToNat, Int.cast_ofNat_Int, Int.natCast_nonneg, List.getD_cons_zero, List.getD_cons_succ, List.set_cons_zero, List.set_cons_succ, List.cons_append, List.nil_append, cA0, oA, oB]
                refine LoopNext.intro (x + 1, true, L', p') ⟨by simp; omega, hL'.trans (srS_skip (.inr (.inr hu2))).symm, hc, hne, hp', hpl⟩ (by simp; omega) ⟨[((8,0),(8,0)), ((50,0),(50,0))], rfl, ?_, ?_⟩
                · simp [wkEnv, lk, renV, renTo, cA0, oA, oB, renCaps, renAt, renOut, idx, w]
                · simp only [wkMem, List.map_cons, byC_to, blksF_ren, ren_dead]
                  simp [wkLoc, Mem.get, assoc, renBlk, renSegs, renSg, renTo, cA0, oA, oB, renCaps, renAt, renOut, idx, w, plB]
            · simp only [absE, absL, absF, reduceCtorEq, ↓reduceIte, Nat.reduceEqDiff, Nat.reduceAdd, Nat.reduceLT, Nat.reduceMul, Nat.reduceSub, Nat.reduceLeDiff, Int.reduceLT, Int.reduceLE, Int.reduceEq, Option.isSome_some, implies_true, false_implies, Prod.mk.injEq, ne_eq, not_false_eq_true, not_true_eq_false, ge_iff_le, gt_iff_lt, Int.toNat_natCast, Int.reduceToNat, Int.cast_ofNat_Int, Int.natCast_nonneg, List.getD_cons_zero, List.getD_cons_succ, List.set_cons_zero, List.set_cons_succ, List.cons_append, List.nil_append, cA0, oA, oB]
              refine LoopNext.intro (x + 1, true, L', p') ⟨by simp; omega, hL'.trans (srS_skip (.inr (.inl hu1))).symm, hc, hne, hp', hpl⟩ (by simp; omega) ⟨[((8,0),(8,0)), ((50,0),(50,0))], rfl, ?_, ?_⟩
              · simp [wkEnv, lk, renV, renTo, cA0, oA, oB, renCaps, renAt, renOut, idx, w]
              · simp only [wkMem, List.map_cons, byC_to, blksF_ren, ren_dead]
                simp [wkLoc, Mem.get, assoc, renBlk, renSegs, renSg, renTo, cA0, oA, oB, renCaps, renAt, renOut, idx, w, plB]
          · obtain rfl : x = N := by omega
            have s0 : p'.set (0 + d * 1) (0 : Int) = p := by
              rw [Nat.zero_add, Nat.mul_one]; exact (hp' 0).trans (set_zero (hp0 d (Nat.le_refl d)))
            have u4 : 0 + d * 1 < 10 := by omega
            have hq := hL'.symm
            simp only [absE, absL, absF, reduceCtorEq, ↓reduceIte, Nat.reduceEqDiff, Nat.reduceAdd, Nat.reduceLT, Nat.reduceMul, Nat.reduceSub, Nat.reduceLeDiff, Int.reduceLT, Int.reduceLE, Int.reduceEq, Option.isSome_some, implies_true, false_implies, Prod.mk.injEq, ne_eq, not_false_eq_true, not_true_eq_false, ge_iff_le, gt_iff_lt, Int.toNat_natCast, Int.reduceToNat, Int.cast_ofNat_Int, Int.natCast_nonneg, List.getD_cons_zero, List.getD_cons_succ, List.set_cons_zero, List.set_cons_succ, List.cons_append, List.nil_append, h, hdi, u4, s0, hq, cA0, oA, oB, Try.results75]
            repeat first | refine And.intro (by decide +kernel) ?_ | refine And.intro (by omega) ?_
            refine ⟨[(50, 0)], by simp, by simp, fiA x t p (byC 5 LF (.sl 1 0 0 0 L'.length 10)), ?_, rfl, by simp [renV], .inr ⟨by rw [hq]; exact hne rfl, by rw [hq], by rw [hq]; simp [Mem.get, assoc, plB, renBlk, renSegs, renSg]⟩⟩
            simp only [List.map_cons, byC_fin, blksF_ren]
            simp [renBlk, renSegs, renSg, renAt, renFin, renCaps, idx, fiA, plB]
    · intro p u m U V L hp hp0 h00 hu hv hfr hLn hLc
      have hl1 : p.length = 10 := hp.1
      have g1 : ¬((N - (k + 1) : Nat) : Int) = N := by omega
      have wN := wrap_i64n (show N - (k + 1) < 2 ^ 62 by omega)
      have hul : N ≤ u.length := by rw [hu.2.1]; omega
      unfold fiA
      have hdp : 1 ≤ N - (k + 1) := by omega
      generalize hd : N - (k + 1) = d at g1 wN hp0 hdp ⊢
      refine acalls_of_body mix Try.func75 rfl fok75 (Nat.le_of_ble_eq_true rfl) ?_
      unfold abody
      simp only [absE, absL, absF, reduceCtorEq, ↓reduceIte, Nat.reduceEqDiff, Nat.reduceAdd, Nat.reduceLT, Nat.reduceMul, Nat.reduceSub, Nat.reduceLeDiff, Int.reduceLT, Int.reduceLE, Int.reduceEq, Option.isSome_some, implies_true, false_implies, Prod.mk.injEq, ne_eq, not_false_eq_true, not_true_eq_false, ge_iff_le, gt_iff_lt, Int.toNat_natCast, Int.reduceToNat, Int.cast_ofNat_Int, Int.natCast_nonneg, List.getD_cons_zero, List.getD_cons_succ, List.set_cons_zero, List.set_cons_succ, List.cons_append, List.nil_append, g1, wN, Try.f75]
      refine CallsVia.none (elements_ok N t hN) ?_
      rintro _ _ _ ⟨rfl, rfl, rfl⟩
      simp only [absE, absL, absF, reduceCtorEq, ↓reduceIte, Nat.reduceEqDiff, Nat.reduceAdd, Nat.reduceLT, Nat.reduceMul, Nat.reduceSub, Nat.reduceLeDiff, Int.reduceLT, Int.reduceLE, Int.reduceEq, Option.isSome_some, implies_true, false_implies, Prod.mk.injEq, ne_eq, not_false_eq_true, not_true_eq_false, ge_iff_le, gt_iff_lt, Int.toNat_natCast, Int.reduceToNat, Int.cast_ofNat_Int, Int.natCast_nonneg, List.getD_cons_zero, List.getD_cons_succ, List.set_cons_zero, List.set_cons_succ, List.cons_append, List.nil_append]
      have hd10 : d < N := by omega
      have ed : N - k = d + 1 := by omega
      rw [ed] at ih
      have hdi : (d : Int) < 10 := by omega
      have e1 : srA N (cl t) lmT (k + 1) p u m L = srS (cl t) lmT (srA N (cl t) lmT k) d p u m N L := by rw [← hd]; rfl
      rw [e1]
      have hlen : ∀ x L, x < N → u.getD x false = false → (srA N (cl t) lmT k (p.set d (x : Int)) (u.set x true) (m.set (cl t d x) true) L).length ≤ L.length + fct k := fun x L hx hux => srA_fr (by rw [List.length_set]; exact hul) (by rw [frN_set (by omega) hux, if_pos hx]; omega)
      have hfrx : ∀ x, x < N → u.getD x false = false → frN (u.set x true) N ≤ k := fun x hx hux => by rw [frN_set (by omega) hux, if_pos hx]; omega
      have hbnd : ∀ x, x < N → u.getD x false = false → (srS (cl t) lmT (srA N (cl t) lmT k) d p u m x L).length + fct k ≤ 1000000 := fun x hx hux => by
        have hl := srS_fr (lim := lmT) (L := L) (N := N) hlen (x := x) (by omega)
        have h1 := frN_lt (u := u) hx hux
        have h2 : (frN u x + 1) * fct k ≤ (k + 1) * fct k := Nat.mul_le_mul_right _ (by omega)
        rw [Nat.add_mul, Nat.one_mul] at h2
        skip
        rw [fct] at hLc
        skip
        omega
      generalize hrec : srA N (cl t) lmT k = rec at ih hbnd ⊢
      refine awpLoop.intro (fun s : Nat × Bool × List (List Int) × List Int => [(0, .i .u8 d), (1, .i .i64 U), (2, .i .i64 V), (3, .ref (.ptr 0 0 0 0)), (4, .ref (.ptr 0 1 0 0)), (5, .ref (.ptr 0 2 0 0)), (6, .ref (.ptr 0 3 0 0)), (23, .ref (.sl 8 0 0 0 N 1)), (24, .i .i64 N), (25, .i .i64 s.1)]) (fun s => ⟨.lv true (sqS N t) :: .lv true [(0, .cells 1 [.fn 45 [(0, 4, 0, 0)]])] :: .lv true (plS s.2.2.2) :: .lv true [(0, .cells 1 [.fn 75 [(0, 0, 0, 0), (0, 1, 0, 0), (0, 2, 0, 0), (0, 3, 0, 0)]])] :: byC 6 LF (cA1 s.2.1 s.2.2.1) :: oA s.2.1 L :: blksF LF, ((8, 0), .lv true [(0, .ints .u8 N (bytesTo N))]) :: oB s.2.1 s.2.2.1, 60⟩)
        (fun s => s.1 ≤ N ∧ s.2.2.1 = srS (cl t) lmT rec d p u m s.1 L ∧ (s.2.1 = false → s.2.2.1 = L) ∧ (s.2.1 = true → s.2.2.1 ≠ []) ∧ (∀ z : Nat, s.2.2.2.set d (z : Int) = p.set d (z : Int)) ∧ s.2.2.2.length = 10) (fun s => N - s.1) (0, false, L, p) ⟨by simp, rfl, fun _ => rfl, by simp, fun _ => rfl, hl1⟩ ⟨[((8,0),(8,0))], rfl, ?_, ?_⟩ ?_
      · simp [wkEnv, lk, renV, renTo, renAt]
      · simp only [wkMem, List.map_cons, byC_to, blksF_ren, ren_dead]
        simp [wkLoc, Mem.get, assoc, renBlk, renSegs, renSg, renTo, cA1, oA, oB, renCaps, renAt, plB]
      · rintro ⟨x, c, L', p'⟩ ⟨hx, hL', hc, hne, hp', hpl⟩
        simp only at hx hL' hc hne hp' hpl
        cases c
        · have hcl : L' = L := hc rfl
          subst hcl
          by_cases h : (x : Int) < N
          · have w := wrap_i64s (show x < 2 ^ 62 by omega)
            have hgx : x < N := by omega
            have hj := hs.cl_lt hd10 hgx
            have b1 : (bytesTo N).getD (0 + x * 1) 0 = (x : Int) := by rw [Nat.zero_add, Nat.mul_one]; exact bytesTo_get (by omega)
            have v1 : 0 + x * 1 < N := by omega
            have i1 : (x : Int) < 10 := by omega
            have u1 : 0 + d * 10 + x * 1 < 100 := by omega
            have u4 : 0 + d * 1 < 10 := by omega
            have k1 := sq_colget ht d x
            have hU : U < 2 ^ 10 := hu.1
            have hV : V < 2 ^ 10 := hv.1
            simp only [absE, absL, absF, reduceCtorEq, ↓reduceIte, Nat.reduceEqDiff, Nat.reduceAdd, Nat.reduceLT, Nat.reduceMul, Nat.reduceSub, Nat.reduceLeDiff, Int.reduceLT, Int.reduceLE, Int.reduceEq, Option.isSome_some, implies_true, false_implies, Prod.mk.injEq, ne_eq, not_false_eq_true, not_true_eq_false, ge_iff_le, gt_iff_lt, Int.toNat_natCast, Int.reduceToNat, Int.cast_ofNat_Int, Int.natCast_nonneg, List.getD_cons_zero, List.getD_cons_succ, List.set_cons_zero, List.set_cons_succ, List.cons_append, List.nil_append, h, b1, v1, i1, hdi, u1, k1, cA1, oA, oB]
            refine CallsVia.none (setHas_ok U x (by omega) (by omega)) ?_
            rintro _ _ _ ⟨rfl, rfl, rfl⟩
            rw [hu.2.2 x (by omega)]
            cases hu1 : u.getD x false
            · simp only [absE, absL, absF, reduceCtorEq, ↓reduceIte, Nat.reduceEqDiff, Nat.reduceAdd, Nat.reduceLT, Nat.reduceMul, Nat.reduceSub, Nat.reduceLeDiff, Int.reduceLT, Int.reduceLE, Int.reduceEq, Option.isSome_some, implies_true, false_implies, Prod.mk.injEq, ne_eq, not_false_eq_true, not_true_eq_false, ge_iff_le, gt_iff_lt, Int.toNat_natCast, Int.reduceToNat, Int.cast_ofNat_Int, Int.natCast_nonneg, List.getD_cons_zero, List.getD_cons_succ, List.set_cons_zero, List.set_cons_succ, List.cons_append, List.nil_append]
              refine CallsVia.none (setHas_ok V (cl t d x) (by omega) (by omega)) ?_
              rintro _ _ _ ⟨rfl, rfl, rfl⟩
              rw [hv.2.2 (cl t d x) (by omega)]
              cases hu2 : m.getD (cl t d x) false
              · have s3 : p'.set (0 + d * 1) (x : Int) = p.set d (x : Int) := by rw [Nat.zero_add, Nat.mul_one, hp']
                have wd := wrap_u8s (show d < 255 by omega)
                have q1 : (2 : Nat) ^ x < 2 ^ 10 := Nat.pow_lt_pow_right (by decide) (by omega)
                have q2 : (2 : Nat) ^ (cl t d x) < 2 ^ 10 := Nat.pow_lt_pow_right (by decide) (by omega)
                have t1 := wrap_shl (c := x) (by omega)
                have t2 := wrap_shl (c := cl t d x) (by omega)
                have o1 := wrap_or (a := U) (b := 2 ^ x) (by omega) (by omega)
                have o2 := wrap_or (a := V) (b := 2 ^ (cl t d x)) (by omega) (by omega)
                have hgo := srS_go (g := cl t) (lim := lmT) (rec := rec) (d := d) (p := p) (u := u) (m := m) (L := L') (x := x) rfl hu1 hu2
                rw [← hL'] at hgo
                have hb1 := hbnd x hgx hu1
                rw [← hL'] at hb1
                have hpp : ∀ z : Nat, (p.set d (x : Int)).set d (z : Int) = p.set d (z : Int) := fun z => by rw [List.set_set]
                have hpn : (p.set d (x : Int)).length = 10 := by rw [List.length_set]; exact hl1
                have hz0 : ∀ z, d + 1 ≤ z → (p.set d (x : Int)).getD z 0 = 0 := fun z hz => by
                  rw [getD_set_int (by rw [hl1]; omega), if_neg (by omega)]; exact hp0 z (by omega)
                have h000 : (p.set d (x : Int)).getD 0 0 = y := by rw [getD_set_int (by rw [hl1]; omega), if_neg (by omega)]; exact h00
                simp only [absE, absL, absF, reduceCtorEq, ↓reduceIte, Nat.reduceEqDiff, Nat.reduceAdd, Nat.reduceLT, Nat.reduceMul, Nat.reduceSub, Nat.reduceLeDiff, Int.reduceLT, Int.reduceLE, Int.reduceEq, Option.isSome_some, implies_true, false_implies, Prod.mk.injEq, ne_eq, not_false_eq_true, not_true_eq_false, ge_iff_le, gt_iff_lt, Int.toNat_natCast, Int.reduceToNat, Int.cast_ofNat_Int, Int.natCast_nonneg, List.getD_cons_zero, List.getD_cons_succ, List.set_cons_zero, List.set_cons_succ, List.cons_append, List.nil_append, hdi, u4, s3, wd, t1, t2, o1, o2, cA1, oA, oB]
                repeat first | refine And.intro (by decide +kernel) ?_ | refine And.intro (by omega) ?_
                have e1 := byC_in (F0 := [(0, 0), (0, 1), (0, 2), (0, 3), (0, 4), (0, 5)]) (b := 6) (bf := 6) (LF := LF) (A := .sl 0 5 0 0 L'.length 10) rfl (by simp)
                have e2 := byC_out (F0 := [(0, 0), (0, 1), (0, 2), (0, 3), (0, 4), (0, 5)]) (n := 96) (b := 6) (bf := 6) (LF := LF) (A := .sl 0 5 0 0 L'.length 10) rfl
                have e3 := byC_out (F0 := [(0, 0), (0, 1), (0, 2), (0, 3), (0, 4), (0, 5)]) (n := 96) (b := 6) (bf := 6) (LF := LF) (A := .sl 1 0 0 0 (rec (p.set d (x : Int)) (u.set x true) (m.set (cl t d x) true) L').length 10) rfl
                simp only [List.getD_cons_zero, List.getD_cons_succ, List.set_cons_zero, List.set_cons_succ, List.cons_append, List.nil_append] at e1
                simp only [List.getD_cons_zero, List.getD_cons_succ, List.set_cons_zero, List.set_cons_succ, List.cons_append, List.nil_append, renAt, renOut, Nat.one_ne_zero, if_true, if_false] at e2 e3
                have h96 : ¬ (96 : Nat) = 0 := by decide
                have h50 : ¬ (50 : Nat) = 0 := by decide
                refine CallsVia.tail (aP := [.lv true (sqS N t), .lv true [(0, .cells 1 [.fn 45 [(0, 4, 0, 0)]])], .lv true (plS (p.set d (x : Int))), .lv true [(0, .cells 1 [.fn 75 [(0, 0, 0, 0), (0, 1, 0, 0), (0, 2, 0, 0), (0, 3, 0, 0)]])], byC 6 LF (.sl 0 5 0 0 L'.length 10), plB L']) (b := 6) (bf := 6) [(0, 0), (0, 1), (0, 2), (0, 3), (0, 4), (0, 5)] rfl rfl (by simp) (by simp) (fun σ => blksF_ren) blksF_live (by simp [Mem.get, assoc, byC, plB]) (ih.2 (p.set d (x : Int)) (u.set x true) (m.set (cl t d x) true) (U ||| 2 ^ x) (V ||| 2 ^ (cl t d x)) L' (hp.set (by omega) (by omega)) hz0 h000 (hu.set (by omega)) (hv.set (by omega)) (hfrx x hgx hu1) hLn hb1) ?_ ?_ ?_
                · simp [renVs, renV, renAt, renIn, idx, renSegs, renSg]
                · simp only [List.map_cons, List.map_nil, Mem.get, assoc, if_true, List.getD_cons_zero, List.getD_cons_succ, List.set_cons_zero, List.set_cons_succ, List.cons_append, List.nil_append, plB_ren, e1]
                  simp [renBlk, renSegs, renSg, renCaps, renAt, renIn, idx, fiA, plB]
                · rintro r xs0 ns ⟨rfl, ⟨hq1, rfl, rfl⟩ | ⟨hq1, rfl, rfl⟩⟩ hx0 ups rd hu
                  · simp only [zipUps, newUps, plB_ren, e2, fiA, ren_dead, sqB_ren, plSB_ren, cell_ren, renAt, renCaps, renOut, List.getElem?_cons_zero, List.getElem?_cons_succ, Mem.upd, Mem.put, if_true, h96, h50, if_false, List.getD_cons_zero, List.getD_cons_succ, List.set_cons_zero, List.set_cons_succ, List.cons_append, List.nil_append] at hu
                    unfold plB at hu
                    simp only [hu]
                    simp only [absE, absL, absF, reduceCtorEq, ↓reduceIte, Nat.reduceEqDiff, Nat.reduceAdd, Nat.reduceLT, Nat.reduceMul, Nat.reduceSub, Nat.reduceLeDiff, Int.reduceLT, Int.reduceLE, Int.reduceEq, Option.isSome_some, implies_true, false_implies, Prod.mk.injEq, ne_eq, not_false_eq_true, not_true_eq_false, ge_iff_le, gt_iff_lt, Int.toNat_natCast, Int.reduceToNat, Int.cast_ofNat_Int, Int.natCast_nonneg, List.getD_cons_zero, List.getD_cons_succ, List.set_cons_zero, List.set_cons_succ, List.cons_append, List.nil_append, h96]
                    refine LoopNext.intro (x + 1, false, L', p.set d (x : Int)) ⟨by simp; omega, (hgo.trans hq1).symm, hc, hne, hpp, hpn⟩ (by simp; omega) ⟨[((8,0),(8,0))], rfl, ?_, ?_⟩
                    · simp [wkEnv, lk, renV, renTo, cA1, oA, oB, renCaps, renAt, renOut, idx, w]
                    · simp only [wkMem, List.map_cons, byC_to, blksF_ren, ren_dead]
                      simp [wkLoc, Mem.get, assoc, renBlk, renSegs, renSg, renTo, cA1, oA, oB, renCaps, renAt, renOut, idx, w, plB]
                  · simp only [zipUps, newUps, plB_ren, e3, fiA, ren_dead, sqB_ren, plSB_ren, cell_ren, renAt, renCaps, renOut, List.getElem?_cons_zero, List.getElem?_cons_succ, Mem.upd, Mem.put, if_true, h96, h50, if_false, List.getD_cons_zero, List.getD_cons_succ, List.set_cons_zero, List.set_cons_succ, List.cons_append, List.nil_append] at hu
                    unfold plB at hu
                    simp only [hu]
                    simp only [absE, absL, absF, reduceCtorEq, ↓reduceIte, Nat.reduceEqDiff, Nat.reduceAdd, Nat.reduceLT, Nat.reduceMul, Nat.reduceSub, Nat.reduceLeDiff, Int.reduceLT, Int.reduceLE, Int.reduceEq, Option.isSome_some, implies_true, false_implies, Prod.mk.injEq, ne_eq, not_false_eq_true, not_true_eq_false, ge_iff_le, gt_iff_lt, Int.toNat_natCast, Int.reduceToNat, Int.cast_ofNat_Int, Int.natCast_nonneg, List.getD_cons_zero, List.getD_cons_succ, List.set_cons_zero, List.set_cons_succ, List.cons_append, List.nil_append, h96]
                    refine LoopNext.intro (x + 1, true, rec (p.set d (x : Int)) (u.set x true) (m.set (cl t d x) true) L', p.set d (x : Int)) ⟨by simp; omega, hgo.symm, by simp, fun _ => hq1, hpp, hpn⟩ (by simp; omega) ⟨[((8,0),(8,0)), ((96,0),(50,0))], rfl, ?_, ?_⟩
                    · simp [wkEnv, lk, renV, renTo, cA1, oA, oB, renCaps, renAt, renOut, idx, w]
                    · simp only [wkMem, List.map_cons, byC_to, blksF_ren, ren_dead]
                      simp [wkLoc, Mem.get, assoc, renBlk, renSegs, renSg, renTo, cA1, oA, oB, renCaps, renAt, renOut, idx, w, plB]
              · simp only [absE, absL, absF, reduceCtorEq, ↓reduceIte, Nat.reduceEqDiff, Nat.reduceAdd, Nat.reduceLT, Nat.reduceMul, Nat.reduceSub, Nat.reduceLeDiff, Int.reduceLT, Int.reduceLE, Int.reduceEq, Option.isSome_some, implies_true, false_implies, Prod.mk.injEq, ne_eq, not_false_eq_true, not_true_eq_false, ge_iff_le, gt_iff_lt, Int.toNat_natCast, Int.reduceToNat, Int.cast_ofNat_Int, Int.natCast_nonneg, List.getD_cons_zero, List.getD_cons_succ, List.set_cons_zero, List.set_cons_succ, List.cons_append, List.nil_append, cA1, oA, oB]
                refine LoopNext.intro (x + 1, false, L', p') ⟨by simp; omega, hL'.trans (srS_skip (.inr (.inr hu2))).symm, hc, hne, hp', hpl⟩ (by simp; omega) ⟨[((8,0),(8,0))], rfl, ?_, ?_⟩
                · simp [wkEnv, lk, renV, renTo, cA1, oA, oB, renCaps, renAt, renOut, idx, w]
                · simp only [wkMem, List.map_cons, byC_to, blksF_ren, ren_dead]
                  simp [wkLoc, Mem.get, assoc, renBlk, renSegs, renSg, renTo, cA1, oA, oB, renCaps, renAt, renOut, idx, w, plB]
            · simp only [absE, absL, absF, reduceCtorEq, ↓reduceIte, Nat.reduceEqDiff, Nat.reduceAdd, Nat.reduceLT, Nat.reduceMul, Nat.reduceSub, Nat.reduceLeDiff, Int.reduceLT, Int.reduceLE, Int.reduceEq, Option.isSome_some, implies_true, false_implies, Prod.mk.injEq, ne_eq, not_false_eq_true, not_true_eq_false, ge_iff_le, gt_iff_lt, Int.toNat_natCast, Int.reduceToNat, Int.cast_ofNat_Int, Int.natCast_nonneg, List.getD_cons_zero, List.getD_cons_succ, List.set_cons_zero, List.set_cons_succ, List.cons_append, List.nil_append, cA1, oA, oB]
              refine LoopNext.intro (x + 1, false, L', p') ⟨by simp; omega, hL'.trans (srS_skip (.inr (.inl hu1))).symm, hc, hne, hp', hpl⟩ (by simp; omega) ⟨[((8,0),(8,0))], rfl, ?_, ?_⟩
              · simp [wkEnv, lk, renV, renTo, cA1, oA, oB, renCaps, renAt, renOut, idx, w]
              · simp only [wkMem, List.map_cons, byC_to, blksF_ren, ren_dead]
                simp [wkLoc, Mem.get, assoc, renBlk, renSegs, renSg, renTo, cA1, oA, oB, renCaps, renAt, renOut, idx, w, plB]
          · obtain rfl : x = N := by omega
            have s0 : p'.set (0 + d * 1) (0 : Int) = p := by
              rw [Nat.zero_add, Nat.mul_one]; exact (hp' 0).trans (set_zero (hp0 d (Nat.le_refl d)))
            have u4 : 0 + d * 1 < 10 := by omega
            have hq := hL'.symm
            simp only [absE, absL, absF, reduceCtorEq, ↓reduceIte, Nat.reduceEqDiff, Nat.reduceAdd, Nat.reduceLT, Nat.reduceMul, Nat.reduceSub, Nat.reduceLeDiff, Int.reduceLT, Int.reduceLE, Int.reduceEq, Option.isSome_some, implies_true, false_implies, Prod.mk.injEq, ne_eq, not_false_eq_true, not_true_eq_false, ge_iff_le, gt_iff_lt, Int.toNat_natCast, Int.reduceToNat, Int.cast_ofNat_Int, Int.natCast_nonneg, List.getD_cons_zero, List.getD_cons_succ, List.set_cons_zero, List.set_cons_succ, List.cons_append, List.nil_append, h, hdi, u4, s0, hq, cA1, oA, oB, Try.results75]
            repeat first | refine And.intro (by decide +kernel) ?_ | refine And.intro (by omega) ?_
            refine ⟨[], by simp, by simp, fiA x t p (byC 6 LF (.sl 0 5 0 0 L'.length 10)) ++ [plB L'], ?_, rfl, by simp [renV], .inl ⟨hq, rfl, rfl⟩⟩
            simp only [List.map_cons, byC_fin, blksF_ren]
            simp [renBlk, renSegs, renSg, renAt, renFin, renCaps, idx, fiA, plB]
        · skip
          by_cases h : (x : Int) < N
          · have w := wrap_i64s (show x < 2 ^ 62 by omega)
            have hgx : x < N := by omega
            have hj := hs.cl_lt hd10 hgx
            have b1 : (bytesTo N).getD (0 + x * 1) 0 = (x : Int) := by rw [Nat.zero_add, Nat.mul_one]; exact bytesTo_get (by omega)
            have v1 : 0 + x * 1 < N := by omega
            have i1 : (x : Int) < 10 := by omega
            have u1 : 0 + d * 10 + x * 1 < 100 := by omega
            have u4 : 0 + d * 1 < 10 := by omega
            have k1 := sq_colget ht d x
            have hU : U < 2 ^ 10 := hu.1
            have hV : V < 2 ^ 10 := hv.1
            simp only [absE, absL, absF, reduceCtorEq, ↓reduceIte, Nat.reduceEqDiff, Nat.reduceAdd, Nat.reduceLT, Nat.reduceMul, Nat.reduceSub, Nat.reduceLeDiff, Int.reduceLT, Int.reduceLE, Int.reduceEq, Option.isSome_some, implies_true, false_implies, Prod.mk.injEq, ne_eq, not_false_eq_true, not_true_eq_false, ge_iff_le, gt_iff_lt, Int.toNat_natCast, Int.reduceToNat, Int.cast_ofNat_Int, Int.natCast_nonneg, List.getD_cons_zero, List.getD_cons_succ, List.set_cons_zero, List.set_cons_succ, List.cons_append, List.nil_append, h, b1, v1, i1, hdi, u1, k1, cA1, oA, oB]
            refine CallsVia.none (setHas_ok U x (by omega) (by omega)) ?_
            rintro _ _ _ ⟨rfl, rfl, rfl⟩
            rw [hu.2.2 x (by omega)]
            cases hu1 : u.getD x false
            · simp only [absE, absL, absF, reduceCtorEq, ↓reduceIte, Nat.reduceEqDiff, Nat.reduceAdd, Nat.reduceLT, Nat.reduceMul, Nat.reduceSub, Nat.reduceLeDiff, Int.reduceLT, Int.reduceLE, Int.reduceEq, Option.isSome_some, implies_true, false_implies, Prod.mk.injEq, ne_eq, not_false_eq_true, not_true_eq_false, ge_iff_le, gt_iff_lt, Int.toNat_natCast, Int.reduceToNat, Int.cast_ofNat_Int, Int.natCast_nonneg, List.getD_cons_zero, List.getD_cons_succ, List.set_cons_zero, List.set_cons_succ, List.cons_append, List.nil_append]
              refine CallsVia.none (setHas_ok V (cl t d x) (by omega) (by omega)) ?_
              rintro _ _ _ ⟨rfl, rfl, rfl⟩
              rw [hv.2.2 (cl t d x) (by omega)]
              cases hu2 : m.getD (cl t d x) false
              · have s3 : p'.set (0 + d * 1) (x : Int) = p.set d (x : Int) := by rw [Nat.zero_add, Nat.mul_one, hp']
                have wd := wrap_u8s (show d < 255 by omega)
                have q1 : (2 : Nat) ^ x < 2 ^ 10 := Nat.pow_lt_pow_right (by decide) (by omega)
                have q2 : (2 : Nat) ^ (cl t d x) < 2 ^ 10 := Nat.pow_lt_pow_right (by decide) (by omega)
                have t1 := wrap_shl (c := x) (by omega)
                have t2 := wrap_shl (c := cl t d x) (by omega)
                have o1 := wrap_or (a := U) (b := 2 ^ x) (by omega) (by omega)
                have o2 := wrap_or (a := V) (b := 2 ^ (cl t d x)) (by omega) (by omega)
                have hgo := srS_go (g := cl t) (lim := lmT) (rec := rec) (d := d) (p := p) (u := u) (m := m) (L := L) (x := x) rfl hu1 hu2
                rw [← hL'] at hgo
                have hb1 := hbnd x hgx hu1
                rw [← hL'] at hb1
                have hpp : ∀ z : Nat, (p.set d (x : Int)).set d (z : Int) = p.set d (z : Int) := fun z => by rw [List.set_set]
                have hpn : (p.set d (x : Int)).length = 10 := by rw [List.length_set]; exact hl1
                have hz0 : ∀ z, d + 1 ≤ z → (p.set d (x : Int)).getD z 0 = 0 := fun z hz => by
                  rw [getD_set_int (by rw [hl1]; omega), if_neg (by omega)]; exact hp0 z (by omega)
                have h000 : (p.set d (x : Int)).getD 0 0 = y := by rw [getD_set_int (by rw [hl1]; omega), if_neg (by omega)]; exact h00
                simp only [absE, absL, absF, reduceCtorEq, ↓reduceIte, Nat.reduceEqDiff, Nat.reduceAdd, Nat.reduceLT, Nat.reduceMul, Nat.reduceSub, Nat.reduceLeDiff, Int.reduceLT, Int.reduceLE, Int.reduceEq, Option.isSome_some, implies_true, false_implies, Prod.mk.injEq, ne_eq, not_false_eq_true, not_true_eq_false, ge_iff_le, gt_iff_lt, Int.toNat_natCast, Int.reduceToNat, Int.cast_ofNat_Int, Int.natCast_nonneg, List.getD_cons_zero, List.getD_cons_succ, List.set_cons_zero, List.set_cons_succ, List.cons_append, List.nil_append, hdi, u4, s3, wd, t1, t2, o1, o2, cA1, oA, oB]
                repeat first | refine And.intro (by decide +kernel) ?_ | refine And.intro (by omega) ?_
                have e1 := byC_in (F0 := [(0, 0), (0, 1), (0, 2), (0, 3), (0, 4), (50, 0)]) (b := 6) (bf := 6) (LF := LF) (A := .sl 50 0 0 0 L'.length 10) rfl (by simp)
                have e2 := byC_out (F0 := [(0, 0), (0, 1), (0, 2), (0, 3), (0, 4), (50, 0)]) (n := 96) (b := 6) (bf := 6) (LF := LF) (A := .sl 0 5 0 0 L'.length 10) rfl
                have e3 := byC_out (F0 := [(0, 0), (0, 1), (0, 2), (0, 3), (0, 4), (50, 0)]) (n := 96) (b := 6) (bf := 6) (LF := LF) (A := .sl 1 0 0 0 (rec (p.set d (x : Int)) (u.set x true) (m.set (cl t d x) true) L').length 10) rfl
                simp only [List.getD_cons_zero, List.getD_cons_succ, List.set_cons_zero, List.set_cons_succ, List.cons_append, List.nil_append] at e1
                simp only [List.getD_cons_zero, List.getD_cons_succ, List.set_cons_zero, List.set_cons_succ, List.cons_append, List.nil_append, renAt, renOut, Nat.one_ne_zero, if_true, if_false] at e2 e3
                have h96 : ¬ (96 : Nat) = 0 := by decide
                have h50 : ¬ (50 : Nat) = 0 := by decide
                refine CallsVia.tail (aP := [.lv true (sqS N t), .lv true [(0, .cells 1 [.fn 45 [(0, 4, 0, 0)]])], .lv true (plS (p.set d (x : Int))), .lv true [(0, .cells 1 [.fn 75 [(0, 0, 0, 0), (0, 1, 0, 0), (0, 2, 0, 0), (0, 3, 0, 0)]])], byC 6 LF (.sl 50 0 0 0 L'.length 10), .dead]) (b := 6) (bf := 6) [(0, 0), (0, 1), (0, 2), (0, 3), (0, 4), (50, 0)] rfl rfl (by simp) (by simp) (fun σ => blksF_ren) blksF_live (by simp [Mem.get, assoc, byC, plB]) (ih.2 (p.set d (x : Int)) (u.set x true) (m.set (cl t d x) true) (U ||| 2 ^ x) (V ||| 2 ^ (cl t d x)) L' (hp.set (by omega) (by omega)) hz0 h000 (hu.set (by omega)) (hv.set (by omega)) (hfrx x hgx hu1) (hne rfl) hb1) ?_ ?_ ?_
                · simp [renVs, renV, renAt, renIn, idx, renSegs, renSg]
                · simp only [List.map_cons, List.map_nil, Mem.get, assoc, if_true, List.getD_cons_zero, List.getD_cons_succ, List.set_cons_zero, List.set_cons_succ, List.cons_append, List.nil_append, plB_ren, e1]
                  simp [renBlk, renSegs, renSg, renCaps, renAt, renIn, idx, fiA, plB]
                · rintro r xs0 ns ⟨rfl, ⟨hq1, rfl, rfl⟩ | ⟨hq1, rfl, rfl⟩⟩ hx0 ups rd hu
                  · simp only [zipUps, newUps, plB_ren, e2, fiA, ren_dead, sqB_ren, plSB_ren, cell_ren, renAt, renCaps, renOut, List.getElem?_cons_zero, List.getElem?_cons_succ, Mem.upd, Mem.put, if_true, h96, h50, if_false, List.getD_cons_zero, List.getD_cons_succ, List.set_cons_zero, List.set_cons_succ, List.cons_append, List.nil_append] at hu
                    skip
                    simp only [hu]
                    simp only [absE, absL, absF, reduceCtorEq, ↓reduceIte, Nat.reduceEqDiff, Nat.reduceAdd, Nat.reduceLT, Nat.reduceMul, Nat.reduceSub, Nat.reduceLeDiff, Int.reduceLT, Int.reduceLE, Int.reduceEq, Option.isSome_some, implies_true, false_implies, Prod.mk.injEq, ne_eq, not_false_eq_true, not_true_eq_false, ge_iff_le, gt_iff_lt, Int.toNat_natCast, Int.reduceToNat, Int.cast_ofNat_Int, Int.natCast_nonneg, List.getD_cons_zero, List.getD_cons_succ, List.set_cons_zero, List.set_cons_succ, List.cons_append, List.nil_append, h96]
                    refine LoopNext.intro (x + 1, true, L', p.set d (x : Int)) ⟨by simp; omega, (hgo.trans hq1).symm, hc, hne, hpp, hpn⟩ (by simp; omega) ⟨[((8,0),(8,0)), ((50,0),(50,0))], rfl, ?_, ?_⟩
                    · simp [wkEnv, lk, renV, renTo, cA1, oA, oB, renCaps, renAt, renOut, idx, w]
                    · simp only [wkMem, List.map_cons, byC_to, blksF_ren, ren_dead]
                      simp [wkLoc, Mem.get, assoc, renBlk, renSegs, renSg, renTo, cA1, oA, oB, renCaps, renAt, renOut, idx, w, plB]
                  · simp only [zipUps, newUps, plB_ren, e3, fiA, ren_dead, sqB_ren, plSB_ren, cell_ren, renAt, renCaps, renOut, List.getElem?_cons_zero, List.getElem?_cons_succ, Mem.upd, Mem.put, if_true, h96, h50, if_false, List.getD_cons_zero, List.getD_cons_succ, List.set_cons_zero, List.set_cons_succ, List.cons_append, List.nil_append] at hu
                    skip
                    simp only [hu]
                    simp only [absE, absL, absF, reduceCtorEq, ↓reduceIte, Nat.reduceEqDiff, Nat.reduceAdd, Nat.reduceLT, Nat.reduceMul, Nat.reduceSub, Nat.reduceLeDiff, Int.reduceLT, Int.reduceLE, Int.reduceEq, Option.isSome_some, implies_true, false_implies, Prod.mk.injEq, ne_eq, not_false_eq_true, not_true_eq_false, ge_iff_le, gt_iff_lt, Int.toNat_natCast, Int.reduceToNat, Int.cast_ofNat_Int, Int.natCast_nonneg, List.getD_cons_zero, List.getD_cons_succ, List.set_cons_zero, List.set_cons_succ, List.cons_append, List.nil_append, h96]
                    refine LoopNext.intro (x + 1, true, rec (p.set d (x : Int)) (u.set x true) (m.set (cl t d x) true) L', p.set d (x : Int)) ⟨by simp; omega, hgo.symm, by simp, fun _ => hq1, hpp, hpn⟩ (by simp; omega) ⟨[((8,0),(8,0)), ((96,0),(50,0))], rfl, ?_, ?_⟩
                    · simp [wkEnv, lk, renV, renTo, cA1, oA, oB, renCaps, renAt, renOut, idx, w]
                    · simp only [wkMem, List.map_cons, byC_to, blksF_ren, ren_dead]
                      simp [wkLoc, Mem.get, assoc, renBlk, renSegs, renSg, renTo, cA1, oA, oB, renCaps, renAt, renOut, idx, w, plB]
              · simp only [absE, absL, absF, reduceCtorEq, ↓reduceIte, Nat.reduceEqDiff, Nat.reduceAdd, Nat.reduceLT, Nat.reduceMul, Nat.reduceSub, Nat.reduceLeDiff, Int.reduceLT, Int.reduceLE, Int.reduceEq, Option.isSome_some, implies_true, false_implies, Prod.mk.injEq, ne_eq, not_false_eq_true, not_true_eq_false, ge_iff_le, gt_iff_lt, Int.toNat_natCast, Int.reduceToNat, Int.cast_ofNat_Int, Int.natCast_nonneg, List.getD_cons_zero, List.getD_cons_succ, List.set_cons_zero, List.set_cons_succ, List.cons_append, List.nil_append, cA1, oA, oB]
                refine LoopNext.intro (x + 1, true, L', p') ⟨by simp; omega, hL'.trans (srS_skip (.inr (.inr hu2))).symm, hc, hne, hp', hpl⟩ (by simp; omega) ⟨[((8,0),(8,0)), ((50,0),(50,0))], rfl, ?_, ?_⟩
                · simp [wkEnv, lk, renV, renTo, cA1, oA, oB, renCaps, renAt, renOut, idx, w]
                · simp only [wkMem, List.map_cons, byC_to, blksF_ren, ren_dead]
                  simp [wkLoc, Mem.get, assoc, renBlk, renSegs, renSg, renTo, cA1, oA, oB, renCaps, renAt, renOut, idx, w, plB]
            · simp only [absE, absL, absF, reduceCtorEq, ↓reduceIte, Nat.reduceEqDiff, Nat.reduceAdd, Nat.reduceLT, Nat.reduceMul, Nat.reduceSub, Nat.reduceLeDiff, Int.reduceLT, Int.reduceLE, Int.reduceEq, Option.isSome_some, implies_true, false_implies, Prod.mk.injEq, ne_eq, not_false_eq_true, not_true_eq_false, ge_iff_le, gt_iff_lt, Int.toNat_natCast, Int.reduceToNat, Int.cast_ofNat_Int, Int.natCast_nonneg, List.getD_cons_zero, List.getD_cons_succ, List.set_cons_zero, List.set_cons_succ, List.cons_append, List.nil_append, cA1, oA, oB]
              refine LoopNext.intro (x + 1, true, L', p') ⟨by simp; omega, hL'.trans (srS_skip (.inr (.inl hu1))).symm, hc, hne, hp', hpl⟩ (by simp; omega) ⟨[((8,0),(8,0)), ((50,0),(50,0))], rfl, ?_, ?_⟩
              · simp [wkEnv, lk, renV, renTo, cA1, oA, oB, renCaps, renAt, renOut, idx, w]
              · simp only [wkMem, List.map_cons, byC_to, blksF_ren, ren_dead]
                simp [wkLoc, Mem.get, assoc, renBlk, renSegs, renSg, renTo, cA1, oA, oB, renCaps, renAt, renOut, idx, w, plB]
          · obtain rfl : x = N := by omega
            have s0 : p'.set (0 + d * 1) (0 : Int) = p := by
              rw [Nat.zero_add, Nat.mul_one]; exact (hp' 0).trans (set_zero (hp0 d (Nat.le_refl d)))
            have u4 : 0 + d * 1 < 10 := by omega
            have hq := hL'.symm
            simp only [absE, absL, absF, reduceCtorEq, ↓reduceIte, Nat.reduceEqDiff, Nat.reduceAdd, Nat.reduceLT, Nat.reduceMul, Nat.reduceSub, Nat.reduceLeDiff, Int.reduceLT, Int.reduceLE, Int.reduceEq, Option.isSome_some, implies_true, false_implies, Prod.mk.injEq, ne_eq, not_false_eq_true, not_true_eq_false, ge_iff_le, gt_iff_lt, Int.toNat_natCast, Int.reduceToNat, Int.cast_ofNat_Int, Int.natCast_nonneg, List.getD_cons_zero, List.getD_cons_succ, List.set_cons_zero, List.set_cons_succ, List.cons_append, List.nil_append, h, hdi, u4, s0, hq, cA1, oA, oB, Try.results75]
            repeat first | refine And.intro (by decide +kernel) ?_ | refine And.intro (by omega) ?_
            refine ⟨[(50, 0)], by simp, by simp, fiA x t p (byC 6 LF (.sl 1 0 0 0 L'.length 10)) ++ [.dead], ?_, rfl, by simp [renV], .inr ⟨by rw [hq]; exact hne rfl, by rw [hq], by rw [hq]; simp [Mem.get, assoc, plB, renBlk, renSegs, renSg]⟩⟩
            simp only [List.map_cons, byC_fin, blksF_ren]
            simp [renBlk, renSegs, renSg, renAt, renFin, renCaps, idx, fiA, plB]

end Go.Proofs.Ytjmenocghjggcaa
