/-
Contracts of functions of the given program, by the abstract walk.
-/
import Derived.Test.YtjmenocghjggcaaAbsY
import Derived.Test.YtjmenocghjggcaaOh
namespace Go.Proofs.Ytjmenocghjggcaa
open Go Go.Abs
set_option linter.unusedVariables false
set_option linter.unusedSectionVars false
set_option linter.unusedSimpArgs false
set_option maxRecDepth 100000
/-! mates: the closure that sorts transversals by their first place -/
def byC (b : Nat) (LF : List (List (List Int))) (A : Atom) : Blk := .lv true [(0, .cells 10 (cellsF 0 b LF ++ A :: List.replicate (9 - LF.length) .nils))]
theorem cells_len {b : Nat} {LF : List (List (List Int))} {A : Atom} (h : LF.length < 10) : (cellsF 0 b LF ++ A :: List.replicate (9 - LF.length) .nils).length = 10 := by
  rw [List.length_append, cellsF_len, List.length_cons, List.length_replicate]; omega
theorem cells_at {b : Nat} {LF : List (List (List Int))} {A : Atom} : (cellsF 0 b LF ++ A :: List.replicate (9 - LF.length) .nils).getD LF.length .top = A := by
  rw [List.getD_eq_getElem?_getD, List.getElem?_append_right (by rw [cellsF_len]; exact Nat.le_refl _), cellsF_len]; simp
theorem cells_set {b : Nat} {LF : List (List (List Int))} {A A' : Atom} : (cellsF 0 b LF ++ A :: List.replicate (9 - LF.length) .nils).set LF.length A' = cellsF 0 b LF ++ A' :: List.replicate (9 - LF.length) .nils := by
  rw [List.set_append_right _ _ (by rw [cellsF_len]; exact Nat.le_refl _), cellsF_len]; simp
theorem cells_ren {b b' : Nat} {LF : List (List (List Int))} {A : Atom} {σ : Ren} (h : ∀ i, i < (blksF LF).length → σ 0 (b + i) = some (0, b' + i)) : (cellsF 0 b LF ++ A :: List.replicate (9 - LF.length) .nils).map (renAt σ) = cellsF 0 b' LF ++ renAt σ A :: List.replicate (9 - LF.length) .nils := by
  rw [List.map_append, cellsF_ren h, List.map_cons, List.map_replicate]; rfl
theorem byC_ren {b b' : Nat} {LF : List (List (List Int))} {A : Atom} {σ : Ren} (h : ∀ i, i < (blksF LF).length → σ 0 (b + i) = some (0, b' + i)) : renBlk σ (byC b LF A) = byC b' LF (renAt σ A) := by
  simp only [byC, renBlk, renSegs, renSg, cells_ren h]
theorem sort0_ok (p : List Int) (y : Nat) (LF : List (List (List Int))) (hp : p.length = 10) (hy : y < 10) (hl : LF.length = y) (h0 : p.getD 0 0 = y) :
    ACalls Try.prog 45 [.agg (plS p), .ref (.ptr 0 0 0 0)] ([byC 1 LF .nils] ++ blksF LF)
      (fun v ms ns => ∃ xs0, ms = xs0 ++ blksF LF ∧ xs0.length = 1 ∧ v = .b false ∧ xs0 = [byC 1 LF (.sl 1 0 0 0 1 10)] ∧ ns = [plB [p]]) := by
  subst hl
  have hc1 := cells_at (b := 1) (LF := LF) (A := .nils)
  have hc2 := cells_set (b := 1) (LF := LF) (A := .nils) (A' := .sl 11 0 0 0 1 10)
  have hre : ∀ (keep : List Abs.Id) (A : Atom), renBlk (renFin keep) (byC 1 LF A) = byC 1 LF (renAt (renFin keep) A) := fun keep A => byC_ren fun i _ => renFin_zero _
  have yi : (LF.length : Int) < 10 := by omega
  have p0 : p.getD (0 + 0 * 1) 0 = (LF.length : Int) := h0
  have v1 : 0 + LF.length * 1 < 10 := by omega
  have v2 : 0 + LF.length * 1 + 1 ≤ 10 := by omega
  have hix : 0 + LF.length * 1 = LF.length := by omega
  unfold byC
  generalize hcs : cellsF 0 1 LF ++ Atom.nils :: List.replicate (9 - LF.length) Atom.nils = cs at hc1 hc2
  rw [← hix] at hc1 hc2
  refine acalls_of_body mix Try.func45 rfl fok45 (Nat.le_of_ble_eq_true rfl) ?_
  unfold abody
  simp only [absE, absL, absF, reduceCtorEq, ↓reduceIte, Nat.reduceEqDiff, Nat.reduceAdd, Nat.reduceLT, Nat.reduceMul, Nat.reduceSub, Nat.reduceLeDiff, Int.reduceLT, Int.reduceLE, Int.reduceEq, Option.isSome_some, implies_true, false_implies, Prod.mk.injEq, ne_eq, not_false_eq_true, not_true_eq_false, ge_iff_le, gt_iff_lt, Int.toNat_natCast, Int.reduceToNat, Int.cast_ofNat_Int, Int.natCast_nonneg, List.cons_append, List.nil_append, List.getD_cons_zero, List.set_cons_zero, p0, yi, v1, v2, hc1, hc2, Try.f45, Try.results45]
  repeat refine And.intro (by decide +kernel) ?_
  rw [hix]
  refine ⟨[(11, 0)], by simp, by simp, [byC 1 LF (.sl 1 0 0 0 1 10)], ?_, rfl, by simp [renV], rfl, by simp [renBlk, renSegs, renSg, Mem.get, assoc, plB]⟩
  have := hre [(11, 0)] (.sl 11 0 0 0 1 10)
  simp only [byC] at this ⊢
  simp only [List.map_cons, this, blksF_ren]
  simp [renAt, renFin, idx]
theorem sort1_ok (p : List Int) (y : Nat) (LF : List (List (List Int))) (L : List (List Int)) (hLl : L.length ≤ 1000000) (hp : p.length = 10) (hy : y < 10) (hl : LF.length = y) (h0 : p.getD 0 0 = y) :
    ACalls Try.prog 45 [.agg (plS p), .ref (.ptr 0 0 0 0)] ([byC 2 LF (.sl 0 1 0 0 L.length 10), plB L] ++ blksF LF)
      (fun v ms ns => ∃ xs0, ms = xs0 ++ blksF LF ∧ xs0.length = 2 ∧ v = .b false ∧ xs0 = [byC 2 LF (.sl 1 0 0 0 (L.length + 1) 10), .dead] ∧ ns = [plB (L ++ [p])]) := by
  subst hl
  have hc1 := cells_at (b := 2) (LF := LF) (A := .sl 0 1 0 0 L.length 10)
  have hc2 := cells_set (b := 2) (LF := LF) (A := .sl 0 1 0 0 L.length 10) (A' := .sl 11 0 0 0 (L.length + 1) 10)
  have hre : ∀ (keep : List Abs.Id) (A : Atom), renBlk (renFin keep) (byC 2 LF A) = byC 2 LF (renAt (renFin keep) A) := fun keep A => byC_ren fun i _ => renFin_zero _
  have yi : (LF.length : Int) < 10 := by omega
  have p0 : p.getD (0 + 0 * 1) 0 = (LF.length : Int) := h0
  have v1 : 0 + LF.length * 1 < 10 := by omega
  have v2 : 0 + LF.length * 1 + 1 ≤ 10 := by omega
  have hix : 0 + LF.length * 1 = LF.length := by omega
  have mL : L.length * 10 + 10 = (L.length + 1) * 10 := by omega
  unfold byC plB
  generalize hcs : cellsF 0 2 LF ++ Atom.sl 0 1 0 0 L.length 10 :: List.replicate (9 - LF.length) Atom.nils = cs at hc1 hc2
  rw [← hix] at hc1 hc2
  refine acalls_of_body mix Try.func45 rfl fok45 (Nat.le_of_ble_eq_true rfl) ?_
  unfold abody
  simp only [absE, absL, absF, reduceCtorEq, ↓reduceIte, Nat.reduceEqDiff, Nat.reduceAdd, Nat.reduceLT, Nat.reduceMul, Nat.reduceSub, Nat.reduceLeDiff, Int.reduceLT, Int.reduceLE, Int.reduceEq, Option.isSome_some, implies_true, false_implies, Prod.mk.injEq, ne_eq, not_false_eq_true, not_true_eq_false, ge_iff_le, gt_iff_lt, Int.toNat_natCast, Int.reduceToNat, Int.cast_ofNat_Int, Int.natCast_nonneg, List.cons_append, List.nil_append, List.getD_cons_zero, List.getD_cons_succ, List.set_cons_zero, List.set_cons_succ, p0, yi, v1, v2, hc1, hc2, Try.f45, Try.results45]
  repeat first | refine And.intro (by omega) ?_ | refine And.intro (by decide +kernel) ?_
  rw [hix]
  refine ⟨[(11, 0)], by simp, by simp, [byC 2 LF (.sl 1 0 0 0 (L.length + 1) 10), .dead], ?_, rfl, by simp [renV], rfl, by simp [renBlk, renSegs, renSg, Mem.get, assoc, plB, Nat.add_mul]⟩
  have := hre [(11, 0)] (.sl 11 0 0 0 (L.length + 1) 10)
  simp only [byC] at this ⊢
  simp only [List.map_cons, this, blksF_ren]
  simp [renAt, renFin, idx, renBlk]

end Go.Proofs.Ytjmenocghjggcaa
