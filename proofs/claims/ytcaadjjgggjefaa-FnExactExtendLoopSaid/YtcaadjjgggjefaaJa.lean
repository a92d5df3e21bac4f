/-
Contracts of functions of the given program, by the abstract walk.
-/
import Derived.Test.YtcaadjjgggjefaaAbsY
import Derived.Test.YtcaadjjgggjefaaFa
import Derived.Test.YtcaadjjgggjefaaDq
namespace Go.Proofs.Ytcaadjjgggjefaa
open Go Go.Abs
set_option linter.unusedVariables false
set_option linter.unusedSectionVars false
set_option linter.unusedSimpArgs false
set_option maxRecDepth 100000
/-! lists of lists that a law is handed -/
theorem put_same {m : Mem} {j : Nat} {B : Blk} (h : m.get 0 j = B) : m.put (0, j) B = m := by
  have h' : m.args.getD j .dead = B := h
  show { m with args := m.args.set j B } = m
  have e : m.args.set j B = m.args := by
    apply List.ext_getElem
    · simp
    · intro i h1 h2
      rw [List.getElem_set]
      split
      · rename_i e; subst e; simp [h2] at h'; exact h'.symm
      · rfl
  rw [e]
def szR (left : Int) (k : Nat) : Int := if left - k < 0 then -1 else left - k
theorem maxLen_le : maxLen < 2 ^ 63 := by decide
theorem szInts_nil (left : Int) (h0 : 0 ≤ left) (h1 : left ≤ 2 ^ 20) : ACalls Try.prog 77 [.ref .nils, .i .i64 left] [] (fun v ms ns => v = .i .i64 (szR left 0) ∧ ms = [] ∧ ns = []) := by
  have w : IntKind.i64.wrap left = left := wrap_i64 (by omega) (by omega)
  have w' : IntKind.i64.wrap (left - 0) = left := by rw [Int.sub_zero]; exact w
  have h : ¬ left < 0 := by omega
  have e : szR left 0 = left := by unfold szR; rw [if_neg (by omega)]; omega
  refine acalls_of_body mix Try.func77 rfl fok77 (Nat.le_of_ble_eq_true rfl) ?_
  unfold abody
  simp only [absE, absL, absF, reduceCtorEq, ↓reduceIte, Nat.reduceEqDiff, Nat.reduceAdd, Nat.reduceLT, Nat.reduceMul, Nat.reduceSub, Nat.reduceLeDiff, Int.reduceLT, Int.reduceLE, Int.reduceEq, Option.isSome_some, implies_true, false_implies, Prod.mk.injEq, ne_eq, not_false_eq_true, not_true_eq_false, ge_iff_le, gt_iff_lt, Int.toNat_natCast, Int.reduceToNat, Int.cast_ofNat_Int, Int.natCast_nonneg, w, w', h, Try.f77, Try.results77]
  exact ⟨[], by simp, by simp, by simp [renV, renVs, renSegs, renSg, e]⟩
theorem szInts_sl0 (left : Int) (h0 : 0 ≤ left) (h1 : left ≤ 2 ^ 20) : ACalls Try.prog 77 [.ref .sl0, .i .i64 left] [] (fun v ms ns => v = .i .i64 (szR left 0) ∧ ms = [] ∧ ns = []) := by
  have w : IntKind.i64.wrap left = left := wrap_i64 (by omega) (by omega)
  have w' : IntKind.i64.wrap (left - 0) = left := by rw [Int.sub_zero]; exact w
  have h : ¬ left < 0 := by omega
  have e : szR left 0 = left := by unfold szR; rw [if_neg (by omega)]; omega
  refine acalls_of_body mix Try.func77 rfl fok77 (Nat.le_of_ble_eq_true rfl) ?_
  unfold abody
  simp only [absE, absL, absF, reduceCtorEq, ↓reduceIte, Nat.reduceEqDiff, Nat.reduceAdd, Nat.reduceLT, Nat.reduceMul, Nat.reduceSub, Nat.reduceLeDiff, Int.reduceLT, Int.reduceLE, Int.reduceEq, Option.isSome_some, implies_true, false_implies, Prod.mk.injEq, ne_eq, not_false_eq_true, not_true_eq_false, ge_iff_le, gt_iff_lt, Int.toNat_natCast, Int.reduceToNat, Int.cast_ofNat_Int, Int.natCast_nonneg, w, w', h, Try.f77, Try.results77]
  exact ⟨[], by simp, by simp, by simp [renV, renVs, renSegs, renSg, e]⟩
theorem szInts_ok (k : Nat) (xs : List Int) (left : Int) (hk : k ≤ maxLen) (h0 : 0 ≤ left) (h1 : left ≤ 2 ^ 20) : ACalls Try.prog 77 [.ref (.sl 0 0 0 0 k 1), .i .i64 left] [.lv false [(0, .ints .i64 k xs)]] (fun v ms ns => v = .i .i64 (szR left k) ∧ ms = [.lv false [(0, .ints .i64 k xs)]] ∧ ns = []) := by
  have hm := maxLen_le
  have w : IntKind.i64.wrap (left - k) = left - k := wrap_i64 (by omega) (by omega)
  refine acalls_of_body mix Try.func77 rfl fok77 (Nat.le_of_ble_eq_true rfl) ?_
  unfold abody
  by_cases h : left - k < 0
  · have e : szR left k = -1 := by rw [szR, if_pos h]
    simp only [absE, absL, absF, reduceCtorEq, ↓reduceIte, Nat.reduceEqDiff, Nat.reduceAdd, Nat.reduceLT, Nat.reduceMul, Nat.reduceSub, Nat.reduceLeDiff, Int.reduceLT, Int.reduceLE, Int.reduceEq, Option.isSome_some, implies_true, false_implies, Prod.mk.injEq, ne_eq, not_false_eq_true, not_true_eq_false, ge_iff_le, gt_iff_lt, Int.toNat_natCast, Int.reduceToNat, Int.cast_ofNat_Int, Int.natCast_nonneg, w, h, Try.f77, Try.results77]
    exact ⟨[], by simp, by simp, by simp [renV, renBlk, renSegs, renSg, e]⟩
  · have e : szR left k = left - k := by rw [szR, if_neg h]
    simp only [absE, absL, absF, reduceCtorEq, ↓reduceIte, Nat.reduceEqDiff, Nat.reduceAdd, Nat.reduceLT, Nat.reduceMul, Nat.reduceSub, Nat.reduceLeDiff, Int.reduceLT, Int.reduceLE, Int.reduceEq, Option.isSome_some, implies_true, false_implies, Prod.mk.injEq, ne_eq, not_false_eq_true, not_true_eq_false, ge_iff_le, gt_iff_lt, Int.toNat_natCast, Int.reduceToNat, Int.cast_ofNat_Int, Int.natCast_nonneg, w, h, Try.f77, Try.results77]
    exact ⟨[], by simp, by simp, by simp [renV, renBlk, renSegs, renSg, e]⟩
theorem szInts_any {j : Nat} {A : Atom} {B : Blk} {xs : List Int} (hA : SlAny j A B xs) {m : Mem} (hg : m.get 0 j = B) (hx : xs.length ≤ maxLen) {left : Int} (h0 : 0 ≤ left) (h1 : left ≤ 2 ^ 20) {K : AV → Ups → List Abs.Id → Prop}
    (hK : ∀ ups rd, m.upd ups = m → K (.i .i64 (szR left xs.length)) ups rd) : CallsVia Try.prog 77 [.ref A, .i .i64 left] m K := by
  rcases hA with ⟨rfl, rfl⟩ | ⟨rfl, rfl⟩ | ⟨rfl, rfl⟩
  · refine CallsVia.none (szInts_nil left h0 h1) ?_
    rintro _ _ _ ⟨rfl, rfl, rfl⟩
    refine hK _ _ ?_
    rfl
  · refine CallsVia.none (szInts_sl0 left h0 h1) ?_
    rintro _ _ _ ⟨rfl, rfl, rfl⟩
    refine hK _ _ ?_
    rfl
  · refine CallsVia.args [(0, j)] (szInts_ok xs.length xs left hx h0 h1) (by simp) (by simp [hg]) (by simp [renVs, renV, renAt, renIn, idx]) (by simp [argBlks, hg, renBlk, renSegs, renSg]) ?_
    rintro _ _ _ ⟨rfl, rfl, rfl⟩
    refine hK _ _ ?_
    simp only [zipUps, newUps, List.append_nil, Mem.upd, renBlk, renSegs, renSg]
    exact put_same hg
theorem toInts_any {j : Nat} {A : Atom} {B : Blk} {xs : List Int} (hA : SlAny j A B xs) {m : Mem} (hg : m.get 0 j = B) (hx : xs.length ≤ 2 ^ 20) {K : AV → Ups → List Abs.Id → Prop}
    (hK : ∀ ups rd, m.upd ups = m.upd [((m.next, 0), ib xs)] → K (.ref (.sl m.next 0 0 0 xs.length 1)) ups rd) : CallsVia Try.prog 36 [.ref A] m K := by
  rcases hA with ⟨rfl, rfl⟩ | ⟨rfl, rfl⟩ | ⟨rfl, rfl⟩
  · refine CallsVia.none toInts_nil ?_
    rintro _ _ _ ⟨rfl, rfl, rfl⟩
    refine hK _ _ ?_
    rfl
  · refine CallsVia.none toInts_sl0 ?_
    rintro _ _ _ ⟨rfl, rfl, rfl⟩
    refine hK _ _ ?_
    rfl
  · refine CallsVia.args [(0, j)] (toInts_ok xs.length xs false rfl hx) (by simp) (by simp [hg]) (by simp [renVs, renV, renAt, renIn, idx]) (by simp [argBlks, hg, renBlk, renSegs, renSg]) ?_
    rintro _ _ _ ⟨rfl, rfl, rfl⟩
    refine hK _ _ ?_
    simp only [zipUps, newUps, List.nil_append, List.cons_append, Mem.upd, renBlk, renSegs, renSg]
    rw [put_same hg]; rfl
theorem msren {LL : LLs} {As : List Atom} {Bs : List Blk} (h : LArg LL As Bs) {σ : Ren} (hs : ∀ k, σ 0 k = some (0, k)) : (lms LL As Bs).map (renBlk σ) = lms LL As Bs := by
  simp only [lms, List.map_cons, renBlk, renSegs, renSg, (h.ren σ fun k _ => hs k).1, (h.ren σ fun k _ => hs k).2]
theorem renTo_zero {σ : List (Abs.Id × Abs.Id)} (k : Nat) : renTo σ 0 k = some (0, k) := by cases σ <;> simp [renTo]
theorem renFin_zero {keep : List Abs.Id} (k : Nat) : renFin keep 0 k = some (0, k) := by simp [renFin]
theorem LArg.get {LL : LLs} {As : List Atom} {Bs : List Blk} {i : Nat} : (lms LL As Bs).getD (1 + i) .dead = Bs.getD i .dead := by rw [lms, Nat.add_comm, List.getD_cons_succ]
theorem LArg.get0 {LL : LLs} {As : List Atom} {Bs : List Blk} : (lms LL As Bs).getD 0 .dead = .lv false [(0, .cells LL.length As)] := rfl
theorem szLists_nil (left : Int) (h0 : 0 ≤ left) (h1 : left ≤ 2 ^ 20) : ACalls Try.prog 40 [.ref .nils, .i .i64 left] [] (fun v ms ns => v = .i .i64 left ∧ ms = [] ∧ ns = []) := by
  have w : IntKind.i64.wrap (left - 0) = left := by rw [Int.sub_zero]; exact wrap_i64 (by omega) (by omega)
  have h : ¬ left < 0 := by omega
  refine acalls_of_body mix Try.func40 rfl fok40 (Nat.le_of_ble_eq_true rfl) ?_
  unfold abody
  simp only [absE, absL, absF, reduceCtorEq, ↓reduceIte, Nat.reduceEqDiff, Nat.reduceAdd, Nat.reduceLT, Nat.reduceMul, Nat.reduceSub, Nat.reduceLeDiff, Int.reduceLT, Int.reduceLE, Int.reduceEq, Option.isSome_some, implies_true, false_implies, Prod.mk.injEq, ne_eq, not_false_eq_true, not_true_eq_false, ge_iff_le, gt_iff_lt, Int.toNat_natCast, Int.reduceToNat, Int.cast_ofNat_Int, Int.natCast_nonneg, w, h, Try.f40]
  refine awpLoop.intro (fun i : Nat => [(0, .ref .nils), (1, .i .i64 left), (5, .i .i64 0)]) (fun i => ⟨[], [], 11⟩) (fun i => i = 0) (fun i => 0) 0 rfl ⟨[], rfl, ?_, ?_⟩ ?_
  · simp [wkEnv, lk, renV, renAt, renTo]
  · simp [wkMem, wkLoc, Mem.get, assoc, renBlk, renSegs, renSg, renTo]
  · rintro i rfl
    simp only [absE, absL, absF, reduceCtorEq, ↓reduceIte, Nat.reduceEqDiff, Nat.reduceAdd, Nat.reduceLT, Nat.reduceMul, Nat.reduceSub, Nat.reduceLeDiff, Int.reduceLT, Int.reduceLE, Int.reduceEq, Option.isSome_some, implies_true, false_implies, Prod.mk.injEq, ne_eq, not_false_eq_true, not_true_eq_false, ge_iff_le, gt_iff_lt, Int.toNat_natCast, Int.reduceToNat, Int.cast_ofNat_Int, Int.natCast_nonneg, Int.lt_irrefl, Try.results40]
    exact ⟨[], by simp, by simp, by simp [renV, renVs, renSegs, renSg]⟩
theorem toLists_nil : ACalls Try.prog 42 [.ref .nils] [] (fun v ms ns => v = .ref (.sl 1 0 0 0 0 1) ∧ ms = [] ∧ ns = [ob 1 1 []]) := by
  refine acalls_of_body mix Try.func42 rfl fok42 (Nat.le_of_ble_eq_true rfl) ?_
  unfold abody
  simp only [absE, absL, absF, reduceCtorEq, ↓reduceIte, Nat.reduceEqDiff, Nat.reduceAdd, Nat.reduceLT, Nat.reduceMul, Nat.reduceSub, Nat.reduceLeDiff, Int.reduceLT, Int.reduceLE, Int.reduceEq, Option.isSome_some, implies_true, false_implies, Prod.mk.injEq, ne_eq, not_false_eq_true, not_true_eq_false, ge_iff_le, gt_iff_lt, Int.toNat_natCast, Int.reduceToNat, Int.cast_ofNat_Int, Int.natCast_nonneg, Try.f42]
  repeat refine And.intro (by decide) ?_
  refine awpLoop.intro (fun i : Nat => [(0, .ref .nils), (3, .ref (.sl 4 0 0 0 0 1)), (4, .i .i64 0)]) (fun i => ⟨[], [((4, 0), .lv true ([(0, .cells 0 [])]))], 6⟩) (fun i => i = 0) (fun i => 0) 0 rfl ⟨[((4,0),(4,0))], rfl, ?_, ?_⟩ ?_
  · simp [wkEnv, lk, renV, renAt, renTo, zeroArr]
  · simp [wkMem, wkLoc, Mem.get, assoc, renBlk, renSegs, renSg, renTo, zeroArr]
  · rintro i rfl
    simp only [absE, absL, absF, reduceCtorEq, ↓reduceIte, Nat.reduceEqDiff, Nat.reduceAdd, Nat.reduceLT, Nat.reduceMul, Nat.reduceSub, Nat.reduceLeDiff, Int.reduceLT, Int.reduceLE, Int.reduceEq, Option.isSome_some, implies_true, false_implies, Prod.mk.injEq, ne_eq, not_false_eq_true, not_true_eq_false, ge_iff_le, gt_iff_lt, Int.toNat_natCast, Int.reduceToNat, Int.cast_ofNat_Int, Int.natCast_nonneg, Int.lt_irrefl, Try.results42]
    exact ⟨[(4, 0)], by simp, by simp, by simp [renV, renAt, renFin, idx], by simp, by simp [renBlk, renSegs, renSg, Mem.get, assoc, ob, outs]⟩
theorem szLists_sl0 (left : Int) (h0 : 0 ≤ left) (h1 : left ≤ 2 ^ 20) : ACalls Try.prog 40 [.ref .sl0, .i .i64 left] [] (fun v ms ns => v = .i .i64 left ∧ ms = [] ∧ ns = []) := by
  have w : IntKind.i64.wrap (left - 0) = left := by rw [Int.sub_zero]; exact wrap_i64 (by omega) (by omega)
  have h : ¬ left < 0 := by omega
  refine acalls_of_body mix Try.func40 rfl fok40 (Nat.le_of_ble_eq_true rfl) ?_
  unfold abody
  simp only [absE, absL, absF, reduceCtorEq, ↓reduceIte, Nat.reduceEqDiff, Nat.reduceAdd, Nat.reduceLT, Nat.reduceMul, Nat.reduceSub, Nat.reduceLeDiff, Int.reduceLT, Int.reduceLE, Int.reduceEq, Option.isSome_some, implies_true, false_implies, Prod.mk.injEq, ne_eq, not_false_eq_true, not_true_eq_false, ge_iff_le, gt_iff_lt, Int.toNat_natCast, Int.reduceToNat, Int.cast_ofNat_Int, Int.natCast_nonneg, w, h, Try.f40]
  refine awpLoop.intro (fun i : Nat => [(0, .ref .sl0), (1, .i .i64 left), (5, .i .i64 0)]) (fun i => ⟨[], [], 11⟩) (fun i => i = 0) (fun i => 0) 0 rfl ⟨[], rfl, ?_, ?_⟩ ?_
  · simp [wkEnv, lk, renV, renAt, renTo]
  · simp [wkMem, wkLoc, Mem.get, assoc, renBlk, renSegs, renSg, renTo]
  · rintro i rfl
    simp only [absE, absL, absF, reduceCtorEq, ↓reduceIte, Nat.reduceEqDiff, Nat.reduceAdd, Nat.reduceLT, Nat.reduceMul, Nat.reduceSub, Nat.reduceLeDiff, Int.reduceLT, Int.reduceLE, Int.reduceEq, Option.isSome_some, implies_true, false_implies, Prod.mk.injEq, ne_eq, not_false_eq_true, not_true_eq_false, ge_iff_le, gt_iff_lt, Int.toNat_natCast, Int.reduceToNat, Int.cast_ofNat_Int, Int.natCast_nonneg, Int.lt_irrefl, Try.results40]
    exact ⟨[], by simp, by simp, by simp [renV, renVs, renSegs, renSg]⟩
theorem toLists_sl0 : ACalls Try.prog 42 [.ref .sl0] [] (fun v ms ns => v = .ref (.sl 1 0 0 0 0 1) ∧ ms = [] ∧ ns = [ob 1 1 []]) := by
  refine acalls_of_body mix Try.func42 rfl fok42 (Nat.le_of_ble_eq_true rfl) ?_
  unfold abody
  simp only [absE, absL, absF, reduceCtorEq, ↓reduceIte, Nat.reduceEqDiff, Nat.reduceAdd, Nat.reduceLT, Nat.reduceMul, Nat.reduceSub, Nat.reduceLeDiff, Int.reduceLT, Int.reduceLE, Int.reduceEq, Option.isSome_some, implies_true, false_implies, Prod.mk.injEq, ne_eq, not_false_eq_true, not_true_eq_false, ge_iff_le, gt_iff_lt, Int.toNat_natCast, Int.reduceToNat, Int.cast_ofNat_Int, Int.natCast_nonneg, Try.f42]
  repeat refine And.intro (by decide) ?_
  refine awpLoop.intro (fun i : Nat => [(0, .ref .sl0), (3, .ref (.sl 4 0 0 0 0 1)), (4, .i .i64 0)]) (fun i => ⟨[], [((4, 0), .lv true ([(0, .cells 0 [])]))], 6⟩) (fun i => i = 0) (fun i => 0) 0 rfl ⟨[((4,0),(4,0))], rfl, ?_, ?_⟩ ?_
  · simp [wkEnv, lk, renV, renAt, renTo, zeroArr]
  · simp [wkMem, wkLoc, Mem.get, assoc, renBlk, renSegs, renSg, renTo, zeroArr]
  · rintro i rfl
    simp only [absE, absL, absF, reduceCtorEq, ↓reduceIte, Nat.reduceEqDiff, Nat.reduceAdd, Nat.reduceLT, Nat.reduceMul, Nat.reduceSub, Nat.reduceLeDiff, Int.reduceLT, Int.reduceLE, Int.reduceEq, Option.isSome_some, implies_true, false_implies, Prod.mk.injEq, ne_eq, not_false_eq_true, not_true_eq_false, ge_iff_le, gt_iff_lt, Int.toNat_natCast, Int.reduceToNat, Int.cast_ofNat_Int, Int.natCast_nonneg, Int.lt_irrefl, Try.results42]
    exact ⟨[(4, 0)], by simp, by simp, by simp [renV, renAt, renFin, idx], by simp, by simp [renBlk, renSegs, renSg, Mem.get, assoc, ob, outs]⟩
theorem szLists_ok (LL : LLs) (As : List Atom) (Bs : List Blk) (h : LArg LL As Bs) (hl : ∀ i, i < LL.length → (at_ LL i).length ≤ maxLen) (hm : LL.length ≤ maxLen) (left : Int) (h0 : 0 ≤ left) (h1 : left ≤ 2 ^ 20) :
    ACalls Try.prog 40 [.ref (.sl 0 0 0 0 LL.length 1), .i .i64 left] (lms LL As Bs) (fun v ms ns => (∃ r : Int, v = .i .i64 r ∧ (0 ≤ r → LL.length ≤ 2 ^ 20 ∧ ∀ i, i < LL.length → (at_ LL i).length ≤ 2 ^ 20)) ∧ ms = lms LL As Bs ∧ ns = []) := by
  have hmx := maxLen_le
  have w : IntKind.i64.wrap (left - LL.length) = left - LL.length := wrap_i64 (by omega) (by omega)
  refine acalls_of_body mix Try.func40 rfl fok40 (Nat.le_of_ble_eq_true rfl) ?_
  unfold abody
  by_cases hb : left - (LL.length : Nat) < 0
  · simp only [absE, absL, absF, reduceCtorEq, ↓reduceIte, Nat.reduceEqDiff, Nat.reduceAdd, Nat.reduceLT, Nat.reduceMul, Nat.reduceSub, Nat.reduceLeDiff, Int.reduceLT, Int.reduceLE, Int.reduceEq, Option.isSome_some, implies_true, false_implies, Prod.mk.injEq, ne_eq, not_false_eq_true, not_true_eq_false, ge_iff_le, gt_iff_lt, Int.toNat_natCast, Int.reduceToNat, Int.cast_ofNat_Int, Int.natCast_nonneg, w, hb, Try.f40, Try.results40]
    exact ⟨[], by simp, by simp, ⟨-1, by simp [renV], by omega⟩, msren h renFin_zero, by simp⟩
  · simp only [absE, absL, absF, reduceCtorEq, ↓reduceIte, Nat.reduceEqDiff, Nat.reduceAdd, Nat.reduceLT, Nat.reduceMul, Nat.reduceSub, Nat.reduceLeDiff, Int.reduceLT, Int.reduceLE, Int.reduceEq, Option.isSome_some, implies_true, false_implies, Prod.mk.injEq, ne_eq, not_false_eq_true, not_true_eq_false, ge_iff_le, gt_iff_lt, Int.toNat_natCast, Int.reduceToNat, Int.cast_ofNat_Int, Int.natCast_nonneg, w, hb, Try.f40]
    refine awpLoop.intro (fun a : Nat × Int => [(0, .ref (.sl 0 0 0 0 LL.length 1)), (1, .i .i64 a.2), (5, .i .i64 a.1)]) (fun i => ⟨lms LL As Bs, [], 11⟩)
      (fun a => a.1 ≤ LL.length ∧ 0 ≤ a.2 ∧ a.2 ≤ 2 ^ 20 ∧ ∀ i, i < a.1 → (at_ LL i).length ≤ 2 ^ 20) (fun a => LL.length - a.1) (0, left - LL.length) ⟨by simp, by simp only; omega, by simp only; omega, fun i hi => absurd hi (by simp)⟩ ⟨[], rfl, ?_, ?_⟩ ?_
    · simp [wkEnv, lk, renV, renAt, renTo]
    · exact congrArg (fun x => Mem.mk x [] 11) (msren h renTo_zero).symm
    · rintro ⟨i, l⟩ ⟨hi, g1, g2, g3⟩
      simp only at hi g1 g2 g3
      by_cases hi' : (i : Int) < LL.length
      · have w := wrap_i64s (show i < 2 ^ 62 by omega)
        have v1 : 0 + i * 1 < LL.length := by omega
        have e1 : As.getD (0 + i * 1) .top = As.getD i .top := by rw [Nat.zero_add, Nat.mul_one]
        simp only [absE, absL, absF, reduceCtorEq, ↓reduceIte, Nat.reduceEqDiff, Nat.reduceAdd, Nat.reduceLT, Nat.reduceMul, Nat.reduceSub, Nat.reduceLeDiff, Int.reduceLT, Int.reduceLE, Int.reduceEq, Option.isSome_some, implies_true, false_implies, Prod.mk.injEq, ne_eq, not_false_eq_true, not_true_eq_false, ge_iff_le, gt_iff_lt, Int.toNat_natCast, Int.reduceToNat, Int.cast_ofNat_Int, Int.natCast_nonneg, hi', v1, e1, LArg.get0]
        refine szInts_any (h.cell i (by omega)) (m := ⟨lms LL As Bs, _, _⟩) LArg.get (hl i (by omega)) g1 g2 ?_
        intro ups rd hu
        simp only [hu]
        by_cases hb2 : szR l (at_ LL i).length < 0
        · simp only [absE, absL, absF, reduceCtorEq, ↓reduceIte, Nat.reduceEqDiff, Nat.reduceAdd, Nat.reduceLT, Nat.reduceMul, Nat.reduceSub, Nat.reduceLeDiff, Int.reduceLT, Int.reduceLE, Int.reduceEq, Option.isSome_some, implies_true, false_implies, Prod.mk.injEq, ne_eq, not_false_eq_true, not_true_eq_false, ge_iff_le, gt_iff_lt, Int.toNat_natCast, Int.reduceToNat, Int.cast_ofNat_Int, Int.natCast_nonneg, hb2, Try.results40]
          exact ⟨[], by simp, by simp, ⟨-1, by simp [renV], by omega⟩, msren h renFin_zero, by simp⟩
        · simp only [absE, absL, absF, reduceCtorEq, ↓reduceIte, Nat.reduceEqDiff, Nat.reduceAdd, Nat.reduceLT, Nat.reduceMul, Nat.reduceSub, Nat.reduceLeDiff, Int.reduceLT, Int.reduceLE, Int.reduceEq, Option.isSome_some, implies_true, false_implies, Prod.mk.injEq, ne_eq, not_false_eq_true, not_true_eq_false, ge_iff_le, gt_iff_lt, Int.toNat_natCast, Int.reduceToNat, Int.cast_ofNat_Int, Int.natCast_nonneg, hb2]
          have hr : (at_ LL i).length ≤ 2 ^ 20 ∧ szR l (at_ LL i).length ≤ 2 ^ 20 := by
            unfold szR at hb2 ⊢
            split at hb2
            · omega
            · rename_i hh; rw [if_neg hh]; omega
          refine LoopNext.intro (i + 1, szR l (at_ LL i).length) ⟨by simp only; omega, by simp only; omega, hr.2, fun j hj => ?_⟩ (by simp only; omega) ⟨[], rfl, ?_, ?_⟩
          · by_cases ej : j = i
            · subst ej; exact hr.1
            · exact g3 j (by simp only at hj; omega)
          · simp [wkEnv, lk, renV, renAt, renTo, w]
          · exact congrArg (fun x => Mem.mk x [] 11) (msren h renTo_zero).symm
      · have e : i = LL.length := by omega
        simp only [absE, absL, absF, reduceCtorEq, ↓reduceIte, Nat.reduceEqDiff, Nat.reduceAdd, Nat.reduceLT, Nat.reduceMul, Nat.reduceSub, Nat.reduceLeDiff, Int.reduceLT, Int.reduceLE, Int.reduceEq, Option.isSome_some, implies_true, false_implies, Prod.mk.injEq, ne_eq, not_false_eq_true, not_true_eq_false, ge_iff_le, gt_iff_lt, Int.toNat_natCast, Int.reduceToNat, Int.cast_ofNat_Int, Int.natCast_nonneg, hi', Try.results40]
        exact ⟨[], by simp, by simp, ⟨l, by simp [renV], fun _ => ⟨by omega, fun j hj => g3 j (by omega)⟩⟩, msren h renFin_zero, by simp⟩

end Go.Proofs.Ytcaadjjgggjefaa
