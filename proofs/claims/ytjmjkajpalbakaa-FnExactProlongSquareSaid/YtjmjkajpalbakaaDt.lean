/-
Contracts of functions of the given program, by the abstract walk.
-/
import Derived.Test.YtjmjkajpalbakaaAbsV
import Derived.Test.YtjmjkajpalbakaaCo
import Derived.Test.YtjmjkajpalbakaaCl
namespace Go.Proofs.Ytjmjkajpalbakaa
open Go Go.Abs
set_option linter.unusedVariables false
set_option linter.unusedSectionVars false
set_option linter.unusedSimpArgs false
set_option maxRecDepth 100000
/-- The entries of a square along a permutation. -/
def dg (t c : List Int) (x : Nat) : Nat := cl t x (pl c x)
def TvP (N : Nat) (t c : List Int) : Prop := ∀ x, x < N → ∀ y, y < x → dg t c y ≠ dg t c x
open Classical in
noncomputable def tvB (N : Nat) (t c : List Int) : Bool := decide (TvP N t c)
theorem tvB_true {N : Nat} {t c : List Int} (h : TvP N t c) : tvB N t c = true := by unfold tvB; exact @decide_eq_true _ (_) h
theorem tvB_false {N : Nat} {t c : List Int} (h : ¬TvP N t c) : tvB N t c = false := by unfold tvB; exact @decide_eq_false _ (_) h
theorem tvB_iff {N : Nat} {t c : List Int} : tvB N t c = true ↔ TvP N t c := by unfold tvB; exact @decide_eq_true_iff _ (_)
theorem pl_lt_n {N : Nat} {p : List Int} (h : PermP N p) {i : Nat} (hi : i < N) : pl p i < N := by
  have h2 := h.2.1
  have := h.2.2 i (by omega)
  unfold permAt at this
  rw [if_pos (by omega)] at this
  have h3 : (N : Int).toNat = N := by omega
  omega
theorem cl_lt_n {N : Nat} {t : List Int} (h : SqP N t) {x y : Nat} (hx : x < N) (hy : y < N) : cl t x y < N := by
  have h2 := h.2.1
  have := (h.2.2 x (by omega)).1 y (by omega)
  rw [if_pos (by omega)] at this
  omega
theorem dg_lt {N : Nat} {t c : List Int} (hs : SqP N t) (hp : PermP N c) {x : Nat} (hx : x < N) : dg t c x < N := cl_lt_n hs hx (pl_lt_n hp hx)

theorem l08Transversal_ok (N : Nat) (t c : List Int) (ht : Bytes 100 t) (hc : Bytes 10 c) (hs : SqP N t) (pp : PermP N c) :
    ACalls Try.prog 51 [.agg (sqS N t), .agg (plS c)] [] (fun v ms ns => v = .b (tvB N t c) ∧ ms = [] ∧ ns = []) := by
  have hN : N ≤ 10 := by have := hs.2.1; omega
  refine acalls_of_body mix Try.func51 rfl fok51 (Nat.le_of_ble_eq_true rfl) ?_
  unfold abody
  simp only [absE, absL, absF, reduceCtorEq, ↓reduceIte, Nat.reduceEqDiff, Nat.reduceAdd, Nat.reduceLT, Nat.reduceMul, Nat.reduceSub, Nat.reduceLeDiff, Int.reduceLT, Int.reduceLE, Int.reduceEq, Option.isSome_some, implies_true, false_implies, Prod.mk.injEq, ne_eq, not_false_eq_true, not_true_eq_false, ge_iff_le, gt_iff_lt, Int.toNat_natCast, Int.cast_ofNat_Int, Int.natCast_nonneg, Try.f51]
  refine awpLoop.intro (fun a : Nat × List Bool => [(2, .ref (.ptr 1 0 0 0)), (3, .ref (.ptr 2 0 0 0)), (5, .ref (.ptr 5 0 0 0)), (6, .i .i64 a.1)]) (fun a => ⟨[], [((1, 0), .lv true (sqS N t)), ((2, 0), .lv true (plS c)), ((5, 0), .lv true [(0, .bools 10 a.2)])], 6⟩)
    (fun a => a.1 ≤ N ∧ a.2.length = 10 ∧ (∀ j, a.2.getD j false = true ↔ ∃ k, k < a.1 ∧ dg t c k = j) ∧ ∀ i, i < a.1 → ∀ y, y < i → dg t c y ≠ dg t c i) (fun a => N - a.1) (0, List.replicate 10 false) ⟨by omega, by simp, fun j => by rw [getD_repf]; exact ⟨fun h => (by cases h), fun ⟨k, h, _⟩ => absurd h (by simp)⟩, fun x' h => absurd h (by simp)⟩ ⟨[((1,0),(1,0)), ((2,0),(2,0)), ((5,0),(5,0))], rfl, ?_, ?_⟩ ?_
  · simp [wkEnv, lk, renV, renAt, renTo]
  · simp [wkMem, wkLoc, Mem.get, assoc, renBlk, renSegs, renSg, renTo]
  · rintro ⟨x, m⟩ ⟨hx, hm, hs', ha⟩
    simp only at hx hm hs' ha
    by_cases h : (x : Int) < N
    · have w : IntKind.i64.wrap ((x : Int) + 1) = ((x + 1 : Nat) : Int) := by rw [wrap_i64 (by omega) (by omega)]; omega
      have j1 := permP_lt pp h
      have j3 := dg_lt hs pp (show x < N by omega)
      have k1 : c.getD (0 + x * 1) 0 = (pl c x : Int) := by rw [Nat.zero_add, Nat.mul_one]; exact hc.place x
      have k3 : t.getD (0 + x * 10 + pl c x * 1) 0 = (dg t c x : Int) := by rw [Nat.zero_add, Nat.mul_one]; exact ht.cell x _
      have i1 : (x : Int) < 10 := by omega
      have l1 : (pl c x : Int) < 10 := by omega
      have l3 : (dg t c x : Int) < 10 := by omega
      have u1 : 0 + x * 1 < 10 := by omega
      have u3 : 0 + x * 10 + pl c x * 1 < 100 := by omega
      have u4 : 0 + dg t c x * 1 < 10 := by omega
      cases hmet : m.getD (0 + dg t c x * 1) false
      · simp only [absE, absL, absF, reduceCtorEq, ↓reduceIte, Nat.reduceEqDiff, Nat.reduceAdd, Nat.reduceLT, Nat.reduceMul, Nat.reduceSub, Nat.reduceLeDiff, Int.reduceLT, Int.reduceLE, Int.reduceEq, Option.isSome_some, implies_true, false_implies, Prod.mk.injEq, ne_eq, not_false_eq_true, not_true_eq_false, ge_iff_le, gt_iff_lt, Int.toNat_natCast, Int.cast_ofNat_Int, Int.natCast_nonneg, h, i1, k1, k3, l1, l3, u1, u3, u4, hmet]
        refine ⟨by omega, LoopNext.intro (x + 1, m.set (0 + dg t c x * 1) true) ⟨by simp only; omega, by simpa using hm, fun j => ?_, fun j hj => ?_⟩ (by simp only; omega) ⟨[((1,0),(1,0)), ((2,0),(2,0)), ((5,0),(5,0))], rfl, ?_, ?_⟩⟩
        · simp only
          rw [getD_setb (by omega)]
          split
          · rename_i e
            exact ⟨fun _ => ⟨x, by omega, by omega⟩, fun _ => rfl⟩
          · rename_i e
            rw [hs']
            refine ⟨fun ⟨k, h1, h2⟩ => ⟨k, by omega, h2⟩, fun ⟨k, h1, h3⟩ => ⟨k, ?_, h3⟩⟩
            have : k ≠ x := fun e2 => by subst e2; omega
            omega
        · by_cases e : j = x
          · subst e
            intro y hy e
            have := (hs' (dg t c j)).2 ⟨y, hy, e⟩
            rw [show dg t c j = 0 + dg t c j * 1 by omega, hmet] at this
            cases this
          · exact ha j (by simp only at hj; omega)
        · simp [wkEnv, lk, renV, renAt, renTo, w]
        · simp [wkMem, wkLoc, Mem.get, assoc, renBlk, renSegs, renSg, renTo]
      · simp only [absE, absL, absF, reduceCtorEq, ↓reduceIte, Nat.reduceEqDiff, Nat.reduceAdd, Nat.reduceLT, Nat.reduceMul, Nat.reduceSub, Nat.reduceLeDiff, Int.reduceLT, Int.reduceLE, Int.reduceEq, Option.isSome_some, implies_true, false_implies, Prod.mk.injEq, ne_eq, not_false_eq_true, not_true_eq_false, ge_iff_le, gt_iff_lt, Int.toNat_natCast, Int.cast_ofNat_Int, Int.natCast_nonneg, h, i1, k1, k3, l1, l3, u1, u3, u4, hmet, Try.results51]
        refine fin_false (tvB_false fun hq => ?_)
        obtain ⟨k, hk, e⟩ := (hs' (dg t c x)).1 (by simpa using hmet)
        exact hq x (by omega) k hk e
    · simp only [absE, absL, absF, reduceCtorEq, ↓reduceIte, Nat.reduceEqDiff, Nat.reduceAdd, Nat.reduceLT, Nat.reduceMul, Nat.reduceSub, Nat.reduceLeDiff, Int.reduceLT, Int.reduceLE, Int.reduceEq, Option.isSome_some, implies_true, false_implies, Prod.mk.injEq, ne_eq, not_false_eq_true, not_true_eq_false, ge_iff_le, gt_iff_lt, Int.toNat_natCast, Int.cast_ofNat_Int, Int.natCast_nonneg, h, Try.results51]
      exact fin_true (tvB_true fun j hj => ha j (by omega))

end Go.Proofs.Ytjmjkajpalbakaa
