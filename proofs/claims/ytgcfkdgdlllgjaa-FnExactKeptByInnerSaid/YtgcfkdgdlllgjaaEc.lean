/-
Contracts of functions of the given program, by the abstract walk.
-/
import Derived.Test.YtgcfkdgdlllgjaaAbsW
import Derived.Test.YtgcfkdgdlllgjaaDn
import Derived.Test.YtgcfkdgdlllgjaaDu
import Derived.Test.YtgcfkdgdlllgjaaCm
namespace Go.Proofs.Ytgcfkdgdlllgjaa
open Go Go.Abs
set_option linter.unusedVariables false
set_option linter.unusedSectionVars false
set_option linter.unusedSimpArgs false
set_option maxRecDepth 100000
def odg (N : Nat) (t p : List Int) (x : Nat) : Nat := cl t (invN N t x) (pl p x)
theorem odg_lt {N : Nat} {t p : List Int} (hs : SqP N t) (hp : PermP N p) {x : Nat} (hx : x < N) : odg N t p x < N := cl_lt_n hs (invN_lt hs hx) (pl_lt_n hp hx)
def OrP (N : Nat) (t p : List Int) : Prop := ∀ x, x < N → ∀ y, y < x → odg N t p y ≠ odg N t p x
open Classical in
noncomputable def orB (N : Nat) (t p : List Int) : Bool := decide (OrP N t p)
theorem orB_true {N : Nat} {t c : List Int} (h : OrP N t c) : orB N t c = true := by unfold orB; exact @decide_eq_true _ (_) h
theorem orB_false {N : Nat} {t c : List Int} (h : ¬OrP N t c) : orB N t c = false := by unfold orB; exact @decide_eq_false _ (_) h
theorem orB_iff {N : Nat} {t c : List Int} : orB N t c = true ↔ OrP N t c := by unfold orB; exact @decide_eq_true_iff _ (_)
theorem implRight0_ok (N : Nat) (t : List Int) (x : Nat) (ht : Bytes 100 t) (hs : SqP N t) (hx : x < N) :
    ACalls Try.prog 64 [.agg (sqS N t), .i .u8 0, .i .u8 x] [] (fun v ms ns => v = .i .u8 (invN N t x) ∧ ms = [] ∧ ns = []) := implRight_ok N t 0 x ht hs hs.pos hx
theorem isOrtho_ok (N : Nat) (t p : List Int) (ht : Bytes 100 t) (hc : Bytes 10 p) (hs : SqP N t) (pp : PermP N p) :
    ACalls Try.prog 60 [.agg (sqS N t), .agg (plS p)] [] (fun v ms ns => v = .b (orB N t p) ∧ ms = [] ∧ ns = []) := by
  have hN := hs.le
  refine acalls_of_body mix Try.func60 rfl fok60 (Nat.le_of_ble_eq_true rfl) ?_
  unfold abody
  simp only [absE, absL, absF, reduceCtorEq, ↓reduceIte, Nat.reduceEqDiff, Nat.reduceAdd, Nat.reduceLT, Nat.reduceMul, Nat.reduceSub, Nat.reduceLeDiff, Int.reduceLT, Int.reduceLE, Int.reduceEq, Option.isSome_some, implies_true, false_implies, Prod.mk.injEq, ne_eq, not_false_eq_true, not_true_eq_false, ge_iff_le, gt_iff_lt, Int.toNat_natCast, Int.reduceToNat, Int.cast_ofNat_Int, Int.natCast_nonneg, Try.f60]
  refine CallsVia.none (elements_ok N t hN) ?_
  rintro _ _ _ ⟨rfl, rfl, rfl⟩
  simp only [absE, absL, absF, reduceCtorEq, ↓reduceIte, Nat.reduceEqDiff, Nat.reduceAdd, Nat.reduceLT, Nat.reduceMul, Nat.reduceSub, Nat.reduceLeDiff, Int.reduceLT, Int.reduceLE, Int.reduceEq, Option.isSome_some, implies_true, false_implies, Prod.mk.injEq, ne_eq, not_false_eq_true, not_true_eq_false, ge_iff_le, gt_iff_lt, Int.toNat_natCast, Int.reduceToNat, Int.cast_ofNat_Int, Int.natCast_nonneg]
  refine awpLoop.intro (fun x : Nat => [(2, .ref (.ptr 1 0 0 0)), (3, .ref (.ptr 2 0 0 0)), (5, .i .i64 (mask (odg N t p) x : Nat)), (9, .ref (.sl 6 0 0 0 N 1)), (10, .i .i64 N), (11, .i .i64 x)]) (fun x => ⟨[], [((1, 0), .lv true (sqS N t)), ((2, 0), .lv true (plS p)), ((6, 0), .lv true ([(0, .ints .u8 N (bytesTo N))]))], 9⟩)
    (fun x => x ≤ N) (fun x => N - x) 0 (by omega) ⟨[((1,0),(1,0)), ((2,0),(2,0)), ((6,0),(6,0))], rfl, ?_, ?_⟩ ?_
  · simp [wkEnv, lk, renV, renAt, renTo, mask]
  · simp [wkMem, wkLoc, Mem.get, assoc, renBlk, renSegs, renSg, renTo, mask]
  · intro x hx
    by_cases h : (x : Int) < N
    · have w := wrap_i64s (show x < 2 ^ 62 by omega)
      have b1 : (bytesTo N).getD (0 + x * 1) 0 = (x : Int) := by rw [Nat.zero_add, Nat.mul_one]; exact bytesTo_get (by omega)
      have v1 : 0 + x * 1 < N := by omega
      have j1 := pl_lt_n pp (show x < N by omega)
      have j2 := invN_lt hs (show x < N by omega)
      have j3 := odg_lt hs pp (show x < N by omega)
      have k1 : p.getD (0 + x * 1) 0 = (pl p x : Int) := by rw [Nat.zero_add, Nat.mul_one]; exact hc.place x
      have k3 : t.getD (0 + invN N t x * 10 + pl p x * 1) 0 = (odg N t p x : Int) := sq_colget ht _ _
      have i1 : (x : Int) < 10 := by omega
      have i2 : (invN N t x : Int) < 10 := by omega
      have i3 : (pl p x : Int) < 10 := by omega
      have u1 : 0 + x * 1 < 10 := by omega
      have u3 : 0 + invN N t x * 10 + pl p x * 1 < 100 := by omega
      have s1 := wrap_shl (c := odg N t p x) (by omega)
      have p10 : (2 : Nat) ^ N ≤ 2 ^ 10 := Nat.pow_le_pow_right (by decide) (by omega)
      have m1 : mask (odg N t p) x < 2 ^ N := mask_lt fun j hj => odg_lt hs pp (by omega)
      have q1 : (2 : Nat) ^ odg N t p x < 2 ^ 10 := Nat.pow_lt_pow_right (by decide) (by omega)
      have o1 := wrap_or (a := mask (odg N t p) x) (b := 2 ^ odg N t p x) (by omega) (by omega)
      have z1 : (0 : Int) ≤ (odg N t p x : Int) := by omega
      simp only [absE, absL, absF, reduceCtorEq, ↓reduceIte, Nat.reduceEqDiff, Nat.reduceAdd, Nat.reduceLT, Nat.reduceMul, Nat.reduceSub, Nat.reduceLeDiff, Int.reduceLT, Int.reduceLE, Int.reduceEq, Option.isSome_some, implies_true, false_implies, Prod.mk.injEq, ne_eq, not_false_eq_true, not_true_eq_false, ge_iff_le, gt_iff_lt, Int.toNat_natCast, Int.reduceToNat, Int.cast_ofNat_Int, Int.natCast_nonneg, h, b1, v1]
      refine CallsX.none (implRight0_ok N t x ht hs (by omega)) ?_
      simp only [absE, absL, absF, reduceCtorEq, ↓reduceIte, Nat.reduceEqDiff, Nat.reduceAdd, Nat.reduceLT, Nat.reduceMul, Nat.reduceSub, Nat.reduceLeDiff, Int.reduceLT, Int.reduceLE, Int.reduceEq, Option.isSome_some, implies_true, false_implies, Prod.mk.injEq, ne_eq, not_false_eq_true, not_true_eq_false, ge_iff_le, gt_iff_lt, Int.toNat_natCast, Int.reduceToNat, Int.cast_ofNat_Int, Int.natCast_nonneg, i1, i2, i3, k1, k3, u1, u3, z1, s1, o1]
      refine LoopNext.intro (x + 1) (by omega) (by omega) ⟨[((1,0),(1,0)), ((2,0),(2,0)), ((6,0),(6,0))], rfl, ?_, ?_⟩
      · simp [wkEnv, lk, renV, renAt, renTo, w, mask]
      · simp [wkMem, wkLoc, Mem.get, assoc, renBlk, renSegs, renSg, renTo, w, mask]
    · have hxN : x = N := by omega
      subst hxN
      simp only [absE, absL, absF, reduceCtorEq, ↓reduceIte, Nat.reduceEqDiff, Nat.reduceAdd, Nat.reduceLT, Nat.reduceMul, Nat.reduceSub, Nat.reduceLeDiff, Int.reduceLT, Int.reduceLE, Int.reduceEq, Option.isSome_some, implies_true, false_implies, Prod.mk.injEq, ne_eq, not_false_eq_true, not_true_eq_false, ge_iff_le, gt_iff_lt, Int.toNat_natCast, Int.reduceToNat, Int.cast_ofNat_Int, Int.natCast_nonneg, h]
      refine CallsVia.none (all_ok x t hN) ?_
      rintro _ _ _ ⟨rfl, rfl, rfl⟩
      simp only [absE, absL, absF, reduceCtorEq, ↓reduceIte, Nat.reduceEqDiff, Nat.reduceAdd, Nat.reduceLT, Nat.reduceMul, Nat.reduceSub, Nat.reduceLeDiff, Int.reduceLT, Int.reduceLE, Int.reduceEq, Option.isSome_some, implies_true, false_implies, Prod.mk.injEq, ne_eq, not_false_eq_true, not_true_eq_false, ge_iff_le, gt_iff_lt, Int.toNat_natCast, Int.reduceToNat, Int.cast_ofNat_Int, Int.natCast_nonneg, Try.results60]
      refine fin_b ?_ rfl
      rw [Bool.eq_iff_iff, orB_iff, decide_eq_true_iff]
      have hm := mask_full (n := x) (f := odg x t p) (fun i hi => odg_lt hs pp hi)
      unfold OrP
      rw [← hm]
      constructor
      · intro e; rw [e]
      · intro e; omega
theorem l08Ortho_ok (N : Nat) (t c : List Int) (ht : Bytes 100 t) (hc : Bytes 10 c) (hs : SqP N t) (pp : PermP N c) :
    ACalls Try.prog 58 [.agg (sqS N t), .agg (plS c)] [] (fun v ms ns => v = .b (orB N t c) ∧ ms = [] ∧ ns = []) := by
  have hN := hs.le
  refine acalls_of_body mix Try.func58 rfl fok58 (Nat.le_of_ble_eq_true rfl) ?_
  unfold abody
  simp only [absE, absL, absF, reduceCtorEq, ↓reduceIte, Nat.reduceEqDiff, Nat.reduceAdd, Nat.reduceLT, Nat.reduceMul, Nat.reduceSub, Nat.reduceLeDiff, Int.reduceLT, Int.reduceLE, Int.reduceEq, Option.isSome_some, implies_true, false_implies, Prod.mk.injEq, ne_eq, not_false_eq_true, not_true_eq_false, ge_iff_le, gt_iff_lt, Int.toNat_natCast, Int.reduceToNat, Int.cast_ofNat_Int, Int.natCast_nonneg, Try.f58]
  refine awpLoop.intro (fun a : Nat × List Bool => [(2, .ref (.ptr 1 0 0 0)), (3, .ref (.ptr 2 0 0 0)), (5, .ref (.ptr 5 0 0 0)), (6, .i .i64 a.1)]) (fun a => ⟨[], [((1, 0), .lv true (sqS N t)), ((2, 0), .lv true (plS c)), ((5, 0), .lv true ([(0, .bools 10 a.2)]))], 8⟩)
    (fun a => a.1 ≤ N ∧ a.2.length = 10 ∧ (∀ j, a.2.getD j false = true ↔ ∃ k, k < a.1 ∧ odg N t c k = j) ∧ ∀ i, i < a.1 → ∀ y, y < i → odg N t c y ≠ odg N t c i) (fun a => N - a.1) (0, List.replicate 10 false) ⟨by omega, by simp, fun j => by rw [getD_repf]; exact ⟨fun h => (by cases h), fun ⟨k, h, _⟩ => absurd h (by simp)⟩, fun x' h => absurd h (by simp)⟩ ⟨[((1,0),(1,0)), ((2,0),(2,0)), ((5,0),(5,0))], rfl, ?_, ?_⟩ ?_
  · simp [wkEnv, lk, renV, renAt, renTo]
  · simp [wkMem, wkLoc, Mem.get, assoc, renBlk, renSegs, renSg, renTo]
  · rintro ⟨x, m⟩ ⟨hx, hm, hs', ha⟩
    simp only at hx hm hs' ha
    by_cases h : (x : Int) < N
    · have w := wrap_i64s (show x < 2 ^ 62 by omega)
      have w8 := wrap_u8n (show x < 256 by omega)
      have j1 := pl_lt_n pp (show x < N by omega)
      have j2 := invN_lt hs (show x < N by omega)
      have j3 := odg_lt hs pp (show x < N by omega)
      have k1 : c.getD (0 + x * 1) 0 = (pl c x : Int) := by rw [Nat.zero_add, Nat.mul_one]; exact hc.place x
      have k3 : t.getD (0 + invN N t x * 10 + pl c x * 1) 0 = (odg N t c x : Int) := sq_colget ht _ _
      have i1 : (x : Int) < 10 := by omega
      have i2 : (invN N t x : Int) < 10 := by omega
      have l1 : (pl c x : Int) < 10 := by omega
      have l3 : (odg N t c x : Int) < 10 := by omega
      have u1 : 0 + x * 1 < 10 := by omega
      have u3 : 0 + invN N t x * 10 + pl c x * 1 < 100 := by omega
      have u4 : 0 + odg N t c x * 1 < 10 := by omega
      cases hmet : m.getD (0 + odg N t c x * 1) false
      · simp only [absE, absL, absF, reduceCtorEq, ↓reduceIte, Nat.reduceEqDiff, Nat.reduceAdd, Nat.reduceLT, Nat.reduceMul, Nat.reduceSub, Nat.reduceLeDiff, Int.reduceLT, Int.reduceLE, Int.reduceEq, Option.isSome_some, implies_true, false_implies, Prod.mk.injEq, ne_eq, not_false_eq_true, not_true_eq_false, ge_iff_le, gt_iff_lt, Int.toNat_natCast, Int.reduceToNat, Int.cast_ofNat_Int, Int.natCast_nonneg, h, w8]
        refine CallsX.none (l08Inverse_ok N t x ht hs (by omega)) ?_
        simp only [absE, absL, absF, reduceCtorEq, ↓reduceIte, Nat.reduceEqDiff, Nat.reduceAdd, Nat.reduceLT, Nat.reduceMul, Nat.reduceSub, Nat.reduceLeDiff, Int.reduceLT, Int.reduceLE, Int.reduceEq, Option.isSome_some, implies_true, false_implies, Prod.mk.injEq, ne_eq, not_false_eq_true, not_true_eq_false, ge_iff_le, gt_iff_lt, Int.toNat_natCast, Int.reduceToNat, Int.cast_ofNat_Int, Int.natCast_nonneg, i1, i2, k1, k3, l1, l3, u1, u3, u4, hmet]
        refine ⟨by omega, LoopNext.intro (x + 1, m.set (0 + odg N t c x * 1) true) ⟨by simp only; omega, by simpa using hm, fun j => ?_, fun j hj => ?_⟩ (by simp only; omega) ⟨[((1,0),(1,0)), ((2,0),(2,0)), ((5,0),(5,0))], rfl, ?_, ?_⟩⟩
        · simp only
          rw [getD_setb (by omega)]
          split
          · rename_i e
            exact ⟨fun _ => ⟨x, by omega, by omega⟩, fun _ => rfl⟩
          · rename_i e
            rw [hs']
            refine ⟨fun ⟨k, h1, h2⟩ => ⟨k, by omega, h2⟩, fun ⟨k, h1, h3⟩ => ⟨k, ?_, h3⟩⟩
            have : k ≠ x := fun e2 => by subst e2; omega
            omega
        · by_cases e : j = x
          · subst e
            intro y hy e
            have := (hs' (odg N t c j)).2 ⟨y, hy, e⟩
            rw [show odg N t c j = 0 + odg N t c j * 1 by omega, hmet] at this
            cases this
          · exact ha j (by simp only at hj; omega)
        · simp [wkEnv, lk, renV, renAt, renTo, w]
        · simp [wkMem, wkLoc, Mem.get, assoc, renBlk, renSegs, renSg, renTo, w]
      · simp only [absE, absL, absF, reduceCtorEq, ↓reduceIte, Nat.reduceEqDiff, Nat.reduceAdd, Nat.reduceLT, Nat.reduceMul, Nat.reduceSub, Nat.reduceLeDiff, Int.reduceLT, Int.reduceLE, Int.reduceEq, Option.isSome_some, implies_true, false_implies, Prod.mk.injEq, ne_eq, not_false_eq_true, not_true_eq_false, ge_iff_le, gt_iff_lt, Int.toNat_natCast, Int.reduceToNat, Int.cast_ofNat_Int, Int.natCast_nonneg, h, w8]
        refine CallsX.none (l08Inverse_ok N t x ht hs (by omega)) ?_
        simp only [absE, absL, absF, reduceCtorEq, ↓reduceIte, Nat.reduceEqDiff, Nat.reduceAdd, Nat.reduceLT, Nat.reduceMul, Nat.reduceSub, Nat.reduceLeDiff, Int.reduceLT, Int.reduceLE, Int.reduceEq, Option.isSome_some, implies_true, false_implies, Prod.mk.injEq, ne_eq, not_false_eq_true, not_true_eq_false, ge_iff_le, gt_iff_lt, Int.toNat_natCast, Int.reduceToNat, Int.cast_ofNat_Int, Int.natCast_nonneg, i1, i2, k1, k3, l1, l3, u1, u3, u4, hmet, Try.results58]
        refine fin_false (orB_false fun hq => ?_)
        obtain ⟨k, hk, e⟩ := (hs' (odg N t c x)).1 (by simpa using hmet)
        exact hq x (by omega) k hk e
    · simp only [absE, absL, absF, reduceCtorEq, ↓reduceIte, Nat.reduceEqDiff, Nat.reduceAdd, Nat.reduceLT, Nat.reduceMul, Nat.reduceSub, Nat.reduceLeDiff, Int.reduceLT, Int.reduceLE, Int.reduceEq, Option.isSome_some, implies_true, false_implies, Prod.mk.injEq, ne_eq, not_false_eq_true, not_true_eq_false, ge_iff_le, gt_iff_lt, Int.toNat_natCast, Int.reduceToNat, Int.cast_ofNat_Int, Int.natCast_nonneg, h, Try.results58]
      exact fin_true (orB_true fun j hj => ha j (by omega))
theorem l08Group_ok (n : Int) (t : List Int) (ht : Bytes 100 t) : ACalls Try.prog 103 [.agg (sqS n t)] [] (fun v ms ns => v = .i .i64 (gcode n t) ∧ ms = [] ∧ ns = []) := by
  refine acalls_of_body mix Try.func103 rfl fok103 (Nat.le_of_ble_eq_true rfl) ?_
  unfold abody
  simp only [absE, absL, absF, reduceCtorEq, ↓reduceIte, Nat.reduceEqDiff, Nat.reduceAdd, Nat.reduceLT, Nat.reduceMul, Nat.reduceSub, Nat.reduceLeDiff, Int.reduceLT, Int.reduceLE, Int.reduceEq, Option.isSome_some, implies_true, false_implies, Prod.mk.injEq, ne_eq, not_false_eq_true, not_true_eq_false, ge_iff_le, gt_iff_lt, Int.toNat_natCast, Int.reduceToNat, Int.cast_ofNat_Int, Int.natCast_nonneg, Try.f103]
  refine CallsVia.none (l01Is_ok n t ht) ?_
  rintro _ _ _ ⟨rfl, rfl, rfl⟩
  cases h1 : sqB n t
  · simp only [absE, absL, absF, reduceCtorEq, ↓reduceIte, Nat.reduceEqDiff, Nat.reduceAdd, Nat.reduceLT, Nat.reduceMul, Nat.reduceSub, Nat.reduceLeDiff, Int.reduceLT, Int.reduceLE, Int.reduceEq, Option.isSome_some, implies_true, false_implies, Prod.mk.injEq, ne_eq, not_false_eq_true, not_true_eq_false, ge_iff_le, gt_iff_lt, Int.toNat_natCast, Int.reduceToNat, Int.cast_ofNat_Int, Int.natCast_nonneg, Try.results103]
    exact ⟨[], by simp, by simp, by simp [renV, renVs, renSegs, renSg, gcode, h1]⟩
  · have hs := sqB_iff.1 h1
    obtain ⟨N, rfl⟩ : ∃ N : Nat, n = N := ⟨n.toNat, by have := hs.1; omega⟩
    simp only [absE, absL, absF, reduceCtorEq, ↓reduceIte, Nat.reduceEqDiff, Nat.reduceAdd, Nat.reduceLT, Nat.reduceMul, Nat.reduceSub, Nat.reduceLeDiff, Int.reduceLT, Int.reduceLE, Int.reduceEq, Option.isSome_some, implies_true, false_implies, Prod.mk.injEq, ne_eq, not_false_eq_true, not_true_eq_false, ge_iff_le, gt_iff_lt, Int.toNat_natCast, Int.reduceToNat, Int.cast_ofNat_Int, Int.natCast_nonneg]
    refine CallsVia.none (l01Loop_ok N t ht) ?_
    rintro _ _ _ ⟨rfl, rfl, rfl⟩
    cases h2 : loopB N t
    · simp only [absE, absL, absF, reduceCtorEq, ↓reduceIte, Nat.reduceEqDiff, Nat.reduceAdd, Nat.reduceLT, Nat.reduceMul, Nat.reduceSub, Nat.reduceLeDiff, Int.reduceLT, Int.reduceLE, Int.reduceEq, Option.isSome_some, implies_true, false_implies, Prod.mk.injEq, ne_eq, not_false_eq_true, not_true_eq_false, ge_iff_le, gt_iff_lt, Int.toNat_natCast, Int.reduceToNat, Int.cast_ofNat_Int, Int.natCast_nonneg, Try.results103]
      exact ⟨[], by simp, by simp, by simp [renV, renVs, renSegs, renSg, gcode, h1, groupB, h2]⟩
    · simp only [absE, absL, absF, reduceCtorEq, ↓reduceIte, Nat.reduceEqDiff, Nat.reduceAdd, Nat.reduceLT, Nat.reduceMul, Nat.reduceSub, Nat.reduceLeDiff, Int.reduceLT, Int.reduceLE, Int.reduceEq, Option.isSome_some, implies_true, false_implies, Prod.mk.injEq, ne_eq, not_false_eq_true, not_true_eq_false, ge_iff_le, gt_iff_lt, Int.toNat_natCast, Int.reduceToNat, Int.cast_ofNat_Int, Int.natCast_nonneg]
      refine CallsVia.none (l01Group_ok N t ht hs) ?_
      rintro _ _ _ ⟨rfl, rfl, rfl⟩
      cases h3 : assocB N t
      · simp only [absE, absL, absF, reduceCtorEq, ↓reduceIte, Nat.reduceEqDiff, Nat.reduceAdd, Nat.reduceLT, Nat.reduceMul, Nat.reduceSub, Nat.reduceLeDiff, Int.reduceLT, Int.reduceLE, Int.reduceEq, Option.isSome_some, implies_true, false_implies, Prod.mk.injEq, ne_eq, not_false_eq_true, not_true_eq_false, ge_iff_le, gt_iff_lt, Int.toNat_natCast, Int.reduceToNat, Int.cast_ofNat_Int, Int.natCast_nonneg, Try.results103]
        exact ⟨[], by simp, by simp, by simp [renV, renVs, renSegs, renSg, gcode, h1, groupB, h2, h3]⟩
      · simp only [absE, absL, absF, reduceCtorEq, ↓reduceIte, Nat.reduceEqDiff, Nat.reduceAdd, Nat.reduceLT, Nat.reduceMul, Nat.reduceSub, Nat.reduceLeDiff, Int.reduceLT, Int.reduceLE, Int.reduceEq, Option.isSome_some, implies_true, false_implies, Prod.mk.injEq, ne_eq, not_false_eq_true, not_true_eq_false, ge_iff_le, gt_iff_lt, Int.toNat_natCast, Int.reduceToNat, Int.cast_ofNat_Int, Int.natCast_nonneg, Try.results103]
        exact ⟨[], by simp, by simp, by simp [renV, renVs, renSegs, renSg, gcode, h1, groupB, h2, h3]⟩
noncomputable def ocd (n : Int) (t p : List Int) : Int := if sqB n t && permB n p then gcode n t else 1
theorem ocd_zero {n : Int} {t p : List Int} (h : ocd n t p = 0) : SqP n t ∧ PermP n p := by
  unfold ocd at h
  split at h
  · rename_i h1
    rw [Bool.and_eq_true] at h1
    exact ⟨sqB_iff.1 h1.1, permB_iff.1 h1.2⟩
  · omega
theorem implOCode_ok (n : Int) (t p : List Int) (ht : Bytes 100 t) (hp : Bytes 10 p) : ACalls Try.prog 59 [.agg (sqS n t), .agg (plS p)] [] (fun v ms ns => v = .i .i64 (ocd n t p) ∧ ms = [] ∧ ns = []) := by
  refine acalls_of_body mix Try.func59 rfl fok59 (Nat.le_of_ble_eq_true rfl) ?_
  unfold abody
  simp only [absE, absL, absF, reduceCtorEq, ↓reduceIte, Nat.reduceEqDiff, Nat.reduceAdd, Nat.reduceLT, Nat.reduceMul, Nat.reduceSub, Nat.reduceLeDiff, Int.reduceLT, Int.reduceLE, Int.reduceEq, Option.isSome_some, implies_true, false_implies, Prod.mk.injEq, ne_eq, not_false_eq_true, not_true_eq_false, ge_iff_le, gt_iff_lt, Int.toNat_natCast, Int.reduceToNat, Int.cast_ofNat_Int, Int.natCast_nonneg, Try.f59]
  refine CallsVia.none (isSquare_ok n t ht) ?_
  rintro _ _ _ ⟨rfl, rfl, rfl⟩
  cases h1 : sqB n t
  · simp only [absE, absL, absF, reduceCtorEq, ↓reduceIte, Nat.reduceEqDiff, Nat.reduceAdd, Nat.reduceLT, Nat.reduceMul, Nat.reduceSub, Nat.reduceLeDiff, Int.reduceLT, Int.reduceLE, Int.reduceEq, Option.isSome_some, implies_true, false_implies, Prod.mk.injEq, ne_eq, not_false_eq_true, not_true_eq_false, ge_iff_le, gt_iff_lt, Int.toNat_natCast, Int.reduceToNat, Int.cast_ofNat_Int, Int.natCast_nonneg, Try.results59]
    exact ⟨[], by simp, by simp, by simp [renV, renVs, renSegs, renSg, ocd, h1]⟩
  · simp only [absE, absL, absF, reduceCtorEq, ↓reduceIte, Nat.reduceEqDiff, Nat.reduceAdd, Nat.reduceLT, Nat.reduceMul, Nat.reduceSub, Nat.reduceLeDiff, Int.reduceLT, Int.reduceLE, Int.reduceEq, Option.isSome_some, implies_true, false_implies, Prod.mk.injEq, ne_eq, not_false_eq_true, not_true_eq_false, ge_iff_le, gt_iff_lt, Int.toNat_natCast, Int.reduceToNat, Int.cast_ofNat_Int, Int.natCast_nonneg]
    refine CallsVia.none (isPermutation_ok p n hp) ?_
    rintro _ _ _ ⟨rfl, rfl, rfl⟩
    cases h2 : permB n p
    · simp only [absE, absL, absF, reduceCtorEq, ↓reduceIte, Nat.reduceEqDiff, Nat.reduceAdd, Nat.reduceLT, Nat.reduceMul, Nat.reduceSub, Nat.reduceLeDiff, Int.reduceLT, Int.reduceLE, Int.reduceEq, Option.isSome_some, implies_true, false_implies, Prod.mk.injEq, ne_eq, not_false_eq_true, not_true_eq_false, ge_iff_le, gt_iff_lt, Int.toNat_natCast, Int.reduceToNat, Int.cast_ofNat_Int, Int.natCast_nonneg, Try.results59]
      exact ⟨[], by simp, by simp, by simp [renV, renVs, renSegs, renSg, ocd, h1, h2]⟩
    · simp only [absE, absL, absF, reduceCtorEq, ↓reduceIte, Nat.reduceEqDiff, Nat.reduceAdd, Nat.reduceLT, Nat.reduceMul, Nat.reduceSub, Nat.reduceLeDiff, Int.reduceLT, Int.reduceLE, Int.reduceEq, Option.isSome_some, implies_true, false_implies, Prod.mk.injEq, ne_eq, not_false_eq_true, not_true_eq_false, ge_iff_le, gt_iff_lt, Int.toNat_natCast, Int.reduceToNat, Int.cast_ofNat_Int, Int.natCast_nonneg]
      refine CallsVia.none (groupCodeOf_ok n t ht) ?_
      rintro _ _ _ ⟨rfl, rfl, rfl⟩
      simp only [absE, absL, absF, reduceCtorEq, ↓reduceIte, Nat.reduceEqDiff, Nat.reduceAdd, Nat.reduceLT, Nat.reduceMul, Nat.reduceSub, Nat.reduceLeDiff, Int.reduceLT, Int.reduceLE, Int.reduceEq, Option.isSome_some, implies_true, false_implies, Prod.mk.injEq, ne_eq, not_false_eq_true, not_true_eq_false, ge_iff_le, gt_iff_lt, Int.toNat_natCast, Int.reduceToNat, Int.cast_ofNat_Int, Int.natCast_nonneg, Try.results59]
      exact ⟨[], by simp, by simp, by simp [renV, renVs, renSegs, renSg, ocd, h1, h2]⟩
theorem specOCode_ok (n : Int) (t p : List Int) (ht : Bytes 100 t) (hp : Bytes 10 p) : ACalls Try.prog 57 [.agg (sqS n t), .agg (plS p)] [] (fun v ms ns => v = .i .i64 (ocd n t p) ∧ ms = [] ∧ ns = []) := by
  refine acalls_of_body mix Try.func57 rfl fok57 (Nat.le_of_ble_eq_true rfl) ?_
  unfold abody
  simp only [absE, absL, absF, reduceCtorEq, ↓reduceIte, Nat.reduceEqDiff, Nat.reduceAdd, Nat.reduceLT, Nat.reduceMul, Nat.reduceSub, Nat.reduceLeDiff, Int.reduceLT, Int.reduceLE, Int.reduceEq, Option.isSome_some, implies_true, false_implies, Prod.mk.injEq, ne_eq, not_false_eq_true, not_true_eq_false, ge_iff_le, gt_iff_lt, Int.toNat_natCast, Int.reduceToNat, Int.cast_ofNat_Int, Int.natCast_nonneg, Try.f57]
  refine CallsVia.none (l01Is_ok n t ht) ?_
  rintro _ _ _ ⟨rfl, rfl, rfl⟩
  cases h1 : sqB n t
  · simp only [absE, absL, absF, reduceCtorEq, ↓reduceIte, Nat.reduceEqDiff, Nat.reduceAdd, Nat.reduceLT, Nat.reduceMul, Nat.reduceSub, Nat.reduceLeDiff, Int.reduceLT, Int.reduceLE, Int.reduceEq, Option.isSome_some, implies_true, false_implies, Prod.mk.injEq, ne_eq, not_false_eq_true, not_true_eq_false, ge_iff_le, gt_iff_lt, Int.toNat_natCast, Int.reduceToNat, Int.cast_ofNat_Int, Int.natCast_nonneg, Try.results57]
    exact ⟨[], by simp, by simp, by simp [renV, renVs, renSegs, renSg, ocd, h1]⟩
  · simp only [absE, absL, absF, reduceCtorEq, ↓reduceIte, Nat.reduceEqDiff, Nat.reduceAdd, Nat.reduceLT, Nat.reduceMul, Nat.reduceSub, Nat.reduceLeDiff, Int.reduceLT, Int.reduceLE, Int.reduceEq, Option.isSome_some, implies_true, false_implies, Prod.mk.injEq, ne_eq, not_false_eq_true, not_true_eq_false, ge_iff_le, gt_iff_lt, Int.toNat_natCast, Int.reduceToNat, Int.cast_ofNat_Int, Int.natCast_nonneg]
    refine CallsVia.none (l01Perm_ok p n hp) ?_
    rintro _ _ _ ⟨rfl, rfl, rfl⟩
    cases h2 : permB n p
    · simp only [absE, absL, absF, reduceCtorEq, ↓reduceIte, Nat.reduceEqDiff, Nat.reduceAdd, Nat.reduceLT, Nat.reduceMul, Nat.reduceSub, Nat.reduceLeDiff, Int.reduceLT, Int.reduceLE, Int.reduceEq, Option.isSome_some, implies_true, false_implies, Prod.mk.injEq, ne_eq, not_false_eq_true, not_true_eq_false, ge_iff_le, gt_iff_lt, Int.toNat_natCast, Int.reduceToNat, Int.cast_ofNat_Int, Int.natCast_nonneg, Try.results57]
      exact ⟨[], by simp, by simp, by simp [renV, renVs, renSegs, renSg, ocd, h1, h2]⟩
    · simp only [absE, absL, absF, reduceCtorEq, ↓reduceIte, Nat.reduceEqDiff, Nat.reduceAdd, Nat.reduceLT, Nat.reduceMul, Nat.reduceSub, Nat.reduceLeDiff, Int.reduceLT, Int.reduceLE, Int.reduceEq, Option.isSome_some, implies_true, false_implies, Prod.mk.injEq, ne_eq, not_false_eq_true, not_true_eq_false, ge_iff_le, gt_iff_lt, Int.toNat_natCast, Int.reduceToNat, Int.cast_ofNat_Int, Int.natCast_nonneg]
      refine CallsVia.none (l08Group_ok n t ht) ?_
      rintro _ _ _ ⟨rfl, rfl, rfl⟩
      simp only [absE, absL, absF, reduceCtorEq, ↓reduceIte, Nat.reduceEqDiff, Nat.reduceAdd, Nat.reduceLT, Nat.reduceMul, Nat.reduceSub, Nat.reduceLeDiff, Int.reduceLT, Int.reduceLE, Int.reduceEq, Option.isSome_some, implies_true, false_implies, Prod.mk.injEq, ne_eq, not_false_eq_true, not_true_eq_false, ge_iff_le, gt_iff_lt, Int.toNat_natCast, Int.reduceToNat, Int.cast_ofNat_Int, Int.natCast_nonneg, Try.results57]
      exact ⟨[], by simp, by simp, by simp [renV, renVs, renSegs, renSg, ocd, h1, h2]⟩
noncomputable def orthAV (n : Int) (t p : List Int) : AV := if ocd n t p = 0 then .tup [.b (orB n.toNat t p), .i .i64 0] else .tup [.b false, .i .i64 (ocd n t p)]
theorem orth_form (n : Int) (t p : List Int) (ht : Bytes 100 t) (hp : Bytes 10 p) : ∃ b e, orthAV n t p = .tup [.b b, .i .i64 e] := by
  unfold orthAV; split <;> exact ⟨_, _, rfl⟩
theorem implIsOrtho_ok (n : Int) (t p : List Int) (ht : Bytes 100 t) (hp : Bytes 10 p) : ACalls Try.prog 25 [.agg (sqS n t), .agg (plS p)] [] (fun v ms ns => v = orthAV n t p ∧ ms = [] ∧ ns = []) := by
  unfold orthAV
  refine acalls_of_body mix Try.func25 rfl fok25 (Nat.le_of_ble_eq_true rfl) ?_
  unfold abody
  simp only [absE, absL, absF, reduceCtorEq, ↓reduceIte, Nat.reduceEqDiff, Nat.reduceAdd, Nat.reduceLT, Nat.reduceMul, Nat.reduceSub, Nat.reduceLeDiff, Int.reduceLT, Int.reduceLE, Int.reduceEq, Option.isSome_some, implies_true, false_implies, Prod.mk.injEq, ne_eq, not_false_eq_true, not_true_eq_false, ge_iff_le, gt_iff_lt, Int.toNat_natCast, Int.reduceToNat, Int.cast_ofNat_Int, Int.natCast_nonneg, Try.f25]
  refine CallsVia.none (implOCode_ok n t p ht hp) ?_
  rintro _ _ _ ⟨rfl, rfl, rfl⟩
  by_cases h : ocd n t p = 0
  · obtain ⟨hs, pp⟩ := ocd_zero h
    obtain ⟨N, rfl⟩ : ∃ N : Nat, n = N := ⟨n.toNat, by have := hs.1; omega⟩
    simp only [absE, absL, absF, reduceCtorEq, ↓reduceIte, Nat.reduceEqDiff, Nat.reduceAdd, Nat.reduceLT, Nat.reduceMul, Nat.reduceSub, Nat.reduceLeDiff, Int.reduceLT, Int.reduceLE, Int.reduceEq, Option.isSome_some, implies_true, false_implies, Prod.mk.injEq, ne_eq, not_false_eq_true, not_true_eq_false, ge_iff_le, gt_iff_lt, Int.toNat_natCast, Int.reduceToNat, Int.cast_ofNat_Int, Int.natCast_nonneg, h]
    refine CallsVia.none (isOrtho_ok N t p ht hp hs pp) ?_
    rintro _ _ _ ⟨rfl, rfl, rfl⟩
    simp only [absE, absL, absF, reduceCtorEq, ↓reduceIte, Nat.reduceEqDiff, Nat.reduceAdd, Nat.reduceLT, Nat.reduceMul, Nat.reduceSub, Nat.reduceLeDiff, Int.reduceLT, Int.reduceLE, Int.reduceEq, Option.isSome_some, implies_true, false_implies, Prod.mk.injEq, ne_eq, not_false_eq_true, not_true_eq_false, ge_iff_le, gt_iff_lt, Int.toNat_natCast, Int.reduceToNat, Int.cast_ofNat_Int, Int.natCast_nonneg, Try.results25]
    exact ⟨[], by simp, by simp, by simp [renV, renVs, renSegs, renSg, h]⟩
  · simp only [absE, absL, absF, reduceCtorEq, ↓reduceIte, Nat.reduceEqDiff, Nat.reduceAdd, Nat.reduceLT, Nat.reduceMul, Nat.reduceSub, Nat.reduceLeDiff, Int.reduceLT, Int.reduceLE, Int.reduceEq, Option.isSome_some, implies_true, false_implies, Prod.mk.injEq, ne_eq, not_false_eq_true, not_true_eq_false, ge_iff_le, gt_iff_lt, Int.toNat_natCast, Int.reduceToNat, Int.cast_ofNat_Int, Int.natCast_nonneg, h, Try.results25]
    exact ⟨[], by simp, by simp, by simp [renV, renVs, renSegs, renSg, h]⟩
theorem specIsOrtho_ok (n : Int) (t p : List Int) (ht : Bytes 100 t) (hp : Bytes 10 p) : ACalls Try.prog 23 [.agg (sqS n t), .agg (plS p)] [] (fun v ms ns => v = orthAV n t p ∧ ms = [] ∧ ns = []) := by
  unfold orthAV
  refine acalls_of_body mix Try.func23 rfl fok23 (Nat.le_of_ble_eq_true rfl) ?_
  unfold abody
  simp only [absE, absL, absF, reduceCtorEq, ↓reduceIte, Nat.reduceEqDiff, Nat.reduceAdd, Nat.reduceLT, Nat.reduceMul, Nat.reduceSub, Nat.reduceLeDiff, Int.reduceLT, Int.reduceLE, Int.reduceEq, Option.isSome_some, implies_true, false_implies, Prod.mk.injEq, ne_eq, not_false_eq_true, not_true_eq_false, ge_iff_le, gt_iff_lt, Int.toNat_natCast, Int.reduceToNat, Int.cast_ofNat_Int, Int.natCast_nonneg, Try.f23]
  refine CallsVia.none (specOCode_ok n t p ht hp) ?_
  rintro _ _ _ ⟨rfl, rfl, rfl⟩
  by_cases h : ocd n t p = 0
  · obtain ⟨hs, pp⟩ := ocd_zero h
    obtain ⟨N, rfl⟩ : ∃ N : Nat, n = N := ⟨n.toNat, by have := hs.1; omega⟩
    simp only [absE, absL, absF, reduceCtorEq, ↓reduceIte, Nat.reduceEqDiff, Nat.reduceAdd, Nat.reduceLT, Nat.reduceMul, Nat.reduceSub, Nat.reduceLeDiff, Int.reduceLT, Int.reduceLE, Int.reduceEq, Option.isSome_some, implies_true, false_implies, Prod.mk.injEq, ne_eq, not_false_eq_true, not_true_eq_false, ge_iff_le, gt_iff_lt, Int.toNat_natCast, Int.reduceToNat, Int.cast_ofNat_Int, Int.natCast_nonneg, h]
    refine CallsVia.none (l08Ortho_ok N t p ht hp hs pp) ?_
    rintro _ _ _ ⟨rfl, rfl, rfl⟩
    simp only [absE, absL, absF, reduceCtorEq, ↓reduceIte, Nat.reduceEqDiff, Nat.reduceAdd, Nat.reduceLT, Nat.reduceMul, Nat.reduceSub, Nat.reduceLeDiff, Int.reduceLT, Int.reduceLE, Int.reduceEq, Option.isSome_some, implies_true, false_implies, Prod.mk.injEq, ne_eq, not_false_eq_true, not_true_eq_false, ge_iff_le, gt_iff_lt, Int.toNat_natCast, Int.reduceToNat, Int.cast_ofNat_Int, Int.natCast_nonneg, Try.results23]
    exact ⟨[], by simp, by simp, by simp [renV, renVs, renSegs, renSg, h]⟩
  · simp only [absE, absL, absF, reduceCtorEq, ↓reduceIte, Nat.reduceEqDiff, Nat.reduceAdd, Nat.reduceLT, Nat.reduceMul, Nat.reduceSub, Nat.reduceLeDiff, Int.reduceLT, Int.reduceLE, Int.reduceEq, Option.isSome_some, implies_true, false_implies, Prod.mk.injEq, ne_eq, not_false_eq_true, not_true_eq_false, ge_iff_le, gt_iff_lt, Int.toNat_natCast, Int.reduceToNat, Int.cast_ofNat_Int, Int.natCast_nonneg, h, Try.results23]
    exact ⟨[], by simp, by simp, by simp [renV, renVs, renSegs, renSg, h]⟩
/-! the square of an orthomorphism -/
def omG (N : Nat) (t p : List Int) (x y : Nat) : Nat := cl t x (pl p (cl t (invN N t x) y))
noncomputable def omcode (n : Int) (t p : List Int) : Int := if ocd n t p = 0 then (if orB n.toNat t p then 0 else 5) else ocd n t p
noncomputable def omAV (n : Int) (t p : List Int) : AV := resSq (omcode n t p) n (mkT (omG n.toNat t p) n.toNat n.toNat)
theorem om_form (n : Int) (t p : List Int) (ht : Bytes 100 t) (hp : Bytes 10 p) : ∃ m s e, s.length = 100 ∧ omAV n t p = .tup [.agg (sqS m s), .i .i64 e] := resSq_form _ _ mkT_len
theorem omSq1_ok (N : Nat) (t p : List Int) (x y : Nat) (ht : Bytes 100 t) (hp : Bytes 10 p) (hs : SqP N t) (pp : PermP N p) (hx : x < N) (hy : y < N) :
    ACalls Try.prog 63 [.i .u8 x, .i .u8 y, .ref (.ptr 0 0 0 0), .ref (.ptr 0 1 0 0)] [.lv true (sqS N t), .lv true (plS p)] (fun v ms ns => v = .i .u8 (omG N t p x y) ∧ ms = [.lv true (sqS N t), .lv true (plS p)] ∧ ns = []) := by
  have hN := hs.le
  have j1 := invN_lt hs hx
  have j2 := hs.cl_lt j1 hy
  have j3 := pl_lt_n pp j2
  have i1 : (x : Int) < 10 := by omega
  have i2 : (y : Int) < 10 := by omega
  have i3 : (invN N t x : Int) < 10 := by omega
  have i4 : (cl t (invN N t x) y : Int) < 10 := by omega
  have i5 : (pl p (cl t (invN N t x) y) : Int) < 10 := by omega
  have u1 : 0 + invN N t x * 10 + y * 1 < 100 := by omega
  have u2 : 0 + cl t (invN N t x) y * 1 < 10 := by omega
  have u3 : 0 + x * 10 + pl p (cl t (invN N t x) y) * 1 < 100 := by omega
  have k1 := sq_colget ht (invN N t x) y
  have k2 : p.getD (0 + cl t (invN N t x) y * 1) 0 = (pl p (cl t (invN N t x) y) : Int) := by rw [Nat.zero_add, Nat.mul_one]; exact hp.place _
  have k3 := sq_colget ht x (pl p (cl t (invN N t x) y))
  refine acalls_of_body mix Try.func63 rfl fok63 (Nat.le_of_ble_eq_true rfl) ?_
  unfold abody
  simp only [absE, absL, absF, reduceCtorEq, ↓reduceIte, Nat.reduceEqDiff, Nat.reduceAdd, Nat.reduceLT, Nat.reduceMul, Nat.reduceSub, Nat.reduceLeDiff, Int.reduceLT, Int.reduceLE, Int.reduceEq, Option.isSome_some, implies_true, false_implies, Prod.mk.injEq, ne_eq, not_false_eq_true, not_true_eq_false, ge_iff_le, gt_iff_lt, Int.toNat_natCast, Int.reduceToNat, Int.cast_ofNat_Int, Int.natCast_nonneg, Try.f63]
  refine CallsX.none (implRight0_ok N t x ht hs hx) ?_
  simp only [absE, absL, absF, reduceCtorEq, ↓reduceIte, Nat.reduceEqDiff, Nat.reduceAdd, Nat.reduceLT, Nat.reduceMul, Nat.reduceSub, Nat.reduceLeDiff, Int.reduceLT, Int.reduceLE, Int.reduceEq, Option.isSome_some, implies_true, false_implies, Prod.mk.injEq, ne_eq, not_false_eq_true, not_true_eq_false, ge_iff_le, gt_iff_lt, Int.toNat_natCast, Int.reduceToNat, Int.cast_ofNat_Int, Int.natCast_nonneg, i1, i2, i3, i4, i5, u1, u2, u3, k1, k2, k3, Try.results63]
  exact ⟨[], by simp, by simp, by simp [renV, renVs, renSegs, renSg, renBlk, omG]⟩
theorem implOmSq_ok (n : Int) (t p : List Int) (ht : Bytes 100 t) (hp : Bytes 10 p) : ACalls Try.prog 27 [.agg (sqS n t), .agg (plS p)] [] (fun v ms ns => v = omAV n t p ∧ ms = [] ∧ ns = []) := by
  unfold omAV
  refine acalls_of_body mix Try.func27 rfl fok27 (Nat.le_of_ble_eq_true rfl) ?_
  unfold abody
  simp only [absE, absL, absF, reduceCtorEq, ↓reduceIte, Nat.reduceEqDiff, Nat.reduceAdd, Nat.reduceLT, Nat.reduceMul, Nat.reduceSub, Nat.reduceLeDiff, Int.reduceLT, Int.reduceLE, Int.reduceEq, Option.isSome_some, implies_true, false_implies, Prod.mk.injEq, ne_eq, not_false_eq_true, not_true_eq_false, ge_iff_le, gt_iff_lt, Int.toNat_natCast, Int.reduceToNat, Int.cast_ofNat_Int, Int.natCast_nonneg, Try.f27]
  refine CallsVia.none (implOCode_ok n t p ht hp) ?_
  rintro _ _ _ ⟨rfl, rfl, rfl⟩
  by_cases h : ocd n t p = 0
  · obtain ⟨hs, pp⟩ := ocd_zero h
    obtain ⟨N, rfl⟩ : ∃ N : Nat, n = N := ⟨n.toNat, by have := hs.1; omega⟩
    simp only [absE, absL, absF, reduceCtorEq, ↓reduceIte, Nat.reduceEqDiff, Nat.reduceAdd, Nat.reduceLT, Nat.reduceMul, Nat.reduceSub, Nat.reduceLeDiff, Int.reduceLT, Int.reduceLE, Int.reduceEq, Option.isSome_some, implies_true, false_implies, Prod.mk.injEq, ne_eq, not_false_eq_true, not_true_eq_false, ge_iff_le, gt_iff_lt, Int.toNat_natCast, Int.reduceToNat, Int.cast_ofNat_Int, Int.natCast_nonneg, h]
    refine CallsVia.none (isOrtho_ok N t p ht hp hs pp) ?_
    rintro _ _ _ ⟨rfl, rfl, rfl⟩
    cases h2 : orB N t p
    · have e : omcode N t p = 5 := by simp [omcode, h, h2]
      simp only [absE, absL, absF, reduceCtorEq, ↓reduceIte, Nat.reduceEqDiff, Nat.reduceAdd, Nat.reduceLT, Nat.reduceMul, Nat.reduceSub, Nat.reduceLeDiff, Int.reduceLT, Int.reduceLE, Int.reduceEq, Option.isSome_some, implies_true, false_implies, Prod.mk.injEq, ne_eq, not_false_eq_true, not_true_eq_false, ge_iff_le, gt_iff_lt, Int.toNat_natCast, Int.reduceToNat, Int.cast_ofNat_Int, Int.natCast_nonneg, Try.results27]
      exact ⟨[], by simp, by simp, by simp [renV, renVs, renSegs, renSg, resSq, e]⟩
    · have e : omcode N t p = 0 := by simp [omcode, h, h2]
      simp only [absE, absL, absF, reduceCtorEq, ↓reduceIte, Nat.reduceEqDiff, Nat.reduceAdd, Nat.reduceLT, Nat.reduceMul, Nat.reduceSub, Nat.reduceLeDiff, Int.reduceLT, Int.reduceLE, Int.reduceEq, Option.isSome_some, implies_true, false_implies, Prod.mk.injEq, ne_eq, not_false_eq_true, not_true_eq_false, ge_iff_le, gt_iff_lt, Int.toNat_natCast, Int.reduceToNat, Int.cast_ofNat_Int, Int.natCast_nonneg]
      refine CallsVia.args [(1, 0), (2, 0)] (made2_ok N hs.le 63 (omG N t p) (sqS N t) (plS p) (fun ρ => by simp [renSegs, renSg]) (fun ρ => by simp [renSegs, renSg]) (fun x y hx hy => omSq1_ok N t p x y ht hp hs pp hx hy)) (by simp) (by simp [Mem.get, assoc]) rfl rfl ?_
      rintro _ _ _ ⟨rfl, rfl, rfl⟩
      simp only [absE, absL, absF, reduceCtorEq, ↓reduceIte, Nat.reduceEqDiff, Nat.reduceAdd, Nat.reduceLT, Nat.reduceMul, Nat.reduceSub, Nat.reduceLeDiff, Int.reduceLT, Int.reduceLE, Int.reduceEq, Option.isSome_some, implies_true, false_implies, Prod.mk.injEq, ne_eq, not_false_eq_true, not_true_eq_false, ge_iff_le, gt_iff_lt, Int.toNat_natCast, Int.reduceToNat, Int.cast_ofNat_Int, Int.natCast_nonneg, Try.results27]
      exact ⟨[], by simp, by simp, by simp [renV, renVs, renSegs, renSg, resSq0 e]⟩
  · have e : omcode n t p = ocd n t p := by simp only [omcode, h, if_false]
    simp only [absE, absL, absF, reduceCtorEq, ↓reduceIte, Nat.reduceEqDiff, Nat.reduceAdd, Nat.reduceLT, Nat.reduceMul, Nat.reduceSub, Nat.reduceLeDiff, Int.reduceLT, Int.reduceLE, Int.reduceEq, Option.isSome_some, implies_true, false_implies, Prod.mk.injEq, ne_eq, not_false_eq_true, not_true_eq_false, ge_iff_le, gt_iff_lt, Int.toNat_natCast, Int.reduceToNat, Int.cast_ofNat_Int, Int.natCast_nonneg, h, Try.results27]
    exact ⟨[], by simp, by simp, by simp [renV, renVs, renSegs, renSg, resSq, e, h]⟩
theorem l08Made_ok (N : Nat) (t p : List Int) (ht : Bytes 100 t) (hp : Bytes 10 p) (hs : SqP N t) (pp : PermP N p) :
    ACalls Try.prog 61 [.agg (sqS N t), .agg (plS p)] [] (fun v ms ns => v = .agg (sqS N (mkT (omG N t p) N N)) ∧ ms = [] ∧ ns = []) := by
  have hN := hs.le
  refine acalls_of_body mix Try.func61 rfl fok61 (Nat.le_of_ble_eq_true rfl) ?_
  unfold abody
  simp only [absE, absL, absF, reduceCtorEq, ↓reduceIte, Nat.reduceEqDiff, Nat.reduceAdd, Nat.reduceLT, Nat.reduceMul, Nat.reduceSub, Nat.reduceLeDiff, Int.reduceLT, Int.reduceLE, Int.reduceEq, Option.isSome_some, implies_true, false_implies, Prod.mk.injEq, ne_eq, not_false_eq_true, not_true_eq_false, ge_iff_le, gt_iff_lt, Int.toNat_natCast, Int.reduceToNat, Int.cast_ofNat_Int, Int.natCast_nonneg, Try.f61]
  refine awpLoop.intro (fun x : Nat => [(2, .ref (.ptr 1 0 0 0)), (3, .ref (.ptr 2 0 0 0)), (4, .ref (.ptr 3 0 0 0)), (5, .ref (.ptr 7 0 0 0)), (6, .i .i64 x)]) (fun x => ⟨[], [((1, 0), .lv true (sqS N t)), ((2, 0), .lv true (plS p)), ((3, 0), .lv true (sqS 0 (List.replicate 100 0))), ((7, 0), .lv true (sqS N (mkT (omG N t p) N x)))], 10⟩)
    (fun x => x ≤ N) (fun x => N - x) 0 (by omega) ⟨[((1,0),(1,0)), ((2,0),(2,0)), ((3,0),(3,0)), ((7,0),(7,0))], rfl, ?_, ?_⟩ ?_
  · simp [wkEnv, lk, renV, renAt, renTo, mkT]
  · simp [wkMem, wkLoc, Mem.get, assoc, renBlk, renSegs, renSg, renTo, mkT]
  · intro x hx
    by_cases h : (x : Int) < N
    · have w := wrap_i64s (show x < 2 ^ 62 by omega)
      have w8 := wrap_u8n (show x < 256 by omega)
      have j1 := invN_lt hs (show x < N by omega)
      simp only [absE, absL, absF, reduceCtorEq, ↓reduceIte, Nat.reduceEqDiff, Nat.reduceAdd, Nat.reduceLT, Nat.reduceMul, Nat.reduceSub, Nat.reduceLeDiff, Int.reduceLT, Int.reduceLE, Int.reduceEq, Option.isSome_some, implies_true, false_implies, Prod.mk.injEq, ne_eq, not_false_eq_true, not_true_eq_false, ge_iff_le, gt_iff_lt, Int.toNat_natCast, Int.reduceToNat, Int.cast_ofNat_Int, Int.natCast_nonneg, h, w8]
      refine CallsVia.none (l08Inverse_ok N t x ht hs (by omega)) ?_
      rintro _ _ _ ⟨rfl, rfl, rfl⟩
      simp only [absE, absL, absF, reduceCtorEq, ↓reduceIte, Nat.reduceEqDiff, Nat.reduceAdd, Nat.reduceLT, Nat.reduceMul, Nat.reduceSub, Nat.reduceLeDiff, Int.reduceLT, Int.reduceLE, Int.reduceEq, Option.isSome_some, implies_true, false_implies, Prod.mk.injEq, ne_eq, not_false_eq_true, not_true_eq_false, ge_iff_le, gt_iff_lt, Int.toNat_natCast, Int.reduceToNat, Int.cast_ofNat_Int, Int.natCast_nonneg]
      refine awpLoop.intro (fun y : Nat => [(2, .ref (.ptr 1 0 0 0)), (3, .ref (.ptr 2 0 0 0)), (4, .ref (.ptr 3 0 0 0)), (5, .ref (.ptr 7 0 0 0)), (6, .i .i64 x), (7, .i .u8 (invN N t x : Nat)), (8, .i .i64 y)]) (fun y => ⟨[], [((1, 0), .lv true (sqS N t)), ((2, 0), .lv true (plS p)), ((3, 0), .lv true (sqS 0 (List.replicate 100 0))), ((7, 0), .lv true (sqS N (mkIn (omG N t p) x (mkT (omG N t p) N x) y)))], 20⟩)
        (fun y => y ≤ N) (fun y => N - y) 0 (by omega) ⟨[((1,0),(1,0)), ((2,0),(2,0)), ((3,0),(3,0)), ((7,0),(7,0))], rfl, ?_, ?_⟩ ?_
      · simp [wkEnv, lk, renV, renAt, renTo, mkIn]
      · simp [wkMem, wkLoc, Mem.get, assoc, renBlk, renSegs, renSg, renTo, mkIn]
      · intro y hy
        by_cases h' : (y : Int) < N
        · have w' := wrap_i64s (show y < 2 ^ 62 by omega)
          have j2 := hs.cl_lt j1 (show y < N by omega)
          have j3 := pl_lt_n pp j2
          have i1 : (x : Int) < 10 := by omega
          have i2 : (y : Int) < 10 := by omega
          have i3 : (invN N t x : Int) < 10 := by omega
          have i4 : (cl t (invN N t x) y : Int) < 10 := by omega
          have i5 : (pl p (cl t (invN N t x) y) : Int) < 10 := by omega
          have u1 : 0 + invN N t x * 10 + y * 1 < 100 := by omega
          have u2 : 0 + cl t (invN N t x) y * 1 < 10 := by omega
          have u3 : 0 + x * 10 + pl p (cl t (invN N t x) y) * 1 < 100 := by omega
          have u4 : 0 + x * 10 + y * 1 + 1 ≤ 100 := by omega
          have k1 := sq_colget ht (invN N t x) y
          have k2 : p.getD (0 + cl t (invN N t x) y * 1) 0 = (pl p (cl t (invN N t x) y) : Int) := by rw [Nat.zero_add, Nat.mul_one]; exact hp.place _
          have k3 := sq_colget ht x (pl p (cl t (invN N t x) y))
          simp only [absE, absL, absF, reduceCtorEq, ↓reduceIte, Nat.reduceEqDiff, Nat.reduceAdd, Nat.reduceLT, Nat.reduceMul, Nat.reduceSub, Nat.reduceLeDiff, Int.reduceLT, Int.reduceLE, Int.reduceEq, Option.isSome_some, implies_true, false_implies, Prod.mk.injEq, ne_eq, not_false_eq_true, not_true_eq_false, ge_iff_le, gt_iff_lt, Int.toNat_natCast, Int.reduceToNat, Int.cast_ofNat_Int, Int.natCast_nonneg, h', i1, i2, i3, i4, i5, u1, u2, u3, u4, k1, k2, k3]
          repeat refine ⟨by decide +kernel, ?_⟩
          refine LoopNext.intro (y + 1) (by omega) (by omega) ⟨[((1,0),(1,0)), ((2,0),(2,0)), ((3,0),(3,0)), ((7,0),(7,0))], rfl, ?_, ?_⟩
          · simp [wkEnv, lk, renV, renAt, renTo, w', mkIn, omG]
          · simp [wkMem, wkLoc, Mem.get, assoc, renBlk, renSegs, renSg, renTo, w', mkIn, omG]
        · have hyN : y = N := by omega
          subst hyN
          simp only [absE, absL, absF, reduceCtorEq, ↓reduceIte, Nat.reduceEqDiff, Nat.reduceAdd, Nat.reduceLT, Nat.reduceMul, Nat.reduceSub, Nat.reduceLeDiff, Int.reduceLT, Int.reduceLE, Int.reduceEq, Option.isSome_some, implies_true, false_implies, Prod.mk.injEq, ne_eq, not_false_eq_true, not_true_eq_false, ge_iff_le, gt_iff_lt, Int.toNat_natCast, Int.reduceToNat, Int.cast_ofNat_Int, Int.natCast_nonneg, h', w]
          refine LoopNext.intro (x + 1) (by omega) (by omega) ⟨[((1,0),(1,0)), ((2,0),(2,0)), ((3,0),(3,0)), ((7,0),(7,0))], rfl, ?_, ?_⟩
          · simp [wkEnv, lk, renV, renAt, renTo, mkT]
          · simp [wkMem, wkLoc, Mem.get, assoc, renBlk, renSegs, renSg, renTo, mkT]
    · have hxN : x = N := by omega
      subst hxN
      simp only [absE, absL, absF, reduceCtorEq, ↓reduceIte, Nat.reduceEqDiff, Nat.reduceAdd, Nat.reduceLT, Nat.reduceMul, Nat.reduceSub, Nat.reduceLeDiff, Int.reduceLT, Int.reduceLE, Int.reduceEq, Option.isSome_some, implies_true, false_implies, Prod.mk.injEq, ne_eq, not_false_eq_true, not_true_eq_false, ge_iff_le, gt_iff_lt, Int.toNat_natCast, Int.reduceToNat, Int.cast_ofNat_Int, Int.natCast_nonneg, h, Try.results61]
      exact ⟨[], by simp, by simp, by simp [renV, renVs, renSegs, renSg]⟩
theorem specOmSq_ok (n : Int) (t p : List Int) (ht : Bytes 100 t) (hp : Bytes 10 p) : ACalls Try.prog 26 [.agg (sqS n t), .agg (plS p)] [] (fun v ms ns => v = omAV n t p ∧ ms = [] ∧ ns = []) := by
  unfold omAV
  refine acalls_of_body mix Try.func26 rfl fok26 (Nat.le_of_ble_eq_true rfl) ?_
  unfold abody
  simp only [absE, absL, absF, reduceCtorEq, ↓reduceIte, Nat.reduceEqDiff, Nat.reduceAdd, Nat.reduceLT, Nat.reduceMul, Nat.reduceSub, Nat.reduceLeDiff, Int.reduceLT, Int.reduceLE, Int.reduceEq, Option.isSome_some, implies_true, false_implies, Prod.mk.injEq, ne_eq, not_false_eq_true, not_true_eq_false, ge_iff_le, gt_iff_lt, Int.toNat_natCast, Int.reduceToNat, Int.cast_ofNat_Int, Int.natCast_nonneg, Try.f26]
  refine CallsVia.none (specOCode_ok n t p ht hp) ?_
  rintro _ _ _ ⟨rfl, rfl, rfl⟩
  by_cases h : ocd n t p = 0
  · obtain ⟨hs, pp⟩ := ocd_zero h
    obtain ⟨N, rfl⟩ : ∃ N : Nat, n = N := ⟨n.toNat, by have := hs.1; omega⟩
    simp only [absE, absL, absF, reduceCtorEq, ↓reduceIte, Nat.reduceEqDiff, Nat.reduceAdd, Nat.reduceLT, Nat.reduceMul, Nat.reduceSub, Nat.reduceLeDiff, Int.reduceLT, Int.reduceLE, Int.reduceEq, Option.isSome_some, implies_true, false_implies, Prod.mk.injEq, ne_eq, not_false_eq_true, not_true_eq_false, ge_iff_le, gt_iff_lt, Int.toNat_natCast, Int.reduceToNat, Int.cast_ofNat_Int, Int.natCast_nonneg, h]
    refine CallsVia.none (l08Ortho_ok N t p ht hp hs pp) ?_
    rintro _ _ _ ⟨rfl, rfl, rfl⟩
    cases h2 : orB N t p
    · have e : omcode N t p = 5 := by simp [omcode, h, h2]
      simp only [absE, absL, absF, reduceCtorEq, ↓reduceIte, Nat.reduceEqDiff, Nat.reduceAdd, Nat.reduceLT, Nat.reduceMul, Nat.reduceSub, Nat.reduceLeDiff, Int.reduceLT, Int.reduceLE, Int.reduceEq, Option.isSome_some, implies_true, false_implies, Prod.mk.injEq, ne_eq, not_false_eq_true, not_true_eq_false, ge_iff_le, gt_iff_lt, Int.toNat_natCast, Int.reduceToNat, Int.cast_ofNat_Int, Int.natCast_nonneg, Try.results26]
      exact ⟨[], by simp, by simp, by simp [renV, renVs, renSegs, renSg, resSq, e]⟩
    · have e : omcode N t p = 0 := by simp [omcode, h, h2]
      simp only [absE, absL, absF, reduceCtorEq, ↓reduceIte, Nat.reduceEqDiff, Nat.reduceAdd, Nat.reduceLT, Nat.reduceMul, Nat.reduceSub, Nat.reduceLeDiff, Int.reduceLT, Int.reduceLE, Int.reduceEq, Option.isSome_some, implies_true, false_implies, Prod.mk.injEq, ne_eq, not_false_eq_true, not_true_eq_false, ge_iff_le, gt_iff_lt, Int.toNat_natCast, Int.reduceToNat, Int.cast_ofNat_Int, Int.natCast_nonneg, h]
      refine CallsVia.none (l08Made_ok N t p ht hp hs pp) ?_
      rintro _ _ _ ⟨rfl, rfl, rfl⟩
      simp only [absE, absL, absF, reduceCtorEq, ↓reduceIte, Nat.reduceEqDiff, Nat.reduceAdd, Nat.reduceLT, Nat.reduceMul, Nat.reduceSub, Nat.reduceLeDiff, Int.reduceLT, Int.reduceLE, Int.reduceEq, Option.isSome_some, implies_true, false_implies, Prod.mk.injEq, ne_eq, not_false_eq_true, not_true_eq_false, ge_iff_le, gt_iff_lt, Int.toNat_natCast, Int.reduceToNat, Int.cast_ofNat_Int, Int.natCast_nonneg, Try.results26]
      exact ⟨[], by simp, by simp, by simp [renV, renVs, renSegs, renSg, resSq0 e]⟩
  · have e : omcode n t p = ocd n t p := by simp only [omcode, h, if_false]
    simp only [absE, absL, absF, reduceCtorEq, ↓reduceIte, Nat.reduceEqDiff, Nat.reduceAdd, Nat.reduceLT, Nat.reduceMul, Nat.reduceSub, Nat.reduceLeDiff, Int.reduceLT, Int.reduceLE, Int.reduceEq, Option.isSome_some, implies_true, false_implies, Prod.mk.injEq, ne_eq, not_false_eq_true, not_true_eq_false, ge_iff_le, gt_iff_lt, Int.toNat_natCast, Int.reduceToNat, Int.cast_ofNat_Int, Int.natCast_nonneg, h, Try.results26]
    exact ⟨[], by simp, by simp, by simp [renV, renVs, renSegs, renSg, resSq, e, h]⟩

end Go.Proofs.Ytgcfkdgdlllgjaa
