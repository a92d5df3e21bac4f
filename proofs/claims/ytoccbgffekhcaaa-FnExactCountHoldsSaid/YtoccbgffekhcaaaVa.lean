/-
Contracts of functions of the given program, by the abstract walk.
-/
import Derived.Test.YtoccbgffekhcaaaAbsY
import Derived.Test.YtoccbgffekhcaaaPb
namespace Go.Proofs.Ytoccbgffekhcaaa
open Go Go.Abs
set_option linter.unusedVariables false
set_option linter.unusedSectionVars false
set_option linter.unusedSimpArgs false
set_option maxRecDepth 100000
/-! identities: two terms -/
def bk (k : Nat) (xs : List Int) : Blk := .lv true [(0, .ints .u8 k xs)]
def idV (a b k l : Nat) : AV := .agg [(0, .cells 1 [.sl 0 a 0 0 k 1]), (1, .cells 1 [.sl 0 b 0 0 l 1])]
def bothB (xs : List Int) (k : Nat) (ys : List Int) (l : Nat) : Bool := trmB xs k && trmB ys l
theorem both_ok (xs ys : List Int) (k l : Nat) (hk : k ≤ 2 ^ 20) (hl : l ≤ 2 ^ 20) :
    ACalls Try.prog 146 [idV 0 1 k l] [bk k xs, bk l ys] (fun v ms ns => v = .b (bothB xs k ys l) ∧ ms = [bk k xs, bk l ys] ∧ ns = []) := by
  unfold idV bk
  refine acalls_of_body mix Try.func146 rfl fok146 (Nat.le_of_ble_eq_true rfl) ?_
  unfold abody
  simp only [absE, absL, absF, reduceCtorEq, ↓reduceIte, Nat.reduceEqDiff, Nat.reduceAdd, Nat.reduceLT, Nat.reduceMul, Nat.reduceSub, Nat.reduceLeDiff, Int.reduceLT, Int.reduceLE, Int.reduceEq, Option.isSome_some, implies_true, false_implies, Prod.mk.injEq, ne_eq, not_false_eq_true, not_true_eq_false, ge_iff_le, gt_iff_lt, Int.toNat_natCast, Int.reduceToNat, Int.cast_ofNat_Int, Int.natCast_nonneg, Try.f146]
  refine CallsVia.args [(0, 0)] (l03Is_ok xs k hk) (by simp) (by simp [Mem.get]) rfl rfl ?_
  rintro _ _ _ ⟨rfl, rfl, rfl⟩
  unfold bothB
  cases h1 : trmB xs k
  · simp only [absE, absL, absF, reduceCtorEq, ↓reduceIte, Nat.reduceEqDiff, Nat.reduceAdd, Nat.reduceLT, Nat.reduceMul, Nat.reduceSub, Nat.reduceLeDiff, Int.reduceLT, Int.reduceLE, Int.reduceEq, Option.isSome_some, implies_true, false_implies, Prod.mk.injEq, ne_eq, not_false_eq_true, not_true_eq_false, ge_iff_le, gt_iff_lt, Int.toNat_natCast, Int.reduceToNat, Int.cast_ofNat_Int, Int.natCast_nonneg, Try.results146]
    exact ⟨[], by simp, by simp, by simp [renV, renBlk, renSegs, renSg]⟩
  · simp only [absE, absL, absF, reduceCtorEq, ↓reduceIte, Nat.reduceEqDiff, Nat.reduceAdd, Nat.reduceLT, Nat.reduceMul, Nat.reduceSub, Nat.reduceLeDiff, Int.reduceLT, Int.reduceLE, Int.reduceEq, Option.isSome_some, implies_true, false_implies, Prod.mk.injEq, ne_eq, not_false_eq_true, not_true_eq_false, ge_iff_le, gt_iff_lt, Int.toNat_natCast, Int.reduceToNat, Int.cast_ofNat_Int, Int.natCast_nonneg]
    refine CallsVia.args [(0, 1)] (l03Is_ok ys l hl) (by simp) (by simp [Mem.get]) rfl rfl ?_
    rintro _ _ _ ⟨rfl, rfl, rfl⟩
    simp only [absE, absL, absF, reduceCtorEq, ↓reduceIte, Nat.reduceEqDiff, Nat.reduceAdd, Nat.reduceLT, Nat.reduceMul, Nat.reduceSub, Nat.reduceLeDiff, Int.reduceLT, Int.reduceLE, Int.reduceEq, Option.isSome_some, implies_true, false_implies, Prod.mk.injEq, ne_eq, not_false_eq_true, not_true_eq_false, ge_iff_le, gt_iff_lt, Int.toNat_natCast, Int.reduceToNat, Int.cast_ofNat_Int, Int.natCast_nonneg, Try.results146]
    exact ⟨[], by simp, by simp, by simp [renV, renBlk, renSegs, renSg]⟩
theorem isIdentity_ok (xs ys : List Int) (k l : Nat) (hk : k ≤ 2 ^ 20) (hl : l ≤ 2 ^ 20) :
    ACalls Try.prog 147 [idV 0 1 k l] [bk k xs, bk l ys] (fun v ms ns => v = .b (bothB xs k ys l) ∧ ms = [bk k xs, bk l ys] ∧ ns = []) := by
  unfold idV bk
  refine acalls_of_body mix Try.func147 rfl fok147 (Nat.le_of_ble_eq_true rfl) ?_
  unfold abody
  simp only [absE, absL, absF, reduceCtorEq, ↓reduceIte, Nat.reduceEqDiff, Nat.reduceAdd, Nat.reduceLT, Nat.reduceMul, Nat.reduceSub, Nat.reduceLeDiff, Int.reduceLT, Int.reduceLE, Int.reduceEq, Option.isSome_some, implies_true, false_implies, Prod.mk.injEq, ne_eq, not_false_eq_true, not_true_eq_false, ge_iff_le, gt_iff_lt, Int.toNat_natCast, Int.reduceToNat, Int.cast_ofNat_Int, Int.natCast_nonneg, Try.f147]
  refine CallsVia.args [(0, 0)] (isTerm_ok xs k hk) (by simp) (by simp [Mem.get]) rfl rfl ?_
  rintro _ _ _ ⟨rfl, rfl, rfl⟩
  unfold bothB
  cases h1 : trmB xs k
  · simp only [absE, absL, absF, reduceCtorEq, ↓reduceIte, Nat.reduceEqDiff, Nat.reduceAdd, Nat.reduceLT, Nat.reduceMul, Nat.reduceSub, Nat.reduceLeDiff, Int.reduceLT, Int.reduceLE, Int.reduceEq, Option.isSome_some, implies_true, false_implies, Prod.mk.injEq, ne_eq, not_false_eq_true, not_true_eq_false, ge_iff_le, gt_iff_lt, Int.toNat_natCast, Int.reduceToNat, Int.cast_ofNat_Int, Int.natCast_nonneg, Try.results147]
    exact ⟨[], by simp, by simp, by simp [renV, renBlk, renSegs, renSg]⟩
  · simp only [absE, absL, absF, reduceCtorEq, ↓reduceIte, Nat.reduceEqDiff, Nat.reduceAdd, Nat.reduceLT, Nat.reduceMul, Nat.reduceSub, Nat.reduceLeDiff, Int.reduceLT, Int.reduceLE, Int.reduceEq, Option.isSome_some, implies_true, false_implies, Prod.mk.injEq, ne_eq, not_false_eq_true, not_true_eq_false, ge_iff_le, gt_iff_lt, Int.toNat_natCast, Int.reduceToNat, Int.cast_ofNat_Int, Int.natCast_nonneg]
    refine CallsVia.args [(0, 1)] (isTerm_ok ys l hl) (by simp) (by simp [Mem.get]) rfl rfl ?_
    rintro _ _ _ ⟨rfl, rfl, rfl⟩
    simp only [absE, absL, absF, reduceCtorEq, ↓reduceIte, Nat.reduceEqDiff, Nat.reduceAdd, Nat.reduceLT, Nat.reduceMul, Nat.reduceSub, Nat.reduceLeDiff, Int.reduceLT, Int.reduceLE, Int.reduceEq, Option.isSome_some, implies_true, false_implies, Prod.mk.injEq, ne_eq, not_false_eq_true, not_true_eq_false, ge_iff_le, gt_iff_lt, Int.toNat_natCast, Int.reduceToNat, Int.cast_ofNat_Int, Int.natCast_nonneg, Try.results147]
    exact ⟨[], by simp, by simp, by simp [renV, renBlk, renSegs, renSg]⟩
noncomputable def askB (n : Int) (t xs ys : List Int) (k l : Nat) : Bool := sqB n t && bothB xs k ys l
theorem isAsked_ok (n : Int) (t xs ys : List Int) (k l : Nat) (ht : Bytes 100 t) (hk : k ≤ 2 ^ 20) (hl : l ≤ 2 ^ 20) :
    ACalls Try.prog 93 [.agg (sqS n t), idV 0 1 k l] [bk k xs, bk l ys] (fun v ms ns => v = .b (askB n t xs ys k l) ∧ ms = [bk k xs, bk l ys] ∧ ns = []) := by
  have hb := isIdentity_ok xs ys k l hk hl
  unfold idV bk at hb ⊢
  refine acalls_of_body mix Try.func93 rfl fok93 (Nat.le_of_ble_eq_true rfl) ?_
  unfold abody
  simp only [absE, absL, absF, reduceCtorEq, ↓reduceIte, Nat.reduceEqDiff, Nat.reduceAdd, Nat.reduceLT, Nat.reduceMul, Nat.reduceSub, Nat.reduceLeDiff, Int.reduceLT, Int.reduceLE, Int.reduceEq, Option.isSome_some, implies_true, false_implies, Prod.mk.injEq, ne_eq, not_false_eq_true, not_true_eq_false, ge_iff_le, gt_iff_lt, Int.toNat_natCast, Int.reduceToNat, Int.cast_ofNat_Int, Int.natCast_nonneg, Try.f93]
  refine CallsVia.none (isSquare_ok n t ht) ?_
  rintro _ _ _ ⟨rfl, rfl, rfl⟩
  unfold askB
  cases h1 : sqB n t
  · simp only [absE, absL, absF, reduceCtorEq, ↓reduceIte, Nat.reduceEqDiff, Nat.reduceAdd, Nat.reduceLT, Nat.reduceMul, Nat.reduceSub, Nat.reduceLeDiff, Int.reduceLT, Int.reduceLE, Int.reduceEq, Option.isSome_some, implies_true, false_implies, Prod.mk.injEq, ne_eq, not_false_eq_true, not_true_eq_false, ge_iff_le, gt_iff_lt, Int.toNat_natCast, Int.reduceToNat, Int.cast_ofNat_Int, Int.natCast_nonneg, Try.results93]
    exact ⟨[], by simp, by simp, by simp [renV, renBlk, renSegs, renSg]⟩
  · simp only [absE, absL, absF, reduceCtorEq, ↓reduceIte, Nat.reduceEqDiff, Nat.reduceAdd, Nat.reduceLT, Nat.reduceMul, Nat.reduceSub, Nat.reduceLeDiff, Int.reduceLT, Int.reduceLE, Int.reduceEq, Option.isSome_some, implies_true, false_implies, Prod.mk.injEq, ne_eq, not_false_eq_true, not_true_eq_false, ge_iff_le, gt_iff_lt, Int.toNat_natCast, Int.reduceToNat, Int.cast_ofNat_Int, Int.natCast_nonneg]
    refine CallsVia.args [(0, 0), (0, 1)] hb (by simp) (by simp [Mem.get]) rfl rfl ?_
    rintro _ _ _ ⟨rfl, rfl, rfl⟩
    simp only [absE, absL, absF, reduceCtorEq, ↓reduceIte, Nat.reduceEqDiff, Nat.reduceAdd, Nat.reduceLT, Nat.reduceMul, Nat.reduceSub, Nat.reduceLeDiff, Int.reduceLT, Int.reduceLE, Int.reduceEq, Option.isSome_some, implies_true, false_implies, Prod.mk.injEq, ne_eq, not_false_eq_true, not_true_eq_false, ge_iff_le, gt_iff_lt, Int.toNat_natCast, Int.reduceToNat, Int.cast_ofNat_Int, Int.natCast_nonneg, Try.results93]
    exact ⟨[], by simp, by simp, by simp [renV, renBlk, renSegs, renSg]⟩
theorem l03Code_ok (n : Int) (t xs ys : List Int) (k l : Nat) (ht : Bytes 100 t) (hk : k ≤ 2 ^ 20) (hl : l ≤ 2 ^ 20) :
    ACalls Try.prog 92 [.agg (sqS n t), idV 0 1 k l] [bk k xs, bk l ys] (fun v ms ns => v = .i .i64 (if askB n t xs ys k l then 0 else 1) ∧ ms = [bk k xs, bk l ys] ∧ ns = []) := by
  have hb := both_ok xs ys k l hk hl
  unfold idV bk at hb ⊢
  refine acalls_of_body mix Try.func92 rfl fok92 (Nat.le_of_ble_eq_true rfl) ?_
  unfold abody
  simp only [absE, absL, absF, reduceCtorEq, ↓reduceIte, Nat.reduceEqDiff, Nat.reduceAdd, Nat.reduceLT, Nat.reduceMul, Nat.reduceSub, Nat.reduceLeDiff, Int.reduceLT, Int.reduceLE, Int.reduceEq, Option.isSome_some, implies_true, false_implies, Prod.mk.injEq, ne_eq, not_false_eq_true, not_true_eq_false, ge_iff_le, gt_iff_lt, Int.toNat_natCast, Int.reduceToNat, Int.cast_ofNat_Int, Int.natCast_nonneg, Try.f92]
  refine CallsVia.none (l01Is_ok n t ht) ?_
  rintro _ _ _ ⟨rfl, rfl, rfl⟩
  unfold askB
  cases h1 : sqB n t
  · simp only [absE, absL, absF, reduceCtorEq, ↓reduceIte, Nat.reduceEqDiff, Nat.reduceAdd, Nat.reduceLT, Nat.reduceMul, Nat.reduceSub, Nat.reduceLeDiff, Int.reduceLT, Int.reduceLE, Int.reduceEq, Option.isSome_some, implies_true, false_implies, Prod.mk.injEq, ne_eq, not_false_eq_true, not_true_eq_false, ge_iff_le, gt_iff_lt, Int.toNat_natCast, Int.reduceToNat, Int.cast_ofNat_Int, Int.natCast_nonneg, Try.results92]
    exact ⟨[], by simp, by simp, by simp [renV, renBlk, renSegs, renSg]⟩
  · simp only [absE, absL, absF, reduceCtorEq, ↓reduceIte, Nat.reduceEqDiff, Nat.reduceAdd, Nat.reduceLT, Nat.reduceMul, Nat.reduceSub, Nat.reduceLeDiff, Int.reduceLT, Int.reduceLE, Int.reduceEq, Option.isSome_some, implies_true, false_implies, Prod.mk.injEq, ne_eq, not_false_eq_true, not_true_eq_false, ge_iff_le, gt_iff_lt, Int.toNat_natCast, Int.reduceToNat, Int.cast_ofNat_Int, Int.natCast_nonneg]
    refine CallsVia.args [(0, 0), (0, 1)] hb (by simp) (by simp [Mem.get]) rfl rfl ?_
    rintro _ _ _ ⟨rfl, rfl, rfl⟩
    cases h2 : bothB xs k ys l
    all_goals
      simp only [absE, absL, absF, reduceCtorEq, ↓reduceIte, Nat.reduceEqDiff, Nat.reduceAdd, Nat.reduceLT, Nat.reduceMul, Nat.reduceSub, Nat.reduceLeDiff, Int.reduceLT, Int.reduceLE, Int.reduceEq, Option.isSome_some, implies_true, false_implies, Prod.mk.injEq, ne_eq, not_false_eq_true, not_true_eq_false, ge_iff_le, gt_iff_lt, Int.toNat_natCast, Int.reduceToNat, Int.cast_ofNat_Int, Int.natCast_nonneg, Try.results92]
      exact ⟨[], by simp, by simp, by simp [renV, renBlk, renSegs, renSg]⟩
/-! three nested loops -/
def foZ (g : Nat → Nat → Nat → Nat → Nat) (x y c : Nat) : Nat → Nat
  | 0 => c
  | z + 1 => g (foZ g x y c z) x y z
def foY (g : Nat → Nat → Nat → Nat → Nat) (x N c : Nat) : Nat → Nat
  | 0 => c
  | y + 1 => foZ g x y (foY g x N c y) N
def foX (g : Nat → Nat → Nat → Nat → Nat) (N c : Nat) : Nat → Nat
  | 0 => c
  | x + 1 => foY g x N (foX g N c x) N
theorem foZ_le {g : Nat → Nat → Nat → Nat → Nat} (hg : ∀ c x y z, g c x y z ≤ c + 1) {x y c : Nat} : ∀ {n}, foZ g x y c n ≤ c + n
  | 0 => Nat.le_refl _
  | z + 1 => by have := foZ_le hg (x := x) (y := y) (c := c) (n := z); have := hg (foZ g x y c z) x y z; rw [foZ]; omega
theorem foY_le {g : Nat → Nat → Nat → Nat → Nat} (hg : ∀ c x y z, g c x y z ≤ c + 1) {x N c : Nat} : ∀ {n}, foY g x N c n ≤ c + n * N
  | 0 => by simp [foY]
  | y + 1 => by have := foY_le hg (x := x) (N := N) (c := c) (n := y); have := foZ_le hg (x := x) (y := y) (c := foY g x N c y) (n := N); rw [foY, Nat.add_mul]; omega
theorem foX_le {g : Nat → Nat → Nat → Nat → Nat} (hg : ∀ c x y z, g c x y z ≤ c + 1) {N c : Nat} : ∀ {n}, foX g N c n ≤ c + n * (N * N)
  | 0 => by simp [foX]
  | x + 1 => by have := foX_le hg (N := N) (c := c) (n := x); have := foY_le hg (x := x) (N := N) (c := foX g N c x) (n := N); rw [foX, Nat.add_mul]; omega
/-- whether both terms have the same value -/
def eqT (N : Nat) (t xs ys : List Int) (k l x y z : Nat) : Bool := trmV N t x y z xs k == trmV N t x y z ys l
def cntG (N : Nat) (t xs ys : List Int) (k l : Nat) : Nat → Nat → Nat → Nat → Nat := fun c x y z => if eqT N t xs ys k l x y z then c + 1 else c
theorem cntG_le {N : Nat} {t xs ys : List Int} {k l : Nat} : ∀ c x y z, cntG N t xs ys k l c x y z ≤ c + 1 := fun c x y z => by unfold cntG; split <;> omega
def tri (x y z : Nat) : AV := .agg [(0, .ints .u8 3 [(x : Int), (y : Int), (z : Int)])]
theorem trmV_eq {N : Nat} {t xs ys : List Int} {k l x y z : Nat} : (decide (((trmV N t x y z xs k : Nat) : Int) = ((trmV N t x y z ys l : Nat) : Int))) = eqT N t xs ys k l x y z := by
  unfold eqT
  rw [Bool.eq_iff_iff, decide_eq_true_iff, beq_iff_eq]; omega
theorem holds_ok (N : Nat) (t V : List Int) (x y z : Nat) (xs ys : List Int) (k l : Nat) (hs : SqP N t) (hV : ValT N t V) (hx : x < N) (hy : y < N) (hz : z < N) (hB : bothB xs k ys l = true) :
    ACalls Try.prog 96 [.ref (.ptr 0 0 0 0), idV 1 2 k l, tri x y z] [bk 300 V, bk k xs, bk l ys] (fun v ms ns => v = .b (eqT N t xs ys k l x y z) ∧ ms = [bk 300 V, bk k xs, bk l ys] ∧ ns = []) := by
  unfold bothB at hB
  simp only [Bool.and_eq_true] at hB
  have h1 := of_ok N t V x y z xs k hs hV hx hy hz hB.1
  have h2 := of_ok N t V x y z ys l hs hV hx hy hz hB.2
  have he := trmV_eq (N := N) (t := t) (xs := xs) (ys := ys) (k := k) (l := l) (x := x) (y := y) (z := z)
  unfold idV bk tri
  refine acalls_of_body mix Try.func96 rfl fok96 (Nat.le_of_ble_eq_true rfl) ?_
  unfold abody
  simp only [absE, absL, absF, reduceCtorEq, ↓reduceIte, Nat.reduceEqDiff, Nat.reduceAdd, Nat.reduceLT, Nat.reduceMul, Nat.reduceSub, Nat.reduceLeDiff, Int.reduceLT, Int.reduceLE, Int.reduceEq, Option.isSome_some, implies_true, false_implies, Prod.mk.injEq, ne_eq, not_false_eq_true, not_true_eq_false, ge_iff_le, gt_iff_lt, Int.toNat_natCast, Int.reduceToNat, Int.cast_ofNat_Int, Int.natCast_nonneg, Try.f96]
  refine CallsX.args [(0, 0), (0, 1)] h1 (by simp) (by simp [Mem.get]) rfl rfl ?_
  simp only [absE, absL, absF, reduceCtorEq, ↓reduceIte, Nat.reduceEqDiff, Nat.reduceAdd, Nat.reduceLT, Nat.reduceMul, Nat.reduceSub, Nat.reduceLeDiff, Int.reduceLT, Int.reduceLE, Int.reduceEq, Option.isSome_some, implies_true, false_implies, Prod.mk.injEq, ne_eq, not_false_eq_true, not_true_eq_false, ge_iff_le, gt_iff_lt, Int.toNat_natCast, Int.reduceToNat, Int.cast_ofNat_Int, Int.natCast_nonneg]
  repeat first | refine And.intro (by decide +kernel) ?_ | refine And.intro (by omega) ?_
  refine CallsX.args [(0, 0), (0, 2)] h2 (by simp) (by simp [Mem.get]) rfl rfl ?_
  simp only [absE, absL, absF, reduceCtorEq, ↓reduceIte, Nat.reduceEqDiff, Nat.reduceAdd, Nat.reduceLT, Nat.reduceMul, Nat.reduceSub, Nat.reduceLeDiff, Int.reduceLT, Int.reduceLE, Int.reduceEq, Option.isSome_some, implies_true, false_implies, Prod.mk.injEq, ne_eq, not_false_eq_true, not_true_eq_false, ge_iff_le, gt_iff_lt, Int.toNat_natCast, Int.reduceToNat, Int.cast_ofNat_Int, Int.natCast_nonneg]
  repeat first | refine And.intro (by decide +kernel) ?_ | refine And.intro (by omega) ?_
  simp only [absE, absL, absF, reduceCtorEq, ↓reduceIte, Nat.reduceEqDiff, Nat.reduceAdd, Nat.reduceLT, Nat.reduceMul, Nat.reduceSub, Nat.reduceLeDiff, Int.reduceLT, Int.reduceLE, Int.reduceEq, Option.isSome_some, implies_true, false_implies, Prod.mk.injEq, ne_eq, not_false_eq_true, not_true_eq_false, ge_iff_le, gt_iff_lt, Int.toNat_natCast, Int.reduceToNat, Int.cast_ofNat_Int, Int.natCast_nonneg, he, Try.results96]
  exact ⟨[], by simp, by simp, by simp [renV, renBlk, renSegs, renSg]⟩
/-! the closures -/
def hMs (V xs ys : List Int) (k l : Nat) (C : Blk) : List Blk := [.lv true [(0, .cells 1 [.ptr 0 1 0 0])], bk 300 V, .lv true [(0, .cells 1 [.sl 0 3 0 0 k 1]), (1, .cells 1 [.sl 0 4 0 0 l 1])], bk k xs, bk l ys, C]
def cB (c : Nat) : Blk := .lv true [(0, .ints .i64 1 [(c : Int)])]
theorem count1_ok (N : Nat) (t V : List Int) (x y z c : Nat) (xs ys : List Int) (k l : Nat) (hs : SqP N t) (hV : ValT N t V) (hx : x < N) (hy : y < N) (hz : z < N) (hB : bothB xs k ys l = true) (hc : c ≤ 10000) :
    ACalls Try.prog 95 [tri x y z, .ref (.ptr 0 0 0 0), .ref (.ptr 0 2 0 0), .ref (.ptr 0 5 0 0)] (hMs V xs ys k l (cB c)) (fun v ms ns => v = .b false ∧ ms = hMs V xs ys k l (cB (cntG N t xs ys k l c x y z)) ∧ ns = []) := by
  have h1 := holds_ok N t V x y z xs ys k l hs hV hx hy hz hB
  have w := wrap_i64s (show c < 2 ^ 62 by omega)
  unfold hMs cB bk cntG
  unfold idV bk tri at h1
  unfold tri
  refine acalls_of_body mix Try.func95 rfl fok95 (Nat.le_of_ble_eq_true rfl) ?_
  unfold abody
  simp only [absE, absL, absF, reduceCtorEq, ↓reduceIte, Nat.reduceEqDiff, Nat.reduceAdd, Nat.reduceLT, Nat.reduceMul, Nat.reduceSub, Nat.reduceLeDiff, Int.reduceLT, Int.reduceLE, Int.reduceEq, Option.isSome_some, implies_true, false_implies, Prod.mk.injEq, ne_eq, not_false_eq_true, not_true_eq_false, ge_iff_le, gt_iff_lt, Int.toNat_natCast, Int.reduceToNat, Int.cast_ofNat_Int, Int.natCast_nonneg, List.getD_cons_zero, Try.f95]
  refine CallsVia.args [(0, 1), (0, 3), (0, 4)] h1 (by simp) (by simp [Mem.get]) rfl rfl ?_
  rintro _ _ _ ⟨rfl, rfl, rfl⟩
  cases h2 : eqT N t xs ys k l x y z
  · simp only [absE, absL, absF, reduceCtorEq, ↓reduceIte, Nat.reduceEqDiff, Nat.reduceAdd, Nat.reduceLT, Nat.reduceMul, Nat.reduceSub, Nat.reduceLeDiff, Int.reduceLT, Int.reduceLE, Int.reduceEq, Option.isSome_some, implies_true, false_implies, Prod.mk.injEq, ne_eq, not_false_eq_true, not_true_eq_false, ge_iff_le, gt_iff_lt, Int.toNat_natCast, Int.reduceToNat, Int.cast_ofNat_Int, Int.natCast_nonneg, Try.results95]
    exact ⟨[], by simp, by simp, by simp [renV, renBlk, renSegs, renSg, renAt, renFin]⟩
  · simp only [absE, absL, absF, reduceCtorEq, ↓reduceIte, Nat.reduceEqDiff, Nat.reduceAdd, Nat.reduceLT, Nat.reduceMul, Nat.reduceSub, Nat.reduceLeDiff, Int.reduceLT, Int.reduceLE, Int.reduceEq, Option.isSome_some, implies_true, false_implies, Prod.mk.injEq, ne_eq, not_false_eq_true, not_true_eq_false, ge_iff_le, gt_iff_lt, Int.toNat_natCast, Int.reduceToNat, Int.cast_ofNat_Int, Int.natCast_nonneg, w, Try.results95]
    exact ⟨[], by simp, by simp, by simp [renV, renBlk, renSegs, renSg, renAt, renFin]⟩
def fS : Bool → Segs
  | true => [(0, .cells 1 [.nils])]
  | false => [(0, .cells 1 [.sl 1 0 0 0 3 1])]
def fB (b : Bool) : Blk := .lv true (fS b)
theorem fails1_ok (N : Nat) (t V : List Int) (x y z : Nat) (xs ys : List Int) (k l : Nat) (hs : SqP N t) (hV : ValT N t V) (hx : x < N) (hy : y < N) (hz : z < N) (hB : bothB xs k ys l = true) :
    ACalls Try.prog 149 [tri x y z, .ref (.ptr 0 0 0 0), .ref (.ptr 0 2 0 0), .ref (.ptr 0 5 0 0)] (hMs V xs ys k l (fB true)) (fun v ms ns => v = .b (!eqT N t xs ys k l x y z) ∧ ms = hMs V xs ys k l (fB (eqT N t xs ys k l x y z)) ∧ ns = (if eqT N t xs ys k l x y z then [] else [ib [(x : Int), (y : Int), (z : Int)]])) := by
  have h1 := holds_ok N t V x y z xs ys k l hs hV hx hy hz hB
  have hN := hs.le
  have wx := wrap_i64n (show x < 2 ^ 62 by omega)
  have wy := wrap_i64n (show y < 2 ^ 62 by omega)
  have wz := wrap_i64n (show z < 2 ^ 62 by omega)
  unfold hMs fB fS bk ib
  unfold idV bk tri at h1
  unfold tri
  refine acalls_of_body mix Try.func149 rfl fok149 (Nat.le_of_ble_eq_true rfl) ?_
  unfold abody
  simp only [absE, absL, absF, reduceCtorEq, ↓reduceIte, Nat.reduceEqDiff, Nat.reduceAdd, Nat.reduceLT, Nat.reduceMul, Nat.reduceSub, Nat.reduceLeDiff, Int.reduceLT, Int.reduceLE, Int.reduceEq, Option.isSome_some, implies_true, false_implies, Prod.mk.injEq, ne_eq, not_false_eq_true, not_true_eq_false, ge_iff_le, gt_iff_lt, Int.toNat_natCast, Int.reduceToNat, Int.cast_ofNat_Int, Int.natCast_nonneg, List.getD_cons_zero, Try.f149]
  refine CallsVia.args [(0, 1), (0, 3), (0, 4)] h1 (by simp) (by simp [Mem.get]) rfl rfl ?_
  rintro _ _ _ ⟨rfl, rfl, rfl⟩
  cases h2 : eqT N t xs ys k l x y z
  · simp only [absE, absL, absF, reduceCtorEq, ↓reduceIte, Nat.reduceEqDiff, Nat.reduceAdd, Nat.reduceLT, Nat.reduceMul, Nat.reduceSub, Nat.reduceLeDiff, Int.reduceLT, Int.reduceLE, Int.reduceEq, Option.isSome_some, implies_true, false_implies, Prod.mk.injEq, ne_eq, not_false_eq_true, not_true_eq_false, ge_iff_le, gt_iff_lt, Int.toNat_natCast, Int.reduceToNat, Int.cast_ofNat_Int, Int.natCast_nonneg, wx, wy, wz, List.getD_cons_zero, List.getD_cons_succ, Try.results149]
    exact ⟨[(16, 0)], by simp, by simp, by simp [renV], by simp [renBlk, renSegs, renSg, renAt, renFin, idx], by simp [renBlk, renSegs, renSg, Mem.get, assoc, List.replicate]⟩
  · simp only [absE, absL, absF, reduceCtorEq, ↓reduceIte, Nat.reduceEqDiff, Nat.reduceAdd, Nat.reduceLT, Nat.reduceMul, Nat.reduceSub, Nat.reduceLeDiff, Int.reduceLT, Int.reduceLE, Int.reduceEq, Option.isSome_some, implies_true, false_implies, Prod.mk.injEq, ne_eq, not_false_eq_true, not_true_eq_false, ge_iff_le, gt_iff_lt, Int.toNat_natCast, Int.reduceToNat, Int.cast_ofNat_Int, Int.natCast_nonneg, Try.results149]
    exact ⟨[], by simp, by simp, by simp [renV, renBlk, renSegs, renSg, renAt, renFin]⟩
/-- all places, with a closure over the six blocks -/
theorem placesH_ok (N : Nat) (t V xs ys : List Int) (k l : Nat) (f : FuncId) (g : Nat → Nat → Nat → Nat → Nat) (st : Nat → Nat → Nat → Bool) (Cb : Nat → Segs) (hs : SqP N t) (hC : ∀ c σ, renSegs σ (Cb c) = Cb c) (hg : ∀ c x y z, g c x y z ≤ c + 1)
    (hf : ∀ x y z c, c ≤ 10000 → x < N → y < N → z < N → ACalls Try.prog f [tri x y z, .ref (.ptr 0 0 0 0), .ref (.ptr 0 2 0 0), .ref (.ptr 0 5 0 0)] (hMs V xs ys k l (.lv true (Cb c))) (fun v ms ns => v = .b (!st x y z) ∧ ms = hMs V xs ys k l (.lv true (if st x y z then Cb (g c x y z) else fS false)) ∧ ns = (if st x y z then [] else [ib [(x : Int), (y : Int), (z : Int)]]))) :
    ACalls Try.prog 94 [.agg (sqS N t), .ref (.fn f [(0, 0, 0, 0), (0, 2, 0, 0), (0, 5, 0, 0)])] (hMs V xs ys k l (.lv true (Cb 0))) (fun v ms ns => (v = .b false ∧ ms = hMs V xs ys k l (.lv true (Cb (foX g N 0 N))) ∧ ns = [] ∧ ∀ x y z, x < N → y < N → z < N → st x y z = true) ∨
      (∃ x y z, x < N ∧ y < N ∧ z < N ∧ st x y z = false ∧ v = .b true ∧ ms = hMs V xs ys k l (fB false) ∧ ns = [ib [(x : Int), (y : Int), (z : Int)]])) := by
  have hN := hs.le
  unfold hMs bk tri at hf
  unfold hMs bk
  refine acalls_of_body mix Try.func94 rfl fok94 (Nat.le_of_ble_eq_true rfl) ?_
  unfold abody
  simp only [absE, absL, absF, reduceCtorEq, ↓reduceIte, Nat.reduceEqDiff, Nat.reduceAdd, Nat.reduceLT, Nat.reduceMul, Nat.reduceSub, Nat.reduceLeDiff, Int.reduceLT, Int.reduceLE, Int.reduceEq, Option.isSome_some, implies_true, false_implies, Prod.mk.injEq, ne_eq, not_false_eq_true, not_true_eq_false, ge_iff_le, gt_iff_lt, Int.toNat_natCast, Int.reduceToNat, Int.cast_ofNat_Int, Int.natCast_nonneg, Try.f94]
  refine CallsVia.none (elements_ok N t hN) ?_
  rintro _ _ _ ⟨rfl, rfl, rfl⟩
  simp only [absE, absL, absF, reduceCtorEq, ↓reduceIte, Nat.reduceEqDiff, Nat.reduceAdd, Nat.reduceLT, Nat.reduceMul, Nat.reduceSub, Nat.reduceLeDiff, Int.reduceLT, Int.reduceLE, Int.reduceEq, Option.isSome_some, implies_true, false_implies, Prod.mk.injEq, ne_eq, not_false_eq_true, not_true_eq_false, ge_iff_le, gt_iff_lt, Int.toNat_natCast, Int.reduceToNat, Int.cast_ofNat_Int, Int.natCast_nonneg]
  have hNN : N * N ≤ 100 := Nat.le_trans (Nat.mul_le_mul hN hN) (by decide)
  refine awpLoop.intro (fun x : Nat => [(1, .ref (.fn f [(0, 0, 0, 0), (0, 2, 0, 0), (0, 5, 0, 0)])), (2, .ref (.ptr 1 0 0 0)), (12, .ref (.sl 4 0 0 0 N 1)), (13, .i .i64 N), (14, .i .i64 x)]) (fun x => ⟨[.lv true [(0, .cells 1 [.ptr 0 1 0 0])], .lv true [(0, .ints .u8 300 V)], .lv true [(0, .cells 1 [.sl 0 3 0 0 k 1]), (1, .cells 1 [.sl 0 4 0 0 l 1])], .lv true [(0, .ints .u8 k xs)], .lv true [(0, .ints .u8 l ys)], .lv true (Cb (foX g N 0 x))], [((1, 0), .lv true (sqS N t)), ((4, 0), .lv true ([(0, .ints .u8 N (bytesTo N))]))], 7⟩)
    (fun x => x ≤ N ∧ ∀ a b c, a < x → b < N → c < N → st a b c = true) (fun x => N - x) 0 ⟨by omega, fun a b c ha => absurd ha (by omega)⟩ ⟨[((1,0),(1,0)), ((4,0),(4,0))], rfl, ?_, ?_⟩ ?_
  · simp [wkEnv, lk, renV, renAt, renCaps, renTo]
  · simp [wkMem, wkLoc, Mem.get, assoc, renBlk, renSegs, renSg, renAt, renTo, hC, foX]
  · rintro x ⟨hx, hqx⟩
    have hXl := foX_le hg (N := N) (c := 0) (n := x)
    have hXl2 : x * (N * N) ≤ 1000 := Nat.le_trans (Nat.mul_le_mul (show x ≤ 10 by omega) hNN) (by decide)
    by_cases h : (x : Int) < N
    · have w := wrap_i64s (show x < 2 ^ 62 by omega)
      have b1 : (bytesTo N).getD (0 + x * 1) 0 = (x : Int) := by rw [Nat.zero_add, Nat.mul_one]; exact bytesTo_get (by omega)
      have v1 : 0 + x * 1 < N := by omega
      simp only [absE, absL, absF, reduceCtorEq, ↓reduceIte, Nat.reduceEqDiff, Nat.reduceAdd, Nat.reduceLT, Nat.reduceMul, Nat.reduceSub, Nat.reduceLeDiff, Int.reduceLT, Int.reduceLE, Int.reduceEq, Option.isSome_some, implies_true, false_implies, Prod.mk.injEq, ne_eq, not_false_eq_true, not_true_eq_false, ge_iff_le, gt_iff_lt, Int.toNat_natCast, Int.reduceToNat, Int.cast_ofNat_Int, Int.natCast_nonneg, h, b1, v1]
      refine CallsVia.none (elements_ok N t hN) ?_
      rintro _ _ _ ⟨rfl, rfl, rfl⟩
      simp only [absE, absL, absF, reduceCtorEq, ↓reduceIte, Nat.reduceEqDiff, Nat.reduceAdd, Nat.reduceLT, Nat.reduceMul, Nat.reduceSub, Nat.reduceLeDiff, Int.reduceLT, Int.reduceLE, Int.reduceEq, Option.isSome_some, implies_true, false_implies, Prod.mk.injEq, ne_eq, not_false_eq_true, not_true_eq_false, ge_iff_le, gt_iff_lt, Int.toNat_natCast, Int.reduceToNat, Int.cast_ofNat_Int, Int.natCast_nonneg]
      have hXs : foX g N 0 (x + 1) = foY g x N (foX g N 0 x) N := rfl
      generalize foX g N 0 x = sx at hXl hXs ⊢
      refine awpLoop.intro (fun y : Nat => [(1, .ref (.fn f [(0, 0, 0, 0), (0, 2, 0, 0), (0, 5, 0, 0)])), (2, .ref (.ptr 1 0 0 0)), (12, .ref (.sl 4 0 0 0 N 1)), (13, .i .i64 N), (14, .i .i64 x), (6, .i .u8 x), (19, .ref (.sl 12 0 0 0 N 1)), (20, .i .i64 N), (21, .i .i64 y)]) (fun y => ⟨[.lv true [(0, .cells 1 [.ptr 0 1 0 0])], .lv true [(0, .ints .u8 300 V)], .lv true [(0, .cells 1 [.sl 0 3 0 0 k 1]), (1, .cells 1 [.sl 0 4 0 0 l 1])], .lv true [(0, .ints .u8 k xs)], .lv true [(0, .ints .u8 l ys)], .lv true (Cb (foY g x N sx y))], [((1, 0), .lv true (sqS N t)), ((4, 0), .lv true ([(0, .ints .u8 N (bytesTo N))])), ((12, 0), .lv true ([(0, .ints .u8 N (bytesTo N))]))], 15⟩)
        (fun y => y ≤ N ∧ ∀ b c, b < y → c < N → st x b c = true) (fun y => N - y) 0 ⟨by omega, fun b c hb => absurd hb (by omega)⟩ ⟨[((1,0),(1,0)), ((4,0),(4,0)), ((12,0),(12,0))], rfl, ?_, ?_⟩ ?_
      · simp [wkEnv, lk, renV, renAt, renCaps, renTo]
      · simp [wkMem, wkLoc, Mem.get, assoc, renBlk, renSegs, renSg, renAt, renTo, hC, foY]
      · rintro y ⟨hy, hqy⟩
        have hYl := foY_le hg (x := x) (N := N) (c := sx) (n := y)
        have hYl2 : y * N ≤ 100 := Nat.le_trans (Nat.mul_le_mul (show y ≤ 10 by omega) hN) (by decide)
        by_cases h' : (y : Int) < N
        · have w' := wrap_i64s (show y < 2 ^ 62 by omega)
          have b2 : (bytesTo N).getD (0 + y * 1) 0 = (y : Int) := by rw [Nat.zero_add, Nat.mul_one]; exact bytesTo_get (by omega)
          have v2 : 0 + y * 1 < N := by omega
          simp only [absE, absL, absF, reduceCtorEq, ↓reduceIte, Nat.reduceEqDiff, Nat.reduceAdd, Nat.reduceLT, Nat.reduceMul, Nat.reduceSub, Nat.reduceLeDiff, Int.reduceLT, Int.reduceLE, Int.reduceEq, Option.isSome_some, implies_true, false_implies, Prod.mk.injEq, ne_eq, not_false_eq_true, not_true_eq_false, ge_iff_le, gt_iff_lt, Int.toNat_natCast, Int.reduceToNat, Int.cast_ofNat_Int, Int.natCast_nonneg, h', b2, v2]
          refine CallsVia.none (elements_ok N t hN) ?_
          rintro _ _ _ ⟨rfl, rfl, rfl⟩
          simp only [absE, absL, absF, reduceCtorEq, ↓reduceIte, Nat.reduceEqDiff, Nat.reduceAdd, Nat.reduceLT, Nat.reduceMul, Nat.reduceSub, Nat.reduceLeDiff, Int.reduceLT, Int.reduceLE, Int.reduceEq, Option.isSome_some, implies_true, false_implies, Prod.mk.injEq, ne_eq, not_false_eq_true, not_true_eq_false, ge_iff_le, gt_iff_lt, Int.toNat_natCast, Int.reduceToNat, Int.cast_ofNat_Int, Int.natCast_nonneg]
          have hYs : foY g x N sx (y + 1) = foZ g x y (foY g x N sx y) N := rfl
          generalize foY g x N sx y = sy at hYl hYs ⊢
          refine awpLoop.intro (fun z : Nat => [(1, .ref (.fn f [(0, 0, 0, 0), (0, 2, 0, 0), (0, 5, 0, 0)])), (2, .ref (.ptr 1 0 0 0)), (12, .ref (.sl 4 0 0 0 N 1)), (13, .i .i64 N), (14, .i .i64 x), (6, .i .u8 x), (19, .ref (.sl 12 0 0 0 N 1)), (20, .i .i64 N), (21, .i .i64 y), (8, .i .u8 y), (26, .ref (.sl 20 0 0 0 N 1)), (27, .i .i64 N), (28, .i .i64 z)]) (fun z => ⟨[.lv true [(0, .cells 1 [.ptr 0 1 0 0])], .lv true [(0, .ints .u8 300 V)], .lv true [(0, .cells 1 [.sl 0 3 0 0 k 1]), (1, .cells 1 [.sl 0 4 0 0 l 1])], .lv true [(0, .ints .u8 k xs)], .lv true [(0, .ints .u8 l ys)], .lv true (Cb (foZ g x y sy z))], [((1, 0), .lv true (sqS N t)), ((4, 0), .lv true ([(0, .ints .u8 N (bytesTo N))])), ((12, 0), .lv true ([(0, .ints .u8 N (bytesTo N))])), ((20, 0), .lv true ([(0, .ints .u8 N (bytesTo N))]))], 23⟩)
            (fun z => z ≤ N ∧ ∀ c, c < z → st x y c = true) (fun z => N - z) 0 ⟨by omega, fun c hc => absurd hc (by omega)⟩ ⟨[((1,0),(1,0)), ((4,0),(4,0)), ((12,0),(12,0)), ((20,0),(20,0))], rfl, ?_, ?_⟩ ?_
          · simp [wkEnv, lk, renV, renAt, renCaps, renTo]
          · simp [wkMem, wkLoc, Mem.get, assoc, renBlk, renSegs, renSg, renAt, renTo, hC, foZ]
          · rintro z ⟨hz, hqz⟩
            have hZl := foZ_le hg (x := x) (y := y) (c := sy) (n := z)
            by_cases h3 : (z : Int) < N
            · have w3 := wrap_i64s (show z < 2 ^ 62 by omega)
              have b3 : (bytesTo N).getD (0 + z * 1) 0 = (z : Int) := by rw [Nat.zero_add, Nat.mul_one]; exact bytesTo_get (by omega)
              have v3 : 0 + z * 1 < N := by omega
              have hff := hf x y z (foZ g x y sy z) (by omega) (by omega) (by omega) (by omega)
              simp only [absE, absL, absF, reduceCtorEq, ↓reduceIte, Nat.reduceEqDiff, Nat.reduceAdd, Nat.reduceLT, Nat.reduceMul, Nat.reduceSub, Nat.reduceLeDiff, Int.reduceLT, Int.reduceLE, Int.reduceEq, Option.isSome_some, implies_true, false_implies, Prod.mk.injEq, ne_eq, not_false_eq_true, not_true_eq_false, ge_iff_le, gt_iff_lt, Int.toNat_natCast, Int.reduceToNat, Int.cast_ofNat_Int, Int.natCast_nonneg, h3, b3, v3]
              refine CallsVia.args [(0, 0), (0, 1), (0, 2), (0, 3), (0, 4), (0, 5)] hff (by simp) (by simp [Mem.get]) rfl (by simp [argBlks, Mem.get, renBlk, renSegs, renSg, renAt, renIn, idx, hC]) ?_
              cases hst : st x y z
              · rintro _ _ _ ⟨rfl, rfl, rfl⟩
                simp only [absE, absL, absF, reduceCtorEq, ↓reduceIte, Nat.reduceEqDiff, Nat.reduceAdd, Nat.reduceLT, Nat.reduceMul, Nat.reduceSub, Nat.reduceLeDiff, Int.reduceLT, Int.reduceLE, Int.reduceEq, Option.isSome_some, implies_true, false_implies, Prod.mk.injEq, ne_eq, not_false_eq_true, not_true_eq_false, ge_iff_le, gt_iff_lt, Int.toNat_natCast, Int.reduceToNat, Int.cast_ofNat_Int, Int.natCast_nonneg, Bool.not_false, if_false, Bool.false_eq_true, ib, Try.results94]
                exact ⟨[(32, 0)], by simp, by simp, .inr ⟨x, y, z, by omega, by omega, by omega, hst, by simp [renV], by simp [renBlk, renSegs, renSg, renAt, renFin, renOut, idx, fS, fB], by simp [renBlk, renSegs, renSg, Mem.get, assoc, ib]⟩⟩
              · rintro _ _ _ ⟨rfl, rfl, rfl⟩
                simp only [absE, absL, absF, reduceCtorEq, ↓reduceIte, Nat.reduceEqDiff, Nat.reduceAdd, Nat.reduceLT, Nat.reduceMul, Nat.reduceSub, Nat.reduceLeDiff, Int.reduceLT, Int.reduceLE, Int.reduceEq, Option.isSome_some, implies_true, false_implies, Prod.mk.injEq, ne_eq, not_false_eq_true, not_true_eq_false, ge_iff_le, gt_iff_lt, Int.toNat_natCast, Int.reduceToNat, Int.cast_ofNat_Int, Int.natCast_nonneg, Bool.not_true, if_true, hC]
                refine LoopNext.intro (z + 1) ⟨by omega, fun c hc => ?_⟩ (by omega) ⟨[((1,0),(1,0)), ((4,0),(4,0)), ((12,0),(12,0)), ((20,0),(20,0))], rfl, ?_, ?_⟩
                · by_cases e : c = z
                  · subst e; exact hst
                  · exact hqz c (by omega)
                · simp [wkEnv, lk, renV, renAt, renCaps, renTo, w3]
                · simp [wkMem, wkLoc, Mem.get, assoc, renBlk, renSegs, renSg, renAt, renTo, hC, foZ]
            · have hzN : z = N := by omega
              subst hzN
              simp only [absE, absL, absF, reduceCtorEq, ↓reduceIte, Nat.reduceEqDiff, Nat.reduceAdd, Nat.reduceLT, Nat.reduceMul, Nat.reduceSub, Nat.reduceLeDiff, Int.reduceLT, Int.reduceLE, Int.reduceEq, Option.isSome_some, implies_true, false_implies, Prod.mk.injEq, ne_eq, not_false_eq_true, not_true_eq_false, ge_iff_le, gt_iff_lt, Int.toNat_natCast, Int.reduceToNat, Int.cast_ofNat_Int, Int.natCast_nonneg, h3, w']
              refine LoopNext.intro (y + 1) ⟨by omega, fun b c hb hc => ?_⟩ (by omega) ⟨[((1,0),(1,0)), ((4,0),(4,0)), ((12,0),(12,0))], rfl, ?_, ?_⟩
              · by_cases e : b = y
                · subst e; exact hqz c hc
                · exact hqy b c (by omega) hc
              · simp [wkEnv, lk, renV, renAt, renCaps, renTo]
              · simp [wkMem, wkLoc, Mem.get, assoc, renBlk, renSegs, renSg, renAt, renTo, hC, hYs]
        · have hyN : y = N := by omega
          subst hyN
          simp only [absE, absL, absF, reduceCtorEq, ↓reduceIte, Nat.reduceEqDiff, Nat.reduceAdd, Nat.reduceLT, Nat.reduceMul, Nat.reduceSub, Nat.reduceLeDiff, Int.reduceLT, Int.reduceLE, Int.reduceEq, Option.isSome_some, implies_true, false_implies, Prod.mk.injEq, ne_eq, not_false_eq_true, not_true_eq_false, ge_iff_le, gt_iff_lt, Int.toNat_natCast, Int.reduceToNat, Int.cast_ofNat_Int, Int.natCast_nonneg, h', w]
          refine LoopNext.intro (x + 1) ⟨by omega, fun a b c ha hb hc => ?_⟩ (by omega) ⟨[((1,0),(1,0)), ((4,0),(4,0))], rfl, ?_, ?_⟩
          · by_cases e : a = x
            · subst e; exact hqy b c hb hc
            · exact hqx a b c (by omega) hb hc
          · simp [wkEnv, lk, renV, renAt, renCaps, renTo]
          · simp [wkMem, wkLoc, Mem.get, assoc, renBlk, renSegs, renSg, renAt, renTo, hC, hXs]
    · have hxN : x = N := by omega
      subst hxN
      simp only [absE, absL, absF, reduceCtorEq, ↓reduceIte, Nat.reduceEqDiff, Nat.reduceAdd, Nat.reduceLT, Nat.reduceMul, Nat.reduceSub, Nat.reduceLeDiff, Int.reduceLT, Int.reduceLE, Int.reduceEq, Option.isSome_some, implies_true, false_implies, Prod.mk.injEq, ne_eq, not_false_eq_true, not_true_eq_false, ge_iff_le, gt_iff_lt, Int.toNat_natCast, Int.reduceToNat, Int.cast_ofNat_Int, Int.natCast_nonneg, h, Try.results94]
      exact ⟨[], by simp, by simp, .inl ⟨by simp [renV], by simp [renBlk, renSegs, renSg, renAt, renFin, hC], rfl, hqx⟩⟩

end Go.Proofs.Ytoccbgffekhcaaa
