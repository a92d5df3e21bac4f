/-
Contracts of functions of the given program, by the abstract walk.
-/
import Derived.Test.YtoccbgffekhcaaaAbsY
import Derived.Test.YtoccbgffekhcaaaNi
namespace Go.Proofs.Ytoccbgffekhcaaa
open Go Go.Abs
set_option linter.unusedVariables false
set_option linter.unusedSectionVars false
set_option linter.unusedSimpArgs false
set_option maxRecDepth 100000
/-! normal closures of lists, normal subloops -/
theorem asc_ext : ∀ {a b : List Int}, a.Pairwise (· < ·) → b.Pairwise (· < ·) → (∀ x, x ∈ a ↔ x ∈ b) → a = b
  | [], [], _, _, _ => rfl
  | [], y :: b, _, _, h => absurd ((h y).2 (by simp)) (by simp)
  | x :: a, [], _, _, h => absurd ((h x).1 (by simp)) (by simp)
  | x :: a, y :: b, ha, hb, h => by
    rw [List.pairwise_cons] at ha hb
    have e : x = y := by
      rcases List.mem_cons.1 ((h x).1 (by simp)) with e | e
      · exact e
      · rcases List.mem_cons.1 ((h y).2 (by simp)) with e' | e'
        · exact e'.symm
        · have h1 := hb.1 x e; have h2 := ha.1 y e'; omega
    subst e
    rw [asc_ext ha.2 hb.2 fun z => ⟨fun hz => ?_, fun hz => ?_⟩]
    · rcases List.mem_cons.1 ((h z).1 (by simp [hz])) with e | e
      · subst e; have := ha.1 z hz; omega
      · exact e
    · rcases List.mem_cons.1 ((h z).2 (by simp [hz])) with e | e
      · subst e; have := hb.1 z hz; omega
      · exact e
theorem memL_asc {p : Nat → Bool} : ∀ {n}, (memL p n).Pairwise (· < ·)
  | 0 => by simp [memL]
  | n + 1 => by
    unfold memL
    split
    · rw [List.pairwise_append]
      refine ⟨memL_asc, by simp, fun a ha b hb => ?_⟩
      obtain ⟨i, e, hi, _⟩ := memL_mem.1 ha
      simp at hb
      omega
    · exact memL_asc
theorem ListP.asc {N : Nat} {xs : List Int} (h : ListP N xs 0 xs.length) : xs.Pairwise (· < ·) := by
  have key : ∀ j, j < xs.length → ∀ i, i < j → xs.getD i 0 < xs.getD j 0 := by
    intro j
    induction j with
    | zero => intro _ i hi; omega
    | succ j ih =>
      intro hj i hi
      have h1 := (h (j + 1) hj).2 (by omega)
      rw [show 0 + (j + 1 - 1) * 1 = j by omega, show 0 + (j + 1) * 1 = j + 1 by omega] at h1
      by_cases e : i = j
      · subst e; exact h1
      · have := ih (by omega) i (by omega); omega
  rw [List.pairwise_iff_getElem]
  intro i j hi hj hij
  have := key j hj i hij
  simpa [hi, hj] using this
open Classical in
noncomputable def nrmB (N : Nat) (t xs : List Int) (k : Nat) : Bool := decide (∀ z, NCl N (cl t) (ldF N t) (rdF N t) (inL xs k) z → inL xs k z)
theorem nrmB_iff {N : Nat} {t xs : List Int} {k : Nat} : nrmB N t xs k = true ↔ ∀ z, NCl N (cl t) (ldF N t) (rdF N t) (inL xs k) z → inL xs k z := by unfold nrmB; exact @decide_eq_true_iff _ (_)
theorem nrm_list {N : Nat} {t xs : List Int} {k : Nat} (hs : SqP N t) (hu : UnitP N t 0) (hx : xs.length = k) (h : ListP N xs 0 k) : decide (memL (nclB N t (inL xs k)) N = xs) = nrmB N t xs k := by
  subst hx
  rw [Bool.eq_iff_iff, decide_eq_true_iff, nrmB_iff]
  have hm : ∀ x : Int, x ∈ xs ↔ ∃ z : Nat, x = z ∧ inL xs xs.length z := fun x => by
    constructor
    · intro hx
      obtain ⟨i, hi, rfl⟩ := List.getElem_of_mem hx
      have := (h.el_eq hi).1
      rw [Nat.zero_add, Nat.mul_one] at this
      exact ⟨el xs i, by rw [← this]; simp [hi], i, hi, rfl⟩
    · rintro ⟨z, rfl, i, hi, rfl⟩
      have := (h.el_eq hi).1
      rw [Nat.zero_add, Nat.mul_one] at this
      rw [← this]
      have e : xs.getD i 0 = xs[i] := by simp [hi]
      rw [e]; exact List.getElem_mem hi
  have hS : ∀ a, inL xs xs.length a → a < N := fun a ha => h.inL_lt ha
  constructor
  · intro e z hz
    have : (z : Int) ∈ xs := by rw [← e]; exact memL_mem.2 ⟨z, rfl, hz.lt (lp_of hs hu) hS, nclB_iff.2 hz⟩
    obtain ⟨w, e2, hw⟩ := (hm _).1 this
    have : z = w := by omega
    subst this; exact hw
  · intro hh
    refine asc_ext memL_asc h.asc fun x => ?_
    rw [memL_mem, hm]
    constructor
    · rintro ⟨z, e, _, hz⟩; exact ⟨z, e, hh z (nclB_iff.1 hz)⟩
    · rintro ⟨z, e, hz⟩; exact ⟨z, e, hS z hz, nclB_iff.2 (.base hz)⟩
theorem same2_ok (A B : List Int) (ha : A.length < 2 ^ 40) (hb : B.length < 2 ^ 40) :
    ACalls Try.prog 113 [.ref (.sl 0 0 0 0 A.length 1), .ref (.sl 0 1 0 0 B.length 1)] [.lv true [(0, .ints .i64 A.length A)], .lv true [(0, .ints .i64 B.length B)]] (fun v ms ns => v = .b (decide (A = B)) ∧ ms = [.lv true [(0, .ints .i64 A.length A)], .lv true [(0, .ints .i64 B.length B)]] ∧ ns = []) := by
  refine acalls_of_body mix Try.func113 rfl fok113 (Nat.le_of_ble_eq_true rfl) ?_
  unfold abody
  simp only [absE, absL, absF, reduceCtorEq, ↓reduceIte, Nat.reduceEqDiff, Nat.reduceAdd, Nat.reduceLT, Nat.reduceMul, Nat.reduceSub, Nat.reduceLeDiff, Int.reduceLT, Int.reduceLE, Int.reduceEq, Option.isSome_some, implies_true, false_implies, Prod.mk.injEq, ne_eq, not_false_eq_true, not_true_eq_false, ge_iff_le, gt_iff_lt, Int.toNat_natCast, Int.reduceToNat, Int.cast_ofNat_Int, Int.natCast_nonneg, Try.f113]
  by_cases hl : A.length = B.length
  · have hl' : ((A.length : Nat) : Int) = (B.length : Nat) := by omega
    simp only [absE, absL, absF, reduceCtorEq, ↓reduceIte, Nat.reduceEqDiff, Nat.reduceAdd, Nat.reduceLT, Nat.reduceMul, Nat.reduceSub, Nat.reduceLeDiff, Int.reduceLT, Int.reduceLE, Int.reduceEq, Option.isSome_some, implies_true, false_implies, Prod.mk.injEq, ne_eq, not_false_eq_true, not_true_eq_false, ge_iff_le, gt_iff_lt, Int.toNat_natCast, Int.reduceToNat, Int.cast_ofNat_Int, Int.natCast_nonneg, hl']
    refine awpLoop.intro (fun i : Nat => [(0, .ref (.sl 0 0 0 0 A.length 1)), (1, .ref (.sl 0 1 0 0 B.length 1)), (5, .i .i64 i)]) (fun i => ⟨[.lv true [(0, .ints .i64 A.length A)], .lv true [(0, .ints .i64 B.length B)]], [], 8⟩)
      (fun i => i ≤ A.length ∧ ∀ j, j < i → A.getD j 0 = B.getD j 0) (fun i => A.length - i) 0 ⟨by omega, fun j hj => absurd hj (by omega)⟩ ⟨[], rfl, ?_, ?_⟩ ?_
    · simp [wkEnv, lk, renV, renAt, renTo]
    · simp [wkMem, wkLoc, Mem.get, assoc, renBlk, renSegs, renSg, renTo]
    · rintro i ⟨hi, hp⟩
      by_cases h : (i : Int) < A.length
      · have w := wrap_i64s (show i < 2 ^ 62 by omega)
        have v1 : 0 + i * 1 < A.length := by omega
        have v2 : 0 + i * 1 < B.length := by omega
        have h2 : (i : Int) < B.length := by omega
        have e1 : A.getD (0 + i * 1) 0 = A.getD i 0 := by rw [Nat.zero_add, Nat.mul_one]
        have e2 : B.getD (0 + i * 1) 0 = B.getD i 0 := by rw [Nat.zero_add, Nat.mul_one]
        by_cases e : A.getD i 0 = B.getD i 0
        · simp only [absE, absL, absF, reduceCtorEq, ↓reduceIte, Nat.reduceEqDiff, Nat.reduceAdd, Nat.reduceLT, Nat.reduceMul, Nat.reduceSub, Nat.reduceLeDiff, Int.reduceLT, Int.reduceLE, Int.reduceEq, Option.isSome_some, implies_true, false_implies, Prod.mk.injEq, ne_eq, not_false_eq_true, not_true_eq_false, ge_iff_le, gt_iff_lt, Int.toNat_natCast, Int.reduceToNat, Int.cast_ofNat_Int, Int.natCast_nonneg, h, h2, v1, v2, e1, e2, e]
          repeat first | refine And.intro (by decide +kernel) ?_ | refine And.intro (by omega) ?_
          refine LoopNext.intro (i + 1) ⟨by omega, fun j hj => ?_⟩ (by omega) ⟨[], rfl, ?_, ?_⟩
          · by_cases ej : j = i
            · subst ej; exact e
            · exact hp j (by omega)
          · simp [wkEnv, lk, renV, renAt, renTo, w]
          · simp [wkMem, wkLoc, Mem.get, assoc, renBlk, renSegs, renSg, renTo, w]
        · simp only [absE, absL, absF, reduceCtorEq, ↓reduceIte, Nat.reduceEqDiff, Nat.reduceAdd, Nat.reduceLT, Nat.reduceMul, Nat.reduceSub, Nat.reduceLeDiff, Int.reduceLT, Int.reduceLE, Int.reduceEq, Option.isSome_some, implies_true, false_implies, Prod.mk.injEq, ne_eq, not_false_eq_true, not_true_eq_false, ge_iff_le, gt_iff_lt, Int.toNat_natCast, Int.reduceToNat, Int.cast_ofNat_Int, Int.natCast_nonneg, h, h2, v1, v2, e1, e2, e, Try.results113]
          repeat first | refine And.intro (by decide +kernel) ?_ | refine And.intro (by omega) ?_
          have hf : ¬ A = B := fun hh => e (by rw [hh])
          exact ⟨[], by simp, by simp, by simp [renV, renBlk, renSegs, renSg, hf]⟩
      · have hf : A = B := ext_getD hl fun j hj => hp j (by omega)
        simp only [absE, absL, absF, reduceCtorEq, ↓reduceIte, Nat.reduceEqDiff, Nat.reduceAdd, Nat.reduceLT, Nat.reduceMul, Nat.reduceSub, Nat.reduceLeDiff, Int.reduceLT, Int.reduceLE, Int.reduceEq, Option.isSome_some, implies_true, false_implies, Prod.mk.injEq, ne_eq, not_false_eq_true, not_true_eq_false, ge_iff_le, gt_iff_lt, Int.toNat_natCast, Int.reduceToNat, Int.cast_ofNat_Int, Int.natCast_nonneg, h, Try.results113]
        exact ⟨[], by simp, by simp, by simp [renV, renBlk, renSegs, renSg, hf]⟩
  · have hl' : ¬((A.length : Nat) : Int) = (B.length : Nat) := by omega
    have hf : ¬ A = B := fun hh => hl (by rw [hh])
    simp only [absE, absL, absF, reduceCtorEq, ↓reduceIte, Nat.reduceEqDiff, Nat.reduceAdd, Nat.reduceLT, Nat.reduceMul, Nat.reduceSub, Nat.reduceLeDiff, Int.reduceLT, Int.reduceLE, Int.reduceEq, Option.isSome_some, implies_true, false_implies, Prod.mk.injEq, ne_eq, not_false_eq_true, not_true_eq_false, ge_iff_le, gt_iff_lt, Int.toNat_natCast, Int.reduceToNat, Int.cast_ofNat_Int, Int.natCast_nonneg, hl', Try.results113]
    exact ⟨[], by simp, by simp, by simp [renV, renBlk, renSegs, renSg, hf]⟩
theorem isNormal_ok (N : Nat) (t : List Int) (xs : List Int) (k : Nat) (ht : Bytes 100 t) (hs : SqP N t) (hu : UnitP N t 0) (h : ListP N xs 0 k) :
    ACalls Try.prog 60 [.agg (sqS N t), .i .i64 (setN xs k : Nat)] [] (fun v ms ns => v = .b (nrmB N t xs k) ∧ ms = [] ∧ ns = []) := by
  have hN := hs.le
  refine acalls_of_body mix Try.func60 rfl fok60 (Nat.le_of_ble_eq_true rfl) ?_
  unfold abody
  simp only [absE, absL, absF, reduceCtorEq, ↓reduceIte, Nat.reduceEqDiff, Nat.reduceAdd, Nat.reduceLT, Nat.reduceMul, Nat.reduceSub, Nat.reduceLeDiff, Int.reduceLT, Int.reduceLE, Int.reduceEq, Option.isSome_some, implies_true, false_implies, Prod.mk.injEq, ne_eq, not_false_eq_true, not_true_eq_false, ge_iff_le, gt_iff_lt, Int.toNat_natCast, Int.reduceToNat, Int.cast_ofNat_Int, Int.natCast_nonneg, Try.f60]
  refine CallsVia.none (closure_ok N t (setN xs k) (inL xs k) ht hs hu (setN_lt fun j hj => (h.el_eq hj).2) fun z => setN_bit) ?_
  rintro _ _ _ ⟨rfl, rfl, rfl⟩
  simp only [absE, absL, absF, reduceCtorEq, ↓reduceIte, Nat.reduceEqDiff, Nat.reduceAdd, Nat.reduceLT, Nat.reduceMul, Nat.reduceSub, Nat.reduceLeDiff, Int.reduceLT, Int.reduceLE, Int.reduceEq, Option.isSome_some, implies_true, false_implies, Prod.mk.injEq, ne_eq, not_false_eq_true, not_true_eq_false, ge_iff_le, gt_iff_lt, Int.toNat_natCast, Int.reduceToNat, Int.cast_ofNat_Int, Int.natCast_nonneg, Try.results60]
  have e : decide (((setM (nclB N t (inL xs k)) N : Nat) : Int) = ((setN xs k : Nat) : Int)) = nrmB N t xs k := by
    rw [Bool.eq_iff_iff, decide_eq_true_iff, nrmB_iff]
    constructor
    · intro he z hz
      have he' : setM (nclB N t (inL xs k)) N = setN xs k := by omega
      rw [← setN_bit, ← he', setM_bit, nclB_iff.2 hz, decide_eq_true (hz.lt (lp_of hs hu) fun w hw => h.inL_lt hw)]; rfl
    · intro hz
      have : setN xs k = setM (nclB N t (inL xs k)) N := setM_eq' (fun i hi => h.inL_lt (setN_bit.1 hi)) fun i hi => by
        rw [Bool.eq_iff_iff, setN_bit, nclB_iff]
        exact ⟨fun hh => .base hh, hz i⟩
      rw [this]
  exact ⟨[], by simp, by simp, by simp [renV, renVs, renSegs, renSg, e]⟩
theorem l06Normal_ok (N : Nat) (t : List Int) (xs : List Int) (k : Nat) (ht : Bytes 100 t) (hs : SqP N t) (hu : UnitP N t 0) (hx : xs.length = k) (hk : k ≤ 1000) (h : ListP N xs 0 k) :
    ACalls Try.prog 57 [.agg (sqS N t), .ref (.sl 0 0 0 0 k 1)] [.lv true [(0, .ints .i64 k xs)]] (fun v ms ns => v = .b (nrmB N t xs k) ∧ ms = [.lv true [(0, .ints .i64 k xs)]] ∧ ns = []) := by
  have hlm := memL_len (p := nclB N t (inL xs k)) (k := N)
  have hN := hs.le
  have hcl := l06Closure_ok N t xs k ht hs hu hk fun j hj => h.el_eq hj
  have hnl := nrm_list hs hu hx h
  refine acalls_of_body mix Try.func57 rfl fok57 (Nat.le_of_ble_eq_true rfl) ?_
  unfold abody
  simp only [absE, absL, absF, reduceCtorEq, ↓reduceIte, Nat.reduceEqDiff, Nat.reduceAdd, Nat.reduceLT, Nat.reduceMul, Nat.reduceSub, Nat.reduceLeDiff, Int.reduceLT, Int.reduceLE, Int.reduceEq, Option.isSome_some, implies_true, false_implies, Prod.mk.injEq, ne_eq, not_false_eq_true, not_true_eq_false, ge_iff_le, gt_iff_lt, Int.toNat_natCast, Int.reduceToNat, Int.cast_ofNat_Int, Int.natCast_nonneg, Try.f57]
  by_cases h0 : 0 < k
  · have g0 : (0 : Int) < k := by omega
    generalize memL (nclB N t (inL xs k)) N = R at hlm hcl hnl
    have hsm := same2_ok R xs (by omega) (by omega)
    rw [hx] at hsm
    simp only [absE, absL, absF, reduceCtorEq, ↓reduceIte, Nat.reduceEqDiff, Nat.reduceAdd, Nat.reduceLT, Nat.reduceMul, Nat.reduceSub, Nat.reduceLeDiff, Int.reduceLT, Int.reduceLE, Int.reduceEq, Option.isSome_some, implies_true, false_implies, Prod.mk.injEq, ne_eq, not_false_eq_true, not_true_eq_false, ge_iff_le, gt_iff_lt, Int.toNat_natCast, Int.reduceToNat, Int.cast_ofNat_Int, Int.natCast_nonneg, g0]
    refine CallsVia.args [(0, 0)] hcl (by simp) (by simp [Mem.get]) rfl rfl ?_
    rintro _ _ _ ⟨rfl, rfl, rfl⟩
    simp only [absE, absL, absF, reduceCtorEq, ↓reduceIte, Nat.reduceEqDiff, Nat.reduceAdd, Nat.reduceLT, Nat.reduceMul, Nat.reduceSub, Nat.reduceLeDiff, Int.reduceLT, Int.reduceLE, Int.reduceEq, Option.isSome_some, implies_true, false_implies, Prod.mk.injEq, ne_eq, not_false_eq_true, not_true_eq_false, ge_iff_le, gt_iff_lt, Int.toNat_natCast, Int.reduceToNat, Int.cast_ofNat_Int, Int.natCast_nonneg, ib]
    refine CallsVia.args [(9, 0), (0, 0)] hsm (by simp) (by simp [Mem.get, assoc]) rfl rfl ?_
    rintro _ _ _ ⟨rfl, rfl, rfl⟩
    simp only [absE, absL, absF, reduceCtorEq, ↓reduceIte, Nat.reduceEqDiff, Nat.reduceAdd, Nat.reduceLT, Nat.reduceMul, Nat.reduceSub, Nat.reduceLeDiff, Int.reduceLT, Int.reduceLE, Int.reduceEq, Option.isSome_some, implies_true, false_implies, Prod.mk.injEq, ne_eq, not_false_eq_true, not_true_eq_false, ge_iff_le, gt_iff_lt, Int.toNat_natCast, Int.reduceToNat, Int.cast_ofNat_Int, Int.natCast_nonneg, hnl, Try.results57]
    exact ⟨[], by simp, by simp, by simp [renV, renBlk, renSegs, renSg]⟩
  · have g0 : ¬(0 : Int) < k := by omega
    obtain rfl : k = 0 := by omega
    have hf : nrmB N t xs 0 = false := by
      cases hn : nrmB N t xs 0
      · rfl
      · obtain ⟨j, hj, _⟩ := nrmB_iff.1 hn 0 .zero; omega
    simp only [absE, absL, absF, reduceCtorEq, ↓reduceIte, Nat.reduceEqDiff, Nat.reduceAdd, Nat.reduceLT, Nat.reduceMul, Nat.reduceSub, Nat.reduceLeDiff, Int.reduceLT, Int.reduceLE, Int.reduceEq, Option.isSome_some, implies_true, false_implies, Prod.mk.injEq, ne_eq, not_false_eq_true, not_true_eq_false, ge_iff_le, gt_iff_lt, Int.toNat_natCast, Int.reduceToNat, Int.cast_ofNat_Int, Int.natCast_nonneg, g0, Try.results57]
    exact ⟨[], by simp, by simp, by simp [renV, renBlk, renSegs, renSg, hf]⟩
theorem lcd1_unit {n : Int} {t : List Int} (h : loopB n t = true) : UnitP n.toNat t 0 := by
  simp only [loopB, Bool.and_eq_true] at h
  exact unitB_iff.1 h.2
theorem ListP.small {N : Nat} {xs : List Int} (hN : N ≤ 10) (h : ListP N xs 0 xs.length) : xs.length ≤ 1000 := by
  have key : ∀ i, i < xs.length → (i : Int) ≤ xs.getD i 0 := by
    intro i
    induction i with
    | zero => intro hi; have := (h 0 hi).1.1; rwa [show 0 + 0 * 1 = 0 by omega] at this
    | succ i ih =>
      intro hi
      have h1 := (h (i + 1) hi).2 (by omega)
      rw [show 0 + (i + 1 - 1) * 1 = i by omega, show 0 + (i + 1) * 1 = i + 1 by omega] at h1
      have := ih (by omega); omega
  by_cases hl : xs.length = 0
  · omega
  · have h1 := key (xs.length - 1) (by omega)
    have h2 := (h (xs.length - 1) (by omega)).1.2
    rw [show 0 + (xs.length - 1) * 1 = xs.length - 1 by omega] at h2
    omega
noncomputable def nrmAV (n : Int) (t : List Int) (xs : List Int) (k : Nat) : AV := if lcd1 n t xs k = 0 then .tup [.b (nrmB n.toNat t xs k), .i .i64 0] else .tup [.b false, .i .i64 (lcd1 n t xs k)]
theorem nrm_form (n : Int) (t : List Int) (xs : List Int) (k : Nat) (ht : Bytes 100 t) : ∃ b e, nrmAV n t xs k = .tup [.b b, .i .i64 e] := by
  unfold nrmAV; split <;> exact ⟨_, _, rfl⟩
theorem specNrm_ok (n : Int) (t : List Int) (xs : List Int) (k : Nat) (ht : Bytes 100 t) (hx : xs.length = k) (hk : k ≤ 2 ^ 20) :
    ACalls Try.prog 15 [.agg (sqS n t), .ref (.sl 0 0 0 0 k 1)] [.lv true [(0, .ints .i64 k xs)]] (fun v ms ns => v = nrmAV n t xs k ∧ ms = [.lv true [(0, .ints .i64 k xs)]] ∧ ns = []) := by
  unfold nrmAV
  refine acalls_of_body mix Try.func15 rfl fok15 (Nat.le_of_ble_eq_true rfl) ?_
  unfold abody
  simp only [absE, absL, absF, reduceCtorEq, ↓reduceIte, Nat.reduceEqDiff, Nat.reduceAdd, Nat.reduceLT, Nat.reduceMul, Nat.reduceSub, Nat.reduceLeDiff, Int.reduceLT, Int.reduceLE, Int.reduceEq, Option.isSome_some, implies_true, false_implies, Prod.mk.injEq, ne_eq, not_false_eq_true, not_true_eq_false, ge_iff_le, gt_iff_lt, Int.toNat_natCast, Int.reduceToNat, Int.cast_ofNat_Int, Int.natCast_nonneg, Try.f15]
  refine CallsVia.args [(0, 0)] (l06List_ok n t xs k ht hx hk) (by simp) (by simp [Mem.get, assoc]) rfl rfl ?_
  rintro _ _ _ ⟨rfl, rfl, rfl⟩
  by_cases h : lcd1 n t xs k = 0
  · obtain ⟨h1, h2⟩ := lcd1_zero h
    have hu := lcd1_unit h1
    obtain ⟨N, rfl, hs⟩ := loopB_nat h1
    rw [Int.toNat_natCast] at hu h2
    simp only [absE, absL, absF, reduceCtorEq, ↓reduceIte, Nat.reduceEqDiff, Nat.reduceAdd, Nat.reduceLT, Nat.reduceMul, Nat.reduceSub, Nat.reduceLeDiff, Int.reduceLT, Int.reduceLE, Int.reduceEq, Option.isSome_some, implies_true, false_implies, Prod.mk.injEq, ne_eq, not_false_eq_true, not_true_eq_false, ge_iff_le, gt_iff_lt, Int.toNat_natCast, Int.reduceToNat, Int.cast_ofNat_Int, Int.natCast_nonneg, h]
    refine CallsVia.args [(0, 0)] (l06Normal_ok N t xs k ht hs hu hx (by subst hx; exact h2.small hs.le) h2) (by simp) (by simp [Mem.get]) rfl rfl ?_
    rintro _ _ _ ⟨rfl, rfl, rfl⟩
    simp only [absE, absL, absF, reduceCtorEq, ↓reduceIte, Nat.reduceEqDiff, Nat.reduceAdd, Nat.reduceLT, Nat.reduceMul, Nat.reduceSub, Nat.reduceLeDiff, Int.reduceLT, Int.reduceLE, Int.reduceEq, Option.isSome_some, implies_true, false_implies, Prod.mk.injEq, ne_eq, not_false_eq_true, not_true_eq_false, ge_iff_le, gt_iff_lt, Int.toNat_natCast, Int.reduceToNat, Int.cast_ofNat_Int, Int.natCast_nonneg, Try.results15]
    exact ⟨[], by simp, by simp, by simp [renV, renVs, renSegs, renSg, h, renBlk]⟩
  · simp only [absE, absL, absF, reduceCtorEq, ↓reduceIte, Nat.reduceEqDiff, Nat.reduceAdd, Nat.reduceLT, Nat.reduceMul, Nat.reduceSub, Nat.reduceLeDiff, Int.reduceLT, Int.reduceLE, Int.reduceEq, Option.isSome_some, implies_true, false_implies, Prod.mk.injEq, ne_eq, not_false_eq_true, not_true_eq_false, ge_iff_le, gt_iff_lt, Int.toNat_natCast, Int.reduceToNat, Int.cast_ofNat_Int, Int.natCast_nonneg, h, Try.results15]
    exact ⟨[], by simp, by simp, by simp [renV, renVs, renSegs, renSg, h, renBlk]⟩
theorem implNrm_ok (n : Int) (t : List Int) (xs : List Int) (k : Nat) (ht : Bytes 100 t) (hx : xs.length = k) (hk : k ≤ 2 ^ 20) :
    ACalls Try.prog 18 [.agg (sqS n t), .ref (.sl 0 0 0 0 k 1)] [.lv true [(0, .ints .i64 k xs)]] (fun v ms ns => v = nrmAV n t xs k ∧ ms = [.lv true [(0, .ints .i64 k xs)]] ∧ ns = []) := by
  unfold nrmAV
  refine acalls_of_body mix Try.func18 rfl fok18 (Nat.le_of_ble_eq_true rfl) ?_
  unfold abody
  simp only [absE, absL, absF, reduceCtorEq, ↓reduceIte, Nat.reduceEqDiff, Nat.reduceAdd, Nat.reduceLT, Nat.reduceMul, Nat.reduceSub, Nat.reduceLeDiff, Int.reduceLT, Int.reduceLE, Int.reduceEq, Option.isSome_some, implies_true, false_implies, Prod.mk.injEq, ne_eq, not_false_eq_true, not_true_eq_false, ge_iff_le, gt_iff_lt, Int.toNat_natCast, Int.reduceToNat, Int.cast_ofNat_Int, Int.natCast_nonneg, Try.f18]
  refine CallsVia.args [(0, 0)] (listCode_ok n t xs k ht hx hk) (by simp) (by simp [Mem.get, assoc]) rfl rfl ?_
  rintro _ _ _ ⟨rfl, rfl, rfl⟩
  by_cases h : lcd1 n t xs k = 0
  · obtain ⟨h1, h2⟩ := lcd1_zero h
    have hu := lcd1_unit h1
    obtain ⟨N, rfl, hs⟩ := loopB_nat h1
    rw [Int.toNat_natCast] at hu h2
    simp only [absE, absL, absF, reduceCtorEq, ↓reduceIte, Nat.reduceEqDiff, Nat.reduceAdd, Nat.reduceLT, Nat.reduceMul, Nat.reduceSub, Nat.reduceLeDiff, Int.reduceLT, Int.reduceLE, Int.reduceEq, Option.isSome_some, implies_true, false_implies, Prod.mk.injEq, ne_eq, not_false_eq_true, not_true_eq_false, ge_iff_le, gt_iff_lt, Int.toNat_natCast, Int.reduceToNat, Int.cast_ofNat_Int, Int.natCast_nonneg, h]
    refine CallsX.args [(0, 0)] (setOf_ok N xs k hs.le hk h2) (by simp) (by simp [Mem.get]) rfl rfl ?_
    simp only [absE, absL, absF, reduceCtorEq, ↓reduceIte, Nat.reduceEqDiff, Nat.reduceAdd, Nat.reduceLT, Nat.reduceMul, Nat.reduceSub, Nat.reduceLeDiff, Int.reduceLT, Int.reduceLE, Int.reduceEq, Option.isSome_some, implies_true, false_implies, Prod.mk.injEq, ne_eq, not_false_eq_true, not_true_eq_false, ge_iff_le, gt_iff_lt, Int.toNat_natCast, Int.reduceToNat, Int.cast_ofNat_Int, Int.natCast_nonneg]
    refine CallsX.none (isNormal_ok N t xs k ht hs hu h2) ?_
    simp only [absE, absL, absF, reduceCtorEq, ↓reduceIte, Nat.reduceEqDiff, Nat.reduceAdd, Nat.reduceLT, Nat.reduceMul, Nat.reduceSub, Nat.reduceLeDiff, Int.reduceLT, Int.reduceLE, Int.reduceEq, Option.isSome_some, implies_true, false_implies, Prod.mk.injEq, ne_eq, not_false_eq_true, not_true_eq_false, ge_iff_le, gt_iff_lt, Int.toNat_natCast, Int.reduceToNat, Int.cast_ofNat_Int, Int.natCast_nonneg, Try.results18]
    exact ⟨[], by simp, by simp, by simp [renV, renVs, renSegs, renSg, h, renBlk]⟩
  · simp only [absE, absL, absF, reduceCtorEq, ↓reduceIte, Nat.reduceEqDiff, Nat.reduceAdd, Nat.reduceLT, Nat.reduceMul, Nat.reduceSub, Nat.reduceLeDiff, Int.reduceLT, Int.reduceLE, Int.reduceEq, Option.isSome_some, implies_true, false_implies, Prod.mk.injEq, ne_eq, not_false_eq_true, not_true_eq_false, ge_iff_le, gt_iff_lt, Int.toNat_natCast, Int.reduceToNat, Int.cast_ofNat_Int, Int.natCast_nonneg, h, Try.results18]
    exact ⟨[], by simp, by simp, by simp [renV, renVs, renSegs, renSg, h, renBlk]⟩
noncomputable def ncL (n : Int) (t : List Int) (xs : List Int) (k : Nat) : List Int := memL (nclB n.toNat t (inL xs k)) n.toNat
theorem implNc_yes (n : Int) (t : List Int) (xs : List Int) (k : Nat) (ht : Bytes 100 t) (hx : xs.length = k) (hk : k ≤ 2 ^ 20) (h : decide (lcd1 n t xs k = 0) = true) :
    ACalls Try.prog 21 [.agg (sqS n t), .ref (.sl 0 0 0 0 k 1)] [.lv true [(0, .ints .i64 k xs)]] (fun v ms ns => v = .tup [.ref (.sl 1 0 0 0 (ncL n t xs k).length 1), .i .i64 0] ∧ ms = [.lv true [(0, .ints .i64 k xs)]] ∧ ns = [.lv true [(0, .ints .i64 (ncL n t xs k).length (ncL n t xs k))]]) := by
  have h := of_decide_eq_true h
  obtain ⟨h1, h2⟩ := lcd1_zero h
  have hu := lcd1_unit h1
  obtain ⟨N, rfl, hs⟩ := loopB_nat h1
  rw [Int.toNat_natCast] at hu h2
  have hN := hs.le
  have e : memL (setM (nclB N t (inL xs k)) N).testBit 10 = ncL N t xs k := by unfold ncL; rw [Int.toNat_natCast]; exact setM_list hN
  have hT := setList_ok (setM (nclB N t (inL xs k)) N) (setM_small hN)
  rw [e] at hT
  refine acalls_of_body mix Try.func21 rfl fok21 (Nat.le_of_ble_eq_true rfl) ?_
  unfold abody
  simp only [absE, absL, absF, reduceCtorEq, ↓reduceIte, Nat.reduceEqDiff, Nat.reduceAdd, Nat.reduceLT, Nat.reduceMul, Nat.reduceSub, Nat.reduceLeDiff, Int.reduceLT, Int.reduceLE, Int.reduceEq, Option.isSome_some, implies_true, false_implies, Prod.mk.injEq, ne_eq, not_false_eq_true, not_true_eq_false, ge_iff_le, gt_iff_lt, Int.toNat_natCast, Int.reduceToNat, Int.cast_ofNat_Int, Int.natCast_nonneg, Try.f21]
  refine CallsVia.args [(0, 0)] (listCode_ok N t xs k ht hx hk) (by simp) (by simp [Mem.get, assoc]) rfl rfl ?_
  rintro _ _ _ ⟨rfl, rfl, rfl⟩
  simp only [absE, absL, absF, reduceCtorEq, ↓reduceIte, Nat.reduceEqDiff, Nat.reduceAdd, Nat.reduceLT, Nat.reduceMul, Nat.reduceSub, Nat.reduceLeDiff, Int.reduceLT, Int.reduceLE, Int.reduceEq, Option.isSome_some, implies_true, false_implies, Prod.mk.injEq, ne_eq, not_false_eq_true, not_true_eq_false, ge_iff_le, gt_iff_lt, Int.toNat_natCast, Int.reduceToNat, Int.cast_ofNat_Int, Int.natCast_nonneg, h]
  refine CallsX.args [(0, 0)] (setOf_ok N xs k hs.le hk h2) (by simp) (by simp [Mem.get]) rfl rfl ?_
  simp only [absE, absL, absF, reduceCtorEq, ↓reduceIte, Nat.reduceEqDiff, Nat.reduceAdd, Nat.reduceLT, Nat.reduceMul, Nat.reduceSub, Nat.reduceLeDiff, Int.reduceLT, Int.reduceLE, Int.reduceEq, Option.isSome_some, implies_true, false_implies, Prod.mk.injEq, ne_eq, not_false_eq_true, not_true_eq_false, ge_iff_le, gt_iff_lt, Int.toNat_natCast, Int.reduceToNat, Int.cast_ofNat_Int, Int.natCast_nonneg]
  refine CallsX.none (closure_ok N t (setN xs k) (inL xs k) ht hs hu (setN_lt fun j hj => (h2.el_eq hj).2) fun z => setN_bit) ?_
  simp only [absE, absL, absF, reduceCtorEq, ↓reduceIte, Nat.reduceEqDiff, Nat.reduceAdd, Nat.reduceLT, Nat.reduceMul, Nat.reduceSub, Nat.reduceLeDiff, Int.reduceLT, Int.reduceLE, Int.reduceEq, Option.isSome_some, implies_true, false_implies, Prod.mk.injEq, ne_eq, not_false_eq_true, not_true_eq_false, ge_iff_le, gt_iff_lt, Int.toNat_natCast, Int.reduceToNat, Int.cast_ofNat_Int, Int.natCast_nonneg]
  refine CallsX.none hT ?_
  simp only [absE, absL, absF, reduceCtorEq, ↓reduceIte, Nat.reduceEqDiff, Nat.reduceAdd, Nat.reduceLT, Nat.reduceMul, Nat.reduceSub, Nat.reduceLeDiff, Int.reduceLT, Int.reduceLE, Int.reduceEq, Option.isSome_some, implies_true, false_implies, Prod.mk.injEq, ne_eq, not_false_eq_true, not_true_eq_false, ge_iff_le, gt_iff_lt, Int.toNat_natCast, Int.reduceToNat, Int.cast_ofNat_Int, Int.natCast_nonneg, Try.results21]
  refine ⟨by decide +kernel, ?_⟩
  exact ⟨[(14, 0)], by simp, by simp, by simp [renV, renVs, renAt, renFin, idx], by simp [renBlk, renSegs, renSg], by simp [renBlk, renSegs, renSg, Mem.get, assoc]⟩
theorem specNc_yes (n : Int) (t : List Int) (xs : List Int) (k : Nat) (ht : Bytes 100 t) (hx : xs.length = k) (hk : k ≤ 2 ^ 20) (h : decide (lcd1 n t xs k = 0) = true) :
    ACalls Try.prog 20 [.agg (sqS n t), .ref (.sl 0 0 0 0 k 1)] [.lv true [(0, .ints .i64 k xs)]] (fun v ms ns => v = .tup [.ref (.sl 1 0 0 0 (ncL n t xs k).length 1), .i .i64 0] ∧ ms = [.lv true [(0, .ints .i64 k xs)]] ∧ ns = [.lv true [(0, .ints .i64 (ncL n t xs k).length (ncL n t xs k))]]) := by
  have h := of_decide_eq_true h
  obtain ⟨h1, h2⟩ := lcd1_zero h
  have hu := lcd1_unit h1
  obtain ⟨N, rfl, hs⟩ := loopB_nat h1
  rw [Int.toNat_natCast] at hu h2
  have hcl := l06Closure_ok N t xs k ht hs hu (by subst hx; exact h2.small hs.le) fun j hj => h2.el_eq hj
  change ACalls _ _ _ _ (fun v ms ns => v = .ref (.sl 1 0 0 0 (ncL N t xs k).length 1) ∧ ms = [.lv true [(0, .ints .i64 k xs)]] ∧ ns = [ib (ncL N t xs k)]) at hcl
  refine acalls_of_body mix Try.func20 rfl fok20 (Nat.le_of_ble_eq_true rfl) ?_
  unfold abody
  simp only [absE, absL, absF, reduceCtorEq, ↓reduceIte, Nat.reduceEqDiff, Nat.reduceAdd, Nat.reduceLT, Nat.reduceMul, Nat.reduceSub, Nat.reduceLeDiff, Int.reduceLT, Int.reduceLE, Int.reduceEq, Option.isSome_some, implies_true, false_implies, Prod.mk.injEq, ne_eq, not_false_eq_true, not_true_eq_false, ge_iff_le, gt_iff_lt, Int.toNat_natCast, Int.reduceToNat, Int.cast_ofNat_Int, Int.natCast_nonneg, Try.f20]
  refine CallsVia.args [(0, 0)] (l06List_ok N t xs k ht hx hk) (by simp) (by simp [Mem.get, assoc]) rfl rfl ?_
  rintro _ _ _ ⟨rfl, rfl, rfl⟩
  simp only [absE, absL, absF, reduceCtorEq, ↓reduceIte, Nat.reduceEqDiff, Nat.reduceAdd, Nat.reduceLT, Nat.reduceMul, Nat.reduceSub, Nat.reduceLeDiff, Int.reduceLT, Int.reduceLE, Int.reduceEq, Option.isSome_some, implies_true, false_implies, Prod.mk.injEq, ne_eq, not_false_eq_true, not_true_eq_false, ge_iff_le, gt_iff_lt, Int.toNat_natCast, Int.reduceToNat, Int.cast_ofNat_Int, Int.natCast_nonneg, h]
  refine CallsVia.args [(0, 0)] hcl (by simp) (by simp [Mem.get]) rfl rfl ?_
  rintro _ _ _ ⟨rfl, rfl, rfl⟩
  simp only [absE, absL, absF, reduceCtorEq, ↓reduceIte, Nat.reduceEqDiff, Nat.reduceAdd, Nat.reduceLT, Nat.reduceMul, Nat.reduceSub, Nat.reduceLeDiff, Int.reduceLT, Int.reduceLE, Int.reduceEq, Option.isSome_some, implies_true, false_implies, Prod.mk.injEq, ne_eq, not_false_eq_true, not_true_eq_false, ge_iff_le, gt_iff_lt, Int.toNat_natCast, Int.reduceToNat, Int.cast_ofNat_Int, Int.natCast_nonneg, ib, Try.results20]
  exact ⟨[(12, 0)], by simp, by simp, by simp [renV, renVs, renAt, renFin, idx], by simp [renBlk, renSegs, renSg], by simp [renBlk, renSegs, renSg, Mem.get, assoc]⟩
theorem implNc_no (n : Int) (t : List Int) (xs : List Int) (k : Nat) (ht : Bytes 100 t) (hx : xs.length = k) (hk : k ≤ 2 ^ 20) (h : decide (lcd1 n t xs k = 0) = false) :
    ACalls Try.prog 21 [.agg (sqS n t), .ref (.sl 0 0 0 0 k 1)] [.lv true [(0, .ints .i64 k xs)]] (fun v ms ns => v = .tup [.ref .nils, .i .i64 (lcd1 n t xs k)] ∧ ms = [.lv true [(0, .ints .i64 k xs)]] ∧ ns = []) := by
  have h := of_decide_eq_false h
  refine acalls_of_body mix Try.func21 rfl fok21 (Nat.le_of_ble_eq_true rfl) ?_
  unfold abody
  simp only [absE, absL, absF, reduceCtorEq, ↓reduceIte, Nat.reduceEqDiff, Nat.reduceAdd, Nat.reduceLT, Nat.reduceMul, Nat.reduceSub, Nat.reduceLeDiff, Int.reduceLT, Int.reduceLE, Int.reduceEq, Option.isSome_some, implies_true, false_implies, Prod.mk.injEq, ne_eq, not_false_eq_true, not_true_eq_false, ge_iff_le, gt_iff_lt, Int.toNat_natCast, Int.reduceToNat, Int.cast_ofNat_Int, Int.natCast_nonneg, Try.f21]
  refine CallsVia.args [(0, 0)] (listCode_ok n t xs k ht hx hk) (by simp) (by simp [Mem.get, assoc]) rfl rfl ?_
  rintro _ _ _ ⟨rfl, rfl, rfl⟩
  simp only [absE, absL, absF, reduceCtorEq, ↓reduceIte, Nat.reduceEqDiff, Nat.reduceAdd, Nat.reduceLT, Nat.reduceMul, Nat.reduceSub, Nat.reduceLeDiff, Int.reduceLT, Int.reduceLE, Int.reduceEq, Option.isSome_some, implies_true, false_implies, Prod.mk.injEq, ne_eq, not_false_eq_true, not_true_eq_false, ge_iff_le, gt_iff_lt, Int.toNat_natCast, Int.reduceToNat, Int.cast_ofNat_Int, Int.natCast_nonneg, h, Try.results21]
  exact ⟨[], by simp, by simp, by simp [renV, renVs, renAt, renBlk, renSegs, renSg]⟩
theorem specNc_no (n : Int) (t : List Int) (xs : List Int) (k : Nat) (ht : Bytes 100 t) (hx : xs.length = k) (hk : k ≤ 2 ^ 20) (h : decide (lcd1 n t xs k = 0) = false) :
    ACalls Try.prog 20 [.agg (sqS n t), .ref (.sl 0 0 0 0 k 1)] [.lv true [(0, .ints .i64 k xs)]] (fun v ms ns => v = .tup [.ref .nils, .i .i64 (lcd1 n t xs k)] ∧ ms = [.lv true [(0, .ints .i64 k xs)]] ∧ ns = []) := by
  have h := of_decide_eq_false h
  refine acalls_of_body mix Try.func20 rfl fok20 (Nat.le_of_ble_eq_true rfl) ?_
  unfold abody
  simp only [absE, absL, absF, reduceCtorEq, ↓reduceIte, Nat.reduceEqDiff, Nat.reduceAdd, Nat.reduceLT, Nat.reduceMul, Nat.reduceSub, Nat.reduceLeDiff, Int.reduceLT, Int.reduceLE, Int.reduceEq, Option.isSome_some, implies_true, false_implies, Prod.mk.injEq, ne_eq, not_false_eq_true, not_true_eq_false, ge_iff_le, gt_iff_lt, Int.toNat_natCast, Int.reduceToNat, Int.cast_ofNat_Int, Int.natCast_nonneg, Try.f20]
  refine CallsVia.args [(0, 0)] (l06List_ok n t xs k ht hx hk) (by simp) (by simp [Mem.get, assoc]) rfl rfl ?_
  rintro _ _ _ ⟨rfl, rfl, rfl⟩
  simp only [absE, absL, absF, reduceCtorEq, ↓reduceIte, Nat.reduceEqDiff, Nat.reduceAdd, Nat.reduceLT, Nat.reduceMul, Nat.reduceSub, Nat.reduceLeDiff, Int.reduceLT, Int.reduceLE, Int.reduceEq, Option.isSome_some, implies_true, false_implies, Prod.mk.injEq, ne_eq, not_false_eq_true, not_true_eq_false, ge_iff_le, gt_iff_lt, Int.toNat_natCast, Int.reduceToNat, Int.cast_ofNat_Int, Int.natCast_nonneg, h, Try.results20]
  exact ⟨[], by simp, by simp, by simp [renV, renVs, renAt, renBlk, renSegs, renSg]⟩
theorem ncL_len {n : Int} {t : List Int} {xs : List Int} {k : Nat} (h : decide (lcd1 n t xs k = 0) = true) : (ncL n t xs k).length < 2 ^ 40 := by
  have := loopB_le (lcd1_zero (of_decide_eq_true h)).1
  have := memL_len (p := nclB n.toNat t (inL xs k)) (k := n.toNat)
  unfold ncL; omega

end Go.Proofs.Ytoccbgffekhcaaa
