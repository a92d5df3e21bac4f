/-
Contracts of functions of the given program, by the abstract walk.
-/
import Derived.Test.YtcaadjjgggjefaaAbsY
import Derived.Test.YtcaadjjgggjefaaJf
import Derived.Test.YtcaadjjgggjefaaJx
namespace Go.Proofs.Ytcaadjjgggjefaa
open Go Go.Abs
set_option linter.unusedVariables false
set_option linter.unusedSectionVars false
set_option linter.unusedSimpArgs false
set_option maxRecDepth 100000
theorem upB_congr {N : Nat} {t : List Int} {p q : Nat → Bool} {a : Nat} (hs : SqP N t) (ha : a < N) (h : ∀ z, z < N → p z = q z) : upB N t p a = upB N t q a := by
  unfold upB
  rw [Bool.eq_iff_iff, pairsB_iff, pairsB_iff]
  refine forall_congr' fun x => forall_congr' fun hx => forall_congr' fun y => forall_congr' fun hy => ?_
  unfold upG
  rw [h _ (comN_lt hs ha hx), h _ (ascN_lt hs ha hx hy), h _ (ascN_lt hs hx ha hy), h _ (ascN_lt hs hx hy ha)]
theorem upB_mono {N : Nat} {t : List Int} {p q : Nat → Bool} {a : Nat} (hs : SqP N t) (ha : a < N) (h : ∀ z, z < N → p z = true → q z = true) (hp : upB N t p a = true) : upB N t q a = true := by
  unfold upB at hp ⊢
  rw [pairsB_iff] at hp ⊢
  intro x hx y hy
  have := hp x hx y hy
  simp only [upG, Bool.and_eq_true] at this ⊢
  exact ⟨⟨⟨h _ (comN_lt hs ha hx) this.1.1.1, h _ (ascN_lt hs ha hx hy) this.1.1.2⟩, h _ (ascN_lt hs hx ha hy) this.1.2⟩, h _ (ascN_lt hs hx hy ha) this.2⟩
noncomputable def prevP (N : Nat) (t : List Int) : Nat → Nat → Bool
  | 0 => fun z => decide (z = 0)
  | k + 1 => upB N t (prevP N t k)
noncomputable def sN (N : Nat) (t : List Int) (k : Nat) : Nat := setM (prevP N t (k + 1)) N
theorem sN_bit {N : Nat} {t : List Int} {k z : Nat} (h : z < N) : (sN N t k).testBit z = prevP N t (k + 1) z := by rw [sN, setM_bit, decide_eq_true h, Bool.true_and]
theorem sN_next {N : Nat} {t : List Int} {k : Nat} (hs : SqP N t) : setM (upB N t (sN N t k).testBit) N = sN N t (k + 1) :=
  setM_congr fun a ha => upB_congr hs ha fun z hz => sN_bit hz
theorem sN_zero {N : Nat} {t : List Int} (hs : SqP N t) : setM (upB N t (Nat.testBit 1)) N = sN N t 0 :=
  setM_congr fun a ha => upB_congr hs ha fun z hz => by
    show Nat.testBit 1 z = decide (z = 0)
    rw [show (1 : Nat) = 2 ^ 0 by rfl, Nat.testBit_two_pow]
    exact decide_eq_decide.2 eq_comm
theorem prev_zero {N : Nat} {t : List Int} (hs : SqP N t) (hu : UnitP N t 0) : prevP N t 1 0 = true := by
  show upB N t _ 0 = true
  have hN := hs.le
  have h0 := hs.pos
  rw [upB, pairsB_iff]
  intro x hx y hy
  have f1 : ∀ i, i < N → fnd (cl t i) i N = 0 := fun i hi => by
    have := (hs.rowP hi).fnd_eq hN (show 0 < N by omega)
    rwa [(hu i hi).2] at this
  have hxy := hs.cl_lt hx hy
  have hx1 := hu x hx
  have hy1 := hu y hy
  have hz := hu (cl t x y) hxy
  simp only [upG, comN, ascN, hx1.1, hx1.2, hy1.1, hy1.2, hz.1, hz.2, f1 x hx, f1 (cl t x y) hxy]
  rfl
theorem prev_mono {N : Nat} {t : List Int} (hs : SqP N t) (hu : UnitP N t 0) : ∀ k z, z < N → prevP N t k z = true → prevP N t (k + 1) z = true
  | 0, z, hz, h => by
    have : z = 0 := of_decide_eq_true h
    subst this; exact prev_zero hs hu
  | k + 1, z, hz, h => upB_mono hs hz (fun w hw => prev_mono hs hu k w hw) h
theorem sN_le {N : Nat} {t : List Int} (hs : SqP N t) (hu : UnitP N t 0) (k : Nat) : sN N t k ≤ sN N t (k + 1) := bits_le fun i hi => by
  unfold sN at hi ⊢
  rw [setM_bit, Bool.and_eq_true, decide_eq_true_iff] at hi ⊢
  exact ⟨hi.1, prev_mono hs hu (k + 1) i hi.1 hi.2⟩
theorem sN_lt {N : Nat} {t : List Int} {k : Nat} (hN : N ≤ 10) : sN N t k < 1024 := by
  have h := setM_lt (p := prevP N t (k + 1)) (k := N)
  have h2 : (2 : Nat) ^ N ≤ 2 ^ 10 := Nat.pow_le_pow_right (by decide) hN
  unfold sN; omega
theorem sN_grow {N : Nat} {t : List Int} (hs : SqP N t) (hu : UnitP N t 0) : ∀ k, (∀ j, j < k → sN N t (j + 1) ≠ sN N t j) → k ≤ sN N t k
  | 0, _ => Nat.zero_le _
  | k + 1, h => by
    have h1 := sN_grow hs hu k fun j hj => h j (by omega)
    have h2 := sN_le hs hu k
    have h3 := h k (by omega)
    omega
noncomputable def serK (N : Nat) (t : List Int) : Nat := fnd (fun k => if sN N t (k + 1) = sN N t k then 1 else 0) 1 1100
theorem serK_eq {N : Nat} {t : List Int} {k : Nat} (hk : k < 1100) (h : sN N t (k + 1) = sN N t k) (hn : ∀ j, j < k → sN N t (j + 1) ≠ sN N t j) : serK N t = k :=
  fnd_eq hk (if_pos h) fun j hj => by rw [if_neg (hn j hj)]; decide
noncomputable def serI (N : Nat) (t : List Int) (k : Nat) : List Int := (List.range (k + 1)).map fun i => ((sN N t i : Nat) : Int)
theorem serI_len {N : Nat} {t : List Int} {k : Nat} : (serI N t k).length = k + 1 := by simp [serI]
theorem serI_get {N : Nat} {t : List Int} {k i : Nat} (h : i ≤ k) : (serI N t k).getD i 0 = ((sN N t i : Nat) : Int) := by simp [serI, show i < k + 1 by omega]
theorem serI_next {N : Nat} {t : List Int} {k : Nat} : serI N t (k + 1) = serI N t k ++ [((sN N t (k + 1) : Nat) : Int)] := by
  unfold serI; rw [List.range_succ, List.map_append]; rfl
theorem series_ok (N : Nat) (t : List Int) (ht : Bytes 100 t) (hs : SqP N t) (hu : UnitP N t 0) :
    ACalls Try.prog 57 [.agg (sqS N t)] [] (fun v ms ns => v = .ref (.sl 1 0 0 0 (serK N t + 1) 1) ∧ ms = [] ∧ ns = [.lv true [(0, .ints .i64 (serK N t + 1) (serI N t (serK N t)))]]) := by
  have hN := hs.le
  have b62 : ∀ k, sN N t k < 2 ^ 62 := fun k => by have := sN_lt (t := t) (k := k) hN; omega
  refine acalls_of_body mix Try.func57 rfl fok57 (Nat.le_of_ble_eq_true rfl) ?_
  unfold abody
  simp only [absE, absL, absF, reduceCtorEq, ↓reduceIte, Nat.reduceEqDiff, Nat.reduceAdd, Nat.reduceLT, Nat.reduceMul, Nat.reduceSub, Nat.reduceLeDiff, Int.reduceLT, Int.reduceLE, Int.reduceEq, Option.isSome_some, implies_true, false_implies, Prod.mk.injEq, ne_eq, not_false_eq_true, not_true_eq_false, ge_iff_le, gt_iff_lt, Int.toNat_natCast, Int.reduceToNat, Int.cast_ofNat_Int, Int.natCast_nonneg, Try.f57]
  refine CallsVia.none (upper_ok N t 1 ht hs (by decide)) ?_
  rintro _ _ _ ⟨rfl, rfl, rfl⟩
  simp only [absE, absL, absF, reduceCtorEq, ↓reduceIte, Nat.reduceEqDiff, Nat.reduceAdd, Nat.reduceLT, Nat.reduceMul, Nat.reduceSub, Nat.reduceLeDiff, Int.reduceLT, Int.reduceLE, Int.reduceEq, Option.isSome_some, implies_true, false_implies, Prod.mk.injEq, ne_eq, not_false_eq_true, not_true_eq_false, ge_iff_le, gt_iff_lt, Int.toNat_natCast, Int.reduceToNat, Int.cast_ofNat_Int, Int.natCast_nonneg, sN_zero hs]
  refine awpLoop.intro (fun k : Nat => [(1, .ref (.ptr 1 0 0 0)), (3, .ref (.sl 5 0 0 0 (k + 1) 1))]) (fun k => ⟨[], [((1, 0), .lv true (sqS N t)), ((5, 0), .lv true ([(0, .ints .i64 (k + 1) (serI N t k))]))], 7⟩)
    (fun k => ∀ j, j < k → sN N t (j + 1) ≠ sN N t j) (fun k => 1100 - k) 0 (fun j hj => absurd hj (by omega)) ⟨[((1,0),(1,0)), ((5,0),(5,0))], rfl, ?_, ?_⟩ ?_
  · simp [wkEnv, lk, renV, renAt, renTo, serI, zeroArr]
  · simp [wkMem, wkLoc, Mem.get, assoc, renBlk, renSegs, renSg, renTo, serI, zeroArr]
  · intro k hk
    have g := sN_grow hs hu k hk
    have g2 := sN_lt (t := t) (k := k) hN
    have w : IntKind.i64.wrap (((k + 1 : Nat) : Int) - 1) = k := by rw [show ((k + 1 : Nat) : Int) - 1 = (k : Nat) by omega]; exact wrap_i64n (by omega)
    have i1 : (k : Int) < ((k + 1 : Nat) : Int) := by omega
    have v1 : 0 + k * 1 < k + 1 := by omega
    have e0 : (serI N t k).getD (0 + k * 1) 0 = ((sN N t k : Nat) : Int) := by rw [Nat.zero_add, Nat.mul_one]; exact serI_get (Nat.le_refl _)
    simp only [absE, absL, absF, reduceCtorEq, ↓reduceIte, Nat.reduceEqDiff, Nat.reduceAdd, Nat.reduceLT, Nat.reduceMul, Nat.reduceSub, Nat.reduceLeDiff, Int.reduceLT, Int.reduceLE, Int.reduceEq, Option.isSome_some, implies_true, false_implies, Prod.mk.injEq, ne_eq, not_false_eq_true, not_true_eq_false, ge_iff_le, gt_iff_lt, Int.toNat_natCast, Int.reduceToNat, Int.cast_ofNat_Int, Int.natCast_nonneg, w, i1, v1, e0]
    refine CallsVia.none (upper_ok N t (sN N t k) ht hs (b62 k)) ?_
    rintro _ _ _ ⟨rfl, rfl, rfl⟩
    rw [sN_next hs]
    by_cases he : sN N t (k + 1) = sN N t k
    · have hi : ((sN N t (k + 1) : Nat) : Int) = (sN N t k : Nat) := by omega
      have ek := serK_eq (by omega) he hk
      simp only [absE, absL, absF, reduceCtorEq, ↓reduceIte, Nat.reduceEqDiff, Nat.reduceAdd, Nat.reduceLT, Nat.reduceMul, Nat.reduceSub, Nat.reduceLeDiff, Int.reduceLT, Int.reduceLE, Int.reduceEq, Option.isSome_some, implies_true, false_implies, Prod.mk.injEq, ne_eq, not_false_eq_true, not_true_eq_false, ge_iff_le, gt_iff_lt, Int.toNat_natCast, Int.reduceToNat, Int.cast_ofNat_Int, Int.natCast_nonneg, hi, eq_self, Try.results57]
      rw [ek]
      exact ⟨[(5, 0)], by simp, by simp, by simp [renV, renAt, renFin, idx], by simp, by simp [renBlk, renSegs, renSg, Mem.get, assoc]⟩
    · have hi : ¬((sN N t (k + 1) : Nat) : Int) = (sN N t k : Nat) := by omega
      have m1 : (k + 1) * 1 = k + 1 := Nat.mul_one _
      simp only [absE, absL, absF, reduceCtorEq, ↓reduceIte, Nat.reduceEqDiff, Nat.reduceAdd, Nat.reduceLT, Nat.reduceMul, Nat.reduceSub, Nat.reduceLeDiff, Int.reduceLT, Int.reduceLE, Int.reduceEq, Option.isSome_some, implies_true, false_implies, Prod.mk.injEq, ne_eq, not_false_eq_true, not_true_eq_false, ge_iff_le, gt_iff_lt, Int.toNat_natCast, Int.reduceToNat, Int.cast_ofNat_Int, Int.natCast_nonneg, hi, m1]
      repeat refine And.intro (by omega) ?_
      refine LoopNext.intro (k + 1) (fun j hj => ?_) (by omega) ⟨[((1,0),(1,0)), ((24,0),(5,0))], rfl, ?_, ?_⟩
      · by_cases e : j = k
        · subst e; exact he
        · exact hk j (by omega)
      · simp [wkEnv, lk, renV, renAt, renTo]
      · rw [serI_next]; simp [wkMem, wkLoc, Mem.get, assoc, renBlk, renSegs, renSg, renTo]
/-- Sets as bits, as lists. -/
def bitsL (vs : List Nat) : LLs := vs.map fun v => memL v.testBit 10
theorem listsOf_ok (vs : List Nat) (hv : ∀ v ∈ vs, v < 2 ^ 62) (hl : vs.length < 2 ^ 30) :
    ACalls Try.prog 70 [.ref (.sl 0 0 0 0 vs.length 1)] [.lv true [(0, .ints .i64 vs.length (vs.map fun v => ((v : Nat) : Int)))]] (fun v ms ns => v = .ref (.sl 1 0 0 0 vs.length 1) ∧ ms = [.lv true [(0, .ints .i64 vs.length (vs.map fun v => ((v : Nat) : Int)))]] ∧ ns = ob 1 1 (bitsL vs) :: inn (bitsL vs)) := by
  have hbl : (bitsL vs).length = vs.length := by simp [bitsL]
  refine acalls_of_body mix Try.func70 rfl fok70 (Nat.le_of_ble_eq_true rfl) ?_
  unfold abody
  simp only [absE, absL, absF, reduceCtorEq, ↓reduceIte, Nat.reduceEqDiff, Nat.reduceAdd, Nat.reduceLT, Nat.reduceMul, Nat.reduceSub, Nat.reduceLeDiff, Int.reduceLT, Int.reduceLE, Int.reduceEq, Option.isSome_some, implies_true, false_implies, Prod.mk.injEq, ne_eq, not_false_eq_true, not_true_eq_false, ge_iff_le, gt_iff_lt, Int.toNat_natCast, Int.reduceToNat, Int.cast_ofNat_Int, Int.natCast_nonneg, Try.f70]
  refine awpLoop.intro (fun i : Nat => [(3, .ref (.sl 2 0 0 0 i 1)), (7, .ref (.sl 0 0 0 0 vs.length 1)), (8, .i .i64 vs.length), (9, .i .i64 i)]) (fun i => ⟨[.lv true [(0, .ints .i64 vs.length (vs.map fun v => ((v : Nat) : Int)))]], [((2, 0), .lv true ([(0, .cells i (outs 3 0 ((bitsL vs).take i)))]))] ++ rbag 3 0 ((bitsL vs).take i), 7⟩)
    (fun i => i ≤ vs.length) (fun i => vs.length - i) 0 (by omega) ⟨[((2,0),(2,0))], rfl, ?_, ?_⟩ ?_
  · simp [wkEnv, lk, renV, renAt, renTo, rbag_nil, outs_nil, zeroArr]
  · simp [wkMem, wkLoc, Mem.get, assoc, renBlk, renSegs, renSg, renTo, rbag_nil, outs_nil, zeroArr]
  · intro i hi
    by_cases h : (i : Int) < vs.length
    · have w := wrap_i64s (show i < 2 ^ 62 by omega)
      have hin : i < vs.length := by omega
      have hinb : i < (bitsL vs).length := by omega
      have v1 : 0 + i * 1 < vs.length := by omega
      have e0 : (vs.map fun v => ((v : Nat) : Int)).getD (0 + i * 1) 0 = ((vs[i] : Nat) : Int) := by rw [Nat.zero_add, Nat.mul_one]; simp [hin]
      have ea : at_ (bitsL vs) i = memL (vs[i]).testBit 10 := by rw [at_lt hinb]; simp [bitsL]
      have m1 : i * 1 = i := Nat.mul_one _
      simp only [absE, absL, absF, reduceCtorEq, ↓reduceIte, Nat.reduceEqDiff, Nat.reduceAdd, Nat.reduceLT, Nat.reduceMul, Nat.reduceSub, Nat.reduceLeDiff, Int.reduceLT, Int.reduceLE, Int.reduceEq, Option.isSome_some, implies_true, false_implies, Prod.mk.injEq, ne_eq, not_false_eq_true, not_true_eq_false, ge_iff_le, gt_iff_lt, Int.toNat_natCast, Int.reduceToNat, Int.cast_ofNat_Int, Int.natCast_nonneg, h, v1, e0]
      refine CallsVia.none (setList_ok vs[i] (hv _ (List.getElem_mem hin))) ?_
      rintro _ _ _ ⟨rfl, rfl, rfl⟩
      simp only [absE, absL, absF, reduceCtorEq, ↓reduceIte, Nat.reduceEqDiff, Nat.reduceAdd, Nat.reduceLT, Nat.reduceMul, Nat.reduceSub, Nat.reduceLeDiff, Int.reduceLT, Int.reduceLE, Int.reduceEq, Option.isSome_some, implies_true, false_implies, Prod.mk.injEq, ne_eq, not_false_eq_true, not_true_eq_false, ge_iff_le, gt_iff_lt, Int.toNat_natCast, Int.reduceToNat, Int.cast_ofNat_Int, Int.natCast_nonneg, m1]
      repeat refine And.intro (by omega) ?_
      refine LoopNext.intro (i + 1) (by omega) (by omega) ⟨[] ++ snocS (15, 0) 2 13 3 i, wkOk_snoc (next := 7) (by simp [wkOk]) (by decide) (by decide) (by decide) (by decide) (by simp) (by decide), ?_, ?_⟩
      · simp [wkEnv, lk, renV, renAt, snocS, renTo, w]
      · simp only [wkMem]
        rw [take_at hinb, ea, wk_snoc (LL := (bitsL vs).take i) (xs := memL (vs[i]).testBit 10) (by rw [List.length_take]; omega) (by decide) (by decide) (by decide) (by simp) (by decide) (by simp [Mem.get, assoc]) (by simp [Mem.get, assoc, ib]) (fun j hj => by
          simp only [Mem.get, assoc]
          simp
          have q := assoc_rbag_in' (a := 3) (k := 0) (i := j) (LL := (bitsL vs).take i) (by rw [List.length_take]; omega)
          rwa [Nat.zero_add] at q)]
        simp [wkLoc, ob, show min i (bitsL vs).length = i by omega, renBlk, renSegs, renSg]
    · obtain rfl : i = vs.length := by omega
      simp only [absE, absL, absF, reduceCtorEq, ↓reduceIte, Nat.reduceEqDiff, Nat.reduceAdd, Nat.reduceLT, Nat.reduceMul, Nat.reduceSub, Nat.reduceLeDiff, Int.reduceLT, Int.reduceLE, Int.reduceEq, Option.isSome_some, implies_true, false_implies, Prod.mk.injEq, ne_eq, not_false_eq_true, not_true_eq_false, ge_iff_le, gt_iff_lt, Int.toNat_natCast, Int.reduceToNat, Int.cast_ofNat_Int, Int.natCast_nonneg, h, Try.results70]
      have et : (bitsL vs).take vs.length = bitsL vs := by rw [← hbl]; exact List.take_length
      rw [et]
      refine ⟨(2, 0) :: srcs 3 0 (bitsL vs).length, row_nodup (.inl (by decide)), row_keep (by decide) (by decide), by simp [renV, renAt, renFin, idx], by simp [renBlk, renSegs, renSg], ?_⟩
      exact row_map (p := (2, 0)) (B := 3) (LL := bitsL vs) (by decide) (by decide) (by simp [Mem.get, assoc, ob, hbl]) fun j hj => by simp only [Mem.get, assoc]; simp; have q := assoc_rbag_in' (a := 3) (k := 0) hj; rwa [Nat.zero_add] at q

end Go.Proofs.Ytcaadjjgggjefaa
