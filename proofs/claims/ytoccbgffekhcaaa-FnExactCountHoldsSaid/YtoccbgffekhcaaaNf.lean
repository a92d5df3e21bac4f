/-
Contracts of functions of the given program, by the abstract walk.
-/
import Derived.Test.YtoccbgffekhcaaaAbsY
import Derived.Test.YtoccbgffekhcaaaNe
import Derived.Test.YtoccbgffekhcaaaJj
namespace Go.Proofs.Ytoccbgffekhcaaa
open Go Go.Abs
set_option linter.unusedVariables false
set_option linter.unusedSectionVars false
set_option linter.unusedSimpArgs false
set_option maxRecDepth 100000
/-! classes as lists: the walks -/
theorem chk_before {ops : List Oper} {j : Nat} {wr rd : List Abs.Id} : ∀ {h : Hist}, (h.all fun x => (x.2.1.isEmpty && x.2.2.isEmpty) || ordB ops x.1 j) = true → chk ops j wr rd h
  | [], _ => trivial
  | (i, wr', rd') :: r, hh => by
    simp only [List.all_cons, Bool.and_eq_true] at hh
    refine ⟨?_, chk_before hh.2⟩
    rcases (Bool.or_eq_true_iff.1 hh.1) with h1 | h1
    · simp only [Bool.and_eq_true, List.isEmpty_iff] at h1
      rw [h1.1, h1.2]; rfl
    · rw [h1, Bool.or_true]
theorem wk_keep_ob {m : Mem} {pre : Pairs} {B : Nat} {LL : LLs} {o O : Abs.Id} (hB0 : B ≠ 0) (hpre : ∀ x ∈ pre, x.1.1 ≠ B) (ho : o.1 ≠ B) (hO : m.get o.1 o.2 = ob B 0 LL) (hB : ∀ j, j < LL.length → m.get B (0 + j) = ib (at_ LL j)) :
    wkLoc m (renTo (pre ++ (o, O) :: stdR B LL.length)) (pre ++ (o, O) :: stdR B LL.length) = wkLoc m (renTo (pre ++ (o, O) :: stdR B LL.length)) pre ++ (O, ob B 0 LL) :: rbag B 0 LL := by
  have e : pre ++ (o, O) :: stdR B LL.length = (pre ++ [(o, O)]) ++ stdR B LL.length := by simp
  rw [e, wk_keep rfl hB, wkLoc_app, wkLoc, wkLoc, hO, ob_ren (a' := B) (k' := 0) fun j hj => keep_at hB0 (fun x hx => by
    rcases List.mem_append.1 hx with hx | hx
    · exact hpre x hx
    · simp at hx; subst hx; exact ho) hj]
  simp
theorem wkOk_keep_ob {pre : Pairs} {B n next : Nat} {o O : Abs.Id} (h : wkOk (pre ++ [(o, O)]) next = true) (hB0 : B ≠ 0) (hBn : B < next) (hpre : ∀ x ∈ pre ++ [(o, O)], x.1.1 ≠ B ∧ x.2.1 ≠ B) : wkOk (pre ++ (o, O) :: stdR B n) next = true := by
  have e : pre ++ (o, O) :: stdR B n = (pre ++ [(o, O)]) ++ stdR B n := by simp
  rw [e]; exact wkOk_keep h hB0 hBn hpre
theorem labL_len {c : Nat → Nat} {N : Nat} : ∀ {x}, (labL c N x).length ≤ x
  | 0 => Nat.le_refl _
  | x + 1 => by
    have := labL_len (c := c) (N := N) (x := x)
    unfold labL; split
    · omega
    · rw [List.length_append, List.length_singleton]; omega
theorem labRow_len {c : Nat → Nat} {x : Nat} : ∀ {n}, (labRow c x n).length ≤ n
  | 0 => Nat.le_refl _
  | n + 1 => by
    have := labRow_len (c := c) (x := x) (n := n)
    unfold labRow; split
    · rw [List.length_append, List.length_singleton]; omega
    · omega
theorem lists_ok (N : Nat) (c : Nat → Nat) (hN : N ≤ 10) :
    ACalls Try.prog 77 [.ref (.sl 0 0 0 0 N 1)] [.lv true [(0, .ints .i64 N (fl c N))]] (fun v ms ns => v = .ref (.sl 1 0 0 0 (labL c N N).length 1) ∧ ms = [.lv true [(0, .ints .i64 N (fl c N))]] ∧ ns = ob 1 1 (labL c N N) :: inn (labL c N N)) := by
  refine acalls_of_body mix Try.func77 rfl fok77 (Nat.le_of_ble_eq_true rfl) ?_
  unfold abody
  simp only [absE, absL, absF, reduceCtorEq, ↓reduceIte, Nat.reduceEqDiff, Nat.reduceAdd, Nat.reduceLT, Nat.reduceMul, Nat.reduceSub, Nat.reduceLeDiff, Int.reduceLT, Int.reduceLE, Int.reduceEq, Option.isSome_some, implies_true, false_implies, Prod.mk.injEq, ne_eq, not_false_eq_true, not_true_eq_false, ge_iff_le, gt_iff_lt, Int.toNat_natCast, Int.reduceToNat, Int.cast_ofNat_Int, Int.natCast_nonneg, Try.f77]
  refine awpLoop.intro (fun x : Nat => [(0, .ref (.sl 0 0 0 0 N 1)), (3, .ref (.sl 2 0 0 0 (labL c N x).length 1)), (9, .i .i64 N), (10, .i .i64 x)]) (fun x => ⟨[.lv true [(0, .ints .i64 N (fl c N))]], [((2, 0), .lv true ([(0, .cells (labL c N x).length (outs 3 0 (labL c N x)))]))] ++ rbag 3 0 (labL c N x), 7⟩)
    (fun x => x ≤ N) (fun x => N - x) 0 (by omega) ⟨[((2,0),(2,0))], rfl, ?_, ?_⟩ ?_
  · simp [wkEnv, lk, renV, renAt, renTo, rbag_nil, outs_nil, zeroArr, labL]
  · simp [wkMem, wkLoc, Mem.get, assoc, renBlk, renSegs, renSg, renTo, rbag_nil, outs_nil, zeroArr, labL]
  · intro x hx
    by_cases h : (x : Int) < N
    · have w := wrap_i64s (show x < 2 ^ 62 by omega)
      have hLs : labL c N (x + 1) = if (labRow c x N).length = 0 then labL c N x else labL c N x ++ [labRow c x N] := rfl
      have hLl := labL_len (c := c) (N := N) (x := x)
      generalize labL c N x = L at hLs hLl ⊢
      simp only [absE, absL, absF, reduceCtorEq, ↓reduceIte, Nat.reduceEqDiff, Nat.reduceAdd, Nat.reduceLT, Nat.reduceMul, Nat.reduceSub, Nat.reduceLeDiff, Int.reduceLT, Int.reduceLE, Int.reduceEq, Option.isSome_some, implies_true, false_implies, Prod.mk.injEq, ne_eq, not_false_eq_true, not_true_eq_false, ge_iff_le, gt_iff_lt, Int.toNat_natCast, Int.reduceToNat, Int.cast_ofNat_Int, Int.natCast_nonneg, h]
      refine awpLoop.intro (fun y : Nat => [(0, .ref (.sl 0 0 0 0 N 1)), (3, .ref (.sl 2 0 0 0 L.length 1)), (4, .i .i64 x), (5, .ref (.sl 10 0 0 0 (labRow c x y).length 1)), (9, .i .i64 N), (10, .i .i64 x), (15, .i .i64 N), (16, .i .i64 y)]) (fun y => ⟨[.lv true [(0, .ints .i64 N (fl c N))]], [((10, 0), .lv true ([(0, .ints .i64 (labRow c x y).length (labRow c x y))])), ((2, 0), .lv true ([(0, .cells L.length (outs 3 0 L))]))] ++ rbag 3 0 L, 15⟩)
        (fun y => y ≤ N) (fun y => N - y) 0 (by omega) ⟨[((10, 0), (10, 0))] ++ ((2, 0), (2, 0)) :: stdR 3 L.length, wkOk_keep_ob (next := 15) (by simp [wkOk]) (by decide) (by decide) (by simp), ?_, ?_⟩ ?_
      · simp [wkEnv, lk, renV, renAt, renTo, labRow]
      · simp only [wkMem]
        rw [wk_keep_ob (LL := L) (by decide) (by simp) (by decide) (by simp [Mem.get, assoc, ob]) (fun j hj => by
          simp only [Mem.get, assoc]
          simp
          have q := assoc_rbag_in' (a := 3) (k := 0) (i := j) (LL := L) hj
          rwa [Nat.zero_add] at q)]
        simp [wkLoc, ob, Mem.get, assoc, renBlk, renSegs, renSg, labRow, zeroArr]
      · intro y hy
        have hrl := labRow_len (c := c) (x := x) (n := y)
        by_cases h' : (y : Int) < N
        · have w' := wrap_i64s (show y < 2 ^ 62 by omega)
          have v1 : 0 + y * 1 < N := by omega
          have g1 : (fl c N).getD (0 + y * 1) 0 = (c y : Int) := by rw [Nat.zero_add, Nat.mul_one]; exact fl_get (by omega)
          have mx : (labRow c x y).length * 1 = (labRow c x y).length := Nat.mul_one _
          by_cases e : c y = x
          · have he : ((c y : Nat) : Int) = (x : Nat) := by rw [e]
            have er : labRow c x (y + 1) = labRow c x y ++ [(y : Int)] := by rw [labRow, if_pos e]
            simp only [absE, absL, absF, reduceCtorEq, ↓reduceIte, Nat.reduceEqDiff, Nat.reduceAdd, Nat.reduceLT, Nat.reduceMul, Nat.reduceSub, Nat.reduceLeDiff, Int.reduceLT, Int.reduceLE, Int.reduceEq, Option.isSome_some, implies_true, false_implies, Prod.mk.injEq, ne_eq, not_false_eq_true, not_true_eq_false, ge_iff_le, gt_iff_lt, Int.toNat_natCast, Int.reduceToNat, Int.cast_ofNat_Int, Int.natCast_nonneg, h', v1, g1, he, mx]
            repeat refine And.intro (by omega) ?_
            refine LoopNext.intro (y + 1) (by omega) (by omega) ⟨[((27, 0), (10, 0))] ++ ((2, 0), (2, 0)) :: stdR 3 L.length, wkOk_keep_ob (next := 15) (by simp [wkOk]) (by decide) (by decide) (by simp), ?_, ?_⟩
            · simp [wkEnv, lk, renV, renAt, renTo, er, w']
            · simp only [wkMem]
              rw [wk_keep_ob (LL := L) (by decide) (by simp) (by decide) (by simp [Mem.get, assoc, ob]) (fun j hj => by
                simp only [Mem.get, assoc]
                simp
                have q := assoc_rbag_in' (a := 3) (k := 0) (i := j) (LL := L) hj
                rwa [Nat.zero_add] at q)]
              simp [wkLoc, ob, Mem.get, assoc, renBlk, renSegs, renSg, er]
          · have he : ¬((c y : Nat) : Int) = (x : Nat) := by omega
            have er : labRow c x (y + 1) = labRow c x y := by rw [labRow, if_neg e]
            simp only [absE, absL, absF, reduceCtorEq, ↓reduceIte, Nat.reduceEqDiff, Nat.reduceAdd, Nat.reduceLT, Nat.reduceMul, Nat.reduceSub, Nat.reduceLeDiff, Int.reduceLT, Int.reduceLE, Int.reduceEq, Option.isSome_some, implies_true, false_implies, Prod.mk.injEq, ne_eq, not_false_eq_true, not_true_eq_false, ge_iff_le, gt_iff_lt, Int.toNat_natCast, Int.reduceToNat, Int.cast_ofNat_Int, Int.natCast_nonneg, h', v1, g1, he]
            refine LoopNext.intro (y + 1) (by omega) (by omega) ⟨[((10, 0), (10, 0))] ++ ((2, 0), (2, 0)) :: stdR 3 L.length, wkOk_keep_ob (next := 15) (by simp [wkOk]) (by decide) (by decide) (by simp), ?_, ?_⟩
            · simp [wkEnv, lk, renV, renAt, renTo, er, w']
            · simp only [wkMem]
              rw [wk_keep_ob (LL := L) (by decide) (by simp) (by decide) (by simp [Mem.get, assoc, ob]) (fun j hj => by
                simp only [Mem.get, assoc]
                simp
                have q := assoc_rbag_in' (a := 3) (k := 0) (i := j) (LL := L) hj
                rwa [Nat.zero_add] at q)]
              simp [wkLoc, ob, Mem.get, assoc, renBlk, renSegs, renSg, er]
        · have hyN : y = N := by omega
          subst hyN
          have mL : L.length * 1 = L.length := Nat.mul_one _
          by_cases e : (labRow c x y).length = 0
          · have e0 : ¬(0 : Int) < (labRow c x y).length := by omega
            rw [if_pos e] at hLs
            simp only [absE, absL, absF, reduceCtorEq, ↓reduceIte, Nat.reduceEqDiff, Nat.reduceAdd, Nat.reduceLT, Nat.reduceMul, Nat.reduceSub, Nat.reduceLeDiff, Int.reduceLT, Int.reduceLE, Int.reduceEq, Option.isSome_some, implies_true, false_implies, Prod.mk.injEq, ne_eq, not_false_eq_true, not_true_eq_false, ge_iff_le, gt_iff_lt, Int.toNat_natCast, Int.reduceToNat, Int.cast_ofNat_Int, Int.natCast_nonneg, h', e0]
            refine LoopNext.intro (x + 1) (by omega) (by omega) ⟨[] ++ ((2, 0), (2, 0)) :: stdR 3 L.length, wkOk_keep_ob (next := 7) (by simp [wkOk]) (by decide) (by decide) (by simp), ?_, ?_⟩
            · simp [wkEnv, lk, renV, renAt, renTo, hLs, w]
            · simp only [wkMem]
              rw [wk_keep_ob (LL := L) (by decide) (by simp) (by decide) (by simp [Mem.get, assoc, ob]) (fun j hj => by
                simp only [Mem.get, assoc]
                simp
                have q := assoc_rbag_in' (a := 3) (k := 0) (i := j) (LL := L) hj
                rwa [Nat.zero_add] at q)]
              simp [wkLoc, ob, renBlk, renSegs, renSg, hLs]
          · have e0 : (0 : Int) < (labRow c x y).length := by omega
            rw [if_neg e] at hLs
            simp only [absE, absL, absF, reduceCtorEq, ↓reduceIte, Nat.reduceEqDiff, Nat.reduceAdd, Nat.reduceLT, Nat.reduceMul, Nat.reduceSub, Nat.reduceLeDiff, Int.reduceLT, Int.reduceLE, Int.reduceEq, Option.isSome_some, implies_true, false_implies, Prod.mk.injEq, ne_eq, not_false_eq_true, not_true_eq_false, ge_iff_le, gt_iff_lt, Int.toNat_natCast, Int.reduceToNat, Int.cast_ofNat_Int, Int.natCast_nonneg, h', e0, mL]
            repeat refine And.intro (by omega) ?_
            refine LoopNext.intro (x + 1) (by omega) (by omega) ⟨[] ++ snocS (22, 0) 2 10 3 L.length, wkOk_snoc (next := 7) (by simp [wkOk]) (by decide) (by decide) (by decide) (by decide) (by simp) (by decide), ?_, ?_⟩
            · simp [wkEnv, lk, renV, renAt, snocS, renTo, w, hLs]
            · simp only [wkMem]
              rw [hLs, wk_snoc (LL := L) (xs := labRow c x y) rfl (by decide) (by decide) (by decide) (by simp) (by decide) (by simp [Mem.get, assoc]) (by simp [Mem.get, assoc, ib]) (fun j hj => by
                simp only [Mem.get, assoc]
                simp
                have q := assoc_rbag_in' (a := 3) (k := 0) (i := j) (LL := L) hj
                rwa [Nat.zero_add] at q)]
              simp [wkLoc, ob, renBlk, renSegs, renSg]
    · have hxN : x = N := by omega
      subst hxN
      simp only [absE, absL, absF, reduceCtorEq, ↓reduceIte, Nat.reduceEqDiff, Nat.reduceAdd, Nat.reduceLT, Nat.reduceMul, Nat.reduceSub, Nat.reduceLeDiff, Int.reduceLT, Int.reduceLE, Int.reduceEq, Option.isSome_some, implies_true, false_implies, Prod.mk.injEq, ne_eq, not_false_eq_true, not_true_eq_false, ge_iff_le, gt_iff_lt, Int.toNat_natCast, Int.reduceToNat, Int.cast_ofNat_Int, Int.natCast_nonneg, h, Try.results77]
      generalize labL c x x = LL
      refine ⟨(2, 0) :: srcs 3 0 LL.length, row_nodup (.inl (by decide)), row_keep (by decide) (by decide), by simp [renV, renAt, renFin, idx], by simp [renBlk, renSegs, renSg], ?_⟩
      exact row_map (p := (2, 0)) (B := 3) (LL := LL) (by decide) (by decide) (by simp [Mem.get, assoc, ob]) fun j hj => by simp only [Mem.get, assoc]; simp; have q := assoc_rbag_in' (a := 3) (k := 0) hj; rwa [Nat.zero_add] at q
/-! the reference -/
def bl (p : Nat → Bool) : List Bool := (List.range 10).map p
theorem bl_len {p : Nat → Bool} : (bl p).length = 10 := by simp [bl]
theorem bl_get {p : Nat → Bool} {i : Nat} (h : i < 10) : (bl p).getD i false = p i := by simp [bl, h]
theorem bl_congr {p q : Nat → Bool} (h : ∀ i, i < 10 → p i = q i) : bl p = bl q := List.map_congr_left fun i hi => h i (List.mem_range.1 hi)
theorem bl_set {p q : Nat → Bool} {i : Nat} (hi : i < 10) (h1 : q i = true) (h2 : ∀ j, j < 10 → j ≠ i → q j = p j) : (bl p).set i true = bl q := by
  apply List.ext_getElem
  · simp [bl]
  · intro j h3 h4
    simp only [bl_len] at h4
    rw [List.getElem_set]
    simp only [bl, List.getElem_map, List.getElem_range]
    split
    · rename_i e; subst e; exact h1.symm
    · rename_i e; exact (h2 j h4 (fun e' => e e'.symm)).symm
def eqC (c : Nat → Nat) : Nat → Nat → Bool := fun i j => c i == c j
/-- which elements stand in a row so far -/
def dnX (c : Nat → Nat) (N x : Nat) : Nat → Bool := fun y => decide (y < N) && (List.range x).any fun i => eqC c i y
theorem dnX_zero {c : Nat → Nat} {N : Nat} : dnX c N 0 = fun _ => false := by funext y; simp [dnX]
theorem dnX_new {c : Nat → Nat} {N x : Nat} (hx : x < N) : dnX c N x x = !clsNew (eqC c) x := by
  unfold dnX clsNew
  rw [decide_eq_true hx, Bool.true_and, Bool.not_not]
theorem any_succ {p : Nat → Bool} {x : Nat} : (List.range (x + 1)).any p = ((List.range x).any p || p x) := by
  rw [List.range_succ, List.any_append]; simp
/-- after i elements of a row -/
def dnI (c : Nat → Nat) (N x : Nat) (r : List Int) (i : Nat) : Nat → Bool := fun y => dnX c N x y || (List.range i).any fun j => r.getD j 0 == (y : Int)
theorem dnI_zero {c : Nat → Nat} {N x : Nat} {r : List Int} : dnI c N x r 0 = dnX c N x := by funext y; unfold dnI; simp
theorem dnI_all {c : Nat → Nat} {N x : Nat} (hx : x < N) (y : Nat) : dnI c N x (clsRow (eqC c) x N) (clsRow (eqC c) x N).length y = dnX c N (x + 1) y := by
  unfold dnI dnX
  rw [any_succ]
  by_cases hy : y < N
  · rw [decide_eq_true hy, Bool.true_and, Bool.true_and]
    congr 1
    rw [Bool.eq_iff_iff, List.any_eq_true]
    constructor
    · rintro ⟨j, hj, e⟩
      have hj : j < (clsRow (eqC c) x N).length := by simpa using hj
      have hm : (clsRow (eqC c) x N).getD j 0 ∈ clsRow (eqC c) x N := by
        have : (clsRow (eqC c) x N).getD j 0 = (clsRow (eqC c) x N)[j] := by simp [hj]
        rw [this]; exact List.getElem_mem hj
      obtain ⟨z, e1, e2, e3⟩ := clsRow_mem.1 hm
      have : (y : Int) = z := by rw [← e1]; exact (by simpa using e : (clsRow (eqC c) x N).getD j 0 = (y : Int)).symm
      have : y = z := by omega
      subst this; exact e3
    · intro e
      have hm : (y : Int) ∈ clsRow (eqC c) x N := clsRow_mem.2 ⟨y, rfl, hy, e⟩
      obtain ⟨j, hj, ej⟩ := List.getElem_of_mem hm
      exact ⟨j, by simpa using hj, by simp [hj, ej]⟩
  · rw [decide_eq_false hy, Bool.false_and, Bool.false_and, Bool.false_or, Bool.eq_false_iff]
    intro h
    obtain ⟨j, hj, e⟩ := List.any_eq_true.1 h
    have hj : j < (clsRow (eqC c) x N).length := by simpa using hj
    have hm : (clsRow (eqC c) x N).getD j 0 ∈ clsRow (eqC c) x N := by
      have : (clsRow (eqC c) x N).getD j 0 = (clsRow (eqC c) x N)[j] := by simp [hj]
      rw [this]; exact List.getElem_mem hj
    obtain ⟨z, e1, e2, e3⟩ := clsRow_mem.1 hm
    have : (y : Int) = z := by rw [← e1]; exact (by simpa using e : (clsRow (eqC c) x N).getD j 0 = (y : Int)).symm
    omega
theorem dnX_skip {c : Nat → Nat} {N x : Nat} (hx : x < N) (h : clsNew (eqC c) x = false) : bl (dnX c N x) = bl (dnX c N (x + 1)) := bl_congr fun y _ => by
  unfold dnX
  rw [any_succ]
  cases e : eqC c x y
  · rw [Bool.or_false]
  · have h2 : (List.range x).any (fun i => eqC c i y) = true := by
      unfold clsNew at h
      rw [Bool.not_eq_false', List.any_eq_true] at h
      obtain ⟨i, hi, h⟩ := h
      refine List.any_eq_true.2 ⟨i, hi, ?_⟩
      simp only [eqC, beq_iff_eq] at h e ⊢
      rw [h, e]
    rw [h2]; rfl
theorem clsL_len {e : Nat → Nat → Bool} {N : Nat} : ∀ {x}, (clsL e N x).length ≤ x
  | 0 => Nat.le_refl _
  | x + 1 => by
    have := clsL_len (e := e) (N := N) (x := x)
    unfold clsL; split
    · rw [List.length_append, List.length_singleton]; omega
    · omega
theorem clsRow_at {e : Nat → Nat → Bool} {x N i : Nat} (h : i < (clsRow e x N).length) : ∃ z : Nat, z < N ∧ (clsRow e x N).getD i 0 = (z : Int) ∧ e x z = true := by
  have hm : (clsRow e x N).getD i 0 ∈ clsRow e x N := by
    have : (clsRow e x N).getD i 0 = (clsRow e x N)[i] := by simp [h]
    rw [this]; exact List.getElem_mem h
  obtain ⟨z, e1, e2, e3⟩ := clsRow_mem.1 hm
  exact ⟨z, e2, e1, e3⟩
theorem l06Told_ok (N : Nat) (c : Nat → Nat) (hN : N ≤ 10) :
    ACalls Try.prog 73 [.agg [(0, .ints .i64 10 (f10 c N))], .i .i64 N] [] (fun v ms ns => v = .ref (.sl 1 0 0 0 (clsL (eqC c) N N).length 1) ∧ ms = [] ∧ ns = ob 1 1 (clsL (eqC c) N N) :: inn (clsL (eqC c) N N)) := by
  refine acalls_of_body mix Try.func73 rfl fok73 (Nat.le_of_ble_eq_true rfl) ?_
  unfold abody
  simp only [absE, absL, absF, reduceCtorEq, ↓reduceIte, Nat.reduceEqDiff, Nat.reduceAdd, Nat.reduceLT, Nat.reduceMul, Nat.reduceSub, Nat.reduceLeDiff, Int.reduceLT, Int.reduceLE, Int.reduceEq, Option.isSome_some, implies_true, false_implies, Prod.mk.injEq, ne_eq, not_false_eq_true, not_true_eq_false, ge_iff_le, gt_iff_lt, Int.toNat_natCast, Int.reduceToNat, Int.cast_ofNat_Int, Int.natCast_nonneg, Try.f73]
  repeat first | refine And.intro (by decide +kernel) ?_ | refine And.intro (by omega) ?_
  refine awpLoop.intro (fun x : Nat => [(1, .i .i64 N), (2, .ref (.ptr 1 0 0 0)), (5, .ref (.sl 3 0 0 0 (clsL (eqC c) N x).length 1)), (6, .ref (.ptr 5 0 0 0)), (7, .i .i64 x)]) (fun x => ⟨[], [((1, 0), .lv true ([(0, .ints .i64 10 (f10 c N))])), ((5, 0), .lv true ([(0, .bools 10 (bl (dnX c N x)))])), ((3, 0), .lv true ([(0, .cells (clsL (eqC c) N x).length (outs 4 0 (clsL (eqC c) N x)))]))] ++ rbag 4 0 (clsL (eqC c) N x), 9⟩)
    (fun x => x ≤ N) (fun x => N - x) 0 (by omega) ⟨[((1,0),(1,0)), ((5,0),(5,0)), ((3,0),(3,0))], rfl, ?_, ?_⟩ ?_
  · simp [wkEnv, lk, renV, renAt, renTo, clsL]
  · simp [wkMem, wkLoc, Mem.get, assoc, renBlk, renSegs, renSg, renTo, rbag_nil, outs_nil, zeroArr, clsL, bl, dnX_zero]; rfl
  · intro x hx
    by_cases h : (x : Int) < N
    · have w := wrap_i64s (show x < 2 ^ 62 by omega)
      have hxN : x < N := by omega
      have hLs : clsL (eqC c) N (x + 1) = if clsNew (eqC c) x then clsL (eqC c) N x ++ [clsRow (eqC c) x N] else clsL (eqC c) N x := rfl
      have hLl := clsL_len (e := eqC c) (N := N) (x := x)
      have xi : (x : Int) < 10 := by omega
      have xv : 0 + x * 1 < 10 := by omega
      have dx : (bl (dnX c N x)).getD (0 + x * 1) false = !clsNew (eqC c) x := by rw [Nat.zero_add, Nat.mul_one, bl_get (by omega), dnX_new hxN]
      generalize clsL (eqC c) N x = L at hLs hLl ⊢
      cases hnew : clsNew (eqC c) x
      · rw [hnew, if_neg (by simp)] at hLs
        have hD := dnX_skip hxN hnew
        rw [hnew] at dx
        simp only [Bool.not_false] at dx
        simp only [absE, absL, absF, reduceCtorEq, ↓reduceIte, Nat.reduceEqDiff, Nat.reduceAdd, Nat.reduceLT, Nat.reduceMul, Nat.reduceSub, Nat.reduceLeDiff, Int.reduceLT, Int.reduceLE, Int.reduceEq, Option.isSome_some, implies_true, false_implies, Prod.mk.injEq, ne_eq, not_false_eq_true, not_true_eq_false, ge_iff_le, gt_iff_lt, Int.toNat_natCast, Int.reduceToNat, Int.cast_ofNat_Int, Int.natCast_nonneg, h]
        refine awpLoop.intro (fun y : Nat => [(1, .i .i64 N), (2, .ref (.ptr 1 0 0 0)), (5, .ref (.sl 3 0 0 0 L.length 1)), (6, .ref (.ptr 5 0 0 0)), (7, .i .i64 x), (8, .ref (.sl 12 0 0 0 0 1)), (9, .i .i64 x)]) (fun y => ⟨[], [((12, 0), .lv true ([(0, .ints .i64 0 [])])), ((1, 0), .lv true ([(0, .ints .i64 10 (f10 c N))])), ((5, 0), .lv true ([(0, .bools 10 (bl (dnX c N x)))])), ((3, 0), .lv true ([(0, .cells L.length (outs 4 0 L))]))] ++ rbag 4 0 L, 16⟩)
          (fun y => y = 0) (fun y => 0) 0 rfl ⟨[((12, 0), (12, 0)), ((1, 0), (1, 0)), ((5, 0), (5, 0))] ++ ((3, 0), (3, 0)) :: stdR 4 L.length, wkOk_keep_ob (next := 16) (by simp [wkOk]) (by decide) (by decide) (by simp), ?_, ?_⟩ ?_
        · simp [wkEnv, lk, renV, renAt, renTo]
        · simp only [wkMem]
          rw [wk_keep_ob (LL := L) (by decide) (by simp) (by decide) (by simp [Mem.get, assoc, ob]) (fun j hj => by
            simp only [Mem.get, assoc]
            simp
            have q := assoc_rbag_in' (a := 4) (k := 0) (i := j) (LL := L) hj
            rwa [Nat.zero_add] at q)]
          simp [wkLoc, ob, Mem.get, assoc, renBlk, renSegs, renSg, zeroArr]
        · rintro _ rfl
          simp only [absE, absL, absF, reduceCtorEq, ↓reduceIte, Nat.reduceEqDiff, Nat.reduceAdd, Nat.reduceLT, Nat.reduceMul, Nat.reduceSub, Nat.reduceLeDiff, Int.reduceLT, Int.reduceLE, Int.reduceEq, Option.isSome_some, implies_true, false_implies, Prod.mk.injEq, ne_eq, not_false_eq_true, not_true_eq_false, ge_iff_le, gt_iff_lt, Int.toNat_natCast, Int.reduceToNat, Int.cast_ofNat_Int, Int.natCast_nonneg, h, xi, xv, dx]
          refine awpLoop.intro (fun y : Nat => [(1, .i .i64 N), (2, .ref (.ptr 1 0 0 0)), (5, .ref (.sl 3 0 0 0 L.length 1)), (6, .ref (.ptr 5 0 0 0)), (7, .i .i64 x), (8, .ref (.sl 12 0 0 0 0 1)), (10, .i .i64 0)]) (fun y => ⟨[], [((12, 0), .lv true ([(0, .ints .i64 0 [])])), ((1, 0), .lv true ([(0, .ints .i64 10 (f10 c N))])), ((5, 0), .lv true ([(0, .bools 10 (bl (dnX c N x)))])), ((3, 0), .lv true ([(0, .cells L.length (outs 4 0 L))]))] ++ rbag 4 0 L, 40⟩)
            (fun y => y = 0) (fun y => 0) 0 rfl ⟨[((12, 0), (12, 0)), ((1, 0), (1, 0)), ((5, 0), (5, 0))] ++ ((3, 0), (3, 0)) :: stdR 4 L.length, wkOk_keep_ob (next := 40) (by simp [wkOk]) (by decide) (by decide) (by simp), ?_, ?_⟩ ?_
          · simp [wkEnv, lk, renV, renAt, renTo]
          · simp only [wkMem]
            rw [wk_keep_ob (LL := L) (by decide) (by simp) (by decide) (by simp [Mem.get, assoc, ob]) (fun j hj => by
              simp only [Mem.get, assoc]
              simp
              have q := assoc_rbag_in' (a := 4) (k := 0) (i := j) (LL := L) hj
              rwa [Nat.zero_add] at q)]
            simp [wkLoc, ob, Mem.get, assoc, renBlk, renSegs, renSg, zeroArr]
          · rintro _ rfl
            simp only [absE, absL, absF, reduceCtorEq, ↓reduceIte, Nat.reduceEqDiff, Nat.reduceAdd, Nat.reduceLT, Nat.reduceMul, Nat.reduceSub, Nat.reduceLeDiff, Int.reduceLT, Int.reduceLE, Int.reduceEq, Option.isSome_some, implies_true, false_implies, Prod.mk.injEq, ne_eq, not_false_eq_true, not_true_eq_false, ge_iff_le, gt_iff_lt, Int.toNat_natCast, Int.reduceToNat, Int.cast_ofNat_Int, Int.natCast_nonneg]
            refine LoopNext.intro (x + 1) (by omega) (by omega) ⟨[((1, 0), (1, 0)), ((5, 0), (5, 0))] ++ ((3, 0), (3, 0)) :: stdR 4 L.length, wkOk_keep_ob (next := 9) (by simp [wkOk]) (by decide) (by decide) (by simp), ?_, ?_⟩
            · simp [wkEnv, lk, renV, renAt, renTo, w, hLs]
            · simp only [wkMem]
              rw [hLs, ← hD, wk_keep_ob (LL := L) (by decide) (by simp) (by decide) (by simp [Mem.get, assoc, ob]) (fun j hj => by
                simp only [Mem.get, assoc]
                simp
                have q := assoc_rbag_in' (a := 4) (k := 0) (i := j) (LL := L) hj
                rwa [Nat.zero_add] at q)]
              simp [wkLoc, ob, Mem.get, assoc, renBlk, renSegs, renSg]
      · rw [hnew, if_pos rfl] at hLs
        rw [hnew] at dx
        simp only [Bool.not_true] at dx
        have hbef : ∀ y, y < x → eqC c x y = false := fun y hy => by
          unfold clsNew at hnew
          rw [Bool.not_eq_true', List.any_eq_false] at hnew
          have := hnew y (by simpa using hy)
          simp only [eqC, beq_iff_eq] at this
          simp only [eqC, beq_eq_false_iff_ne]
          exact fun e => this e.symm
        simp only [absE, absL, absF, reduceCtorEq, ↓reduceIte, Nat.reduceEqDiff, Nat.reduceAdd, Nat.reduceLT, Nat.reduceMul, Nat.reduceSub, Nat.reduceLeDiff, Int.reduceLT, Int.reduceLE, Int.reduceEq, Option.isSome_some, implies_true, false_implies, Prod.mk.injEq, ne_eq, not_false_eq_true, not_true_eq_false, ge_iff_le, gt_iff_lt, Int.toNat_natCast, Int.reduceToNat, Int.cast_ofNat_Int, Int.natCast_nonneg, h]
        refine awpLoop.intro (fun y : Nat => [(1, .i .i64 N), (2, .ref (.ptr 1 0 0 0)), (5, .ref (.sl 3 0 0 0 L.length 1)), (6, .ref (.ptr 5 0 0 0)), (7, .i .i64 x), (8, .ref (.sl 12 0 0 0 (clsRow (eqC c) x y).length 1)), (9, .i .i64 y)]) (fun y => ⟨[], [((12, 0), .lv true ([(0, .ints .i64 (clsRow (eqC c) x y).length (clsRow (eqC c) x y))])), ((1, 0), .lv true ([(0, .ints .i64 10 (f10 c N))])), ((5, 0), .lv true ([(0, .bools 10 (bl (dnX c N x)))])), ((3, 0), .lv true ([(0, .cells L.length (outs 4 0 L))]))] ++ rbag 4 0 L, 16⟩)
          (fun y => x ≤ y ∧ y ≤ N) (fun y => N - y) x (by omega) ⟨[((12, 0), (12, 0)), ((1, 0), (1, 0)), ((5, 0), (5, 0))] ++ ((3, 0), (3, 0)) :: stdR 4 L.length, wkOk_keep_ob (next := 16) (by simp [wkOk]) (by decide) (by decide) (by simp), ?_, ?_⟩ ?_
        · simp [wkEnv, lk, renV, renAt, renTo, clsRow_from (Nat.le_refl x) hbef]
        · simp only [wkMem]
          rw [wk_keep_ob (LL := L) (by decide) (by simp) (by decide) (by simp [Mem.get, assoc, ob]) (fun j hj => by
            simp only [Mem.get, assoc]
            simp
            have q := assoc_rbag_in' (a := 4) (k := 0) (i := j) (LL := L) hj
            rwa [Nat.zero_add] at q)]
          simp [wkLoc, ob, Mem.get, assoc, renBlk, renSegs, renSg, zeroArr, clsRow_from (Nat.le_refl x) hbef]
        · rintro y ⟨hxy, hy⟩
          have hrl := clsRow_len (e := eqC c) (x := x) (n := y)
          by_cases h' : (y : Int) < N
          · have w' := wrap_i64s (show y < 2 ^ 62 by omega)
            have yi : (y : Int) < 10 := by omega
            have yv : 0 + y * 1 < 10 := by omega
            have q1 : (f10 c N).getD (0 + y * 1) 0 = (c y : Int) := by rw [Nat.zero_add, Nat.mul_one]; exact f10_get hN (by omega)
            have q2 : (f10 c N).getD (0 + x * 1) 0 = (c x : Int) := by rw [Nat.zero_add, Nat.mul_one]; exact f10_get hN (by omega)
            have mx : (clsRow (eqC c) x y).length * 1 = (clsRow (eqC c) x y).length := Nat.mul_one _
            by_cases e : c y = c x
            · have he : ((c y : Nat) : Int) = (c x : Nat) := by rw [e]
              have er : clsRow (eqC c) x (y + 1) = clsRow (eqC c) x y ++ [(y : Int)] := by rw [clsRow, if_pos (by simp [eqC, e])]
              simp only [absE, absL, absF, reduceCtorEq, ↓reduceIte, Nat.reduceEqDiff, Nat.reduceAdd, Nat.reduceLT, Nat.reduceMul, Nat.reduceSub, Nat.reduceLeDiff, Int.reduceLT, Int.reduceLE, Int.reduceEq, Option.isSome_some, implies_true, false_implies, Prod.mk.injEq, ne_eq, not_false_eq_true, not_true_eq_false, ge_iff_le, gt_iff_lt, Int.toNat_natCast, Int.reduceToNat, Int.cast_ofNat_Int, Int.natCast_nonneg, h', xi, xv, dx, yi, yv, q1, q2, he, mx]
              repeat first | refine And.intro (by decide +kernel) ?_ | refine And.intro (by omega) ?_
              refine LoopNext.intro (y + 1) (by omega) (by omega) ⟨[((35, 0), (12, 0)), ((1, 0), (1, 0)), ((5, 0), (5, 0))] ++ ((3, 0), (3, 0)) :: stdR 4 L.length, wkOk_keep_ob (next := 16) (by simp [wkOk]) (by decide) (by decide) (by simp), ?_, ?_⟩
              · simp [wkEnv, lk, renV, renAt, renTo, er, w']
              · simp only [wkMem]
                rw [wk_keep_ob (LL := L) (by decide) (by simp) (by decide) (by simp [Mem.get, assoc, ob]) (fun j hj => by
                  simp only [Mem.get, assoc]
                  simp
                  have q := assoc_rbag_in' (a := 4) (k := 0) (i := j) (LL := L) hj
                  rwa [Nat.zero_add] at q)]
                simp [wkLoc, ob, Mem.get, assoc, renBlk, renSegs, renSg, er]
            · have he : ¬((c y : Nat) : Int) = (c x : Nat) := by omega
              have er : clsRow (eqC c) x (y + 1) = clsRow (eqC c) x y := by rw [clsRow, if_neg (by simp [eqC]; exact fun a => e a.symm)]
              simp only [absE, absL, absF, reduceCtorEq, ↓reduceIte, Nat.reduceEqDiff, Nat.reduceAdd, Nat.reduceLT, Nat.reduceMul, Nat.reduceSub, Nat.reduceLeDiff, Int.reduceLT, Int.reduceLE, Int.reduceEq, Option.isSome_some, implies_true, false_implies, Prod.mk.injEq, ne_eq, not_false_eq_true, not_true_eq_false, ge_iff_le, gt_iff_lt, Int.toNat_natCast, Int.reduceToNat, Int.cast_ofNat_Int, Int.natCast_nonneg, h', xi, xv, dx, yi, yv, q1, q2, he]
              repeat first | refine And.intro (by decide +kernel) ?_ | refine And.intro (by omega) ?_
              refine LoopNext.intro (y + 1) (by omega) (by omega) ⟨[((12, 0), (12, 0)), ((1, 0), (1, 0)), ((5, 0), (5, 0))] ++ ((3, 0), (3, 0)) :: stdR 4 L.length, wkOk_keep_ob (next := 16) (by simp [wkOk]) (by decide) (by decide) (by simp), ?_, ?_⟩
              · simp [wkEnv, lk, renV, renAt, renTo, er, w']
              · simp only [wkMem]
                rw [wk_keep_ob (LL := L) (by decide) (by simp) (by decide) (by simp [Mem.get, assoc, ob]) (fun j hj => by
                  simp only [Mem.get, assoc]
                  simp
                  have q := assoc_rbag_in' (a := 4) (k := 0) (i := j) (LL := L) hj
                  rwa [Nat.zero_add] at q)]
                simp [wkLoc, ob, Mem.get, assoc, renBlk, renSegs, renSg, er]
          · have hyN : y = N := by omega
            subst hyN
            have hDall : bl (dnI c y x (clsRow (eqC c) x y) (clsRow (eqC c) x y).length) = bl (dnX c y (x + 1)) := bl_congr fun z _ => dnI_all hxN z
            have hmem := fun i (hi : i < (clsRow (eqC c) x y).length) => clsRow_at (e := eqC c) (x := x) (N := y) hi
            have hpos : 0 < (clsRow (eqC c) x y).length := List.length_pos_of_mem (clsRow_mem.2 ⟨x, rfl, hxN, by simp [eqC]⟩)
            generalize clsRow (eqC c) x y = r at hDall hmem hpos hLs hrl ⊢
            simp only [absE, absL, absF, reduceCtorEq, ↓reduceIte, Nat.reduceEqDiff, Nat.reduceAdd, Nat.reduceLT, Nat.reduceMul, Nat.reduceSub, Nat.reduceLeDiff, Int.reduceLT, Int.reduceLE, Int.reduceEq, Option.isSome_some, implies_true, false_implies, Prod.mk.injEq, ne_eq, not_false_eq_true, not_true_eq_false, ge_iff_le, gt_iff_lt, Int.toNat_natCast, Int.reduceToNat, Int.cast_ofNat_Int, Int.natCast_nonneg, h']
            refine awpLoop.intro (fun i : Nat => [(1, .i .i64 y), (2, .ref (.ptr 1 0 0 0)), (5, .ref (.sl 3 0 0 0 L.length 1)), (6, .ref (.ptr 5 0 0 0)), (7, .i .i64 x), (8, .ref (.sl 12 0 0 0 r.length 1)), (10, .i .i64 i)]) (fun i => ⟨[], [((12, 0), .lv true ([(0, .ints .i64 r.length r)])), ((1, 0), .lv true ([(0, .ints .i64 10 (f10 c y))])), ((5, 0), .lv true ([(0, .bools 10 (bl (dnI c y x r i)))])), ((3, 0), .lv true ([(0, .cells L.length (outs 4 0 L))]))] ++ rbag 4 0 L, 40⟩)
              (fun i => i ≤ r.length) (fun i => r.length - i) 0 (by omega) ⟨[((12, 0), (12, 0)), ((1, 0), (1, 0)), ((5, 0), (5, 0))] ++ ((3, 0), (3, 0)) :: stdR 4 L.length, wkOk_keep_ob (next := 40) (by simp [wkOk]) (by decide) (by decide) (by simp), ?_, ?_⟩ ?_
            · simp [wkEnv, lk, renV, renAt, renTo]
            · simp only [wkMem]
              rw [wk_keep_ob (LL := L) (by decide) (by simp) (by decide) (by simp [Mem.get, assoc, ob]) (fun j hj => by
                simp only [Mem.get, assoc]
                simp
                have q := assoc_rbag_in' (a := 4) (k := 0) (i := j) (LL := L) hj
                rwa [Nat.zero_add] at q)]
              simp [wkLoc, ob, Mem.get, assoc, renBlk, renSegs, renSg, dnI_zero]
            · intro i hi
              by_cases h5 : (i : Int) < r.length
              · have w5 := wrap_i64s (show i < 2 ^ 62 by omega)
                obtain ⟨z, hz, ez, _⟩ := hmem i (by omega)
                have v5 : 0 + i * 1 < r.length := by omega
                have e5 : r.getD (0 + i * 1) 0 = (z : Int) := by rw [Nat.zero_add, Nat.mul_one]; exact ez
                have zi : (z : Int) < 10 := by omega
                have zv : 0 + z * 1 + 1 ≤ 10 := by omega
                have es : (bl (dnI c y x r i)).set (0 + z * 1) true = bl (dnI c y x r (i + 1)) := by
                  rw [Nat.zero_add, Nat.mul_one]
                  refine bl_set (by omega) ?_ fun j hj hne => ?_
                  · unfold dnI; rw [any_succ]; simp only [ez, BEq.rfl, Bool.or_true]
                  · unfold dnI; rw [any_succ]
                    have : (r.getD i 0 == (j : Int)) = false := by rw [ez, beq_eq_false_iff_ne]; omega
                    rw [this, Bool.or_false]
                simp only [absE, absL, absF, reduceCtorEq, ↓reduceIte, Nat.reduceEqDiff, Nat.reduceAdd, Nat.reduceLT, Nat.reduceMul, Nat.reduceSub, Nat.reduceLeDiff, Int.reduceLT, Int.reduceLE, Int.reduceEq, Option.isSome_some, implies_true, false_implies, Prod.mk.injEq, ne_eq, not_false_eq_true, not_true_eq_false, ge_iff_le, gt_iff_lt, Int.toNat_natCast, Int.reduceToNat, Int.cast_ofNat_Int, Int.natCast_nonneg, h5, v5, e5, zi, zv, es]
                repeat first | refine And.intro (by decide +kernel) ?_ | refine And.intro (by omega) ?_
                refine LoopNext.intro (i + 1) (by omega) (by omega) ⟨[((12, 0), (12, 0)), ((1, 0), (1, 0)), ((5, 0), (5, 0))] ++ ((3, 0), (3, 0)) :: stdR 4 L.length, wkOk_keep_ob (next := 40) (by simp [wkOk]) (by decide) (by decide) (by simp), ?_, ?_⟩
                · simp [wkEnv, lk, renV, renAt, renTo, w5]
                · simp only [wkMem]
                  rw [wk_keep_ob (LL := L) (by decide) (by simp) (by decide) (by simp [Mem.get, assoc, ob]) (fun j hj => by
                    simp only [Mem.get, assoc]
                    simp
                    have q := assoc_rbag_in' (a := 4) (k := 0) (i := j) (LL := L) hj
                    rwa [Nat.zero_add] at q)]
                  simp [wkLoc, ob, Mem.get, assoc, renBlk, renSegs, renSg]
              · obtain rfl : i = r.length := by omega
                have e0 : (0 : Int) < r.length := by omega
                have mL : L.length * 1 = L.length := Nat.mul_one _
                simp only [absE, absL, absF, reduceCtorEq, ↓reduceIte, Nat.reduceEqDiff, Nat.reduceAdd, Nat.reduceLT, Nat.reduceMul, Nat.reduceSub, Nat.reduceLeDiff, Int.reduceLT, Int.reduceLE, Int.reduceEq, Option.isSome_some, implies_true, false_implies, Prod.mk.injEq, ne_eq, not_false_eq_true, not_true_eq_false, ge_iff_le, gt_iff_lt, Int.toNat_natCast, Int.reduceToNat, Int.cast_ofNat_Int, Int.natCast_nonneg, h5, e0, mL, hDall]
                repeat first | refine And.intro (by decide +kernel) ?_ | refine And.intro (by omega) ?_
                refine LoopNext.intro (x + 1) (by omega) (by omega) ⟨[((1, 0), (1, 0)), ((5, 0), (5, 0))] ++ snocS (50, 0) 3 12 4 L.length, wkOk_snoc (next := 9) (by simp [wkOk]) (by decide) (by decide) (by decide) (by decide) (by simp) (by decide), ?_, ?_⟩
                · simp [wkEnv, lk, renV, renAt, snocS, renTo, w, hLs]
                · simp only [wkMem]
                  rw [hLs, wk_snoc (LL := L) (xs := r) rfl (by decide) (by decide) (by decide) (by simp) (by decide) (by simp [Mem.get, assoc]) (by simp [Mem.get, assoc, ib]) (fun j hj => by
                    simp only [Mem.get, assoc]
                    simp
                    have q := assoc_rbag_in' (a := 4) (k := 0) (i := j) (LL := L) hj
                    rwa [Nat.zero_add] at q)]
                  simp [wkLoc, ob, Mem.get, assoc, renBlk, renSegs, renSg]
    · have hxN : x = N := by omega
      subst hxN
      simp only [absE, absL, absF, reduceCtorEq, ↓reduceIte, Nat.reduceEqDiff, Nat.reduceAdd, Nat.reduceLT, Nat.reduceMul, Nat.reduceSub, Nat.reduceLeDiff, Int.reduceLT, Int.reduceLE, Int.reduceEq, Option.isSome_some, implies_true, false_implies, Prod.mk.injEq, ne_eq, not_false_eq_true, not_true_eq_false, ge_iff_le, gt_iff_lt, Int.toNat_natCast, Int.reduceToNat, Int.cast_ofNat_Int, Int.natCast_nonneg, h, Try.results73]
      generalize clsL (eqC c) x x = LL
      refine ⟨(3, 0) :: srcs 4 0 LL.length, row_nodup (.inl (by decide)), row_keep (by decide) (by decide), by simp [renV, renAt, renFin, idx], by simp, ?_⟩
      exact row_map (p := (3, 0)) (B := 4) (LL := LL) (by decide) (by decide) (by simp [Mem.get, assoc, ob]) fun j hj => by simp only [Mem.get, assoc]; simp; have q := assoc_rbag_in' (a := 4) (k := 0) hj; rwa [Nat.zero_add] at q

end Go.Proofs.Ytoccbgffekhcaaa
