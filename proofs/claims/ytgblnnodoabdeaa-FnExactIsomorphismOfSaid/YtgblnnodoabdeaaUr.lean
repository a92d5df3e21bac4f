/-
Contracts of functions of the given program, by the abstract walk.
-/
import Derived.Test.YtgblnnodoabdeaaAbsY
import Derived.Test.YtgblnnodoabdeaaUq
namespace Go.Proofs.Ytgblnnodoabdeaa
open Go Go.Abs
set_option linter.unusedVariables false
set_option linter.unusedSectionVars false
set_option linter.unusedSimpArgs false
set_option maxRecDepth 100000
/-! isomorphisms: the first one -/
theorem first1_ok (p z : List Int) (e : Int) (hp : p.length = 10) :
    ACalls Try.prog 68 [.agg (plS p), .ref (.ptr 0 0 0 0), .ref (.ptr 0 1 0 0)] [.lv true (plS z), .lv true [(0, .ints .i64 1 [e])]]
      (fun v ms ns => v = .b true ∧ ms = [.lv true (plS p), .lv true [(0, .ints .i64 1 [0])]] ∧ ns = []) := by
  refine acalls_of_body mix Try.func68 rfl fok68 (Nat.le_of_ble_eq_true rfl) ?_
  unfold abody
  simp only [absE, absL, absF, reduceCtorEq, ↓reduceIte, Nat.reduceEqDiff, Nat.reduceAdd, Nat.reduceLT, Nat.reduceMul, Nat.reduceSub, Nat.reduceLeDiff, Int.reduceLT, Int.reduceLE, Int.reduceEq, Option.isSome_some, implies_true, false_implies, Prod.mk.injEq, ne_eq, not_false_eq_true, not_true_eq_false, ge_iff_le, gt_iff_lt, Int.toNat_natCast, Int.reduceToNat, Int.cast_ofNat_Int, Int.natCast_nonneg, Try.f68, Try.results68]
  repeat refine And.intro (by decide +kernel) ?_
  exact ⟨[], by simp, by simp, by simp [renV], by simp [renBlk, renSegs, renSg], by simp⟩
def jArgs (N : Nat) (t z : List Int) (e : Int) : List Blk :=
  [.lv true (sqS N t), ceB (.fn 113 [(0, 0, 0, 0), (0, 1, 0, 0), (0, 2, 0, 0)]), ceB (.fn 68 [(0, 3, 0, 0), (0, 4, 0, 0)]), .lv true (plS z), .lv true [(0, .ints .i64 1 [e])]]
def JRes (N : Nat) (t z : List Int) (e : Int) (L' : List (List Int)) (v : AV) (ms ns : List Blk) : Prop :=
  ns = [] ∧ ((L' = [] ∧ v = .b false ∧ ms = jArgs N t z e) ∨ ∃ p, L' = [p] ∧ v = .b true ∧ ms = jArgs N t p 0)
theorem search1_ok (N : Nat) (t s : List Int) (z : List Int) (e : Int) (ht : Bytes 100 t) (hs : Bytes 100 s) (st : SqP N t) (ss : SqP N s) : ∀ d (f : List Int), PGood true N N t s f → N < cntL f N + d →
    ACalls Try.prog 113 [.agg (ldS N t N s f (frS N f)), .ref (.ptr 0 0 0 0), .ref (.ptr 0 1 0 0), .ref (.ptr 0 2 0 0)] (jArgs N t z e)
      (fun v ms ns => JRes N t z e (ism N t s (ltM 1) d f []) v ms ns) := by
  have hN := st.le
  have hN1 := st.pos
  intro d
  induction d with
  | zero => intro f _ h; have := cnt_le (f := f) (k := N); omega
  | succ d ih =>
    intro f hf hd
    have hXle : fnd (pl f) 255 N ≤ N := fnd_le
    have hbe : ∀ i, i < fnd (pl f) 255 N → pl f i ≠ 255 := fun i hi => fnd_none hi
    unfold jArgs ceB
    refine acalls_of_body mix Try.func113 rfl fok113 (Nat.le_of_ble_eq_true rfl) ?_
    unfold abody
    simp only [absE, absL, absF, reduceCtorEq, ↓reduceIte, Nat.reduceEqDiff, Nat.reduceAdd, Nat.reduceLT, Nat.reduceMul, Nat.reduceSub, Nat.reduceLeDiff, Int.reduceLT, Int.reduceLE, Int.reduceEq, Option.isSome_some, implies_true, false_implies, Prod.mk.injEq, ne_eq, not_false_eq_true, not_true_eq_false, ge_iff_le, gt_iff_lt, Int.toNat_natCast, Int.reduceToNat, Int.cast_ofNat_Int, Int.natCast_nonneg, Try.f113]
    refine CallsVia.none (elements_ok N t hN) ?_
    rintro _ _ _ ⟨rfl, rfl, rfl⟩
    simp only [absE, absL, absF, reduceCtorEq, ↓reduceIte, Nat.reduceEqDiff, Nat.reduceAdd, Nat.reduceLT, Nat.reduceMul, Nat.reduceSub, Nat.reduceLeDiff, Int.reduceLT, Int.reduceLE, Int.reduceEq, Option.isSome_some, implies_true, false_implies, Prod.mk.injEq, ne_eq, not_false_eq_true, not_true_eq_false, ge_iff_le, gt_iff_lt, Int.toNat_natCast, Int.reduceToNat, Int.cast_ofNat_Int, Int.natCast_nonneg]
    refine awpLoop.intro (fun x : Nat => [(1, .ref (.ptr 0 0 0 0)), (2, .ref (.ptr 0 1 0 0)), (3, .ref (.ptr 0 2 0 0)), (4, .ref (.ptr 1 0 0 0)), (5, .b false), (13, .ref (.sl 4 0 0 0 N 1)), (14, .i .i64 N), (15, .i .i64 x)]) (fun x => ⟨jArgs N t z e, [((1, 0), .lv true (ldS N t N s f (frS N f))), ((4, 0), .lv true ([(0, .ints .u8 N (bytesTo N))]))], 30⟩) (fun x => x ≤ fnd (pl f) 255 N) (fun x => fnd (pl f) 255 N - x) 0 (by omega) ⟨[((1,0),(1,0)), ((4,0),(4,0))], rfl, ?_, ?_⟩ ?_
    · simp [wkEnv, lk, renV, renAt, renTo]
    · simp [wkMem, wkLoc, Mem.get, assoc, jArgs, ceB, renBlk, renSegs, renSg, renAt, renCaps, renTo]
    · intro x hxX
      have w := wrap_i64s (show x < 2 ^ 62 by omega)
      by_cases hlt : x < fnd (pl f) 255 N
      · have h : (x : Int) < N := by omega
        have b1 : (bytesTo N).getD (0 + x * 1) 0 = (x : Int) := by rw [Nat.zero_add, Nat.mul_one]; exact bytesTo_get (by omega)
        have v1 : 0 + x * 1 < N := by omega
        have x10 : (x : Int) < 10 := by omega
        have x11 : 0 + x * 1 < 10 := by omega
        have k1 : f.getD (0 + x * 1) 0 = ((pl f x : Nat) : Int) := by rw [Nat.zero_add, Nat.mul_one]; exact hf.pm.by_.place x
        have n1 : ¬ ((pl f x : Nat) : Int) = 255 := by have := hbe x hlt; omega
        simp only [absE, absL, absF, reduceCtorEq, ↓reduceIte, Nat.reduceEqDiff, Nat.reduceAdd, Nat.reduceLT, Nat.reduceMul, Nat.reduceSub, Nat.reduceLeDiff, Int.reduceLT, Int.reduceLE, Int.reduceEq, Option.isSome_some, implies_true, false_implies, Prod.mk.injEq, ne_eq, not_false_eq_true, not_true_eq_false, ge_iff_le, gt_iff_lt, Int.toNat_natCast, Int.reduceToNat, Int.cast_ofNat_Int, Int.natCast_nonneg, h, b1, v1, x10, x11, k1, n1, jArgs, ceB]
        refine LoopNext.intro (x + 1) (by omega) (by omega) ⟨[((1,0),(1,0)), ((4,0),(4,0))], rfl, ?_, ?_⟩
        · simp [wkEnv, lk, renV, renAt, renTo, w]
        · simp [wkMem, wkLoc, Mem.get, assoc, jArgs, ceB, renBlk, renSegs, renSg, renAt, renCaps, renTo]
      · obtain hX : fnd (pl f) 255 N = x := by omega
        by_cases hxN : x < N
        · have hfx : pl f x = 255 := by rw [← hX]; exact fnd_at (by omega)
          have e1 : ism N t s (ltM 1) (d + 1) f [] = ismIn N t s (ltM 1) (ism N t s (ltM 1) d) f x N [] := by rw [ism, if_pos (by omega), hX]
          rw [e1]
          have h : (x : Int) < N := by omega
          have b1 : (bytesTo N).getD (0 + x * 1) 0 = (x : Int) := by rw [Nat.zero_add, Nat.mul_one]; exact bytesTo_get (by omega)
          have v1 : 0 + x * 1 < N := by omega
          have x10 : (x : Int) < 10 := by omega
          have x11 : 0 + x * 1 < 10 := by omega
          have k1 : f.getD (0 + x * 1) 0 = 255 := by rw [Nat.zero_add, Nat.mul_one]; rw [hf.pm.by_.place x, hfx]; rfl
          simp only [absE, absL, absF, reduceCtorEq, ↓reduceIte, Nat.reduceEqDiff, Nat.reduceAdd, Nat.reduceLT, Nat.reduceMul, Nat.reduceSub, Nat.reduceLeDiff, Int.reduceLT, Int.reduceLE, Int.reduceEq, Option.isSome_some, implies_true, false_implies, Prod.mk.injEq, ne_eq, not_false_eq_true, not_true_eq_false, ge_iff_le, gt_iff_lt, Int.toNat_natCast, Int.reduceToNat, Int.cast_ofNat_Int, Int.natCast_nonneg, h, b1, v1, x10, x11, k1, jArgs, ceB]
          refine CallsVia.none (elements_ok N t hN) ?_
          rintro _ _ _ ⟨rfl, rfl, rfl⟩
          simp only [absE, absL, absF, reduceCtorEq, ↓reduceIte, Nat.reduceEqDiff, Nat.reduceAdd, Nat.reduceLT, Nat.reduceMul, Nat.reduceSub, Nat.reduceLeDiff, Int.reduceLT, Int.reduceLE, Int.reduceEq, Option.isSome_some, implies_true, false_implies, Prod.mk.injEq, ne_eq, not_false_eq_true, not_true_eq_false, ge_iff_le, gt_iff_lt, Int.toNat_natCast, Int.reduceToNat, Int.cast_ofNat_Int, Int.natCast_nonneg]
          refine awpLoop.intro (fun y : Nat => [(1, .ref (.ptr 0 0 0 0)), (2, .ref (.ptr 0 1 0 0)), (3, .ref (.ptr 0 2 0 0)), (4, .ref (.ptr 1 0 0 0)), (5, .b false), (7, .i .u8 x), (25, .ref (.sl 40 0 0 0 N 1)), (26, .i .i64 N), (27, .i .i64 y)]) (fun y => ⟨jArgs N t z e, [((1, 0), .lv true (ldS N t N s f (frS N f))), ((40, 0), .lv true ([(0, .ints .u8 N (bytesTo N))]))], 60⟩)
            (fun y => y ≤ N ∧ ismIn N t s (ltM 1) (ism N t s (ltM 1) d) f x y [] = []) (fun y => N - y) 0 ⟨by omega, rfl⟩ ⟨[((1,0),(1,0)), ((40,0),(40,0))], rfl, ?_, ?_⟩ ?_
          · simp [wkEnv, lk, renV, renAt, renTo]
          · simp [wkMem, wkLoc, Mem.get, assoc, jArgs, ceB, renBlk, renSegs, renSg, renAt, renCaps, renTo]
          · rintro y ⟨hy, hL⟩
            have step : ismIn N t s (ltM 1) (ism N t s (ltM 1) d) f x (y + 1) [] = (match lexp true N N t s f x y with | some g => ism N t s (ltM 1) d g [] | none => []) := by
              rw [ismIn, hL, if_pos (show ltM 1 ([] : List (List Int)).length = true from rfl)]; rfl
            by_cases h : (y : Int) < N
            · have wy := wrap_i64s (show y < 2 ^ 62 by omega)
              have hyN : y < N := by omega
              have b2 : (bytesTo N).getD (0 + y * 1) 0 = (y : Int) := by rw [Nat.zero_add, Nat.mul_one]; exact bytesTo_get (by omega)
              have v2 : 0 + y * 1 < N := by omega
              have hP := put_ok N t s f x y ht hs st ss hf hxN hyN
              simp only [absE, absL, absF, reduceCtorEq, ↓reduceIte, Nat.reduceEqDiff, Nat.reduceAdd, Nat.reduceLT, Nat.reduceMul, Nat.reduceSub, Nat.reduceLeDiff, Int.reduceLT, Int.reduceLE, Int.reduceEq, Option.isSome_some, implies_true, false_implies, Prod.mk.injEq, ne_eq, not_false_eq_true, not_true_eq_false, ge_iff_le, gt_iff_lt, Int.toNat_natCast, Int.reduceToNat, Int.cast_ofNat_Int, Int.natCast_nonneg, h, b2, v2, jArgs, ceB]
              refine CallsVia.args [(65, 0)] hP (by simp) (by simp [Mem.get, assoc]) rfl rfl ?_
              rintro _ _ _ ⟨b, g, ⟨hg1, hg2⟩, rfl, rfl, rfl⟩
              cases b
              · have hX := lexp_none (hg2 rfl)
                simp only [absE, absL, absF, reduceCtorEq, ↓reduceIte, Nat.reduceEqDiff, Nat.reduceAdd, Nat.reduceLT, Nat.reduceMul, Nat.reduceSub, Nat.reduceLeDiff, Int.reduceLT, Int.reduceLE, Int.reduceEq, Option.isSome_some, implies_true, false_implies, Prod.mk.injEq, ne_eq, not_false_eq_true, not_true_eq_false, ge_iff_le, gt_iff_lt, Int.toNat_natCast, Int.reduceToNat, Int.cast_ofNat_Int, Int.natCast_nonneg]
                refine LoopNext.intro (y + 1) ⟨by omega, by rw [step, hX]⟩ (by omega) ⟨[((1,0),(1,0)), ((40,0),(40,0))], rfl, ?_, ?_⟩
                · simp [wkEnv, lk, renV, renAt, renTo, wy]
                · simp [wkMem, wkLoc, Mem.get, assoc, jArgs, ceB, renBlk, renSegs, renSg, renAt, renCaps, renTo]
              · have hLE := hg1 rfl
                have hX := lexp_some hLE
                have hcl := le_cnt hN hxN hyN hfx hLE
                have hS := ih g hLE.good (by omega)
                unfold jArgs ceB at hS
                rw [hX] at step
                simp only at step
                simp only [absE, absL, absF, reduceCtorEq, ↓reduceIte, Nat.reduceEqDiff, Nat.reduceAdd, Nat.reduceLT, Nat.reduceMul, Nat.reduceSub, Nat.reduceLeDiff, Int.reduceLT, Int.reduceLE, Int.reduceEq, Option.isSome_some, implies_true, false_implies, Prod.mk.injEq, ne_eq, not_false_eq_true, not_true_eq_false, ge_iff_le, gt_iff_lt, Int.toNat_natCast, Int.reduceToNat, Int.cast_ofNat_Int, Int.natCast_nonneg]
                refine CallsVia.args [(0, 0), (0, 1), (0, 2), (0, 3), (0, 4)] hS (by simp) (by simp [Mem.get, assoc]) rfl rfl ?_
                rintro _ _ _ ⟨rfl, (⟨hsame, rfl, rfl⟩ | ⟨p, hsome, rfl, rfl⟩)⟩
                · simp only [absE, absL, absF, reduceCtorEq, ↓reduceIte, Nat.reduceEqDiff, Nat.reduceAdd, Nat.reduceLT, Nat.reduceMul, Nat.reduceSub, Nat.reduceLeDiff, Int.reduceLT, Int.reduceLE, Int.reduceEq, Option.isSome_some, implies_true, false_implies, Prod.mk.injEq, ne_eq, not_false_eq_true, not_true_eq_false, ge_iff_le, gt_iff_lt, Int.toNat_natCast, Int.reduceToNat, Int.cast_ofNat_Int, Int.natCast_nonneg, jArgs, ceB]
                  refine LoopNext.intro (y + 1) ⟨by omega, by rw [step, hsame]⟩ (by omega) ⟨[((1,0),(1,0)), ((40,0),(40,0))], rfl, ?_, ?_⟩
                  · simp [wkEnv, lk, renV, renAt, renTo, wy]
                  · simp [wkMem, wkLoc, Mem.get, assoc, jArgs, ceB, renBlk, renSegs, renSg, renAt, renCaps, renTo, renOut]
                · have hst := ismIn_stop (N := N) (t := t) (s := s) (lim := ltM 1) (rec := ism N t s (ltM 1) d) (f := f) (x := x) (y := y + 1) (L := []) (by rw [step, hsome]; rfl) (z := N) (by omega)
                  rw [step, hsome] at hst
                  simp only [absE, absL, absF, reduceCtorEq, ↓reduceIte, Nat.reduceEqDiff, Nat.reduceAdd, Nat.reduceLT, Nat.reduceMul, Nat.reduceSub, Nat.reduceLeDiff, Int.reduceLT, Int.reduceLE, Int.reduceEq, Option.isSome_some, implies_true, false_implies, Prod.mk.injEq, ne_eq, not_false_eq_true, not_true_eq_false, ge_iff_le, gt_iff_lt, Int.toNat_natCast, Int.reduceToNat, Int.cast_ofNat_Int, Int.natCast_nonneg, jArgs, ceB, Try.results113]
                  exact ⟨[], by simp, by simp, by simp, .inr ⟨p, hst, by simp [renV], by simp [jArgs, ceB, renBlk, renSegs, renSg, renAt, renOut, renCaps, renFin]⟩⟩
            · have hyN : y = N := by omega
              rw [hyN] at hL
              simp only [absE, absL, absF, reduceCtorEq, ↓reduceIte, Nat.reduceEqDiff, Nat.reduceAdd, Nat.reduceLT, Nat.reduceMul, Nat.reduceSub, Nat.reduceLeDiff, Int.reduceLT, Int.reduceLE, Int.reduceEq, Option.isSome_some, implies_true, false_implies, Prod.mk.injEq, ne_eq, not_false_eq_true, not_true_eq_false, ge_iff_le, gt_iff_lt, Int.toNat_natCast, Int.reduceToNat, Int.cast_ofNat_Int, Int.natCast_nonneg, h, jArgs, ceB, Try.results113]
              exact ⟨[], by simp, by simp, by simp, .inl ⟨hL, by simp [renV], by simp [jArgs, ceB, renBlk, renSegs, renSg, renAt, renCaps, renFin]⟩⟩
        · obtain rfl : x = N := by omega
          have e1 : ism x t s (ltM 1) (d + 1) f [] = [finL x f] := by rw [ism, if_neg (by omega)]; rfl
          have h : ¬ (x : Int) < x := by omega
          rw [e1]
          have hfl := finL_copy hN hN1 hf.pm.by_
          have hV := first1_ok (finL x f) z e mapL_len
          have hmn : min 10 (x - 0) = x := by omega
          have hx10 : (x : Int) ≤ 10 := by omega
          have x00 : 0 < x := hN1
          have xle : 0 + x ≤ 10 := by omega
          by_cases h10 : x = 10
          · subst h10
            rw [finL_ten hf.pm.by_] at hV ⊢
            have m10 : min 10 10 = 10 := rfl
            simp only [absE, absL, absF, reduceCtorEq, ↓reduceIte, Nat.reduceEqDiff, Nat.reduceAdd, Nat.reduceLT, Nat.reduceMul, Nat.reduceSub, Nat.reduceLeDiff, Int.reduceLT, Int.reduceLE, Int.reduceEq, Option.isSome_some, implies_true, false_implies, Prod.mk.injEq, ne_eq, not_false_eq_true, not_true_eq_false, ge_iff_le, gt_iff_lt, Int.toNat_natCast, Int.reduceToNat, Int.cast_ofNat_Int, Int.natCast_nonneg, h, jArgs, ceB, m10]
            repeat refine And.intro (by decide +kernel) ?_
            refine CallsVia.args [(0, 3), (0, 4)] hV (by simp) (by simp [Mem.get, assoc]) rfl rfl ?_
            rintro _ _ _ ⟨rfl, rfl, rfl⟩
            simp only [absE, absL, absF, reduceCtorEq, ↓reduceIte, Nat.reduceEqDiff, Nat.reduceAdd, Nat.reduceLT, Nat.reduceMul, Nat.reduceSub, Nat.reduceLeDiff, Int.reduceLT, Int.reduceLE, Int.reduceEq, Option.isSome_some, implies_true, false_implies, Prod.mk.injEq, ne_eq, not_false_eq_true, not_true_eq_false, ge_iff_le, gt_iff_lt, Int.toNat_natCast, Int.reduceToNat, Int.cast_ofNat_Int, Int.natCast_nonneg, Try.results113]
            exact ⟨[], by simp, by simp, by simp, .inr ⟨_, rfl, by simp [renV], by simp [jArgs, ceB, renBlk, renSegs, renSg, renAt, renOut, renCaps, renFin]⟩⟩
          · have hfl' : spl (List.replicate 10 0) 0 ((f.drop 0).take x) = finL x f := hfl
            simp only [absE, absL, absF, reduceCtorEq, ↓reduceIte, Nat.reduceEqDiff, Nat.reduceAdd, Nat.reduceLT, Nat.reduceMul, Nat.reduceSub, Nat.reduceLeDiff, Int.reduceLT, Int.reduceLE, Int.reduceEq, Option.isSome_some, implies_true, false_implies, Prod.mk.injEq, ne_eq, not_false_eq_true, not_true_eq_false, ge_iff_le, gt_iff_lt, Int.toNat_natCast, Int.reduceToNat, Int.cast_ofNat_Int, Int.natCast_nonneg, h, jArgs, ceB, hx10, hmn, x00, h10, xle, hfl']
            repeat refine And.intro (by decide +kernel) ?_
            refine CallsVia.args [(0, 3), (0, 4)] hV (by simp) (by simp [Mem.get, assoc]) rfl rfl ?_
            rintro _ _ _ ⟨rfl, rfl, rfl⟩
            simp only [absE, absL, absF, reduceCtorEq, ↓reduceIte, Nat.reduceEqDiff, Nat.reduceAdd, Nat.reduceLT, Nat.reduceMul, Nat.reduceSub, Nat.reduceLeDiff, Int.reduceLT, Int.reduceLE, Int.reduceEq, Option.isSome_some, implies_true, false_implies, Prod.mk.injEq, ne_eq, not_false_eq_true, not_true_eq_false, ge_iff_le, gt_iff_lt, Int.toNat_natCast, Int.reduceToNat, Int.cast_ofNat_Int, Int.natCast_nonneg, Try.results113]
            exact ⟨[], by simp, by simp, by simp, .inr ⟨_, rfl, by simp [renV], by simp [jArgs, ceB, renBlk, renSegs, renSg, renAt, renOut, renCaps, renFin]⟩⟩
theorem isomorphisms1_ok (N : Nat) (t s z : List Int) (e : Int) (ht : Bytes 100 t) (hs : Bytes 100 s) (st : SqP N t) (ss : SqP N s) :
    ACalls Try.prog 67 [.agg (sqS N t), .agg (sqS N s), .ref (.fn 68 [(0, 0, 0, 0), (0, 1, 0, 0)])] [.lv true (plS z), .lv true [(0, .ints .i64 1 [e])]]
      (fun v ms ns => v = .tup [] ∧ ns = [] ∧ ((isoM 1 N t s = [] ∧ ms = [.lv true (plS z), .lv true [(0, .ints .i64 1 [e])]]) ∨ ∃ p, isoM 1 N t s = [p] ∧ ms = [.lv true (plS p), .lv true [(0, .ints .i64 1 [0])]])) := by
  have hN := st.le
  have hS := search1_ok N t s z e ht hs st ss (N + 1) freeL (free_good hN) (by omega)
  unfold isoM
  generalize ism N t s (ltM 1) (N + 1) freeL [] = L' at hS
  have hfr := free_frS hN
  rw [hfr] at hS
  unfold jArgs ceB at hS
  refine acalls_of_body mix Try.func67 rfl fok67 (Nat.le_of_ble_eq_true rfl) ?_
  unfold abody
  simp only [absE, absL, absF, reduceCtorEq, ↓reduceIte, Nat.reduceEqDiff, Nat.reduceAdd, Nat.reduceLT, Nat.reduceMul, Nat.reduceSub, Nat.reduceLeDiff, Int.reduceLT, Int.reduceLE, Int.reduceEq, Option.isSome_some, implies_true, false_implies, Prod.mk.injEq, ne_eq, not_false_eq_true, not_true_eq_false, ge_iff_le, gt_iff_lt, Int.toNat_natCast, Int.reduceToNat, Int.cast_ofNat_Int, Int.natCast_nonneg, Try.f67]
  refine awpLoop.intro (fun i : Nat => [(3, .ref (.ptr 1 0 0 0)), (5, .ref (.ptr 3 0 0 0)), (6, .ref (.ptr 12 0 0 0)), (17, .i .i64 i)]) (fun i => ⟨[.lv true (plS z), .lv true [(0, .ints .i64 1 [e])]], [((1, 0), .lv true (sqS N t)), ((3, 0), .lv true ([(0, .cells 1 [.fn 68 [(0, 0, 0, 0), (0, 1, 0, 0)]])])), ((12, 0), .lv true (ldS N t N s (fzL i) (fzL i)))], 30⟩) (fun i => i ≤ 10) (fun i => 10 - i) 0 (by omega) ⟨[((1,0),(1,0)), ((3,0),(3,0)), ((12,0),(12,0))], rfl, ?_, ?_⟩ ?_
  · simp [wkEnv, lk, renV, renAt, renTo]
  · simp [wkMem, wkLoc, Mem.get, assoc, renBlk, renSegs, renSg, renAt, renCaps, renTo, fzL]; decide
  · intro i hi
    by_cases h : (i : Int) < 10
    · have w := wrap_i64s (show i < 2 ^ 62 by omega)
      have i11 : 0 + i * 1 + 1 ≤ 10 := by omega
      have es : (fzL i).set (0 + i * 1) 255 = fzL (i + 1) := by rw [Nat.zero_add, Nat.mul_one]; exact fzL_set (by omega)
      simp only [absE, absL, absF, reduceCtorEq, ↓reduceIte, Nat.reduceEqDiff, Nat.reduceAdd, Nat.reduceLT, Nat.reduceMul, Nat.reduceSub, Nat.reduceLeDiff, Int.reduceLT, Int.reduceLE, Int.reduceEq, Option.isSome_some, implies_true, false_implies, Prod.mk.injEq, ne_eq, not_false_eq_true, not_true_eq_false, ge_iff_le, gt_iff_lt, Int.toNat_natCast, Int.reduceToNat, Int.cast_ofNat_Int, Int.natCast_nonneg, h, i11, es]
      repeat first | refine And.intro (by decide +kernel) ?_ | refine And.intro (by omega) ?_
      refine LoopNext.intro (i + 1) (by omega) (by omega) ⟨[((1,0),(1,0)), ((3,0),(3,0)), ((12,0),(12,0))], rfl, ?_, ?_⟩
      · simp [wkEnv, lk, renV, renAt, renTo, w]
      · simp [wkMem, wkLoc, Mem.get, assoc, renBlk, renSegs, renSg, renAt, renCaps, renTo]
    · obtain rfl : i = 10 := by omega
      simp only [absE, absL, absF, reduceCtorEq, ↓reduceIte, Nat.reduceEqDiff, Nat.reduceAdd, Nat.reduceLT, Nat.reduceMul, Nat.reduceSub, Nat.reduceLeDiff, Int.reduceLT, Int.reduceLE, Int.reduceEq, Option.isSome_some, implies_true, false_implies, Prod.mk.injEq, ne_eq, not_false_eq_true, not_true_eq_false, ge_iff_le, gt_iff_lt, Int.toNat_natCast, Int.reduceToNat, Int.cast_ofNat_Int, Int.natCast_nonneg, h, fzL_ten]
      refine CallsVia.args [(1, 0), (31, 0), (3, 0), (0, 0), (0, 1)] hS (by simp) (by simp [Mem.get, assoc]) rfl rfl ?_
      rintro _ _ _ ⟨rfl, (⟨hsame, rfl, rfl⟩ | ⟨p, hsome, rfl, rfl⟩)⟩
      · simp only [absE, absL, absF, reduceCtorEq, ↓reduceIte, Nat.reduceEqDiff, Nat.reduceAdd, Nat.reduceLT, Nat.reduceMul, Nat.reduceSub, Nat.reduceLeDiff, Int.reduceLT, Int.reduceLE, Int.reduceEq, Option.isSome_some, implies_true, false_implies, Prod.mk.injEq, ne_eq, not_false_eq_true, not_true_eq_false, ge_iff_le, gt_iff_lt, Int.toNat_natCast, Int.reduceToNat, Int.cast_ofNat_Int, Int.natCast_nonneg, jArgs, ceB, Try.results67]
        exact ⟨[], by simp, by simp, by simp [renV, renVs], by simp, .inl ⟨hsame, by simp [renBlk, renSegs, renSg]⟩⟩
      · simp only [absE, absL, absF, reduceCtorEq, ↓reduceIte, Nat.reduceEqDiff, Nat.reduceAdd, Nat.reduceLT, Nat.reduceMul, Nat.reduceSub, Nat.reduceLeDiff, Int.reduceLT, Int.reduceLE, Int.reduceEq, Option.isSome_some, implies_true, false_implies, Prod.mk.injEq, ne_eq, not_false_eq_true, not_true_eq_false, ge_iff_le, gt_iff_lt, Int.toNat_natCast, Int.reduceToNat, Int.cast_ofNat_Int, Int.natCast_nonneg, jArgs, ceB, Try.results67]
        exact ⟨[], by simp, by simp, by simp [renV, renVs], by simp, .inr ⟨p, hsome, by simp [renBlk, renSegs, renSg]⟩⟩
theorem isomorphisms_ne (n m : Int) (t s : List Int) (f : FuncId) (g0 g1 : Segs) (e0 : ∀ ρ, renSegs ρ g0 = g0) (e1 : ∀ ρ, renSegs ρ g1 = g1) (h : n ≠ m) :
    ACalls Try.prog 67 [.agg (sqS n t), .agg (sqS m s), .ref (.fn f [(0, 0, 0, 0), (0, 1, 0, 0)])] [.lv true g0, .lv true g1] (fun v ms ns => v = .tup [] ∧ ms = [.lv true g0, .lv true g1] ∧ ns = []) := by
  refine acalls_of_body mix Try.func67 rfl fok67 (Nat.le_of_ble_eq_true rfl) ?_
  unfold abody
  simp only [absE, absL, absF, reduceCtorEq, ↓reduceIte, Nat.reduceEqDiff, Nat.reduceAdd, Nat.reduceLT, Nat.reduceMul, Nat.reduceSub, Nat.reduceLeDiff, Int.reduceLT, Int.reduceLE, Int.reduceEq, Option.isSome_some, implies_true, false_implies, Prod.mk.injEq, ne_eq, not_false_eq_true, not_true_eq_false, ge_iff_le, gt_iff_lt, Int.toNat_natCast, Int.reduceToNat, Int.cast_ofNat_Int, Int.natCast_nonneg, h, Try.f67, Try.results67]
  exact ⟨[], by simp, by simp, by simp [renV, renVs], by simp [renBlk, e0, e1], by simp⟩
theorem implIso_ok (n : Int) (t : List Int) (m : Int) (s : List Int) (ht : Bytes 100 t) (hs : Bytes 100 s) : ACalls Try.prog 24 [.agg (sqS n t), .agg (sqS m s)] [] (fun v ms ns => v = isoR n t m s ∧ ms = [] ∧ ns = []) := by
  cases h1 : sqB n t
  · have e : isoR n t m s = .tup [.agg (plS (List.replicate 10 0)), .i .i64 1] := by unfold isoR; rw [h1]; rfl
    rw [e]
    refine acalls_of_body mix Try.func24 rfl fok24 (Nat.le_of_ble_eq_true rfl) ?_
    unfold abody
    simp only [absE, absL, absF, reduceCtorEq, ↓reduceIte, Nat.reduceEqDiff, Nat.reduceAdd, Nat.reduceLT, Nat.reduceMul, Nat.reduceSub, Nat.reduceLeDiff, Int.reduceLT, Int.reduceLE, Int.reduceEq, Option.isSome_some, implies_true, false_implies, Prod.mk.injEq, ne_eq, not_false_eq_true, not_true_eq_false, ge_iff_le, gt_iff_lt, Int.toNat_natCast, Int.reduceToNat, Int.cast_ofNat_Int, Int.natCast_nonneg, Try.f24]
    refine CallsVia.none (isSquare_ok n t ht) ?_
    rintro _ _ _ ⟨rfl, rfl, rfl⟩
    simp only [absE, absL, absF, reduceCtorEq, ↓reduceIte, Nat.reduceEqDiff, Nat.reduceAdd, Nat.reduceLT, Nat.reduceMul, Nat.reduceSub, Nat.reduceLeDiff, Int.reduceLT, Int.reduceLE, Int.reduceEq, Option.isSome_some, implies_true, false_implies, Prod.mk.injEq, ne_eq, not_false_eq_true, not_true_eq_false, ge_iff_le, gt_iff_lt, Int.toNat_natCast, Int.reduceToNat, Int.cast_ofNat_Int, Int.natCast_nonneg, h1, Try.results24]
    exact ⟨[], by simp, by simp, by simp [renV, renVs, renSegs, renSg]⟩
  · cases h2 : sqB m s
    · have e : isoR n t m s = .tup [.agg (plS (List.replicate 10 0)), .i .i64 1] := by unfold isoR; rw [h1, h2]; rfl
      rw [e]
      refine acalls_of_body mix Try.func24 rfl fok24 (Nat.le_of_ble_eq_true rfl) ?_
      unfold abody
      simp only [absE, absL, absF, reduceCtorEq, ↓reduceIte, Nat.reduceEqDiff, Nat.reduceAdd, Nat.reduceLT, Nat.reduceMul, Nat.reduceSub, Nat.reduceLeDiff, Int.reduceLT, Int.reduceLE, Int.reduceEq, Option.isSome_some, implies_true, false_implies, Prod.mk.injEq, ne_eq, not_false_eq_true, not_true_eq_false, ge_iff_le, gt_iff_lt, Int.toNat_natCast, Int.reduceToNat, Int.cast_ofNat_Int, Int.natCast_nonneg, Try.f24]
      refine CallsVia.none (isSquare_ok n t ht) ?_
      rintro _ _ _ ⟨rfl, rfl, rfl⟩
      simp only [absE, absL, absF, reduceCtorEq, ↓reduceIte, Nat.reduceEqDiff, Nat.reduceAdd, Nat.reduceLT, Nat.reduceMul, Nat.reduceSub, Nat.reduceLeDiff, Int.reduceLT, Int.reduceLE, Int.reduceEq, Option.isSome_some, implies_true, false_implies, Prod.mk.injEq, ne_eq, not_false_eq_true, not_true_eq_false, ge_iff_le, gt_iff_lt, Int.toNat_natCast, Int.reduceToNat, Int.cast_ofNat_Int, Int.natCast_nonneg, h1]
      refine CallsVia.none (isSquare_ok m s hs) ?_
      rintro _ _ _ ⟨rfl, rfl, rfl⟩
      simp only [absE, absL, absF, reduceCtorEq, ↓reduceIte, Nat.reduceEqDiff, Nat.reduceAdd, Nat.reduceLT, Nat.reduceMul, Nat.reduceSub, Nat.reduceLeDiff, Int.reduceLT, Int.reduceLE, Int.reduceEq, Option.isSome_some, implies_true, false_implies, Prod.mk.injEq, ne_eq, not_false_eq_true, not_true_eq_false, ge_iff_le, gt_iff_lt, Int.toNat_natCast, Int.reduceToNat, Int.cast_ofNat_Int, Int.natCast_nonneg, h2, Try.results24]
      exact ⟨[], by simp, by simp, by simp [renV, renVs, renSegs, renSg]⟩
    · have e : isoR n t m s = isoV (isoP n m t s) := by unfold isoR; rw [h1, h2]; rfl
      have hst := sqB_iff.1 h1
      have hss := sqB_iff.1 h2
      obtain ⟨N, rfl⟩ : ∃ N : Nat, n = N := ⟨n.toNat, by have := hst.1; omega⟩
      rw [e]
      by_cases hnm : (N : Int) = m
      · subst hnm
        have e2 : isoP N N t s = isoM 1 N t s := by unfold isoP; rw [if_pos rfl, Int.toNat_natCast]
        have hI := isomorphisms1_ok N t s (List.replicate 10 0) 4 ht hs hst hss
        rw [e2]
        generalize isoM 1 N t s = L at hI
        refine acalls_of_body mix Try.func24 rfl fok24 (Nat.le_of_ble_eq_true rfl) ?_
        unfold abody
        simp only [absE, absL, absF, reduceCtorEq, ↓reduceIte, Nat.reduceEqDiff, Nat.reduceAdd, Nat.reduceLT, Nat.reduceMul, Nat.reduceSub, Nat.reduceLeDiff, Int.reduceLT, Int.reduceLE, Int.reduceEq, Option.isSome_some, implies_true, false_implies, Prod.mk.injEq, ne_eq, not_false_eq_true, not_true_eq_false, ge_iff_le, gt_iff_lt, Int.toNat_natCast, Int.reduceToNat, Int.cast_ofNat_Int, Int.natCast_nonneg, Try.f24]
        refine CallsVia.none (isSquare_ok N t ht) ?_
        rintro _ _ _ ⟨rfl, rfl, rfl⟩
        simp only [absE, absL, absF, reduceCtorEq, ↓reduceIte, Nat.reduceEqDiff, Nat.reduceAdd, Nat.reduceLT, Nat.reduceMul, Nat.reduceSub, Nat.reduceLeDiff, Int.reduceLT, Int.reduceLE, Int.reduceEq, Option.isSome_some, implies_true, false_implies, Prod.mk.injEq, ne_eq, not_false_eq_true, not_true_eq_false, ge_iff_le, gt_iff_lt, Int.toNat_natCast, Int.reduceToNat, Int.cast_ofNat_Int, Int.natCast_nonneg, h1]
        refine CallsVia.none (isSquare_ok N s hs) ?_
        rintro _ _ _ ⟨rfl, rfl, rfl⟩
        simp only [absE, absL, absF, reduceCtorEq, ↓reduceIte, Nat.reduceEqDiff, Nat.reduceAdd, Nat.reduceLT, Nat.reduceMul, Nat.reduceSub, Nat.reduceLeDiff, Int.reduceLT, Int.reduceLE, Int.reduceEq, Option.isSome_some, implies_true, false_implies, Prod.mk.injEq, ne_eq, not_false_eq_true, not_true_eq_false, ge_iff_le, gt_iff_lt, Int.toNat_natCast, Int.reduceToNat, Int.cast_ofNat_Int, Int.natCast_nonneg, h2]
        refine CallsVia.args [(14, 0), (15, 0)] hI (by simp) (by simp [Mem.get, assoc]) rfl rfl ?_
        rintro _ _ _ ⟨rfl, rfl, (⟨rfl, rfl⟩ | ⟨p, rfl, rfl⟩)⟩
        · simp only [absE, absL, absF, reduceCtorEq, ↓reduceIte, Nat.reduceEqDiff, Nat.reduceAdd, Nat.reduceLT, Nat.reduceMul, Nat.reduceSub, Nat.reduceLeDiff, Int.reduceLT, Int.reduceLE, Int.reduceEq, Option.isSome_some, implies_true, false_implies, Prod.mk.injEq, ne_eq, not_false_eq_true, not_true_eq_false, ge_iff_le, gt_iff_lt, Int.toNat_natCast, Int.reduceToNat, Int.cast_ofNat_Int, Int.natCast_nonneg, Try.results24]
          repeat refine And.intro (by decide +kernel) ?_
          exact ⟨[], by simp, by simp, by simp [renV, renVs, renSegs, renSg, isoV]⟩
        · simp only [absE, absL, absF, reduceCtorEq, ↓reduceIte, Nat.reduceEqDiff, Nat.reduceAdd, Nat.reduceLT, Nat.reduceMul, Nat.reduceSub, Nat.reduceLeDiff, Int.reduceLT, Int.reduceLE, Int.reduceEq, Option.isSome_some, implies_true, false_implies, Prod.mk.injEq, ne_eq, not_false_eq_true, not_true_eq_false, ge_iff_le, gt_iff_lt, Int.toNat_natCast, Int.reduceToNat, Int.cast_ofNat_Int, Int.natCast_nonneg, Try.results24]
          repeat refine And.intro (by decide +kernel) ?_
          exact ⟨[], by simp, by simp, by simp [renV, renVs, renSegs, renSg, isoV]⟩
      · have e2 : isoP N m t s = [] := by unfold isoP; rw [if_neg hnm]
        have hI := isomorphisms_ne N m t s 68 (plS (List.replicate 10 0)) [(0, .ints .i64 1 [4])] (fun _ => rfl) (fun _ => rfl) hnm
        rw [e2]
        refine acalls_of_body mix Try.func24 rfl fok24 (Nat.le_of_ble_eq_true rfl) ?_
        unfold abody
        simp only [absE, absL, absF, reduceCtorEq, ↓reduceIte, Nat.reduceEqDiff, Nat.reduceAdd, Nat.reduceLT, Nat.reduceMul, Nat.reduceSub, Nat.reduceLeDiff, Int.reduceLT, Int.reduceLE, Int.reduceEq, Option.isSome_some, implies_true, false_implies, Prod.mk.injEq, ne_eq, not_false_eq_true, not_true_eq_false, ge_iff_le, gt_iff_lt, Int.toNat_natCast, Int.reduceToNat, Int.cast_ofNat_Int, Int.natCast_nonneg, Try.f24]
        refine CallsVia.none (isSquare_ok N t ht) ?_
        rintro _ _ _ ⟨rfl, rfl, rfl⟩
        simp only [absE, absL, absF, reduceCtorEq, ↓reduceIte, Nat.reduceEqDiff, Nat.reduceAdd, Nat.reduceLT, Nat.reduceMul, Nat.reduceSub, Nat.reduceLeDiff, Int.reduceLT, Int.reduceLE, Int.reduceEq, Option.isSome_some, implies_true, false_implies, Prod.mk.injEq, ne_eq, not_false_eq_true, not_true_eq_false, ge_iff_le, gt_iff_lt, Int.toNat_natCast, Int.reduceToNat, Int.cast_ofNat_Int, Int.natCast_nonneg, h1]
        refine CallsVia.none (isSquare_ok m s hs) ?_
        rintro _ _ _ ⟨rfl, rfl, rfl⟩
        simp only [absE, absL, absF, reduceCtorEq, ↓reduceIte, Nat.reduceEqDiff, Nat.reduceAdd, Nat.reduceLT, Nat.reduceMul, Nat.reduceSub, Nat.reduceLeDiff, Int.reduceLT, Int.reduceLE, Int.reduceEq, Option.isSome_some, implies_true, false_implies, Prod.mk.injEq, ne_eq, not_false_eq_true, not_true_eq_false, ge_iff_le, gt_iff_lt, Int.toNat_natCast, Int.reduceToNat, Int.cast_ofNat_Int, Int.natCast_nonneg, h2]
        refine CallsVia.args [(14, 0), (15, 0)] hI (by simp) (by simp [Mem.get, assoc]) rfl rfl ?_
        rintro _ _ _ ⟨rfl, rfl, rfl⟩
        simp only [absE, absL, absF, reduceCtorEq, ↓reduceIte, Nat.reduceEqDiff, Nat.reduceAdd, Nat.reduceLT, Nat.reduceMul, Nat.reduceSub, Nat.reduceLeDiff, Int.reduceLT, Int.reduceLE, Int.reduceEq, Option.isSome_some, implies_true, false_implies, Prod.mk.injEq, ne_eq, not_false_eq_true, not_true_eq_false, ge_iff_le, gt_iff_lt, Int.toNat_natCast, Int.reduceToNat, Int.cast_ofNat_Int, Int.natCast_nonneg, Try.results24]
        repeat refine And.intro (by decide +kernel) ?_
        exact ⟨[], by simp, by simp, by simp [renV, renVs, renSegs, renSg, isoV]⟩
theorem iso_form (n : Int) (t : List Int) (m : Int) (s : List Int) (ht : Bytes 100 t) (hs : Bytes 100 s) : ∃ q e, q.length = 10 ∧ isoR n t m s = .tup [.agg (plS q), .i .i64 e] := by
  unfold isoR
  split
  · unfold isoP
    split
    · have hr : ∀ p ∈ isoM 1 n.toNat t s, p.length = 10 := ism_rows (by simp)
      generalize isoM 1 n.toNat t s = L at hr
      cases L with
      | nil => exact ⟨_, _, by simp, rfl⟩
      | cons p r => exact ⟨p, 0, hr p (by simp), rfl⟩
    · exact ⟨_, _, by simp, rfl⟩
  · exact ⟨_, _, by simp, rfl⟩

end Go.Proofs.Ytgblnnodoabdeaa
