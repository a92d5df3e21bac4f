/-
Contracts of functions of the given program, by the abstract walk.
-/
import Derived.Test.YtoccbgffekhcaaaAbsY
import Derived.Test.YtoccbgffekhcaaaMc
import Derived.Test.YtoccbgffekhcaaaDc
import Derived.Test.YtoccbgffekhcaaaDo
namespace Go.Proofs.Ytoccbgffekhcaaa
open Go Go.Abs
set_option linter.unusedVariables false
set_option linter.unusedSectionVars false
set_option linter.unusedSimpArgs false
set_option maxRecDepth 100000
def ceB (a : Atom) : Blk := .lv true [(0, .cells 1 [a])]
def moB (most : Nat) : Blk := .lv true [(0, .ints .i64 1 [(most : Int)])]
theorem visit_ok (p : List Int) (most : Nat) (L : List (List Int)) (hp : p.length = 10) (hL : L.length ≤ 400) :
    ACalls Try.prog 103 [.agg (plS p), .ref (.ptr 0 0 0 0), .ref (.ptr 0 1 0 0)] [ceB (.sl 0 2 0 0 L.length 10), moB most, plB L]
      (fun v ms ns => v = .b (decide (L.length + 1 = most)) ∧ ms = [ceB (.sl 1 0 0 0 (L.length + 1) 10), moB most, .dead] ∧ ns = [plB (L ++ [p])]) := by
  unfold ceB moB plB
  refine acalls_of_body mix Try.func103 rfl fok103 (Nat.le_of_ble_eq_true rfl) ?_
  unfold abody
  simp only [absE, absL, absF, reduceCtorEq, ↓reduceIte, Nat.reduceEqDiff, Nat.reduceAdd, Nat.reduceLT, Nat.reduceMul, Nat.reduceSub, Nat.reduceLeDiff, Int.reduceLT, Int.reduceLE, Int.reduceEq, Option.isSome_some, implies_true, false_implies, Prod.mk.injEq, ne_eq, not_false_eq_true, not_true_eq_false, ge_iff_le, gt_iff_lt, Int.toNat_natCast, Int.reduceToNat, Int.cast_ofNat_Int, Int.natCast_nonneg, Try.f103, Try.results103]
  repeat refine And.intro (by omega) ?_
  have e : decide (((L.length + 1 : Nat) : Int) = (most : Int)) = decide (L.length + 1 = most) := decide_eq_decide.2 ⟨fun h => by omega, fun h => by omega⟩
  rw [e]
  exact ⟨[(6, 0)], by simp, by simp, by simp [renV, renAt, renFin, idx], by simp [renBlk, renSegs, renSg, renAt, renFin, idx], by simp [renBlk, renSegs, renSg, Mem.get, assoc, Nat.add_mul]⟩
/-- a bit set says what a list of bools says -/
def BitL (U : Nat) (u : List Bool) : Prop := U < 2 ^ 10 ∧ u.length = 10 ∧ ∀ z, z < 10 → U.testBit z = u.getD z false
theorem getD_setB {u : List Bool} {x z : Nat} {b : Bool} (h : x < u.length) : (u.set x b).getD z false = if x = z then b else u.getD z false := by
  rw [List.getD_eq_getElem?_getD, List.getElem?_set, List.getD_eq_getElem?_getD]
  by_cases e : x = z
  · rw [if_pos e, if_pos e, if_pos h]; rfl
  · rw [if_neg e, if_neg e]
theorem BitL.set {U x : Nat} {u : List Bool} (h : BitL U u) (hx : x < 10) : BitL (U ||| 2 ^ x) (u.set x true) := by
  refine ⟨Nat.or_lt_two_pow h.1 (Nat.pow_lt_pow_right (by decide) hx), by rw [List.length_set]; exact h.2.1, fun z hz => ?_⟩
  rw [Nat.testBit_or, h.2.2 z hz, getD_setB (by rw [h.2.1]; exact hx), Nat.testBit_two_pow]
  by_cases e : x = z
  · rw [if_pos e, decide_eq_true e, Bool.or_true]
  · rw [if_neg e, decide_eq_false e, Bool.or_false]
theorem set_zero {p : List Int} {d : Nat} (h : p.getD d 0 = 0) : p.set d 0 = p := by
  refine ext_getD (by simp) fun i hi => ?_
  by_cases hd : d < p.length
  · rw [getD_set_int hd]
    split
    · rename_i e; rw [← e, h]
    · rfl
  · rw [List.set_eq_of_length_le (by omega)]
def fArgs (N : Nat) (t p : List Int) (out : Atom) (most : Nat) (b : Blk) : List Blk :=
  [.lv true (sqS N t), ceB (.fn 103 [(0, 4, 0, 0), (0, 5, 0, 0)]), .lv true (plS p), ceB (.fn 151 [(0, 0, 0, 0), (0, 1, 0, 0), (0, 2, 0, 0), (0, 3, 0, 0)]), ceB out, moB most, b]
def FRes (N : Nat) (t p : List Int) (most : Nat) (L L' : List (List Int)) (v : AV) (ms ns : List Blk) : Prop :=
  ∃ p' : List Int, p'.length = 10 ∧ (L'.length < most → p' = p) ∧ v = .b (decide (L'.length = most)) ∧
    ((L' = L ∧ ms = fArgs N t p' (.sl 0 6 0 0 L.length 10) most (plB L) ∧ ns = []) ∨ (ms = fArgs N t p' (.sl 1 0 0 0 L'.length 10) most .dead ∧ ns = [plB L']))
def fO : Bool → List (List Int) → Atom
  | false, L => .sl 0 6 0 0 L.length 10
  | true, L => .sl 50 0 0 0 L.length 10
theorem fill_ok (N : Nat) (t : List Int) (most : Nat) (ht : Bytes 100 t) (hs : SqP N t) (hm : most ≤ 400) : ∀ k, k ≤ N → ∀ (p : List Int) (u m : List Bool) (U V : Nat) (L : List (List Int)), PlOk N p → (∀ z, N - k ≤ z → p.getD z 0 = 0) → BitL U u → BitL V m → L.length < most → AllPl N L →
    ACalls Try.prog 151 [.i .u8 ((N - k : Nat) : Int), .i .i64 U, .i .i64 V, .ref (.ptr 0 0 0 0), .ref (.ptr 0 1 0 0), .ref (.ptr 0 2 0 0), .ref (.ptr 0 3 0 0)] (fArgs N t p (.sl 0 6 0 0 L.length 10) most (plB L))
      (fun v ms ns => FRes N t p most L (srA N (cl t) (ltB most) k p u m L) v ms ns) := by
  have hN := hs.le
  intro k
  induction k with
  | zero =>
    intro hk p u m U V L hp hp0 hu hv hL hA
    have hl1 : p.length = 10 := hp.1
    have wN := wrap_i64n (show N < 2 ^ 62 by omega)
    unfold fArgs ceB moB plB
    refine acalls_of_body mix Try.func151 rfl fok151 (Nat.le_of_ble_eq_true rfl) ?_
    unfold abody
    simp only [absE, absL, absF, reduceCtorEq, ↓reduceIte, Nat.reduceEqDiff, Nat.reduceAdd, Nat.reduceLT, Nat.reduceMul, Nat.reduceSub, Nat.reduceLeDiff, Int.reduceLT, Int.reduceLE, Int.reduceEq, Option.isSome_some, implies_true, false_implies, Prod.mk.injEq, ne_eq, not_false_eq_true, not_true_eq_false, ge_iff_le, gt_iff_lt, Int.toNat_natCast, Int.reduceToNat, Int.cast_ofNat_Int, Int.natCast_nonneg, Nat.sub_zero, wN, Try.f151]
    refine CallsVia.args [(0, 4), (0, 5), (0, 6)] (visit_ok p most L hl1 (by omega)) (by simp) (by simp [Mem.get, assoc]) rfl rfl ?_
    rintro _ _ _ ⟨rfl, rfl, rfl⟩
    simp only [absE, absL, absF, reduceCtorEq, ↓reduceIte, Nat.reduceEqDiff, Nat.reduceAdd, Nat.reduceLT, Nat.reduceMul, Nat.reduceSub, Nat.reduceLeDiff, Int.reduceLT, Int.reduceLE, Int.reduceEq, Option.isSome_some, implies_true, false_implies, Prod.mk.injEq, ne_eq, not_false_eq_true, not_true_eq_false, ge_iff_le, gt_iff_lt, Int.toNat_natCast, Int.reduceToNat, Int.cast_ofNat_Int, Int.natCast_nonneg, ceB, moB, plB, Try.results151]
    refine ⟨[(9, 0)], by simp, by simp, p, hl1, fun _ => rfl, by simp [renV, srA], .inr ⟨by simp [fArgs, ceB, moB, srA, renBlk, renSegs, renSg, renAt, renOut, renCaps, renFin, idx], by simp [plB, srA, renBlk, renSegs, renSg, Mem.get, assoc]⟩⟩
  | succ k ih =>
    intro hk p u m U V L hp hp0 hu hv hL hA
    have hl1 : p.length = 10 := hp.1
    have g1 : ¬((N - (k + 1) : Nat) : Int) = N := by omega
    have wN := wrap_i64n (show N - (k + 1) < 2 ^ 62 by omega)
    unfold fArgs ceB moB plB
    generalize hd : N - (k + 1) = d at g1 wN hp0 ⊢
    refine acalls_of_body mix Try.func151 rfl fok151 (Nat.le_of_ble_eq_true rfl) ?_
    unfold abody
    simp only [absE, absL, absF, reduceCtorEq, ↓reduceIte, Nat.reduceEqDiff, Nat.reduceAdd, Nat.reduceLT, Nat.reduceMul, Nat.reduceSub, Nat.reduceLeDiff, Int.reduceLT, Int.reduceLE, Int.reduceEq, Option.isSome_some, implies_true, false_implies, Prod.mk.injEq, ne_eq, not_false_eq_true, not_true_eq_false, ge_iff_le, gt_iff_lt, Int.toNat_natCast, Int.reduceToNat, Int.cast_ofNat_Int, Int.natCast_nonneg, g1, wN, Try.f151]
    refine CallsVia.none (elements_ok N t hN) ?_
    rintro _ _ _ ⟨rfl, rfl, rfl⟩
    simp only [absE, absL, absF, reduceCtorEq, ↓reduceIte, Nat.reduceEqDiff, Nat.reduceAdd, Nat.reduceLT, Nat.reduceMul, Nat.reduceSub, Nat.reduceLeDiff, Int.reduceLT, Int.reduceLE, Int.reduceEq, Option.isSome_some, implies_true, false_implies, Prod.mk.injEq, ne_eq, not_false_eq_true, not_true_eq_false, ge_iff_le, gt_iff_lt, Int.toNat_natCast, Int.reduceToNat, Int.cast_ofNat_Int, Int.natCast_nonneg]
    have hd10 : d < N := by omega
    have ed : N - k = d + 1 := by omega
    rw [ed] at ih
    replace ih := ih (by omega)
    have hdi : (d : Int) < 10 := by omega
    have e1 : srA N (cl t) (ltB most) (k + 1) p u m L = srS (cl t) (ltB most) (srA N (cl t) (ltB most) k) d p u m N L := by rw [← hd]; rfl
    rw [e1]
    generalize hrec : srA N (cl t) (ltB most) k = rec at ih ⊢
    refine awpLoop.intro (fun s : Nat × Bool × List (List Int) × List Int => [(0, .i .u8 d), (1, .i .i64 U), (2, .i .i64 V), (3, .ref (.ptr 0 0 0 0)), (4, .ref (.ptr 0 1 0 0)), (5, .ref (.ptr 0 2 0 0)), (6, .ref (.ptr 0 3 0 0)), (23, .ref (.sl 8 0 0 0 N 1)), (24, .i .i64 N), (25, .i .i64 s.1)]) (fun s => ⟨[.lv true (sqS N t), .lv true [(0, .cells 1 [.fn 103 [(0, 4, 0, 0), (0, 5, 0, 0)]])], .lv true (plS s.2.2.2), .lv true [(0, .cells 1 [.fn 151 [(0, 0, 0, 0), (0, 1, 0, 0), (0, 2, 0, 0), (0, 3, 0, 0)]])], .lv true [(0, .cells 1 [fO s.2.1 s.2.2.1])], .lv true [(0, .ints .i64 1 [(most : Int)])], oA s.2.1 L], [((8, 0), .lv true ([(0, .ints .u8 N (bytesTo N))]))] ++ oB s.2.1 s.2.2.1, 60⟩)
      (fun s => s.1 ≤ N ∧ s.2.2.1 = srS (cl t) (ltB most) rec d p u m s.1 L ∧ (s.2.1 = false → s.2.2.1 = L) ∧ s.2.2.1.length < most ∧ (∀ z : Nat, s.2.2.2.set d (z : Int) = p.set d (z : Int)) ∧ s.2.2.2.length = 10) (fun s => N - s.1) (0, false, L, p) ⟨by simp, rfl, fun _ => rfl, hL, fun _ => rfl, hl1⟩ ⟨[((8,0),(8,0))], rfl, ?_, ?_⟩ ?_
    · simp [wkEnv, lk, renV, renAt, renTo, fO, oA, oB, renCaps, renAt]
    · simp [wkMem, wkLoc, Mem.get, assoc, renBlk, renSegs, renSg, renTo, fO, oA, oB, renCaps, renAt]
    · rintro ⟨x, c, L', p'⟩ ⟨hx, hL', hc, hl', hp', hpl⟩
      simp only at hx hL' hc hl' hp' hpl
      have hA' : AllPl N L' := by
        rw [hL']; exact srS_all (fun p u m L hp hL => by rw [← hrec]; exact srA_all hN (by omega) hp hL) (by omega) hp hA (by omega)
      cases c
      · have hcl : L' = L := hc rfl
        subst hcl
        by_cases h : (x : Int) < N
        · have w := wrap_i64s (show x < 2 ^ 62 by omega)
          have hgx : x < N := by omega
          have hj := hs.cl_lt hd10 hgx
          have b1 : (bytesTo N).getD (0 + x * 1) 0 = (x : Int) := by rw [Nat.zero_add, Nat.mul_one]; exact bytesTo_get (by omega)
          have v1 : 0 + x * 1 < N := by omega
          have i1 : (x : Int) < 10 := by omega
          have u1 : 0 + d * 10 + x * 1 < 100 := by omega
          have u4 : 0 + d * 1 < 10 := by omega
          have k1 := sq_colget ht d x
          have hU : U < 2 ^ 10 := hu.1
          have hV : V < 2 ^ 10 := hv.1
          have hlim : ltB most L'.length = true := decide_eq_true hl'
          simp only [absE, absL, absF, reduceCtorEq, ↓reduceIte, Nat.reduceEqDiff, Nat.reduceAdd, Nat.reduceLT, Nat.reduceMul, Nat.reduceSub, Nat.reduceLeDiff, Int.reduceLT, Int.reduceLE, Int.reduceEq, Option.isSome_some, implies_true, false_implies, Prod.mk.injEq, ne_eq, not_false_eq_true, not_true_eq_false, ge_iff_le, gt_iff_lt, Int.toNat_natCast, Int.reduceToNat, Int.cast_ofNat_Int, Int.natCast_nonneg, h, b1, v1, i1, hdi, u1, k1, fO, oA, oB]
          refine CallsVia.none (setHas_ok U x (by omega) (by omega)) ?_
          rintro _ _ _ ⟨rfl, rfl, rfl⟩
          rw [hu.2.2 x (by omega)]
          cases hu1 : u.getD x false
          · simp only [absE, absL, absF, reduceCtorEq, ↓reduceIte, Nat.reduceEqDiff, Nat.reduceAdd, Nat.reduceLT, Nat.reduceMul, Nat.reduceSub, Nat.reduceLeDiff, Int.reduceLT, Int.reduceLE, Int.reduceEq, Option.isSome_some, implies_true, false_implies, Prod.mk.injEq, ne_eq, not_false_eq_true, not_true_eq_false, ge_iff_le, gt_iff_lt, Int.toNat_natCast, Int.reduceToNat, Int.cast_ofNat_Int, Int.natCast_nonneg]
            refine CallsVia.none (setHas_ok V (cl t d x) (by omega) (by omega)) ?_
            rintro _ _ _ ⟨rfl, rfl, rfl⟩
            rw [hv.2.2 (cl t d x) (by omega)]
            cases hu2 : m.getD (cl t d x) false
            · have s3 : p'.set (0 + d * 1) (x : Int) = p.set d (x : Int) := by rw [Nat.zero_add, Nat.mul_one, hp']
              have wd := wrap_u8s (show d < 255 by omega)
              have q1 : (2 : Nat) ^ x < 2 ^ 10 := Nat.pow_lt_pow_right (by decide) (by omega)
              have q2 : (2 : Nat) ^ (cl t d x) < 2 ^ 10 := Nat.pow_lt_pow_right (by decide) (by omega)
              have t1 := wrap_shl (c := x) (by omega)
              have t2 := wrap_shl (c := cl t d x) (by omega)
              have o1 := wrap_or (a := U) (b := 2 ^ x) (by omega) (by omega)
              have o2 := wrap_or (a := V) (b := 2 ^ (cl t d x)) (by omega) (by omega)
              have hgo := srS_go (g := cl t) (rec := rec) (d := d) (p := p) (u := u) (m := m) (L := L') (x := x) (by rw [← hL']; exact hlim) hu1 hu2
              have hgo0 := hgo
              rw [← hL'] at hgo
              have hln : (rec (p.set d (x : Int)) (u.set x true) (m.set (cl t d x) true) L').length ≤ most := by
                have := srA_lim (N := N) (g := cl t) (k := k) (p := p.set d (x : Int)) (u := u.set x true) (m := m.set (cl t d x) true) (L := L') (most := most) hl'
                rw [← hrec]; exact this
              have hpp : ∀ z : Nat, (p.set d (x : Int)).set d (z : Int) = p.set d (z : Int) := fun z => by rw [List.set_set]
              have hz0 : ∀ z, d + 1 ≤ z → (p.set d (x : Int)).getD z 0 = 0 := fun z hz => by
                rw [getD_set_int (by rw [hl1]; omega), if_neg (by omega)]; exact hp0 z (by omega)
              simp only [absE, absL, absF, reduceCtorEq, ↓reduceIte, Nat.reduceEqDiff, Nat.reduceAdd, Nat.reduceLT, Nat.reduceMul, Nat.reduceSub, Nat.reduceLeDiff, Int.reduceLT, Int.reduceLE, Int.reduceEq, Option.isSome_some, implies_true, false_implies, Prod.mk.injEq, ne_eq, not_false_eq_true, not_true_eq_false, ge_iff_le, gt_iff_lt, Int.toNat_natCast, Int.reduceToNat, Int.cast_ofNat_Int, Int.natCast_nonneg, hdi, u4, s3, wd, t1, t2, o1, o2, fO, oA, oB]
              repeat first | refine And.intro (by decide +kernel) ?_ | refine And.intro (by omega) ?_
              refine CallsVia.args [(0, 0), (0, 1), (0, 2), (0, 3), (0, 4), (0, 5), (0, 6)] (ih (p.set d (x : Int)) (u.set x true) (m.set (cl t d x) true) (U ||| 2 ^ x) (V ||| 2 ^ (cl t d x)) L' (hp.set (by omega) (by omega)) hz0 (hu.set (by omega)) (hv.set (by omega)) hl' hA') (by simp) (by simp [Mem.get, assoc]) rfl rfl ?_
              rintro v ms ns ⟨p'', hpl'', hsamep, rfl, hcase⟩
              rcases hcase with ⟨hsame, rfl, rfl⟩ | ⟨rfl, rfl⟩
              · have hb : decide ((rec (p.set d (x : Int)) (u.set x true) (m.set (cl t d x) true) L').length = most) = false := decide_eq_false (by rw [hsame]; omega)
                obtain rfl := hsamep (by rw [hsame]; exact hl')
                simp only [absE, absL, absF, reduceCtorEq, ↓reduceIte, Nat.reduceEqDiff, Nat.reduceAdd, Nat.reduceLT, Nat.reduceMul, Nat.reduceSub, Nat.reduceLeDiff, Int.reduceLT, Int.reduceLE, Int.reduceEq, Option.isSome_some, implies_true, false_implies, Prod.mk.injEq, ne_eq, not_false_eq_true, not_true_eq_false, ge_iff_le, gt_iff_lt, Int.toNat_natCast, Int.reduceToNat, Int.cast_ofNat_Int, Int.natCast_nonneg, hb, fArgs, ceB, moB, plB]
                refine LoopNext.intro (x + 1, false, L', p.set d (x : Int)) ⟨by simp; omega, by rw [hgo, hsame], fun _ => rfl, hl', hpp, hpl''⟩ (by simp; omega) ⟨[((8,0),(8,0))], rfl, ?_, ?_⟩
                · simp [wkEnv, lk, renV, renAt, renTo, fO, oA, oB, w, renCaps, renAt, renOut, idx]
                · simp [wkMem, wkLoc, Mem.get, assoc, renBlk, renSegs, renSg, renTo, fO, oA, oB, w, renCaps, renAt, renOut, idx]
              · by_cases hfull : (rec (p.set d (x : Int)) (u.set x true) (m.set (cl t d x) true) L').length = most
                · have hb : decide ((rec (p.set d (x : Int)) (u.set x true) (m.set (cl t d x) true) L').length = most) = true := decide_eq_true hfull
                  have hst := srS_stop (g := cl t) (rec := rec) (lim := ltB most) (d := d) (p := p) (u := u) (m := m) (L := L') (x := x + 1) (by rw [hgo]; exact decide_eq_false (by omega)) (y := N) (by omega)
                  rw [hgo] at hst
                  simp only [absE, absL, absF, reduceCtorEq, ↓reduceIte, Nat.reduceEqDiff, Nat.reduceAdd, Nat.reduceLT, Nat.reduceMul, Nat.reduceSub, Nat.reduceLeDiff, Int.reduceLT, Int.reduceLE, Int.reduceEq, Option.isSome_some, implies_true, false_implies, Prod.mk.injEq, ne_eq, not_false_eq_true, not_true_eq_false, ge_iff_le, gt_iff_lt, Int.toNat_natCast, Int.reduceToNat, Int.cast_ofNat_Int, Int.natCast_nonneg, hb, fArgs, ceB, moB, plB, Try.results151]
                  refine ⟨[(96, 0)], by simp, by simp, p'', hpl'', fun hh => absurd hh (by rw [hst]; omega), by rw [hst]; simp [renV, hfull], .inr ⟨by rw [hst]; simp [fArgs, ceB, moB, plB, renBlk, renSegs, renSg, renAt, renOut, renCaps, renFin, idx], by rw [hst]; simp [plB, renBlk, renSegs, renSg, Mem.get, assoc]⟩⟩
                · have hb : decide ((rec (p.set d (x : Int)) (u.set x true) (m.set (cl t d x) true) L').length = most) = false := decide_eq_false hfull
                  obtain rfl := hsamep (by omega)
                  simp only [absE, absL, absF, reduceCtorEq, ↓reduceIte, Nat.reduceEqDiff, Nat.reduceAdd, Nat.reduceLT, Nat.reduceMul, Nat.reduceSub, Nat.reduceLeDiff, Int.reduceLT, Int.reduceLE, Int.reduceEq, Option.isSome_some, implies_true, false_implies, Prod.mk.injEq, ne_eq, not_false_eq_true, not_true_eq_false, ge_iff_le, gt_iff_lt, Int.toNat_natCast, Int.reduceToNat, Int.cast_ofNat_Int, Int.natCast_nonneg, hb, fArgs, ceB, moB, plB]
                  refine LoopNext.intro (x + 1, true, rec (p.set d (x : Int)) (u.set x true) (m.set (cl t d x) true) L', p.set d (x : Int)) ⟨by simp; omega, hgo.symm, by simp, by simp only; omega, hpp, hpl''⟩ (by simp; omega) ⟨[((8,0),(8,0)), ((96,0),(50,0))], rfl, ?_, ?_⟩
                  · simp [wkEnv, lk, renV, renAt, renTo, fO, oA, oB, w, renCaps, renAt, renOut, idx]
                  · simp [wkMem, wkLoc, Mem.get, assoc, renBlk, renSegs, renSg, renTo, fO, oA, oB, w, renCaps, renAt, renOut, idx]
            · simp only [absE, absL, absF, reduceCtorEq, ↓reduceIte, Nat.reduceEqDiff, Nat.reduceAdd, Nat.reduceLT, Nat.reduceMul, Nat.reduceSub, Nat.reduceLeDiff, Int.reduceLT, Int.reduceLE, Int.reduceEq, Option.isSome_some, implies_true, false_implies, Prod.mk.injEq, ne_eq, not_false_eq_true, not_true_eq_false, ge_iff_le, gt_iff_lt, Int.toNat_natCast, Int.reduceToNat, Int.cast_ofNat_Int, Int.natCast_nonneg, fO, oA, oB]
              refine LoopNext.intro (x + 1, false, L', p') ⟨by simp; omega, hL'.trans (srS_skip (.inr (.inr hu2))).symm, fun _ => rfl, hl', hp', hpl⟩ (by simp; omega) ⟨[((8,0),(8,0))], rfl, ?_, ?_⟩
              · simp [wkEnv, lk, renV, renAt, renTo, fO, oA, oB, w, renCaps, renAt]
              · simp [wkMem, wkLoc, Mem.get, assoc, renBlk, renSegs, renSg, renTo, fO, oA, oB, w, renCaps, renAt]
          · simp only [absE, absL, absF, reduceCtorEq, ↓reduceIte, Nat.reduceEqDiff, Nat.reduceAdd, Nat.reduceLT, Nat.reduceMul, Nat.reduceSub, Nat.reduceLeDiff, Int.reduceLT, Int.reduceLE, Int.reduceEq, Option.isSome_some, implies_true, false_implies, Prod.mk.injEq, ne_eq, not_false_eq_true, not_true_eq_false, ge_iff_le, gt_iff_lt, Int.toNat_natCast, Int.reduceToNat, Int.cast_ofNat_Int, Int.natCast_nonneg, fO, oA, oB]
            refine LoopNext.intro (x + 1, false, L', p') ⟨by simp; omega, hL'.trans (srS_skip (.inr (.inl hu1))).symm, fun _ => rfl, hl', hp', hpl⟩ (by simp; omega) ⟨[((8,0),(8,0))], rfl, ?_, ?_⟩
            · simp [wkEnv, lk, renV, renAt, renTo, fO, oA, oB, w, renCaps, renAt]
            · simp [wkMem, wkLoc, Mem.get, assoc, renBlk, renSegs, renSg, renTo, fO, oA, oB, w, renCaps, renAt]
        · obtain rfl : x = N := by omega
          have s0 : p'.set (0 + d * 1) (0 : Int) = p := by
            rw [Nat.zero_add, Nat.mul_one]; exact (hp' 0).trans (set_zero (hp0 d (Nat.le_refl d)))
          have u4 : 0 + d * 1 < 10 := by omega
          have hq := hL'.symm
          have hl2 : ¬L'.length = most := by omega
          simp only [absE, absL, absF, reduceCtorEq, ↓reduceIte, Nat.reduceEqDiff, Nat.reduceAdd, Nat.reduceLT, Nat.reduceMul, Nat.reduceSub, Nat.reduceLeDiff, Int.reduceLT, Int.reduceLE, Int.reduceEq, Option.isSome_some, implies_true, false_implies, Prod.mk.injEq, ne_eq, not_false_eq_true, not_true_eq_false, ge_iff_le, gt_iff_lt, Int.toNat_natCast, Int.reduceToNat, Int.cast_ofNat_Int, Int.natCast_nonneg, h, hdi, u4, s0, hq, fO, oA, oB, Try.results151]
          repeat first | refine And.intro (by decide +kernel) ?_ | refine And.intro (by omega) ?_
          refine ⟨[], by simp, by simp, p, hl1, fun _ => rfl, by simp [renV, hq, hl2], .inl ⟨hq, by simp [fArgs, ceB, moB, plB, renBlk, renSegs, renSg, renAt, renOut, renCaps, renFin, idx], by simp⟩⟩
      · by_cases h : (x : Int) < N
        · have w := wrap_i64s (show x < 2 ^ 62 by omega)
          have hgx : x < N := by omega
          have hj := hs.cl_lt hd10 hgx
          have b1 : (bytesTo N).getD (0 + x * 1) 0 = (x : Int) := by rw [Nat.zero_add, Nat.mul_one]; exact bytesTo_get (by omega)
          have v1 : 0 + x * 1 < N := by omega
          have i1 : (x : Int) < 10 := by omega
          have u1 : 0 + d * 10 + x * 1 < 100 := by omega
          have u4 : 0 + d * 1 < 10 := by omega
          have k1 := sq_colget ht d x
          have hU : U < 2 ^ 10 := hu.1
          have hV : V < 2 ^ 10 := hv.1
          have hlim : ltB most L'.length = true := decide_eq_true hl'
          simp only [absE, absL, absF, reduceCtorEq, ↓reduceIte, Nat.reduceEqDiff, Nat.reduceAdd, Nat.reduceLT, Nat.reduceMul, Nat.reduceSub, Nat.reduceLeDiff, Int.reduceLT, Int.reduceLE, Int.reduceEq, Option.isSome_some, implies_true, false_implies, Prod.mk.injEq, ne_eq, not_false_eq_true, not_true_eq_false, ge_iff_le, gt_iff_lt, Int.toNat_natCast, Int.reduceToNat, Int.cast_ofNat_Int, Int.natCast_nonneg, h, b1, v1, i1, hdi, u1, k1, fO, oA, oB]
          refine CallsVia.none (setHas_ok U x (by omega) (by omega)) ?_
          rintro _ _ _ ⟨rfl, rfl, rfl⟩
          rw [hu.2.2 x (by omega)]
          cases hu1 : u.getD x false
          · simp only [absE, absL, absF, reduceCtorEq, ↓reduceIte, Nat.reduceEqDiff, Nat.reduceAdd, Nat.reduceLT, Nat.reduceMul, Nat.reduceSub, Nat.reduceLeDiff, Int.reduceLT, Int.reduceLE, Int.reduceEq, Option.isSome_some, implies_true, false_implies, Prod.mk.injEq, ne_eq, not_false_eq_true, not_true_eq_false, ge_iff_le, gt_iff_lt, Int.toNat_natCast, Int.reduceToNat, Int.cast_ofNat_Int, Int.natCast_nonneg]
            refine CallsVia.none (setHas_ok V (cl t d x) (by omega) (by omega)) ?_
            rintro _ _ _ ⟨rfl, rfl, rfl⟩
            rw [hv.2.2 (cl t d x) (by omega)]
            cases hu2 : m.getD (cl t d x) false
            · have s3 : p'.set (0 + d * 1) (x : Int) = p.set d (x : Int) := by rw [Nat.zero_add, Nat.mul_one, hp']
              have wd := wrap_u8s (show d < 255 by omega)
              have q1 : (2 : Nat) ^ x < 2 ^ 10 := Nat.pow_lt_pow_right (by decide) (by omega)
              have q2 : (2 : Nat) ^ (cl t d x) < 2 ^ 10 := Nat.pow_lt_pow_right (by decide) (by omega)
              have t1 := wrap_shl (c := x) (by omega)
              have t2 := wrap_shl (c := cl t d x) (by omega)
              have o1 := wrap_or (a := U) (b := 2 ^ x) (by omega) (by omega)
              have o2 := wrap_or (a := V) (b := 2 ^ (cl t d x)) (by omega) (by omega)
              have hgo := srS_go (g := cl t) (rec := rec) (d := d) (p := p) (u := u) (m := m) (L := L) (x := x) (by rw [← hL']; exact hlim) hu1 hu2
              have hgo0 := hgo
              rw [← hL'] at hgo
              have hln : (rec (p.set d (x : Int)) (u.set x true) (m.set (cl t d x) true) L').length ≤ most := by
                have := srA_lim (N := N) (g := cl t) (k := k) (p := p.set d (x : Int)) (u := u.set x true) (m := m.set (cl t d x) true) (L := L') (most := most) hl'
                rw [← hrec]; exact this
              have hpp : ∀ z : Nat, (p.set d (x : Int)).set d (z : Int) = p.set d (z : Int) := fun z => by rw [List.set_set]
              have hz0 : ∀ z, d + 1 ≤ z → (p.set d (x : Int)).getD z 0 = 0 := fun z hz => by
                rw [getD_set_int (by rw [hl1]; omega), if_neg (by omega)]; exact hp0 z (by omega)
              simp only [absE, absL, absF, reduceCtorEq, ↓reduceIte, Nat.reduceEqDiff, Nat.reduceAdd, Nat.reduceLT, Nat.reduceMul, Nat.reduceSub, Nat.reduceLeDiff, Int.reduceLT, Int.reduceLE, Int.reduceEq, Option.isSome_some, implies_true, false_implies, Prod.mk.injEq, ne_eq, not_false_eq_true, not_true_eq_false, ge_iff_le, gt_iff_lt, Int.toNat_natCast, Int.reduceToNat, Int.cast_ofNat_Int, Int.natCast_nonneg, hdi, u4, s3, wd, t1, t2, o1, o2, fO, oA, oB]
              repeat first | refine And.intro (by decide +kernel) ?_ | refine And.intro (by omega) ?_
              refine CallsVia.args [(0, 0), (0, 1), (0, 2), (0, 3), (0, 4), (0, 5), (50, 0)] (ih (p.set d (x : Int)) (u.set x true) (m.set (cl t d x) true) (U ||| 2 ^ x) (V ||| 2 ^ (cl t d x)) L' (hp.set (by omega) (by omega)) hz0 (hu.set (by omega)) (hv.set (by omega)) hl' hA') (by simp) (by simp [Mem.get, assoc]) rfl rfl ?_
              rintro v ms ns ⟨p'', hpl'', hsamep, rfl, hcase⟩
              rcases hcase with ⟨hsame, rfl, rfl⟩ | ⟨rfl, rfl⟩
              · have hb : decide ((rec (p.set d (x : Int)) (u.set x true) (m.set (cl t d x) true) L').length = most) = false := decide_eq_false (by rw [hsame]; omega)
                obtain rfl := hsamep (by rw [hsame]; exact hl')
                simp only [absE, absL, absF, reduceCtorEq, ↓reduceIte, Nat.reduceEqDiff, Nat.reduceAdd, Nat.reduceLT, Nat.reduceMul, Nat.reduceSub, Nat.reduceLeDiff, Int.reduceLT, Int.reduceLE, Int.reduceEq, Option.isSome_some, implies_true, false_implies, Prod.mk.injEq, ne_eq, not_false_eq_true, not_true_eq_false, ge_iff_le, gt_iff_lt, Int.toNat_natCast, Int.reduceToNat, Int.cast_ofNat_Int, Int.natCast_nonneg, hb, fArgs, ceB, moB, plB]
                refine LoopNext.intro (x + 1, true, L', p.set d (x : Int)) ⟨by simp; omega, by rw [hgo, hsame], by simp, hl', hpp, hpl''⟩ (by simp; omega) ⟨[((8,0),(8,0)), ((50,0),(50,0))], rfl, ?_, ?_⟩
                · simp [wkEnv, lk, renV, renAt, renTo, fO, oA, oB, w, renCaps, renAt, renOut, idx]
                · simp [wkMem, wkLoc, Mem.get, assoc, renBlk, renSegs, renSg, renTo, fO, oA, oB, w, renCaps, renAt, renOut, idx]
              · by_cases hfull : (rec (p.set d (x : Int)) (u.set x true) (m.set (cl t d x) true) L').length = most
                · have hb : decide ((rec (p.set d (x : Int)) (u.set x true) (m.set (cl t d x) true) L').length = most) = true := decide_eq_true hfull
                  have hst := srS_stop (g := cl t) (rec := rec) (lim := ltB most) (d := d) (p := p) (u := u) (m := m) (L := L) (x := x + 1) (by rw [hgo]; exact decide_eq_false (by omega)) (y := N) (by omega)
                  rw [hgo] at hst
                  simp only [absE, absL, absF, reduceCtorEq, ↓reduceIte, Nat.reduceEqDiff, Nat.reduceAdd, Nat.reduceLT, Nat.reduceMul, Nat.reduceSub, Nat.reduceLeDiff, Int.reduceLT, Int.reduceLE, Int.reduceEq, Option.isSome_some, implies_true, false_implies, Prod.mk.injEq, ne_eq, not_false_eq_true, not_true_eq_false, ge_iff_le, gt_iff_lt, Int.toNat_natCast, Int.reduceToNat, Int.cast_ofNat_Int, Int.natCast_nonneg, hb, fArgs, ceB, moB, plB, Try.results151]
                  refine ⟨[(96, 0)], by simp, by simp, p'', hpl'', fun hh => absurd hh (by rw [hst]; omega), by rw [hst]; simp [renV, hfull], .inr ⟨by rw [hst]; simp [fArgs, ceB, moB, plB, renBlk, renSegs, renSg, renAt, renOut, renCaps, renFin, idx], by rw [hst]; simp [plB, renBlk, renSegs, renSg, Mem.get, assoc]⟩⟩
                · have hb : decide ((rec (p.set d (x : Int)) (u.set x true) (m.set (cl t d x) true) L').length = most) = false := decide_eq_false hfull
                  obtain rfl := hsamep (by omega)
                  simp only [absE, absL, absF, reduceCtorEq, ↓reduceIte, Nat.reduceEqDiff, Nat.reduceAdd, Nat.reduceLT, Nat.reduceMul, Nat.reduceSub, Nat.reduceLeDiff, Int.reduceLT, Int.reduceLE, Int.reduceEq, Option.isSome_some, implies_true, false_implies, Prod.mk.injEq, ne_eq, not_false_eq_true, not_true_eq_false, ge_iff_le, gt_iff_lt, Int.toNat_natCast, Int.reduceToNat, Int.cast_ofNat_Int, Int.natCast_nonneg, hb, fArgs, ceB, moB, plB]
                  refine LoopNext.intro (x + 1, true, rec (p.set d (x : Int)) (u.set x true) (m.set (cl t d x) true) L', p.set d (x : Int)) ⟨by simp; omega, hgo.symm, by simp, by simp only; omega, hpp, hpl''⟩ (by simp; omega) ⟨[((8,0),(8,0)), ((96,0),(50,0))], rfl, ?_, ?_⟩
                  · simp [wkEnv, lk, renV, renAt, renTo, fO, oA, oB, w, renCaps, renAt, renOut, idx]
                  · simp [wkMem, wkLoc, Mem.get, assoc, renBlk, renSegs, renSg, renTo, fO, oA, oB, w, renCaps, renAt, renOut, idx]
            · simp only [absE, absL, absF, reduceCtorEq, ↓reduceIte, Nat.reduceEqDiff, Nat.reduceAdd, Nat.reduceLT, Nat.reduceMul, Nat.reduceSub, Nat.reduceLeDiff, Int.reduceLT, Int.reduceLE, Int.reduceEq, Option.isSome_some, implies_true, false_implies, Prod.mk.injEq, ne_eq, not_false_eq_true, not_true_eq_false, ge_iff_le, gt_iff_lt, Int.toNat_natCast, Int.reduceToNat, Int.cast_ofNat_Int, Int.natCast_nonneg, fO, oA, oB]
              refine LoopNext.intro (x + 1, true, L', p') ⟨by simp; omega, hL'.trans (srS_skip (.inr (.inr hu2))).symm, by simp, hl', hp', hpl⟩ (by simp; omega) ⟨[((8,0),(8,0)), ((50,0),(50,0))], rfl, ?_, ?_⟩
              · simp [wkEnv, lk, renV, renAt, renTo, fO, oA, oB, w, renCaps, renAt]
              · simp [wkMem, wkLoc, Mem.get, assoc, renBlk, renSegs, renSg, renTo, fO, oA, oB, w, renCaps, renAt]
          · simp only [absE, absL, absF, reduceCtorEq, ↓reduceIte, Nat.reduceEqDiff, Nat.reduceAdd, Nat.reduceLT, Nat.reduceMul, Nat.reduceSub, Nat.reduceLeDiff, Int.reduceLT, Int.reduceLE, Int.reduceEq, Option.isSome_some, implies_true, false_implies, Prod.mk.injEq, ne_eq, not_false_eq_true, not_true_eq_false, ge_iff_le, gt_iff_lt, Int.toNat_natCast, Int.reduceToNat, Int.cast_ofNat_Int, Int.natCast_nonneg, fO, oA, oB]
            refine LoopNext.intro (x + 1, true, L', p') ⟨by simp; omega, hL'.trans (srS_skip (.inr (.inl hu1))).symm, by simp, hl', hp', hpl⟩ (by simp; omega) ⟨[((8,0),(8,0)), ((50,0),(50,0))], rfl, ?_, ?_⟩
            · simp [wkEnv, lk, renV, renAt, renTo, fO, oA, oB, w, renCaps, renAt]
            · simp [wkMem, wkLoc, Mem.get, assoc, renBlk, renSegs, renSg, renTo, fO, oA, oB, w, renCaps, renAt]
        · obtain rfl : x = N := by omega
          have s0 : p'.set (0 + d * 1) (0 : Int) = p := by
            rw [Nat.zero_add, Nat.mul_one]; exact (hp' 0).trans (set_zero (hp0 d (Nat.le_refl d)))
          have u4 : 0 + d * 1 < 10 := by omega
          have hq := hL'.symm
          have hl2 : ¬L'.length = most := by omega
          simp only [absE, absL, absF, reduceCtorEq, ↓reduceIte, Nat.reduceEqDiff, Nat.reduceAdd, Nat.reduceLT, Nat.reduceMul, Nat.reduceSub, Nat.reduceLeDiff, Int.reduceLT, Int.reduceLE, Int.reduceEq, Option.isSome_some, implies_true, false_implies, Prod.mk.injEq, ne_eq, not_false_eq_true, not_true_eq_false, ge_iff_le, gt_iff_lt, Int.toNat_natCast, Int.reduceToNat, Int.cast_ofNat_Int, Int.natCast_nonneg, h, hdi, u4, s0, hq, fO, oA, oB, Try.results151]
          repeat first | refine And.intro (by decide +kernel) ?_ | refine And.intro (by omega) ?_
          refine ⟨[(50, 0)], by simp, by simp, p, hl1, fun _ => rfl, by simp [renV, hq, hl2], .inr ⟨by simp [hq, fArgs, ceB, moB, plB, renBlk, renSegs, renSg, renAt, renOut, renCaps, renFin, idx], by simp [hq, plB, renBlk, renSegs, renSg, Mem.get, assoc]⟩⟩

end Go.Proofs.Ytoccbgffekhcaaa
