/-
Contracts of functions of the given program, by the abstract walk.
-/
import Derived.Test.YtcaadjjgggjefaaAbsY
import Derived.Test.YtcaadjjgggjefaaHa
namespace Go.Proofs.Ytcaadjjgggjefaa
open Go Go.Abs
set_option linter.unusedVariables false
set_option linter.unusedSectionVars false
set_option linter.unusedSimpArgs false
set_option maxRecDepth 100000
def opC (j : Nat) : Int := if j = 0 then 42 else if j = 1 then 92 else 47
def opz (N : Nat) (t : List Int) (x y j : Nat) : Nat := applyN N t (opC j) x y
noncomputable def genL (N : Nat) (t : List Int) (S : Nat → Prop) : List Bool := (List.range 10).map (genB N t S)
theorem genL_get {N : Nat} {t : List Int} {S : Nat → Prop} {z : Nat} (hz : z < 10) : (genL N t S).getD z false = genB N t S z := by simp [genL, hz]
theorem boolsExt {a b : List Bool} (h : a.length = b.length) (he : ∀ i, i < a.length → a.getD i false = b.getD i false) : a = b := by
  apply List.ext_getElem h
  intro i h1 h2
  have := he i h1
  simpa [h1, h2] using this
theorem count_lt {m : List Bool} {i : Nat} (h : i < m.length) (hb : m.getD i false = false) : (m.set i true).count false < m.count false := by
  have h2 : m[i] = false := by simpa [h] using hb
  rw [List.count_set h]
  have h3 : 0 < m.count false := List.count_pos_iff.2 (h2 ▸ List.getElem_mem h)
  simp [h2]
  omega
theorem getD_lt {m : List Bool} {i : Nat} (h : m.getD i false = true) : i < m.length := by
  apply Decidable.byContradiction; intro hn
  have : m.getD i false = false := by simp [show m.length ≤ i by omega]
  rw [this] at h; cases h
/-- What a pass over the pairs knows: the marks hold nothing but what is generated; 'ch' tells whether the pass began with fewer. -/
structure Pass (N : Nat) (t : List Int) (S : Nat → Prop) (m0 m : List Bool) (ch : Bool) : Prop where
  len : m.length = 10
  zero : m.getD 0 false = true
  base : ∀ z, S z → m.getD z false = true
  gen : ∀ z, m.getD z false = true → Gen N t S z
  same : ch = false → m = m0
  more : ch = true → m.count false < m0.count false
  le : m.count false ≤ m0.count false
def CloB (N : Nat) (t : List Int) (m : List Bool) (x y : Nat) : Prop := ∀ j, j < 3 → m.getD (opz N t x y j) false = true
theorem Pass.put {N : Nat} {t : List Int} {S : Nat → Prop} {m0 m : List Bool} {ch : Bool} {z : Nat} (h : Pass N t S m0 m ch) (hz : z < 10) (hn : m.getD z false = false) (hg : Gen N t S z) : Pass N t S m0 (m.set z true) true := by
  have hl := h.len
  have hc := count_lt (m := m) (i := z) (by omega) hn
  have hle := h.le
  refine ⟨by simpa using hl, ?_, fun w hw => ?_, fun w hw => ?_, fun e => (by cases e), fun _ => by omega, by omega⟩
  · rw [getD_setb (by omega)]; split
    · rfl
    · exact h.zero
  · rw [getD_setb (by omega)]; split
    · rfl
    · exact h.base w hw
  · rw [getD_setb (by omega)] at hw
    split at hw
    · rename_i e; subst e; exact hg
    · exact h.gen w hw
theorem opz_gen {N : Nat} {t : List Int} {S : Nat → Prop} {x y j : Nat} (hx : Gen N t S x) (hy : Gen N t S y) : Gen N t S (opz N t x y j) := by
  unfold opz opC
  by_cases h0 : j = 0
  · rw [if_pos h0, applyN, if_pos rfl]; exact .mul hx hy
  · rw [if_neg h0]
    by_cases h1 : j = 1
    · rw [if_pos h1, applyN, if_neg (by decide), if_neg (by decide)]; exact .ldiv hx hy
    · rw [if_neg h1, applyN, if_neg (by decide), if_pos rfl]; exact .rdiv hx hy
set_option maxHeartbeats 1600000 in
theorem l05Close_ok (N : Nat) (t : List Int) (m0 : List Bool) (S : Nat → Prop) (ht : Bytes 100 t) (hs : SqP N t) (hl0 : m0.length = 10) (hS0 : ∀ z, m0.getD z false = true ↔ S z) (hS : ∀ z, S z → z < N) :
    ACalls Try.prog 90 [.agg (sqS N t), .agg [(0, .bools 10 m0)]] [] (fun v ms ns => v = .agg [(0, .bools 10 (genL N t S))] ∧ ms = [] ∧ ns = []) := by
  have hN := hs.le
  have hpos := hs.pos
  have w8 := wrap_u8n (show N < 256 by omega)
  have hstart : ∀ z, (m0.set 0 true).getD z false = true ↔ 0 = z ∨ S z := fun z => by
    rw [getD_setb (by omega)]
    by_cases e : 0 = z
    · rw [if_pos e]; exact ⟨fun _ => .inl e, fun _ => rfl⟩
    · rw [if_neg e, hS0]; exact ⟨.inr, fun h => h.resolve_left e⟩
  refine acalls_of_body mix Try.func90 rfl fok90 (Nat.le_of_ble_eq_true rfl) ?_
  unfold abody
  simp only [absE, absL, absF, reduceCtorEq, ↓reduceIte, Nat.reduceEqDiff, Nat.reduceAdd, Nat.reduceLT, Nat.reduceMul, Nat.reduceSub, Nat.reduceLeDiff, Int.reduceLT, Int.reduceLE, Int.reduceEq, Option.isSome_some, implies_true, false_implies, Prod.mk.injEq, ne_eq, not_false_eq_true, not_true_eq_false, ge_iff_le, gt_iff_lt, Int.toNat_natCast, Int.reduceToNat, Int.cast_ofNat_Int, Int.natCast_nonneg, w8, Try.f90]
  refine awpLoop.intro (fun a : List Bool × Bool => [(2, .ref (.ptr 1 0 0 0)), (3, .ref (.ptr 2 0 0 0)), (4, .ref (.ptr 3 0 0 0)), (5, .i .u8 N), (6, .b a.2)]) (fun a => ⟨[], [((1, 0), .lv true (sqS N t)), ((2, 0), .lv true ([(0, .bools 10 a.1)])), ((3, 0), .lv true ([(0, .bools 10 (List.replicate 10 false))]))], 11⟩)
    (fun a => (a.1.length = 10 ∧ a.1.getD 0 false = true ∧ (∀ z, S z → a.1.getD z false = true) ∧ ∀ z, a.1.getD z false = true → Gen N t S z) ∧ (a.2 = false → ∀ x y, x < N → y < N → a.1.getD x false = true → a.1.getD y false = true → CloB N t a.1 x y)) (fun a => a.1.count false + (if a.2 = true then 1 else 0)) (m0.set 0 true, true)
    ⟨⟨by simpa using hl0, (hstart 0).2 (.inl rfl), fun z hz => (hstart z).2 (.inr hz), fun z hz => ?_⟩, fun e => (by cases e)⟩ ⟨[((1,0),(1,0)), ((2,0),(2,0)), ((3,0),(3,0))], rfl, ?_, ?_⟩ ?_
  · rcases (hstart z).1 hz with h | h
    · subst h; exact .zero
    · exact .base h
  · simp [wkEnv, lk, renV, renAt, renTo]
  · simp [wkMem, wkLoc, Mem.get, assoc, renBlk, renSegs, renSg, renTo]
  · rintro ⟨m, ch⟩ ⟨⟨g1, g2, g3, g4⟩, g5⟩
    simp only at g1 g2 g3 g4 g5
    cases ch
    · simp only [absE, absL, absF, reduceCtorEq, ↓reduceIte, Nat.reduceEqDiff, Nat.reduceAdd, Nat.reduceLT, Nat.reduceMul, Nat.reduceSub, Nat.reduceLeDiff, Int.reduceLT, Int.reduceLE, Int.reduceEq, Option.isSome_some, implies_true, false_implies, Prod.mk.injEq, ne_eq, not_false_eq_true, not_true_eq_false, ge_iff_le, gt_iff_lt, Int.toNat_natCast, Int.reduceToNat, Int.cast_ofNat_Int, Int.natCast_nonneg, Try.results90]
      have hin : ∀ z, m.getD z false = true → z < N := fun z hz => Gen.lt hs hS (g4 z hz)
      have hall : ∀ z, Gen N t S z → m.getD z false = true := fun z hz => Gen.sub (P := fun z => m.getD z false = true) hz g2 g3 fun a b ha hb => by
        have hc := g5 rfl a b (hin a ha) (hin b hb) ha hb
        exact ⟨by simpa [opz, opC, applyN] using hc 0 (by omega), by simpa [opz, opC, applyN] using hc 1 (by omega), by simpa [opz, opC, applyN] using hc 2 (by omega)⟩
      have e : m = genL N t S := boolsExt (by simp [g1, genL]) fun i hi => by
        rw [genL_get (by omega), Bool.eq_iff_iff, genB_iff]
        exact ⟨g4 i, hall i⟩
      exact ⟨[], by simp, by simp, by simp [renV, renVs, renSegs, renSg, ← e]⟩
    · simp only [absE, absL, absF, reduceCtorEq, ↓reduceIte, Nat.reduceEqDiff, Nat.reduceAdd, Nat.reduceLT, Nat.reduceMul, Nat.reduceSub, Nat.reduceLeDiff, Int.reduceLT, Int.reduceLE, Int.reduceEq, Option.isSome_some, implies_true, false_implies, Prod.mk.injEq, ne_eq, not_false_eq_true, not_true_eq_false, ge_iff_le, gt_iff_lt, Int.toNat_natCast, Int.reduceToNat, Int.cast_ofNat_Int, Int.natCast_nonneg]
      refine awpLoop.intro (fun a : Nat × List Bool × Bool => [(2, .ref (.ptr 1 0 0 0)), (3, .ref (.ptr 2 0 0 0)), (4, .ref (.ptr 3 0 0 0)), (5, .i .u8 N), (6, .b a.2.2), (7, .i .u8 a.1)]) (fun a => ⟨[], [((1, 0), .lv true (sqS N t)), ((2, 0), .lv true ([(0, .bools 10 a.2.1)])), ((3, 0), .lv true ([(0, .bools 10 (List.replicate 10 false))]))], 14⟩)
        (fun a => a.1 ≤ N ∧ Pass N t S m a.2.1 a.2.2 ∧ (a.2.2 = false → ∀ x y, x < a.1 → y < N → m.getD x false = true → m.getD y false = true → CloB N t m x y)) (fun a => N - a.1) (0, m, false)
        ⟨by simp, ⟨g1, g2, g3, g4, fun _ => rfl, fun e => (by cases e), Nat.le_refl _⟩, fun _ x y hx => absurd hx (by simp)⟩ ⟨[((1,0),(1,0)), ((2,0),(2,0)), ((3,0),(3,0))], rfl, ?_, ?_⟩ ?_
      · simp [wkEnv, lk, renV, renAt, renTo]
      · simp [wkMem, wkLoc, Mem.get, assoc, renBlk, renSegs, renSg, renTo]
      · rintro ⟨x, m1, c1⟩ ⟨hx, p1, q1⟩
        simp only at hx p1 q1
        by_cases h : (x : Int) < N
        · have w := wrap_u8s (show x < 255 by omega)
          simp only [absE, absL, absF, reduceCtorEq, ↓reduceIte, Nat.reduceEqDiff, Nat.reduceAdd, Nat.reduceLT, Nat.reduceMul, Nat.reduceSub, Nat.reduceLeDiff, Int.reduceLT, Int.reduceLE, Int.reduceEq, Option.isSome_some, implies_true, false_implies, Prod.mk.injEq, ne_eq, not_false_eq_true, not_true_eq_false, ge_iff_le, gt_iff_lt, Int.toNat_natCast, Int.reduceToNat, Int.cast_ofNat_Int, Int.natCast_nonneg, h]
          refine awpLoop.intro (fun a : Nat × List Bool × Bool => [(2, .ref (.ptr 1 0 0 0)), (3, .ref (.ptr 2 0 0 0)), (4, .ref (.ptr 3 0 0 0)), (5, .i .u8 N), (6, .b a.2.2), (7, .i .u8 x), (8, .i .u8 a.1)]) (fun a => ⟨[], [((1, 0), .lv true (sqS N t)), ((2, 0), .lv true ([(0, .bools 10 a.2.1)])), ((3, 0), .lv true ([(0, .bools 10 (List.replicate 10 false))]))], 18⟩)
            (fun a => a.1 ≤ N ∧ Pass N t S m a.2.1 a.2.2 ∧ (a.2.2 = false → (∀ x' y, x' < x → y < N → m.getD x' false = true → m.getD y false = true → CloB N t m x' y) ∧ ∀ y, y < a.1 → m.getD x false = true → m.getD y false = true → CloB N t m x y)) (fun a => N - a.1) (0, m1, c1)
            ⟨by simp, p1, fun e => ⟨q1 e, fun y hy => absurd hy (by simp)⟩⟩ ⟨[((1,0),(1,0)), ((2,0),(2,0)), ((3,0),(3,0))], rfl, ?_, ?_⟩ ?_
          · simp [wkEnv, lk, renV, renAt, renTo]
          · simp [wkMem, wkLoc, Mem.get, assoc, renBlk, renSegs, renSg, renTo]
          · rintro ⟨y, m2, c2⟩ ⟨hy, p2, q2⟩
            simp only at hy p2 q2
            by_cases h' : (y : Int) < N
            · have w' := wrap_u8s (show y < 255 by omega)
              have i1 : (x : Int) < 10 := by omega
              have i2 : (y : Int) < 10 := by omega
              have u1 : 0 + x * 1 < 10 := by omega
              have u2 : 0 + y * 1 < 10 := by omega
              have e1 : m2.getD (0 + x * 1) false = m2.getD x false := by rw [Nat.zero_add, Nat.mul_one]
              have e2 : m2.getD (0 + y * 1) false = m2.getD y false := by rw [Nat.zero_add, Nat.mul_one]
              cases hbx : m2.getD x false
              · simp only [absE, absL, absF, reduceCtorEq, ↓reduceIte, Nat.reduceEqDiff, Nat.reduceAdd, Nat.reduceLT, Nat.reduceMul, Nat.reduceSub, Nat.reduceLeDiff, Int.reduceLT, Int.reduceLE, Int.reduceEq, Option.isSome_some, implies_true, false_implies, Prod.mk.injEq, ne_eq, not_false_eq_true, not_true_eq_false, ge_iff_le, gt_iff_lt, Int.toNat_natCast, Int.reduceToNat, Int.cast_ofNat_Int, Int.natCast_nonneg, h', i1, i2, u1, u2, e1, e2, hbx]
                refine LoopNext.intro (y + 1, m2, c2) ⟨by simp only; omega, p2, fun e => ⟨(q2 e).1, fun y' hy' h1 h2 => ?_⟩⟩ (by simp only; omega) ⟨[((1,0),(1,0)), ((2,0),(2,0)), ((3,0),(3,0))], rfl, ?_, ?_⟩
                · rw [← p2.same e, hbx] at h1; cases h1
                · simp [wkEnv, lk, renV, renAt, renTo, w']
                · simp [wkMem, wkLoc, Mem.get, assoc, renBlk, renSegs, renSg, renTo, w']
              · cases hby : m2.getD y false
                · simp only [absE, absL, absF, reduceCtorEq, ↓reduceIte, Nat.reduceEqDiff, Nat.reduceAdd, Nat.reduceLT, Nat.reduceMul, Nat.reduceSub, Nat.reduceLeDiff, Int.reduceLT, Int.reduceLE, Int.reduceEq, Option.isSome_some, implies_true, false_implies, Prod.mk.injEq, ne_eq, not_false_eq_true, not_true_eq_false, ge_iff_le, gt_iff_lt, Int.toNat_natCast, Int.reduceToNat, Int.cast_ofNat_Int, Int.natCast_nonneg, h', i1, i2, u1, u2, e1, e2, hbx, hby]
                  refine LoopNext.intro (y + 1, m2, c2) ⟨by simp only; omega, p2, fun e => ⟨(q2 e).1, fun y' hy' h1 h2 => ?_⟩⟩ (by simp only; omega) ⟨[((1,0),(1,0)), ((2,0),(2,0)), ((3,0),(3,0))], rfl, ?_, ?_⟩
                  · by_cases ey : y' = y
                    · subst ey; rw [← p2.same e, hby] at h2; cases h2
                    · exact (q2 e).2 y' (by simp only at hy'; omega) h1 h2
                  · simp [wkEnv, lk, renV, renAt, renTo, w']
                  · simp [wkMem, wkLoc, Mem.get, assoc, renBlk, renSegs, renSg, renTo, w']
                · have hxg := p2.gen x hbx
                  have hyg := p2.gen y hby
                  simp only [absE, absL, absF, reduceCtorEq, ↓reduceIte, Nat.reduceEqDiff, Nat.reduceAdd, Nat.reduceLT, Nat.reduceMul, Nat.reduceSub, Nat.reduceLeDiff, Int.reduceLT, Int.reduceLE, Int.reduceEq, Option.isSome_some, implies_true, false_implies, Prod.mk.injEq, ne_eq, not_false_eq_true, not_true_eq_false, ge_iff_le, gt_iff_lt, Int.toNat_natCast, Int.reduceToNat, Int.cast_ofNat_Int, Int.natCast_nonneg, h', i1, i2, u1, u2, e1, e2, hbx, hby]
                  refine awpLoop.intro (fun a : Nat × List Bool × Bool => [(2, .ref (.ptr 1 0 0 0)), (3, .ref (.ptr 2 0 0 0)), (4, .ref (.ptr 3 0 0 0)), (5, .i .u8 N), (6, .b a.2.2), (7, .i .u8 x), (8, .i .u8 y), (9, .i .i64 a.1)]) (fun a => ⟨[], [((1, 0), .lv true (sqS N t)), ((2, 0), .lv true ([(0, .bools 10 a.2.1)])), ((3, 0), .lv true ([(0, .bools 10 (List.replicate 10 false))]))], 32⟩)
                    (fun a => a.1 ≤ 3 ∧ Pass N t S m a.2.1 a.2.2 ∧ (a.2.2 = false → c2 = false ∧ ∀ j, j < a.1 → m.getD (opz N t x y j) false = true)) (fun a => 3 - a.1) (0, m2, c2)
                    ⟨by simp, p2, fun e => ⟨e, fun j hj => absurd hj (by simp)⟩⟩ ⟨[((1,0),(1,0)), ((2,0),(2,0)), ((3,0),(3,0))], rfl, ?_, ?_⟩ ?_
                  · simp [wkEnv, lk, renV, renAt, renTo]
                  · simp [wkMem, wkLoc, Mem.get, assoc, renBlk, renSegs, renSg, renTo]
                  · rintro ⟨k, m3, c3⟩ ⟨hk, p3, q3⟩
                    simp only at hk p3 q3
                    by_cases h3 : k < 3
                    · have hz := applyN_lt hs (k := opC k) (show x < N by omega) (show y < N by omega)
                      have iz : (opz N t x y k : Int) < 10 := by unfold opz; omega
                      have uz : 0 + opz N t x y k * 1 < 10 := by unfold opz; omega
                      have ez : m3.getD (0 + opz N t x y k * 1) false = m3.getD (opz N t x y k) false := by rw [Nat.zero_add, Nat.mul_one]
                      have es : m3.set (0 + opz N t x y k * 1) true = m3.set (opz N t x y k) true := by rw [Nat.zero_add, Nat.mul_one]
                      have g3' : (k : Int) < 3 := by omega
                      have w3 := wrap_i64s (show k < 2 ^ 62 by omega)
                      have hop := l03Apply_ok N t (opC k) x y ht hs (by omega) (by omega)
                      rw [show applyN N t (opC k) x y = opz N t x y k from rfl] at hop
                      rcases (show k = 0 ∨ k = 1 ∨ k = 2 by omega) with rfl | rfl | rfl
                      · rw [show opC 0 = (((#[42, 92, 47] : Array UInt8).getD 0 0).toNat : Int) from by decide] at hop
                        simp only [absE, absL, absF, reduceCtorEq, ↓reduceIte, Nat.reduceEqDiff, Nat.reduceAdd, Nat.reduceLT, Nat.reduceMul, Nat.reduceSub, Nat.reduceLeDiff, Int.reduceLT, Int.reduceLE, Int.reduceEq, Option.isSome_some, implies_true, false_implies, Prod.mk.injEq, ne_eq, not_false_eq_true, not_true_eq_false, ge_iff_le, gt_iff_lt, Int.toNat_natCast, Int.reduceToNat, Int.cast_ofNat_Int, Int.natCast_nonneg, g3']
                        refine ⟨by decide, ?_⟩
                        refine CallsX.none hop ?_
                        cases hbz : m3.getD (opz N t x y 0) false
                        · simp only [absE, absL, absF, reduceCtorEq, ↓reduceIte, Nat.reduceEqDiff, Nat.reduceAdd, Nat.reduceLT, Nat.reduceMul, Nat.reduceSub, Nat.reduceLeDiff, Int.reduceLT, Int.reduceLE, Int.reduceEq, Option.isSome_some, implies_true, false_implies, Prod.mk.injEq, ne_eq, not_false_eq_true, not_true_eq_false, ge_iff_le, gt_iff_lt, Int.toNat_natCast, Int.reduceToNat, Int.cast_ofNat_Int, Int.natCast_nonneg, iz, uz, ez, es, hbz, w3]
                          refine ⟨by omega, ?_⟩
                          refine LoopNext.intro (0 + 1, m3.set (opz N t x y 0) true, true) ⟨by simp only; omega, p3.put (by unfold opz; omega) hbz (opz_gen hxg hyg), fun e => (by cases e)⟩ (by simp only; omega) ⟨[((1,0),(1,0)), ((2,0),(2,0)), ((3,0),(3,0))], rfl, ?_, ?_⟩
                          · simp [wkEnv, lk, renV, renAt, renTo, es, show IntKind.i64.wrap 1 = 1 from rfl, show IntKind.i64.wrap 2 = 2 from rfl, show IntKind.i64.wrap 3 = 3 from rfl]
                          · simp [wkMem, wkLoc, Mem.get, assoc, renBlk, renSegs, renSg, renTo, es, show IntKind.i64.wrap 1 = 1 from rfl, show IntKind.i64.wrap 2 = 2 from rfl, show IntKind.i64.wrap 3 = 3 from rfl]
                        · simp only [absE, absL, absF, reduceCtorEq, ↓reduceIte, Nat.reduceEqDiff, Nat.reduceAdd, Nat.reduceLT, Nat.reduceMul, Nat.reduceSub, Nat.reduceLeDiff, Int.reduceLT, Int.reduceLE, Int.reduceEq, Option.isSome_some, implies_true, false_implies, Prod.mk.injEq, ne_eq, not_false_eq_true, not_true_eq_false, ge_iff_le, gt_iff_lt, Int.toNat_natCast, Int.reduceToNat, Int.cast_ofNat_Int, Int.natCast_nonneg, iz, uz, ez, es, hbz, w3]
                          refine LoopNext.intro (0 + 1, m3, c3) ⟨by simp only; omega, p3, fun e => ⟨(q3 e).1, fun j hj => ?_⟩⟩ (by simp only; omega) ⟨[((1,0),(1,0)), ((2,0),(2,0)), ((3,0),(3,0))], rfl, ?_, ?_⟩
                          · by_cases ej : j = 0
                            · subst ej; rw [← p3.same e]; exact hbz
                            · exact (q3 e).2 j (by simp only at hj; omega)
                          · simp [wkEnv, lk, renV, renAt, renTo, show IntKind.i64.wrap 1 = 1 from rfl, show IntKind.i64.wrap 2 = 2 from rfl, show IntKind.i64.wrap 3 = 3 from rfl]
                          · simp [wkMem, wkLoc, Mem.get, assoc, renBlk, renSegs, renSg, renTo, show IntKind.i64.wrap 1 = 1 from rfl, show IntKind.i64.wrap 2 = 2 from rfl, show IntKind.i64.wrap 3 = 3 from rfl]
                      · rw [show opC 1 = (((#[42, 92, 47] : Array UInt8).getD 1 0).toNat : Int) from by decide] at hop
                        simp only [absE, absL, absF, reduceCtorEq, ↓reduceIte, Nat.reduceEqDiff, Nat.reduceAdd, Nat.reduceLT, Nat.reduceMul, Nat.reduceSub, Nat.reduceLeDiff, Int.reduceLT, Int.reduceLE, Int.reduceEq, Option.isSome_some, implies_true, false_implies, Prod.mk.injEq, ne_eq, not_false_eq_true, not_true_eq_false, ge_iff_le, gt_iff_lt, Int.toNat_natCast, Int.reduceToNat, Int.cast_ofNat_Int, Int.natCast_nonneg, g3']
                        refine ⟨by decide, ?_⟩
                        refine CallsX.none hop ?_
                        cases hbz : m3.getD (opz N t x y 1) false
                        · simp only [absE, absL, absF, reduceCtorEq, ↓reduceIte, Nat.reduceEqDiff, Nat.reduceAdd, Nat.reduceLT, Nat.reduceMul, Nat.reduceSub, Nat.reduceLeDiff, Int.reduceLT, Int.reduceLE, Int.reduceEq, Option.isSome_some, implies_true, false_implies, Prod.mk.injEq, ne_eq, not_false_eq_true, not_true_eq_false, ge_iff_le, gt_iff_lt, Int.toNat_natCast, Int.reduceToNat, Int.cast_ofNat_Int, Int.natCast_nonneg, iz, uz, ez, es, hbz, w3]
                          refine ⟨by omega, ?_⟩
                          refine LoopNext.intro (1 + 1, m3.set (opz N t x y 1) true, true) ⟨by simp only; omega, p3.put (by unfold opz; omega) hbz (opz_gen hxg hyg), fun e => (by cases e)⟩ (by simp only; omega) ⟨[((1,0),(1,0)), ((2,0),(2,0)), ((3,0),(3,0))], rfl, ?_, ?_⟩
                          · simp [wkEnv, lk, renV, renAt, renTo, es, show IntKind.i64.wrap 1 = 1 from rfl, show IntKind.i64.wrap 2 = 2 from rfl, show IntKind.i64.wrap 3 = 3 from rfl]
                          · simp [wkMem, wkLoc, Mem.get, assoc, renBlk, renSegs, renSg, renTo, es, show IntKind.i64.wrap 1 = 1 from rfl, show IntKind.i64.wrap 2 = 2 from rfl, show IntKind.i64.wrap 3 = 3 from rfl]
                        · simp only [absE, absL, absF, reduceCtorEq, ↓reduceIte, Nat.reduceEqDiff, Nat.reduceAdd, Nat.reduceLT, Nat.reduceMul, Nat.reduceSub, Nat.reduceLeDiff, Int.reduceLT, Int.reduceLE, Int.reduceEq, Option.isSome_some, implies_true, false_implies, Prod.mk.injEq, ne_eq, not_false_eq_true, not_true_eq_false, ge_iff_le, gt_iff_lt, Int.toNat_natCast, Int.reduceToNat, Int.cast_ofNat_Int, Int.natCast_nonneg, iz, uz, ez, es, hbz, w3]
                          refine LoopNext.intro (1 + 1, m3, c3) ⟨by simp only; omega, p3, fun e => ⟨(q3 e).1, fun j hj => ?_⟩⟩ (by simp only; omega) ⟨[((1,0),(1,0)), ((2,0),(2,0)), ((3,0),(3,0))], rfl, ?_, ?_⟩
                          · by_cases ej : j = 1
                            · subst ej; rw [← p3.same e]; exact hbz
                            · exact (q3 e).2 j (by simp only at hj; omega)
                          · simp [wkEnv, lk, renV, renAt, renTo, show IntKind.i64.wrap 1 = 1 from rfl, show IntKind.i64.wrap 2 = 2 from rfl, show IntKind.i64.wrap 3 = 3 from rfl]
                          · simp [wkMem, wkLoc, Mem.get, assoc, renBlk, renSegs, renSg, renTo, show IntKind.i64.wrap 1 = 1 from rfl, show IntKind.i64.wrap 2 = 2 from rfl, show IntKind.i64.wrap 3 = 3 from rfl]
                      · rw [show opC 2 = (((#[42, 92, 47] : Array UInt8).getD 2 0).toNat : Int) from by decide] at hop
                        simp only [absE, absL, absF, reduceCtorEq, ↓reduceIte, Nat.reduceEqDiff, Nat.reduceAdd, Nat.reduceLT, Nat.reduceMul, Nat.reduceSub, Nat.reduceLeDiff, Int.reduceLT, Int.reduceLE, Int.reduceEq, Option.isSome_some, implies_true, false_implies, Prod.mk.injEq, ne_eq, not_false_eq_true, not_true_eq_false, ge_iff_le, gt_iff_lt, Int.toNat_natCast, Int.reduceToNat, Int.cast_ofNat_Int, Int.natCast_nonneg, g3']
                        refine ⟨by decide, ?_⟩
                        refine CallsX.none hop ?_
                        cases hbz : m3.getD (opz N t x y 2) false
                        · simp only [absE, absL, absF, reduceCtorEq, ↓reduceIte, Nat.reduceEqDiff, Nat.reduceAdd, Nat.reduceLT, Nat.reduceMul, Nat.reduceSub, Nat.reduceLeDiff, Int.reduceLT, Int.reduceLE, Int.reduceEq, Option.isSome_some, implies_true, false_implies, Prod.mk.injEq, ne_eq, not_false_eq_true, not_true_eq_false, ge_iff_le, gt_iff_lt, Int.toNat_natCast, Int.reduceToNat, Int.cast_ofNat_Int, Int.natCast_nonneg, iz, uz, ez, es, hbz, w3]
                          refine ⟨by omega, ?_⟩
                          refine LoopNext.intro (2 + 1, m3.set (opz N t x y 2) true, true) ⟨by simp only; omega, p3.put (by unfold opz; omega) hbz (opz_gen hxg hyg), fun e => (by cases e)⟩ (by simp only; omega) ⟨[((1,0),(1,0)), ((2,0),(2,0)), ((3,0),(3,0))], rfl, ?_, ?_⟩
                          · simp [wkEnv, lk, renV, renAt, renTo, es, show IntKind.i64.wrap 1 = 1 from rfl, show IntKind.i64.wrap 2 = 2 from rfl, show IntKind.i64.wrap 3 = 3 from rfl]
                          · simp [wkMem, wkLoc, Mem.get, assoc, renBlk, renSegs, renSg, renTo, es, show IntKind.i64.wrap 1 = 1 from rfl, show IntKind.i64.wrap 2 = 2 from rfl, show IntKind.i64.wrap 3 = 3 from rfl]
                        · simp only [absE, absL, absF, reduceCtorEq, ↓reduceIte, Nat.reduceEqDiff, Nat.reduceAdd, Nat.reduceLT, Nat.reduceMul, Nat.reduceSub, Nat.reduceLeDiff, Int.reduceLT, Int.reduceLE, Int.reduceEq, Option.isSome_some, implies_true, false_implies, Prod.mk.injEq, ne_eq, not_false_eq_true, not_true_eq_false, ge_iff_le, gt_iff_lt, Int.toNat_natCast, Int.reduceToNat, Int.cast_ofNat_Int, Int.natCast_nonneg, iz, uz, ez, es, hbz, w3]
                          refine LoopNext.intro (2 + 1, m3, c3) ⟨by simp only; omega, p3, fun e => ⟨(q3 e).1, fun j hj => ?_⟩⟩ (by simp only; omega) ⟨[((1,0),(1,0)), ((2,0),(2,0)), ((3,0),(3,0))], rfl, ?_, ?_⟩
                          · by_cases ej : j = 2
                            · subst ej; rw [← p3.same e]; exact hbz
                            · exact (q3 e).2 j (by simp only at hj; omega)
                          · simp [wkEnv, lk, renV, renAt, renTo, show IntKind.i64.wrap 1 = 1 from rfl, show IntKind.i64.wrap 2 = 2 from rfl, show IntKind.i64.wrap 3 = 3 from rfl]
                          · simp [wkMem, wkLoc, Mem.get, assoc, renBlk, renSegs, renSg, renTo, show IntKind.i64.wrap 1 = 1 from rfl, show IntKind.i64.wrap 2 = 2 from rfl, show IntKind.i64.wrap 3 = 3 from rfl]
                    · have hk3 : k = 3 := by omega
                      subst hk3
                      simp only [absE, absL, absF, reduceCtorEq, ↓reduceIte, Nat.reduceEqDiff, Nat.reduceAdd, Nat.reduceLT, Nat.reduceMul, Nat.reduceSub, Nat.reduceLeDiff, Int.reduceLT, Int.reduceLE, Int.reduceEq, Option.isSome_some, implies_true, false_implies, Prod.mk.injEq, ne_eq, not_false_eq_true, not_true_eq_false, ge_iff_le, gt_iff_lt, Int.toNat_natCast, Int.reduceToNat, Int.cast_ofNat_Int, Int.natCast_nonneg, w']
                      refine LoopNext.intro (y + 1, m3, c3) ⟨by simp only; omega, p3, fun e => ?_⟩ (by simp only; omega) ⟨[((1,0),(1,0)), ((2,0),(2,0)), ((3,0),(3,0))], rfl, ?_, ?_⟩
                      · obtain ⟨ec, hj⟩ := q3 e
                        refine ⟨(q2 ec).1, fun y' hy' h1 h2 => ?_⟩
                        by_cases ey : y' = y
                        · subst ey; exact fun j hj' => hj j hj'
                        · exact (q2 ec).2 y' (by simp only at hy'; omega) h1 h2
                      · simp [wkEnv, lk, renV, renAt, renTo]
                      · simp [wkMem, wkLoc, Mem.get, assoc, renBlk, renSegs, renSg, renTo]
            · have hyN : y = N := by omega
              subst hyN
              simp only [absE, absL, absF, reduceCtorEq, ↓reduceIte, Nat.reduceEqDiff, Nat.reduceAdd, Nat.reduceLT, Nat.reduceMul, Nat.reduceSub, Nat.reduceLeDiff, Int.reduceLT, Int.reduceLE, Int.reduceEq, Option.isSome_some, implies_true, false_implies, Prod.mk.injEq, ne_eq, not_false_eq_true, not_true_eq_false, ge_iff_le, gt_iff_lt, Int.toNat_natCast, Int.reduceToNat, Int.cast_ofNat_Int, Int.natCast_nonneg, h', w]
              refine LoopNext.intro (x + 1, m2, c2) ⟨by simp only; omega, p2, fun e x' y' hx' hy' h1 h2 => ?_⟩ (by simp only; omega) ⟨[((1,0),(1,0)), ((2,0),(2,0)), ((3,0),(3,0))], rfl, ?_, ?_⟩
              · by_cases ex : x' = x
                · subst ex; exact (q2 e).2 y' hy' h1 h2
                · exact (q2 e).1 x' y' (by simp only at hx'; omega) hy' h1 h2
              · simp [wkEnv, lk, renV, renAt, renTo]
              · simp [wkMem, wkLoc, Mem.get, assoc, renBlk, renSegs, renSg, renTo]
        · have hxN : x = N := by omega
          subst hxN
          simp only [absE, absL, absF, reduceCtorEq, ↓reduceIte, Nat.reduceEqDiff, Nat.reduceAdd, Nat.reduceLT, Nat.reduceMul, Nat.reduceSub, Nat.reduceLeDiff, Int.reduceLT, Int.reduceLE, Int.reduceEq, Option.isSome_some, implies_true, false_implies, Prod.mk.injEq, ne_eq, not_false_eq_true, not_true_eq_false, ge_iff_le, gt_iff_lt, Int.toNat_natCast, Int.reduceToNat, Int.cast_ofNat_Int, Int.natCast_nonneg, h]
          refine LoopNext.intro (m1, c1) ⟨⟨p1.len, p1.zero, p1.base, p1.gen⟩, fun e a b ha hb h1 h2 => ?_⟩ ?_ ⟨[((1,0),(1,0)), ((2,0),(2,0)), ((3,0),(3,0))], rfl, ?_, ?_⟩
          · have es := p1.same e
            simp only at h1 h2 ⊢
            rw [es] at h1 h2 ⊢
            exact q1 e a b ha hb h1 h2
          · cases c1
            · have := p1.le; simp; omega
            · have := p1.more rfl; simp; omega
          · simp [wkEnv, lk, renV, renAt, renTo]
          · simp [wkMem, wkLoc, Mem.get, assoc, renBlk, renSegs, renSg, renTo]

end Go.Proofs.Ytcaadjjgggjefaa
