/-
Contracts of functions of the given program, by the abstract walk.
-/
import Derived.Test.YtoccbgffekhcaaaAbsY
import Derived.Test.YtoccbgffekhcaaaNc
namespace Go.Proofs.Ytoccbgffekhcaaa
open Go Go.Abs
set_option linter.unusedVariables false
set_option linter.unusedSectionVars false
set_option linter.unusedSimpArgs false
set_option maxRecDepth 100000
/-! the congruence of two elements: the program -/
theorem sumF_joinF {c : Nat → Nat} {u v N : Nat} : sumF (joinF c u v) N ≤ sumF c N := sumF_le fun _ => joinF_le
structure CgI (N : Nat) (f : Nat → Nat → Nat) (S : Nat → Nat → Prop) (x y : Nat) (c0 c : Nat → Nat) (ch : Bool) : Prop where
  lab : Lab N f S c
  mn : ∀ i, c i ≤ i
  xy : c x = c y
  same : ch = false → c = c0
  less : ch = true → sumF c N < sumF c0 N
theorem CgI.join {N : Nat} {f : Nat → Nat → Nat} {S : Nat → Nat → Prop} {x y : Nat} {c0 c : Nat → Nat} {ch : Bool} (h : CgI N f S x y c0 c ch) {u v : Nat} (hu : u < N) (hv : v < N) (huv : Cg N f S u v) :
    CgI N f S x y c0 (joinF c u v) (ch || !decide (c u = c v)) := by
  refine ⟨joinF_lab h.lab hu hv huv, joinF_min h.mn, by unfold joinF; rw [h.xy], fun e => ?_, fun e => ?_⟩
  · rw [Bool.or_eq_false_iff] at e
    have e2 : c u = c v := by simpa using e.2
    rw [joinF_same e2]; exact h.same e.1
  · cases ch
    · have hc := h.same rfl
      have hne : ¬ c u = c v := by simpa using e
      rw [← hc]; exact joinF_lt hu hv hne
    · exact Nat.lt_of_le_of_lt sumF_joinF (h.less rfl)
def closAt (f : Nat → Nat → Nat) (c : Nat → Nat) (a z : Nat) : Prop := c (f a z) = c (f (c a) z) ∧ c (f z a) = c (f z (c a))
def S2 (x y : Nat) : Nat → Nat → Prop := fun a b => a = x ∧ b = y
theorem congruence_ok (N : Nat) (t : List Int) (x y : Nat) (ht : Bytes 100 t) (hs : SqP N t) (hx : x < N) (hy : y < N) :
    ACalls Try.prog 76 [.agg (sqS N t), .i .u8 x, .i .u8 y] [] (fun v ms ns => ∃ c, LabOk N (cl t) (S2 x y) c ∧ (∀ i, c i ≤ i) ∧ v = .ref (.sl 1 0 0 0 N 1) ∧ ms = [] ∧ ns = [.lv true [(0, .ints .i64 N (fl c N))]]) := by
  have hN := hs.le
  have wx := wrap_i64n (show x < 2 ^ 62 by omega)
  have wy := wrap_i64n (show y < 2 ^ 62 by omega)
  refine acalls_of_body mix Try.func76 rfl fok76 (Nat.le_of_ble_eq_true rfl) ?_
  unfold abody
  simp only [absE, absL, absF, reduceCtorEq, ↓reduceIte, Nat.reduceEqDiff, Nat.reduceAdd, Nat.reduceLT, Nat.reduceMul, Nat.reduceSub, Nat.reduceLeDiff, Int.reduceLT, Int.reduceLE, Int.reduceEq, Option.isSome_some, implies_true, false_implies, Prod.mk.injEq, ne_eq, not_false_eq_true, not_true_eq_false, ge_iff_le, gt_iff_lt, Int.toNat_natCast, Int.reduceToNat, Int.cast_ofNat_Int, Int.natCast_nonneg, wx, wy, Try.f76]
  refine CallsVia.none (newClasses_ok N hN) ?_
  rintro _ _ _ ⟨rfl, rfl, rfl⟩
  simp only [absE, absL, absF, reduceCtorEq, ↓reduceIte, Nat.reduceEqDiff, Nat.reduceAdd, Nat.reduceLT, Nat.reduceMul, Nat.reduceSub, Nat.reduceLeDiff, Int.reduceLT, Int.reduceLE, Int.reduceEq, Option.isSome_some, implies_true, false_implies, Prod.mk.injEq, ne_eq, not_false_eq_true, not_true_eq_false, ge_iff_le, gt_iff_lt, Int.toNat_natCast, Int.reduceToNat, Int.cast_ofNat_Int, Int.natCast_nonneg, wx, wy]
  refine CallsVia.args [(5, 0)] (join_ok N id x y hN hx hy) (by simp) (by simp [Mem.get, assoc]) rfl rfl ?_
  rintro _ _ _ ⟨rfl, rfl, rfl⟩
  simp only [absE, absL, absF, reduceCtorEq, ↓reduceIte, Nat.reduceEqDiff, Nat.reduceAdd, Nat.reduceLT, Nat.reduceMul, Nat.reduceSub, Nat.reduceLeDiff, Int.reduceLT, Int.reduceLE, Int.reduceEq, Option.isSome_some, implies_true, false_implies, Prod.mk.injEq, ne_eq, not_false_eq_true, not_true_eq_false, ge_iff_le, gt_iff_lt, Int.toNat_natCast, Int.reduceToNat, Int.cast_ofNat_Int, Int.natCast_nonneg]
  have hl0 : Lab N (cl t) (S2 x y) (joinF id x y) := joinF_lab (lab_id fun _ _ => rfl) hx hy (.base ⟨rfl, rfl⟩)
  have hxy0 : joinF id x y x = joinF id x y y := by
    unfold joinF; simp only [id]
    by_cases e : x = max x y
    · rw [if_pos e]; split <;> omega
    · rw [if_neg e]; split <;> omega
  refine awpLoop.intro (fun s : (Nat → Nat) × Bool => [(3, .ref (.ptr 1 0 0 0)), (7, .ref (.sl 5 0 0 0 N 1)), (8, .b s.2)]) (fun s => ⟨[], [((1, 0), .lv true (sqS N t)), ((5, 0), .lv true ([(0, .ints .i64 N (fl s.1 N))]))], 14⟩)
    (fun s => Lab N (cl t) (S2 x y) s.1 ∧ (∀ i, s.1 i ≤ i) ∧ s.1 x = s.1 y ∧ (s.2 = false → ∀ a z, a < N → z < N → closAt (cl t) s.1 a z)) (fun s => sumF s.1 N * 2 + (if s.2 then 1 else 0)) (joinF id x y, true) ⟨hl0, joinF_min fun _ => Nat.le_refl _, hxy0, fun e => by cases e⟩ ⟨[((1,0),(1,0)), ((5,0),(5,0))], rfl, ?_, ?_⟩ ?_
  · simp [wkEnv, lk, renV, renAt, renTo]
  · simp [wkMem, wkLoc, Mem.get, assoc, renBlk, renSegs, renSg, renTo]
  · rintro ⟨c0, ch⟩ ⟨hl, hmn, hxy, hcl⟩
    simp only at hl hmn hxy hcl
    cases ch
    · simp only [absE, absL, absF, reduceCtorEq, ↓reduceIte, Nat.reduceEqDiff, Nat.reduceAdd, Nat.reduceLT, Nat.reduceMul, Nat.reduceSub, Nat.reduceLeDiff, Int.reduceLT, Int.reduceLE, Int.reduceEq, Option.isSome_some, implies_true, false_implies, Prod.mk.injEq, ne_eq, not_false_eq_true, not_true_eq_false, ge_iff_le, gt_iff_lt, Int.toNat_natCast, Int.reduceToNat, Int.cast_ofNat_Int, Int.natCast_nonneg, Try.results76]
      have hc := hcl rfl
      exact ⟨[(5, 0)], by simp, by simp, c0, { hl with has := fun a b e => by rw [e.1, e.2]; exact hxy, mL := fun a z ha hz => (hc a z ha hz).1, mR := fun a z ha hz => (hc a z ha hz).2 }, hmn, by simp [renV, renAt, renFin, idx], by simp, by simp [renBlk, renSegs, renSg, Mem.get, assoc]⟩
    · simp only [absE, absL, absF, reduceCtorEq, ↓reduceIte, Nat.reduceEqDiff, Nat.reduceAdd, Nat.reduceLT, Nat.reduceMul, Nat.reduceSub, Nat.reduceLeDiff, Int.reduceLT, Int.reduceLE, Int.reduceEq, Option.isSome_some, implies_true, false_implies, Prod.mk.injEq, ne_eq, not_false_eq_true, not_true_eq_false, ge_iff_le, gt_iff_lt, Int.toNat_natCast, Int.reduceToNat, Int.cast_ofNat_Int, Int.natCast_nonneg]
      refine CallsVia.none (elements_ok N t hN) ?_
      rintro _ _ _ ⟨rfl, rfl, rfl⟩
      simp only [absE, absL, absF, reduceCtorEq, ↓reduceIte, Nat.reduceEqDiff, Nat.reduceAdd, Nat.reduceLT, Nat.reduceMul, Nat.reduceSub, Nat.reduceLeDiff, Int.reduceLT, Int.reduceLE, Int.reduceEq, Option.isSome_some, implies_true, false_implies, Prod.mk.injEq, ne_eq, not_false_eq_true, not_true_eq_false, ge_iff_le, gt_iff_lt, Int.toNat_natCast, Int.reduceToNat, Int.cast_ofNat_Int, Int.natCast_nonneg]
      refine awpLoop.intro (fun s : Nat × (Nat → Nat) × Bool => [(3, .ref (.ptr 1 0 0 0)), (7, .ref (.sl 5 0 0 0 N 1)), (8, .b s.2.2), (27, .ref (.sl 17 0 0 0 N 1)), (28, .i .i64 N), (29, .i .i64 s.1)]) (fun s => ⟨[], [((1, 0), .lv true (sqS N t)), ((5, 0), .lv true ([(0, .ints .i64 N (fl s.2.1 N))])), ((17, 0), .lv true ([(0, .ints .u8 N (bytesTo N))]))], 20⟩)
        (fun s => s.1 ≤ N ∧ CgI N (cl t) (S2 x y) x y c0 s.2.1 s.2.2 ∧ (s.2.2 = false → ∀ a z, a < s.1 → z < N → closAt (cl t) c0 a z)) (fun s => N - s.1) (0, c0, false) ⟨by simp, ⟨hl, hmn, hxy, fun _ => rfl, fun e => by cases e⟩, fun _ a z ha => absurd ha (by simp)⟩ ⟨[((1,0),(1,0)), ((5,0),(5,0)), ((17,0),(17,0))], rfl, ?_, ?_⟩ ?_
      · simp [wkEnv, lk, renV, renAt, renTo]
      · simp [wkMem, wkLoc, Mem.get, assoc, renBlk, renSegs, renSg, renTo]
      · rintro ⟨a, c, ch⟩ ⟨ha, hI, hcl'⟩
        simp only at ha hI hcl'
        by_cases h : (a : Int) < N
        · have w := wrap_i64s (show a < 2 ^ 62 by omega)
          have ha' : a < N := by omega
          have v1 : 0 + a * 1 < N := by omega
          have b1 : (bytesTo N).getD (0 + a * 1) 0 = (a : Int) := by rw [Nat.zero_add, Nat.mul_one]; exact bytesTo_get (by omega)
          have hbN : c a < N := hI.lab.lt a ha'
          have g1 : (fl c N).getD (0 + a * 1) 0 = (c a : Int) := by rw [Nat.zero_add, Nat.mul_one]; exact fl_get ha'
          have wb := wrap_u8n (show c a < 256 by omega)
          simp only [absE, absL, absF, reduceCtorEq, ↓reduceIte, Nat.reduceEqDiff, Nat.reduceAdd, Nat.reduceLT, Nat.reduceMul, Nat.reduceSub, Nat.reduceLeDiff, Int.reduceLT, Int.reduceLE, Int.reduceEq, Option.isSome_some, implies_true, false_implies, Prod.mk.injEq, ne_eq, not_false_eq_true, not_true_eq_false, ge_iff_le, gt_iff_lt, Int.toNat_natCast, Int.reduceToNat, Int.cast_ofNat_Int, Int.natCast_nonneg, h, v1, b1, g1, wb]
          refine CallsVia.none (elements_ok N t hN) ?_
          rintro _ _ _ ⟨rfl, rfl, rfl⟩
          simp only [absE, absL, absF, reduceCtorEq, ↓reduceIte, Nat.reduceEqDiff, Nat.reduceAdd, Nat.reduceLT, Nat.reduceMul, Nat.reduceSub, Nat.reduceLeDiff, Int.reduceLT, Int.reduceLE, Int.reduceEq, Option.isSome_some, implies_true, false_implies, Prod.mk.injEq, ne_eq, not_false_eq_true, not_true_eq_false, ge_iff_le, gt_iff_lt, Int.toNat_natCast, Int.reduceToNat, Int.cast_ofNat_Int, Int.natCast_nonneg]
          have hab : Cg N (cl t) (S2 x y) a (c a) := hI.lab.sound a ha'
          have hb0 : ch = false → c a = c0 a := fun e => by rw [hI.same e]
          generalize hb : c a = b at hbN hab hb0 ⊢
          refine awpLoop.intro (fun s : Nat × (Nat → Nat) × Bool => [(3, .ref (.ptr 1 0 0 0)), (7, .ref (.sl 5 0 0 0 N 1)), (8, .b s.2.2), (10, .i .u8 a), (11, .i .u8 b), (27, .ref (.sl 17 0 0 0 N 1)), (28, .i .i64 N), (29, .i .i64 a), (39, .ref (.sl 31 0 0 0 N 1)), (40, .i .i64 N), (41, .i .i64 s.1)]) (fun s => ⟨[], [((1, 0), .lv true (sqS N t)), ((5, 0), .lv true ([(0, .ints .i64 N (fl s.2.1 N))])), ((17, 0), .lv true ([(0, .ints .u8 N (bytesTo N))])), ((31, 0), .lv true ([(0, .ints .u8 N (bytesTo N))]))], 34⟩)
            (fun s => s.1 ≤ N ∧ CgI N (cl t) (S2 x y) x y c0 s.2.1 s.2.2 ∧ (s.2.2 = false → b = c0 a ∧ (∀ a z, a < a → z < N → closAt (cl t) c0 a z) ∧ (∀ a' z, a' < a → z < N → closAt (cl t) c0 a' z) ∧ ∀ z, z < s.1 → closAt (cl t) c0 a z)) (fun s => N - s.1) (0, c, ch) ⟨by simp, hI, fun e => ⟨hb0 e, fun a z hh => absurd hh (by omega), fun a' z h1 h2 => hcl' e a' z h1 h2, fun z hz => absurd hz (by simp)⟩⟩ ⟨[((1,0),(1,0)), ((5,0),(5,0)), ((17,0),(17,0)), ((31,0),(31,0))], rfl, ?_, ?_⟩ ?_
          · simp [wkEnv, lk, renV, renAt, renTo]
          · simp [wkMem, wkLoc, Mem.get, assoc, renBlk, renSegs, renSg, renTo]
          · rintro ⟨z, c, ch⟩ ⟨hz, hI, hcl''⟩
            simp only at hz hI hcl''
            by_cases h' : (z : Int) < N
            · have w' := wrap_i64s (show z < 2 ^ 62 by omega)
              have hz' : z < N := by omega
              have v2 : 0 + z * 1 < N := by omega
              have b2 : (bytesTo N).getD (0 + z * 1) 0 = (z : Int) := by rw [Nat.zero_add, Nat.mul_one]; exact bytesTo_get (by omega)
              have i1 : (a : Int) < 10 := by omega
              have i2 : (b : Int) < 10 := by omega
              have i3 : (z : Int) < 10 := by omega
              have u1 : 0 + a * 10 + z * 1 < 100 := by omega
              have u2 : 0 + b * 10 + z * 1 < 100 := by omega
              have u3 : 0 + z * 10 + a * 1 < 100 := by omega
              have u4 : 0 + z * 10 + b * 1 < 100 := by omega
              have k1 := sq_colget ht a z
              have k2 := sq_colget ht b z
              have k3 := sq_colget ht z a
              have k4 := sq_colget ht z b
              have l1 := hs.cl_lt ha' hz'
              have l2 := hs.cl_lt hbN hz'
              have l3 := hs.cl_lt hz' ha'
              have l4 := hs.cl_lt hz' hbN
              have w1 := wrap_i64n (show cl t a z < 2 ^ 62 by omega)
              have w2 := wrap_i64n (show cl t b z < 2 ^ 62 by omega)
              have w3 := wrap_i64n (show cl t z a < 2 ^ 62 by omega)
              have w4 := wrap_i64n (show cl t z b < 2 ^ 62 by omega)
              have hI1 := hI.join l1 l2 (.mulL hz' hab)
              have hI2 := hI1.join l3 l4 (.mulR hz' hab)
              have hnext : (ch || !decide (c (cl t a z) = c (cl t b z)) || !decide (joinF c (cl t a z) (cl t b z) (cl t z a) = joinF c (cl t a z) (cl t b z) (cl t z b))) = false → closAt (cl t) c0 a z := fun e => by
                rw [Bool.or_eq_false_iff, Bool.or_eq_false_iff] at e
                have e1 := hI.same e.1.1
                have e2 : c (cl t a z) = c (cl t b z) := by simpa using e.1.2
                have e3 : joinF c (cl t a z) (cl t b z) (cl t z a) = joinF c (cl t a z) (cl t b z) (cl t z b) := by simpa using e.2
                rw [joinF_same e2] at e3
                rw [e1, (hcl'' e.1.1).1] at e2 e3
                exact ⟨e2, e3⟩
              simp only [absE, absL, absF, reduceCtorEq, ↓reduceIte, Nat.reduceEqDiff, Nat.reduceAdd, Nat.reduceLT, Nat.reduceMul, Nat.reduceSub, Nat.reduceLeDiff, Int.reduceLT, Int.reduceLE, Int.reduceEq, Option.isSome_some, implies_true, false_implies, Prod.mk.injEq, ne_eq, not_false_eq_true, not_true_eq_false, ge_iff_le, gt_iff_lt, Int.toNat_natCast, Int.reduceToNat, Int.cast_ofNat_Int, Int.natCast_nonneg, h', v2, b2]
              simp only [absE, absL, absF, reduceCtorEq, ↓reduceIte, Nat.reduceEqDiff, Nat.reduceAdd, Nat.reduceLT, Nat.reduceMul, Nat.reduceSub, Nat.reduceLeDiff, Int.reduceLT, Int.reduceLE, Int.reduceEq, Option.isSome_some, implies_true, false_implies, Prod.mk.injEq, ne_eq, not_false_eq_true, not_true_eq_false, ge_iff_le, gt_iff_lt, Int.toNat_natCast, Int.reduceToNat, Int.cast_ofNat_Int, Int.natCast_nonneg, i1, i2, i3, u1, u2, u3, u4, k1, k2, k3, k4, w1, w2, w3, w4]
              repeat first | refine And.intro (by decide +kernel) ?_ | refine And.intro (by omega) ?_
              refine CallsX.args [(5, 0)] (join_ok N c (cl t a z) (cl t b z) hN l1 l2) (by simp) (by simp [Mem.get, assoc]) rfl rfl ?_
              simp only [absE, absL, absF, reduceCtorEq, ↓reduceIte, Nat.reduceEqDiff, Nat.reduceAdd, Nat.reduceLT, Nat.reduceMul, Nat.reduceSub, Nat.reduceLeDiff, Int.reduceLT, Int.reduceLE, Int.reduceEq, Option.isSome_some, implies_true, false_implies, Prod.mk.injEq, ne_eq, not_false_eq_true, not_true_eq_false, ge_iff_le, gt_iff_lt, Int.toNat_natCast, Int.reduceToNat, Int.cast_ofNat_Int, Int.natCast_nonneg]
              repeat first | refine And.intro (by decide +kernel) ?_ | refine And.intro (by omega) ?_
              simp only [absE, absL, absF, reduceCtorEq, ↓reduceIte, Nat.reduceEqDiff, Nat.reduceAdd, Nat.reduceLT, Nat.reduceMul, Nat.reduceSub, Nat.reduceLeDiff, Int.reduceLT, Int.reduceLE, Int.reduceEq, Option.isSome_some, implies_true, false_implies, Prod.mk.injEq, ne_eq, not_false_eq_true, not_true_eq_false, ge_iff_le, gt_iff_lt, Int.toNat_natCast, Int.reduceToNat, Int.cast_ofNat_Int, Int.natCast_nonneg, i1, i2, i3, u1, u2, u3, u4, k1, k2, k3, k4, w1, w2, w3, w4]
              repeat first | refine And.intro (by decide +kernel) ?_ | refine And.intro (by omega) ?_
              refine CallsX.args [(5, 0)] (join_ok N (joinF c (cl t a z) (cl t b z)) (cl t z a) (cl t z b) hN l3 l4) (by simp) (by simp [Mem.get, assoc]) rfl rfl ?_
              simp only [absE, absL, absF, reduceCtorEq, ↓reduceIte, Nat.reduceEqDiff, Nat.reduceAdd, Nat.reduceLT, Nat.reduceMul, Nat.reduceSub, Nat.reduceLeDiff, Int.reduceLT, Int.reduceLE, Int.reduceEq, Option.isSome_some, implies_true, false_implies, Prod.mk.injEq, ne_eq, not_false_eq_true, not_true_eq_false, ge_iff_le, gt_iff_lt, Int.toNat_natCast, Int.reduceToNat, Int.cast_ofNat_Int, Int.natCast_nonneg]
              repeat first | refine And.intro (by decide +kernel) ?_ | refine And.intro (by omega) ?_
              generalize joinF (joinF c (cl t a z) (cl t b z)) (cl t z a) (cl t z b) = c2 at hI2 ⊢
              generalize (!decide (c (cl t a z) = c (cl t b z))) = r1 at hI2 hnext ⊢
              generalize (!decide (joinF c (cl t a z) (cl t b z) (cl t z a) = joinF c (cl t a z) (cl t b z) (cl t z b))) = r2 at hI2 hnext ⊢
              have hinv : z + 1 ≤ N ∧ CgI N (cl t) (S2 x y) x y c0 c2 (ch || r1 || r2) ∧ ((ch || r1 || r2) = false → b = c0 a ∧ (∀ a z, a < a → z < N → closAt (cl t) c0 a z) ∧ (∀ a' z, a' < a → z < N → closAt (cl t) c0 a' z) ∧ ∀ z', z' < z + 1 → closAt (cl t) c0 a z') := by
                refine ⟨by omega, hI2, fun e => ?_⟩
                have e1 := hnext e
                rw [Bool.or_eq_false_iff, Bool.or_eq_false_iff] at e
                obtain ⟨p1, p2, p3, p4⟩ := hcl'' e.1.1
                refine ⟨p1, p2, p3, fun z' hz2 => ?_⟩
                by_cases e3 : z' = z
                · subst e3; exact e1
                · exact p4 z' (by omega)
              cases ch <;> cases r1 <;> cases r2 <;> (simp only [absE, absL, absF, reduceCtorEq, ↓reduceIte, Nat.reduceEqDiff, Nat.reduceAdd, Nat.reduceLT, Nat.reduceMul, Nat.reduceSub, Nat.reduceLeDiff, Int.reduceLT, Int.reduceLE, Int.reduceEq, Option.isSome_some, implies_true, false_implies, Prod.mk.injEq, ne_eq, not_false_eq_true, not_true_eq_false, ge_iff_le, gt_iff_lt, Int.toNat_natCast, Int.reduceToNat, Int.cast_ofNat_Int, Int.natCast_nonneg]; refine LoopNext.intro (z + 1, c2, _) hinv (by simp only; omega) ⟨[((1,0),(1,0)), ((5,0),(5,0)), ((17,0),(17,0)), ((31,0),(31,0))], rfl, ?_, ?_⟩ <;> simp [wkEnv, lk, renV, renAt, renTo, w', wkMem, wkLoc, Mem.get, assoc, renBlk, renSegs, renSg])
            · obtain rfl : z = N := by omega
              simp only [absE, absL, absF, reduceCtorEq, ↓reduceIte, Nat.reduceEqDiff, Nat.reduceAdd, Nat.reduceLT, Nat.reduceMul, Nat.reduceSub, Nat.reduceLeDiff, Int.reduceLT, Int.reduceLE, Int.reduceEq, Option.isSome_some, implies_true, false_implies, Prod.mk.injEq, ne_eq, not_false_eq_true, not_true_eq_false, ge_iff_le, gt_iff_lt, Int.toNat_natCast, Int.reduceToNat, Int.cast_ofNat_Int, Int.natCast_nonneg, h', w]
              refine LoopNext.intro (a + 1, c, ch) ⟨by simp only; omega, hI, fun e a' z h1 h2 => ?_⟩ (by simp only; omega) ⟨[((1,0),(1,0)), ((5,0),(5,0)), ((17,0),(17,0))], rfl, ?_, ?_⟩
              · obtain ⟨p1, p2, p3, p4⟩ := hcl'' e
                by_cases e3 : a' = a
                · subst e3; exact p4 z h2
                · exact p3 a' z (by simp only at h1; omega) h2
              · simp [wkEnv, lk, renV, renAt, renTo, w]
              · simp [wkMem, wkLoc, Mem.get, assoc, renBlk, renSegs, renSg, renTo, w]
        · obtain rfl : a = N := by omega
          simp only [absE, absL, absF, reduceCtorEq, ↓reduceIte, Nat.reduceEqDiff, Nat.reduceAdd, Nat.reduceLT, Nat.reduceMul, Nat.reduceSub, Nat.reduceLeDiff, Int.reduceLT, Int.reduceLE, Int.reduceEq, Option.isSome_some, implies_true, false_implies, Prod.mk.injEq, ne_eq, not_false_eq_true, not_true_eq_false, ge_iff_le, gt_iff_lt, Int.toNat_natCast, Int.reduceToNat, Int.cast_ofNat_Int, Int.natCast_nonneg, h]
          refine LoopNext.intro (c, ch) ⟨hI.lab, hI.mn, hI.xy, fun e a z h1 h2 => by simp only at e ⊢; rw [hI.same e]; exact hcl' e a z h1 h2⟩ ?_ ⟨[((1,0),(1,0)), ((5,0),(5,0))], rfl, ?_, ?_⟩
          · simp only
            cases ch
            · rw [hI.same rfl]; simp
            · have := hI.less rfl
              simp; omega
          · simp [wkEnv, lk, renV, renAt, renTo]
          · simp [wkMem, wkLoc, Mem.get, assoc, renBlk, renSegs, renSg, renTo]

end Go.Proofs.Ytoccbgffekhcaaa
