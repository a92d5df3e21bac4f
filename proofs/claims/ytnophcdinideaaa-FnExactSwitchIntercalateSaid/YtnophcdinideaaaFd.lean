/-
Contracts of functions of the given program, by the abstract walk.
-/
import Derived.Test.YtnophcdinideaaaAbsW
import Derived.Test.YtnophcdinideaaaFb
import Derived.Test.YtnophcdinideaaaDr
import Derived.Test.YtnophcdinideaaaDi
namespace Go.Proofs.Ytnophcdinideaaa
open Go Go.Abs
set_option linter.unusedVariables false
set_option linter.unusedSectionVars false
set_option linter.unusedSimpArgs false
set_option maxRecDepth 100000
/-! an intercalate exchanged -/
def icB (t : List Int) (a b c d : Nat) : Bool := decide (cl t a c = cl t b d) && decide (cl t a d = cl t b c)
theorem implIc_ok (N : Nat) (t : List Int) (a b c d : Nat) (ht : Bytes 100 t) (ha : a < 10) (hb : b < 10) (hc : c < 10) (hd : d < 10) :
    ACalls Try.prog 67 [.agg (sqS N t), .i .u8 a, .i .u8 b, .i .u8 c, .i .u8 d] [] (fun v ms ns => v = .b (icB t a b c d) ∧ ms = [] ∧ ns = []) := by
  have i1 : (a : Int) < 10 := by omega
  have i2 : (b : Int) < 10 := by omega
  have i3 : (c : Int) < 10 := by omega
  have i4 : (d : Int) < 10 := by omega
  have u1 : 0 + a * 10 + c * 1 < 100 := by omega
  have u2 : 0 + b * 10 + d * 1 < 100 := by omega
  have u3 : 0 + a * 10 + d * 1 < 100 := by omega
  have u4 : 0 + b * 10 + c * 1 < 100 := by omega
  have k1 := sq_colget ht a c
  have k2 := sq_colget ht b d
  have k3 := sq_colget ht a d
  have k4 := sq_colget ht b c
  refine acalls_of_body mix Try.func67 rfl fok67 (Nat.le_of_ble_eq_true rfl) ?_
  unfold abody
  by_cases h1 : cl t a c = cl t b d
  · have g1 : (cl t a c : Int) = cl t b d := by omega
    by_cases h2 : cl t a d = cl t b c
    · have g2 : (cl t a d : Int) = cl t b c := by omega
      simp only [absE, absL, absF, reduceCtorEq, ↓reduceIte, Nat.reduceEqDiff, Nat.reduceAdd, Nat.reduceLT, Nat.reduceMul, Nat.reduceSub, Nat.reduceLeDiff, Int.reduceLT, Int.reduceLE, Int.reduceEq, Option.isSome_some, implies_true, false_implies, Prod.mk.injEq, ne_eq, not_false_eq_true, not_true_eq_false, ge_iff_le, gt_iff_lt, Int.toNat_natCast, Int.reduceToNat, Int.cast_ofNat_Int, Int.natCast_nonneg, i1, i2, i3, i4, u1, u2, u3, u4, k1, k2, k3, k4, g1, g2, Try.f67, Try.results67]
      exact fin_true (by simp [icB, h1, h2])
    · have g2 : ¬(cl t a d : Int) = cl t b c := by omega
      simp only [absE, absL, absF, reduceCtorEq, ↓reduceIte, Nat.reduceEqDiff, Nat.reduceAdd, Nat.reduceLT, Nat.reduceMul, Nat.reduceSub, Nat.reduceLeDiff, Int.reduceLT, Int.reduceLE, Int.reduceEq, Option.isSome_some, implies_true, false_implies, Prod.mk.injEq, ne_eq, not_false_eq_true, not_true_eq_false, ge_iff_le, gt_iff_lt, Int.toNat_natCast, Int.reduceToNat, Int.cast_ofNat_Int, Int.natCast_nonneg, i1, i2, i3, i4, u1, u2, u3, u4, k1, k2, k3, k4, g1, g2, Try.f67, Try.results67]
      exact fin_false (by simp [icB, h1, h2])
  · have g1 : ¬(cl t a c : Int) = cl t b d := by omega
    simp only [absE, absL, absF, reduceCtorEq, ↓reduceIte, Nat.reduceEqDiff, Nat.reduceAdd, Nat.reduceLT, Nat.reduceMul, Nat.reduceSub, Nat.reduceLeDiff, Int.reduceLT, Int.reduceLE, Int.reduceEq, Option.isSome_some, implies_true, false_implies, Prod.mk.injEq, ne_eq, not_false_eq_true, not_true_eq_false, ge_iff_le, gt_iff_lt, Int.toNat_natCast, Int.reduceToNat, Int.cast_ofNat_Int, Int.natCast_nonneg, i1, i2, i3, i4, u1, u2, u3, u4, k1, k2, k3, k4, g1, Try.f67, Try.results67]
    exact fin_false (by simp [icB, h1])
theorem specIc_ok (N : Nat) (t : List Int) (a b c d : Nat) (ht : Bytes 100 t) (ha : a < 10) (hb : b < 10) (hc : c < 10) (hd : d < 10) :
    ACalls Try.prog 64 [.agg (sqS N t), .i .i64 a, .i .i64 b, .i .i64 c, .i .i64 d] [] (fun v ms ns => v = .b (icB t a b c d) ∧ ms = [] ∧ ns = []) := by
  have i1 : (a : Int) < 10 := by omega
  have i2 : (b : Int) < 10 := by omega
  have i3 : (c : Int) < 10 := by omega
  have i4 : (d : Int) < 10 := by omega
  have u1 : 0 + a * 10 + c * 1 < 100 := by omega
  have u2 : 0 + b * 10 + d * 1 < 100 := by omega
  have u3 : 0 + a * 10 + d * 1 < 100 := by omega
  have u4 : 0 + b * 10 + c * 1 < 100 := by omega
  have k1 := sq_colget ht a c
  have k2 := sq_colget ht b d
  have k3 := sq_colget ht a d
  have k4 := sq_colget ht b c
  refine acalls_of_body mix Try.func64 rfl fok64 (Nat.le_of_ble_eq_true rfl) ?_
  unfold abody
  by_cases h1 : cl t a c = cl t b d
  · have g1 : (cl t a c : Int) = cl t b d := by omega
    by_cases h2 : cl t a d = cl t b c
    · have g2 : (cl t a d : Int) = cl t b c := by omega
      simp only [absE, absL, absF, reduceCtorEq, ↓reduceIte, Nat.reduceEqDiff, Nat.reduceAdd, Nat.reduceLT, Nat.reduceMul, Nat.reduceSub, Nat.reduceLeDiff, Int.reduceLT, Int.reduceLE, Int.reduceEq, Option.isSome_some, implies_true, false_implies, Prod.mk.injEq, ne_eq, not_false_eq_true, not_true_eq_false, ge_iff_le, gt_iff_lt, Int.toNat_natCast, Int.reduceToNat, Int.cast_ofNat_Int, Int.natCast_nonneg, i1, i2, i3, i4, u1, u2, u3, u4, k1, k2, k3, k4, g1, g2, Try.f64, Try.results64]
      exact fin_true (by simp [icB, h1, h2])
    · have g2 : ¬(cl t a d : Int) = cl t b c := by omega
      simp only [absE, absL, absF, reduceCtorEq, ↓reduceIte, Nat.reduceEqDiff, Nat.reduceAdd, Nat.reduceLT, Nat.reduceMul, Nat.reduceSub, Nat.reduceLeDiff, Int.reduceLT, Int.reduceLE, Int.reduceEq, Option.isSome_some, implies_true, false_implies, Prod.mk.injEq, ne_eq, not_false_eq_true, not_true_eq_false, ge_iff_le, gt_iff_lt, Int.toNat_natCast, Int.reduceToNat, Int.cast_ofNat_Int, Int.natCast_nonneg, i1, i2, i3, i4, u1, u2, u3, u4, k1, k2, k3, k4, g1, g2, Try.f64, Try.results64]
      exact fin_false (by simp [icB, h1, h2])
  · have g1 : ¬(cl t a c : Int) = cl t b d := by omega
    simp only [absE, absL, absF, reduceCtorEq, ↓reduceIte, Nat.reduceEqDiff, Nat.reduceAdd, Nat.reduceLT, Nat.reduceMul, Nat.reduceSub, Nat.reduceLeDiff, Int.reduceLT, Int.reduceLE, Int.reduceEq, Option.isSome_some, implies_true, false_implies, Prod.mk.injEq, ne_eq, not_false_eq_true, not_true_eq_false, ge_iff_le, gt_iff_lt, Int.toNat_natCast, Int.reduceToNat, Int.cast_ofNat_Int, Int.natCast_nonneg, i1, i2, i3, i4, u1, u2, u3, u4, k1, k2, k3, k4, g1, Try.f64, Try.results64]
    exact fin_false (by simp [icB, h1])
/-- Four numbers: two ascending rows, two ascending columns. -/
def FourP (N : Nat) (xs : List Int) : Prop := xs.length = 4 ∧ ListP N xs 0 2 ∧ ListP N xs 2 2
open Classical in
noncomputable def fourB (N : Nat) (xs : List Int) : Bool := decide (FourP N xs)
theorem fourB_true {N : Nat} {xs : List Int} (h : FourP N xs) : fourB N xs = true := by unfold fourB; exact @decide_eq_true _ (_) h
theorem fourB_false {N : Nat} {xs : List Int} (h : ¬FourP N xs) : fourB N xs = false := by unfold fourB; exact @decide_eq_false _ (_) h
theorem fourB_iff {N : Nat} {xs : List Int} : fourB N xs = true ↔ FourP N xs := by unfold fourB; exact @decide_eq_true_iff _ (_)
theorem listP_two {N : Nat} {xs : List Int} {off : Nat} : ListP N xs off 2 ↔ (0 ≤ xs.getD off 0 ∧ xs.getD off 0 ≤ (N : Int) - 1) ∧ (0 ≤ xs.getD (off + 1) 0 ∧ xs.getD (off + 1) 0 ≤ (N : Int) - 1) ∧ xs.getD off 0 < xs.getD (off + 1) 0 := by
  constructor
  · intro h
    have h0 := h 0 (by omega)
    have h1 := h 1 (by omega)
    simp only [okAt, Nat.zero_mul, Nat.one_mul, Nat.add_zero, Nat.sub_self, Nat.lt_irrefl, false_implies, and_true, Nat.zero_lt_one, true_implies] at h0 h1
    exact ⟨h0, h1.1, h1.2⟩
  · rintro ⟨h0, h1, h2⟩ i hi
    match i, hi with
    | 0, _ => exact ⟨by simpa [okAt] using h0, fun h => absurd h (by omega)⟩
    | 1, _ => exact ⟨by simpa [okAt] using h1, fun _ => by simpa using h2⟩
theorem fourP_cells {N : Nat} {xs : List Int} (h : FourP N xs) : ∃ a b c d : Nat, xs = [(a : Int), (b : Int), (c : Int), (d : Int)] ∧ a < N ∧ b < N ∧ c < N ∧ d < N ∧ a < b ∧ c < d := by
  obtain ⟨hl, h1, h2⟩ := h
  match xs, hl with
  | [x, y, z, w], _ =>
    rw [listP_two] at h1 h2
    simp at h1 h2
    exact ⟨x.toNat, y.toNat, z.toNat, w.toNat, by simp; omega, by omega, by omega, by omega, by omega, by omega, by omega⟩
theorem swT_get {t : List Int} {a b : Nat} {p : Nat → Bool} (ht : Bytes 100 t) (ha : a < 10) (hb : b < 10) (hab : a ≠ b) {x z : Nat} (hx : x < 10) (hz : z < 10) : ∀ {y}, y ≤ 10 →
    (swT t a b p y).getD (x * 10 + z) 0 = if z < y ∧ p z = true then (if x = b then (cl t a z : Int) else if x = a then (cl t b z : Int) else t.getD (x * 10 + z) 0) else t.getD (x * 10 + z) 0
  | 0, _ => by rw [if_neg (by omega)]; rfl
  | y + 1, hy => by
    have hl : ∀ {y}, (swT t a b p y).length = 100 := by intro y; rw [swT_len, ht.len]
    unfold swT
    cases hp : p y
    · simp only [Bool.false_eq_true, if_false]
      rw [swT_get ht ha hb hab hx hz (by omega)]
      by_cases e : z = y
      · subst e; rw [if_neg (by omega), if_neg (by rw [hp]; simp)]
      · by_cases c : z < y ∧ p z = true
        · have c' : z < y + 1 ∧ p z = true := ⟨by omega, c.2⟩
          rw [if_pos c, if_pos c']
        · rw [if_neg c, if_neg (fun c2 => c ⟨by omega, c2.2⟩)]
    · simp only [if_true]
      rw [getD_set_int (by rw [List.length_set, hl]; omega), getD_set_int (by rw [hl]; omega), swT_get ht ha hb hab hx hz (by omega)]
      by_cases e : z = y
      · subst e
        rw [if_pos (show z < z + 1 ∧ p z = true from ⟨by omega, hp⟩)]
        by_cases e1 : x = b
        · subst e1; rw [if_pos (by omega), if_pos rfl]
        · rw [if_neg (by omega), if_neg e1]
          by_cases e2 : x = a
          · subst e2; rw [if_pos (by omega), if_pos rfl]
          · rw [if_neg (by omega), if_neg e2, if_neg (by omega)]
      · rw [if_neg (by omega), if_neg (by omega)]
        by_cases c : z < y ∧ p z = true
        · have c' : z < y + 1 ∧ p z = true := ⟨by omega, c.2⟩
          rw [if_pos c, if_pos c']
        · rw [if_neg c, if_neg (fun c2 => c ⟨by omega, c2.2⟩)]
def icT (t : List Int) (a b c d : Nat) : List Int := (((t.set (0 + a * 10 + c * 1) (cl t a d)).set (0 + a * 10 + d * 1) (cl t a c)).set (0 + b * 10 + c * 1) (cl t a c)).set (0 + b * 10 + d * 1) (cl t a d)
theorem icT_eq {N : Nat} {t : List Int} {a b c d : Nat} (ht : Bytes 100 t) (hN : N ≤ 10) (ha : a < N) (hb : b < N) (hc : c < N) (hd : d < N) (hab : a < b) (hcd : c < d) (hi : icB t a b c d = true) :
    swT t a b (2 ^ c ||| 2 ^ d).testBit N = icT t a b c d := by
  simp only [icB, Bool.and_eq_true, decide_eq_true_eq] at hi
  have hl := ht.len
  refine table_ext (by rw [swT_len, hl]) (by simp [icT, hl]) fun x z hx hz => ?_
  rw [swT_get ht (by omega) (by omega) (by omega) hx hz hN]
  unfold icT
  rw [getD_set_int (by simp only [List.length_set, hl]; omega), getD_set_int (by simp only [List.length_set, hl]; omega), getD_set_int (by simp only [List.length_set, hl]; omega), getD_set_int (by rw [hl]; omega)]
  have hbit : (2 ^ c ||| 2 ^ d).testBit z = true ↔ z = c ∨ z = d := by
    rw [Nat.testBit_or, Bool.or_eq_true, Nat.testBit_two_pow, Nat.testBit_two_pow, decide_eq_true_iff, decide_eq_true_iff]
    omega
  have q1 : (0 + a * 10 + c * 1 = x * 10 + z) ↔ (x = a ∧ z = c) := by omega
  have q2 : (0 + a * 10 + d * 1 = x * 10 + z) ↔ (x = a ∧ z = d) := by omega
  have q3 : (0 + b * 10 + c * 1 = x * 10 + z) ↔ (x = b ∧ z = c) := by omega
  have q4 : (0 + b * 10 + d * 1 = x * 10 + z) ↔ (x = b ∧ z = d) := by omega
  simp only [q1, q2, q3, q4, hbit]
  have hab' : ¬a = b := by omega
  have hba' : ¬b = a := by omega
  have hcd' : ¬c = d := by omega
  have hdc' : ¬d = c := by omega
  by_cases e1 : z = c
  · subst e1
    by_cases e2 : x = b
    · subst e2; simp [hcd', hba', hc]
    · by_cases e3 : x = a
      · subst e3; simp [hcd', e2, hc, hi.2]
      · simp [e2, e3]
  · by_cases e1' : z = d
    · subst e1'
      by_cases e2 : x = b
      · subst e2; simp [hdc', hba', hd]
      · by_cases e3 : x = a
        · subst e3; simp [hdc', e2, hd, hi.1]
        · simp [e2, e3]
    · simp [e1, e1']
noncomputable def swicode (n : Int) (t xs : List Int) : Int := if sqB n t then (if fourB n.toNat xs then (if icB t (xs.getD 0 0).toNat (xs.getD 1 0).toNat (xs.getD 2 0).toNat (xs.getD 3 0).toNat then 0 else 5) else 2) else 1
noncomputable def swiAV (n : Int) (t xs : List Int) : AV := resSq (swicode n t xs) n (icT t (xs.getD 0 0).toNat (xs.getD 1 0).toNat (xs.getD 2 0).toNat (xs.getD 3 0).toNat)
theorem swi_form (n : Int) (t xs : List Int) (ht : Bytes 100 t) : ∃ k s e, s.length = 100 ∧ swiAV n t xs = .tup [.agg (sqS k s), .i .i64 e] := resSq_form _ _ (by simp [icT, ht.len])
theorem implSwi_ok (n : Int) (t xs : List Int) (k : Nat) (ht : Bytes 100 t) (hx : xs.length = k) (hk : k ≤ 2 ^ 20) :
    ACalls Try.prog 33 [.agg (sqS n t), .ref (.sl 0 0 0 0 k 1)] [.lv true [(0, .ints .i64 k xs)]] (fun v ms ns => v = swiAV n t xs ∧ ms = [.lv true [(0, .ints .i64 k xs)]] ∧ ns = []) := by
  unfold swiAV
  refine acalls_of_body mix Try.func33 rfl fok33 (Nat.le_of_ble_eq_true rfl) ?_
  unfold abody
  simp only [absE, absL, absF, reduceCtorEq, ↓reduceIte, Nat.reduceEqDiff, Nat.reduceAdd, Nat.reduceLT, Nat.reduceMul, Nat.reduceSub, Nat.reduceLeDiff, Int.reduceLT, Int.reduceLE, Int.reduceEq, Option.isSome_some, implies_true, false_implies, Prod.mk.injEq, ne_eq, not_false_eq_true, not_true_eq_false, ge_iff_le, gt_iff_lt, Int.toNat_natCast, Int.reduceToNat, Int.cast_ofNat_Int, Int.natCast_nonneg, Try.f33]
  refine CallsVia.none (isSquare_ok n t ht) ?_
  rintro _ _ _ ⟨rfl, rfl, rfl⟩
  cases h1 : sqB n t
  · have e : swicode n t xs = 1 := by simp [swicode, h1]
    simp only [absE, absL, absF, reduceCtorEq, ↓reduceIte, Nat.reduceEqDiff, Nat.reduceAdd, Nat.reduceLT, Nat.reduceMul, Nat.reduceSub, Nat.reduceLeDiff, Int.reduceLT, Int.reduceLE, Int.reduceEq, Option.isSome_some, implies_true, false_implies, Prod.mk.injEq, ne_eq, not_false_eq_true, not_true_eq_false, ge_iff_le, gt_iff_lt, Int.toNat_natCast, Int.reduceToNat, Int.cast_ofNat_Int, Int.natCast_nonneg, Try.results33]
    exact ⟨[], by simp, by simp, by simp [renV, renVs, renSegs, renSg, resSq, e, renBlk]⟩
  · have hs := sqB_iff.1 h1
    obtain ⟨N, rfl⟩ : ∃ N : Nat, n = N := ⟨n.toNat, by have := hs.1; omega⟩
    have hN := hs.le
    by_cases h4 : k = 4
    · subst h4
      simp only [absE, absL, absF, reduceCtorEq, ↓reduceIte, Nat.reduceEqDiff, Nat.reduceAdd, Nat.reduceLT, Nat.reduceMul, Nat.reduceSub, Nat.reduceLeDiff, Int.reduceLT, Int.reduceLE, Int.reduceEq, Option.isSome_some, implies_true, false_implies, Prod.mk.injEq, ne_eq, not_false_eq_true, not_true_eq_false, ge_iff_le, gt_iff_lt, Int.toNat_natCast, Int.reduceToNat, Int.cast_ofNat_Int, Int.natCast_nonneg]
      refine CallsX.args [(0, 0)] (isList_ok N t xs 4 0 2 hN hx (by omega) (by omega)) (by simp) (by simp [Mem.get]) rfl rfl ?_
      cases h5 : listB N xs 0 2
      · have e : swicode N t xs = 2 := by
          have : fourB N xs = false := fourB_false fun hh => by rw [listB_true hh.2.1] at h5; cases h5
          simp [swicode, h1, this]
        simp only [absE, absL, absF, reduceCtorEq, ↓reduceIte, Nat.reduceEqDiff, Nat.reduceAdd, Nat.reduceLT, Nat.reduceMul, Nat.reduceSub, Nat.reduceLeDiff, Int.reduceLT, Int.reduceLE, Int.reduceEq, Option.isSome_some, implies_true, false_implies, Prod.mk.injEq, ne_eq, not_false_eq_true, not_true_eq_false, ge_iff_le, gt_iff_lt, Int.toNat_natCast, Int.reduceToNat, Int.cast_ofNat_Int, Int.natCast_nonneg, Try.results33]
        repeat refine And.intro (by decide +kernel) ?_
        exact ⟨[], by simp, by simp, by simp [renV, renVs, renSegs, renSg, resSq, e, renBlk]⟩
      · simp only [absE, absL, absF, reduceCtorEq, ↓reduceIte, Nat.reduceEqDiff, Nat.reduceAdd, Nat.reduceLT, Nat.reduceMul, Nat.reduceSub, Nat.reduceLeDiff, Int.reduceLT, Int.reduceLE, Int.reduceEq, Option.isSome_some, implies_true, false_implies, Prod.mk.injEq, ne_eq, not_false_eq_true, not_true_eq_false, ge_iff_le, gt_iff_lt, Int.toNat_natCast, Int.reduceToNat, Int.cast_ofNat_Int, Int.natCast_nonneg]
        repeat refine And.intro (by decide +kernel) ?_
        refine CallsX.args [(0, 0)] (isList_ok N t xs 4 2 2 hN hx (by omega) (by omega)) (by simp) (by simp [Mem.get]) rfl rfl ?_
        cases h6 : listB N xs 2 2
        · have e : swicode N t xs = 2 := by
            have : fourB N xs = false := fourB_false fun hh => by rw [listB_true hh.2.2] at h6; cases h6
            simp [swicode, h1, this]
          simp only [absE, absL, absF, reduceCtorEq, ↓reduceIte, Nat.reduceEqDiff, Nat.reduceAdd, Nat.reduceLT, Nat.reduceMul, Nat.reduceSub, Nat.reduceLeDiff, Int.reduceLT, Int.reduceLE, Int.reduceEq, Option.isSome_some, implies_true, false_implies, Prod.mk.injEq, ne_eq, not_false_eq_true, not_true_eq_false, ge_iff_le, gt_iff_lt, Int.toNat_natCast, Int.reduceToNat, Int.cast_ofNat_Int, Int.natCast_nonneg, Try.results33]
          repeat refine And.intro (by decide +kernel) ?_
          exact ⟨[], by simp, by simp, by simp [renV, renVs, renSegs, renSg, resSq, e, renBlk]⟩
        · have hF : FourP N xs := ⟨hx, listB_iff.1 h5, listB_iff.1 h6⟩
          obtain ⟨a, b, c, d, rfl, ha, hb, hc, hd, hab, hcd⟩ := fourP_cells hF
          have w1 := wrap_u8n (show a < 256 by omega)
          have w2 := wrap_u8n (show b < 256 by omega)
          have w3 := wrap_u8n (show c < 256 by omega)
          have w4 := wrap_u8n (show d < 256 by omega)
          simp only [absE, absL, absF, reduceCtorEq, ↓reduceIte, Nat.reduceEqDiff, Nat.reduceAdd, Nat.reduceLT, Nat.reduceMul, Nat.reduceSub, Nat.reduceLeDiff, Int.reduceLT, Int.reduceLE, Int.reduceEq, Option.isSome_some, implies_true, false_implies, Prod.mk.injEq, ne_eq, not_false_eq_true, not_true_eq_false, ge_iff_le, gt_iff_lt, Int.toNat_natCast, Int.reduceToNat, Int.cast_ofNat_Int, Int.natCast_nonneg, w1, w2, w3, w4]
          repeat refine And.intro (by decide +kernel) ?_
          refine CallsVia.none (implIc_ok N t a b c d ht (by omega) (by omega) (by omega) (by omega)) ?_
          rintro _ _ _ ⟨rfl, rfl, rfl⟩
          cases h7 : icB t a b c d
          · have e : swicode N t [(a : Int), (b : Int), (c : Int), (d : Int)] = 5 := by simp [swicode, h1, fourB_true hF, h7]
            simp only [absE, absL, absF, reduceCtorEq, ↓reduceIte, Nat.reduceEqDiff, Nat.reduceAdd, Nat.reduceLT, Nat.reduceMul, Nat.reduceSub, Nat.reduceLeDiff, Int.reduceLT, Int.reduceLE, Int.reduceEq, Option.isSome_some, implies_true, false_implies, Prod.mk.injEq, ne_eq, not_false_eq_true, not_true_eq_false, ge_iff_le, gt_iff_lt, Int.toNat_natCast, Int.reduceToNat, Int.cast_ofNat_Int, Int.natCast_nonneg, Try.results33]
            exact ⟨[], by simp, by simp, by simp [renV, renVs, renSegs, renSg, resSq, e, renBlk]⟩
          · have e : swicode N t [(a : Int), (b : Int), (c : Int), (d : Int)] = 0 := by simp [swicode, h1, fourB_true hF, h7]
            have pc : (2 : Nat) ^ c < 2 ^ 10 := Nat.pow_lt_pow_right (by decide) (by omega)
            have pd : (2 : Nat) ^ d < 2 ^ 10 := Nat.pow_lt_pow_right (by decide) (by omega)
            have s1 := wrap_shl (c := c) (by omega)
            have s2 := wrap_shl (c := d) (by omega)
            have o1 := wrap_or (a := 2 ^ c) (b := 2 ^ d) (by omega) (by omega)
            have z1 : (0 : Int) ≤ (c : Int) := by omega
            have z2 : (0 : Int) ≤ (d : Int) := by omega
            have h62 : 2 ^ c ||| 2 ^ d < 2 ^ 62 := Nat.lt_trans (Nat.or_lt_two_pow pc pd) (by decide)
            have key := icT_eq ht hN ha hb hc hd hab hcd h7
            simp only [absE, absL, absF, reduceCtorEq, ↓reduceIte, Nat.reduceEqDiff, Nat.reduceAdd, Nat.reduceLT, Nat.reduceMul, Nat.reduceSub, Nat.reduceLeDiff, Int.reduceLT, Int.reduceLE, Int.reduceEq, Option.isSome_some, implies_true, false_implies, Prod.mk.injEq, ne_eq, not_false_eq_true, not_true_eq_false, ge_iff_le, gt_iff_lt, Int.toNat_natCast, Int.reduceToNat, Int.cast_ofNat_Int, Int.natCast_nonneg, z1, z2, s1, s2, o1]
            refine CallsVia.none (exchange_ok N t a b (2 ^ c ||| 2 ^ d) ht hN (by omega) (by omega) h62) ?_
            rintro _ _ _ ⟨rfl, rfl, rfl⟩
            simp only [absE, absL, absF, reduceCtorEq, ↓reduceIte, Nat.reduceEqDiff, Nat.reduceAdd, Nat.reduceLT, Nat.reduceMul, Nat.reduceSub, Nat.reduceLeDiff, Int.reduceLT, Int.reduceLE, Int.reduceEq, Option.isSome_some, implies_true, false_implies, Prod.mk.injEq, ne_eq, not_false_eq_true, not_true_eq_false, ge_iff_le, gt_iff_lt, Int.toNat_natCast, Int.reduceToNat, Int.cast_ofNat_Int, Int.natCast_nonneg, Try.results33]
            exact ⟨[], by simp, by simp, by simp [renV, renVs, renSegs, renSg, resSq, e, key, renBlk]⟩
    · have g4 : ¬(k : Int) = 4 := by omega
      have e : swicode N t xs = 2 := by
        have : fourB N xs = false := fourB_false fun hh => h4 (by rw [← hx]; exact hh.1)
        simp [swicode, h1, this]
      simp only [absE, absL, absF, reduceCtorEq, ↓reduceIte, Nat.reduceEqDiff, Nat.reduceAdd, Nat.reduceLT, Nat.reduceMul, Nat.reduceSub, Nat.reduceLeDiff, Int.reduceLT, Int.reduceLE, Int.reduceEq, Option.isSome_some, implies_true, false_implies, Prod.mk.injEq, ne_eq, not_false_eq_true, not_true_eq_false, ge_iff_le, gt_iff_lt, Int.toNat_natCast, Int.reduceToNat, Int.cast_ofNat_Int, Int.natCast_nonneg, g4, Try.results33]
      repeat refine And.intro (by decide +kernel) ?_
      exact ⟨[], by simp, by simp, by simp [renV, renVs, renSegs, renSg, resSq, e, renBlk]⟩
theorem l09Four_ok (n : Int) (t xs : List Int) (k : Nat) (ht : Bytes 100 t) (hx : xs.length = k) (hk : k ≤ 2 ^ 20) :
    ACalls Try.prog 63 [.agg (sqS n t), .ref (.sl 0 0 0 0 k 1)] [.lv true [(0, .ints .i64 k xs)]] (fun v ms ns => v = .i .i64 (if sqB n t then (if fourB n.toNat xs then 0 else 2) else 1) ∧ ms = [.lv true [(0, .ints .i64 k xs)]] ∧ ns = []) := by
  refine acalls_of_body mix Try.func63 rfl fok63 (Nat.le_of_ble_eq_true rfl) ?_
  unfold abody
  simp only [absE, absL, absF, reduceCtorEq, ↓reduceIte, Nat.reduceEqDiff, Nat.reduceAdd, Nat.reduceLT, Nat.reduceMul, Nat.reduceSub, Nat.reduceLeDiff, Int.reduceLT, Int.reduceLE, Int.reduceEq, Option.isSome_some, implies_true, false_implies, Prod.mk.injEq, ne_eq, not_false_eq_true, not_true_eq_false, ge_iff_le, gt_iff_lt, Int.toNat_natCast, Int.reduceToNat, Int.cast_ofNat_Int, Int.natCast_nonneg, Try.f63]
  refine CallsVia.none (l01Is_ok n t ht) ?_
  rintro _ _ _ ⟨rfl, rfl, rfl⟩
  cases h1 : sqB n t
  · simp only [absE, absL, absF, reduceCtorEq, ↓reduceIte, Nat.reduceEqDiff, Nat.reduceAdd, Nat.reduceLT, Nat.reduceMul, Nat.reduceSub, Nat.reduceLeDiff, Int.reduceLT, Int.reduceLE, Int.reduceEq, Option.isSome_some, implies_true, false_implies, Prod.mk.injEq, ne_eq, not_false_eq_true, not_true_eq_false, ge_iff_le, gt_iff_lt, Int.toNat_natCast, Int.reduceToNat, Int.cast_ofNat_Int, Int.natCast_nonneg, Try.results63]
    exact ⟨[], by simp, by simp, by simp [renV, renVs, renSegs, renSg, renBlk, h1]⟩
  · have hs := sqB_iff.1 h1
    obtain ⟨N, rfl⟩ : ∃ N : Nat, n = N := ⟨n.toNat, by have := hs.1; omega⟩
    have hN := hs.le
    have wn : IntKind.i64.wrap ((N : Int) - 1) = (N : Int) - 1 := wrap_i64 (by omega) (by omega)
    by_cases h4 : k = 4
    · subst h4
      match xs, hx with
      | [a, b, c, d], _ =>
      by_cases h5 : b ≤ a
      · have hF : fourB N [a, b, c, d] = false := fourB_false fun hh => by have := (listP_two.1 hh.2.1).2.2; simp at this; omega
        simp only [absE, absL, absF, reduceCtorEq, ↓reduceIte, Nat.reduceEqDiff, Nat.reduceAdd, Nat.reduceLT, Nat.reduceMul, Nat.reduceSub, Nat.reduceLeDiff, Int.reduceLT, Int.reduceLE, Int.reduceEq, Option.isSome_some, implies_true, false_implies, Prod.mk.injEq, ne_eq, not_false_eq_true, not_true_eq_false, ge_iff_le, gt_iff_lt, Int.toNat_natCast, Int.reduceToNat, Int.cast_ofNat_Int, Int.natCast_nonneg, h5, Try.results63]
        repeat refine And.intro (by decide +kernel) ?_
        exact ⟨[], by simp, by simp, by simp [renV, renVs, renSegs, renSg, renBlk, h1, hF]⟩
      · by_cases h6 : d ≤ c
        · have hF : fourB N [a, b, c, d] = false := fourB_false fun hh => by have := (listP_two.1 hh.2.2).2.2; simp at this; omega
          simp only [absE, absL, absF, reduceCtorEq, ↓reduceIte, Nat.reduceEqDiff, Nat.reduceAdd, Nat.reduceLT, Nat.reduceMul, Nat.reduceSub, Nat.reduceLeDiff, Int.reduceLT, Int.reduceLE, Int.reduceEq, Option.isSome_some, implies_true, false_implies, Prod.mk.injEq, ne_eq, not_false_eq_true, not_true_eq_false, ge_iff_le, gt_iff_lt, Int.toNat_natCast, Int.reduceToNat, Int.cast_ofNat_Int, Int.natCast_nonneg, h5, h6, Try.results63]
          repeat refine And.intro (by decide +kernel) ?_
          exact ⟨[], by simp, by simp, by simp [renV, renVs, renSegs, renSg, renBlk, h1, hF]⟩
        · simp only [absE, absL, absF, reduceCtorEq, ↓reduceIte, Nat.reduceEqDiff, Nat.reduceAdd, Nat.reduceLT, Nat.reduceMul, Nat.reduceSub, Nat.reduceLeDiff, Int.reduceLT, Int.reduceLE, Int.reduceEq, Option.isSome_some, implies_true, false_implies, Prod.mk.injEq, ne_eq, not_false_eq_true, not_true_eq_false, ge_iff_le, gt_iff_lt, Int.toNat_natCast, Int.reduceToNat, Int.cast_ofNat_Int, Int.natCast_nonneg, h5, h6]
          repeat refine And.intro (by decide +kernel) ?_
          refine awpLoop.intro (fun i : Nat => [(1, .ref (.sl 0 0 0 0 4 1)), (2, .ref (.ptr 1 0 0 0)), (5, .i .i64 i)]) (fun i => ⟨[.lv true [(0, .ints .i64 4 [a, b, c, d])]], [((1, 0), .lv true (sqS N t))], 40⟩)
            (fun i => i ≤ 4 ∧ ∀ j, j < i → 0 ≤ [a, b, c, d].getD j 0 ∧ [a, b, c, d].getD j 0 ≤ (N : Int) - 1) (fun i => 4 - i) 0 ⟨by omega, fun j hj => absurd hj (by omega)⟩ ⟨[((1,0),(1,0))], rfl, ?_, ?_⟩ ?_
          · simp [wkEnv, lk, renV, renAt, renTo]
          · simp [wkMem, wkLoc, Mem.get, assoc, renBlk, renSegs, renSg, renTo]
          · rintro i ⟨hi, hp⟩
            by_cases h7 : (i : Int) < 4
            · have w := wrap_i64s (show i < 2 ^ 62 by omega)
              have v1 : 0 + i * 1 < 4 := by omega
              have e0 : 0 + i * 1 = i := by omega
              simp only [absE, absL, absF, reduceCtorEq, ↓reduceIte, Nat.reduceEqDiff, Nat.reduceAdd, Nat.reduceLT, Nat.reduceMul, Nat.reduceSub, Nat.reduceLeDiff, Int.reduceLT, Int.reduceLE, Int.reduceEq, Option.isSome_some, implies_true, false_implies, Prod.mk.injEq, ne_eq, not_false_eq_true, not_true_eq_false, ge_iff_le, gt_iff_lt, Int.toNat_natCast, Int.reduceToNat, Int.cast_ofNat_Int, Int.natCast_nonneg, h7, v1, wn]
              refine CallsX.none (l01In_ok ([a, b, c, d].getD (0 + i * 1) 0) 0 ((N : Int) - 1)) ?_
              by_cases hw : 0 ≤ [a, b, c, d].getD (0 + i * 1) 0 ∧ [a, b, c, d].getD (0 + i * 1) 0 ≤ (N : Int) - 1
              · simp only [absE, absL, absF, reduceCtorEq, ↓reduceIte, Nat.reduceEqDiff, Nat.reduceAdd, Nat.reduceLT, Nat.reduceMul, Nat.reduceSub, Nat.reduceLeDiff, Int.reduceLT, Int.reduceLE, Int.reduceEq, Option.isSome_some, implies_true, false_implies, Prod.mk.injEq, ne_eq, not_false_eq_true, not_true_eq_false, ge_iff_le, gt_iff_lt, Int.toNat_natCast, Int.reduceToNat, Int.cast_ofNat_Int, Int.natCast_nonneg, hw, and_self]
                refine LoopNext.intro (i + 1) ⟨by omega, fun j hj => ?_⟩ (by omega) ⟨[((1,0),(1,0))], rfl, ?_, ?_⟩
                · by_cases ej : j = i
                  · subst ej; rw [e0] at hw; exact hw
                  · exact hp j (by omega)
                · simp [wkEnv, lk, renV, renAt, renTo, w]
                · simp [wkMem, wkLoc, Mem.get, assoc, renBlk, renSegs, renSg, renTo, w]
              · have hF : fourB N [a, b, c, d] = false := fourB_false fun hh => by
                  have g1 := listP_two.1 hh.2.1
                  have g2 := listP_two.1 hh.2.2
                  rw [e0] at hw
                  apply hw
                  match i, v1 with
                  | 0, _ => exact g1.1
                  | 1, _ => exact g1.2.1
                  | 2, _ => exact g2.1
                  | 3, _ => exact g2.2.1
                simp only [absE, absL, absF, reduceCtorEq, ↓reduceIte, Nat.reduceEqDiff, Nat.reduceAdd, Nat.reduceLT, Nat.reduceMul, Nat.reduceSub, Nat.reduceLeDiff, Int.reduceLT, Int.reduceLE, Int.reduceEq, Option.isSome_some, implies_true, false_implies, Prod.mk.injEq, ne_eq, not_false_eq_true, not_true_eq_false, ge_iff_le, gt_iff_lt, Int.toNat_natCast, Int.reduceToNat, Int.cast_ofNat_Int, Int.natCast_nonneg, hw, Try.results63]
                exact ⟨[], by simp, by simp, by simp [renV, renVs, renSegs, renSg, renBlk, h1, hF]⟩
            · have hF : fourB N [a, b, c, d] = true := fourB_true ⟨rfl, listP_two.2 ⟨hp 0 (by omega), hp 1 (by omega), by simp; omega⟩, listP_two.2 ⟨hp 2 (by omega), hp 3 (by omega), by simp; omega⟩⟩
              simp only [absE, absL, absF, reduceCtorEq, ↓reduceIte, Nat.reduceEqDiff, Nat.reduceAdd, Nat.reduceLT, Nat.reduceMul, Nat.reduceSub, Nat.reduceLeDiff, Int.reduceLT, Int.reduceLE, Int.reduceEq, Option.isSome_some, implies_true, false_implies, Prod.mk.injEq, ne_eq, not_false_eq_true, not_true_eq_false, ge_iff_le, gt_iff_lt, Int.toNat_natCast, Int.reduceToNat, Int.cast_ofNat_Int, Int.natCast_nonneg, h7, Try.results63]
              exact ⟨[], by simp, by simp, by simp [renV, renVs, renSegs, renSg, renBlk, h1, hF]⟩
    · have g4 : ¬(k : Int) = 4 := by omega
      have hF : fourB N xs = false := fourB_false fun hh => h4 (by rw [← hx]; exact hh.1)
      simp only [absE, absL, absF, reduceCtorEq, ↓reduceIte, Nat.reduceEqDiff, Nat.reduceAdd, Nat.reduceLT, Nat.reduceMul, Nat.reduceSub, Nat.reduceLeDiff, Int.reduceLT, Int.reduceLE, Int.reduceEq, Option.isSome_some, implies_true, false_implies, Prod.mk.injEq, ne_eq, not_false_eq_true, not_true_eq_false, ge_iff_le, gt_iff_lt, Int.toNat_natCast, Int.reduceToNat, Int.cast_ofNat_Int, Int.natCast_nonneg, g4, Try.results63]
      repeat refine And.intro (by decide +kernel) ?_
      exact ⟨[], by simp, by simp, by simp [renV, renVs, renSegs, renSg, renBlk, h1, hF]⟩
theorem specSwi_ok (n : Int) (t xs : List Int) (k : Nat) (ht : Bytes 100 t) (hx : xs.length = k) (hk : k ≤ 2 ^ 20) :
    ACalls Try.prog 32 [.agg (sqS n t), .ref (.sl 0 0 0 0 k 1)] [.lv true [(0, .ints .i64 k xs)]] (fun v ms ns => v = swiAV n t xs ∧ ms = [.lv true [(0, .ints .i64 k xs)]] ∧ ns = []) := by
  unfold swiAV
  refine acalls_of_body mix Try.func32 rfl fok32 (Nat.le_of_ble_eq_true rfl) ?_
  unfold abody
  simp only [absE, absL, absF, reduceCtorEq, ↓reduceIte, Nat.reduceEqDiff, Nat.reduceAdd, Nat.reduceLT, Nat.reduceMul, Nat.reduceSub, Nat.reduceLeDiff, Int.reduceLT, Int.reduceLE, Int.reduceEq, Option.isSome_some, implies_true, false_implies, Prod.mk.injEq, ne_eq, not_false_eq_true, not_true_eq_false, ge_iff_le, gt_iff_lt, Int.toNat_natCast, Int.reduceToNat, Int.cast_ofNat_Int, Int.natCast_nonneg, Try.f32]
  refine CallsVia.args [(0, 0)] (l09Four_ok n t xs k ht hx hk) (by simp) (by simp [Mem.get]) rfl rfl ?_
  rintro _ _ _ ⟨rfl, rfl, rfl⟩
  cases h1 : sqB n t
  · have e : swicode n t xs = 1 := by simp [swicode, h1]
    simp only [absE, absL, absF, reduceCtorEq, ↓reduceIte, Nat.reduceEqDiff, Nat.reduceAdd, Nat.reduceLT, Nat.reduceMul, Nat.reduceSub, Nat.reduceLeDiff, Int.reduceLT, Int.reduceLE, Int.reduceEq, Option.isSome_some, implies_true, false_implies, Prod.mk.injEq, ne_eq, not_false_eq_true, not_true_eq_false, ge_iff_le, gt_iff_lt, Int.toNat_natCast, Int.reduceToNat, Int.cast_ofNat_Int, Int.natCast_nonneg, Try.results32]
    exact ⟨[], by simp, by simp, by simp [renV, renVs, renSegs, renSg, resSq, e, renBlk]⟩
  · have hs := sqB_iff.1 h1
    obtain ⟨N, rfl⟩ : ∃ N : Nat, n = N := ⟨n.toNat, by have := hs.1; omega⟩
    have hN := hs.le
    have tN : (N : Int).toNat = N := by omega
    rw [tN]
    cases h2 : fourB N xs
    · have e : swicode N t xs = 2 := by simp [swicode, h1, h2]
      simp only [absE, absL, absF, reduceCtorEq, ↓reduceIte, Nat.reduceEqDiff, Nat.reduceAdd, Nat.reduceLT, Nat.reduceMul, Nat.reduceSub, Nat.reduceLeDiff, Int.reduceLT, Int.reduceLE, Int.reduceEq, Option.isSome_some, implies_true, false_implies, Prod.mk.injEq, ne_eq, not_false_eq_true, not_true_eq_false, ge_iff_le, gt_iff_lt, Int.toNat_natCast, Int.reduceToNat, Int.cast_ofNat_Int, Int.natCast_nonneg, Try.results32]
      exact ⟨[], by simp, by simp, by simp [renV, renVs, renSegs, renSg, resSq, e, renBlk]⟩
    · have hF := fourB_iff.1 h2
      obtain ⟨a, b, c, d, rfl, ha, hb, hc, hd, hab, hcd⟩ := fourP_cells hF
      obtain rfl : 4 = k := hx
      have i1 : (a : Int) < 10 := by omega
      have i2 : (b : Int) < 10 := by omega
      have i3 : (c : Int) < 10 := by omega
      have i4 : (d : Int) < 10 := by omega
      simp only [absE, absL, absF, reduceCtorEq, ↓reduceIte, Nat.reduceEqDiff, Nat.reduceAdd, Nat.reduceLT, Nat.reduceMul, Nat.reduceSub, Nat.reduceLeDiff, Int.reduceLT, Int.reduceLE, Int.reduceEq, Option.isSome_some, implies_true, false_implies, Prod.mk.injEq, ne_eq, not_false_eq_true, not_true_eq_false, ge_iff_le, gt_iff_lt, Int.toNat_natCast, Int.reduceToNat, Int.cast_ofNat_Int, Int.natCast_nonneg]
      repeat refine And.intro (by decide +kernel) ?_
      refine CallsVia.none (specIc_ok N t a b c d ht (by omega) (by omega) (by omega) (by omega)) ?_
      rintro _ _ _ ⟨rfl, rfl, rfl⟩
      cases h7 : icB t a b c d
      · have e : swicode N t [(a : Int), (b : Int), (c : Int), (d : Int)] = 5 := by simp [swicode, h1, fourB_true hF, h7]
        simp only [absE, absL, absF, reduceCtorEq, ↓reduceIte, Nat.reduceEqDiff, Nat.reduceAdd, Nat.reduceLT, Nat.reduceMul, Nat.reduceSub, Nat.reduceLeDiff, Int.reduceLT, Int.reduceLE, Int.reduceEq, Option.isSome_some, implies_true, false_implies, Prod.mk.injEq, ne_eq, not_false_eq_true, not_true_eq_false, ge_iff_le, gt_iff_lt, Int.toNat_natCast, Int.reduceToNat, Int.cast_ofNat_Int, Int.natCast_nonneg, Try.results32]
        exact ⟨[], by simp, by simp, by simp [renV, renVs, renSegs, renSg, resSq, e, renBlk]⟩
      · have e : swicode N t [(a : Int), (b : Int), (c : Int), (d : Int)] = 0 := by simp [swicode, h1, fourB_true hF, h7]
        have u1 : 0 + a * 10 + c * 1 < 100 := by omega
        have u3 : 0 + a * 10 + d * 1 < 100 := by omega
        have v1 : 0 + a * 10 + c * 1 + 1 ≤ 100 := by omega
        have v2 : 0 + a * 10 + d * 1 + 1 ≤ 100 := by omega
        have v3 : 0 + b * 10 + c * 1 + 1 ≤ 100 := by omega
        have v4 : 0 + b * 10 + d * 1 + 1 ≤ 100 := by omega
        have k1 := sq_colget ht a c
        have k3 := sq_colget ht a d
        simp only [absE, absL, absF, reduceCtorEq, ↓reduceIte, Nat.reduceEqDiff, Nat.reduceAdd, Nat.reduceLT, Nat.reduceMul, Nat.reduceSub, Nat.reduceLeDiff, Int.reduceLT, Int.reduceLE, Int.reduceEq, Option.isSome_some, implies_true, false_implies, Prod.mk.injEq, ne_eq, not_false_eq_true, not_true_eq_false, ge_iff_le, gt_iff_lt, Int.toNat_natCast, Int.reduceToNat, Int.cast_ofNat_Int, Int.natCast_nonneg, i1, i2, i3, i4, u1, u3, v1, v2, v3, v4, k1, k3, Try.results32]
        repeat refine And.intro (by decide +kernel) ?_
        exact ⟨[], by simp, by simp, by simp [renV, renVs, renSegs, renSg, renBlk, resSq, e, icT]⟩

end Go.Proofs.Ytnophcdinideaaa
