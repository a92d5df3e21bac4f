/-
Contracts of functions of the given program, by the abstract walk.
-/
import Derived.Test.YtgblnnodoabdeaaAbsY
import Derived.Test.YtgblnnodoabdeaaUd
namespace Go.Proofs.Ytgblnnodoabdeaa
open Go Go.Abs
set_option linter.unusedVariables false
set_option linter.unusedSectionVars false
set_option linter.unusedSimpArgs false
set_option maxRecDepth 100000
/-! the program's canonical loop -/
theorem shr_and {s x : Nat} (hs : s < 2 ^ 62) (hx : x < 64) : decide (IntKind.i64.wrap ((BitVec.ofInt IntKind.i64.bits ((s : Int).fdiv (2 ^ min x IntKind.i64.bits)) &&& BitVec.ofInt IntKind.i64.bits 1).toNat : Int) = 0) = !s.testBit x := by
  have e : min x IntKind.i64.bits = x := by show min x 64 = x; omega
  have e2 : (s : Int).fdiv (2 ^ x) = ((s / 2 ^ x : Nat) : Int) := by
    rw [Int.fdiv_eq_ediv_of_nonneg _ (by have := Nat.two_pow_pos x; exact_mod_cast Nat.zero_le _)]
    norm_cast
  have l : s / 2 ^ x ≤ s := Nat.div_le_self _ _
  have e3 : (BitVec.ofInt IntKind.i64.bits ((s / 2 ^ x : Nat) : Int) &&& BitVec.ofInt IntKind.i64.bits 1).toNat = s / 2 ^ x % 2 := by
    show (BitVec.ofInt 64 ((s / 2 ^ x : Nat) : Int) &&& BitVec.ofInt 64 ((1 : Nat) : Int)).toNat = _
    rw [BitVec.ofInt_natCast, BitVec.ofInt_natCast, BitVec.toNat_and, BitVec.toNat_ofNat, BitVec.toNat_ofNat, Nat.mod_eq_of_lt (show s / 2 ^ x < 2 ^ 64 by omega)]
    rw [Nat.mod_eq_of_lt (show 1 < 2 ^ 64 by decide), Nat.and_one_is_mod]
  rw [e, e2, e3, wrap_i64n (by omega), Nat.testBit_eq_decide_div_mod_eq]
  have := Nat.mod_two_eq_zero_or_one (s / 2 ^ x)
  rcases this with h | h <;> simp [h]
theorem mask_congr {f g : Nat → Nat} : ∀ {k : Nat}, (∀ i, i < k → f i = g i) → mask f k = mask g k
  | 0, _ => rfl
  | k + 1, h => by rw [mask, mask, mask_congr fun i hi => h i (by omega), h k (by omega)]
def Pre (N i : Nat) (p : List Int) : Prop := Bytes 10 p ∧ (∀ j, j < i → pl p j < N) ∧ (∀ a b, a < i → b < i → pl p a = pl p b → a = b) ∧ ∀ j, N ≤ j → j < 10 → pl p j = 0
theorem pl_set {p : List Int} (hp : p.length = 10) {i j x : Nat} (hi : i < 10) : pl (p.set i (x : Int)) j = if i = j then x else pl p j := by
  unfold pl
  rw [getD_set_int (by omega)]
  split
  · simp
  · rfl
theorem pre_perm {N : Nat} {p : List Int} (h1 : 1 ≤ N) (hN : N ≤ 10) (h : Pre N N p) : PermP N p :=
  PermP_of h1 hN (permF_of hN h.2.1 (fun i j hi hj e => h.2.2.1 i j hi hj e) fun i h10 hi => h.2.2.2 i (by omega) h10)
theorem pre_set {N i x : Nat} {p : List Int} (h : Pre N i p) (hi : i < N) (hN : N ≤ 10) (hx : x < N) (hu : ∀ j, j < i → pl p j ≠ x) : Pre N (i + 1) (p.set i (x : Int)) := by
  have e := fun j => pl_set (p := p) (j := j) (x := x) h.1.len (show i < 10 by omega)
  refine ⟨bytes_put h.1 (by omega) (by omega), fun j hj => ?_, fun a b ha hb he => ?_, fun j hj h10 => ?_⟩
  · rw [e]; split
    · exact hx
    · exact h.2.1 j (by omega)
  · rw [e, e] at he
    by_cases a1 : i = a
    · by_cases b1 : i = b
      · omega
      · rw [if_pos a1, if_neg b1] at he; exact absurd he.symm (hu b (by omega))
    · by_cases b1 : i = b
      · rw [if_neg a1, if_pos b1] at he; exact absurd he (hu a (by omega))
      · rw [if_neg a1, if_neg b1] at he; exact h.2.2.1 a b (by omega) (by omega) he
  · rw [e, if_neg (by omega)]; exact h.2.2.2 j hj h10
theorem pre_less {N i : Nat} {p : List Int} (h : Pre N (i + 1) p) : Pre N i p := ⟨h.1, fun j hj => h.2.1 j (by omega), fun a b ha hb => h.2.2.1 a b (by omega) (by omega), h.2.2.2⟩
/-- Those whose number at i is less than x. -/
def ltS (N : Nat) (t p : List Int) (i x : Nat) (u : List Int) : Prop := ∃ s, Bytes 10 s ∧ PermP N s ∧ (∀ j, j < i → pl s j = pl p j) ∧ pl s i < x ∧ u = isoT N t s s s N
theorem ltS_none {N : Nat} {t p : List Int} {i : Nat} (u : List Int) : ¬ ltS N t p i 0 u := by rintro ⟨s, _, _, _, h, _⟩; omega
theorem ltS_used {N : Nat} {t p : List Int} {i x j : Nat} (hi : i < N) (hj : j < i) (h : pl p j = x) (u : List Int) : ltS N t p i (x + 1) u ↔ ltS N t p i x u := by
  constructor
  · rintro ⟨s, hs, ps, he, hx, rfl⟩
    refine ⟨s, hs, ps, he, ?_, rfl⟩
    apply Decidable.byContradiction; intro hn
    have := (permP_f ps).inj (permP_le ps) (show j < N by omega) hi (by rw [he j hj]; omega)
    omega
  · rintro ⟨s, hs, ps, he, hx, rfl⟩
    exact ⟨s, hs, ps, he, by omega, rfl⟩
theorem ltS_next {N : Nat} {t p q : List Int} {i x : Nat} (hi : i < N) (hN : N ≤ 10) (hq : Bytes 10 q) (hqp : ∀ j, j < i → pl q j = pl p j) (u : List Int) : ltS N t p i (x + 1) u ↔ ltS N t p i x u ∨ extS N t (q.set i (x : Int)) (i + 1) u := by
  have e := fun j => pl_set (p := q) (j := j) (x := x) hq.len (show i < 10 by omega)
  constructor
  · rintro ⟨s, hs, ps, he, hx, rfl⟩
    by_cases h : pl s i = x
    · refine .inr ⟨s, hs, ps, fun j hj => ?_, rfl⟩
      rw [e]; split
      · rename_i e2; rw [← e2]; exact h
      · rw [hqp j (by omega)]; exact he j (by omega)
    · exact .inl ⟨s, hs, ps, he, by omega, rfl⟩
  · rintro (⟨s, hs, ps, he, hx, rfl⟩ | ⟨s, hs, ps, he, rfl⟩)
    · exact ⟨s, hs, ps, he, by omega, rfl⟩
    · refine ⟨s, hs, ps, fun j hj => ?_, ?_, rfl⟩
      · rw [he j (by omega), e, if_neg (by omega), hqp j hj]
      · rw [he i (by omega), e, if_pos rfl]; omega
theorem ltS_all {N : Nat} {t p : List Int} {i : Nat} (hi : i < N) (u : List Int) : extS N t p i u ↔ ltS N t p i N u := by
  constructor
  · rintro ⟨s, hs, ps, he, rfl⟩
    exact ⟨s, hs, ps, he, (permP_f ps).lt (permP_le ps) hi, rfl⟩
  · rintro ⟨s, hs, ps, he, _, rfl⟩
    exact ⟨s, hs, ps, he, rfl⟩
theorem extS_congr {N : Nat} {t p q : List Int} {i : Nat} (h : ∀ j, j < i → pl p j = pl q j) (u : List Int) : extS N t p i u ↔ extS N t q i u := by
  constructor
  · rintro ⟨s, hs, ps, he, rfl⟩; exact ⟨s, hs, ps, fun j hj => (he j hj).trans (h j hj), rfl⟩
  · rintro ⟨s, hs, ps, he, rfl⟩; exact ⟨s, hs, ps, fun j hj => (he j hj).trans (h j hj).symm, rfl⟩
theorem canon1_ok (N : Nat) (t b p : List Int) (ht : Bytes 100 t) (hs : SqP N t) (hb : Bytes 100 b) (hp : Bytes 10 p) (pp : PermP N p) :
    ACalls Try.prog 123 [.agg (plS p), .ref (.ptr 0 0 0 0), .ref (.ptr 0 1 0 0)] [.lv true (sqS N t), .lv true (sqS N b)]
      (fun v ms ns => v = .tup [] ∧ ms = [.lv true (sqS N t), .lv true (sqS N (if cmpR (isoT N t p p p N) b < 0 then isoT N t p p p N else b))] ∧ ns = []) := by
  have hB := isoT_bytes (N := N) (t := t) (p := p) (q := p) hp (x := N)
  refine acalls_of_body mix Try.func123 rfl fok123 (Nat.le_of_ble_eq_true rfl) ?_
  unfold abody
  simp only [absE, absL, absF, reduceCtorEq, ↓reduceIte, Nat.reduceEqDiff, Nat.reduceAdd, Nat.reduceLT, Nat.reduceMul, Nat.reduceSub, Nat.reduceLeDiff, Int.reduceLT, Int.reduceLE, Int.reduceEq, Option.isSome_some, implies_true, false_implies, Prod.mk.injEq, ne_eq, not_false_eq_true, not_true_eq_false, ge_iff_le, gt_iff_lt, Int.toNat_natCast, Int.reduceToNat, Int.cast_ofNat_Int, Int.natCast_nonneg, Try.f123]
  refine CallsVia.none (isotope_ok N t p p p ht hp hp hp hs pp pp) ?_
  rintro _ _ _ ⟨rfl, rfl, rfl⟩
  simp only [absE, absL, absF, reduceCtorEq, ↓reduceIte, Nat.reduceEqDiff, Nat.reduceAdd, Nat.reduceLT, Nat.reduceMul, Nat.reduceSub, Nat.reduceLeDiff, Int.reduceLT, Int.reduceLE, Int.reduceEq, Option.isSome_some, implies_true, false_implies, Prod.mk.injEq, ne_eq, not_false_eq_true, not_true_eq_false, ge_iff_le, gt_iff_lt, Int.toNat_natCast, Int.reduceToNat, Int.cast_ofNat_Int, Int.natCast_nonneg]
  refine CallsVia.none (compareTables_ok N N (isoT N t p p p N) b hB hb) ?_
  rintro _ _ _ ⟨rfl, rfl, rfl⟩
  by_cases h : cmpR (isoT N t p p p N) b < 0
  · simp only [absE, absL, absF, reduceCtorEq, ↓reduceIte, Nat.reduceEqDiff, Nat.reduceAdd, Nat.reduceLT, Nat.reduceMul, Nat.reduceSub, Nat.reduceLeDiff, Int.reduceLT, Int.reduceLE, Int.reduceEq, Option.isSome_some, implies_true, false_implies, Prod.mk.injEq, ne_eq, not_false_eq_true, not_true_eq_false, ge_iff_le, gt_iff_lt, Int.toNat_natCast, Int.reduceToNat, Int.cast_ofNat_Int, Int.natCast_nonneg, h, Try.results123]
    exact ⟨[], by simp, by simp, by simp [renV, renVs], by rw [if_pos h]; simp [renBlk, renSegs, renSg], by simp⟩
  · simp only [absE, absL, absF, reduceCtorEq, ↓reduceIte, Nat.reduceEqDiff, Nat.reduceAdd, Nat.reduceLT, Nat.reduceMul, Nat.reduceSub, Nat.reduceLeDiff, Int.reduceLT, Int.reduceLE, Int.reduceEq, Option.isSome_some, implies_true, false_implies, Prod.mk.injEq, ne_eq, not_false_eq_true, not_true_eq_false, ge_iff_le, gt_iff_lt, Int.toNat_natCast, Int.reduceToNat, Int.cast_ofNat_Int, Int.natCast_nonneg, h, Try.results123]
    exact ⟨[], by simp, by simp, by simp [renV, renVs], by rw [if_neg h]; simp [renBlk, renSegs, renSg], by simp⟩
def oArgs (N : Nat) (t p b : List Int) : List Blk :=
  [.lv true [(0, .ints .i64 1 [(N : Int)])], .lv true [(0, .cells 1 [.fn 123 [(0, 4, 0, 0), (0, 5, 0, 0)]])], .lv true (plS p), .lv true [(0, .cells 1 [.fn 157 [(0, 0, 0, 0), (0, 1, 0, 0), (0, 2, 0, 0), (0, 3, 0, 0)]])], .lv true (sqS N t), .lv true (sqS N b)]
/-- What is left of the places behind all visits. -/
def lstL (rec : Nat → List Int → List Int) (i U : Nat) : Nat → List Int → List Int
  | 0, p => p
  | x + 1, p => if U.testBit x then lstL rec i U x p else rec x ((lstL rec i U x p).set i (x : Int))
def lstP (N : Nat) : Nat → Nat → List Int → List Int
  | 0, _, p => p
  | d + 1, U, p => lstL (fun x q => lstP N d (U ||| 2 ^ x) q) (N - (d + 1)) U N p
theorem orders1_ok (N : Nat) (t : List Int) (ht : Bytes 100 t) (hs : SqP N t) : ∀ d, d ≤ N → ∀ (p b : List Int), Pre N (N - d) p → Bytes 100 b →
    ACalls Try.prog 157 [.i .i64 ((N - d : Nat) : Int), .i .i64 ((mask (pl p) (N - d) : Nat) : Int), .ref (.ptr 0 0 0 0), .ref (.ptr 0 1 0 0), .ref (.ptr 0 2 0 0), .ref (.ptr 0 3 0 0)] (oArgs N t p b)
      (fun v ms ns => ∃ b', (Pre N (N - d) (lstP N d (mask (pl p) (N - d)) p) ∧ (∀ j, j < N - d → pl (lstP N d (mask (pl p) (N - d)) p) j = pl p j) ∧ Bytes 100 b' ∧ Least (extS N t p (N - d)) b b') ∧ v = .tup [] ∧ ms = oArgs N t (lstP N d (mask (pl p) (N - d)) p) b' ∧ ns = []) := by
  have hN := hs.le
  intro d
  induction d with
  | zero =>
    intro hd p b hp hb
    have pp := pre_perm hs.pos hN hp
    have hB := isoT_bytes (N := N) (t := t) (p := p) (q := p) hp.1 (x := N)
    have hC := canon1_ok N t b p ht hs hb hp.1 pp
    have hL : Least (extS N t p N) b (if cmpR (isoT N t p p p N) b < 0 then isoT N t p p p N else b) := Least.one.congr (extS_all hp.1 pp)
    have hc : Bytes 100 (if cmpR (isoT N t p p p N) b < 0 then isoT N t p p p N else b) := by split <;> assumption
    generalize (if cmpR (isoT N t p p p N) b < 0 then isoT N t p p p N else b) = c at hC hL hc
    unfold oArgs
    refine acalls_of_body mix Try.func157 rfl fok157 (Nat.le_of_ble_eq_true rfl) ?_
    unfold abody
    simp only [absE, absL, absF, reduceCtorEq, ↓reduceIte, Nat.reduceEqDiff, Nat.reduceAdd, Nat.reduceLT, Nat.reduceMul, Nat.reduceSub, Nat.reduceLeDiff, Int.reduceLT, Int.reduceLE, Int.reduceEq, Option.isSome_some, implies_true, false_implies, Prod.mk.injEq, ne_eq, not_false_eq_true, not_true_eq_false, ge_iff_le, gt_iff_lt, Int.toNat_natCast, Int.reduceToNat, Int.cast_ofNat_Int, Int.natCast_nonneg, Nat.sub_zero, Try.f157]
    refine CallsVia.args [(0, 4), (0, 5)] hC (by simp) (by simp [Mem.get, assoc]) rfl rfl ?_
    rintro _ _ _ ⟨rfl, rfl, rfl⟩
    simp only [absE, absL, absF, reduceCtorEq, ↓reduceIte, Nat.reduceEqDiff, Nat.reduceAdd, Nat.reduceLT, Nat.reduceMul, Nat.reduceSub, Nat.reduceLeDiff, Int.reduceLT, Int.reduceLE, Int.reduceEq, Option.isSome_some, implies_true, false_implies, Prod.mk.injEq, ne_eq, not_false_eq_true, not_true_eq_false, ge_iff_le, gt_iff_lt, Int.toNat_natCast, Int.reduceToNat, Int.cast_ofNat_Int, Int.natCast_nonneg, Try.results157]
    exact ⟨[], by simp, by simp, c, ⟨hp, fun _ _ => rfl, hc, hL⟩, by simp [renV, renVs], by simp [oArgs, lstP, renBlk, renSegs, renSg, renAt, renOut, renCaps, renFin, idx], by simp⟩
  | succ d ih =>
    intro hd p b hp hb
    have g1 : ¬((N - (d + 1) : Nat) : Int) = N := by omega
    have ed : N - d = N - (d + 1) + 1 := by omega
    rw [ed] at ih
    replace ih := ih (by omega)
    rw [show lstP N (d + 1) = fun U p => lstL (fun x q => lstP N d (U ||| 2 ^ x) q) (N - (d + 1)) U N p from rfl]
    generalize hk : N - (d + 1) = k at g1 ih hp ⊢
    simp only
    have hkN : k < N := by omega
    have wN := wrap_u8n (show N < 256 by omega)
    have hU : mask (pl p) k < 2 ^ N := mask_lt fun i hi => hp.2.1 i hi
    have hU10 : (2 : Nat) ^ N ≤ 2 ^ 10 := Nat.pow_le_pow_right (by decide) hN
    unfold oArgs
    refine acalls_of_body mix Try.func157 rfl fok157 (Nat.le_of_ble_eq_true rfl) ?_
    unfold abody
    simp only [absE, absL, absF, reduceCtorEq, ↓reduceIte, Nat.reduceEqDiff, Nat.reduceAdd, Nat.reduceLT, Nat.reduceMul, Nat.reduceSub, Nat.reduceLeDiff, Int.reduceLT, Int.reduceLE, Int.reduceEq, Option.isSome_some, implies_true, false_implies, Prod.mk.injEq, ne_eq, not_false_eq_true, not_true_eq_false, ge_iff_le, gt_iff_lt, Int.toNat_natCast, Int.reduceToNat, Int.cast_ofNat_Int, Int.natCast_nonneg, g1, wN, Try.f157]
    refine awpLoop.intro (fun s : Nat × List Int × List Int => [(0, .i .i64 k), (1, .i .i64 ((mask (pl p) k : Nat) : Int)), (2, .ref (.ptr 0 0 0 0)), (3, .ref (.ptr 0 1 0 0)), (4, .ref (.ptr 0 2 0 0)), (5, .ref (.ptr 0 3 0 0)), (16, .i .u8 N), (17, .i .u8 s.1)]) (fun s => ⟨oArgs N t s.2.1 s.2.2, [], 20⟩)
      (fun s => s.1 ≤ N ∧ Pre N k s.2.1 ∧ (∀ j, j < k → pl s.2.1 j = pl p j) ∧ s.2.1 = lstL (fun x q => lstP N d (mask (pl p) k ||| 2 ^ x) q) k (mask (pl p) k) s.1 p ∧ Bytes 100 s.2.2 ∧ Least (ltS N t p k s.1) b s.2.2) (fun s => N - s.1) (0, p, b) ⟨by simp, hp, fun _ _ => rfl, rfl, hb, Least.nil ltS_none⟩ ⟨[], rfl, ?_, ?_⟩ ?_
    · simp [wkEnv, lk, renV, renAt, renTo]
    · simp [wkMem, wkLoc, oArgs, Mem.get, assoc, renBlk, renSegs, renSg, renAt, renCaps, renTo]
    · rintro ⟨x, q, c⟩ ⟨hx, hq, hqp, hlq, hc, hL⟩
      simp only at hx hq hqp hlq hc hL
      by_cases h : (x : Int) < N
      · have w := wrap_u8s (show x < 255 by omega)
        have hb1 := shr_and (s := mask (pl p) k) (x := x) (by omega) (by omega)
        simp only [absE, absL, absF, reduceCtorEq, ↓reduceIte, Nat.reduceEqDiff, Nat.reduceAdd, Nat.reduceLT, Nat.reduceMul, Nat.reduceSub, Nat.reduceLeDiff, Int.reduceLT, Int.reduceLE, Int.reduceEq, Option.isSome_some, implies_true, false_implies, Prod.mk.injEq, ne_eq, not_false_eq_true, not_true_eq_false, ge_iff_le, gt_iff_lt, Int.toNat_natCast, Int.reduceToNat, Int.cast_ofNat_Int, Int.natCast_nonneg, h, oArgs, hb1]
        cases hu : (mask (pl p) k).testBit x
        · have hun : ∀ j, j < k → pl p j ≠ x := fun j hj e => by
            have := (mask_testBit (f := pl p) (i := x) (k := k)).2 ⟨j, hj, e⟩
            rw [hu] at this; cases this
          have hqs := pre_set hq hkN hN (show x < N by omega) fun j hj => by rw [hqp j hj]; exact hun j hj
          have k10 : (k : Int) < 10 := by omega
          have v1 : 0 + k * 1 < 10 := by omega
          have v2 : 0 + k * 1 + 1 ≤ 10 := by omega
          have e1 : q.set (0 + k * 1) (x : Int) = q.set k (x : Int) := by rw [Nat.zero_add, Nat.mul_one]
          have wk := wrap_i64s (show k < 2 ^ 62 by omega)
          have t1 := wrap_shl (c := x) (by omega)
          have q1 : (2 : Nat) ^ x < 2 ^ 10 := Nat.pow_lt_pow_right (by decide) (by omega)
          have o1 := wrap_or (a := mask (pl p) k) (b := 2 ^ x) (by omega) (by omega)
          have em : mask (pl (q.set k (x : Int))) (k + 1) = mask (pl p) k ||| 2 ^ x := by
            rw [mask, pl_set hq.1.len (by omega), if_pos rfl, mask_congr (g := pl p) fun i hi => by rw [pl_set hq.1.len (by omega), if_neg (by omega), hqp i hi]]
          have hih := ih (q.set k (x : Int)) c hqs hc
          rw [em] at hih
          unfold oArgs at hih
          simp only [absE, absL, absF, reduceCtorEq, ↓reduceIte, Nat.reduceEqDiff, Nat.reduceAdd, Nat.reduceLT, Nat.reduceMul, Nat.reduceSub, Nat.reduceLeDiff, Int.reduceLT, Int.reduceLE, Int.reduceEq, Option.isSome_some, implies_true, false_implies, Prod.mk.injEq, ne_eq, not_false_eq_true, not_true_eq_false, ge_iff_le, gt_iff_lt, Int.toNat_natCast, Int.reduceToNat, Int.cast_ofNat_Int, Int.natCast_nonneg, k10, v1, v2, e1, wk, t1, o1]
          repeat first | refine And.intro (by decide +kernel) ?_ | refine And.intro (by omega) ?_
          refine CallsVia.args [(0, 0), (0, 1), (0, 2), (0, 3), (0, 4), (0, 5)] hih (by simp) (by simp [Mem.get, assoc]) rfl rfl ?_
          rintro _ _ _ ⟨c', ⟨hq', hqq, hc', hL'⟩, rfl, rfl, rfl⟩
          generalize hq2 : lstP N d (mask (pl p) k ||| 2 ^ x) (q.set k (x : Int)) = q' at hq' hqq
          simp only [absE, absL, absF, reduceCtorEq, ↓reduceIte, Nat.reduceEqDiff, Nat.reduceAdd, Nat.reduceLT, Nat.reduceMul, Nat.reduceSub, Nat.reduceLeDiff, Int.reduceLT, Int.reduceLE, Int.reduceEq, Option.isSome_some, implies_true, false_implies, Prod.mk.injEq, ne_eq, not_false_eq_true, not_true_eq_false, ge_iff_le, gt_iff_lt, Int.toNat_natCast, Int.reduceToNat, Int.cast_ofNat_Int, Int.natCast_nonneg]
          refine LoopNext.intro (x + 1, q', c') ⟨by simp; omega, pre_less hq', fun j hj => ?_, by simp only [lstL, hu]; rw [← hlq, hq2]; rfl, hc', hL.trans hL' (ltS_next hkN hN hq.1 hqp)⟩ (by simp; omega) ⟨[], rfl, ?_, ?_⟩
          · show pl q' j = pl p j
            rw [hqq j (by omega), pl_set hq.1.len (by omega), if_neg (by omega), hqp j hj]
          · simp [wkEnv, lk, renV, renAt, renTo, w]
          · simp [wkMem, wkLoc, oArgs, Mem.get, assoc, renBlk, renSegs, renSg, renAt, renCaps, renOut, renTo]
        · obtain ⟨j, hj, ej⟩ := (mask_testBit (f := pl p) (i := x) (k := k)).1 hu
          simp only [absE, absL, absF, reduceCtorEq, ↓reduceIte, Nat.reduceEqDiff, Nat.reduceAdd, Nat.reduceLT, Nat.reduceMul, Nat.reduceSub, Nat.reduceLeDiff, Int.reduceLT, Int.reduceLE, Int.reduceEq, Option.isSome_some, implies_true, false_implies, Prod.mk.injEq, ne_eq, not_false_eq_true, not_true_eq_false, ge_iff_le, gt_iff_lt, Int.toNat_natCast, Int.reduceToNat, Int.cast_ofNat_Int, Int.natCast_nonneg]
          refine LoopNext.intro (x + 1, q, c) ⟨by simp; omega, hq, hqp, by simp only [lstL, hu]; exact hlq, hc, hL.congr (ltS_used hkN hj ej)⟩ (by simp; omega) ⟨[], rfl, ?_, ?_⟩
          · simp [wkEnv, lk, renV, renAt, renTo, w]
          · simp [wkMem, wkLoc, oArgs, Mem.get, assoc, renBlk, renSegs, renSg, renAt, renCaps, renTo]
      · obtain rfl : x = N := by omega
        simp only [absE, absL, absF, reduceCtorEq, ↓reduceIte, Nat.reduceEqDiff, Nat.reduceAdd, Nat.reduceLT, Nat.reduceMul, Nat.reduceSub, Nat.reduceLeDiff, Int.reduceLT, Int.reduceLE, Int.reduceEq, Option.isSome_some, implies_true, false_implies, Prod.mk.injEq, ne_eq, not_false_eq_true, not_true_eq_false, ge_iff_le, gt_iff_lt, Int.toNat_natCast, Int.reduceToNat, Int.cast_ofNat_Int, Int.natCast_nonneg, h, Try.results157]
        exact ⟨[], by simp, by simp, c, ⟨by rw [← hlq]; exact hq, by rw [← hlq]; exact hqp, hc, hL.congr (ltS_all hkN)⟩, by simp [renV, renVs], by rw [← hlq]; simp [oArgs, renBlk, renSegs, renSg, renAt, renCaps, renFin], by simp⟩

end Go.Proofs.Ytgblnnodoabdeaa
