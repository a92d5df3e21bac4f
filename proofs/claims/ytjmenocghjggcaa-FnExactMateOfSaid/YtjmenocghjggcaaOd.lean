/-
Contracts of functions of the given program, by the abstract walk.
-/
import Derived.Test.YtjmenocghjggcaaAbsY
import Derived.Test.YtjmenocghjggcaaOc
import Derived.Test.YtjmenocghjggcaaEe
namespace Go.Proofs.Ytjmenocghjggcaa
open Go Go.Abs
set_option linter.unusedVariables false
set_option linter.unusedSectionVars false
set_option linter.unusedSimpArgs false
set_option maxRecDepth 100000
/-! mates: the reference's search -/
theorem ite_m {c d : Prop} [Decidable c] [Decidable d] {X Y Z : Prop} (h : c → Y → X) (h2 : ¬ c → d) (hy : Y) : if c then X else if d then Y else Z := by
  by_cases hc : c
  · rw [if_pos hc]; exact h hc hy
  · rw [if_neg hc, if_pos (h2 hc)]; exact hy
theorem grd_bytes {N : Nat} (hN : N ≤ 10) {tk : List (List Int)} (h : Tkn N tk) (hl : tk.length ≤ 10) : Bytes 100 (grd N tk) := by
  refine ⟨grd_len, fun n => ?_⟩
  by_cases hn : n < 100
  · have e : n = n / 10 * 10 + n % 10 := by omega
    by_cases hex : ∃ a, a < tk.length ∧ (n / 10 < N ∧ (tk.getD a []).getD (n / 10) 0 = ((n % 10 : Nat) : Int))
    · obtain ⟨a, ha, h1, h2⟩ := hex
      have g := (grF_all (f := fun i => (i : Int) + 1) hN h (i := n / 10) (j := n % 10) (by omega)).2 a ha h1 h2
      rw [← e] at g
      rw [grd_F, g]; omega
    · have g := (grF_all (f := fun i => (i : Int) + 1) hN h (i := n / 10) (j := n % 10) (by omega)).1 fun a ha hh => hex ⟨a, ha, hh⟩
      rw [← e] at g
      rw [grd_F, g]; omega
  · rw [List.getD_eq_getElem?_getD, List.getElem?_eq_none (by rw [grd_len]; omega)]; simp
def tkS (N : Nat) (T : List (List Int)) : Nat → List (List Int) → Nat → TkR
  | 0, tk, r => (0, tk, r)
  | d + 1, tk, r => tkT N (N - (d + 1)) (tkS N T d) tk T r
theorem tkS_A {N : Nat} {T : List (List Int)} : ∀ {d} {tk : List (List Int)} {r : Nat}, tkS N T d tk r = tkA N (firstB T) d tk r
  | 0, _, _ => rfl
  | d + 1, tk, r => by
    have e : tkS N T d = tkA N (firstB T) d := funext fun tk => funext fun r => tkS_A
    rw [tkS, e, tkT_filter]; rfl
theorem tkS_r {N : Nat} {T : List (List Int)} {d : Nat} {tk : List (List Int)} {r : Nat} (h : r ≤ 20000) : r ≤ (tkS N T d tk r).2.2 ∧ (tkS N T d tk r).2.2 ≤ 20001 ∧ ((tkS N T d tk r).1 ≠ 3 → (tkS N T d tk r).2.2 ≤ 20000) ∧ ((tkS N T d tk r).1 = 3 → (tkS N T d tk r).2.2 = 20001) ∧ ((tkS N T d tk r).1 = 0 ∨ (tkS N T d tk r).1 = 3 ∨ (tkS N T d tk r).1 = 4) := by
  rw [tkS_A]; exact tkA_r h
set_option maxHeartbeats 4000000 in
theorem l09Take_ok (N : Nat) (T : List (List Int)) (hN : N ≤ 10) (hN1 : 1 ≤ N) (hT : ∀ p ∈ T, PlN N p) (hTl : T.length ≤ 2000000) : ∀ d, d ≤ N → ∀ (tk : List (List Int)) (r : Nat), Tkn N tk → tk.length = N - d → r ≤ 20000 →
    ACalls Try.prog 42 [.ref (.ptr 0 0 0 0), .i .i64 ((N - d : Nat) : Int)] (mtM N T.length T (grd N tk) r)
      (fun v ms ns => v = .b (decide ((tkS N T d tk r).1 = 0)) ∧ ms = mtM N T.length T (if (tkS N T d tk r).1 = 0 then grd N (tkS N T d tk r).2.1 else grd N tk) (tkS N T d tk r).2.2 ∧ ns = []) := by
  have hM : Maps T := fun p hp => (hT p hp).1
  intro d
  induction d with
  | zero =>
    intro _ tk r ht hl hr
    unfold mtM mtS plB
    refine acalls_of_body mix Try.func42 rfl fok42 (Nat.le_of_ble_eq_true rfl) ?_
    unfold abody
    simp only [absE, absL, absF, reduceCtorEq, ↓reduceIte, Nat.reduceEqDiff, Nat.reduceAdd, Nat.reduceLT, Nat.reduceMul, Nat.reduceSub, Nat.reduceLeDiff, Int.reduceLT, Int.reduceLE, Int.reduceEq, Option.isSome_some, implies_true, false_implies, Prod.mk.injEq, ne_eq, not_false_eq_true, not_true_eq_false, ge_iff_le, gt_iff_lt, Int.toNat_natCast, Int.reduceToNat, Int.cast_ofNat_Int, Int.natCast_nonneg, Nat.sub_zero, Try.f42, Try.results42]
    exact ⟨[], by simp, by simp, by simp [renV, tkS], by simp [renBlk, renSegs, renSg, renAt, renFin, tkS], by simp⟩
  | succ d ih =>
    intro hd tk r ht hl hr
    have g1 : ¬ ((N - (d + 1) : Nat) : Int) = N := by omega
    have eS : tkS N T (d + 1) tk r = tkT N (N - (d + 1)) (tkS N T d) tk T r := rfl
    rw [eS]
    have ek : N - d = N - (d + 1) + 1 := by omega
    rw [ek] at ih
    replace ih := ih (by omega)
    have hrr := fun tk r h => tkS_r (N := N) (T := T) (d := d) (tk := tk) (r := r) h
    have hlk : N - (d + 1) < N := by omega
    generalize N - (d + 1) = k at g1 hl ih hlk ⊢
    generalize tkS N T d = rec at ih hrr ⊢
    generalize hS : tkT N k rec tk T r = S
    unfold mtM mtS plB
    refine acalls_of_body mix Try.func42 rfl fok42 (Nat.le_of_ble_eq_true rfl) ?_
    unfold abody
    simp only [absE, absL, absF, reduceCtorEq, ↓reduceIte, Nat.reduceEqDiff, Nat.reduceAdd, Nat.reduceLT, Nat.reduceMul, Nat.reduceSub, Nat.reduceLeDiff, Int.reduceLT, Int.reduceLE, Int.reduceEq, Option.isSome_some, implies_true, false_implies, Prod.mk.injEq, ne_eq, not_false_eq_true, not_true_eq_false, ge_iff_le, gt_iff_lt, Int.toNat_natCast, Int.reduceToNat, Int.cast_ofNat_Int, Int.natCast_nonneg, g1, Try.f42]
    refine awpLoop.intro (fun x : Nat × Nat => [(0, .ref (.ptr 0 0 0 0)), (1, .i .i64 k), (5, .i .i64 x.1)]) (fun x => ⟨[.lv true [(0, .ints .i64 1 [(N : Int)]), (1, .cells 1 [.sl 0 1 0 0 T.length 10]), (2, .ints .u8 100 (grd N tk)), (102, .ints .i64 1 [(x.2 : Int)])], .lv true [(0, .ints .u8 (T.length * 10) T.flatten)]], [], 10⟩)
      (fun x => x.1 ≤ T.length ∧ (x.2 ≤ 20000 ∧ tkT N k rec tk (T.drop x.1) x.2 = S ∨ x.2 = 20001 ∧ S.1 = 3 ∧ S.2.2 = 20001)) (fun x => T.length - x.1) (0, r) ⟨by simp, .inl ⟨hr, by simpa using hS⟩⟩ ⟨[], rfl, ?_, ?_⟩ ?_
    · simp [wkEnv, lk, renV, renAt, renTo]
    · simp [wkMem, wkLoc, renBlk, renSegs, renSg, renAt, renTo]
    · rintro ⟨i, q⟩ ⟨hi, hq⟩
      simp only at hi hq ⊢
      by_cases h : (i : Int) < T.length
      · have hi2 : i < T.length := by omega
        rcases hq with ⟨hq1, hq2⟩ | ⟨rfl, hq2, hq3⟩
        · have hq3 : (q : Int) ≤ 20000 := by omega
          have hdr : T.drop i = T.getD i [] :: T.drop (i + 1) := by rw [List.drop_eq_getElem_cons hi2]; simp [hi2]
          rw [hdr] at hq2
          have hm : T.getD i [] ∈ T := getD_mem hi2
          have hp := hT _ hm
          have w := wrap_i64s (show i < 2 ^ 62 by omega)
          have v1 : 0 + i * 10 + 10 ≤ T.length * 10 := by omega
          have v2 : 0 + i * 10 + 0 * 1 < T.length * 10 := by omega
          have c1 : T.flatten.getD (0 + i * 10 + 0 * 1) 0 = (T.getD i []).getD 0 0 := by rw [Nat.zero_add, Nat.zero_mul]; exact flat_cell hM hi2 (by decide)
          have k1 : (T.flatten.drop (0 + i * 10)).take 10 = T.getD i [] := by rw [Nat.zero_add]; exact flat_get hM hi2
          generalize hpe : T.getD i [] = p at hq2 hm hp c1 k1
          obtain ⟨y0, hy0, ey0⟩ := hp.2 0 (by omega)
          rw [ey0] at c1
          have wy := wrap_i64n (show y0 < 2 ^ 62 by omega)
          by_cases hk : y0 = k
          · subst hk
            have hf := fits_iff hN ht hp
            have hC := l09Fits_ok N T.length q T (grd N tk) p hN (grd_bytes hN ht (by omega)) hp
            unfold mtM mtS plB at hC
            simp only [absE, absL, absF, reduceCtorEq, ↓reduceIte, Nat.reduceEqDiff, Nat.reduceAdd, Nat.reduceLT, Nat.reduceMul, Nat.reduceSub, Nat.reduceLeDiff, Int.reduceLT, Int.reduceLE, Int.reduceEq, Option.isSome_some, implies_true, false_implies, Prod.mk.injEq, ne_eq, not_false_eq_true, not_true_eq_false, ge_iff_le, gt_iff_lt, Int.toNat_natCast, Int.reduceToNat, Int.cast_ofNat_Int, Int.natCast_nonneg, h, hq3, v2, c1, wy, k1, v1]
            refine ite_m (fun h10 hy => ?_) (fun h10 => by omega) ?_
            · have e1 := flat_one hM h10 hi2
              rw [hpe] at e1
              rw [h10, e1] at hy ⊢
              exact ⟨by omega, hy⟩
            · refine CallsVia.args [(0, 0), (0, 1)] hC (by simp) (by simp [Mem.get]) rfl (by simp [argBlks, Mem.get, renBlk, renSegs, renSg, renAt, renIn, idx]) ?_
              rintro _ _ _ ⟨rfl, rfl, rfl⟩
              by_cases hany : tk.any (fun q => meetB N p q) = true
              · have hd : decide (∀ x, x < N → (grd N tk).getD (x * 10 + (p.getD x 0).toNat) 0 = 0) = false := decide_eq_false fun hh => (hf.1 hh) hany
                rw [tkT, if_pos (.inr hany)] at hq2
                simp only [absE, absL, absF, reduceCtorEq, ↓reduceIte, Nat.reduceEqDiff, Nat.reduceAdd, Nat.reduceLT, Nat.reduceMul, Nat.reduceSub, Nat.reduceLeDiff, Int.reduceLT, Int.reduceLE, Int.reduceEq, Option.isSome_some, implies_true, false_implies, Prod.mk.injEq, ne_eq, not_false_eq_true, not_true_eq_false, ge_iff_le, gt_iff_lt, Int.toNat_natCast, Int.reduceToNat, Int.cast_ofNat_Int, Int.natCast_nonneg, hd]
                refine LoopNext.intro (i + 1, q) ⟨by simp only; omega, .inl ⟨hq1, hq2⟩⟩ (by simp only; omega) ⟨[], rfl, ?_, ?_⟩
                · simp [wkEnv, lk, renV, renAt, renTo, w]
                · simp [wkMem, wkLoc, renBlk, renSegs, renSg, renAt, renTo]
              · have hz := hf.2 hany
                have hd : decide (∀ x, x < N → (grd N tk).getD (x * 10 + (p.getD x 0).toNat) 0 = 0) = true := decide_eq_true hz
                have hnk : ¬ (p.getD 0 0 ≠ (y0 : Int) ∨ tk.any (fun q => meetB N p q) = true) := fun hh => hh.elim (fun h3 => h3 ey0) hany
                rw [tkT, if_neg hnk] at hq2
                have wq := wrap_i64s (show q < 2 ^ 62 by omega)
                by_cases hlim : 20000 < q + 1
                · have hq5 : (20000 : Int) < ((q + 1 : Nat) : Int) := by omega
                  rw [if_pos hlim] at hq2
                  simp only [absE, absL, absF, reduceCtorEq, ↓reduceIte, Nat.reduceEqDiff, Nat.reduceAdd, Nat.reduceLT, Nat.reduceMul, Nat.reduceSub, Nat.reduceLeDiff, Int.reduceLT, Int.reduceLE, Int.reduceEq, Option.isSome_some, implies_true, false_implies, Prod.mk.injEq, ne_eq, not_false_eq_true, not_true_eq_false, ge_iff_le, gt_iff_lt, Int.toNat_natCast, Int.reduceToNat, Int.cast_ofNat_Int, Int.natCast_nonneg, hd, wq, hq5, Try.results42]
                  exact ⟨[], by simp, by simp, by simp [renV, ← hq2], by simp [renBlk, renSegs, renSg, renAt, renFin, ← hq2], by simp⟩
                · have hq5 : ¬ (20000 : Int) < ((q + 1 : Nat) : Int) := by omega
                  rw [if_neg hlim] at hq2
                  have h2t := ht.snoc hp hany
                  have hih := ih (tk ++ [p]) (q + 1) h2t (by rw [List.length_append, hl]; rfl) (by omega)
                  have hr2 := hrr (tk ++ [p]) (q + 1) (by omega)
                  generalize hs2 : rec (tk ++ [p]) (q + 1) = s at hq2 hih hr2
                  have w8 := wrap_u8n (show y0 < 256 by omega)
                  have w81 := wrap_u8s (show y0 < 255 by omega)
                  have hMk := l09Mark_ok N T.length (q + 1) (y0 + 1) T (grd N tk) p hN grd_len hp (by omega)
                  have hUn := l09Mark_ok N T.length s.2.2 0 T (grd N (tk ++ [p])) p hN grd_len hp (by omega)
                  have eg : mkA p ((y0 + 1 : Nat) : Int) (grd N tk) N = grd N (tk ++ [p]) := by rw [grd_snoc, hl]; rfl
                  have eu : mkA p ((0 : Nat) : Int) (grd N (tk ++ [p])) N = grd N tk := by rw [← eg]; exact unmark hN hp grd_len hz
                  rw [eg] at hMk
                  rw [eu] at hUn
                  unfold mtM mtS plB at hMk hUn hih
                  simp only [absE, absL, absF, reduceCtorEq, ↓reduceIte, Nat.reduceEqDiff, Nat.reduceAdd, Nat.reduceLT, Nat.reduceMul, Nat.reduceSub, Nat.reduceLeDiff, Int.reduceLT, Int.reduceLE, Int.reduceEq, Option.isSome_some, implies_true, false_implies, Prod.mk.injEq, ne_eq, not_false_eq_true, not_true_eq_false, ge_iff_le, gt_iff_lt, Int.toNat_natCast, Int.reduceToNat, Int.cast_ofNat_Int, Int.natCast_nonneg, hd, wq, hq5, v1, k1, w8, w81]
                  refine And.intro (by omega) (ite_m (fun h10 hy => ?_) (fun h10 => by omega) ?_)
                  · have e1 := flat_one hM h10 hi2
                    rw [hpe] at e1
                    rw [h10, e1] at hy ⊢
                    exact ⟨by omega, hy⟩
                  · refine CallsVia.args [(0, 0), (0, 1)] hMk (by simp) (by simp [Mem.get]) rfl (by simp [argBlks, Mem.get, renBlk, renSegs, renSg, renAt, renIn, idx]) ?_
                    rintro _ _ _ ⟨rfl, rfl, rfl⟩
                    have wk1 := wrap_i64s (show y0 < 2 ^ 62 by omega)
                    simp only [absE, absL, absF, reduceCtorEq, ↓reduceIte, Nat.reduceEqDiff, Nat.reduceAdd, Nat.reduceLT, Nat.reduceMul, Nat.reduceSub, Nat.reduceLeDiff, Int.reduceLT, Int.reduceLE, Int.reduceEq, Option.isSome_some, implies_true, false_implies, Prod.mk.injEq, ne_eq, not_false_eq_true, not_true_eq_false, ge_iff_le, gt_iff_lt, Int.toNat_natCast, Int.reduceToNat, Int.cast_ofNat_Int, Int.natCast_nonneg, wk1]
                    refine CallsVia.args [(0, 0), (0, 1)] hih (by simp) (by simp [Mem.get]) rfl (by simp [argBlks, Mem.get, renBlk, renSegs, renSg, renAt, renIn, idx]) ?_
                    rintro _ _ _ ⟨rfl, rfl, rfl⟩
                    by_cases hs0 : s.1 = 0
                    · have hb : decide (s.1 = 0) = true := decide_eq_true hs0
                      rw [if_neg (by omega)] at hq2
                      simp only [absE, absL, absF, reduceCtorEq, ↓reduceIte, Nat.reduceEqDiff, Nat.reduceAdd, Nat.reduceLT, Nat.reduceMul, Nat.reduceSub, Nat.reduceLeDiff, Int.reduceLT, Int.reduceLE, Int.reduceEq, Option.isSome_some, implies_true, false_implies, Prod.mk.injEq, ne_eq, not_false_eq_true, not_true_eq_false, ge_iff_le, gt_iff_lt, Int.toNat_natCast, Int.reduceToNat, Int.cast_ofNat_Int, Int.natCast_nonneg, hb, if_pos hs0, Try.results42]
                      exact ⟨[], by simp, by simp, by simp [renV, ← hq2, hs0], by simp [renBlk, renSegs, renSg, renAt, renFin, renOut, ← hq2, hs0], by simp⟩
                    · have hb : decide (s.1 = 0) = false := decide_eq_false hs0
                      simp only [absE, absL, absF, reduceCtorEq, ↓reduceIte, Nat.reduceEqDiff, Nat.reduceAdd, Nat.reduceLT, Nat.reduceMul, Nat.reduceSub, Nat.reduceLeDiff, Int.reduceLT, Int.reduceLE, Int.reduceEq, Option.isSome_some, implies_true, false_implies, Prod.mk.injEq, ne_eq, not_false_eq_true, not_true_eq_false, ge_iff_le, gt_iff_lt, Int.toNat_natCast, Int.reduceToNat, Int.cast_ofNat_Int, Int.natCast_nonneg, hb, if_neg hs0, v1, k1]
                      refine And.intro (by omega) (ite_m (fun h10 hy => ?_) (fun h10 => by omega) ?_)
                      · have e1 := flat_one hM h10 hi2
                        rw [hpe] at e1
                        rw [h10, e1] at hy ⊢
                        exact ⟨by omega, hy⟩
                      · refine CallsVia.args [(0, 0), (0, 1)] hUn (by simp) (by simp [Mem.get]) rfl (by simp [argBlks, Mem.get, renBlk, renSegs, renSg, renAt, renIn, idx]) ?_
                        rintro _ _ _ ⟨rfl, rfl, rfl⟩
                        simp only [absE, absL, absF, reduceCtorEq, ↓reduceIte, Nat.reduceEqDiff, Nat.reduceAdd, Nat.reduceLT, Nat.reduceMul, Nat.reduceSub, Nat.reduceLeDiff, Int.reduceLT, Int.reduceLE, Int.reduceEq, Option.isSome_some, implies_true, false_implies, Prod.mk.injEq, ne_eq, not_false_eq_true, not_true_eq_false, ge_iff_le, gt_iff_lt, Int.toNat_natCast, Int.reduceToNat, Int.cast_ofNat_Int, Int.natCast_nonneg]
                        have hnext : s.2.2 ≤ 20000 ∧ tkT N y0 rec tk (T.drop (i + 1)) s.2.2 = S ∨ s.2.2 = 20001 ∧ S.1 = 3 ∧ S.2.2 = 20001 := by
                          rcases hr2.2.2.2.2 with h5 | h5 | h5
                          · exact absurd h5 hs0
                          · rw [if_neg (by omega)] at hq2
                            have h6 := hr2.2.2.2.1 h5
                            exact .inr ⟨h6, by rw [← hq2]; exact h5, by rw [← hq2]; exact h6⟩
                          · rw [if_pos h5] at hq2
                            exact .inl ⟨hr2.2.2.1 (by omega), hq2⟩
                        refine LoopNext.intro (i + 1, s.2.2) ⟨by simp only; omega, hnext⟩ (by simp only; omega) ⟨[], rfl, ?_, ?_⟩
                        · simp [wkEnv, lk, renV, renAt, renTo, w]
                        · simp [wkMem, wkLoc, renBlk, renSegs, renSg, renAt, renTo, renOut]
          · have hk2 : ¬ (y0 : Int) = k := by omega
            have hne : p.getD 0 0 ≠ (k : Int) := by rw [ey0]; exact hk2
            rw [tkT, if_pos (.inl hne)] at hq2
            simp only [absE, absL, absF, reduceCtorEq, ↓reduceIte, Nat.reduceEqDiff, Nat.reduceAdd, Nat.reduceLT, Nat.reduceMul, Nat.reduceSub, Nat.reduceLeDiff, Int.reduceLT, Int.reduceLE, Int.reduceEq, Option.isSome_some, implies_true, false_implies, Prod.mk.injEq, ne_eq, not_false_eq_true, not_true_eq_false, ge_iff_le, gt_iff_lt, Int.toNat_natCast, Int.reduceToNat, Int.cast_ofNat_Int, Int.natCast_nonneg, h, hq3, v2, c1, wy, hk2]
            refine LoopNext.intro (i + 1, q) ⟨by simp only; omega, .inl ⟨hq1, hq2⟩⟩ (by simp only; omega) ⟨[], rfl, ?_, ?_⟩
            · simp [wkEnv, lk, renV, renAt, renTo, w]
            · simp [wkMem, wkLoc, renBlk, renSegs, renSg, renAt, renTo]
        · have hq4 : ¬ ((20001 : Nat) : Int) ≤ 20000 := by omega
          have hS0 : ¬ S.1 = 0 := by omega
          simp only [absE, absL, absF, reduceCtorEq, ↓reduceIte, Nat.reduceEqDiff, Nat.reduceAdd, Nat.reduceLT, Nat.reduceMul, Nat.reduceSub, Nat.reduceLeDiff, Int.reduceLT, Int.reduceLE, Int.reduceEq, Option.isSome_some, implies_true, false_implies, Prod.mk.injEq, ne_eq, not_false_eq_true, not_true_eq_false, ge_iff_le, gt_iff_lt, Int.toNat_natCast, Int.reduceToNat, Int.cast_ofNat_Int, Int.natCast_nonneg, h, hq4, Try.results42]
          exact ⟨[], by simp, by simp, by simp [renV, hS0], by simp [renBlk, renSegs, renSg, renAt, renFin, hS0, hq3], by simp⟩
      · obtain rfl : i = T.length := by omega
        have hfin : ¬ S.1 = 0 ∧ S.2.2 = q := by
          rcases hq with ⟨hq1, hq2⟩ | ⟨rfl, hq2, hq3⟩
          · rw [List.drop_length, tkT] at hq2
            rw [← hq2]; simp
          · exact ⟨by omega, hq3⟩
        simp only [absE, absL, absF, reduceCtorEq, ↓reduceIte, Nat.reduceEqDiff, Nat.reduceAdd, Nat.reduceLT, Nat.reduceMul, Nat.reduceSub, Nat.reduceLeDiff, Int.reduceLT, Int.reduceLE, Int.reduceEq, Option.isSome_some, implies_true, false_implies, Prod.mk.injEq, ne_eq, not_false_eq_true, not_true_eq_false, ge_iff_le, gt_iff_lt, Int.toNat_natCast, Int.reduceToNat, Int.cast_ofNat_Int, Int.natCast_nonneg, h, Try.results42]
        exact ⟨[], by simp, by simp, by simp [renV, hfin.1], by simp [renBlk, renSegs, renSg, renAt, renFin, hfin.1, hfin.2], by simp⟩

end Go.Proofs.Ytjmenocghjggcaa
