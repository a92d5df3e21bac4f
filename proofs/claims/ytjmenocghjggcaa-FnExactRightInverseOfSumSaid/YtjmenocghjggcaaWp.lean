/-
Contracts of functions of the given program, by the abstract walk.
-/
import Derived.Test.YtjmenocghjggcaaAbsY
import Derived.Test.YtjmenocghjggcaaWl
namespace Go.Proofs.Ytjmenocghjggcaa
open Go Go.Abs
set_option linter.unusedVariables false
set_option linter.unusedSectionVars false
set_option linter.unusedSimpArgs false
set_option maxRecDepth 100000
/-! linear algebra modulo p: kernels and solutions, plain -/
def extL (N : Nat) (I : LLs) : LLs := (List.range I.length).map fun i => at_ I i ++ unitK N i
theorem extL_len {N : Nat} {I : LLs} : (extL N I).length = I.length := by simp [extL]
theorem extL_mat {N : Nat} {m : Nat → Nat → Int} : extL N (matF N N m) = matF N (N + N) (extM N m) := by
  unfold extL
  have hl : (matF N N m).length = N := by simp [matF]
  rw [hl]
  unfold matF
  refine List.map_congr_left fun i hi => ?_
  have hiN := List.mem_range.1 hi
  have e : at_ ((List.range N).map fun i => rowF N (m i)) i = rowF N (m i) := by unfold at_; simp [hiN]
  rw [e]
  refine row_rowF (by simp [rowF_len, unitK_len]) fun j hj => ?_
  unfold extM
  by_cases h : j < N
  · rw [if_pos h, List.getD_eq_getElem?_getD, List.getElem?_append_left (by rw [rowF_len]; exact h), ← List.getD_eq_getElem?_getD, rowF_get h]
  · rw [if_neg h, List.getD_eq_getElem?_getD, List.getElem?_append_right (by rw [rowF_len]; omega), ← List.getD_eq_getElem?_getD, rowF_len, unitK_get hiN]
    by_cases e2 : j - N = i
    · rw [if_pos e2, if_pos (by omega)]
    · rw [if_neg e2, if_neg (by omega)]
theorem Red.pv {p : Int} {L : Nat} {rows : LLs} (hp : 2 ≤ p) (hm : Mat p L rows) {c : Nat} {D R : LLs} (h : Red p L rows c D R) : c ≤ L → ∀ a ∈ D, ∃ j, j < c ∧ a.getD j 0 ≠ 0 := by
  induction h with
  | init => intro _ a ha; cases ha
  | perm _ _ ih => exact ih
  | skip _ _ ih => intro hc a ha; obtain ⟨j, hj, h⟩ := ih (by omega) a ha; exact ⟨j, by omega, h⟩
  | @step c D R a s hr hc hs ih =>
    intro _ x hx
    obtain ⟨h1, h2, h3⟩ := hr.low hp hm (by omega)
    have hM := hr.mat hp hm
    have la := hM.len a (by simp)
    have b1 : (scaleR p s a).getD c 0 = 1 := by rw [scaleR_get (by omega)]; exact hs
    have b0 : ∀ j, j < c → (scaleR p s a).getD j 0 = 0 := fun j hj => by rw [scaleR_get (by omega), h2 a (by simp) j hj]; simp
    rcases List.mem_append.1 hx with hx | hx
    · obtain ⟨z, hz, rfl⟩ := List.mem_map.1 hx
      obtain ⟨j, hj, h⟩ := ih (by omega) z hz
      have lz := hM.len z (by simp [hz])
      exact ⟨j, by omega, by rw [elimR_zero hp (by omega) (hM.rng z (by simp [hz])) (b0 j hj)]; exact h⟩
    · simp only [List.mem_singleton] at hx; subst hx
      exact ⟨c, by omega, by rw [b1]; decide⟩
/-- no pivots: all rows are nought -/
theorem Red.none {p : Int} {L : Nat} {rows : LLs} (hp : 2 ≤ p) (hm : Mat p L rows) {R : LLs} (h : Red p L rows L [] R) : ∀ a ∈ rows, ∀ j, j < L → a.getD j 0 = 0 := by
  intro a ha j hj
  have hlow := (h.low hp hm (Nat.le_refl L)).2.1
  have hn : Nul p L ([] ++ R) (fun i => if j = i then 1 else 0) := fun x hx => by
    rw [dot_zero fun i hi => hlow x (by simpa using hx) i hi]; exact ⟨0, by simp⟩
  have := (h.nul hp hm).2 hn a ha
  have e : dotN a (fun i => if j = i then 1 else 0) L = a.getD j 0 := by
    have key : ∀ w, dotN a (fun i => if j = i then 1 else 0) w = if j < w then a.getD j 0 else 0 := fun w => by
      induction w with
      | zero => rfl
      | succ w ih =>
        rw [dotN, ih]
        by_cases e : j = w
        · subst e; simp
        · rw [if_neg e]
          by_cases e2 : j < w
          · rw [if_pos e2, if_pos (by omega)]; simp
          · rw [if_neg e2, if_neg (by omega)]; simp
    rw [key, if_pos hj]
  rw [e] at this
  have hr := hm.rng a ha j
  obtain ⟨q, hq⟩ := this
  rcases Int.lt_trichotomy q 0 with h1 | h1 | h1
  · have := Int.mul_le_mul_of_nonneg_left (show q ≤ -1 by omega) (show 0 ≤ p by omega); omega
  · rw [hq, h1]; simp
  · have := Int.mul_le_mul_of_nonneg_left (show 1 ≤ q by omega) (show 0 ≤ p by omega); omega
def kerR (N : Nat) (R : LLs) : LLs := R.map (List.drop N)
theorem drop_get {N j : Nat} {a : List Int} : (a.drop N).getD j 0 = a.getD (N + j) 0 := by simp [List.getD_eq_getElem?_getD]
theorem kerR_mat {p : Int} {N : Nat} {R : LLs} (h : Mat p (N + N) R) : Mat p N (kerR N R) := by
  refine ⟨fun a ha => ?_, fun a ha => ?_⟩
  · obtain ⟨x, hx, rfl⟩ := List.mem_map.1 ha
    rw [List.length_drop, h.len x hx]; omega
  · obtain ⟨x, hx, rfl⟩ := List.mem_map.1 ha
    intro j; rw [drop_get]; exact h.rng x hx _
/-- the right parts of the done rows alone cannot kill nothing but nought, unless there are N of them -/
theorem ext_rest {p : Int} {N : Nat} {m : Nat → Nat → Int} (hp : PrP p) (h : ∀ i, i < N → ∀ j, j < N → 0 ≤ m i j ∧ m i j ≤ p - 1) {D R : LLs} (hr : Red p (N + N) (matF N (N + N) (extM N m)) N D R) (hz : ∀ a ∈ kerR N R, ∀ j, j < N → a.getD j 0 = 0) : R = [] := by
  have hm := ext_mat hp.le.1 h
  have hM := hr.mat hp.le.1 hm
  have hc := hr.count
  have hl : (matF N (N + N) (extM N m)).length = N := by simp [matF]
  rw [hl] at hc
  apply Decidable.byContradiction; intro hne
  have hpos : 0 < R.length := List.length_pos_iff.2 hne
  have hlow := (hr.low hp.le.1 hm (by omega)).2.1
  have hmD : Mat p N (kerR N D) := kerR_mat ⟨fun a ha => hM.len a (by simp [ha]), fun a ha => hM.rng a (by simp [ha])⟩
  have hfew := few_nul hp hmD (by simp only [kerR, List.length_map]; omega)
  apply hfew
  intro u hu j hj
  have hn : Nul p (N + N) (D ++ R) (fun i => if i < N then 0 else u (i - N)) := fun a ha => by
    rw [dot_sum, sumF_split, sumF_zero fun i hi => by rw [if_pos hi]; simp]
    rcases List.mem_append.1 ha with ha | ha
    · have := hu (a.drop N) (List.mem_map.2 ⟨a, ha, rfl⟩)
      rw [dot_sum] at this
      rw [Int.zero_add, sumF_congr (g := fun i => (a.drop N).getD i 0 * u i) fun i hi => by rw [if_neg (by omega), drop_get, Nat.add_sub_cancel_left]]
      exact this
    · rw [sumF_zero fun i hi => by
        have := hz (a.drop N) (List.mem_map.2 ⟨a, ha, rfl⟩) i hi
        rw [drop_get] at this; rw [this]; simp]
      exact ⟨0, by simp⟩
  have := nul_matF.1 ((hr.nul hp.le.1 hm).2 hn) j hj
  rw [ext_sum hj, sumF_zero fun i hi => by rw [if_pos hi]; simp, if_neg (by omega), Nat.add_sub_cancel_left, Int.zero_add] at this
  exact this
/-- all rows are done exactly if the matrix kills nothing -/
theorem ext_full {p : Int} {N : Nat} {m : Nat → Nat → Int} (hp : PrP p) (h : ∀ i, i < N → ∀ j, j < N → 0 ≤ m i j ∧ m i j ≤ p - 1) {D R : LLs} (hr : Red p (N + N) (matF N (N + N) (extM N m)) N D R) : R = [] ↔ Triv p N (matF N N m) := by
  have hm := ext_mat hp.le.1 h
  have hc := hr.count
  have hl : (matF N (N + N) (extM N m)).length = N := by simp [matF]
  rw [hl] at hc
  constructor
  · intro hR x hx j hj
    rw [hR, List.length_nil] at hc
    have hD : D.length = N := by omega
    obtain ⟨_, _, g3⟩ := hr.low hp.le.1 hm (by omega)
    have hn : Nul p (N + N) (matF N (N + N) (extM N m)) (fun i => if i < N then x i else 0) := nul_matF.2 fun i hi => by
      rw [ext_sum hi, if_neg (by omega), sumF_congr (g := fun j => m i j * x j) fun j hj => by rw [if_pos hj], Int.add_zero]
      exact nul_matF.1 hx i hi
    have := (hr.nul hp.le.1 hm).1 hn (at_ D j) (List.mem_append_left _ (by rw [at_lt (by omega)]; exact List.getElem_mem _))
    rw [dot_sum, sumF_split, ← dot_sum, dot_unit (i := j) (fun k hk => g3 hD j hj k hk), if_pos hj, if_pos hj, sumF_zero fun i hi => by rw [if_neg (by omega)]; simp, Int.add_zero] at this
    exact this
  · intro ht
    have := triv_full hp h ht hr
    exact List.length_eq_zero_iff.1 (by omega)
/-- a done row is the combination of the matrix' rows that its right part tells -/
theorem ext_row {p : Int} {N : Nat} {m : Nat → Nat → Int} (hp : PrP p) (h : ∀ i, i < N → ∀ j, j < N → 0 ≤ m i j ∧ m i j ≤ p - 1) {D R : LLs} (hr : Red p (N + N) (matF N (N + N) (extM N m)) N D R) {a : List Int} (ha : a ∈ D ++ R) {z : Nat} (hz : z < N) :
    p ∣ a.getD z 0 - sumF (fun k => a.getD (N + k) 0 * m k z) N := by
  have hm := ext_mat hp.le.1 h
  have hn : Nul p (N + N) (matF N (N + N) (extM N m)) (fun i => if i < N then (if i = z then 1 else 0) else -m (i - N) z) := nul_matF.2 fun i hi => by
    rw [ext_sum hi, if_neg (by omega), Nat.add_sub_cancel_left, sumF_congr (g := fun j => (if j = z then 1 else 0) * m i j) fun j hj => by rw [if_pos hj, Int.mul_comm], sumF_delta, if_pos hz]
    exact ⟨0, by omega⟩
  have := (hr.nul hp.le.1 hm).1 hn a ha
  rw [dot_sum, sumF_split, sumF_congr (g := fun j => (if j = z then 1 else 0) * a.getD j 0) fun j hj => by rw [if_pos hj, Int.mul_comm], sumF_delta, if_pos hz,
    sumF_congr (g := fun k => -1 * (a.getD (N + k) 0 * m k z)) fun k hk => by rw [if_neg (by omega), Nat.add_sub_cancel_left]; grind, sumF_mul] at this
  have e : a.getD z 0 - sumF (fun k => a.getD (N + k) 0 * m k z) N = a.getD z 0 + -1 * sumF (fun k => a.getD (N + k) 0 * m k z) N := by omega
  rw [e]; exact this

end Go.Proofs.Ytjmenocghjggcaa
