/-
Contracts of functions of the given program, by the abstract walk.
-/
import Derived.Test.YtgblnnodoabdeaaAbsY
import Derived.Test.YtgblnnodoabdeaaFc
namespace Go.Proofs.Ytgblnnodoabdeaa
open Go Go.Abs
set_option linter.unusedVariables false
set_option linter.unusedSectionVars false
set_option linter.unusedSimpArgs false
set_option maxRecDepth 100000
/-! digits: plain -/
def dg (P i m : Nat) : Nat := i / P ^ m % P
theorem dg_lt {P i m : Nat} (h : 0 < P) : dg P i m < P := Nat.mod_lt _ h
theorem carry_eq {P i m : Nat} (hP : 0 < P) (h : i % P ^ m = P ^ m - 1) : i + 1 = P ^ m * (i / P ^ m + 1) := by
  have h1 := Nat.div_add_mod i (P ^ m)
  have h2 : 0 < P ^ m := Nat.pow_pos hP
  rw [Nat.mul_add, Nat.mul_one]
  omega
theorem carry_lo {P i m r : Nat} (hP : 0 < P) (h : i % P ^ m = P ^ m - 1) (hr : r < m) : dg P (i + 1) r = 0 := by
  obtain ⟨s, rfl⟩ : ∃ s, m = r + (s + 1) := ⟨m - r - 1, by omega⟩
  unfold dg
  rw [carry_eq hP h, Nat.pow_add, Nat.mul_assoc, Nat.mul_div_cancel_left _ (Nat.pow_pos hP), Nat.pow_succ, Nat.mul_comm (P ^ s) P, Nat.mul_assoc]
  exact Nat.mul_mod_right ..
theorem carry_at {P i m : Nat} (hP : 0 < P) (h : i % P ^ m = P ^ m - 1) : dg P (i + 1) m = (i / P ^ m + 1) % P := by
  unfold dg
  rw [carry_eq hP h, Nat.mul_div_cancel_left _ (Nat.pow_pos hP)]
theorem succ_div {P q : Nat} (hP : 0 < P) (h : q % P + 1 < P) : (q + 1) / P = q / P := by
  have h1 := Nat.div_add_mod q P
  have e : q + 1 = (q % P + 1) + P * (q / P) := by omega
  rw [e, Nat.add_mul_div_left _ _ hP, Nat.div_eq_of_lt h, Nat.zero_add]
theorem succ_mod {P q : Nat} (hP : 0 < P) (h : q % P + 1 < P) : (q + 1) % P = q % P + 1 := by
  have h1 := Nat.div_add_mod q P
  have e : q + 1 = (q % P + 1) + P * (q / P) := by omega
  rw [e, Nat.add_mul_mod_self_left, Nat.mod_eq_of_lt h]
theorem carry_hi {P i m r : Nat} (hP : 0 < P) (h : i % P ^ m = P ^ m - 1) (hd : dg P i m + 1 < P) (hr : m < r) : dg P (i + 1) r = dg P i r := by
  obtain ⟨s, rfl⟩ : ∃ s, r = m + 1 + s := ⟨r - m - 1, by omega⟩
  have e : ∀ j, j / P ^ (m + 1 + s) = j / P ^ m / P / P ^ s := fun j => by rw [Nat.div_div_eq_div_mul, Nat.div_div_eq_div_mul, Nat.pow_add, Nat.pow_succ, Nat.mul_assoc]
  have e2 : (i + 1) / P ^ m = i / P ^ m + 1 := by rw [carry_eq hP h, Nat.mul_div_cancel_left _ (Nat.pow_pos hP)]
  unfold dg
  rw [e, e, e2, succ_div hP hd]
theorem carry_next {P i m : Nat} (hP : 0 < P) (h : i % P ^ m = P ^ m - 1) (hd : dg P i m + 1 = P) : i % P ^ (m + 1) = P ^ (m + 1) - 1 := by
  have h2 : 0 < P ^ m := Nat.pow_pos hP
  unfold dg at hd
  rw [Nat.pow_succ, Nat.mod_mul, h, show i / P ^ m % P = P - 1 by omega, Nat.mul_sub, Nat.mul_one]
  have : P ^ m ≤ P ^ m * P := Nat.le_mul_of_pos_right _ hP
  omega
/-- the digits of i, the highest first -/
def digL (P N i : Nat) : List Int := (List.range N).map fun j => ((dg P i (N - 1 - j) : Nat) : Int)
theorem digL_len {P N i : Nat} : (digL P N i).length = N := by simp [digL]
theorem digL_get {P N i j : Nat} (h : j < N) : (digL P N i).getD j 0 = ((dg P i (N - 1 - j) : Nat) : Int) := by
  simp only [digL]; rw [List.getD_eq_getElem?_getD, List.getElem?_map, List.getElem?_range h]; rfl
theorem digL_zero {P N : Nat} : digL P N 0 = List.replicate N 0 := by
  apply List.ext_getElem
  · simp [digL]
  · intro j h1 h2; simp [digL, dg]
/-- the digits of i with the lowest m put to nought -/
def digZ (P N i m : Nat) : List Int := (List.range N).map fun j => if j < N - m then ((dg P i (N - 1 - j) : Nat) : Int) else 0
theorem digZ_len {P N i m : Nat} : (digZ P N i m).length = N := by simp [digZ]
theorem digZ_zero {P N i : Nat} : digZ P N i 0 = digL P N i := by
  unfold digZ digL
  apply List.map_congr_left
  intro j hj
  rw [List.mem_range] at hj
  rw [if_pos (by omega)]
theorem digZ_get {P N i m j : Nat} (h : j < N - m) : (digZ P N i m).getD j 0 = ((dg P i (N - 1 - j) : Nat) : Int) := by
  simp only [digZ]; rw [List.getD_eq_getElem?_getD, List.getElem?_map, List.getElem?_range (by omega)]; simp [h]
theorem digZ_next {P N i m : Nat} (h : m < N) : (digZ P N i m).set (N - 1 - m) 0 = digZ P N i (m + 1) := by
  apply List.ext_getElem
  · simp [digZ]
  · intro j h1 h2
    rw [List.getElem_set]
    simp only [digZ, List.getElem_map, List.getElem_range]
    by_cases e : N - 1 - m = j
    · rw [if_pos e, if_neg (by omega)]
    · rw [if_neg e]
      by_cases e2 : j < N - m
      · rw [if_pos e2, if_pos (by omega)]
      · rw [if_neg e2, if_neg (by omega)]
theorem digZ_stop {P N i m : Nat} (hP : 0 < P) (hm : m < N) (h : i % P ^ m = P ^ m - 1) (hd : dg P i m + 1 < P) : (digZ P N i m).set (N - 1 - m) ((dg P i m + 1 : Nat) : Int) = digL P N (i + 1) := by
  apply List.ext_getElem
  · simp [digZ, digL]
  · intro j h1 h2
    have hj : j < N := by simpa [digL] using h2
    rw [List.getElem_set]
    simp only [digZ, digL, List.getElem_map, List.getElem_range]
    by_cases e : N - 1 - m = j
    · rw [if_pos e, show N - 1 - j = m by omega, carry_at hP h]
      unfold dg at hd ⊢
      rw [succ_mod hP hd]
    · rw [if_neg e]
      by_cases e2 : j < N - m
      · rw [if_pos e2, carry_hi hP h hd (by omega)]
      · rw [if_neg e2, carry_lo hP h (by omega)]; rfl
theorem digZ_all {P N i : Nat} (hP : 0 < P) (h : i % P ^ N = P ^ N - 1) : digZ P N i N = digL P N (i + 1) := by
  unfold digZ digL
  apply List.map_congr_left
  intro j hj
  rw [List.mem_range] at hj
  rw [if_neg (by omega), carry_lo hP h (by omega)]; rfl

end Go.Proofs.Ytgblnnodoabdeaa
