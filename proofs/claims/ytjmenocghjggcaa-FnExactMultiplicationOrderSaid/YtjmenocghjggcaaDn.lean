/-
Contracts of functions of the given program, by the abstract walk.
-/
import Derived.Test.YtjmenocghjggcaaAbsY
import Derived.Test.YtjmenocghjggcaaDh
import Derived.Test.YtjmenocghjggcaaDm
import Derived.Test.YtjmenocghjggcaaDi
namespace Go.Proofs.Ytjmenocghjggcaa
open Go Go.Abs
set_option linter.unusedVariables false
set_option linter.unusedSectionVars false
set_option linter.unusedSimpArgs false
set_option maxRecDepth 100000
def invN (N : Nat) (t : List Int) (b : Nat) : Nat := fnd (fun i => cl t i b) 0 N
def doubG (N : Nat) (t : List Int) (x y : Nat) : Nat :=
  if x < N then (if y < N then cl t x y else N + cl t (y - N) x) else if y < N then N + cl t (x - N) (invN N t y) else cl t (invN N t (y - N)) (x - N)
theorem invN_lt {N : Nat} {t : List Int} (hs : SqP N t) {b : Nat} (hb : b < N) : invN N t b < N := PermF.fnd_lt (hs.colP hb) hs.le hs.pos
theorem doubG_lt {N : Nat} {t : List Int} (hs : SqP N t) {x y : Nat} (hx : x < 2 * N) (hy : y < 2 * N) : doubG N t x y < 2 * N := by
  unfold doubG
  split
  · split
    · have := hs.cl_lt (show x < N by omega) (show y < N by omega); omega
    · have := hs.cl_lt (show y - N < N by omega) (show x < N by omega); omega
  · split
    · have := hs.cl_lt (show x - N < N by omega) (invN_lt hs (show y < N by omega)); omega
    · have := hs.cl_lt (invN_lt hs (show y - N < N by omega)) (show x - N < N by omega); omega
theorem mod_two {x N : Nat} (h : x < 2 * N) : x % N = if x < N then x else x - N := by
  split
  · exact Nat.mod_eq_of_lt (by assumption)
  · rw [Nat.mod_eq_sub_mod (by omega), Nat.mod_eq_of_lt (by omega)]
noncomputable def dcode (n : Int) (t : List Int) : Int := if gcode n t = 0 then (if n > 5 then 3 else 0) else gcode n t
noncomputable def doubAV (n : Int) (t : List Int) : AV := resSq (dcode n t) (2 * n) (mkT (doubG n.toNat t) (2 * n.toNat) (2 * n.toNat))
theorem doub_form (n : Int) (t : List Int) (ht : Bytes 100 t) : ∃ k s e, s.length = 100 ∧ doubAV n t = .tup [.agg (sqS k s), .i .i64 e] := resSq_form _ _ mkT_len
/-- Below x in one of the two halves. -/
def half (N a x : Nat) : Prop := a < x ∨ (N ≤ a ∧ a < N + x)
instance (N a x : Nat) : Decidable (half N a x) := by unfold half; infer_instance
def DoubAt (N : Nat) (t : List Int) (x y : Nat) (T : List Int) : Prop := T.length = 100 ∧ ∀ a b, a < 10 → b < 10 →
  T.getD (a * 10 + b) 0 = if (half N a x ∧ b < 2 * N) ∨ ((a = x ∨ a = N + x) ∧ half N b y) then (doubG N t a b : Int) else 0
theorem DoubAt.next {N : Nat} {t T : List Int} {x y : Nat} (hx : x < N) (hy : y < N) (h5 : N ≤ 5) (h : DoubAt N t x y T) :
    DoubAt N t x (y + 1) ((((T.set (0 + x * 10 + y * 1) (doubG N t x y)).set (0 + x * 10 + (N + y) * 1) (doubG N t x (N + y))).set (0 + (N + x) * 10 + y * 1) (doubG N t (N + x) y)).set (0 + (N + x) * 10 + (N + y) * 1) (doubG N t (N + x) (N + y))) := by
  obtain ⟨hl, hp⟩ := h
  refine ⟨by simp [hl], fun a b ha hb => ?_⟩
  rw [getD_set_int (by simp only [List.length_set, hl]; omega), getD_set_int (by simp only [List.length_set, hl]; omega), getD_set_int (by simp only [List.length_set, hl]; omega), getD_set_int (by rw [hl]; omega), hp a b ha hb]
  by_cases c4 : 0 + (N + x) * 10 + (N + y) * 1 = a * 10 + b
  · have e1 : a = N + x := by omega
    have e2 : b = N + y := by omega
    subst e1; subst e2
    rw [if_pos c4, if_pos (by unfold half; omega)]
  · rw [if_neg c4]
    by_cases c3 : 0 + (N + x) * 10 + y * 1 = a * 10 + b
    · have e1 : a = N + x := by omega
      have e2 : b = y := by omega
      subst e1; subst e2
      rw [if_pos c3, if_pos (by unfold half; omega)]
    · rw [if_neg c3]
      by_cases c2 : 0 + x * 10 + (N + y) * 1 = a * 10 + b
      · have e1 : a = x := by omega
        have e2 : b = N + y := by omega
        subst e1; subst e2
        rw [if_pos c2, if_pos (by unfold half; omega)]
      · rw [if_neg c2]
        by_cases c1 : 0 + x * 10 + y * 1 = a * 10 + b
        · have e1 : a = x := by omega
          have e2 : b = y := by omega
          subst e1; subst e2
          rw [if_pos c1, if_pos (by unfold half; omega)]
        · rw [if_neg c1]
          by_cases c : (half N a x ∧ b < 2 * N) ∨ ((a = x ∨ a = N + x) ∧ half N b y)
          · rw [if_pos c, if_pos (by unfold half at c ⊢; omega)]
          · rw [if_neg c, if_neg (by unfold half at c ⊢; omega)]
theorem DoubAt.row {N : Nat} {t T : List Int} {x : Nat} (hx : x < N) (h : DoubAt N t x N T) : DoubAt N t (x + 1) 0 T := by
  refine ⟨h.1, fun a b ha hb => ?_⟩
  rw [h.2 a b ha hb]
  by_cases c : (half N a x ∧ b < 2 * N) ∨ ((a = x ∨ a = N + x) ∧ half N b N)
  · rw [if_pos c, if_pos (by unfold half at c ⊢; omega)]
  · rw [if_neg c, if_neg (by unfold half at c ⊢; omega)]
theorem DoubAt.zero {N : Nat} {t : List Int} : DoubAt N t 0 0 (List.replicate 100 0) :=
  ⟨by simp, fun a b ha hb => by rw [getD_rep0, if_neg (by unfold half; omega)]⟩
theorem DoubAt.all {N : Nat} {t T : List Int} (h5 : N ≤ 5) (h : DoubAt N t N 0 T) : T = mkT (doubG N t) (2 * N) (2 * N) :=
  table_ext h.1 mkT_len fun a b ha hb => by
    rw [h.2 a b ha hb, mkT_get (by omega) hb (by omega)]
    by_cases c : a < 2 * N ∧ b < 2 * N
    · rw [if_pos c, if_pos (by unfold half; omega)]
    · rw [if_neg c, if_neg (by unfold half; omega)]
theorem doubG_1 {N : Nat} {t : List Int} {x y : Nat} (hx : x < N) (hy : y < N) : doubG N t x y = cl t x y := by unfold doubG; rw [if_pos hx, if_pos hy]
theorem doubG_2 {N : Nat} {t : List Int} {x y : Nat} (hx : x < N) (hy : y < N) : doubG N t x (N + y) = N + cl t y x := by unfold doubG; rw [if_pos hx, if_neg (by omega), Nat.add_sub_cancel_left]
theorem doubG_3 {N : Nat} {t : List Int} {x y : Nat} (hx : x < N) (hy : y < N) : doubG N t (N + x) y = N + cl t x (invN N t y) := by unfold doubG; rw [if_neg (by omega), if_pos hy, Nat.add_sub_cancel_left]
theorem doubG_4 {N : Nat} {t : List Int} {x y : Nat} (hx : x < N) (hy : y < N) : doubG N t (N + x) (N + y) = cl t (invN N t y) x := by unfold doubG; rw [if_neg (by omega), if_neg (by omega), Nat.add_sub_cancel_left, Nat.add_sub_cancel_left]
end Go.Proofs.Ytjmenocghjggcaa
