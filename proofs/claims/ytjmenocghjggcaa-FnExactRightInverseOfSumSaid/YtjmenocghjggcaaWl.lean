/-
Contracts of functions of the given program, by the abstract walk.
-/
import Derived.Test.YtjmenocghjggcaaAbsY
import Derived.Test.YtjmenocghjggcaaWk
import Derived.Test.YtjmenocghjggcaaTx
namespace Go.Proofs.Ytjmenocghjggcaa
open Go Go.Abs
set_option linter.unusedVariables false
set_option linter.unusedSectionVars false
set_option linter.unusedSimpArgs false
set_option maxRecDepth 100000
/-! linear algebra modulo p: the images and the equations are a matrix and its transpose -/
/-- the number before the product of x and y at the place z, x up to a bound -/
def acF (t : List Int) (p : Int) (a : List Int) (y z : Nat) : Nat → Int
  | 0 => 0
  | x + 1 => if cl t x y = z then (acF t p a y z x + a.getD x 0).tmod p else acF t p a y z x
theorem add_rng {p u v : Int} (hp : PrP p) (hu : 0 ≤ u ∧ u ≤ p - 1) (hv : 0 ≤ v ∧ v ≤ p - 1) : 0 ≤ (u + v).tmod p ∧ (u + v).tmod p ≤ p - 1 := by
  have hp2 := hp.le
  have q1 := Int.tmod_nonneg p (show 0 ≤ u + v by omega)
  have q2 := Int.tmod_lt_of_pos (u + v) (show 0 < p by omega)
  omega
theorem acF_rng {t : List Int} {p : Int} {a : List Int} {y z : Nat} (hp : PrP p) (ha : RngP p a) : ∀ {x}, 0 ≤ acF t p a y z x ∧ acF t p a y z x ≤ p - 1
  | 0 => by have := hp.le; rw [acF]; omega
  | x + 1 => by
    rw [acF]; split
    · exact add_rng hp (acF_rng hp ha) (ha x)
    · exact acF_rng hp ha
theorem tmIn_unit {N : Nat} {t : List Int} {p : Int} {a o : List Int} {x y z : Nat} (hp : PrP p) (hs : SqP N t) (ha : RngP p a) (hy : y < N) (hx : x < N) (ho : RngP p o) (hl : o.length = N) : ∀ {k}, k ≤ N → (tmIn t p a (unitK N y) x o k).getD z 0 = if y < k ∧ cl t x y = z then (o.getD z 0 + a.getD x 0).tmod p else o.getD z 0
  | 0, _ => by simp [tmIn]
  | k + 1, hk => by
    have ih := fun z => tmIn_unit (z := z) hp hs ha hy hx ho hl (k := k) (by omega)
    have hr := tmIn_rng (t := t) (x := x) hp ha (unitK_rng (N := N) hp hy) ho (y := k)
    have hz := hs.cl_lt hx (show k < N by omega)
    rw [tmIn, tmAt, getD_set_int (by rw [tmIn_len, hl]; exact hz), unitK_get hy]
    by_cases e : k = y
    · subst e
      rw [if_pos rfl, Int.mul_one]
      by_cases e2 : cl t x k = z
      · subst e2; rw [if_pos rfl, ih, if_neg (by omega), if_pos ⟨by omega, rfl⟩]
      · rw [if_neg e2, ih, if_neg (by omega), if_neg fun h => e2 h.2]
    · rw [if_neg e, Int.mul_zero, Int.add_zero, Int.tmod_eq_of_lt (hr _).1 (by have := hr (cl t x k); omega)]
      have : (if cl t x k = z then (tmIn t p a (unitK N y) x o k).getD (cl t x k) 0 else (tmIn t p a (unitK N y) x o k).getD z 0) = (tmIn t p a (unitK N y) x o k).getD z 0 := by
        split
        · rename_i e2; rw [e2]
        · rfl
      rw [this, ih]
      by_cases e2 : y < k ∧ cl t x y = z
      · rw [if_pos e2, if_pos ⟨by omega, e2.2⟩]
      · rw [if_neg e2, if_neg fun h => e2 ⟨by omega, h.2⟩]
theorem tmT_unit {N : Nat} {t : List Int} {p : Int} {a : List Int} {y z : Nat} (hp : PrP p) (hs : SqP N t) (ha : RngP p a) (hy : y < N) (hz : z < N) : ∀ {x}, x ≤ N → (tmT N t p a (unitK N y) x).getD z 0 = acF t p a y z x
  | 0, _ => by rw [tmT, acF, getD_rep0]
  | x + 1, hx => by
    rw [tmT, tmIn_unit hp hs ha hy (by omega) (tmT_rng hp ha (unitK_rng hp hy)) tmT_len (Nat.le_refl N), tmT_unit hp hs ha hy hz (by omega), acF]
    by_cases e : cl t x y = z
    · rw [if_pos ⟨hy, e⟩, if_pos e]
    · rw [if_neg fun h => e h.2, if_neg e]
theorem eqIn_get {N : Nat} {t : List Int} {p : Int} {a : List Int} {E : LLs} {x y z : Nat} (hp : PrP p) (hs : SqP N t) (hE : Eqs N p E) (ha : RngP p a) (hx : x < N) (hy : y < N) : ∀ {k}, k ≤ N → (at_ (eqIn t p a x E k) z).getD y 0 = if y < k ∧ cl t x y = z then ((at_ E z).getD y 0 + a.getD x 0).tmod p else (at_ E z).getD y 0
  | 0, _ => by simp [eqIn]
  | k + 1, hk => by
    have ih := eqIn_get (z := z) hp hs hE ha hx hy (k := k) (by omega)
    have hF := eqIn_eqs hp hs hE ha hx (y := k) (by omega)
    have hz := hs.cl_lt hx (show k < N by omega)
    rw [eqIn, at_set (by rw [hF.len]; exact hz)]
    by_cases e : z = cl t x k
    · subst e
      rw [if_pos rfl, eqRow, getD_set_int (by rw [hF.row _ hz]; omega)]
      by_cases e2 : k = y
      · subst e2
        rw [if_pos rfl, ih, if_neg (by omega), if_pos ⟨by omega, rfl⟩]
      · rw [if_neg e2, ih]
        by_cases e3 : y < k ∧ cl t x y = cl t x k
        · rw [if_pos e3, if_pos ⟨by omega, e3.2⟩]
        · rw [if_neg e3, if_neg fun h => e3 ⟨by omega, h.2⟩]
    · rw [if_neg e, ih]
      by_cases e3 : y < k ∧ cl t x y = z
      · rw [if_pos e3, if_pos ⟨by omega, e3.2⟩]
      · rw [if_neg e3, if_neg fun h => by
          by_cases e4 : y = k
          · subst e4; exact e h.2.symm
          · exact e3 ⟨by omega, h.2⟩]
theorem eqT_get {N : Nat} {t : List Int} {p : Int} {a : List Int} {y z : Nat} (hp : PrP p) (hs : SqP N t) (ha : RngP p a) (hy : y < N) (hz : z < N) : ∀ {x}, x ≤ N → (at_ (eqT N t p a x) z).getD y 0 = acF t p a y z x
  | 0, _ => by
    have e : at_ (zrL N N) z = List.replicate N 0 := by unfold at_ zrL; rw [List.getD_eq_getElem?_getD, List.getElem?_replicate, if_pos hz]; rfl
    rw [eqT, acF, e, getD_rep0]
  | x + 1, hx => by
    rw [eqT, eqIn_get hp hs (eqT_eqs hp hs ha (by omega)) ha (by omega) hy (Nat.le_refl N), eqT_get hp hs ha hy hz (by omega), acF]
    by_cases e : cl t x y = z
    · rw [if_pos ⟨hy, e⟩, if_pos e]
    · rw [if_neg fun h => e h.2, if_neg e]
theorem row_rowF {N : Nat} {xs : List Int} {g : Nat → Int} (hl : xs.length = N) (h : ∀ j, j < N → xs.getD j 0 = g j) : xs = rowF N g :=
  ext_getD (by rw [hl, rowF_len]) fun j hj => by rw [rowF_get (by omega), h j (by omega)]
theorem imgL_mat {N : Nat} {t : List Int} {p : Int} {a : List Int} (hp : PrP p) (hs : SqP N t) (ha : RngP p a) : imgL N t p a N = matF N N (fun y z => acF t p a y z N) := by
  unfold imgL matF
  exact List.map_congr_left fun y hy => row_rowF tmT_len fun z hz => tmT_unit hp hs ha (List.mem_range.1 hy) hz (Nat.le_refl N)
theorem eqT_mat {N : Nat} {t : List Int} {p : Int} {a : List Int} (hp : PrP p) (hs : SqP N t) (ha : RngP p a) : eqT N t p a N = matF N N (fun z y => acF t p a y z N) := by
  have hE := eqT_eqs (N := N) (t := t) hp hs ha (Nat.le_refl N)
  refine List.ext_getElem (by rw [hE.len]; simp [matF]) fun z h1 h2 => ?_
  have hz : z < N := by rw [← hE.len]; exact h1
  rw [← at_lt h1]
  simp only [matF, List.getElem_map, List.getElem_range]
  exact row_rowF (hE.row z hz) fun y hy => eqT_get hp hs ha hy hz (Nat.le_refl N)
theorem img_mat {N : Nat} {t : List Int} {p : Int} {a : List Int} (hp : PrP p) (hs : SqP N t) (ha : RngP p a) : Mat p N (imgL N t p a N) := by
  rw [imgL_mat hp hs ha]; exact mat_matF hp.le.1 fun i _ j _ => acF_rng hp ha
theorem eq_mat {N : Nat} {t : List Int} {p : Int} {a : List Int} (hp : PrP p) (hs : SqP N t) (ha : RngP p a) : Mat p N (eqT N t p a N) := by
  rw [eqT_mat hp hs ha]; exact mat_matF hp.le.1 fun i _ j _ => acF_rng hp ha
theorem img_eq_triv {N : Nat} {t : List Int} {p : Int} {a : List Int} (hp : PrP p) (hs : SqP N t) (ha : RngP p a) : Triv p N (imgL N t p a N) ↔ Triv p N (eqT N t p a N) := by
  rw [imgL_mat hp hs ha, eqT_mat hp hs ha]
  exact triv_iff (m := fun y z => acF t p a y z N) hp fun i _ j _ => acF_rng hp ha
/-! CountUnits, plain -/
noncomputable def unB (N : Nat) (t : List Int) (P i : Nat) : Bool := @decide (Triv P N (eqT N t P (digL P N i) N)) (Classical.propDecidable _)
theorem unB_iff {N : Nat} {t : List Int} {P i : Nat} : unB N t P i = true ↔ Triv P N (eqT N t P (digL P N i) N) := by unfold unB; exact @decide_eq_true_iff _ (Classical.propDecidable _)
noncomputable def cnU (N : Nat) (t : List Int) (P : Nat) : Nat → Nat
  | 0 => 0
  | k + 1 => if unB N t P k then cnU N t P k + 1 else cnU N t P k
theorem cnU_le {N : Nat} {t : List Int} {P : Nat} : ∀ {k}, cnU N t P k ≤ k
  | 0 => by simp [cnU]
  | k + 1 => by have := cnU_le (N := N) (t := t) (P := P) (k := k); rw [cnU]; split <;> omega
theorem unS {N : Nat} {t : List Int} {P i : Nat} (hp : PrP P) (hs : SqP N t) (hP : 0 < P) : (redS P N (imgL N t P (digL P N i) N) N).1.length = N ↔ unB N t P i = true := by
  have ha := digL_rng (N := N) (i := i) hP
  have hm := img_mat hp hs ha
  rw [(redS_red hp hm (Nat.le_refl N)).rank hp.le.1 hm, img_eq_triv hp hs ha, unB_iff]

end Go.Proofs.Ytjmenocghjggcaa
