/-
Contracts of functions of the given program, by the abstract walk.
-/
import Derived.Test.YtjmenocghjggcaaAbsY
import Derived.Test.YtjmenocghjggcaaWp
namespace Go.Proofs.Ytjmenocghjggcaa
open Go Go.Abs
set_option linter.unusedVariables false
set_option linter.unusedSectionVars false
set_option linter.unusedSimpArgs false
set_option maxRecDepth 100000
/-! linear algebra modulo p: solutions, plain -/
def fsP (w : Nat) (a : List Int) : Nat := fnd (fun k => if a.getD k 0 = 0 then 0 else 1) 1 w
theorem fsP_le {w : Nat} {a : List Int} : fsP w a ≤ w := fnd_le
theorem fsP_none {w k : Nat} {a : List Int} (h : k < fsP w a) : a.getD k 0 = 0 := by
  have := fnd_none h
  apply Decidable.byContradiction; intro hn
  rw [if_neg hn] at this; exact this rfl
theorem fsP_at {w : Nat} {a : List Int} (h : fsP w a < w) : a.getD (fsP w a) 0 ≠ 0 := fun e => by
  have := fnd_at h
  unfold fsP at e
  rw [if_pos e] at this; cases this
theorem fsP_eq {w i : Nat} {a : List Int} (hi : i < w) (h0 : ∀ k, k < i → a.getD k 0 = 0) (h1 : a.getD i 0 ≠ 0) : fsP w a = i := by
  rcases Nat.lt_trichotomy (fsP w a) i with h | h | h
  · exact absurd (h0 _ h) (fsP_at (by omega))
  · exact h
  · exact absurd (fsP_none h) h1
theorem fsP_zero {w : Nat} {a : List Int} (h : ∀ k, k < w → a.getD k 0 = 0) : fsP w a = w := by
  rcases Nat.lt_or_ge (fsP w a) w with h1 | h1
  · exact absurd (h _ h1) (fsP_at h1)
  · have := fsP_le (w := w) (a := a); omega
theorem addS_get {p : Int} {a b : List Int} {s : Int} {i j : Nat} (h : j < i) : (addS p a b s i).getD j 0 = (a.getD j 0 + s * b.getD j 0) % p := by
  unfold addS; rw [List.getD_eq_getElem?_getD, List.getElem?_map, List.getElem?_range h]; rfl
/-- what is left of the image, and the sum, after i pivots -/
def sovS (p : Int) (N : Nat) (D : LLs) (due : List Int) : Nat → List Int × List Int
  | 0 => (due, List.replicate N 0)
  | i + 1 => (addS p (sovS p N D due i).1 (at_ D i) (-((sovS p N D due i).1.getD (fsP N (at_ D i)) 0)) N, addS p (sovS p N D due i).2 ((at_ D i).drop N) ((sovS p N D due i).1.getD (fsP N (at_ D i)) 0) N)
theorem sovS_facts {p : Int} {N : Nat} {D : LLs} {due : List Int} (hp : PrP p) (hl : due.length = N) (hr : RngP p due) : ∀ {i}, (sovS p N D due i).1.length = N ∧ (sovS p N D due i).2.length = N ∧ RngP p (sovS p N D due i).1 ∧ RngP p (sovS p N D due i).2
  | 0 => ⟨hl, by simp [sovS], hr, fun j => by have := hp.le; show 0 ≤ (List.replicate N (0 : Int)).getD j 0 ∧ (List.replicate N (0 : Int)).getD j 0 ≤ p - 1; rw [getD_rep0]; omega⟩
  | i + 1 => ⟨addS_len, addS_len, addS_rng hp.le.1, addS_rng hp.le.1⟩
theorem mod_dvd {p x y : Int} : p ∣ x - x % p := ⟨x / p, by have := Int.emod_add_mul_ediv x p; omega⟩
theorem sumF_sub {f g : Nat → Int} {n : Nat} : sumF (fun j => f j - g j) n = sumF f n - sumF g n := by
  have := sumF_add (f := f) (g := fun j => -1 * g j) (n := n)
  rw [sumF_mul] at this
  rw [← sumF_congr (f := fun j => f j + -1 * g j) fun j _ => by omega, this]; omega
theorem sovS_inv {p : Int} {N : Nat} {m : Nat → Nat → Int} (hp : PrP p) (h : ∀ i, i < N → ∀ j, j < N → 0 ≤ m i j ∧ m i j ≤ p - 1) {D R : LLs} (hr : Red p (N + N) (matF N (N + N) (extM N m)) N D R) {due : List Int} {z : Nat} (hz : z < N) :
    ∀ {i}, i ≤ D.length → p ∣ due.getD z 0 - (sovS p N D due i).1.getD z 0 - sumF (fun k => (sovS p N D due i).2.getD k 0 * m k z) N
  | 0, _ => by
    rw [sovS, sumF_zero fun k _ => by rw [getD_rep0]; simp]
    exact ⟨0, by simp⟩
  | i + 1, hi => by
    have ih := sovS_inv hp h hr (due := due) hz (i := i) (by omega)
    have hmem : at_ D i ∈ D ++ R := List.mem_append_left _ (by rw [at_lt (by omega)]; exact List.getElem_mem _)
    have hrow := ext_row hp h hr hmem hz
    rw [sovS]
    simp only
    generalize (sovS p N D due i).1 = l at ih ⊢
    generalize (sovS p N D due i).2 = s at ih ⊢
    generalize at_ D i = a at hrow ⊢
    generalize l.getD (fsP N a) 0 = f
    rw [addS_get hz]
    have e1 : p ∣ (l.getD z 0 + -f * a.getD z 0) - (l.getD z 0 + -f * a.getD z 0) % p := mod_dvd (y := 0)
    have e2 : p ∣ sumF (fun k => (s.getD k 0 + f * a.getD (N + k) 0) * m k z - (addS p s (a.drop N) f N).getD k 0 * m k z) N := sumF_dvd fun k hk => by
      rw [addS_get hk, drop_get]
      obtain ⟨q, hq⟩ := mod_dvd (p := p) (x := s.getD k 0 + f * a.getD (N + k) 0) (y := 0)
      exact ⟨q * m k z, by rw [← Int.mul_assoc, ← hq]; grind⟩
    rw [sumF_sub, sumF_congr (f := fun k => (s.getD k 0 + f * a.getD (N + k) 0) * m k z) (g := fun k => s.getD k 0 * m k z + f * (a.getD (N + k) 0 * m k z)) (fun k _ => by grind), sumF_add, sumF_mul] at e2
    obtain ⟨q1, h1⟩ := e1; obtain ⟨q2, h2⟩ := e2; obtain ⟨q3, h3⟩ := hrow; obtain ⟨q4, h4⟩ := ih
    refine ⟨q4 + q1 + q2 + f * q3, ?_⟩
    generalize sumF (fun k => (addS p s (a.drop N) f N).getD k 0 * m k z) N = X at h2 ⊢
    generalize sumF (fun k => s.getD k 0 * m k z) N = Y at h2 h4
    generalize sumF (fun k => a.getD (N + k) 0 * m k z) N = Z at h2 h3
    generalize (l.getD z 0 + -f * a.getD z 0) % p = W at h1 ⊢
    grind
/-- if all rows are done, nothing is left of the image -/
theorem sovS_left {p : Int} {N : Nat} {D : LLs} {due : List Int} (hp : PrP p) (hr : RngP p due) (hD : ∀ i, i < N → ∀ j, j < N → (at_ D i).getD j 0 = if i = j then 1 else 0) {z : Nat} (hz : z < N) : ∀ {i}, i ≤ N → (sovS p N D due i).1.getD z 0 = if z < i then 0 else due.getD z 0
  | 0, _ => by simp [sovS]
  | i + 1, hi => by
    have ih := fun z hz => sovS_left (z := z) hp hr hD hz (i := i) (by omega)
    have hf : fsP N (at_ D i) = i := fsP_eq (by omega) (fun k hk => by rw [hD i (by omega) k (by omega), if_neg (by omega)]) (by rw [hD i (by omega) i (by omega), if_pos rfl]; decide)
    rw [sovS, addS_get hz, hf, ih z hz, ih i (by omega), if_neg (Nat.lt_irrefl i), hD i (by omega) z hz]
    have h1 := hr z
    have h2 := hr i
    by_cases e : i = z
    · subst e
      rw [if_pos rfl, if_neg (Nat.lt_irrefl i), if_pos (by omega)]
      rw [show due.getD i 0 + -due.getD i 0 * 1 = 0 by omega]; simp
    · rw [if_neg e, Int.mul_zero, Int.add_zero]
      by_cases e2 : z < i
      · rw [if_pos e2, if_pos (by omega)]; simp
      · rw [if_neg e2, if_neg (by omega), Int.emod_eq_of_lt h1.1 (by omega)]
def sovD (p : Int) (N : Nat) (I : LLs) : LLs := (redS p (N + N) (extL N I) N).1
def sovR (p : Int) (N : Nat) (I : LLs) : LLs := (redS p (N + N) (extL N I) N).2
def sovK (p : Int) (N : Nat) (I : LLs) : LLs := (redS p N (kerR N (sovR p N I)) N).1
theorem sovK_iff {p : Int} {N : Nat} {m : Nat → Nat → Int} (hp : PrP p) (h : ∀ i, i < N → ∀ j, j < N → 0 ≤ m i j ∧ m i j ≤ p - 1) : sovK p N (matF N N m) = [] ↔ Triv p N (matF N N m) := by
  have hm := ext_mat hp.le.1 h
  have hr : Red p (N + N) (matF N (N + N) (extM N m)) N (sovD p N (matF N N m)) (sovR p N (matF N N m)) := by
    unfold sovD sovR; rw [extL_mat]; exact redS_red hp hm (by omega)
  have hM := hr.mat hp.le.1 hm
  have hmK : Mat p N (kerR N (sovR p N (matF N N m))) := kerR_mat ⟨fun a ha => hM.len a (by simp [ha]), fun a ha => hM.rng a (by simp [ha])⟩
  have hK := redS_red hp hmK (Nat.le_refl N)
  rw [← ext_full hp h hr]
  constructor
  · intro e
    unfold sovK at e
    rw [e] at hK
    exact ext_rest hp h hr (hK.none hp.le.1 hmK)
  · intro e
    have hc := hK.count
    unfold sovK
    rw [e] at hc ⊢
    simp only [kerR, List.map_nil, List.length_nil] at hc ⊢
    exact List.length_eq_zero_iff.1 (by omega)
/-- the sum that the reference finds solves the program's equations -/
theorem sovS_solves {p : Int} {N : Nat} {m : Nat → Nat → Int} (hp : PrP p) (h : ∀ i, i < N → ∀ j, j < N → 0 ≤ m i j ∧ m i j ≤ p - 1) (ht : Triv p N (matF N N m)) {due : List Int} (hd : RngP p due) :
    (sovD p N (matF N N m)).length = N ∧ (∀ z, z < N → (sovS p N (sovD p N (matF N N m)) due N).1.getD z 0 = 0) ∧ ∀ z, z < N → p ∣ due.getD z 0 - sumF (fun k => (sovS p N (sovD p N (matF N N m)) due N).2.getD k 0 * m k z) N := by
  have hm := ext_mat hp.le.1 h
  have hr : Red p (N + N) (matF N (N + N) (extM N m)) N (sovD p N (matF N N m)) (sovR p N (matF N N m)) := by
    unfold sovD sovR; rw [extL_mat]; exact redS_red hp hm (by omega)
  have hl := triv_full hp h ht hr
  obtain ⟨_, _, g3⟩ := hr.low hp.le.1 hm (by omega)
  have hleft : ∀ z, z < N → (sovS p N (sovD p N (matF N N m)) due N).1.getD z 0 = 0 := fun z hz => by
    rw [sovS_left hp hd (g3 hl) hz (Nat.le_refl N), if_pos hz]
  refine ⟨hl, hleft, fun z hz => ?_⟩
  have := sovS_inv hp h hr (due := due) hz (i := N) (by omega)
  rw [hleft z hz, Int.sub_zero] at this
  exact this
/-! the program's equations with one more column -/
def eqX (N : Nat) (E : LLs) : LLs := (List.range N).map fun z => at_ E z ++ [if z = 0 then 1 else 0]
theorem eqX_row {N z : Nat} {E : LLs} (hz : z < N) : at_ (eqX N E) z = at_ E z ++ [if z = 0 then 1 else 0] := by show (eqX N E).getD z [] = _; unfold eqX; simp [hz]
theorem eqX_len {N : Nat} {E : LLs} : (eqX N E).length = N := by simp [eqX]
theorem getD_snoc {a : List Int} {v : Int} {N j : Nat} (hl : a.length = N) : (a ++ [v]).getD j 0 = if j < N then a.getD j 0 else if j = N then v else 0 := by
  subst hl
  by_cases h : j < a.length
  · rw [if_pos h, List.getD_eq_getElem?_getD, List.getElem?_append_left h, ← List.getD_eq_getElem?_getD]
  · rw [if_neg h, List.getD_eq_getElem?_getD, List.getElem?_append_right (by omega)]
    by_cases e : j = a.length
    · subst e; simp
    · rw [if_neg e, List.getElem?_eq_none (by simp; omega)]; rfl
theorem eqX_mat {p : Int} {N : Nat} {E : LLs} (hp : PrP p) (hE : Eqs N p E) : Mat p (N + 1) (eqX N E) := by
  have hp2 := hp.le
  refine ⟨fun a ha => ?_, fun a ha => ?_⟩
  · obtain ⟨z, hz, rfl⟩ := List.mem_map.1 ha
    rw [List.length_append, hE.row z (List.mem_range.1 hz)]; rfl
  · obtain ⟨z, hz, rfl⟩ := List.mem_map.1 ha
    intro j
    have := hE.rng z (List.mem_range.1 hz) j
    rw [getD_snoc (hE.row z (List.mem_range.1 hz))]
    split
    · exact this
    · split
      · split <;> omega
      · omega
theorem eqX_nul {p : Int} {N : Nat} {E : LLs} {m : Nat → Nat → Int} (hE : Eqs N p E) (hm : E = matF N N m) {y : Nat → Int} : Nul p (N + 1) (eqX N E) y ↔ ∀ z, z < N → p ∣ sumF (fun j => m z j * y j) N + (if z = 0 then 1 else 0) * y N := by
  have hdot : ∀ z, z < N → dotN (at_ E z ++ [if z = 0 then 1 else 0]) y (N + 1) = sumF (fun j => m z j * y j) N + (if z = 0 then 1 else 0) * y N := fun z hz => by
    have er : at_ E z = rowF N (m z) := by rw [hm]; unfold at_ matF; simp [hz]
    rw [dotN, dot_sum, getD_snoc (hE.row z hz), if_neg (Nat.lt_irrefl N), if_pos rfl]
    congr 1
    refine sumF_congr fun j hj => ?_
    rw [getD_snoc (hE.row z hz), if_pos hj, er, rowF_get hj]
  constructor
  · intro hn z hz
    rw [← hdot z hz]
    exact hn _ (List.mem_map.2 ⟨z, List.mem_range.2 hz, rfl⟩)
  · intro hn a ha
    obtain ⟨z, hz, rfl⟩ := List.mem_map.1 ha
    rw [hdot z (List.mem_range.1 hz)]
    exact hn z (List.mem_range.1 hz)
theorem inc_range {N : Nat} : ∀ {l : List Nat}, l.Pairwise (· < ·) → ∀ i (h : i < l.length), i ≤ l[i] := fun {l} h i => by
  induction i with
  | zero => intro _; omega
  | succ i ih =>
    intro hi
    have := ih (by omega)
    have := (List.pairwise_iff_getElem.1 h) i (i + 1) (by omega) hi (by omega)
    omega
/-- the program's test: as many places as unknowns, and the last of them not the column of the due -/
theorem eqX_full {p : Int} {N : Nat} {E : LLs} {m : Nat → Nat → Int} (hp : PrP p) (hN : 0 < N) (hE : Eqs N p E) (hm : E = matF N N m) :
    ((rdS p N (eqX N E) (N + 1)).2.2.length = N ∧ (rdS p N (eqX N E) (N + 1)).2.2.getD (N - 1) 0 ≠ N) ↔ Triv p N (matF N N m) := by
  have hM := eqX_mat hp hE
  have hI := rdS_I hp hM eqX_len (Nat.le_refl (N + 1))
  have hI0 := rdS_I hp hM eqX_len (show N ≤ N + 1 by omega)
  have hl0 := (perm_lt hI0.perm).1
  constructor
  · rintro ⟨h1, h2⟩ x hx j hj
    have hl := (perm_lt hI.perm).1
    generalize rdS p N (eqX N E) (N + 1) = S at hI h1 h2 hl
    obtain ⟨P, pi, pl⟩ := S
    simp only at hI h1 h2 hl
    have hpl : ∀ i, i < N → pl.getD i 0 = i := fun i hi => by
      have e : ∀ i (h : i < pl.length), pl.getD i 0 = pl[i] := fun i h => by simp [h]
      have hlast : pl.getD (N - 1) 0 < N := by
        have := hI.plt (pl[N - 1]) (List.getElem_mem _)
        rw [e _ (by omega)] at h2 ⊢; omega
      have hge := inc_range (N := N) hI.inc i (by omega)
      rw [e i (by omega)]
      have hup : ∀ d, i + d < N → pl[i]'(by omega) + d ≤ pl.getD (i + d) 0 := fun d => by
        induction d with
        | zero => intro hd; rw [e _ (by omega)]; exact Nat.le_refl _
        | succ d ih =>
          intro hd
          have h1 := ih (by omega)
          have h2 := (List.pairwise_iff_getElem.1 hI.inc) (i + d) (i + (d + 1)) (by omega) (by omega) (by omega)
          rw [e _ (by omega)] at h1 ⊢; omega
      have := hup (N - 1 - i) (by omega)
      rw [show i + (N - 1 - i) = N - 1 by omega] at this
      omega
    have hn : Nul p (N + 1) (eqX N E) (fun i => if i < N then x i else 0) := (eqX_nul hE hm).2 fun z hz => by
      rw [if_neg (Nat.lt_irrefl N), Int.mul_zero, Int.add_zero, sumF_congr (g := fun j => m z j * x j) fun j hj => by rw [if_pos hj]]
      exact nul_matF.1 hx z hz
    have hrow := (hI.red.nul hp.le.1 hM).1 hn (at_ P (pi.getD j 0)) (List.mem_append_left _ (List.mem_map.2 ⟨pi.getD j 0, by
      have e : pi.getD j 0 = (pi.take pl.length)[j]'(by rw [List.length_take]; omega) := by rw [List.getElem_take]; simp [show j < pi.length by omega]
      rw [e]; exact List.getElem_mem _, rfl⟩))
    rw [dotN, if_neg (Nat.lt_irrefl N), Int.mul_zero, Int.add_zero, dot_unit (i := j) (fun k hk => by
      have := hI.piv j (by omega) k (by omega)
      rw [hpl k hk] at this; exact this), if_pos hj, if_pos hj] at hrow
    exact hrow
  · intro ht
    rcases hI0.red.free hp.le.1 hM (by omega) with e | ⟨y, j0, h1, h2, h3, h4⟩
    · have hk := hI0.kn
      rw [List.length_map, List.length_take, hl0, Nat.min_eq_left hk] at e
      have hsame : rdS p N (eqX N E) (N + 1) = rdS p N (eqX N E) N := by
        show rdN p N N (rdS p N (eqX N E) N) = _
        unfold rdN
        rw [e, Nat.sub_self, fz, if_neg (Nat.lt_irrefl N)]
      rw [hsame]
      refine ⟨e, fun hh => ?_⟩
      have hlt := hI0.plt ((rdS p N (eqX N E) N).2.2.getD (N - 1) 0) (by
        rw [List.getD_eq_getElem?_getD, List.getElem?_eq_getElem (by omega)]; exact List.getElem_mem _)
      omega
    · have := ht y (nul_matF.2 fun z hz => by
        have := (eqX_nul hE hm).1 h3 z hz
        rw [h2 N (Nat.le_refl N), Int.mul_zero, Int.add_zero] at this
        exact this) j0 h1
      rw [h4] at this
      exact absurd this (not_dvd_one hp.le.1)
/-- the last column of the program's rows is the only solution -/
theorem eqX_sol {p : Int} {N : Nat} {E : LLs} {m : Nat → Nat → Int} (hp : PrP p) (hN : 0 < N) (hE : Eqs N p E) (hm : E = matF N N m) (ht : Triv p N (matF N N m)) {s : List Int} (hs : RngP p s) (hsol : ∀ z, z < N → p ∣ (if z = 0 then 1 else 0) - sumF (fun k => s.getD k 0 * m z k) N) :
    ∀ i, i < N → (at_ (rdS p N (eqX N E) (N + 1)).1 ((rdS p N (eqX N E) (N + 1)).2.1.getD i 0)).getD N 0 = s.getD i 0 := by
  have hfull := (eqX_full hp hN hE hm).2 ht
  have hM := eqX_mat hp hE
  have hI := rdS_I hp hM eqX_len (Nat.le_refl (N + 1))
  have hl := (perm_lt hI.perm).1
  obtain ⟨h1, h2⟩ := hfull
  generalize rdS p N (eqX N E) (N + 1) = S at hI h1 h2 hl ⊢
  obtain ⟨P, pi, pl⟩ := S
  simp only at hI h1 h2 hl ⊢
  intro i hi
  have hpl : ∀ i, i < N → pl.getD i 0 = i := fun i hi => by
    have e : ∀ i (h : i < pl.length), pl.getD i 0 = pl[i] := fun i h => by simp [h]
    have hlast : pl.getD (N - 1) 0 < N := by
      have := hI.plt (pl[N - 1]) (List.getElem_mem _)
      rw [e _ (by omega)] at h2 ⊢; omega
    have hge := inc_range (N := N) hI.inc i (by omega)
    rw [e i (by omega)]
    have hup : ∀ d, i + d < N → pl[i]'(by omega) + d ≤ pl.getD (i + d) 0 := fun d => by
      induction d with
      | zero => intro hd; rw [e _ (by omega)]; exact Nat.le_refl _
      | succ d ih =>
        intro hd
        have h1 := ih (by omega)
        have h2 := (List.pairwise_iff_getElem.1 hI.inc) (i + d) (i + (d + 1)) (by omega) (by omega) (by omega)
        rw [e _ (by omega)] at h1 ⊢; omega
    have := hup (N - 1 - i) (by omega)
    rw [show i + (N - 1 - i) = N - 1 by omega] at this
    omega
  have hn : Nul p (N + 1) (eqX N E) (fun i => if i < N then s.getD i 0 else -1) := (eqX_nul hE hm).2 fun z hz => by
    rw [if_neg (Nat.lt_irrefl N), sumF_congr (g := fun k => s.getD k 0 * m z k) fun j hj => by rw [if_pos hj, Int.mul_comm]]
    obtain ⟨q, hq⟩ := hsol z hz
    exact ⟨-q, by grind⟩
  have hrow := (hI.red.nul hp.le.1 hM).1 hn (at_ P (pi.getD i 0)) (List.mem_append_left _ (List.mem_map.2 ⟨pi.getD i 0, by
    have e : pi.getD i 0 = (pi.take pl.length)[i]'(by rw [List.length_take]; omega) := by rw [List.getElem_take]; simp [show i < pi.length by omega]
    rw [e]; exact List.getElem_mem _, rfl⟩))
  rw [dotN, if_neg (Nat.lt_irrefl N), dot_unit (i := i) (fun k hk => by
    have := hI.piv i (by omega) k (by omega)
    rw [hpl k hk] at this; exact this), if_pos hi, if_pos hi] at hrow
  have r1 := hI.rng _ ((perm_lt hI.perm).2.1 i hi) N
  have r2 := hs i
  obtain ⟨q, hq⟩ := hrow
  rcases Int.lt_trichotomy q 0 with h1 | h1 | h1
  · have := Int.mul_le_mul_of_nonneg_left (show q ≤ -1 by omega) (show 0 ≤ p by omega); omega
  · rw [h1] at hq; omega
  · have := Int.mul_le_mul_of_nonneg_left (show 1 ≤ q by omega) (show 0 ≤ p by omega); omega

end Go.Proofs.Ytjmenocghjggcaa
