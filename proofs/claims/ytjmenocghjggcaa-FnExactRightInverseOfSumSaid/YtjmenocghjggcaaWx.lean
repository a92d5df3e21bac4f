/-
Contracts of functions of the given program, by the abstract walk.
-/
import Derived.Test.YtjmenocghjggcaaAbsY
import Derived.Test.YtjmenocghjggcaaGc
import Derived.Test.YtjmenocghjggcaaGf
import Derived.Test.YtjmenocghjggcaaJj
import Derived.Test.YtjmenocghjggcaaCc
namespace Go.Proofs.Ytjmenocghjggcaa
open Go Go.Abs
set_option linter.unusedVariables false
set_option linter.unusedSectionVars false
set_option linter.unusedSimpArgs false
set_option maxRecDepth 100000
/-! linear algebra modulo p: reduction as a relation, its null space -/
def dotN (a : List Int) (y : Nat → Int) : Nat → Int
  | 0 => 0
  | j + 1 => dotN a y j + a.getD j 0 * y j
def elimR (p : Int) (b : List Int) (c : Nat) (x : List Int) : List Int := (List.range x.length).map fun j => (x.getD j 0 - x.getD c 0 * b.getD j 0) % p
def scaleR (p s : Int) (a : List Int) : List Int := (List.range a.length).map fun j => (s * a.getD j 0) % p
theorem elimR_len {p : Int} {b : List Int} {c : Nat} {x : List Int} : (elimR p b c x).length = x.length := by simp [elimR]
theorem scaleR_len {p s : Int} {a : List Int} : (scaleR p s a).length = a.length := by simp [scaleR]
theorem elimR_get {p : Int} {b : List Int} {c : Nat} {x : List Int} {j : Nat} (h : j < x.length) : (elimR p b c x).getD j 0 = (x.getD j 0 - x.getD c 0 * b.getD j 0) % p := by
  unfold elimR; rw [List.getD_eq_getElem?_getD, List.getElem?_map, List.getElem?_range h]; rfl
theorem scaleR_get {p s : Int} {a : List Int} {j : Nat} (h : j < a.length) : (scaleR p s a).getD j 0 = (s * a.getD j 0) % p := by
  unfold scaleR; rw [List.getD_eq_getElem?_getD, List.getElem?_map, List.getElem?_range h]; rfl
theorem emod_eq (x p : Int) : x % p = x - p * (x / p) := by have := Int.emod_add_mul_ediv x p; omega
theorem dot_elim {p : Int} {b : List Int} {c : Nat} {x : List Int} {y : Nat → Int} : ∀ {w}, w ≤ x.length → ∃ k, dotN (elimR p b c x) y w = dotN x y w - x.getD c 0 * dotN b y w + p * k
  | 0, _ => ⟨0, by simp [dotN]⟩
  | w + 1, h => by
    obtain ⟨k, hk⟩ := dot_elim (p := p) (b := b) (c := c) (x := x) (y := y) (w := w) (by omega)
    refine ⟨k - ((x.getD w 0 - x.getD c 0 * b.getD w 0) / p) * y w, ?_⟩
    rw [dotN, dotN, dotN, hk, elimR_get (by omega), emod_eq]
    generalize (x.getD w 0 - x.getD c 0 * b.getD w 0) / p = q
    grind
theorem dot_scale {p s : Int} {a : List Int} {y : Nat → Int} : ∀ {w}, w ≤ a.length → ∃ k, dotN (scaleR p s a) y w = s * dotN a y w + p * k
  | 0, _ => ⟨0, by simp [dotN]⟩
  | w + 1, h => by
    obtain ⟨k, hk⟩ := dot_scale (p := p) (s := s) (a := a) (y := y) (w := w) (by omega)
    refine ⟨k - ((s * a.getD w 0) / p) * y w, ?_⟩
    rw [dotN, dotN, hk, scaleR_get (by omega), emod_eq]
    generalize (s * a.getD w 0) / p = q
    grind
/-- y is killed by the rows -/
def Nul (p : Int) (L : Nat) (rows : LLs) (y : Nat → Int) : Prop := ∀ a ∈ rows, p ∣ dotN a y L
/-- rows of length L, entries from 0 to p - 1 -/
structure Mat (p : Int) (L : Nat) (rows : LLs) : Prop where
  len : ∀ a ∈ rows, a.length = L
  rng : ∀ a ∈ rows, RngP p a
inductive Red (p : Int) (L : Nat) (rows : LLs) : Nat → LLs → LLs → Prop
  | init : Red p L rows 0 [] rows
  | perm {c : Nat} {D R R' : LLs} : Red p L rows c D R → R.Perm R' → Red p L rows c D R'
  | skip {c : Nat} {D R : LLs} : Red p L rows c D R → (∀ a ∈ R, a.getD c 0 = 0) → Red p L rows (c + 1) D R
  | step {c : Nat} {D R : LLs} {a : List Int} {s : Int} : Red p L rows c D (a :: R) → c < L → (s * a.getD c 0) % p = 1 → Red p L rows (c + 1) (D.map (elimR p (scaleR p s a) c) ++ [scaleR p s a]) (R.map (elimR p (scaleR p s a) c))
theorem rng_mod {p : Int} (hp : 2 ≤ p) {x : Int} : 0 ≤ x % p ∧ x % p ≤ p - 1 := by
  have h1 := Int.emod_nonneg x (show p ≠ 0 by omega)
  have h2 := Int.emod_lt_of_pos x (show 0 < p by omega)
  omega
theorem elimR_rng {p : Int} (hp : 2 ≤ p) {b : List Int} {c : Nat} {x : List Int} : RngP p (elimR p b c x) := fun i => by
  by_cases h : i < x.length
  · rw [elimR_get h]; exact rng_mod hp
  · rw [List.getD_eq_getElem?_getD, List.getElem?_eq_none (by rw [elimR_len]; omega)]; simp; omega
theorem scaleR_rng {p s : Int} (hp : 2 ≤ p) {a : List Int} : RngP p (scaleR p s a) := fun i => by
  by_cases h : i < a.length
  · rw [scaleR_get h]; exact rng_mod hp
  · rw [List.getD_eq_getElem?_getD, List.getElem?_eq_none (by rw [scaleR_len]; omega)]; simp; omega
theorem Red.mat {p : Int} {L : Nat} {rows : LLs} (hp : 2 ≤ p) (hm : Mat p L rows) {c : Nat} {D R : LLs} (h : Red p L rows c D R) : Mat p L (D ++ R) := by
  induction h with
  | init => exact hm
  | perm _ hq ih => exact ⟨fun a ha => ih.len a ((hq.append_left _).mem_iff.2 ha), fun a ha => ih.rng a ((hq.append_left _).mem_iff.2 ha)⟩
  | skip _ _ ih => exact ih
  | @step c D R a s _ hc hs ih =>
    have la := ih.len a (by simp)
    refine ⟨fun x hx => ?_, fun x hx => ?_⟩
    · simp only [List.append_assoc, List.mem_append, List.mem_map, List.mem_singleton, List.cons_append, List.nil_append, List.mem_cons] at hx
      rcases hx with ⟨z, hz, rfl⟩ | rfl | ⟨z, hz, rfl⟩
      · rw [elimR_len]; exact ih.len z (by simp [hz])
      · rw [scaleR_len]; exact la
      · rw [elimR_len]; exact ih.len z (by simp [hz])
    · simp only [List.append_assoc, List.mem_append, List.mem_map, List.mem_singleton, List.cons_append, List.nil_append, List.mem_cons] at hx
      rcases hx with ⟨z, hz, rfl⟩ | rfl | ⟨z, hz, rfl⟩
      · exact elimR_rng hp
      · exact scaleR_rng hp
      · exact elimR_rng hp
theorem elimR_self {p : Int} (hp : 2 ≤ p) {b : List Int} {c : Nat} {x : List Int} (h : c < x.length) (hb : b.getD c 0 = 1) : (elimR p b c x).getD c 0 = 0 := by
  rw [elimR_get h, hb]; simp
theorem elimR_zero {p : Int} (hp : 2 ≤ p) {b : List Int} {c j : Nat} {x : List Int} (h : j < x.length) (hx : RngP p x) (hb : b.getD j 0 = 0) : (elimR p b c x).getD j 0 = x.getD j 0 := by
  rw [elimR_get h, hb]
  have := hx j
  rw [Int.mul_zero, Int.sub_zero, Int.emod_eq_of_lt (by omega) (by omega)]
/-- what is left of rows is zero on the columns that are done; while all columns gave a pivot the pivots' rows are the identity there -/
theorem Red.low {p : Int} {L : Nat} {rows : LLs} (hp : 2 ≤ p) (hm : Mat p L rows) {c : Nat} {D R : LLs} (h : Red p L rows c D R) :
    c ≤ L → D.length ≤ c ∧ (∀ a ∈ R, ∀ j, j < c → a.getD j 0 = 0) ∧ (D.length = c → ∀ i, i < c → ∀ j, j < c → (at_ D i).getD j 0 = if i = j then 1 else 0) := by
  induction h with
  | init => intro _; exact ⟨by simp, fun a _ j hj => absurd hj (by omega), fun _ i hi => absurd hi (by omega)⟩
  | perm _ hq ih => intro hc; obtain ⟨h1, h2, h3⟩ := ih hc; exact ⟨h1, fun a ha => h2 a (hq.mem_iff.2 ha), h3⟩
  | @skip c D R _ hz ih =>
    intro hc
    obtain ⟨h1, h2, h3⟩ := ih (by omega)
    refine ⟨by omega, fun a ha j hj => ?_, fun e => by omega⟩
    by_cases e : j = c
    · subst e; exact hz a ha
    · exact h2 a ha j (by omega)
  | @step c D R a s hr hc hs ih =>
    intro _
    obtain ⟨h1, h2, h3⟩ := ih (by omega)
    have hM := hr.mat hp hm
    have la := hM.len a (by simp)
    have b1 : (scaleR p s a).getD c 0 = 1 := by rw [scaleR_get (by omega)]; exact hs
    have b0 : ∀ j, j < c → (scaleR p s a).getD j 0 = 0 := fun j hj => by rw [scaleR_get (by omega), h2 a (by simp) j hj]; simp
    refine ⟨by simp; omega, fun x hx j hj => ?_, fun e i hi j hj => ?_⟩
    · obtain ⟨z, hz, rfl⟩ := List.mem_map.1 hx
      have lz := hM.len z (by simp [hz])
      by_cases e : j = c
      · subst e; exact elimR_self hp (by omega) b1
      · rw [elimR_zero hp (by omega) (hM.rng z (by simp [hz])) (b0 j (by omega))]
        exact h2 z (by simp [hz]) j (by omega)
    · have lD : D.length = c := by simpa using e
      by_cases ei : i = c
      · subst ei
        have : at_ (D.map (elimR p (scaleR p s a) i) ++ [scaleR p s a]) i = scaleR p s a := by
          unfold at_; rw [List.getD_eq_getElem?_getD, List.getElem?_append_right (by simp [lD])]; simp [lD]
        rw [this]
        by_cases ej : j = i
        · subst ej; rw [b1, if_pos rfl]
        · rw [b0 j (by omega), if_neg (by omega)]
      · have hiD : i < D.length := by omega
        have hmem : at_ D i ∈ D := by rw [at_lt hiD]; exact List.getElem_mem _
        have lx := hM.len (at_ D i) (by simp [hmem])
        have : at_ (D.map (elimR p (scaleR p s a) c) ++ [scaleR p s a]) i = elimR p (scaleR p s a) c (at_ D i) := by
          rw [at_lt (by simp; omega), at_lt hiD, List.getElem_append_left (by simpa using hiD), List.getElem_map]
        rw [this]
        by_cases ej : j = c
        · subst ej; rw [elimR_self hp (by omega) b1, if_neg ei]
        · rw [elimR_zero hp (by omega) (hM.rng _ (by simp [hmem])) (b0 j (by omega)), h3 lD i (by omega) j (by omega)]

/-! linear algebra modulo p: null spaces, the rank law -/
theorem Red.nul {p : Int} {L : Nat} {rows : LLs} (hp : 2 ≤ p) (hm : Mat p L rows) {c : Nat} {D R : LLs} (h : Red p L rows c D R) {y : Nat → Int} : Nul p L rows y ↔ Nul p L (D ++ R) y := by
  induction h with
  | init => exact Iff.rfl
  | perm _ hq ih => exact ih.trans ⟨fun hn a ha => hn a ((hq.append_left _).mem_iff.2 ha), fun hn a ha => hn a ((hq.append_left _).mem_iff.1 ha)⟩
  | skip _ _ ih => exact ih
  | @step c D R a s hr hc hs ih =>
    have hM := hr.mat hp hm
    have la := hM.len a (by simp)
    refine ih.trans ?_
    obtain ⟨k, hk⟩ := dot_scale (p := p) (s := s) (a := a) (y := y) (w := L) (by omega)
    have hs2 : s * a.getD c 0 = 1 + p * ((s * a.getD c 0) / p) := by have := Int.emod_add_mul_ediv (s * a.getD c 0) p; omega
    have hb : p ∣ dotN (scaleR p s a) y L ↔ p ∣ dotN a y L := by
      rw [hk]
      constructor
      · rintro ⟨q, hq⟩
        refine ⟨a.getD c 0 * (q - k) - ((s * a.getD c 0) / p) * dotN a y L, ?_⟩
        generalize (s * a.getD c 0) / p = m at hs2 ⊢
        grind
      · rintro ⟨q, hq⟩; exact ⟨s * q + k, by rw [hq]; grind⟩
    have he : ∀ x, x.length = L → p ∣ dotN (scaleR p s a) y L → (p ∣ dotN (elimR p (scaleR p s a) c x) y L ↔ p ∣ dotN x y L) := fun x hx hd => by
      obtain ⟨k, hk⟩ := dot_elim (p := p) (b := scaleR p s a) (c := c) (x := x) (y := y) (w := L) (by omega)
      obtain ⟨d, hd⟩ := hd
      rw [hk, hd]
      constructor
      · rintro ⟨q, hq⟩; exact ⟨q + x.getD c 0 * d - k, by grind⟩
      · rintro ⟨q, hq⟩; exact ⟨q - x.getD c 0 * d + k, by grind⟩
    constructor
    · intro hn x hx
      have h0 := hb.2 (hn a (by simp))
      simp only [List.append_assoc, List.mem_append, List.mem_map, List.mem_singleton, List.cons_append, List.nil_append, List.mem_cons] at hx
      rcases hx with ⟨z, hz, rfl⟩ | rfl | ⟨z, hz, rfl⟩
      · exact (he z (hM.len z (by simp [hz])) h0).2 (hn z (by simp [hz]))
      · exact h0
      · exact (he z (hM.len z (by simp [hz])) h0).2 (hn z (by simp [hz]))
    · intro hn x hx
      have h0 := hn (scaleR p s a) (by simp)
      simp only [List.mem_append, List.mem_cons] at hx
      rcases hx with hz | rfl | hz
      · exact (he x (hM.len x (by simp [hz])) h0).1 (hn _ (by simp only [List.mem_append, List.mem_map]; exact .inl (.inl ⟨x, hz, rfl⟩)))
      · exact hb.1 h0
      · exact (he x (hM.len x (by simp [hz])) h0).1 (hn _ (by simp only [List.mem_append, List.mem_map]; exact .inr ⟨x, hz, rfl⟩))
theorem Red.count {p : Int} {L : Nat} {rows : LLs} {c : Nat} {D R : LLs} (h : Red p L rows c D R) : D.length + R.length = rows.length := by
  induction h with
  | init => simp
  | perm _ hq ih => rw [← hq.length_eq]; exact ih
  | skip _ _ ih => exact ih
  | step _ _ _ ih => simp at ih ⊢; omega
theorem dot_tail {a : List Int} {y : Nat → Int} {c : Nat} (h : ∀ j, c ≤ j → y j = 0) : ∀ {L}, c ≤ L → dotN a y L = dotN a y c
  | 0, hc => by obtain rfl : c = 0 := by omega
                rfl
  | L + 1, hc => by
    by_cases e : c = L + 1
    · subst e; rfl
    · rw [dotN, dot_tail h (by omega), h L (by omega)]; simp
theorem dot_zero {a : List Int} {y : Nat → Int} : ∀ {w}, (∀ j, j < w → a.getD j 0 = 0) → dotN a y w = 0
  | 0, _ => rfl
  | w + 1, h => by rw [dotN, dot_zero fun j hj => h j (by omega), h w (by omega)]; simp
theorem dot_unit {a : List Int} {y : Nat → Int} {i : Nat} : ∀ {w}, (∀ j, j < w → a.getD j 0 = if i = j then 1 else 0) → dotN a y w = if i < w then y i else 0
  | 0, _ => by simp [dotN]
  | w + 1, h => by
    rw [dotN, dot_unit fun j hj => h j (by omega), h w (by omega)]
    by_cases e : i = w
    · subst e; simp
    · rw [if_neg e]; by_cases e2 : i < w
      · rw [if_pos e2, if_pos (by omega)]; simp
      · rw [if_neg e2, if_neg (by omega)]; simp
theorem at_in {D : LLs} {a : List Int} (h : a ∈ D) : ∃ i, i < D.length ∧ at_ D i = a := by
  obtain ⟨i, hi, e⟩ := List.getElem_of_mem h
  exact ⟨i, hi, by rw [at_lt hi]; exact e⟩
/-- the first column without a pivot gives a null vector -/
theorem Red.free {p : Int} {L : Nat} {rows : LLs} (hp : 2 ≤ p) (hm : Mat p L rows) {c : Nat} {D R : LLs} (h : Red p L rows c D R) :
    c ≤ L → D.length = c ∨ ∃ (y : Nat → Int) (j0 : Nat), j0 < c ∧ (∀ j, c ≤ j → y j = 0) ∧ Nul p L rows y ∧ y j0 = 1 := by
  induction h with
  | init => intro _; exact .inl rfl
  | perm _ hq ih => exact ih
  | @skip c D R hr hz ih =>
    intro hc
    rcases ih (by omega) with e | ⟨y, j0, h1, h2, h3, h4⟩
    · refine .inr ⟨fun j => if j < c then -(at_ D j).getD c 0 else if j = c then 1 else 0, c, by omega, fun j hj => by show (if j < c then _ else _) = _; rw [if_neg (by omega), if_neg (by omega)], ?_, by simp⟩
      obtain ⟨g1, g2, g3⟩ := hr.low hp hm (by omega)
      refine (hr.nul hp hm).2 fun a ha => ?_
      rw [dot_tail (c := c + 1) (fun j hj => by show (if j < c then _ else _) = _; rw [if_neg (by omega), if_neg (by omega)]) hc, dotN]
      rcases List.mem_append.1 ha with ha | ha
      · obtain ⟨i, hi, rfl⟩ := at_in ha
        rw [dot_unit (i := i) (fun j hj => g3 e i (by omega) j hj), if_pos (by omega)]
        simp only [Nat.lt_irrefl, if_false, if_true, Int.mul_one]
        rw [if_pos (by omega)]
        exact ⟨0, by omega⟩
      · rw [dot_zero (fun j hj => g2 a ha j hj), hz a ha]; exact ⟨0, by simp⟩
    · exact .inr ⟨y, j0, by omega, fun j hj => h2 j (by omega), h3, h4⟩
  | @step c D R a s hr hc hs ih =>
    intro _
    rcases ih (by omega) with e | ⟨y, j0, h1, h2, h3, h4⟩
    · exact .inl (by simp [e])
    · exact .inr ⟨y, j0, by omega, fun j hj => h2 j (by omega), h3, h4⟩
/-- only the null vector is killed -/
def Triv (p : Int) (L : Nat) (rows : LLs) : Prop := ∀ y, Nul p L rows y → ∀ j, j < L → p ∣ y j
theorem not_dvd_one {p : Int} (hp : 2 ≤ p) : ¬ p ∣ 1 := fun h => by have := Int.le_of_dvd (by decide) h; omega
theorem Red.rank {p : Int} {L : Nat} {rows : LLs} (hp : 2 ≤ p) (hm : Mat p L rows) {D R : LLs} (h : Red p L rows L D R) : D.length = L ↔ Triv p L rows := by
  constructor
  · intro e y hy j hj
    obtain ⟨_, _, g3⟩ := h.low hp hm (Nat.le_refl L)
    have := (h.nul hp hm).1 hy (at_ D j) (by rw [at_lt (by omega)]; exact List.mem_append_left _ (List.getElem_mem _))
    rwa [dot_unit (i := j) (fun k hk => g3 e j hj k hk), if_pos hj] at this
  · intro ht
    rcases h.free hp hm (Nat.le_refl L) with e | ⟨y, j0, h1, _, h3, h4⟩
    · exact e
    · have := ht y h3 j0 h1
      rw [h4] at this
      exact absurd this (not_dvd_one hp)
theorem inv_ex {p : Int} (hp : PrP p) {a : Int} (h0 : a ≠ 0) (h : 0 ≤ a ∧ a ≤ p - 1) : ∃ s, (s * a) % p = 1 := by
  rcases hp with rfl | rfl | rfl | rfl
  · exact ⟨1, by omega⟩
  · obtain rfl | rfl : a = 1 ∨ a = 2 := by omega
    · exact ⟨1, by decide⟩
    · exact ⟨2, by decide⟩
  · obtain rfl | rfl | rfl | rfl : a = 1 ∨ a = 2 ∨ a = 3 ∨ a = 4 := by omega
    · exact ⟨1, by decide⟩
    · exact ⟨3, by decide⟩
    · exact ⟨2, by decide⟩
    · exact ⟨4, by decide⟩
  · obtain rfl | rfl | rfl | rfl | rfl | rfl : a = 1 ∨ a = 2 ∨ a = 3 ∨ a = 4 ∨ a = 5 ∨ a = 6 := by omega
    · exact ⟨1, by decide⟩
    · exact ⟨4, by decide⟩
    · exact ⟨5, by decide⟩
    · exact ⟨2, by decide⟩
    · exact ⟨3, by decide⟩
    · exact ⟨6, by decide⟩
theorem Red.ex {p : Int} {L : Nat} {rows : LLs} (hp : PrP p) (hm : Mat p L rows) : ∀ {c}, c ≤ L → ∃ D R, Red p L rows c D R
  | 0, _ => ⟨_, _, .init⟩
  | c + 1, hc => by
    obtain ⟨D, R, h⟩ := Red.ex hp hm (c := c) (by omega)
    have hM := h.mat hp.le.1 hm
    by_cases hz : ∀ a ∈ R, a.getD c 0 = 0
    · exact ⟨_, _, h.skip hz⟩
    · have : ∃ a ∈ R, a.getD c 0 ≠ 0 := by
        apply Decidable.byContradiction; intro hn
        exact hz fun a ha => Decidable.byContradiction fun h2 => hn ⟨a, ha, h2⟩
      obtain ⟨a, ha, h0⟩ := this
      obtain ⟨s, hs⟩ := inv_ex hp h0 (hM.rng a (by simp [ha]) c)
      exact ⟨_, _, (h.perm (List.perm_cons_erase ha)).step (by omega) hs⟩
/-- fewer rows than columns: a null vector -/
theorem few_nul {p : Int} {L : Nat} {rows : LLs} (hp : PrP p) (hm : Mat p L rows) (hl : rows.length < L) : ¬ Triv p L rows := fun ht => by
  obtain ⟨D, R, h⟩ := Red.ex hp hm (Nat.le_refl L)
  have := (h.rank hp.le.1 hm).2 ht
  have := h.count
  omega

/-! linear algebra modulo p: a square matrix and its transpose -/
def sumF (f : Nat → Int) : Nat → Int
  | 0 => 0
  | n + 1 => sumF f n + f n
theorem sumF_congr {f g : Nat → Int} : ∀ {n}, (∀ j, j < n → f j = g j) → sumF f n = sumF g n
  | 0, _ => rfl
  | n + 1, h => by rw [sumF, sumF, sumF_congr fun j hj => h j (by omega), h n (by omega)]
theorem sumF_mul {c : Int} {f : Nat → Int} : ∀ {n}, sumF (fun j => c * f j) n = c * sumF f n
  | 0 => by simp [sumF]
  | n + 1 => by rw [sumF, sumF, sumF_mul]; grind
theorem sumF_add {f g : Nat → Int} : ∀ {n}, sumF (fun j => f j + g j) n = sumF f n + sumF g n
  | 0 => rfl
  | n + 1 => by rw [sumF, sumF, sumF, sumF_add]; omega
theorem sumF_zero {f : Nat → Int} : ∀ {n}, (∀ j, j < n → f j = 0) → sumF f n = 0
  | 0, _ => rfl
  | n + 1, h => by rw [sumF, sumF_zero fun j hj => h j (by omega), h n (by omega)]; rfl
theorem sumF_swap {f : Nat → Nat → Int} {m : Nat} : ∀ {n}, sumF (fun i => sumF (fun j => f i j) m) n = sumF (fun j => sumF (fun i => f i j) n) m
  | 0 => (sumF_zero fun _ _ => rfl).symm
  | n + 1 => by
    rw [sumF, sumF_swap (n := n), ← sumF_add]; rfl
theorem sumF_dvd {p : Int} {f : Nat → Int} : ∀ {n}, (∀ j, j < n → p ∣ f j) → p ∣ sumF f n
  | 0, _ => ⟨0, by simp [sumF]⟩
  | n + 1, h => by rw [sumF]; exact Int.dvd_add (sumF_dvd fun j hj => h j (by omega)) (h n (by omega))
theorem sumF_delta {f : Nat → Int} {k : Nat} : ∀ {n}, sumF (fun i => (if i = k then 1 else 0) * f i) n = if k < n then f k else 0
  | 0 => by simp [sumF]
  | n + 1 => by
    rw [sumF, sumF_delta]
    by_cases e : n = k
    · subst e; simp
    · rw [if_neg e]
      by_cases e2 : k < n
      · rw [if_pos e2, if_pos (by omega)]; simp
      · rw [if_neg e2, if_neg (by omega)]; simp
def rowF (L : Nat) (g : Nat → Int) : List Int := (List.range L).map g
def matF (N L : Nat) (m : Nat → Nat → Int) : LLs := (List.range N).map fun i => rowF L (m i)
theorem rowF_len {L : Nat} {g : Nat → Int} : (rowF L g).length = L := by simp [rowF]
theorem rowF_get {L : Nat} {g : Nat → Int} {j : Nat} (h : j < L) : (rowF L g).getD j 0 = g j := by
  unfold rowF; rw [List.getD_eq_getElem?_getD, List.getElem?_map, List.getElem?_range h]; rfl
theorem dot_sum {a : List Int} {y : Nat → Int} : ∀ {w}, dotN a y w = sumF (fun j => a.getD j 0 * y j) w
  | 0 => rfl
  | w + 1 => by rw [dotN, sumF, dot_sum]
theorem dot_rowF {L : Nat} {g y : Nat → Int} : dotN (rowF L g) y L = sumF (fun j => g j * y j) L := by
  rw [dot_sum]; exact sumF_congr fun j hj => by rw [rowF_get hj]
theorem mem_matF {N L : Nat} {m : Nat → Nat → Int} {a : List Int} : a ∈ matF N L m ↔ ∃ i, i < N ∧ rowF L (m i) = a := by
  simp [matF, List.mem_map, List.mem_range]
theorem nul_matF {p : Int} {N L : Nat} {m : Nat → Nat → Int} {y : Nat → Int} : Nul p L (matF N L m) y ↔ ∀ i, i < N → p ∣ sumF (fun j => m i j * y j) L := by
  constructor
  · intro h i hi; rw [← dot_rowF]; exact h _ (mem_matF.2 ⟨i, hi, rfl⟩)
  · intro h a ha
    obtain ⟨i, hi, rfl⟩ := mem_matF.1 ha
    rw [dot_rowF]; exact h i hi
theorem mat_matF {p : Int} {N L : Nat} {m : Nat → Nat → Int} (hp : 2 ≤ p) (h : ∀ i, i < N → ∀ j, j < L → 0 ≤ m i j ∧ m i j ≤ p - 1) : Mat p L (matF N L m) := by
  refine ⟨fun a ha => ?_, fun a ha => ?_⟩
  · obtain ⟨i, hi, rfl⟩ := mem_matF.1 ha; exact rowF_len
  · obtain ⟨i, hi, rfl⟩ := mem_matF.1 ha
    intro j
    by_cases hj : j < L
    · rw [rowF_get hj]; exact h i hi j hj
    · rw [List.getD_eq_getElem?_getD, List.getElem?_eq_none (by rw [rowF_len]; omega)]; simp; omega
theorem sumF_split {f : Nat → Int} {a : Nat} : ∀ {b}, sumF f (a + b) = sumF f a + sumF (fun j => f (a + j)) b
  | 0 => by simp [sumF]
  | b + 1 => by rw [← Nat.add_assoc, sumF, sumF, sumF_split]; omega
/-- the matrix with the identity beside it -/
def extM (N : Nat) (m : Nat → Nat → Int) (i j : Nat) : Int := if j < N then m i j else if j = N + i then 1 else 0
theorem ext_mat {p : Int} {N : Nat} {m : Nat → Nat → Int} (hp : 2 ≤ p) (h : ∀ i, i < N → ∀ j, j < N → 0 ≤ m i j ∧ m i j ≤ p - 1) : Mat p (N + N) (matF N (N + N) (extM N m)) :=
  mat_matF hp fun i hi j hj => by
    unfold extM; split
    · exact h i hi j (by omega)
    · split <;> omega
theorem ext_sum {N i : Nat} {m : Nat → Nat → Int} {y : Nat → Int} (hi : i < N) : sumF (fun j => extM N m i j * y j) (N + N) = sumF (fun j => m i j * y j) N + y (N + i) := by
  rw [sumF_split]
  congr 1
  · exact sumF_congr fun j hj => by unfold extM; rw [if_pos hj]
  · rw [sumF_congr (g := fun j => (if j = i then 1 else 0) * y (N + j)) fun j hj => by
      unfold extM; rw [if_neg (by omega)]
      by_cases e : j = i
      · rw [if_pos (by omega), if_pos e]
      · rw [if_neg (by omega), if_neg e]]
    rw [sumF_delta (f := fun j => y (N + j)), if_pos hi]
theorem triv_full {p : Int} {N : Nat} {m : Nat → Nat → Int} (hp : PrP p) (h : ∀ i, i < N → ∀ j, j < N → 0 ≤ m i j ∧ m i j ≤ p - 1) (ht : Triv p N (matF N N m)) {D R : LLs} (hr : Red p (N + N) (matF N (N + N) (extM N m)) N D R) : D.length = N := by
  have hm := ext_mat hp.le.1 h
  rcases hr.free hp.le.1 hm (by omega) with e | ⟨y, j0, h1, h2, h3, h4⟩
  · exact e
  · have := ht y (nul_matF.2 fun i hi => by
      have := nul_matF.1 h3 i hi
      rw [ext_sum hi, h2 _ (by omega)] at this
      simpa using this) j0 h1
    rw [h4] at this
    exact absurd this (not_dvd_one hp.le.1)
/-- trivial null space: every vector is an image -/
theorem triv_surj {p : Int} {N : Nat} {m : Nat → Nat → Int} (hp : PrP p) (h : ∀ i, i < N → ∀ j, j < N → 0 ≤ m i j ∧ m i j ≤ p - 1) (ht : Triv p N (matF N N m)) (v : Nat → Int) : ∃ x : Nat → Int, ∀ i, i < N → p ∣ sumF (fun j => m i j * x j) N + v i := by
  have hm := ext_mat hp.le.1 h
  obtain ⟨D, R, hr⟩ := Red.ex hp hm (c := N) (by omega)
  have hD := triv_full hp h ht hr
  have hc := hr.count
  have hR : R = [] := by
    have : (matF N (N + N) (extM N m)).length = N := by simp [matF]
    exact List.length_eq_zero_iff.1 (by omega)
  subst hR
  obtain ⟨_, _, g3⟩ := hr.low hp.le.1 hm (by omega)
  refine ⟨fun j => -sumF (fun k => (at_ D j).getD (N + k) 0 * v k) N, fun i hi => ?_⟩
  have hn : Nul p (N + N) (matF N (N + N) (extM N m)) (fun j => if j < N then -sumF (fun k => (at_ D j).getD (N + k) 0 * v k) N else v (j - N)) := by
    refine (hr.nul hp.le.1 hm).2 fun a ha => ?_
    rw [List.append_nil] at ha
    obtain ⟨i, hi, rfl⟩ := at_in ha
    rw [dot_sum, sumF_split, ← dot_sum, dot_unit (i := i) (fun j hj => g3 hD i (by omega) j hj), if_pos (by omega), if_pos (by omega)]
    have q : ∀ z : Nat → Int, sumF (fun j => (at_ D i).getD (N + j) 0 * (if N + j < N then z j else v (N + j - N))) N = sumF (fun k => (at_ D i).getD (N + k) 0 * v k) N := fun z => sumF_congr fun k hk => by rw [if_neg (by omega)]; congr 2; omega
    have q2 := q fun j => -sumF (fun k => (at_ D (N + j)).getD (N + k) 0 * v k) N
    exact ⟨0, by omega⟩
  have := nul_matF.1 hn i hi
  rw [ext_sum hi, if_neg (by omega), Nat.add_sub_cancel_left] at this
  rwa [sumF_congr fun j hj => by rw [if_pos hj]] at this
theorem triv_T {p : Int} {N : Nat} {m : Nat → Nat → Int} (hp : PrP p) (h : ∀ i, i < N → ∀ j, j < N → 0 ≤ m i j ∧ m i j ≤ p - 1) (ht : Triv p N (matF N N m)) : Triv p N (matF N N fun i j => m j i) := by
  intro u hu k hk
  have hu := nul_matF.1 hu
  obtain ⟨x, hx⟩ := triv_surj hp h ht (fun i => if i = k then 1 else 0)
  have h1 : p ∣ sumF (fun i => u i * (sumF (fun j => m i j * x j) N + (if i = k then 1 else 0))) N := sumF_dvd fun i hi => Int.dvd_mul_of_dvd_right (hx i hi)
  have e1 : sumF (fun i => u i * (sumF (fun j => m i j * x j) N + (if i = k then 1 else 0))) N = sumF (fun j => x j * sumF (fun i => m i j * u i) N) N + u k := by
    rw [sumF_congr (g := fun i => sumF (fun j => m i j * u i * x j) N + (if i = k then 1 else 0) * u i) fun i hi => by
      rw [Int.mul_add, ← sumF_mul, Int.mul_comm (u i) (if i = k then 1 else 0)]
      congr 1
      exact sumF_congr fun j hj => by grind]
    rw [sumF_add, sumF_delta, if_pos hk, sumF_swap]
    congr 1
    exact sumF_congr fun j hj => by
      rw [← sumF_mul]; exact sumF_congr fun i hi => by grind
  have h2 : p ∣ sumF (fun j => x j * sumF (fun i => m i j * u i) N) N := sumF_dvd fun j hj => Int.dvd_mul_of_dvd_right (hu j hj)
  rw [e1] at h1
  exact (Int.dvd_add_right h2).1 h1
theorem triv_iff {p : Int} {N : Nat} {m : Nat → Nat → Int} (hp : PrP p) (h : ∀ i, i < N → ∀ j, j < N → 0 ≤ m i j ∧ m i j ≤ p - 1) : Triv p N (matF N N m) ↔ Triv p N (matF N N fun i j => m j i) :=
  ⟨triv_T hp h, fun ht => triv_T (m := fun i j => m j i) hp (fun i hi j hj => h j hj i hi) ht⟩

/-! linear algebra modulo p: inverses, sums of multiples, units -/
def invF (p a : Int) : Int := if (1 * a) % p = 1 then 1 else if (2 * a) % p = 1 then 2 else if (3 * a) % p = 1 then 3 else if (4 * a) % p = 1 then 4 else if (5 * a) % p = 1 then 5 else 6
theorem inv_all : ∀ p ∈ [(2 : Int), 3, 5, 7], ∀ a ∈ [(1 : Int), 2, 3, 4, 5, 6], a ≤ p - 1 → 1 ≤ invF p a ∧ invF p a ≤ p - 1 ∧ (invF p a * a) % p = 1 ∧ ∀ y : Nat, y < 7 → 1 ≤ y → (y : Int) < invF p a → ((y : Int) * a) % p ≠ 1 := by decide
theorem inv_facts {p a : Int} (hp : PrP p) (h0 : a ≠ 0) (h : 0 ≤ a ∧ a ≤ p - 1) : 1 ≤ invF p a ∧ invF p a ≤ p - 1 ∧ (invF p a * a) % p = 1 ∧ ∀ y : Nat, 1 ≤ y → (y : Int) < invF p a → ((y : Int) * a) % p ≠ 1 := by
  have hp2 := hp.le
  obtain ⟨h1, h2, h3, h4⟩ := inv_all p (by simp only [List.mem_cons, List.not_mem_nil, or_false]; exact hp) a (by simp only [List.mem_cons, List.not_mem_nil, or_false]; omega) h.2
  exact ⟨h1, h2, h3, fun y hy hl => h4 y (by omega) hy hl⟩
theorem small_prod {p a y : Int} (hp : PrP p) (h : 0 ≤ a ∧ a ≤ p - 1) (hy : 0 ≤ y ∧ y ≤ p - 1) : 0 ≤ y * a ∧ y * a ≤ 36 := prod_le hp hy h
theorem inverse_ok (p a : Int) (hp : PrP p) (h0 : a ≠ 0) (h : 0 ≤ a ∧ a ≤ p - 1) : ACalls Try.prog 62 [.i .i64 a, .i .i64 p] [] (fun v ms ns => v = .i .i64 (invF p a) ∧ ms = [] ∧ ns = []) := by
  have hp2 := hp.le
  have p0 : ¬ p = 0 := by omega
  obtain ⟨s1, s2, s3, s4⟩ := inv_facts hp h0 h
  obtain ⟨s, hs⟩ : ∃ s : Nat, invF p a = s := ⟨(invF p a).toNat, by omega⟩
  rw [hs] at s1 s2 s3 s4 ⊢
  refine acalls_of_body mix Try.func62 rfl fok62 (Nat.le_of_ble_eq_true rfl) ?_
  unfold abody
  simp only [absE, absL, absF, reduceCtorEq, ↓reduceIte, Nat.reduceEqDiff, Nat.reduceAdd, Nat.reduceLT, Nat.reduceMul, Nat.reduceSub, Nat.reduceLeDiff, Int.reduceLT, Int.reduceLE, Int.reduceEq, Option.isSome_some, implies_true, false_implies, Prod.mk.injEq, ne_eq, not_false_eq_true, not_true_eq_false, ge_iff_le, gt_iff_lt, Int.toNat_natCast, Int.reduceToNat, Int.cast_ofNat_Int, Int.natCast_nonneg, Try.f62]
  refine awpLoop.intro (fun y : Nat => [(0, .i .i64 a), (1, .i .i64 p), (5, .i .i64 y)]) (fun y => ⟨[], [], 2⟩) (fun y => 1 ≤ y ∧ y ≤ s) (fun y => s - y) 1 (by omega) ⟨[], rfl, ?_, ?_⟩ ?_
  · simp [wkEnv, lk, renV, renAt, renTo]
  · simp [wkMem, wkLoc, Mem.get, assoc, renBlk, renSegs, renSg, renTo]
  · intro y hy
    have q := small_prod hp h (y := (y : Int)) (by omega)
    have wm : IntKind.i64.wrap (a * (y : Int)) = a * (y : Int) := by rw [Int.mul_comm]; exact wrap_i64 (by omega) (by omega)
    have e : (a * (y : Int)).tmod p = ((y : Int) * a) % p := by rw [Int.mul_comm]; exact Int.tmod_eq_emod_of_nonneg (by omega)
    have w := wrap_i64s (show y < 2 ^ 62 by omega)
    by_cases hl : y < s
    · have hn : ¬ ((y : Int) * a) % p = 1 := s4 y (by omega) (by omega)
      simp only [absE, absL, absF, reduceCtorEq, ↓reduceIte, Nat.reduceEqDiff, Nat.reduceAdd, Nat.reduceLT, Nat.reduceMul, Nat.reduceSub, Nat.reduceLeDiff, Int.reduceLT, Int.reduceLE, Int.reduceEq, Option.isSome_some, implies_true, false_implies, Prod.mk.injEq, ne_eq, not_false_eq_true, not_true_eq_false, ge_iff_le, gt_iff_lt, Int.toNat_natCast, Int.reduceToNat, Int.cast_ofNat_Int, Int.natCast_nonneg, p0, wm, e, hn]
      refine LoopNext.intro (y + 1) (by omega) (by omega) ⟨[], rfl, ?_, ?_⟩
      · simp [wkEnv, lk, renV, renAt, renTo, w]
      · simp [wkMem, wkLoc, Mem.get, assoc, renBlk, renSegs, renSg, renTo, w]
    · obtain rfl : y = s := by omega
      simp only [absE, absL, absF, reduceCtorEq, ↓reduceIte, Nat.reduceEqDiff, Nat.reduceAdd, Nat.reduceLT, Nat.reduceMul, Nat.reduceSub, Nat.reduceLeDiff, Int.reduceLT, Int.reduceLE, Int.reduceEq, Option.isSome_some, implies_true, false_implies, Prod.mk.injEq, ne_eq, not_false_eq_true, not_true_eq_false, ge_iff_le, gt_iff_lt, Int.toNat_natCast, Int.reduceToNat, Int.cast_ofNat_Int, Int.natCast_nonneg, p0, wm, e, s3, Try.results62]
      exact ⟨[], by simp, by simp, by simp [renV, renVs, renSegs, renSg]⟩
theorem l10Inverse_ok (p a : Int) (hp : PrP p) (h0 : a ≠ 0) (h : 0 ≤ a ∧ a ≤ p - 1) : ACalls Try.prog 56 [.i .i64 p, .i .i64 a] [] (fun v ms ns => v = .i .i64 (invF p a) ∧ ms = [] ∧ ns = []) := by
  have hp2 := hp.le
  have p0 : ¬ p = 0 := by omega
  obtain ⟨s1, s2, s3, s4⟩ := inv_facts hp h0 h
  obtain ⟨s, hs⟩ : ∃ s : Nat, invF p a = s := ⟨(invF p a).toNat, by omega⟩
  rw [hs] at s1 s2 s3 s4 ⊢
  refine acalls_of_body mix Try.func56 rfl fok56 (Nat.le_of_ble_eq_true rfl) ?_
  unfold abody
  simp only [absE, absL, absF, reduceCtorEq, ↓reduceIte, Nat.reduceEqDiff, Nat.reduceAdd, Nat.reduceLT, Nat.reduceMul, Nat.reduceSub, Nat.reduceLeDiff, Int.reduceLT, Int.reduceLE, Int.reduceEq, Option.isSome_some, implies_true, false_implies, Prod.mk.injEq, ne_eq, not_false_eq_true, not_true_eq_false, ge_iff_le, gt_iff_lt, Int.toNat_natCast, Int.reduceToNat, Int.cast_ofNat_Int, Int.natCast_nonneg, Try.f56]
  refine awpLoop.intro (fun y : Nat => [(0, .i .i64 p), (1, .i .i64 a), (5, .i .i64 y)]) (fun y => ⟨[], [], 2⟩) (fun y => 1 ≤ y ∧ y ≤ s) (fun y => s - y) 1 (by omega) ⟨[], rfl, ?_, ?_⟩ ?_
  · simp [wkEnv, lk, renV, renAt, renTo]
  · simp [wkMem, wkLoc, Mem.get, assoc, renBlk, renSegs, renSg, renTo]
  · intro y hy
    have q := small_prod hp h (y := (y : Int)) (by omega)
    have wm : IntKind.i64.wrap ((y : Int) * a) = (y : Int) * a := wrap_i64 (by omega) (by omega)
    have e : ((y : Int) * a).tmod p = ((y : Int) * a) % p := Int.tmod_eq_emod_of_nonneg (by omega)
    have w := wrap_i64s (show y < 2 ^ 62 by omega)
    have hyp : (y : Int) < p := by omega
    by_cases hl : y < s
    · have hn : ¬ ((y : Int) * a) % p = 1 := s4 y (by omega) (by omega)
      simp only [absE, absL, absF, reduceCtorEq, ↓reduceIte, Nat.reduceEqDiff, Nat.reduceAdd, Nat.reduceLT, Nat.reduceMul, Nat.reduceSub, Nat.reduceLeDiff, Int.reduceLT, Int.reduceLE, Int.reduceEq, Option.isSome_some, implies_true, false_implies, Prod.mk.injEq, ne_eq, not_false_eq_true, not_true_eq_false, ge_iff_le, gt_iff_lt, Int.toNat_natCast, Int.reduceToNat, Int.cast_ofNat_Int, Int.natCast_nonneg, p0, hyp, wm, e, hn]
      refine LoopNext.intro (y + 1) (by omega) (by omega) ⟨[], rfl, ?_, ?_⟩
      · simp [wkEnv, lk, renV, renAt, renTo, w]
      · simp [wkMem, wkLoc, Mem.get, assoc, renBlk, renSegs, renSg, renTo, w]
    · obtain rfl : y = s := by omega
      simp only [absE, absL, absF, reduceCtorEq, ↓reduceIte, Nat.reduceEqDiff, Nat.reduceAdd, Nat.reduceLT, Nat.reduceMul, Nat.reduceSub, Nat.reduceLeDiff, Int.reduceLT, Int.reduceLE, Int.reduceEq, Option.isSome_some, implies_true, false_implies, Prod.mk.injEq, ne_eq, not_false_eq_true, not_true_eq_false, ge_iff_le, gt_iff_lt, Int.toNat_natCast, Int.reduceToNat, Int.cast_ofNat_Int, Int.natCast_nonneg, p0, hyp, wm, e, s3, Try.results56]
      exact ⟨[], by simp, by simp, by simp [renV, renVs, renSegs, renSg]⟩
def addS (p : Int) (a b : List Int) (s : Int) (i : Nat) : List Int := (List.range i).map fun j => (a.getD j 0 + s * b.getD j 0) % p
theorem addS_next {p : Int} {a b : List Int} {s : Int} {i : Nat} : addS p a b s (i + 1) = addS p a b s i ++ [(a.getD i 0 + s * b.getD i 0) % p] := by
  unfold addS; rw [List.range_succ, List.map_append]; rfl
theorem addS_len {p : Int} {a b : List Int} {s : Int} {i : Nat} : (addS p a b s i).length = i := by simp [addS]
theorem go_mod {p x : Int} (hp : 2 ≤ p) : (x.tmod p + p).tmod p = x % p := by
  have h1 := Int.emod_nonneg x (show p ≠ 0 by omega)
  have h2 := Int.emod_lt_of_pos x (show 0 < p by omega)
  have e := Int.tmod_eq_emod (a := x) (b := p)
  have ep : ((p.natAbs : Nat) : Int) = p := by omega
  split at e
  · have e' : x.tmod p = x % p := by rw [e]; simp
    rw [e', Int.tmod_eq_emod_of_nonneg (by omega), Int.add_emod_right, Int.emod_eq_of_lt h1 h2]
  · rw [e, ep, Int.sub_add_cancel, Int.tmod_eq_emod_of_nonneg h1, Int.emod_eq_of_lt h1 h2]
theorem prod_s {p s b : Int} (hp : PrP p) (hs : -(p - 1) ≤ s ∧ s ≤ p - 1) (hb : 0 ≤ b ∧ b ≤ p - 1) : -36 ≤ s * b ∧ s * b ≤ 36 := by
  by_cases h : 0 ≤ s
  · have := prod_le hp (A := s) (B := b) (by omega) hb; omega
  · have := prod_le hp (A := -s) (B := b) (by omega) hb
    rw [Int.neg_mul] at this; omega
theorem l10AddS_ok (L : Nat) (p : Int) (a b : List Int) (s : Int) (hL : L ≤ 20) (hp : PrP p) (ha : RngP p a) (hb : RngP p b) (hs : -(p - 1) ≤ s ∧ s ≤ p - 1) :
    ACalls Try.prog 55 [.i .i64 p, .ref (.sl 0 0 0 0 L 1), .ref (.sl 0 1 0 0 L 1), .i .i64 s] [.lv true [(0, .ints .i64 L a)], .lv true [(0, .ints .i64 L b)]]
      (fun v ms ns => v = .ref (.sl 1 0 0 0 L 1) ∧ ms = [.lv true [(0, .ints .i64 L a)], .lv true [(0, .ints .i64 L b)]] ∧ ns = [.lv true [(0, .ints .i64 L (addS p a b s L))]]) := by
  have hp2 := hp.le
  have p0 : ¬ p = 0 := by omega
  refine acalls_of_body mix Try.func55 rfl fok55 (Nat.le_of_ble_eq_true rfl) ?_
  unfold abody
  simp only [absE, absL, absF, reduceCtorEq, ↓reduceIte, Nat.reduceEqDiff, Nat.reduceAdd, Nat.reduceLT, Nat.reduceMul, Nat.reduceSub, Nat.reduceLeDiff, Int.reduceLT, Int.reduceLE, Int.reduceEq, Option.isSome_some, implies_true, false_implies, Prod.mk.injEq, ne_eq, not_false_eq_true, not_true_eq_false, ge_iff_le, gt_iff_lt, Int.toNat_natCast, Int.reduceToNat, Int.cast_ofNat_Int, Int.natCast_nonneg, Try.f55]
  refine awpLoop.intro (fun i : Nat => [(0, .i .i64 p), (1, .ref (.sl 0 0 0 0 L 1)), (2, .ref (.sl 0 1 0 0 L 1)), (3, .i .i64 s), (9, .ref (.sl 2 0 0 0 i 1)), (10, .i .i64 i)]) (fun i => ⟨[.lv true [(0, .ints .i64 L a)], .lv true [(0, .ints .i64 L b)]], [((2, 0), .lv true ([(0, .ints .i64 i (addS p a b s i))]))], 5⟩)
    (fun i => i ≤ L) (fun i => L - i) 0 (by omega) ⟨[((2,0),(2,0))], rfl, ?_, ?_⟩ ?_
  · simp [wkEnv, lk, renV, renAt, renTo, addS]
  · simp [wkMem, wkLoc, Mem.get, assoc, renBlk, renSegs, renSg, renTo, addS]
  · intro i hi
    by_cases h' : (i : Int) < L
    · have w := wrap_i64s (show i < 2 ^ 62 by omega)
      have v1 : 0 + i * 1 < L := by omega
      have e0 : a.getD (0 + i * 1) 0 = a.getD i 0 := by rw [Nat.zero_add, Nat.mul_one]
      have e1 : b.getD (0 + i * 1) 0 = b.getD i 0 := by rw [Nat.zero_add, Nat.mul_one]
      have r1 := ha i
      have r2 := hb i
      have r3 := prod_s hp hs r2
      have wm : IntKind.i64.wrap (s * b.getD i 0) = s * b.getD i 0 := wrap_i64 (by omega) (by omega)
      have wa : IntKind.i64.wrap (a.getD i 0 + s * b.getD i 0) = a.getD i 0 + s * b.getD i 0 := wrap_i64 (by omega) (by omega)
      have q : -p < (a.getD i 0 + s * b.getD i 0).tmod p ∧ (a.getD i 0 + s * b.getD i 0).tmod p < p := by
        refine ⟨?_, Int.tmod_lt_of_pos _ (by omega)⟩
        have := Int.lt_tmod_of_pos (a.getD i 0 + s * b.getD i 0) (show 0 < p by omega)
        omega
      have wb : IntKind.i64.wrap ((a.getD i 0 + s * b.getD i 0).tmod p + p) = (a.getD i 0 + s * b.getD i 0).tmod p + p := wrap_i64 (by omega) (by omega)
      have wt := go_mod (p := p) (x := a.getD i 0 + s * b.getD i 0) (by omega)
      have mx : i * 1 = i := Nat.mul_one i
      have e2 : a.getD (0 + i) 0 = a.getD i 0 := by rw [Nat.zero_add]
      have e3 : b.getD (0 + i) 0 = b.getD i 0 := by rw [Nat.zero_add]
      simp only [absE, absL, absF, reduceCtorEq, ↓reduceIte, Nat.reduceEqDiff, Nat.reduceAdd, Nat.reduceLT, Nat.reduceMul, Nat.reduceSub, Nat.reduceLeDiff, Int.reduceLT, Int.reduceLE, Int.reduceEq, Option.isSome_some, implies_true, false_implies, Prod.mk.injEq, ne_eq, not_false_eq_true, not_true_eq_false, ge_iff_le, gt_iff_lt, Int.toNat_natCast, Int.reduceToNat, Int.cast_ofNat_Int, Int.natCast_nonneg, h', v1, e0, e1, e2, e3, wm, wa, wb, wt, p0, mx]
      repeat refine And.intro (by first | omega | decide +kernel) ?_
      refine LoopNext.intro (i + 1) (by omega) (by omega) ⟨[((28,0),(2,0))], rfl, ?_, ?_⟩
      · simp [wkEnv, lk, renV, renAt, renTo, w, addS_next]
      · simp [wkMem, wkLoc, Mem.get, assoc, renBlk, renSegs, renSg, renTo, w, addS_next]
    · obtain rfl : i = L := by omega
      simp only [absE, absL, absF, reduceCtorEq, ↓reduceIte, Nat.reduceEqDiff, Nat.reduceAdd, Nat.reduceLT, Nat.reduceMul, Nat.reduceSub, Nat.reduceLeDiff, Int.reduceLT, Int.reduceLE, Int.reduceEq, Option.isSome_some, implies_true, false_implies, Prod.mk.injEq, ne_eq, not_false_eq_true, not_true_eq_false, ge_iff_le, gt_iff_lt, Int.toNat_natCast, Int.reduceToNat, Int.cast_ofNat_Int, Int.natCast_nonneg, h', Try.results55]
      exact ⟨[(2, 0)], by simp, by simp, by simp [renV, renVs, renAt, renFin, idx], by simp [renBlk, renSegs, renSg], by simp [renBlk, renSegs, renSg, Mem.get, assoc]⟩

/-! linear algebra modulo p: the reference's images -/
def unitK (N k : Nat) : List Int := (List.replicate N 0).set k 1
theorem unitK_len {N k : Nat} : (unitK N k).length = N := by simp [unitK]
theorem unitK_get {N k j : Nat} (hk : k < N) : (unitK N k).getD j 0 = if j = k then 1 else 0 := by
  unfold unitK
  rw [getD_set_int (by simpa using hk)]
  by_cases e : k = j
  · rw [if_pos e, if_pos e.symm]
  · rw [if_neg e, if_neg (fun h => e h.symm), List.getD_eq_getElem?_getD, List.getElem?_replicate]; split <;> rfl
theorem unitK_rng {N k : Nat} {p : Int} (hp : PrP p) (hk : k < N) : RngP p (unitK N k) := fun i => by
  have := hp.le
  rw [unitK_get hk]; split <;> omega
theorem l10UnitK_ok (N k : Nat) (hN : N ≤ 10) (hk : k < N) : ACalls Try.prog 37 [.i .i64 N, .i .i64 k] [] (fun v ms ns => v = .ref (.sl 1 0 0 0 N 1) ∧ ms = [] ∧ ns = [.lv true [(0, .ints .i64 N (unitK N k))]]) := by
  have hk8 : (N : Int) * 8 ≤ 140737488355328 := by omega
  have m1 : N * 1 = N := Nat.mul_one N
  have i0 : (k : Int) < N := by omega
  have u0 : 0 + k * 1 + 1 ≤ N := by omega
  have u1 : 0 + k * 1 = k := by omega
  refine acalls_of_body mix Try.func37 rfl fok37 (Nat.le_of_ble_eq_true rfl) ?_
  unfold abody
  by_cases h : 1 = N
  · subst h
    obtain rfl : k = 0 := by omega
    simp only [absE, absL, absF, reduceCtorEq, ↓reduceIte, Nat.reduceEqDiff, Nat.reduceAdd, Nat.reduceLT, Nat.reduceMul, Nat.reduceSub, Nat.reduceLeDiff, Int.reduceLT, Int.reduceLE, Int.reduceEq, Option.isSome_some, implies_true, false_implies, Prod.mk.injEq, ne_eq, not_false_eq_true, not_true_eq_false, ge_iff_le, gt_iff_lt, Int.toNat_natCast, Int.reduceToNat, Int.cast_ofNat_Int, Int.natCast_nonneg, Try.f37, Try.results37]
    repeat refine And.intro (by omega) ?_
    exact ⟨[(3, 0)], by simp, by simp, by simp [renV, renAt, renFin, idx], by simp, by simp [renBlk, renSegs, renSg, Mem.get, assoc, unitK]⟩
  · simp only [absE, absL, absF, reduceCtorEq, ↓reduceIte, Nat.reduceEqDiff, Nat.reduceAdd, Nat.reduceLT, Nat.reduceMul, Nat.reduceSub, Nat.reduceLeDiff, Int.reduceLT, Int.reduceLE, Int.reduceEq, Option.isSome_some, implies_true, false_implies, Prod.mk.injEq, ne_eq, not_false_eq_true, not_true_eq_false, ge_iff_le, gt_iff_lt, Int.toNat_natCast, Int.reduceToNat, Int.cast_ofNat_Int, Int.natCast_nonneg, hk8, m1, i0, u0, h, Try.f37, Try.results37]
    repeat first | refine And.intro (by decide +kernel) ?_ | refine And.intro (by omega) ?_
    exact ⟨[(3, 0)], by simp, by simp, by simp [renV, renAt, renFin, idx], by simp, by simp [renBlk, renSegs, renSg, Mem.get, assoc, unitK, zeroArr, u1]⟩
def imgL (N : Nat) (t : List Int) (p : Int) (a : List Int) (k : Nat) : LLs := (List.range k).map fun y => tmT N t p a (unitK N y) N
theorem imgL_next {N : Nat} {t : List Int} {p : Int} {a : List Int} {k : Nat} : imgL N t p a (k + 1) = imgL N t p a k ++ [tmT N t p a (unitK N k) N] := by
  unfold imgL; rw [List.range_succ, List.map_append]; rfl
theorem imgL_len {N : Nat} {t : List Int} {p : Int} {a : List Int} {k : Nat} : (imgL N t p a k).length = k := by simp [imgL]
set_option maxHeartbeats 1000000 in
theorem l10Images_ok (N : Nat) (t : List Int) (p : Int) (a : List Int) (ht : Bytes 100 t) (hs : SqP N t) (hp : PrP p) (ha : RngP p a) (la : a.length = N) :
    ACalls Try.prog 27 [.agg (sqS N t), .i .i64 p, .ref (.sl 0 0 0 0 N 1)] [.lv true [(0, .ints .i64 N a)]]
      (fun v ms ns => v = .ref (.sl 1 0 0 0 N 1) ∧ ms = [.lv true [(0, .ints .i64 N a)]] ∧ ns = ob 1 1 (imgL N t p a N) :: inn (imgL N t p a N)) := by
  have hN := hs.le
  refine acalls_of_body mix Try.func27 rfl fok27 (Nat.le_of_ble_eq_true rfl) ?_
  unfold abody
  simp only [absE, absL, absF, reduceCtorEq, ↓reduceIte, Nat.reduceEqDiff, Nat.reduceAdd, Nat.reduceLT, Nat.reduceMul, Nat.reduceSub, Nat.reduceLeDiff, Int.reduceLT, Int.reduceLE, Int.reduceEq, Option.isSome_some, implies_true, false_implies, Prod.mk.injEq, ne_eq, not_false_eq_true, not_true_eq_false, ge_iff_le, gt_iff_lt, Int.toNat_natCast, Int.reduceToNat, Int.cast_ofNat_Int, Int.natCast_nonneg, Try.f27]
  refine awpLoop.intro (fun k : Nat => [(1, .i .i64 p), (2, .ref (.sl 0 0 0 0 N 1)), (3, .ref (.ptr 1 0 0 0)), (7, .ref (.sl 13 0 0 0 k 1)), (8, .i .i64 k)]) (fun k => ⟨[.lv true [(0, .ints .i64 N a)]], [((1, 0), .lv true (sqS N t)), ((13, 0), .lv true ([(0, .cells k (outs 14 0 (imgL N t p a k)))]))] ++ rbag 14 0 (imgL N t p a k), 100⟩)
    (fun k => k ≤ N) (fun k => N - k) 0 (by omega) ⟨[((1,0),(1,0)), ((3,0),(13,0))], rfl, ?_, ?_⟩ ?_
  · simp [wkEnv, lk, renV, renAt, renTo]
  · simp [wkMem, wkLoc, Mem.get, assoc, renBlk, renSegs, renSg, renTo, rbag_nil, outs_nil, imgL]
  · intro k hk
    have hLl := imgL_len (N := N) (t := t) (p := p) (a := a) (k := k)
    have hLs := imgL_next (N := N) (t := t) (p := p) (a := a) (k := k)
    generalize hLk : imgL N t p a k = L at hLl hLs ⊢
    by_cases h : (k : Int) < N
    · have w := wrap_i64s (show k < 2 ^ 62 by omega)
      have mL : k * 1 = k := Nat.mul_one _
      have hU := l10UnitK_ok N k hN (by omega)
      have hT := l10Times_ok N t p a (unitK N k) ht hs hp ha (unitK_rng hp (by omega)) la unitK_len
      simp only [absE, absL, absF, reduceCtorEq, ↓reduceIte, Nat.reduceEqDiff, Nat.reduceAdd, Nat.reduceLT, Nat.reduceMul, Nat.reduceSub, Nat.reduceLeDiff, Int.reduceLT, Int.reduceLE, Int.reduceEq, Option.isSome_some, implies_true, false_implies, Prod.mk.injEq, ne_eq, not_false_eq_true, not_true_eq_false, ge_iff_le, gt_iff_lt, Int.toNat_natCast, Int.reduceToNat, Int.cast_ofNat_Int, Int.natCast_nonneg, h, mL]
      repeat first | refine And.intro (by decide +kernel) ?_ | refine And.intro (by omega) ?_
      refine CallsX.args [] hU (by simp) (by simp) rfl rfl ?_
      simp only [absE, absL, absF, reduceCtorEq, ↓reduceIte, Nat.reduceEqDiff, Nat.reduceAdd, Nat.reduceLT, Nat.reduceMul, Nat.reduceSub, Nat.reduceLeDiff, Int.reduceLT, Int.reduceLE, Int.reduceEq, Option.isSome_some, implies_true, false_implies, Prod.mk.injEq, ne_eq, not_false_eq_true, not_true_eq_false, ge_iff_le, gt_iff_lt, Int.toNat_natCast, Int.reduceToNat, Int.cast_ofNat_Int, Int.natCast_nonneg]
      repeat first | refine And.intro (by decide +kernel) ?_ | refine And.intro (by omega) ?_
      refine CallsX.args [(0, 0), (111, 0)] hT (by simp) (by simp [Mem.get, assoc]) rfl rfl ?_
      simp only [absE, absL, absF, reduceCtorEq, ↓reduceIte, Nat.reduceEqDiff, Nat.reduceAdd, Nat.reduceLT, Nat.reduceMul, Nat.reduceSub, Nat.reduceLeDiff, Int.reduceLT, Int.reduceLE, Int.reduceEq, Option.isSome_some, implies_true, false_implies, Prod.mk.injEq, ne_eq, not_false_eq_true, not_true_eq_false, ge_iff_le, gt_iff_lt, Int.toNat_natCast, Int.reduceToNat, Int.cast_ofNat_Int, Int.natCast_nonneg, mL]
      repeat first | refine And.intro (by decide +kernel) ?_ | refine And.intro (by omega) ?_
      refine LoopNext.intro (k + 1) (by omega) (by omega) ⟨[((1, 0), (1, 0))] ++ snocS (114, 0) 13 112 14 k, wkOk_snoc (next := 100) (by simp [wkOk]) (by decide) (by decide) (by decide) (by decide) (by simp) (by decide), ?_, ?_⟩
      · simp [wkEnv, lk, renV, renAt, snocS, renTo, w]
      · simp only [wkMem]
        rw [hLs, wk_snoc (LL := L) (xs := tmT N t p a (unitK N k) N) hLl.symm (by decide) (by decide) (by decide) (by simp) (by decide) (by simp [Mem.get, assoc, tmT_len]) (by simp [Mem.get, assoc, ib, tmT_len]) (fun j hj => by
          simp only [Mem.get, assoc]
          simp
          have q := assoc_rbag_in' (a := 14) (k := 0) (i := j) (LL := L) (by omega)
          rwa [Nat.zero_add] at q)]
        simp [wkLoc, ob, Mem.get, assoc, renBlk, renSegs, renSg, hLl]
    · obtain rfl : k = N := by omega
      simp only [absE, absL, absF, reduceCtorEq, ↓reduceIte, Nat.reduceEqDiff, Nat.reduceAdd, Nat.reduceLT, Nat.reduceMul, Nat.reduceSub, Nat.reduceLeDiff, Int.reduceLT, Int.reduceLE, Int.reduceEq, Option.isSome_some, implies_true, false_implies, Prod.mk.injEq, ne_eq, not_false_eq_true, not_true_eq_false, ge_iff_le, gt_iff_lt, Int.toNat_natCast, Int.reduceToNat, Int.cast_ofNat_Int, Int.natCast_nonneg, h, Try.results27]
      rw [hLk]
      refine ⟨(13, 0) :: srcs 14 0 L.length, row_nodup (.inl (by decide)), row_keep (by decide) (by decide), by simp [renV, renVs, renAt, renFin, idx], by simp [renBlk, renSegs, renSg], ?_⟩
      exact row_map' (p := (13, 0)) (B := 14) (k := 0) (LL := L) (.inl (by decide)) (by decide) (by simp [Mem.get, assoc, ob, hLl]) fun j hj => by
        simp only [Mem.get, assoc]
        simp
        have q := assoc_rbag_in' (a := 14) (k := 0) (i := j) (LL := L) hj
        rwa [Nat.zero_add] at q

/-! linear algebra modulo p: the program's equations -/
def zrL (N k : Nat) : LLs := List.replicate k (List.replicate N 0)
theorem zrL_next {N k : Nat} : zrL N (k + 1) = zrL N k ++ [List.replicate N 0] := List.replicate_succ'
theorem zrL_len {N k : Nat} : (zrL N k).length = k := by simp [zrL]
def eqRow (t : List Int) (p : Int) (a : List Int) (x y : Nat) (E : LLs) : List Int := (at_ E (cl t x y)).set y (((at_ E (cl t x y)).getD y 0 + a.getD x 0).tmod p)
def eqIn (t : List Int) (p : Int) (a : List Int) (x : Nat) (E : LLs) : Nat → LLs
  | 0 => E
  | y + 1 => (eqIn t p a x E y).set (cl t x y) (eqRow t p a x y (eqIn t p a x E y))
def eqT (N : Nat) (t : List Int) (p : Int) (a : List Int) : Nat → LLs
  | 0 => zrL N N
  | x + 1 => eqIn t p a x (eqT N t p a x) N
/-- N rows of length N, entries from 0 to p - 1 -/
structure Eqs (N : Nat) (p : Int) (E : LLs) : Prop where
  len : E.length = N
  row : ∀ i, i < N → (at_ E i).length = N
  rng : ∀ i, i < N → RngP p (at_ E i)
theorem at_set {E : LLs} {z i : Nat} {r : List Int} (hz : z < E.length) : at_ (E.set z r) i = if i = z then r else at_ E i := by
  unfold at_
  rw [List.getD_eq_getElem?_getD, List.getElem?_set]
  by_cases e : z = i
  · subst e; rw [if_pos rfl, if_pos rfl, if_pos hz]; rfl
  · rw [if_neg e, if_neg (fun h => e h.symm), ← List.getD_eq_getElem?_getD]
theorem Eqs.set {N : Nat} {t : List Int} {p : Int} {a : List Int} {E : LLs} (hp : PrP p) (h : Eqs N p E) (ha : RngP p a) {x y : Nat} (hz : cl t x y < N) : Eqs N p (E.set (cl t x y) (eqRow t p a x y E)) := by
  have hp2 := hp.le
  refine ⟨by rw [List.length_set]; exact h.len, fun i hi => ?_, fun i hi => ?_⟩
  · rw [at_set (by rw [h.len]; exact hz)]
    split
    · rw [eqRow, List.length_set]; exact h.row _ hz
    · exact h.row i hi
  · rw [at_set (by rw [h.len]; exact hz)]
    split
    · intro j
      rw [eqRow]
      have r1 := h.rng _ hz y
      have r2 := ha x
      have q1 := Int.tmod_nonneg p (show 0 ≤ (at_ E (cl t x y)).getD y 0 + a.getD x 0 by omega)
      have q2 := Int.tmod_lt_of_pos ((at_ E (cl t x y)).getD y 0 + a.getD x 0) (show 0 < p by omega)
      by_cases hy : y < (at_ E (cl t x y)).length
      · rw [getD_set_int hy]; split
        · omega
        · exact h.rng _ hz j
      · rw [List.set_eq_of_length_le (by omega)]; exact h.rng _ hz j
    · exact h.rng i hi
theorem Eqs.zero {N : Nat} {p : Int} (hp : PrP p) : Eqs N p (zrL N N) := by
  have hp2 := hp.le
  have e : ∀ i, i < N → at_ (zrL N N) i = List.replicate N 0 := fun i hi => by unfold at_ zrL; rw [List.getD_eq_getElem?_getD, List.getElem?_replicate, if_pos hi]; rfl
  refine ⟨zrL_len, fun i hi => by rw [e i hi]; simp, fun i hi j => ?_⟩
  rw [e i hi, List.getD_eq_getElem?_getD, List.getElem?_replicate]
  split <;> simp <;> omega
theorem eqIn_eqs {N : Nat} {t : List Int} {p : Int} {a : List Int} {E : LLs} (hp : PrP p) (hs : SqP N t) (h : Eqs N p E) (ha : RngP p a) {x : Nat} (hx : x < N) : ∀ {y}, y ≤ N → Eqs N p (eqIn t p a x E y)
  | 0, _ => h
  | y + 1, hy => (eqIn_eqs hp hs h ha hx (by omega)).set hp ha (hs.cl_lt hx (by omega))
theorem eqT_eqs {N : Nat} {t : List Int} {p : Int} {a : List Int} (hp : PrP p) (hs : SqP N t) (ha : RngP p a) : ∀ {x}, x ≤ N → Eqs N p (eqT N t p a x)
  | 0, _ => .zero hp
  | x + 1, hx => eqIn_eqs hp hs (eqT_eqs hp hs ha (by omega)) ha (by omega) (Nat.le_refl N)
theorem wk_keepW {m : Mem} {pre : Pairs} {B n : Nat} {LL : LLs} {o O : Abs.Id} (hn : LL.length = n) (hB0 : B ≠ 0) (hpre : ∀ x ∈ pre, x.1.1 ≠ B) (ho : o.1 ≠ B) (hO : m.get o.1 o.2 = ob B 0 LL) (hB : ∀ j, j < n → m.get B (0 + j) = ib (at_ LL j)) :
    wkLoc m (renTo (pre ++ (o, O) :: stdR B n)) (pre ++ (o, O) :: stdR B n) = wkLoc m (renTo (pre ++ (o, O) :: stdR B n)) pre ++ (O, ob B 0 LL) :: rbag B 0 LL := by
  subst hn
  have e : pre ++ (o, O) :: stdR B LL.length = (pre ++ [(o, O)]) ++ stdR B LL.length := by simp
  rw [e, wk_keep rfl hB, wkLoc_app, wkLoc, wkLoc, hO, ob_ren (a' := B) (k' := 0) fun j hj => keep_at hB0 (fun x hx => by
    rcases List.mem_append.1 hx with hx | hx
    · exact hpre x hx
    · simp at hx; subst hx; exact ho) hj]
  simp
theorem wkOk_keepW {pre : Pairs} {B n next : Nat} {o O : Abs.Id} (h : wkOk (pre ++ [(o, O)]) next = true) (hB0 : B ≠ 0) (hBn : B < next) (hpre : ∀ x ∈ pre ++ [(o, O)], x.1.1 ≠ B ∧ x.2.1 ≠ B) : wkOk (pre ++ (o, O) :: stdR B n) next = true := by
  have e : pre ++ (o, O) :: stdR B n = (pre ++ [(o, O)]) ++ stdR B n := by simp
  rw [e]; exact wkOk_keep h hB0 hBn hpre
theorem eq_outs {N : Nat} {p : Int} {E E' : LLs} (h : Eqs N p E) (h' : Eqs N p E') {a k : Nat} : outs a k E = outs a k E' :=
  outs_same (by rw [h.len, h'.len]) fun i hi => by rw [h.row i (by rw [← h.len]; exact hi), h'.row i (by rw [← h.len]; exact hi)]
theorem chk_w {ops : List Oper} {j : Nat} {wr rd : List Abs.Id} : ∀ {h : Hist} {l : List Nat}, h.map (fun x => x.1) = l → (l.all fun i => ordB ops i j) = true → chk ops j wr rd h
  | [], _, _, _ => trivial
  | (i, wr', rd') :: r, _, rfl, hh => by
    simp only [List.map_cons, List.all_cons, Bool.and_eq_true] at hh
    refine ⟨?_, chk_w rfl hh.2⟩
    rw [hh.1, Bool.or_true]
set_option maxHeartbeats 1000000 in
theorem equations_ok (N : Nat) (t : List Int) (p : Int) (a : List Int) (ht : Bytes 100 t) (hs : SqP N t) (hp : PrP p) (ha : RngP p a) (la : a.length = N) :
    ACalls Try.prog 34 [.agg (sqS N t), .i .i64 p, .ref (.sl 0 0 0 0 N 1)] [.lv true [(0, .ints .i64 N a)]]
      (fun v ms ns => v = .ref (.sl 1 0 0 0 N 1) ∧ ms = [.lv true [(0, .ints .i64 N a)]] ∧ ns = ob 1 1 (eqT N t p a N) :: inn (eqT N t p a N)) := by
  have hN := hs.le
  have hp2 := hp.le
  have p0 : ¬ p = 0 := by omega
  have hk8 : (N : Int) * 8 ≤ 140737488355328 := by omega
  have m1 : N * 1 = N := Nat.mul_one N
  refine acalls_of_body mix Try.func34 rfl fok34 (Nat.le_of_ble_eq_true rfl) ?_
  unfold abody
  simp only [absE, absL, absF, reduceCtorEq, ↓reduceIte, Nat.reduceEqDiff, Nat.reduceAdd, Nat.reduceLT, Nat.reduceMul, Nat.reduceSub, Nat.reduceLeDiff, Int.reduceLT, Int.reduceLE, Int.reduceEq, Option.isSome_some, implies_true, false_implies, Prod.mk.injEq, ne_eq, not_false_eq_true, not_true_eq_false, ge_iff_le, gt_iff_lt, Int.toNat_natCast, Int.reduceToNat, Int.cast_ofNat_Int, Int.natCast_nonneg, Try.f34]
  refine awpLoop.intro (fun k : Nat => [(1, .i .i64 p), (2, .ref (.sl 0 0 0 0 N 1)), (3, .ref (.ptr 1 0 0 0)), (7, .ref (.sl 13 0 0 0 k 1)), (15, .i .i64 N), (16, .i .i64 k)]) (fun k => ⟨[.lv true [(0, .ints .i64 N a)]], [((1, 0), .lv true (sqS N t)), ((13, 0), .lv true ([(0, .cells k (outs 14 0 (zrL N k)))]))] ++ rbag 14 0 (zrL N k), 100⟩)
    (fun k => k ≤ N) (fun k => N - k) 0 (by omega) ⟨[((1,0),(1,0)), ((3,0),(13,0))], rfl, ?_, ?_⟩ ?_
  · simp [wkEnv, lk, renV, renAt, renTo]
  · simp [wkMem, wkLoc, Mem.get, assoc, renBlk, renSegs, renSg, renTo, rbag_nil, outs_nil, zrL]
  · intro k hk
    have hLl := zrL_len (N := N) (k := k)
    have hLs := zrL_next (N := N) (k := k)
    by_cases h : (k : Int) < N
    · generalize hLk : zrL N k = L at hLl hLs ⊢
      have w := wrap_i64s (show k < 2 ^ 62 by omega)
      have mL : k * 1 = k := Nat.mul_one _
      simp only [absE, absL, absF, reduceCtorEq, ↓reduceIte, Nat.reduceEqDiff, Nat.reduceAdd, Nat.reduceLT, Nat.reduceMul, Nat.reduceSub, Nat.reduceLeDiff, Int.reduceLT, Int.reduceLE, Int.reduceEq, Option.isSome_some, implies_true, false_implies, Prod.mk.injEq, ne_eq, not_false_eq_true, not_true_eq_false, ge_iff_le, gt_iff_lt, Int.toNat_natCast, Int.reduceToNat, Int.cast_ofNat_Int, Int.natCast_nonneg, h, mL, hk8, m1]
      repeat first | refine And.intro (by decide +kernel) ?_ | refine And.intro (by omega) ?_
      refine LoopNext.intro (k + 1) (by omega) (by omega) ⟨[((1, 0), (1, 0))] ++ snocS (106, 0) 13 104 14 k, wkOk_snoc (next := 100) (by simp [wkOk]) (by decide) (by decide) (by decide) (by decide) (by simp) (by decide), ?_, ?_⟩
      · simp [wkEnv, lk, renV, renAt, snocS, renTo, w]
      · simp only [wkMem]
        rw [hLs, wk_snoc (LL := L) (xs := List.replicate N 0) hLl.symm (by decide) (by decide) (by decide) (by simp) (by decide) (by simp [Mem.get, assoc]) (by simp [Mem.get, assoc, ib]) (fun j hj => by
          simp only [Mem.get, assoc]
          simp
          have q := assoc_rbag_in' (a := 14) (k := 0) (i := j) (LL := L) (by omega)
          rwa [Nat.zero_add] at q)]
        simp [wkLoc, ob, Mem.get, assoc, renBlk, renSegs, renSg, hLl]
    · obtain rfl : N = k := by omega
      simp only [absE, absL, absF, reduceCtorEq, ↓reduceIte, Nat.reduceEqDiff, Nat.reduceAdd, Nat.reduceLT, Nat.reduceMul, Nat.reduceSub, Nat.reduceLeDiff, Int.reduceLT, Int.reduceLE, Int.reduceEq, Option.isSome_some, implies_true, false_implies, Prod.mk.injEq, ne_eq, not_false_eq_true, not_true_eq_false, ge_iff_le, gt_iff_lt, Int.toNat_natCast, Int.reduceToNat, Int.cast_ofNat_Int, Int.natCast_nonneg, h]
      have hZ := Eqs.zero (N := N) hp
      refine awpLoop.intro (fun x : Nat => [(1, .i .i64 p), (3, .ref (.ptr 1 0 0 0)), (7, .ref (.sl 13 0 0 0 N 1)), (25, .ref (.sl 0 0 0 0 N 1)), (26, .i .i64 N), (27, .i .i64 x)]) (fun x => ⟨[.lv true [(0, .ints .i64 N a)]], [((1, 0), .lv true (sqS N t)), ((13, 0), .lv true ([(0, .cells N (outs 14 0 (eqT N t p a x)))]))] ++ rbag 14 0 (eqT N t p a x), 100⟩)
        (fun x => x ≤ N) (fun x => N - x) 0 (by omega) ⟨[((1, 0), (1, 0))] ++ ((13, 0), (13, 0)) :: stdR 14 N, wkOk_keepW (next := 100) (by simp [wkOk]) (by decide) (by decide) (by simp), ?_, ?_⟩ ?_
      · simp [wkEnv, lk, renV, renAt, renTo]
      · simp only [wkMem]
        rw [wk_keepW (LL := zrL N N) hZ.len (by decide) (by simp) (by decide) (by simp [Mem.get, assoc, ob, hZ.len]) (fun j hj => by
          simp only [Mem.get, assoc]
          simp
          have q := assoc_rbag_in' (a := 14) (k := 0) (i := j) (LL := zrL N N) (by rw [hZ.len]; exact hj)
          rwa [Nat.zero_add] at q)]
        simp [wkLoc, ob, Mem.get, assoc, renBlk, renSegs, renSg, hZ.len, eqT]
      · intro x hx
        have hE := eqT_eqs (N := N) (t := t) hp hs ha hx
        have hEs : eqT N t p a (x + 1) = eqIn t p a x (eqT N t p a x) N := rfl
        by_cases h2 : (x : Int) < N
        · generalize eqT N t p a x = E at hE hEs ⊢
          have w := wrap_i64s (show x < 2 ^ 62 by omega)
          have v1 : 0 + x * 1 < N := by omega
          have e0 : a.getD (0 + x * 1) 0 = a.getD x 0 := by rw [Nat.zero_add, Nat.mul_one]
          have hxN : x < N := by omega
          simp only [absE, absL, absF, reduceCtorEq, ↓reduceIte, Nat.reduceEqDiff, Nat.reduceAdd, Nat.reduceLT, Nat.reduceMul, Nat.reduceSub, Nat.reduceLeDiff, Int.reduceLT, Int.reduceLE, Int.reduceEq, Option.isSome_some, implies_true, false_implies, Prod.mk.injEq, ne_eq, not_false_eq_true, not_true_eq_false, ge_iff_le, gt_iff_lt, Int.toNat_natCast, Int.reduceToNat, Int.cast_ofNat_Int, Int.natCast_nonneg, h2, v1, e0]
          refine CallsVia.none (elements_ok N t hN) ?_
          rintro _ _ _ ⟨rfl, rfl, rfl⟩
          simp only [absE, absL, absF, reduceCtorEq, ↓reduceIte, Nat.reduceEqDiff, Nat.reduceAdd, Nat.reduceLT, Nat.reduceMul, Nat.reduceSub, Nat.reduceLeDiff, Int.reduceLT, Int.reduceLE, Int.reduceEq, Option.isSome_some, implies_true, false_implies, Prod.mk.injEq, ne_eq, not_false_eq_true, not_true_eq_false, ge_iff_le, gt_iff_lt, Int.toNat_natCast, Int.reduceToNat, Int.cast_ofNat_Int, Int.natCast_nonneg]
          refine awpLoop.intro (fun y : Nat => [(1, .i .i64 p), (3, .ref (.ptr 1 0 0 0)), (7, .ref (.sl 13 0 0 0 N 1)), (25, .ref (.sl 0 0 0 0 N 1)), (26, .i .i64 N), (27, .i .i64 x), (8, .i .i64 x), (9, .i .i64 (a.getD x 0)), (33, .ref (.sl 15 0 0 0 N 1)), (34, .i .i64 N), (35, .i .i64 y)]) (fun y => ⟨[.lv true [(0, .ints .i64 N a)]], [((1, 0), .lv true (sqS N t)), ((15, 0), .lv true ([(0, .ints .u8 N (bytesTo N))])), ((13, 0), .lv true ([(0, .cells N (outs 14 0 (eqIn t p a x E y)))]))] ++ rbag 14 0 (eqIn t p a x E y), 100⟩)
            (fun y => y ≤ N) (fun y => N - y) 0 (by omega) ⟨[((1, 0), (1, 0)), ((107, 0), (15, 0))] ++ ((13, 0), (13, 0)) :: stdR 14 N, wkOk_keepW (next := 100) (by simp [wkOk]) (by decide) (by decide) (by simp), ?_, ?_⟩ ?_
          · simp [wkEnv, lk, renV, renAt, renTo]
          · simp only [wkMem]
            rw [wk_keepW (LL := E) hE.len (by decide) (by simp) (by decide) (by simp [Mem.get, assoc, ob, hE.len]) (fun j hj => by
              simp only [Mem.get, assoc]
              simp
              have q := assoc_rbag_in' (a := 14) (k := 0) (i := j) (LL := E) (by rw [hE.len]; exact hj)
              rwa [Nat.zero_add] at q)]
            simp [wkLoc, ob, Mem.get, assoc, renBlk, renSegs, renSg, hE.len, eqIn]
          · intro y hy
            have hF := eqIn_eqs hp hs hE ha hxN hy
            have hFs : eqIn t p a x E (y + 1) = (eqIn t p a x E y).set (cl t x y) (eqRow t p a x y (eqIn t p a x E y)) := rfl
            by_cases h3 : (y : Int) < N
            · have hF2 := eqIn_eqs hp hs hE ha hxN (show y + 1 ≤ N by omega)
              generalize eqIn t p a x E y = F at hF hFs ⊢
              have hyN : y < N := by omega
              have hz := hs.cl_lt hxN hyN
              have w2 := wrap_i64s (show y < 2 ^ 62 by omega)
              have b1 : (bytesTo N).getD (0 + y * 1) 0 = (y : Int) := by rw [Nat.zero_add, Nat.mul_one]; exact bytesTo_get (by omega)
              have v2 : 0 + y * 1 < N := by omega
              have x10 : (x : Int) < 10 := by omega
              have y10 : (y : Int) < 10 := by omega
              have xy : 0 + x * 10 + y * 1 < 100 := by omega
              have c1 : t.getD (0 + x * 10 + y * 1) 0 = (cl t x y : Int) := by rw [Nat.zero_add, Nat.mul_one]; exact ht.cell x y
              have zN : (cl t x y : Int) < N := by omega
              have v3 : 0 + cl t x y * 1 < N := by omega
              have o1 : (outs 14 0 F).getD (0 + cl t x y * 1) .top = .sl 14 (cl t x y) 0 0 N 1 := by rw [Nat.zero_add, Nat.mul_one, outs_get (by rw [hF.len]; exact hz), Nat.zero_add, hF.row _ hz]
              have q : assoc (rbag 14 0 F) 14 (cl t x y) = .lv true [(0, .ints .i64 N (at_ F (cl t x y)))] := by
                have q := assoc_rbag_in' (a := 14) (k := 0) (i := cl t x y) (LL := F) (by rw [hF.len]; exact hz)
                rw [Nat.zero_add] at q; rw [q, ib, hF.row _ hz]
              have g1 : (at_ F (cl t x y)).getD (0 + y * 1) 0 = (at_ F (cl t x y)).getD y 0 := by rw [Nat.zero_add, Nat.mul_one]
              have r1 := hF.rng _ hz y
              have r2 := ha x
              have wa : IntKind.i64.wrap ((at_ F (cl t x y)).getD y 0 + a.getD x 0) = (at_ F (cl t x y)).getD y 0 + a.getD x 0 := wrap_i64 (by omega) (by omega)
              have v4 : 0 + y * 1 + 1 ≤ N := by omega
              have u1 : (at_ F (cl t x y)).set (0 + y * 1) (((at_ F (cl t x y)).getD y 0 + a.getD x 0).tmod p) = eqRow t p a x y F := by rw [Nat.zero_add, Nat.mul_one]; rfl
              simp only [absE, absL, absF, reduceCtorEq, ↓reduceIte, Nat.reduceEqDiff, Nat.reduceAdd, Nat.reduceLT, Nat.reduceMul, Nat.reduceSub, Nat.reduceLeDiff, Int.reduceLT, Int.reduceLE, Int.reduceEq, Option.isSome_some, implies_true, false_implies, Prod.mk.injEq, ne_eq, not_false_eq_true, not_true_eq_false, ge_iff_le, gt_iff_lt, Int.toNat_natCast, Int.reduceToNat, Int.cast_ofNat_Int, Int.natCast_nonneg, h3, b1, v2, x10, y10, xy, c1, zN, v3, o1, q, g1, wa, p0, v4, u1]
              have hrl : (eqRow t p a x y F).length = N := by rw [eqRow, List.length_set]; exact hF.row _ hz
              have e1 : 1 = N → [((at_ F (cl t x y)).getD y 0 + a.getD x 0).tmod p] = eqRow t p a x y F := fun e => by
                have y0 : y = 0 := by omega
                have l1 := hF.row _ hz
                unfold eqRow
                generalize at_ F (cl t x y) = r at l1 ⊢
                subst y0
                match r, (l1.trans e.symm) with
                | [v], _ => rfl
              rw [hFs] at hF2
              by_cases h1 : 1 = N
              · rw [if_pos h1]
                refine ⟨by omega, chk_w (l := [11, 10, 9, 8, 7, 6, 5, 4, 3, 2, 1, 0]) rfl (by decide +kernel), ?_⟩
                rw [e1 h1]
                refine LoopNext.intro (y + 1) (by omega) (by omega) ⟨[((1, 0), (1, 0)), ((15, 0), (15, 0))] ++ ((13, 0), (13, 0)) :: stdR 14 N, wkOk_keepW (next := 100) (by simp [wkOk]) (by decide) (by decide) (by simp), ?_, ?_⟩
                · simp [wkEnv, lk, renV, renAt, renTo, w2]
                · simp only [wkMem]
                  rw [hFs, wk_keepW (LL := F.set (cl t x y) (eqRow t p a x y F)) hF2.len (by decide) (by simp) (by decide) (by rw [ob, eq_outs hF2 hF, hF2.len]; simp [Mem.get, assoc]) (fun j hj => by
                    rw [at_set (by rw [hF.len]; exact hz)]
                    by_cases e : cl t x y = j
                    · subst e; rw [if_pos rfl, ib, hrl]; simp [Mem.get, assoc]
                    · have q := assoc_rbag_in' (a := 14) (k := 0) (i := j) (LL := F) (by rw [hF.len]; exact hj)
                      rw [Nat.zero_add] at q
                      rw [if_neg (fun h => e h.symm)]; simp [Mem.get, assoc, e, q])]
                  simp [wkLoc, ob, Mem.get, assoc, renBlk, renSegs, renSg, hF.len]
              · rw [if_neg h1]
                refine ⟨chk_w (l := [11, 10, 9, 8, 7, 6, 5, 4, 3, 2, 1, 0]) rfl (by decide +kernel), ?_⟩
                refine LoopNext.intro (y + 1) (by omega) (by omega) ⟨[((1, 0), (1, 0)), ((15, 0), (15, 0))] ++ ((13, 0), (13, 0)) :: stdR 14 N, wkOk_keepW (next := 100) (by simp [wkOk]) (by decide) (by decide) (by simp), ?_, ?_⟩
                · simp [wkEnv, lk, renV, renAt, renTo, w2]
                · simp only [wkMem]
                  rw [hFs, wk_keepW (LL := F.set (cl t x y) (eqRow t p a x y F)) hF2.len (by decide) (by simp) (by decide) (by rw [ob, eq_outs hF2 hF, hF2.len]; simp [Mem.get, assoc]) (fun j hj => by
                    rw [at_set (by rw [hF.len]; exact hz)]
                    by_cases e : cl t x y = j
                    · subst e; rw [if_pos rfl, ib, hrl]; simp [Mem.get, assoc]
                    · have q := assoc_rbag_in' (a := 14) (k := 0) (i := j) (LL := F) (by rw [hF.len]; exact hj)
                      rw [Nat.zero_add] at q
                      rw [if_neg (fun h => e h.symm)]; simp [Mem.get, assoc, e, q])]
                  simp [wkLoc, ob, Mem.get, assoc, renBlk, renSegs, renSg, hF.len]
            · obtain rfl : N = y := by omega
              simp only [absE, absL, absF, reduceCtorEq, ↓reduceIte, Nat.reduceEqDiff, Nat.reduceAdd, Nat.reduceLT, Nat.reduceMul, Nat.reduceSub, Nat.reduceLeDiff, Int.reduceLT, Int.reduceLE, Int.reduceEq, Option.isSome_some, implies_true, false_implies, Prod.mk.injEq, ne_eq, not_false_eq_true, not_true_eq_false, ge_iff_le, gt_iff_lt, Int.toNat_natCast, Int.reduceToNat, Int.cast_ofNat_Int, Int.natCast_nonneg, h3]
              refine LoopNext.intro (x + 1) (by omega) (by omega) ⟨[((1, 0), (1, 0))] ++ ((13, 0), (13, 0)) :: stdR 14 N, wkOk_keepW (next := 100) (by simp [wkOk]) (by decide) (by decide) (by simp), ?_, ?_⟩
              · simp [wkEnv, lk, renV, renAt, renTo, w]
              · simp only [wkMem]
                rw [hEs, wk_keepW (LL := eqIn t p a x E N) hF.len (by decide) (by simp) (by decide) (by simp [Mem.get, assoc, ob, hF.len]) (fun j hj => by
                  simp only [Mem.get, assoc]
                  simp
                  have q := assoc_rbag_in' (a := 14) (k := 0) (i := j) (LL := eqIn t p a x E N) (by rw [hF.len]; exact hj)
                  rwa [Nat.zero_add] at q)]
                simp [wkLoc, ob, Mem.get, assoc, renBlk, renSegs, renSg, hF.len]
        · obtain rfl : N = x := by omega
          simp only [absE, absL, absF, reduceCtorEq, ↓reduceIte, Nat.reduceEqDiff, Nat.reduceAdd, Nat.reduceLT, Nat.reduceMul, Nat.reduceSub, Nat.reduceLeDiff, Int.reduceLT, Int.reduceLE, Int.reduceEq, Option.isSome_some, implies_true, false_implies, Prod.mk.injEq, ne_eq, not_false_eq_true, not_true_eq_false, ge_iff_le, gt_iff_lt, Int.toNat_natCast, Int.reduceToNat, Int.cast_ofNat_Int, Int.natCast_nonneg, h2, Try.results34]
          refine ⟨(13, 0) :: srcs 14 0 (eqT N t p a N).length, row_nodup (.inl (by decide)), row_keep (by decide) (by decide), by simp [renV, renVs, renAt, renFin, idx], by simp [renBlk, renSegs, renSg], ?_⟩
          exact row_map' (p := (13, 0)) (B := 14) (k := 0) (LL := eqT N t p a N) (.inl (by decide)) (by decide) (by simp [Mem.get, assoc, ob, hE.len]) fun j hj => by
            simp only [Mem.get, assoc]
            simp
            have q := assoc_rbag_in' (a := 14) (k := 0) (i := j) (LL := eqT N t p a N) hj
            rwa [Nat.zero_add] at q

/-! renamings of several lists of lists at once -/
theorem renTo_mem {σ : Pairs} {p q : Abs.Id} (hnd : (σ.map (fun x => x.1)).Nodup) (h0 : p.1 ≠ 0) (h : (p, q) ∈ σ) : renTo σ p.1 p.2 = some q := by
  induction σ with
  | nil => cases h
  | cons x r ih =>
    obtain ⟨p', q'⟩ := x
    rw [List.map_cons, List.nodup_cons] at hnd
    unfold renTo
    rw [if_neg h0]
    simp only
    rcases List.mem_cons.1 h with e | h
    · cases e; rw [if_pos ⟨rfl, rfl⟩]
    · rw [if_neg, ih hnd.2 h]
      rintro ⟨e1, e2⟩
      exact hnd.1 (List.mem_map.2 ⟨(p, q), h, by rw [← Prod.eta p', ← Prod.eta p]; simp [e1, e2]⟩)
theorem wkOk_nodup {σ : Pairs} {n : Nat} (h : wkOk σ n = true) : (σ.map (fun x => x.1)).Nodup := by
  simp only [wkOk, Bool.and_eq_true, decide_eq_true_eq] at h
  exact h.1.1.2
theorem renTo_ok {σ : Pairs} {n : Nat} {p q : Abs.Id} (h : wkOk σ n = true) (h0 : p.1 ≠ 0) (hm : (p, q) ∈ σ) : renTo σ p.1 p.2 = some q := renTo_mem (wkOk_nodup h) h0 hm
/-- The cells of a list of lists whose rows lie at src. -/
def outsS (src : Nat → Abs.Id) (LL : LLs) : List Atom := (List.range LL.length).map fun j => .sl (src j).1 (src j).2 0 0 (at_ LL j).length 1
theorem outsS_len {src : Nat → Abs.Id} {LL : LLs} : (outsS src LL).length = LL.length := by simp [outsS]
theorem outsS_congr {s1 s2 : Nat → Abs.Id} {LL LL' : LLs} (hl : LL.length = LL'.length) (h : ∀ j, j < LL.length → s1 j = s2 j ∧ (at_ LL j).length = (at_ LL' j).length) : outsS s1 LL = outsS s2 LL' := by
  unfold outsS
  rw [← hl]
  exact List.map_congr_left fun j hj => by
    obtain ⟨h1, h2⟩ := h j (List.mem_range.1 hj)
    rw [h1, h2]
theorem outs_S {a k : Nat} {LL : LLs} : outs a k LL = outsS (fun j => (a, k + j)) LL := by
  refine List.ext_getElem (by rw [outs_len, outsS_len]) fun i h1 h2 => ?_
  have hi : i < LL.length := by rwa [outs_len] at h1
  have e1 := outs_get (a := a) (k := k) hi
  rw [List.getD_eq_getElem?_getD, List.getElem?_eq_getElem h1] at e1
  simp only [Option.getD_some] at e1
  rw [e1]; simp [outsS]
theorem outsS_get {src : Nat → Abs.Id} {LL : LLs} {i : Nat} (h : i < LL.length) : (outsS src LL).getD i .top = .sl (src i).1 (src i).2 0 0 (at_ LL i).length 1 := by
  unfold outsS; rw [List.getD_eq_getElem?_getD, List.getElem?_map, List.getElem?_range h]; rfl
theorem outsS_snoc {src : Nat → Abs.Id} {LL : LLs} {xs : List Int} {t i : Nat} : outsS src LL ++ [.sl t i 0 0 xs.length 1] = outsS (fun j => if j < LL.length then src j else (t, i)) (LL ++ [xs]) := by
  refine List.ext_getElem (by simp [outsS]) fun j h1 h2 => ?_
  have hj : j < LL.length + 1 := by rw [outsS_len] at h2; simpa using h2
  by_cases e : j = LL.length
  · subst e
    rw [List.getElem_append_right (by rw [outsS_len]; omega)]
    simp [outsS, at_app]
  · rw [List.getElem_append_left (by rw [outsS_len]; omega)]
    simp only [outsS, List.getElem_map, List.getElem_range, at_app, if_neg e, if_pos (show j < LL.length by omega)]
theorem outsS_ren {τ : Ren} {src : Nat → Abs.Id} {LL : LLs} {a k : Nat} (h : ∀ j, j < LL.length → τ (src j).1 (src j).2 = some (a, k + j)) : (outsS src LL).map (renAt τ) = outs a k LL := by
  rw [outs_S]
  unfold outsS
  rw [List.map_map]
  exact List.map_congr_left fun j hj => by
    have := h j (List.mem_range.1 hj)
    simp [renAt, this]
theorem outsS_set {src : Nat → Abs.Id} {LL : LLs} {xs : List Int} {t i n : Nat} (hn : n < LL.length) : (outsS src LL).set n (.sl t i 0 0 xs.length 1) = outsS (fun j => if j = n then (t, i) else src j) (LL.set n xs) := by
  refine List.ext_getElem (by simp [outsS]) fun j h1 h2 => ?_
  have hj : j < LL.length := by rw [outsS_len, List.length_set] at h2; exact h2
  rw [List.getElem_set]
  by_cases e : n = j
  · subst e; simp [outsS, at_set hn]
  · rw [if_neg e]
    simp [outsS, at_set hn, if_neg (fun h : j = n => e h.symm)]
/-- n rows that lie at src go to the bag B -/
def segR (src : Nat → Abs.Id) (n B : Nat) : Pairs := rids src n B 0
theorem seg_mem {src : Nat → Abs.Id} {n B j : Nat} (h : j < n) : (src j, ((B, 0 + j) : Abs.Id)) ∈ segR src n B := rids_mem.2 ⟨j, h, rfl⟩
theorem seg_out {src : Nat → Abs.Id} {n B : Nat} {x : Abs.Id × Abs.Id} (h : x ∈ segR src n B) : ∃ j, j < n ∧ x.1 = src j ∧ x.2 = (B, 0 + j) := by
  obtain ⟨j, hj, rfl⟩ := rids_mem.1 h
  exact ⟨j, hj, rfl, rfl⟩
theorem wk_seg {m : Mem} {τ : Ren} {src : Nat → Abs.Id} {n B : Nat} {LL : LLs} (hn : n = LL.length) (h : ∀ j, j < LL.length → m.get (src j).1 (src j).2 = ib (at_ LL j)) : wkLoc m τ (segR src n B) = rbag B 0 LL := wkLoc_rids hn h
theorem wkOk_seg {A : Pairs} {src : Nat → Abs.Id} {n B next : Nat} (h : wkOk A next = true) (hs : ∀ i j, i < n → j < n → src i = src j → i = j) (h0 : ∀ i, i < n → (src i).1 ≠ 0) (hB : B ≠ 0) (hn : B < next)
    (h1 : ∀ x ∈ A, ∀ i, i < n → x.1 ≠ src i) (h2 : ∀ x ∈ A, x.2.1 ≠ B) : wkOk (A ++ segR src n B) next = true :=
  wkOk_rids h hs h0 hB hn h1 fun x hx i _ e => h2 x hx (by rw [e])

/-! linear algebra modulo p: the reference's reduction, plain -/
def fnz (c : Nat) (R : LLs) : Nat := fnd (fun k => if (at_ R k).getD c 0 = 0 then 0 else 1) 1 R.length
theorem fnz_le {c : Nat} {R : LLs} : fnz c R ≤ R.length := fnd_le
theorem fnz_none {c i : Nat} {R : LLs} (h : i < fnz c R) : (at_ R i).getD c 0 = 0 := by
  have := fnd_none h
  apply Decidable.byContradiction; intro hn
  rw [if_neg hn] at this; exact this rfl
theorem fnz_at {c : Nat} {R : LLs} (h : fnz c R < R.length) : (at_ R (fnz c R)).getD c 0 ≠ 0 := fun e => by
  have := fnd_at h
  unfold fnz at e
  rw [if_pos e] at this; cases this
def elS (p : Int) (c L : Nat) (b x : List Int) : List Int := addS p x b (-(x.getD c 0)) L
def pivS (p : Int) (c L : Nat) (a : List Int) : List Int := addS p (List.replicate L 0) a (invF p (a.getD c 0)) L
def remL (p : Int) (c L : Nat) (b : List Int) (k : Nat) (R : LLs) : Nat → LLs
  | 0 => []
  | j + 1 => if j = k then remL p c L b k R j else remL p c L b k R j ++ [elS p c L b (at_ R j)]
def eldL (p : Int) (c L : Nat) (b : List Int) (D : LLs) (j : Nat) : LLs := (List.range D.length).map fun i => if i < j then elS p c L b (at_ D i) else at_ D i
def redN (p : Int) (L : Nat) (c : Nat) (D R : LLs) : LLs × LLs :=
  if fnz c R < R.length then (eldL p c L (pivS p c L (at_ R (fnz c R))) D D.length ++ [pivS p c L (at_ R (fnz c R))], remL p c L (pivS p c L (at_ R (fnz c R))) (fnz c R) R R.length) else (D, R)
def redS (p : Int) (L : Nat) (rows : LLs) : Nat → LLs × LLs
  | 0 => ([], rows)
  | c + 1 => redN p L c (redS p L rows c).1 (redS p L rows c).2
theorem elS_elimR {p : Int} {c L : Nat} {b x : List Int} (hx : x.length = L) : elS p c L b x = elimR p b c x := by
  unfold elS addS elimR
  rw [hx]
  exact List.map_congr_left fun j _ => by rw [Int.neg_mul]; rfl
theorem pivS_scaleR {p : Int} {c L : Nat} {a : List Int} (ha : a.length = L) : pivS p c L a = scaleR p (invF p (a.getD c 0)) a := by
  unfold pivS addS scaleR
  rw [ha]
  refine List.map_congr_left fun j _ => ?_
  have : (List.replicate L (0 : Int)).getD j 0 = 0 := by rw [List.getD_eq_getElem?_getD, List.getElem?_replicate]; split <;> rfl
  rw [this, Int.zero_add]
theorem remL_perm {p : Int} {c L : Nat} {b : List Int} {k : Nat} {R : LLs} (hk : k < R.length) : remL p c L b k R R.length = (R.eraseIdx k).map (elS p c L b) := by
  have h1 : ∀ j, j ≤ k → remL p c L b k R j = (R.take j).map (elS p c L b) := fun j => by
    induction j with
    | zero => intro _; simp [remL]
    | succ j ih =>
      intro hj
      rw [remL, if_neg (by omega), ih (by omega), List.take_succ_eq_append_getElem (by omega), List.map_append, at_lt (by omega)]; rfl
  have h2 : ∀ d, k + 1 + d ≤ R.length → remL p c L b k R (k + 1 + d) = (R.take k ++ (R.drop (k + 1)).take d).map (elS p c L b) := fun d => by
    induction d with
    | zero => intro _; rw [Nat.add_zero, remL, if_pos rfl, h1 k (Nat.le_refl k)]; simp
    | succ d ih =>
      intro hd
      rw [← Nat.add_assoc, remL, if_neg (by omega), ih (by omega), List.take_succ_eq_append_getElem (by simp; omega), at_lt (by omega)]
      simp
  have e := h2 (R.length - (k + 1)) (by omega)
  rw [show k + 1 + (R.length - (k + 1)) = R.length by omega] at e
  rw [e, List.eraseIdx_eq_take_drop_succ, show (R.drop (k + 1)).take (R.length - (k + 1)) = R.drop (k + 1) from List.take_of_length_le (by simp)]
theorem eldL_map {p : Int} {c L : Nat} {b : List Int} {D : LLs} : eldL p c L b D D.length = D.map (elS p c L b) := by
  refine List.ext_getElem (by simp [eldL]) fun i h1 h2 => ?_
  have hi : i < D.length := by simpa [eldL] using h1
  simp [eldL, hi, at_lt hi]
theorem erase_perm {R : LLs} {k : Nat} (hk : k < R.length) : R.Perm (at_ R k :: R.eraseIdx k) := by
  rw [at_lt hk, List.eraseIdx_eq_take_drop_succ]
  have e : R = R.take k ++ R[k] :: R.drop (k + 1) := by rw [List.getElem_cons_drop, List.take_append_drop]
  calc R = R.take k ++ R[k] :: R.drop (k + 1) := e
    _ |>.Perm (R[k] :: (R.take k ++ R.drop (k + 1))) := List.perm_middle
theorem redS_red {p : Int} {L : Nat} {rows : LLs} (hp : PrP p) (hm : Mat p L rows) : ∀ {c}, c ≤ L → Red p L rows c (redS p L rows c).1 (redS p L rows c).2
  | 0, _ => .init
  | c + 1, hc => by
    have h := redS_red hp hm (c := c) (by omega)
    rw [redS]
    generalize (redS p L rows c).1 = D at h ⊢
    generalize (redS p L rows c).2 = R at h ⊢
    have hM := h.mat hp.le.1 hm
    unfold redN
    by_cases hk : fnz c R < R.length
    · rw [if_pos hk]
      have hz := fnz_at hk
      generalize fnz c R = k at hk hz ⊢
      have hmem : at_ R k ∈ R := by rw [at_lt hk]; exact List.getElem_mem _
      have la := hM.len (at_ R k) (by simp [hmem])
      have ra := hM.rng (at_ R k) (by simp [hmem])
      obtain ⟨_, _, hs, _⟩ := inv_facts hp hz (ra c)
      have := (h.perm (erase_perm hk)).step (by omega) hs
      simp only
      rw [remL_perm hk, eldL_map, pivS_scaleR la]
      have e1 : D.map (elS p c L (scaleR p (invF p ((at_ R k).getD c 0)) (at_ R k))) = D.map (elimR p (scaleR p (invF p ((at_ R k).getD c 0)) (at_ R k)) c) := List.map_congr_left fun x hx => elS_elimR (hM.len x (by simp [hx]))
      have e2 : (R.eraseIdx k).map (elS p c L (scaleR p (invF p ((at_ R k).getD c 0)) (at_ R k))) = (R.eraseIdx k).map (elimR p (scaleR p (invF p ((at_ R k).getD c 0)) (at_ R k)) c) := List.map_congr_left fun x hx => elS_elimR (hM.len x (by simp [List.mem_of_mem_eraseIdx hx]))
      rw [e1, e2]; exact this
    · rw [if_neg hk]
      refine h.skip fun a ha => ?_
      obtain ⟨i, hi, rfl⟩ := at_in ha
      exact fnz_none (by have := fnz_le (c := c) (R := R); omega)

end Go.Proofs.Ytjmenocghjggcaa
