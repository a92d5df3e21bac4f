/-
Contracts of functions of the given program, by the abstract walk.
-/
import Derived.Test.YtjmenocghjggcaaAbsY
import Derived.Test.YtjmenocghjggcaaMc
namespace Go.Proofs.Ytjmenocghjggcaa
open Go Go.Abs
set_option linter.unusedVariables false
set_option linter.unusedSectionVars false
set_option linter.unusedSimpArgs false
set_option maxRecDepth 100000
/-! mates: plain -/
def meetB (N : Nat) (p q : List Int) : Bool := (List.range N).any fun i => decide (p.getD i 0 = q.getD i 0)
theorem meetB_iff {N : Nat} {p q : List Int} : meetB N p q = true ↔ ∃ i, i < N ∧ p.getD i 0 = q.getD i 0 := by
  unfold meetB; rw [List.any_eq_true]
  constructor
  · rintro ⟨i, hi, h⟩; exact ⟨i, List.mem_range.1 hi, of_decide_eq_true h⟩
  · rintro ⟨i, hi, h⟩; exact ⟨i, List.mem_range.2 hi, decide_eq_true h⟩
abbrev TkR := Nat × List (List Int) × Nat
/-- takes from a list of candidates: what is taken, trials so far; 0 all taken, 3 too many trials, 4 none -/
def tkL (N : Nat) (rec : List (List Int) → Nat → TkR) (tk : List (List Int)) : List (List Int) → Nat → TkR
  | [], r => (4, tk, r)
  | p :: ps, r => if tk.any (fun q => meetB N p q) then tkL N rec tk ps r else if 20000 < r + 1 then (3, tk, r + 1) else if (rec (tk ++ [p]) (r + 1)).1 = 4 then tkL N rec tk ps (rec (tk ++ [p]) (r + 1)).2.2 else rec (tk ++ [p]) (r + 1)
def tkA (N : Nat) (B : Nat → List (List Int)) : Nat → List (List Int) → Nat → TkR
  | 0, tk, r => (0, tk, r)
  | d + 1, tk, r => tkL N (tkA N B d) tk (B (N - (d + 1))) r
/-- the same over all transversals, those of another first place being left -/
def tkT (N k : Nat) (rec : List (List Int) → Nat → TkR) (tk : List (List Int)) : List (List Int) → Nat → TkR
  | [], r => (4, tk, r)
  | p :: ps, r => if p.getD 0 0 ≠ (k : Int) ∨ tk.any (fun q => meetB N p q) = true then tkT N k rec tk ps r else if 20000 < r + 1 then (3, tk, r + 1) else if (rec (tk ++ [p]) (r + 1)).1 = 4 then tkT N k rec tk ps (rec (tk ++ [p]) (r + 1)).2.2 else rec (tk ++ [p]) (r + 1)
def firstB (T : List (List Int)) (k : Nat) : List (List Int) := T.filter fun p => decide (p.getD 0 0 = (k : Int))
theorem tkT_filter {N k : Nat} {rec : List (List Int) → Nat → TkR} {tk : List (List Int)} : ∀ {T : List (List Int)} {r : Nat}, tkT N k rec tk T r = tkL N rec tk (firstB T k) r
  | [], r => rfl
  | p :: ps, r => by
    unfold firstB
    rw [List.filter_cons]
    by_cases h : p.getD 0 0 = (k : Int)
    · rw [if_pos (decide_eq_true h), tkT, tkL]
      have ih := fun r => tkT_filter (N := N) (k := k) (rec := rec) (tk := tk) (T := ps) (r := r)
      by_cases h2 : tk.any (fun q => meetB N p q) = true
      · rw [if_pos (.inr h2), if_pos h2]; exact ih r
      · rw [if_neg (fun hh => hh.elim (fun h3 => h3 h) h2), if_neg h2]
        split
        · rfl
        · split
          · exact ih _
          · rfl
    · rw [if_neg (by simpa using h), tkT, if_pos (.inl h)]
      exact tkT_filter
/-- the trials never go back; a find of none or of all is within the limit -/
theorem tkL_r {N : Nat} {rec : List (List Int) → Nat → TkR} (hrec : ∀ tk r, r ≤ 20000 → r ≤ (rec tk r).2.2 ∧ (rec tk r).2.2 ≤ 20001 ∧ ((rec tk r).1 ≠ 3 → (rec tk r).2.2 ≤ 20000) ∧ ((rec tk r).1 = 3 → (rec tk r).2.2 = 20001) ∧ ((rec tk r).1 = 0 ∨ (rec tk r).1 = 3 ∨ (rec tk r).1 = 4)) {tk : List (List Int)} :
    ∀ {P : List (List Int)} {r : Nat}, r ≤ 20000 → r ≤ (tkL N rec tk P r).2.2 ∧ (tkL N rec tk P r).2.2 ≤ 20001 ∧ ((tkL N rec tk P r).1 ≠ 3 → (tkL N rec tk P r).2.2 ≤ 20000) ∧ ((tkL N rec tk P r).1 = 3 → (tkL N rec tk P r).2.2 = 20001) ∧ ((tkL N rec tk P r).1 = 0 ∨ (tkL N rec tk P r).1 = 3 ∨ (tkL N rec tk P r).1 = 4)
  | [], r, h => by simp [tkL]; omega
  | p :: ps, r, h => by
    rw [tkL]
    split
    · exact tkL_r hrec h
    · split
      · simp; omega
      · have h1 := hrec (tk ++ [p]) (r + 1) (by omega)
        split
        · rename_i h4
          have h2 := tkL_r (N := N) (tk := tk) hrec (P := ps) (r := (rec (tk ++ [p]) (r + 1)).2.2) (h1.2.2.1 (by omega))
          exact ⟨by omega, h2.2⟩
        · exact ⟨by omega, h1.2⟩
theorem tkA_r {N : Nat} {B : Nat → List (List Int)} : ∀ {d} {tk : List (List Int)} {r : Nat}, r ≤ 20000 → r ≤ (tkA N B d tk r).2.2 ∧ (tkA N B d tk r).2.2 ≤ 20001 ∧ ((tkA N B d tk r).1 ≠ 3 → (tkA N B d tk r).2.2 ≤ 20000) ∧ ((tkA N B d tk r).1 = 3 → (tkA N B d tk r).2.2 = 20001) ∧ ((tkA N B d tk r).1 = 0 ∨ (tkA N B d tk r).1 = 3 ∨ (tkA N B d tk r).1 = 4)
  | 0, tk, r, h => by simp [tkA]; omega
  | d + 1, tk, r, h => tkL_r (fun tk r h => tkA_r h) h
/-- the places of a transversal are columns -/
def PlN (N : Nat) (p : List Int) : Prop := p.length = 10 ∧ ∀ x, x < N → ∃ y : Nat, y < N ∧ p.getD x 0 = y
/-- what is taken: columns everywhere, and no two meet -/
structure Tkn (N : Nat) (tk : List (List Int)) : Prop where
  pl : ∀ p ∈ tk, PlN N p
  dis : tk.Pairwise fun p q => meetB N p q = false
theorem Tkn.snoc {N : Nat} {tk : List (List Int)} {p : List Int} (h : Tkn N tk) (hp : PlN N p) (hm : ¬ tk.any (fun q => meetB N p q) = true) : Tkn N (tk ++ [p]) := by
  refine ⟨fun q hq => ?_, ?_⟩
  · rcases List.mem_append.1 hq with hq | hq
    · exact h.pl q hq
    · simp at hq; subst hq; exact hp
  · rw [List.pairwise_append]
    refine ⟨h.dis, List.pairwise_singleton _ _, fun a ha b hb => ?_⟩
    simp at hb; subst hb
    apply Bool.eq_false_iff.2
    intro hh
    obtain ⟨i, hi, e⟩ := meetB_iff.1 hh
    exact hm (List.any_eq_true.2 ⟨a, ha, meetB_iff.2 ⟨i, hi, e.symm⟩⟩)
theorem tkL_tkn {N : Nat} {rec : List (List Int) → Nat → TkR} {n : Nat} (hrec : ∀ tk r, Tkn N tk → (rec tk r).1 = 0 → Tkn N (rec tk r).2.1 ∧ (rec tk r).2.1.length = tk.length + n) {tk : List (List Int)} (ht : Tkn N tk) :
    ∀ {P : List (List Int)} {r : Nat}, (∀ p ∈ P, PlN N p) → (tkL N rec tk P r).1 = 0 → Tkn N (tkL N rec tk P r).2.1 ∧ (tkL N rec tk P r).2.1.length = tk.length + (n + 1)
  | [], r, _, h => by simp [tkL] at h
  | p :: ps, r, hP, h => by
    rw [tkL] at h ⊢
    split at h
    · rename_i h1; rw [if_pos h1]; exact tkL_tkn hrec ht (fun q hq => hP q (by simp [hq])) h
    · rename_i h1
      rw [if_neg h1]
      split at h
      · simp at h
      · rename_i h2
        rw [if_neg h2]
        split at h
        · rename_i h3; rw [if_pos h3]; exact tkL_tkn hrec ht (fun q hq => hP q (by simp [hq])) h
        · rename_i h3
          rw [if_neg h3]
          have := hrec (tk ++ [p]) (r + 1) (ht.snoc (hP p (by simp)) h1) h
          rw [List.length_append] at this
          exact ⟨this.1, by simp only [List.length_cons, List.length_nil] at this; omega⟩
theorem tkA_tkn {N : Nat} {B : Nat → List (List Int)} (hB : ∀ k, ∀ p ∈ B k, PlN N p) : ∀ {d} {tk : List (List Int)} {r : Nat}, Tkn N tk → (tkA N B d tk r).1 = 0 → Tkn N (tkA N B d tk r).2.1 ∧ (tkA N B d tk r).2.1.length = tk.length + d
  | 0, tk, r, ht, _ => ⟨ht, rfl⟩
  | d + 1, tk, r, ht, h => tkL_tkn (fun tk r ht h => tkA_tkn hB ht h) ht (hB _) h
/-- the marks of a transversal -/
def mkA (p : List Int) (v : Int) (g : List Int) : Nat → List Int
  | 0 => g
  | x + 1 => (mkA p v g x).set (x * 10 + (p.getD x 0).toNat) v
theorem mkA_len {p : List Int} {v : Int} {g : List Int} : ∀ {x}, (mkA p v g x).length = g.length
  | 0 => rfl
  | x + 1 => by rw [mkA, List.length_set, mkA_len]
theorem mkA_get {N : Nat} {p : List Int} {v : Int} {g : List Int} (hp : PlN N p) (hN : N ≤ 10) (hg : g.length = 100) {i j : Nat} (hj : j < 10) : ∀ {x}, x ≤ N → (mkA p v g x).getD (i * 10 + j) 0 = if i < x ∧ p.getD i 0 = (j : Int) then v else g.getD (i * 10 + j) 0
  | 0, _ => by simp [mkA]
  | x + 1, hx => by
    obtain ⟨y, hy, e⟩ := hp.2 x (by omega)
    have ey : (p.getD x 0).toNat = y := by omega
    rw [mkA, getD_set_int (by rw [mkA_len, hg]; omega), mkA_get hp hN hg hj (by omega), ey]
    by_cases h : x * 10 + y = i * 10 + j
    · obtain rfl : i = x := by omega
      obtain rfl : j = y := by omega
      rw [if_pos h, if_pos ⟨by omega, e⟩]
    · rw [if_neg h]
      by_cases h2 : i < x ∧ p.getD i 0 = (j : Int)
      · rw [if_pos h2, if_pos ⟨by omega, h2.2⟩]
      · rw [if_neg h2, if_neg]
        rintro ⟨h3, h4⟩
        by_cases e2 : i = x
        · subst e2; exact h (by omega)
        · exact h2 ⟨by omega, h4⟩
/-- the marks of all that is taken: 1 more than its number -/
def grd (N : Nat) : List (List Int) → List Int := fun tk => (List.range tk.length).foldl (fun g i => mkA (tk.getD i []) ((i : Int) + 1) g N) (List.replicate 100 0)
theorem grd_snoc {N : Nat} {tk : List (List Int)} {p : List Int} : grd N (tk ++ [p]) = mkA p ((tk.length : Int) + 1) (grd N tk) N := by
  unfold grd
  rw [List.length_append, List.length_cons, List.length_nil, List.range_succ, List.foldl_append]
  simp only [List.foldl_cons, List.foldl_nil]
  have e : (tk ++ [p]).getD tk.length [] = p := by simp
  rw [e]
  congr 1
  have key : ∀ (l : List Nat) (g : List Int), (∀ i ∈ l, i < tk.length) → l.foldl (fun g i => mkA ((tk ++ [p]).getD i []) ((i : Int) + 1) g N) g = l.foldl (fun g i => mkA (tk.getD i []) ((i : Int) + 1) g N) g := by
    intro l
    induction l with
    | nil => intro g _; rfl
    | cons a l ih =>
      intro g h
      have ha := h a (by simp)
      have ea : (tk ++ [p]).getD a [] = tk.getD a [] := by
        rw [List.getD_eq_getElem?_getD, List.getElem?_append_left ha, ← List.getD_eq_getElem?_getD]
      simp only [List.foldl_cons]
      rw [ea]
      exact ih _ fun i hi => h i (by simp [hi])
  exact key _ _ fun i hi => by simpa using hi
theorem grd_len {N : Nat} {tk : List (List Int)} : (grd N tk).length = 100 := by
  unfold grd
  have key : ∀ (l : List Nat) (g : List Int), (l.foldl (fun g i => mkA (tk.getD i []) ((i : Int) + 1) g N) g).length = g.length := by
    intro l
    induction l with
    | nil => intro g; rfl
    | cons a l ih => intro g; rw [List.foldl_cons, ih, mkA_len]
  rw [key]; simp

end Go.Proofs.Ytjmenocghjggcaa
