/-
Contracts of functions of the given program, by the abstract walk.
-/
import Derived.Test.YtjmenocghjggcaaAbsY
import Derived.Test.YtjmenocghjggcaaOa
namespace Go.Proofs.Ytjmenocghjggcaa
open Go Go.Abs
set_option linter.unusedVariables false
set_option linter.unusedSectionVars false
set_option linter.unusedSimpArgs false
set_option maxRecDepth 100000
/-! mates: how many transversals, plain -/
def lmT : Nat → Bool := fun _ => true
def frN (u : List Bool) : Nat → Nat
  | 0 => 0
  | x + 1 => frN u x + (if u.getD x false = false then 1 else 0)
theorem frN_set {u : List Bool} {x : Nat} (hx : x < u.length) (h : u.getD x false = false) : ∀ {n}, frN (u.set x true) n = if x < n then frN u n - 1 else frN u n
  | 0 => by simp [frN]
  | n + 1 => by
    have ih := frN_set hx h (n := n)
    rw [frN, frN, ih, getD_setB hx]
    by_cases e : x = n
    · subst e
      simp only [h, Nat.lt_irrefl, if_false, if_true, Nat.lt_succ_self]; simp
    · have hpos : x < n → 0 < frN u n := by
        clear ih
        intro hxn
        induction n with
        | zero => omega
        | succ n ihn =>
          rw [frN]
          by_cases e2 : x = n
          · subst e2; rw [h]; simp
          · have := ihn e2 (by omega); omega
      by_cases e2 : x < n
      · have := hpos e2
        by_cases hu : u.getD n false = false
        · simp only [e, e2, hu, if_true, if_false, show x < n + 1 by omega]; omega
        · simp only [e, e2, hu, if_true, if_false, show x < n + 1 by omega]; omega
      · by_cases hu : u.getD n false = false
        · simp only [e, e2, hu, if_true, if_false, show ¬ x < n + 1 by omega]
        · simp only [e, e2, hu, if_true, if_false, show ¬ x < n + 1 by omega]
def fct : Nat → Nat
  | 0 => 1
  | k + 1 => (k + 1) * fct k
theorem fct_pos : ∀ {k}, 1 ≤ fct k
  | 0 => Nat.le_refl _
  | k + 1 => by rw [fct]; exact Nat.le_trans (by decide) (Nat.mul_le_mul (show 1 ≤ k + 1 by omega) (fct_pos (k := k)))
theorem srS_fr {N : Nat} {g : SrG} {lim : Nat → Bool} {rec : List Int → List Bool → List Bool → List (List Int) → List (List Int)} {c d : Nat} {p : List Int} {u m : List Bool} {L : List (List Int)} (hrec : ∀ x L, x < N → u.getD x false = false → (rec (p.set d (x : Int)) (u.set x true) (m.set (g d x) true) L).length ≤ L.length + c) :
    ∀ {x}, x ≤ N → (srS g lim rec d p u m x L).length ≤ L.length + frN u x * c
  | 0, _ => by simp [srS, frN]
  | x + 1, hx => by
    have ih := srS_fr (g := g) (lim := lim) (d := d) (p := p) (u := u) (m := m) (L := L) hrec (x := x) (by omega)
    rw [srS_succ, frN, Nat.add_mul]
    split
    · rename_i h
      have := hrec x (srS g lim rec d p u m x L) (by omega) h.2.1
      rw [if_pos h.2.1]; omega
    · omega
theorem srA_fr {N : Nat} {g : SrG} {lim : Nat → Bool} : ∀ {k} {p : List Int} {u m : List Bool} {L : List (List Int)}, N ≤ u.length → frN u N ≤ k → (srA N g lim k p u m L).length ≤ L.length + fct k
  | 0, p, u, m, L, _, _ => by rw [srA]; simp [fct]
  | k + 1, p, u, m, L, hl, hf => by
    have h := srS_fr (N := N) (g := g) (lim := lim) (rec := srA N g lim k) (c := fct k) (d := N - (k + 1)) (p := p) (u := u) (m := m) (L := L) (fun x L hx hu => srA_fr (by rw [List.length_set]; exact hl) (by
      rw [frN_set (by omega) hu, if_pos hx]; omega)) (Nat.le_refl N)
    have h2 : frN u N * fct k ≤ (k + 1) * fct k := Nat.mul_le_mul_right _ hf
    rw [srA, fct]; omega
theorem srS_lm {N M : Nat} {g : SrG} {rec rec' : List Int → List Bool → List Bool → List (List Int) → List (List Int)} {c d : Nat} {p : List Int} {u m : List Bool} {L : List (List Int)} (hc : 1 ≤ c)
    (hrec : ∀ x L, x < N → u.getD x false = false → L.length + c ≤ M → rec (p.set d (x : Int)) (u.set x true) (m.set (g d x) true) L = rec' (p.set d (x : Int)) (u.set x true) (m.set (g d x) true) L)
    (hlen : ∀ x L, x < N → u.getD x false = false → (rec' (p.set d (x : Int)) (u.set x true) (m.set (g d x) true) L).length ≤ L.length + c) (hM : L.length + frN u N * c ≤ M) :
    ∀ {x}, x ≤ N → srS g (ltB M) rec d p u m x L = srS g lmT rec' d p u m x L
  | 0, _ => rfl
  | x + 1, hx => by
    have ih := srS_lm (g := g) (d := d) (p := p) (u := u) (m := m) (L := L) hc hrec hlen hM (x := x) (by omega)
    rw [srS_succ, srS_succ, ih]
    have hl := srS_fr (lim := lmT) (L := L) hlen (x := x) (by omega)
    by_cases hu : u.getD x false = false
    · have hmono : ∀ n, x + 1 ≤ n → frN u (x + 1) ≤ frN u n := fun n hn => by
        induction n with
        | zero => omega
        | succ n ihn =>
          by_cases e : x = n
          · subst e; exact Nat.le_refl _
          · have := ihn (by omega)
            have e3 : frN u (n + 1) = frN u n + (if u.getD n false = false then 1 else 0) := rfl
            omega
      have h1 := hmono N hx
      rw [frN, if_pos hu] at h1
      have h2 : (frN u x + 1) * c ≤ frN u N * c := Nat.mul_le_mul_right _ h1
      rw [Nat.add_mul, Nat.one_mul] at h2
      have hlt : (srS g lmT rec' d p u m x L).length + c ≤ M := by omega
      have hb : ltB M (srS g lmT rec' d p u m x L).length = true := decide_eq_true (by omega)
      rw [hb, hrec x _ (by omega) hu hlt]; rfl
    · rw [if_neg (fun h => hu h.2.1), if_neg (fun h => hu h.2.1)]
theorem srA_lm {N M : Nat} {g : SrG} : ∀ {k} {p : List Int} {u m : List Bool} {L : List (List Int)}, N ≤ u.length → frN u N ≤ k → L.length + fct k ≤ M → srA N g (ltB M) k p u m L = srA N g lmT k p u m L
  | 0, p, u, m, L, _, _, _ => rfl
  | k + 1, p, u, m, L, hl, hf, hM => by
    rw [srA, srA]
    refine srS_lm fct_pos (fun x L hx hu hL => srA_lm (by rw [List.length_set]; exact hl) (by rw [frN_set (by omega) hu, if_pos hx]; omega) hL)
      (fun x L hx hu => srA_fr (by rw [List.length_set]; exact hl) (by rw [frN_set (by omega) hu, if_pos hx]; omega)) ?_ (Nat.le_refl N)
    have h2 : frN u N * fct k ≤ (k + 1) * fct k := Nat.mul_le_mul_right _ hf
    rw [fct] at hM; omega
/-- what is found is added behind, whatever stood there -/
theorem srS_add {g : SrG} {rec : List Int → List Bool → List Bool → List (List Int) → List (List Int)} (hrec : ∀ p u m L, rec p u m L = L ++ rec p u m []) {d : Nat} {p : List Int} {u m : List Bool} {L : List (List Int)} :
    ∀ {x}, srS g lmT rec d p u m x L = L ++ srS g lmT rec d p u m x []
  | 0 => by simp [srS]
  | x + 1 => by
    have ih := srS_add (g := g) (d := d) (p := p) (u := u) (m := m) (L := L) hrec (x := x)
    rw [srS_succ, srS_succ, ih]
    by_cases h : u.getD x false = false ∧ m.getD (g d x) false = false
    · rw [if_pos ⟨rfl, h⟩, if_pos ⟨rfl, h⟩, hrec, hrec _ _ _ (srS g lmT rec d p u m x []), List.append_assoc]
    · rw [if_neg (fun hh => h hh.2), if_neg (fun hh => h hh.2)]
theorem srA_add {N : Nat} {g : SrG} : ∀ {k} {p : List Int} {u m : List Bool} {L : List (List Int)}, srA N g lmT k p u m L = L ++ srA N g lmT k p u m []
  | 0, p, u, m, L => by simp [srA]
  | k + 1, p, u, m, L => by
    show srS g lmT (srA N g lmT k) (N - (k + 1)) p u m N L = L ++ srS g lmT (srA N g lmT k) (N - (k + 1)) p u m N []
    exact srS_add (g := g) (rec := srA N g lmT k) fun p u m L => srA_add
/-- every place of a find is a column -/
theorem srS_pln {N : Nat} {g : SrG} {lim : Nat → Bool} {rec : List Int → List Bool → List Bool → List (List Int) → List (List Int)} {Q : List Int → Prop} {d : Nat} {p : List Int} {u m : List Bool} {L : List (List Int)} (hrec : ∀ x u m L, x < N → (∀ q ∈ L, Q q) → ∀ q ∈ rec (p.set d (x : Int)) u m L, Q q) (hL : ∀ q ∈ L, Q q) :
    ∀ {x}, x ≤ N → ∀ q ∈ srS g lim rec d p u m x L, Q q
  | 0, _ => hL
  | x + 1, hx => by
    have ih := srS_pln (g := g) (lim := lim) (u := u) (m := m) hrec hL (x := x) (by omega)
    rw [srS_succ]
    split
    · exact hrec x _ _ _ (by omega) ih
    · exact ih
theorem srA_pln {N : Nat} {g : SrG} {lim : Nat → Bool} (hN : N ≤ 10) : ∀ {k} {p : List Int} {u m : List Bool} {L : List (List Int)}, k ≤ N → p.length = 10 → (∀ x, x < N - k → ∃ y : Nat, y < N ∧ p.getD x 0 = y) → (∀ q ∈ L, PlN N q) → ∀ q ∈ srA N g lim k p u m L, PlN N q
  | 0, p, u, m, L, _, hp, hx, hL => fun q hq => by
    rw [srA, List.mem_append] at hq
    rcases hq with hq | hq
    · exact hL q hq
    · simp at hq; subst hq; exact ⟨hp, fun x h => hx x (by omega)⟩
  | k + 1, p, u, m, L, hk, hp, hx, hL => by
    rw [srA]
    refine srS_pln (Q := PlN N) (fun y u m L hy hL => srA_pln hN (by omega) (by rw [List.length_set]; exact hp) (fun x h => ?_) hL) hL (Nat.le_refl N)
    rw [getD_set_int (by rw [hp]; omega)]
    by_cases e : N - (k + 1) = x
    · rw [if_pos e]; exact ⟨y, hy, rfl⟩
    · rw [if_neg e]; exact hx x (by omega)
/-- a place that is set stays -/
theorem srA_keep {N : Nat} {g : SrG} {lim : Nat → Bool} {i : Nat} {v : Int} : ∀ {k} {p : List Int} {u m : List Bool} {L : List (List Int)}, i < N - k → p.getD i 0 = v → (∀ q ∈ L, q.getD i 0 = v) → ∀ q ∈ srA N g lim k p u m L, q.getD i 0 = v
  | 0, p, u, m, L, _, hp, hL => fun q hq => by
    rw [srA, List.mem_append] at hq
    rcases hq with hq | hq
    · exact hL q hq
    · simp at hq; subst hq; exact hp
  | k + 1, p, u, m, L, hi, hp, hL => by
    rw [srA]
    refine srS_pln (Q := fun q => q.getD i 0 = v) (fun y u m L hy hL => srA_keep (by omega) ?_ hL) hL (Nat.le_refl N)
    by_cases hl : N - (k + 1) < p.length
    · rw [getD_set_int hl, if_neg (by omega)]; exact hp
    · rw [List.set_eq_of_length_le (by omega)]; exact hp

end Go.Proofs.Ytjmenocghjggcaa
