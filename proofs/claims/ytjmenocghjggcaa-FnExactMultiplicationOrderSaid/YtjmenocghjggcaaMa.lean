/-
Contracts of functions of the given program, by the abstract walk.
-/
import Derived.Test.YtjmenocghjggcaaAbsY
import Derived.Test.YtjmenocghjggcaaEd
namespace Go.Proofs.Ytjmenocghjggcaa
open Go Go.Abs
set_option linter.unusedVariables false
set_option linter.unusedSectionVars false
set_option linter.unusedSimpArgs false
set_option maxRecDepth 100000
/-! the search that fills places one at a time: plain -/
abbrev SrG := Nat → Nat → Nat
/-- one place: g says which symbol place d with column x meets; lim says whether more is wanted -/
def srS (g : SrG) (lim : Nat → Bool) (rec : List Int → List Bool → List Bool → List (List Int) → List (List Int)) (d : Nat) (p : List Int) (u m : List Bool) : Nat → List (List Int) → List (List Int)
  | 0, L => L
  | x + 1, L =>
    let L' := srS g lim rec d p u m x L
    if lim L'.length = true ∧ u.getD x false = false ∧ m.getD (g d x) false = false then rec (p.set d (x : Int)) (u.set x true) (m.set (g d x) true) L' else L'
def srA (N : Nat) (g : SrG) (lim : Nat → Bool) : Nat → List Int → List Bool → List Bool → List (List Int) → List (List Int)
  | 0, p, _, _, L => L ++ [p]
  | k + 1, p, u, m, L => srS g lim (srA N g lim k) (N - (k + 1)) p u m N L
theorem srS_succ {g : SrG} {lim : Nat → Bool} {rec : List Int → List Bool → List Bool → List (List Int) → List (List Int)} {d : Nat} {p : List Int} {u m : List Bool} {x : Nat} {L : List (List Int)} :
    srS g lim rec d p u m (x + 1) L = if lim (srS g lim rec d p u m x L).length = true ∧ u.getD x false = false ∧ m.getD (g d x) false = false then rec (p.set d (x : Int)) (u.set x true) (m.set (g d x) true) (srS g lim rec d p u m x L) else srS g lim rec d p u m x L := rfl
theorem srS_skip {g : SrG} {lim : Nat → Bool} {rec : List Int → List Bool → List Bool → List (List Int) → List (List Int)} {d : Nat} {p : List Int} {u m : List Bool} {x : Nat} {L : List (List Int)}
    (h : lim (srS g lim rec d p u m x L).length = false ∨ u.getD x false = true ∨ m.getD (g d x) false = true) : srS g lim rec d p u m (x + 1) L = srS g lim rec d p u m x L := by
  rw [srS_succ, if_neg]
  rintro ⟨a, b, c⟩
  rcases h with h | h | h
  · rw [a] at h; cases h
  · rw [b] at h; cases h
  · rw [c] at h; cases h
theorem srS_go {g : SrG} {lim : Nat → Bool} {rec : List Int → List Bool → List Bool → List (List Int) → List (List Int)} {d : Nat} {p : List Int} {u m : List Bool} {x : Nat} {L : List (List Int)}
    (h1 : lim (srS g lim rec d p u m x L).length = true) (h2 : u.getD x false = false) (h3 : m.getD (g d x) false = false) : srS g lim rec d p u m (x + 1) L = rec (p.set d (x : Int)) (u.set x true) (m.set (g d x) true) (srS g lim rec d p u m x L) := by
  rw [srS_succ, if_pos ⟨h1, h2, h3⟩]
/-- once enough, nothing more comes -/
theorem srS_stop {g : SrG} {lim : Nat → Bool} {rec : List Int → List Bool → List Bool → List (List Int) → List (List Int)} {d : Nat} {p : List Int} {u m : List Bool} {L : List (List Int)} {x : Nat}
    (h : lim (srS g lim rec d p u m x L).length = false) : ∀ {y}, x ≤ y → srS g lim rec d p u m y L = srS g lim rec d p u m x L
  | 0, hy => by obtain rfl : x = 0 := by omega
                rfl
  | y + 1, hy => by
    by_cases e : x = y + 1
    · subst e; rfl
    · have ih := srS_stop h (y := y) (by omega)
      rw [srS_skip (.inl (by rw [ih]; exact h)), ih]
/-- the places of a find are bytes -/
def PlOk (N : Nat) (p : List Int) : Prop := p.length = 10 ∧ ∀ z, 0 ≤ p.getD z 0 ∧ p.getD z 0 < 256
def AllPl (N : Nat) (L : List (List Int)) : Prop := ∀ p ∈ L, PlOk N p
theorem AllPl.maps {N : Nat} {L : List (List Int)} (h : AllPl N L) : Maps L := fun p hp => (h p hp).1
theorem PlOk.set {N : Nat} {p : List Int} {d x : Nat} (h : PlOk N p) (hd : d < 10) (hx : x < 256) : PlOk N (p.set d (x : Int)) := by
  refine ⟨by rw [List.length_set]; exact h.1, fun z => ?_⟩
  rw [getD_set_int (by rw [h.1]; exact hd)]
  split
  · omega
  · exact h.2 z
theorem srS_all {N : Nat} {g : SrG} {lim : Nat → Bool} {rec : List Int → List Bool → List Bool → List (List Int) → List (List Int)} (hrec : ∀ p u m L, PlOk N p → AllPl N L → AllPl N (rec p u m L)) {d : Nat} (hd : d < 10) {p : List Int} (hp : PlOk N p) {u m : List Bool} {L : List (List Int)} (hL : AllPl N L) :
    ∀ {x}, x ≤ 10 → AllPl N (srS g lim rec d p u m x L)
  | 0, _ => hL
  | x + 1, hx => by
    rw [srS_succ]
    split
    · exact hrec _ _ _ _ (hp.set hd (by omega)) (srS_all hrec hd hp hL (by omega))
    · exact srS_all hrec hd hp hL (by omega)
theorem srA_all {N : Nat} {g : SrG} {lim : Nat → Bool} (hN : N ≤ 10) : ∀ {k}, k ≤ N → ∀ {p : List Int} {u m : List Bool} {L : List (List Int)}, PlOk N p → AllPl N L → AllPl N (srA N g lim k p u m L)
  | 0, _, p, u, m, L, hp, hL => fun q hq => by
    rw [srA, List.mem_append] at hq
    rcases hq with hq | hq
    · exact hL q hq
    · rw [List.mem_singleton] at hq; subst hq; exact hp
  | k + 1, hk, p, u, m, L, hp, hL => srS_all (fun p u m L hp hL => srA_all hN (by omega) hp hL) (by omega) hp hL hN
/-- how many -/
theorem srS_len {g : SrG} {lim : Nat → Bool} {rec : List Int → List Bool → List Bool → List (List Int) → List (List Int)} {c : Nat} (hrec : ∀ p u m L, (rec p u m L).length ≤ L.length + c) {d : Nat} {p : List Int} {u m : List Bool} {L : List (List Int)} :
    ∀ {x}, (srS g lim rec d p u m x L).length ≤ L.length + x * c
  | 0 => by simp [srS]
  | x + 1 => by
    have ih := srS_len (g := g) (lim := lim) (d := d) (p := p) (u := u) (m := m) (L := L) hrec (x := x)
    rw [srS_succ, Nat.succ_mul]
    split
    · have := hrec (p.set d (x : Int)) (u.set x true) (m.set (g d x) true) (srS g lim rec d p u m x L)
      omega
    · omega
theorem srA_len {N : Nat} {g : SrG} {lim : Nat → Bool} (hN : N ≤ 10) : ∀ {k} {p : List Int} {u m : List Bool} {L : List (List Int)}, (srA N g lim k p u m L).length ≤ L.length + 10 ^ k
  | 0, p, u, m, L => by rw [srA]; simp
  | k + 1, p, u, m, L => by
    have h := srS_len (g := g) (lim := lim) (d := N - (k + 1)) (p := p) (u := u) (m := m) (L := L) (rec := srA N g lim k) (c := 10 ^ k) (fun p u m L => srA_len hN) (x := N)
    have h2 : N * 10 ^ k ≤ 10 * 10 ^ k := Nat.mul_le_mul_right _ hN
    rw [srA, Nat.pow_succ]
    omega
/-- a limit is never passed -/
theorem srS_lim {most : Nat} {g : SrG} {rec : List Int → List Bool → List Bool → List (List Int) → List (List Int)} (hrec : ∀ p u m L, L.length < most → (rec p u m L).length ≤ most) {d : Nat} {p : List Int} {u m : List Bool} {L : List (List Int)} (hL : L.length ≤ most) :
    ∀ {x}, (srS g (fun n => decide (n < most)) rec d p u m x L).length ≤ most
  | 0 => hL
  | x + 1 => by
    have ih := srS_lim (g := g) (d := d) (p := p) (u := u) (m := m) hrec hL (x := x)
    rw [srS_succ]
    split
    · rename_i h
      exact hrec _ _ _ _ (of_decide_eq_true h.1)
    · exact ih
theorem srA_lim {N most : Nat} {g : SrG} : ∀ {k} {p : List Int} {u m : List Bool} {L : List (List Int)}, L.length < most → (srA N g (fun n => decide (n < most)) k p u m L).length ≤ most
  | 0, p, u, m, L, h => by rw [srA]; simp; omega
  | k + 1, p, u, m, L, h => srS_lim (fun p u m L h => srA_lim h) (by omega)
/-- what is found is added -/
theorem srS_ext {g : SrG} {lim : Nat → Bool} {rec : List Int → List Bool → List Bool → List (List Int) → List (List Int)} (hrec : ∀ p u m L, ∃ T, rec p u m L = L ++ T) {d : Nat} {p : List Int} {u m : List Bool} {L : List (List Int)} :
    ∀ {x}, ∃ T, srS g lim rec d p u m x L = L ++ T
  | 0 => ⟨[], by simp [srS]⟩
  | x + 1 => by
    obtain ⟨T, hT⟩ := srS_ext (g := g) (lim := lim) (d := d) (p := p) (u := u) (m := m) (L := L) hrec (x := x)
    rw [srS_succ]
    split
    · obtain ⟨T', hT'⟩ := hrec (p.set d (x : Int)) (u.set x true) (m.set (g d x) true) (srS g lim rec d p u m x L)
      exact ⟨T ++ T', by rw [hT', hT, List.append_assoc]⟩
    · exact ⟨T, hT⟩
theorem srA_ext {N : Nat} {g : SrG} {lim : Nat → Bool} : ∀ {k} {p : List Int} {u m : List Bool} {L : List (List Int)}, ∃ T, srA N g lim k p u m L = L ++ T
  | 0, p, u, m, L => ⟨[p], rfl⟩
  | k + 1, p, u, m, L => srS_ext fun p u m L => srA_ext
def ceB (a : Atom) : Blk := .lv true [(0, .cells 1 [a])]
/-- a bit set says what a list of bools says -/
def BitL (U : Nat) (u : List Bool) : Prop := U < 2 ^ 10 ∧ u.length = 10 ∧ ∀ z, z < 10 → U.testBit z = u.getD z false
theorem getD_setB {u : List Bool} {x z : Nat} {b : Bool} (h : x < u.length) : (u.set x b).getD z false = if x = z then b else u.getD z false := by
  rw [List.getD_eq_getElem?_getD, List.getElem?_set, List.getD_eq_getElem?_getD]
  by_cases e : x = z
  · rw [if_pos e, if_pos e, if_pos h]; rfl
  · rw [if_neg e, if_neg e]
theorem BitL.set {U x : Nat} {u : List Bool} (h : BitL U u) (hx : x < 10) : BitL (U ||| 2 ^ x) (u.set x true) := by
  refine ⟨Nat.or_lt_two_pow h.1 (Nat.pow_lt_pow_right (by decide) hx), by rw [List.length_set]; exact h.2.1, fun z hz => ?_⟩
  rw [Nat.testBit_or, h.2.2 z hz, getD_setB (by rw [h.2.1]; exact hx), Nat.testBit_two_pow]
  by_cases e : x = z
  · rw [if_pos e, decide_eq_true e, Bool.or_true]
  · rw [if_neg e, decide_eq_false e, Bool.or_false]

end Go.Proofs.Ytjmenocghjggcaa
