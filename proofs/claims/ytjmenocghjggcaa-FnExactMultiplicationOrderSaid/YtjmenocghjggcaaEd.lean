/-
Contracts of functions of the given program, by the abstract walk.
-/
import Derived.Test.YtjmenocghjggcaaAbsY
import Derived.Test.YtjmenocghjggcaaDe
import Derived.Test.YtjmenocghjggcaaDc
import Derived.Test.YtjmenocghjggcaaEc
import Derived.Test.YtjmenocghjggcaaDj
namespace Go.Proofs.Ytjmenocghjggcaa
open Go Go.Abs
set_option linter.unusedVariables false
set_option linter.unusedSectionVars false
set_option linter.unusedSimpArgs false
set_option maxRecDepth 100000
/-! lists of maps -/
def Maps (Ls : List (List Int)) : Prop := ∀ p ∈ Ls, p.length = 10
theorem Maps.app {A B : List (List Int)} (h : Maps A) (h' : Maps B) : Maps (A ++ B) := fun p hp => by
  rcases List.mem_append.1 hp with h1 | h1
  · exact h p h1
  · exact h' p h1
theorem flat_len : ∀ {Ls : List (List Int)}, Maps Ls → Ls.flatten.length = Ls.length * 10
  | [], _ => rfl
  | p :: Ls, h => by
    rw [List.flatten_cons, List.length_append, h p (by simp), flat_len fun q hq => h q (by simp [hq]), List.length_cons]; omega
theorem flat_get : ∀ {Ls : List (List Int)} {i : Nat}, Maps Ls → i < Ls.length → (Ls.flatten.drop (i * 10)).take 10 = Ls.getD i []
  | [], i, _, hi => absurd hi (by simp)
  | p :: Ls, 0, h, _ => by
    have := h p (by simp)
    rw [List.flatten_cons, Nat.zero_mul, List.drop_zero, List.take_append_of_le_length (by omega), List.take_of_length_le (by omega)]; rfl
  | p :: Ls, i + 1, h, hi => by
    have h1 := h p (by simp)
    have h2 := flat_get (Ls := Ls) (i := i) (fun q hq => h q (by simp [hq])) (by simpa using hi)
    rw [List.flatten_cons, List.drop_append, h1, List.drop_eq_nil_of_le (by omega), List.nil_append, show (i + 1) * 10 - 10 = i * 10 by omega, h2]; rfl
theorem flat_cell {Ls : List (List Int)} {i x : Nat} (h : Maps Ls) (hi : i < Ls.length) (hx : x < 10) : Ls.flatten.getD (i * 10 + x) 0 = (Ls.getD i []).getD x 0 := by
  rw [← flat_get h hi, getD_sub, if_pos hx]
theorem getD_mem {Ls : List (List Int)} {i : Nat} (hi : i < Ls.length) : Ls.getD i [] ∈ Ls := by simp [hi]

/-! without elements: an empty list of them -/
noncomputable def ncode (n : Int) (t : List Int) : Int := if sqB n t then (if unitB n.toNat t 0 then 0 else 5) else 1
theorem ncode_zero {n : Int} {t : List Int} (h : ncode n t = 0) : SqP n t := by
  unfold ncode at h
  split at h
  · rename_i h1; exact sqB_iff.1 h1
  · omega
def inIn (N : Nat) (t : List Int) (x : Nat) (Ls : List (List Int)) : Nat → List (List Int)
  | 0 => Ls ++ [turnL N t x]
  | y + 1 => inIn N t x Ls y ++ [leftL N t x y, rightL N t x y]
def inT (N : Nat) (t : List Int) : Nat → List (List Int)
  | 0 => []
  | x + 1 => inIn N t x (inT N t x) N
theorem inIn_maps {N : Nat} {t : List Int} {x : Nat} {Ls : List (List Int)} (h : Maps Ls) : ∀ {y}, Maps (inIn N t x Ls y)
  | 0 => h.app fun p hp => by simp at hp; subst hp; exact mapL_len
  | y + 1 => (inIn_maps h).app fun p hp => by
      simp at hp
      rcases hp with rfl | rfl <;> exact mapL_len
theorem inT_maps {N : Nat} {t : List Int} : ∀ {x}, Maps (inT N t x)
  | 0 => fun p hp => by cases hp
  | x + 1 => inIn_maps inT_maps
theorem inIn_len {N : Nat} {t : List Int} {x : Nat} {Ls : List (List Int)} : ∀ {y}, (inIn N t x Ls y).length = Ls.length + 1 + 2 * y
  | 0 => by simp [inIn]
  | y + 1 => by rw [inIn, List.length_append, inIn_len]; simp; omega
theorem inT_len {N : Nat} {t : List Int} (hN : N ≤ 10) : ∀ {x}, (inT N t x).length ≤ 21 * x
  | 0 => by simp [inT]
  | x + 1 => by rw [inT, inIn_len]; have := inT_len (t := t) hN (x := x); omega
theorem spl_two {p q : List Int} (hp : p.length = 10) (hq : q.length = 10) : spl (spl (List.replicate 20 0) 0 p) 10 q = p ++ q := by
  refine ext_getD ?_ fun i hi => ?_
  · rw [spl_length (by rw [spl_length (by simp [hp]), hq]; simp), spl_length (by simp [hp])]; simp [hp, hq]
  · rw [spl_length (by rw [spl_length (by simp [hp]), hq]; simp), spl_length (by simp [hp])] at hi
    simp at hi
    rw [getD_spl (by rw [spl_length (by simp [hp]), hq]; simp), getD_spl (by simp [hp])]
    by_cases h : i < 10
    · rw [if_neg (by omega), if_pos (by omega)]
      simp [List.getElem?_append_left (show i < p.length by omega)]
    · rw [if_pos (by omega)]
      simp [List.getElem?_append_right (show p.length ≤ i by omega), hp]
theorem turnL_perm {N : Nat} {t : List Int} (hs : SqP N t) {x : Nat} (hx : x < N) : PermP N (turnL N t x) :=
  PermP_of hs.pos hs.le (permF_mapL hs.le (fun i hi => PermF.fnd_lt (hs.colP hx) hs.le (hs.cl_lt hx hi)) fun i j hi hj e => by
    have h1 := PermF.fnd_at (hs.colP hx) hs.le (hs.cl_lt hx hi)
    have h2 := PermF.fnd_at (hs.colP hx) hs.le (hs.cl_lt hx hj)
    rw [e, h2] at h1
    exact PermF.inj (hs.rowP hx) hs.le hi hj h1.symm)
theorem leftL_perm {N : Nat} {t : List Int} (hs : SqP N t) {x y : Nat} (hx : x < N) (hy : y < N) : PermP N (leftL N t x y) :=
  PermP_of hs.pos hs.le (permF_mapL hs.le (fun i hi => PermF.fnd_lt (hs.rowP (hs.cl_lt hy hx)) hs.le (hs.cl_lt hy (hs.cl_lt hx hi))) fun i j hi hj e => by
    have h1 := PermF.fnd_at (hs.rowP (hs.cl_lt hy hx)) hs.le (hs.cl_lt hy (hs.cl_lt hx hi))
    have h2 := PermF.fnd_at (hs.rowP (hs.cl_lt hy hx)) hs.le (hs.cl_lt hy (hs.cl_lt hx hj))
    rw [e, h2] at h1
    exact PermF.inj (hs.rowP hx) hs.le hi hj (PermF.inj (hs.rowP hy) hs.le (hs.cl_lt hx hi) (hs.cl_lt hx hj) h1.symm))
theorem rightL_perm {N : Nat} {t : List Int} (hs : SqP N t) {x y : Nat} (hx : x < N) (hy : y < N) : PermP N (rightL N t x y) :=
  PermP_of hs.pos hs.le (permF_mapL hs.le (fun i hi => PermF.fnd_lt (hs.colP (hs.cl_lt hx hy)) hs.le (hs.cl_lt (hs.cl_lt hi hx) hy)) fun i j hi hj e => by
    have h1 := PermF.fnd_at (hs.colP (hs.cl_lt hx hy)) hs.le (hs.cl_lt (hs.cl_lt hi hx) hy)
    have h2 := PermF.fnd_at (hs.colP (hs.cl_lt hx hy)) hs.le (hs.cl_lt (hs.cl_lt hj hx) hy)
    rw [e, h2] at h1
    exact PermF.inj (hs.colP hx) hs.le hi hj (PermF.inj (hs.colP hy) hs.le (hs.cl_lt hi hx) (hs.cl_lt hj hx) h1.symm))
theorem inIn_all {N : Nat} {t : List Int} (hs : SqP N t) {x : Nat} {Ls : List (List Int)} (hx : x < N) (h : ∀ p ∈ Ls, PermP N p ∧ Bytes 10 p) : ∀ {y}, y ≤ N → ∀ p ∈ inIn N t x Ls y, PermP N p ∧ Bytes 10 p
  | 0, _, p, hp => by
    rcases List.mem_append.1 hp with h1 | h1
    · exact h p h1
    · simp at h1; subst h1
      exact ⟨turnL_perm hs hx, mapL_bytes hs.le fun i hi => by have := PermF.fnd_lt (hs.colP hx) hs.le (hs.cl_lt hx hi); have := hs.le; omega⟩
  | y + 1, hy, p, hp => by
    rcases List.mem_append.1 hp with h1 | h1
    · exact inIn_all hs hx h (show y ≤ N by omega) p h1
    · simp at h1
      rcases h1 with rfl | rfl
      · exact ⟨leftL_perm hs hx (by omega), mapL_bytes hs.le fun i hi => by have := PermF.fnd_lt (hs.rowP (hs.cl_lt (show y < N by omega) hx)) hs.le (hs.cl_lt (show y < N by omega) (hs.cl_lt hx hi)); have := hs.le; omega⟩
      · exact ⟨rightL_perm hs hx (by omega), mapL_bytes hs.le fun i hi => by have := PermF.fnd_lt (hs.colP (hs.cl_lt hx (show y < N by omega))) hs.le (hs.cl_lt (hs.cl_lt hi hx) (show y < N by omega)); have := hs.le; omega⟩
theorem inT_all {N : Nat} {t : List Int} (hs : SqP N t) : ∀ {x}, x ≤ N → ∀ p ∈ inT N t x, PermP N p ∧ Bytes 10 p
  | 0, _, p, hp => by cases hp
  | x + 1, hx, p, hp => inIn_all hs (show x < N by omega) (fun q hq => inT_all hs (show x ≤ N by omega) q hq) (Nat.le_refl N) p hp

end Go.Proofs.Ytjmenocghjggcaa
