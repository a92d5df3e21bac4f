/-
Plain facts about squares, as the contracts name them.
-/
import Derived.Test.YtopkdpgbjpjgjaaAbsQ
namespace Go.Abs
open Go
set_option linter.unusedVariables false
set_option linter.unusedSectionVars false
set_option linter.unusedSimpArgs false
set_option linter.defProp false

abbrev sqS (n : Int) (t : List Int) : Segs := [(0, .ints .i64 1 [n]), (1, .ints .u8 100 t)]
abbrev plS (p : List Int) : Segs := [(0, .ints .u8 10 p)]
abbrev trS (p q r : List Int) : Segs := [(0, .ints .u8 10 p), (10, .ints .u8 10 q), (20, .ints .u8 10 r)]
abbrev tbS (t : List Int) : Segs := [(0, .ints .u8 100 t)]
def cl (t : List Int) (i j : Nat) : Nat := (t.getD (i * 10 + j) 0).toNat
def rowOk (N : Nat) (t : List Int) (x : Nat) : Prop := ∀ y, y < 10 → if x < N ∧ y < N then cl t x y < N ∧ cl t y x < N else cl t x y = 0
def full (N : Nat) (t : List Int) (x : Nat) : Prop := x < N → mask (cl t x) N = 2 ^ N - 1 ∧ mask (fun y => cl t y x) N = 2 ^ N - 1
def SqP (n : Int) (t : List Int) : Prop := 1 ≤ n ∧ n ≤ 10 ∧ ∀ x, x < 10 → rowOk n.toNat t x ∧ full n.toNat t x
structure Bytes (k : Nat) (t : List Int) : Prop where
  len : t.length = k
  rng : ∀ i, 0 ≤ t.getD i 0 ∧ t.getD i 0 < 256
theorem Bytes.cell {k : Nat} {t : List Int} (h : Bytes k t) (i j : Nat) : t.getD (i * 10 + j) 0 = (cl t i j : Int) := by
  have := (h.rng (i * 10 + j)).1
  unfold cl; omega
theorem Bytes.cell_lt {k : Nat} {t : List Int} (h : Bytes k t) (i j : Nat) : cl t i j < 256 := by
  have := (h.rng (i * 10 + j)).2
  unfold cl; omega
open Classical in
noncomputable def sqB (n : Int) (t : List Int) : Bool := decide (SqP n t)
theorem sqB_true {n : Int} {t : List Int} (h : SqP n t) : sqB n t = true := by unfold sqB; exact @decide_eq_true _ (_) h
theorem sqB_false {n : Int} {t : List Int} (h : ¬SqP n t) : sqB n t = false := by unfold sqB; exact @decide_eq_false _ (_) h

theorem ext_getD {a b : List Int} (h : a.length = b.length) (he : ∀ i, i < a.length → a.getD i 0 = b.getD i 0) : a = b := by
  apply List.ext_getElem h
  intro i h1 h2
  have := he i h1
  simpa [h1, h2] using this

theorem getD_set_int {a : List Int} {i j : Nat} {v : Int} (h : i < a.length) : (a.set i v).getD j 0 = if i = j then v else a.getD j 0 := by
  by_cases e : i = j
  · subst e; simp [h]
  · simp [e]
theorem getD_sub {a : List Int} {off k j : Nat} : ((a.drop off).take k).getD j 0 = if j < k then a.getD (off + j) 0 else 0 := by
  by_cases h : j < k
  · simp [h, List.getElem?_take]
  · simp [h, List.getElem?_take]

theorem spl_eq_int {a xs : List Int} {off : Nat} (h : off + xs.length ≤ a.length) : spl a off xs = a.take off ++ xs ++ a.drop (off + xs.length) := by
  unfold spl
  split
  · rename_i y
    rw [List.set_eq_take_append_cons_drop, if_pos (by simp at h; omega)]
    simp
  · rfl

theorem spl_length {a xs : List Int} {off : Nat} (h : off + xs.length ≤ a.length) : (spl a off xs).length = a.length := by
  rw [spl_eq_int h]; simp; omega

theorem getD_spl {a xs : List Int} {off j : Nat} (h : off + xs.length ≤ a.length) : (spl a off xs).getD j 0 = if off ≤ j ∧ j < off + xs.length then xs.getD (j - off) 0 else a.getD j 0 := by
  rw [spl_eq_int h]
  have e1 : (a.take off).length = off := by simp; omega
  simp only [List.getD_eq_getElem?_getD]
  by_cases h1 : j < off
  · rw [if_neg (by omega), List.append_assoc, List.getElem?_append_left (by omega)]
    simp [h1]
  · by_cases h2 : j < off + xs.length
    · rw [if_pos (by omega), List.append_assoc, List.getElem?_append_right (by omega), List.getElem?_append_left (by omega), e1]
    · rw [if_neg (by omega), List.getElem?_append_right (by simp only [List.length_append, e1]; omega), List.getElem?_drop]
      simp only [List.length_append, e1]
      congr 2
      omega

theorem sub_length {a : List Int} {off k : Nat} (h : off + k ≤ a.length) : ((a.drop off).take k).length = k := by
  simp; omega
end Go.Abs
