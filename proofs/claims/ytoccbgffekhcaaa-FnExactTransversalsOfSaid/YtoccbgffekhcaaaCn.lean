/-
Contracts of functions of the given program, by the abstract walk.
-/
import Derived.Test.YtoccbgffekhcaaaAbsY
import Derived.Test.YtoccbgffekhcaaaCm
namespace Go.Proofs.Ytoccbgffekhcaaa
open Go Go.Abs
set_option linter.unusedVariables false
set_option linter.unusedSectionVars false
set_option linter.unusedSimpArgs false
set_option maxRecDepth 100000
def AreP (n : Int) (c : List Int) (k : Nat) : Prop := (1 ≤ n ∧ n ≤ 10) ∧ ∀ i, i < k → PermP n ((c.drop (i * 10)).take 10)
open Classical in
noncomputable def areB (n : Int) (t : List Int) (k : Nat) : Bool := decide (AreP n t k)
theorem areB_true {n : Int} {t : List Int} {k : Nat} (h : AreP n t k) : areB n t k = true := by unfold areB; exact @decide_eq_true _ (_) h
theorem areB_false {n : Int} {t : List Int} {k : Nat} (h : ¬AreP n t k) : areB n t k = false := by unfold areB; exact @decide_eq_false _ (_) h
theorem areB_iff {n : Int} {t : List Int} {k : Nat} : areB n t k = true ↔ AreP n t k := by unfold areB; exact @decide_eq_true_iff _ (_)
theorem bytes_sub {t : List Int} {L : Nat} (h : Bytes L t) {off : Nat} (ho : off + 10 ≤ L) : Bytes 10 ((t.drop off).take 10) :=
  ⟨sub_length (by have := h.len; omega), fun i => by rw [getD_sub]; split; exact h.rng _; omega⟩

theorem three_rows {p q r : List Int} (hp : p.length = 10) (hq : q.length = 10) (hr : r.length = 10) :
    spl (spl (spl (List.replicate 30 (0 : Int)) 0 p) 10 q) 20 r = p ++ q ++ r := by
  have h1 : spl (List.replicate 30 (0 : Int)) 0 p = p ++ List.replicate 20 0 := by
    rw [spl_eq_int (by rw [List.length_replicate]; omega), hp, List.drop_replicate]
    rfl
  have h2 : spl (p ++ List.replicate 20 (0 : Int)) 10 q = p ++ q ++ List.replicate 10 0 := by
    rw [spl_eq_int (by rw [List.length_append, List.length_replicate]; omega), List.take_left' hp, hq, List.drop_append, hp, List.drop_eq_nil_of_le (by omega), List.drop_replicate]
    rfl
  have hpq : (p ++ q).length = 20 := by rw [List.length_append]; omega
  rw [h1, h2, spl_eq_int (by rw [List.length_append, List.length_replicate]; omega), List.take_left' hpq, hr, List.drop_append, hpq, List.drop_eq_nil_of_le (by omega), List.drop_replicate]
  simp
theorem areB_three {n : Int} {p q r : List Int} (hp : Bytes 10 p) (hq : Bytes 10 q) (hr : Bytes 10 r) : areB n (p ++ q ++ r) 3 = (permB n p && permB n q && permB n r) := by
  have lp := hp.len
  have lq := hq.len
  have lr := hr.len
  have e0 : ((p ++ q ++ r).drop (0 * 10)).take 10 = p := by simp [lp, List.take_append]
  have e1 : ((p ++ q ++ r).drop (1 * 10)).take 10 = q := by simp [lp, lq, List.take_append, List.drop_append]
  have e2 : ((p ++ q ++ r).drop (2 * 10)).take 10 = r := by
    have hpq : (p ++ q).length = 2 * 10 := by rw [List.length_append]; omega
    rw [List.drop_left' hpq, List.take_of_length_le (by omega)]
  rw [Bool.eq_iff_iff, areB_iff]
  simp only [Bool.and_eq_true, permB_iff]
  constructor
  · rintro ⟨_, h⟩
    have h0 := h 0 (by omega)
    have h1 := h 1 (by omega)
    have h2 := h 2 (by omega)
    rw [e0] at h0
    rw [e1] at h1
    rw [e2] at h2
    exact ⟨⟨h0, h1⟩, h2⟩
  · rintro ⟨⟨h0, h1⟩, h2⟩
    refine ⟨⟨h0.1, h0.2.1⟩, fun i hi => ?_⟩
    match i, hi with
    | 0, _ => rw [e0]; exact h0
    | 1, _ => rw [e1]; exact h1
    | 2, _ => rw [e2]; exact h2
theorem bytes_app {j k : Nat} {a b : List Int} (ha : Bytes j a) (hb : Bytes k b) : Bytes (j + k) (a ++ b) :=
  ⟨by simp [ha.len, hb.len], fun i => by
    have e : (a ++ b).getD i 0 = if i < j then a.getD i 0 else b.getD (i - j) 0 := by
      have := ha.len
      by_cases h : i < j
      · rw [if_pos h]; simp [List.getElem?_append_left (show i < a.length by omega)]
      · rw [if_neg h]; simp [List.getElem?_append_right (show a.length ≤ i by omega), this]
    rw [e]; split
    · exact ha.rng i
    · exact hb.rng _⟩
end Go.Proofs.Ytoccbgffekhcaaa
