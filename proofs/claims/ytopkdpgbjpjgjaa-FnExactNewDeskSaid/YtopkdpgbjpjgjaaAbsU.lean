/-
Plain facts about permutations, as the contracts name them.
-/
import Derived.Test.YtopkdpgbjpjgjaaAbsT
namespace Go.Abs
open Go
set_option linter.unusedVariables false
set_option linter.unusedSectionVars false
set_option linter.unusedSimpArgs false
set_option linter.defProp false

theorem surj_of_inj : ∀ (n : Nat) (f : Nat → Nat), (∀ i, i < n → f i < n) → (∀ i j, i < n → j < n → f i = f j → i = j) → ∀ y, y < n → ∃ i, i < n ∧ f i = y
  | 0, _, _, _, y, hy => absurd hy (by omega)
  | n + 1, f, hb, hi, y, hy => by
    have hm := hb n (by omega)
    have key := surj_of_inj n (fun i => if f i = n then f n else f i)
      (fun i h => by
        have h1 := hb i (by omega)
        by_cases e : f i = n
        · simp only [e, if_true]
          have : f n ≠ n := fun e2 => absurd (hi i n (by omega) (by omega) (by omega)) (by omega)
          omega
        · simp only [e, if_false]; omega)
      (fun i j h1 h2 e => by
        by_cases e1 : f i = n <;> by_cases e2 : f j = n
        · exact hi i j (by omega) (by omega) (by omega)
        · simp only [e1, e2, if_true, if_false] at e
          exact absurd (hi n j (by omega) (by omega) e) (by omega)
        · simp only [e1, e2, if_true, if_false] at e
          exact absurd (hi i n (by omega) (by omega) e) (by omega)
        · simp only [e1, e2, if_false] at e
          exact hi i j (by omega) (by omega) e)
    by_cases hyn : y = f n
    · exact ⟨n, by omega, hyn.symm⟩
    · by_cases hy2 : y = n
      · subst hy2
        obtain ⟨i, h1, h2⟩ := key (f y) (by omega)
        by_cases e : f i = y
        · exact ⟨i, by omega, e⟩
        · simp only [e, if_false] at h2
          exact absurd (hi i y (by omega) (by omega) h2) (by omega)
      · obtain ⟨i, h1, h2⟩ := key y (by omega)
        by_cases e : f i = n
        · simp only [e, if_true] at h2; exact absurd h2.symm hyn
        · simp only [e, if_false] at h2; exact ⟨i, by omega, h2⟩

theorem inj_of_surj (n : Nat) (f : Nat → Nat) (hs : ∀ y, y < n → ∃ i, i < n ∧ f i = y) : ∀ i j, i < n → j < n → f i = f j → i = j := by
  have hc : ∀ y, ∃ i, y < n → i < n ∧ f i = y := fun y => by
    by_cases h : y < n
    · obtain ⟨i, hi⟩ := hs y h; exact ⟨i, fun _ => hi⟩
    · exact ⟨0, fun h' => absurd h' h⟩
  obtain ⟨g, hg⟩ := Classical.axiomOfChoice hc
  have hsg := surj_of_inj n g (fun i h => (hg i h).1) (fun i j h1 h2 e => by rw [← (hg i h1).2, ← (hg j h2).2, e])
  intro i j hi hj e
  obtain ⟨a, ha, rfl⟩ := hsg i hi
  obtain ⟨b, hb, rfl⟩ := hsg j hj
  rw [(hg a ha).2, (hg b hb).2] at e
  rw [e]

theorem mask_full {n : Nat} {f : Nat → Nat} (hb : ∀ i, i < n → f i < n) : mask f n = 2 ^ n - 1 ↔ ∀ i, i < n → ∀ j, j < i → f j ≠ f i := by
  constructor
  · intro h
    have hs : ∀ y, y < n → ∃ i, i < n ∧ f i = y := fun y hy => by
      rw [← mask_testBit (f := f), h, Nat.testBit_two_pow_sub_one]
      exact decide_eq_true hy
    intro i hi j hj e
    exact absurd (inj_of_surj n f hs j i (by omega) hi e) (by omega)
  · intro h
    have hi : ∀ i j, i < n → j < n → f i = f j → i = j := fun i j h1 h2 e => by
      rcases Nat.lt_trichotomy i j with h3 | h3 | h3
      · exact absurd e (h j h2 i h3)
      · exact h3
      · exact absurd e.symm (h i h1 j h3)
    have hs := surj_of_inj n f hb hi
    apply Nat.eq_of_testBit_eq
    intro y
    rw [Nat.testBit_two_pow_sub_one]
    by_cases hy : y < n
    · rw [mask_testBit.2 (hs y hy)]; exact (decide_eq_true hy).symm
    · rw [decide_eq_false hy]
      rw [Bool.eq_false_iff]
      intro ht
      obtain ⟨j, hj, e⟩ := mask_testBit.1 ht
      have := hb j hj
      omega

def pl (p : List Int) (i : Nat) : Nat := (p.getD i 0).toNat
theorem Bytes.place {k : Nat} {p : List Int} (h : Bytes k p) (i : Nat) : p.getD i 0 = (pl p i : Int) := by
  have := (h.rng i).1
  unfold Abs.pl; omega
theorem Bytes.place_lt {k : Nat} {p : List Int} (h : Bytes k p) (i : Nat) : pl p i < 256 := by
  have := (h.rng i).2
  unfold Abs.pl; omega

def permAt (N : Nat) (f : Nat → Nat) (i : Nat) : Prop := if i < N then f i < N ∧ ∀ j, j < i → f j ≠ f i else f i = 0
def PermF (N : Nat) (f : Nat → Nat) : Prop := ∀ i, i < 10 → permAt N f i
def PermP (n : Int) (p : List Int) : Prop := 1 ≤ n ∧ n ≤ 10 ∧ PermF n.toNat (pl p)
open Classical in
noncomputable def permB (n : Int) (p : List Int) : Bool := decide (PermP n p)
theorem permB_true {n : Int} {t : List Int} (h : PermP n t) : permB n t = true := by unfold permB; exact @decide_eq_true _ (_) h
theorem permB_false {n : Int} {t : List Int} (h : ¬PermP n t) : permB n t = false := by unfold permB; exact @decide_eq_false _ (_) h
theorem permB_iff {n : Int} {t : List Int} : permB n t = true ↔ PermP n t := by unfold permB; exact @decide_eq_true_iff _ (_)
theorem sqB_iff {n : Int} {t : List Int} : sqB n t = true ↔ SqP n t := by unfold sqB; exact @decide_eq_true_iff _ (_)

theorem getD_repf {n j : Nat} : (List.replicate n false).getD j false = false := by
  by_cases h : j < n <;> simp [h, List.getElem?_replicate]
theorem getD_rep0 {n j : Nat} : (List.replicate n (0 : Int)).getD j 0 = 0 := by
  by_cases h : j < n <;> simp [h, List.getElem?_replicate]
theorem getD_setb {a : List Bool} {i j : Nat} {v : Bool} (h : i < a.length) : (a.set i v).getD j false = if i = j then v else a.getD j false := by
  by_cases e : i = j
  · subst e; simp [h]
  · simp [e]

/-- A square is one whose rows and columns are permutations, and whose other cells are 0. -/
theorem SqP_iff {n : Int} {t : List Int} : SqP n t ↔ 1 ≤ n ∧ n ≤ 10 ∧ (∀ x, x < n.toNat → PermF n.toNat (cl t x) ∧ PermF n.toNat (fun y => cl t y x)) ∧ ∀ x, x < 10 → ¬ x < n.toNat → ∀ y, y < 10 → cl t x y = 0 ∧ cl t y x = 0 := by
  unfold SqP
  refine and_congr_right fun h1 => and_congr_right fun h2 => ?_
  have hN : n.toNat ≤ 10 := by omega
  generalize n.toNat = N at hN
  constructor
  · intro h
    refine ⟨fun x hx => ⟨fun y hy => ?_, fun y hy => ?_⟩, fun x hx hxn y hy => ⟨?_, ?_⟩⟩
    · have hr := (h x (by omega)).1
      have hf := ((h x (by omega)).2 hx).1
      unfold permAt
      have := hr y hy
      by_cases hyn : y < N
      · rw [if_pos ⟨hx, hyn⟩] at this
        rw [if_pos hyn]
        exact ⟨this.1, (mask_full fun i hi => by have := hr i (by omega); rw [if_pos ⟨hx, hi⟩] at this; exact this.1).1 hf y hyn⟩
      · rw [if_neg (by omega)] at this
        rw [if_neg hyn]; exact this
    · have hr := (h x (by omega)).1
      have hf := ((h x (by omega)).2 hx).2
      unfold permAt
      by_cases hyn : y < N
      · have := hr y hy
        rw [if_pos ⟨hx, hyn⟩] at this
        rw [if_pos hyn]
        exact ⟨this.2, (mask_full (f := fun y => cl t y x) fun i hi => by have := hr i (by omega); rw [if_pos ⟨hx, hi⟩] at this; exact this.2).1 hf y hyn⟩
      · rw [if_neg hyn]
        have := (h y hy).1 x (by omega)
        rw [if_neg (by omega)] at this; exact this
    · have := (h x hx).1 y hy
      rw [if_neg (by omega)] at this; exact this
    · have := (h y hy).1 x hx
      rw [if_neg (by omega)] at this; exact this
  · rintro ⟨ha, hb⟩ x hx
    refine ⟨fun y hy => ?_, fun hxn => ⟨?_, ?_⟩⟩
    · by_cases hc : x < N ∧ y < N
      · rw [if_pos hc]
        have h3 := (ha x hc.1).1 y hy
        have h4 := (ha x hc.1).2 y hy
        unfold permAt at h3 h4
        rw [if_pos hc.2] at h3 h4
        exact ⟨h3.1, h4.1⟩
      · rw [if_neg hc]
        by_cases hxn : x < N
        · have h3 := (ha x hxn).1 y hy
          unfold permAt at h3
          rw [if_neg (by omega)] at h3; exact h3
        · exact (hb x hx hxn y hy).1
    · refine (mask_full fun i hi => ?_).2 fun i hi => ?_
      · have h3 := (ha x hxn).1 i (by omega)
        unfold permAt at h3
        rw [if_pos hi] at h3; exact h3.1
      · have h3 := (ha x hxn).1 i (by omega)
        unfold permAt at h3
        rw [if_pos hi] at h3; exact h3.2
    · refine (mask_full (f := fun y => cl t y x) fun i hi => ?_).2 fun i hi => ?_
      · have h3 := (ha x hxn).2 i (by omega)
        unfold permAt at h3
        rw [if_pos hi] at h3; exact h3.1
      · have h3 := (ha x hxn).2 i (by omega)
        unfold permAt at h3
        rw [if_pos hi] at h3; exact h3.2
end Go.Abs
