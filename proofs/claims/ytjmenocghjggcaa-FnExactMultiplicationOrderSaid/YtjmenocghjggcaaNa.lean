/-
Contracts of functions of the given program, by the abstract walk.
-/
import Derived.Test.YtjmenocghjggcaaAbsY
import Derived.Test.YtjmenocghjggcaaCc
namespace Go.Proofs.Ytjmenocghjggcaa
open Go Go.Abs
set_option linter.unusedVariables false
set_option linter.unusedSectionVars false
set_option linter.unusedSimpArgs false
set_option maxRecDepth 100000
/-! least congruences, as label maps -/
def upd (c : Nat → Nat) (i v : Nat) : Nat → Nat := fun j => if j = i then v else c j
/-- the least congruence that has some pairs -/
inductive Cg (N : Nat) (f : Nat → Nat → Nat) (S : Nat → Nat → Prop) : Nat → Nat → Prop
  | base {a b} : S a b → Cg N f S a b
  | refl {a} : Cg N f S a a
  | symm {a b} : Cg N f S a b → Cg N f S b a
  | trans {a b c} : Cg N f S a b → Cg N f S b c → Cg N f S a c
  | mulL {a b z} : z < N → Cg N f S a b → Cg N f S (f a z) (f b z)
  | mulR {a b z} : z < N → Cg N f S a b → Cg N f S (f z a) (f z b)
/-- what a label map is while classes are joined -/
structure Lab (N : Nat) (f : Nat → Nat → Nat) (S : Nat → Nat → Prop) (c : Nat → Nat) : Prop where
  lt : ∀ i, i < N → c i < N
  idem : ∀ i, i < N → c (c i) = c i
  sound : ∀ i, i < N → Cg N f S i (c i)
/-- and when all is done -/
structure LabOk (N : Nat) (f : Nat → Nat → Nat) (S : Nat → Nat → Prop) (c : Nat → Nat) : Prop extends Lab N f S c where
  has : ∀ a b, S a b → c a = c b
  mL : ∀ a z, a < N → z < N → c (f a z) = c (f (c a) z)
  mR : ∀ a z, a < N → z < N → c (f z a) = c (f z (c a))
theorem Lab.cg {N : Nat} {f : Nat → Nat → Nat} {S : Nat → Nat → Prop} {c : Nat → Nat} (h : Lab N f S c) {i j : Nat} (hi : i < N) (hj : j < N) (e : c i = c j) : Cg N f S i j :=
  .trans (h.sound i hi) (e ▸ .symm (h.sound j hj))
theorem Cg.dom {N : Nat} {f : Nat → Nat → Nat} {S : Nat → Nat → Prop} (hS : ∀ a b, S a b → a < N ∧ b < N) (hf : ∀ a b, a < N → b < N → f a b < N) {i j : Nat} (h : Cg N f S i j) : i = j ∨ (i < N ∧ j < N) := by
  induction h with
  | base h => exact .inr (hS _ _ h)
  | refl => exact .inl rfl
  | symm _ ih => rcases ih with ih | ih
                 · exact .inl ih.symm
                 · exact .inr ⟨ih.2, ih.1⟩
  | trans _ _ i1 i2 => rcases i1 with i1 | i1
                       · subst i1; exact i2
                       · rcases i2 with i2 | i2
                         · subst i2; exact .inr i1
                         · exact .inr ⟨i1.1, i2.2⟩
  | mulL hz _ ih => rcases ih with ih | ih
                    · exact .inl (by rw [ih])
                    · exact .inr ⟨hf _ _ ih.1 hz, hf _ _ ih.2 hz⟩
  | mulR hz _ ih => rcases ih with ih | ih
                    · exact .inl (by rw [ih])
                    · exact .inr ⟨hf _ _ hz ih.1, hf _ _ hz ih.2⟩
theorem LabOk.eq {N : Nat} {f : Nat → Nat → Nat} {S : Nat → Nat → Prop} {c : Nat → Nat} (h : LabOk N f S c) (hS : ∀ a b, S a b → a < N ∧ b < N) (hf : ∀ a b, a < N → b < N → f a b < N) {i j : Nat} (e : Cg N f S i j) : c i = c j := by
  induction e with
  | base e => exact h.has _ _ e
  | refl => rfl
  | symm _ ih => exact ih.symm
  | trans _ _ i1 i2 => exact i1.trans i2
  | mulL hz e ih =>
    rcases e.dom hS hf with e | e
    · rw [e]
    · rw [h.mL _ _ e.1 hz, ih, ← h.mL _ _ e.2 hz]
  | mulR hz e ih =>
    rcases e.dom hS hf with e | e
    · rw [e]
    · rw [h.mR _ _ e.1 hz, ih, ← h.mR _ _ e.2 hz]
theorem LabOk.iff {N : Nat} {f : Nat → Nat → Nat} {S : Nat → Nat → Prop} {c : Nat → Nat} (h : LabOk N f S c) (hS : ∀ a b, S a b → a < N ∧ b < N) (hf : ∀ a b, a < N → b < N → f a b < N) {i j : Nat} (hi : i < N) (hj : j < N) : c i = c j ↔ Cg N f S i j :=
  ⟨fun e => h.cg hi hj e, fun e => h.eq hS hf e⟩
/-! joining two numbers, by the lesser label -/
def joinF (c : Nat → Nat) (x y : Nat) : Nat → Nat := fun i => if c i = max (c x) (c y) then min (c x) (c y) else c i
theorem joinF_same {c : Nat → Nat} {x y : Nat} (h : c x = c y) : joinF c x y = c := by
  funext i; unfold joinF; rw [h, Nat.max_self, Nat.min_self]
  split
  · rename_i h; exact h.symm
  · rfl
theorem joinF_le {c : Nat → Nat} {x y i : Nat} : joinF c x y i ≤ c i := by unfold joinF; split <;> omega
theorem joinF_lab {N : Nat} {f : Nat → Nat → Nat} {S : Nat → Nat → Prop} {c : Nat → Nat} (h : Lab N f S c) {x y : Nat} (hx : x < N) (hy : y < N) (hxy : Cg N f S x y) : Lab N f S (joinF c x y) := by
  have hcx := h.idem x hx
  have hcy := h.idem y hy
  have lx := h.lt x hx
  have ly := h.lt y hy
  have hg : Cg N f S (c x) (c y) := .trans (.symm (h.sound x hx)) (.trans hxy (h.sound y hy))
  have hmax : Cg N f S (max (c x) (c y)) (min (c x) (c y)) := by
    rcases Nat.le_total (c x) (c y) with e | e
    · rw [Nat.max_eq_right e, Nat.min_eq_left e]; exact .symm hg
    · rw [Nat.max_eq_left e, Nat.min_eq_right e]; exact hg
  refine ⟨fun i hi => Nat.lt_of_le_of_lt joinF_le (h.lt i hi), fun i hi => ?_, fun i hi => ?_⟩
  · by_cases e0 : c x = c y
    · rw [joinF_same e0]; exact h.idem i hi
    have hm : c (min (c x) (c y)) = min (c x) (c y) := by
      rcases Nat.le_total (c x) (c y) with e | e
      · rw [Nat.min_eq_left e]; exact hcx
      · rw [Nat.min_eq_right e]; exact hcy
    unfold joinF
    by_cases e : c i = max (c x) (c y)
    · rw [if_pos e, hm]
      split <;> omega
    · rw [if_neg e, h.idem i hi, if_neg e]
  · unfold joinF
    split
    · rename_i e
      refine .trans (h.sound i hi) ?_
      rw [e]; exact hmax
    · exact h.sound i hi
/-! a measure -/
def sumF (c : Nat → Nat) : Nat → Nat
  | 0 => 0
  | n + 1 => sumF c n + c n
theorem sumF_le {c d : Nat → Nat} (h : ∀ i, c i ≤ d i) : ∀ {n}, sumF c n ≤ sumF d n
  | 0 => Nat.le_refl _
  | n + 1 => Nat.add_le_add (sumF_le h) (h n)
theorem sumF_lt {c d : Nat → Nat} (h : ∀ i, c i ≤ d i) {x : Nat} (hx : c x < d x) : ∀ {n}, x < n → sumF c n < sumF d n
  | 0, hn => absurd hn (by omega)
  | n + 1, hn => by
    have h1 := sumF_le h (n := n)
    have h2 := h n
    unfold sumF
    by_cases e : x = n
    · subst e; omega
    · have := sumF_lt h hx (n := n) (by omega); omega
theorem joinF_lt {c : Nat → Nat} {x y n : Nat} (hx : x < n) (hy : y < n) (h : c x ≠ c y) : sumF (joinF c x y) n < sumF c n := by
  rcases Nat.lt_or_ge (c x) (c y) with e | e
  · refine sumF_lt (fun i => joinF_le) (x := y) ?_ hy
    unfold joinF; rw [if_pos (by omega)]; omega
  · refine sumF_lt (fun i => joinF_le) (x := x) ?_ hx
    unfold joinF; rw [if_pos (by omega)]; omega
/-! least labels -/
theorem joinF_min {c : Nat → Nat} {x y : Nat} (h : ∀ i, c i ≤ i) : ∀ i, joinF c x y i ≤ i := fun i => Nat.le_trans joinF_le (h i)
/-! the other way: the label of the second becomes that of the first, and the pairs that follow wait -/
def mergeF (c : Nat → Nat) (a b : Nat) : Nat → Nat := fun i => if c i = b then a else c i
def Waits (N : Nat) (f : Nat → Nat → Nat) (P : List (Nat × Nat)) (c : Nat → Nat) : Prop :=
  ∀ d : Nat → Nat, (∀ p ∈ P, d p.1 = d p.2) → ∀ i z, i < N → z < N → d (f i z) = d (f (c i) z) ∧ d (f z i) = d (f z (c i))
def trans2 (f : Nat → Nat → Nat) (x y : Nat) : Nat → List (Nat × Nat)
  | 0 => []
  | z + 1 => trans2 f x y z ++ [(f x z, f y z), (f z x, f z y)]
theorem trans2_len {f : Nat → Nat → Nat} {x y : Nat} : ∀ {z}, (trans2 f x y z).length = 2 * z
  | 0 => rfl
  | z + 1 => by rw [trans2, List.length_append, trans2_len]; simp; omega
theorem trans2_has {f : Nat → Nat → Nat} {x y z : Nat} : ∀ {n}, z < n → (f x z, f y z) ∈ trans2 f x y n ∧ (f z x, f z y) ∈ trans2 f x y n
  | 0, h => absurd h (by omega)
  | n + 1, h => by
    by_cases e : z = n
    · subst e; simp [trans2]
    · have := trans2_has (f := f) (x := x) (y := y) (n := n) (z := z) (by omega)
      simp [trans2, this]
theorem trans2_all {f : Nat → Nat → Nat} {x y : Nat} {Q : Nat × Nat → Prop} (h : ∀ z, Q (f x z, f y z) ∧ Q (f z x, f z y)) : ∀ {n}, (∀ p ∈ trans2 f x y n, Q p)
  | 0 => fun _ h => by simp [trans2] at h
  | n + 1 => fun p hp => by
    simp only [trans2, List.mem_append, List.mem_cons, List.not_mem_nil, or_false] at hp
    rcases hp with hp | rfl | rfl
    · exact trans2_all h p hp
    · exact (h n).1
    · exact (h n).2
theorem trans2_all' {f : Nat → Nat → Nat} {x y : Nat} {Q : Nat × Nat → Prop} : ∀ {n}, (∀ z, z < n → Q (f x z, f y z) ∧ Q (f z x, f z y)) → (∀ p ∈ trans2 f x y n, Q p)
  | 0, _ => fun _ h => by simp [trans2] at h
  | n + 1, h => fun p hp => by
    simp only [trans2, List.mem_append, List.mem_cons, List.not_mem_nil, or_false] at hp
    rcases hp with hp | rfl | rfl
    · exact trans2_all' (fun z hz => h z (by omega)) p hp
    · exact (h n (by omega)).1
    · exact (h n (by omega)).2
theorem Waits.merge {N : Nat} {f : Nat → Nat → Nat} {P : List (Nat × Nat)} {c : Nat → Nat} (h : Waits N f P c) {x y : Nat} (hx : x < N) (hy : y < N) : Waits N f (P ++ trans2 f x y N) (mergeF c (c x) (c y)) := by
  intro d hd i z hi hz
  have hP : ∀ p ∈ P, d p.1 = d p.2 := fun p hp => hd p (List.mem_append_left _ hp)
  have h0 := h d hP
  obtain ⟨t1, t2⟩ := trans2_has (f := f) (x := x) (y := y) (n := N) hz
  have u1 := hd _ (List.mem_append_right P t1)
  have u2 := hd _ (List.mem_append_right P t2)
  simp only at u1 u2
  obtain ⟨a1, a2⟩ := h0 i z hi hz
  obtain ⟨b1, b2⟩ := h0 x z hx hz
  obtain ⟨c1, c2⟩ := h0 y z hy hz
  unfold mergeF
  split
  · rename_i e
    rw [e] at a1 a2
    exact ⟨by rw [a1, ← c1, ← u1, b1], by rw [a2, ← c2, ← u2, b2]⟩
  · exact ⟨a1, a2⟩
theorem mergeF_lab {N : Nat} {f : Nat → Nat → Nat} {S : Nat → Nat → Prop} {c : Nat → Nat} (h : Lab N f S c) {x y : Nat} (hx : x < N) (hy : y < N) (hxy : Cg N f S x y) (hne : c x ≠ c y) : Lab N f S (mergeF c (c x) (c y)) := by
  refine ⟨fun i hi => ?_, fun i hi => ?_, fun i hi => ?_⟩
  · unfold mergeF; split
    · exact h.lt x hx
    · exact h.lt i hi
  · unfold mergeF
    by_cases e : c i = c y
    · rw [if_pos e, h.idem x hx, if_neg hne]
    · rw [if_neg e, h.idem i hi, if_neg e]
  · unfold mergeF
    split
    · rename_i e
      exact .trans (h.sound i hi) (e ▸ .trans (.symm (h.sound y hy)) (.trans (.symm hxy) (h.sound x hx)))
    · exact h.sound i hi
theorem mergeF_keep {c : Nat → Nat} {a b u v : Nat} (h : c u = c v) : mergeF c a b u = mergeF c a b v := by unfold mergeF; rw [h]
theorem mergeF_now {c : Nat → Nat} {x y : Nat} : mergeF c (c x) (c y) x = mergeF c (c x) (c y) y := by
  unfold mergeF; rw [if_pos (rfl : c y = c y)]; split <;> rfl
/-- how many labels are in use -/
def used (c : Nat → Nat) (n v : Nat) : Bool := (List.range n).any fun i => c i == v
def cntB (p : Nat → Bool) : Nat → Nat
  | 0 => 0
  | n + 1 => cntB p n + (if p n then 1 else 0)
theorem cntB_le {p q : Nat → Bool} (h : ∀ i, p i = true → q i = true) : ∀ {n}, cntB p n ≤ cntB q n
  | 0 => Nat.le_refl _
  | n + 1 => by
    have := cntB_le h (n := n)
    unfold cntB
    by_cases e : p n = true
    · rw [if_pos e, if_pos (h n e)]; omega
    · rw [if_neg e]; omega
theorem cntB_lt {p q : Nat → Bool} (h : ∀ i, p i = true → q i = true) {x : Nat} (h1 : p x = false) (h2 : q x = true) : ∀ {n}, x < n → cntB p n < cntB q n
  | 0, hn => absurd hn (by omega)
  | n + 1, hn => by
    have h3 := cntB_le h (n := n)
    unfold cntB
    by_cases e : x = n
    · subst e; rw [if_neg (by simp [h1]), if_pos h2]; omega
    · have := cntB_lt h h1 h2 (n := n) (by omega)
      by_cases e : p n = true
      · rw [if_pos e, if_pos (h n e)]; omega
      · rw [if_neg e]; omega
theorem cntB_max {p : Nat → Bool} : ∀ {n}, cntB p n ≤ n
  | 0 => Nat.le_refl _
  | n + 1 => by have := cntB_max (p := p) (n := n); unfold cntB; split <;> omega
theorem used_iff {c : Nat → Nat} {n v : Nat} : used c n v = true ↔ ∃ i, i < n ∧ c i = v := by simp [used]
theorem mergeF_cnt {N : Nat} {f : Nat → Nat → Nat} {S : Nat → Nat → Prop} {c : Nat → Nat} (h : Lab N f S c) {x y : Nat} (hx : x < N) (hy : y < N) (hne : c x ≠ c y) : cntB (used (mergeF c (c x) (c y)) N) N < cntB (used c N) N := by
  refine cntB_lt (x := c y) (fun v hv => ?_) ?_ (used_iff.2 ⟨y, hy, rfl⟩) (h.lt y hy)
  · obtain ⟨i, hi, e⟩ := used_iff.1 hv
    unfold mergeF at e
    split at e
    · exact used_iff.2 ⟨x, hx, e⟩
    · exact used_iff.2 ⟨i, hi, e⟩
  · cases e : used (mergeF c (c x) (c y)) N (c y)
    · rfl
    · obtain ⟨i, hi, e⟩ := used_iff.1 e
      unfold mergeF at e
      split at e
      · exact absurd e hne
      · rename_i e2; exact absurd e e2
theorem merge_done {N : Nat} {f : Nat → Nat → Nat} {S : Nat → Nat → Prop} {P : List (Nat × Nat)} {c : Nat → Nat} (h : Lab N f S c) (hw : Waits N f P c) (hP : ∀ p ∈ P, c p.1 = c p.2) (hS : ∀ a b, S a b → (a, b) ∈ P) : LabOk N f S c :=
  { h with has := fun a b e => hP (a, b) (hS a b e), mL := fun a z ha hz => (hw c hP a z ha hz).1, mR := fun a z ha hz => (hw c hP a z ha hz).2 }
theorem waits_id {N : Nat} {f : Nat → Nat → Nat} {P : List (Nat × Nat)} {c : Nat → Nat} (h : ∀ i, i < N → c i = i) : Waits N f P c := fun d _ i z hi hz => by rw [h i hi]; exact ⟨rfl, rfl⟩
theorem lab_id {N : Nat} {f : Nat → Nat → Nat} {S : Nat → Nat → Prop} {c : Nat → Nat} (h : ∀ i, i < N → c i = i) : Lab N f S c :=
  ⟨fun i hi => by rw [h i hi]; exact hi, fun i hi => by rw [h i hi, h i hi], fun i hi => by rw [h i hi]; exact .refl⟩
/-! the classes as lists -/
def clsRow (e : Nat → Nat → Bool) (x : Nat) : Nat → List Int
  | 0 => []
  | y + 1 => if e x y then clsRow e x y ++ [(y : Int)] else clsRow e x y
def clsNew (e : Nat → Nat → Bool) (x : Nat) : Bool := !(List.range x).any fun i => e i x
def clsL (e : Nat → Nat → Bool) (N : Nat) : Nat → List (List Int)
  | 0 => []
  | x + 1 => if clsNew e x then clsL e N x ++ [clsRow e x N] else clsL e N x
theorem clsRow_congr {e e' : Nat → Nat → Bool} {x : Nat} : ∀ {n}, (∀ y, y < n → e x y = e' x y) → clsRow e x n = clsRow e' x n
  | 0, _ => rfl
  | n + 1, h => by unfold clsRow; rw [h n (by omega), clsRow_congr fun y hy => h y (by omega)]
theorem clsNew_congr {e e' : Nat → Nat → Bool} {x : Nat} (h : ∀ y, y < x → e y x = e' y x) : clsNew e x = clsNew e' x := by
  unfold clsNew
  congr 1
  rw [Bool.eq_iff_iff, List.any_eq_true, List.any_eq_true]
  constructor
  · rintro ⟨i, hi, e⟩; exact ⟨i, hi, by rw [← h i (by simpa using hi)]; exact e⟩
  · rintro ⟨i, hi, e⟩; exact ⟨i, hi, by rw [h i (by simpa using hi)]; exact e⟩
theorem clsL_congr {e e' : Nat → Nat → Bool} {N : Nat} (h : ∀ x y, x < N → y < N → e x y = e' x y) : ∀ {n}, n ≤ N → clsL e N n = clsL e' N n
  | 0, _ => rfl
  | n + 1, hn => by
    unfold clsL
    rw [clsNew_congr fun y hy => h y n (by omega) (by omega), clsRow_congr fun y hy => h n y (by omega) (by omega), clsL_congr h (n := n) (by omega)]
/-- by labels: the row of the label x -/
def labRow (c : Nat → Nat) (x : Nat) : Nat → List Int
  | 0 => []
  | y + 1 => if c y = x then labRow c x y ++ [(y : Int)] else labRow c x y
def labL (c : Nat → Nat) (N : Nat) : Nat → List (List Int)
  | 0 => []
  | x + 1 => if (labRow c x N).length = 0 then labL c N x else labL c N x ++ [labRow c x N]
theorem labRow_eq {c : Nat → Nat} {x : Nat} (h : c x = x) : ∀ {n}, labRow c x n = clsRow (fun i j => c i == c j) x n
  | 0 => rfl
  | n + 1 => by
    unfold labRow clsRow
    rw [labRow_eq h]
    by_cases e : c n = x
    · rw [if_pos e, if_pos (by simp [h, e])]
    · rw [if_neg e, if_neg (by simp [h]; exact fun a => e a.symm)]
theorem labRow_nil {c : Nat → Nat} {x : Nat} : ∀ {n}, (∀ y, y < n → c y ≠ x) → labRow c x n = []
  | 0, _ => rfl
  | n + 1, h => by unfold labRow; rw [if_neg (h n (by omega)), labRow_nil fun y hy => h y (by omega)]
theorem labRow_pos {c : Nat → Nat} {x : Nat} : ∀ {n}, (∃ y, y < n ∧ c y = x) → (labRow c x n).length ≠ 0
  | 0, h => by obtain ⟨y, h, _⟩ := h; omega
  | n + 1, ⟨y, hy, e⟩ => by
    unfold labRow
    by_cases e2 : c n = x
    · rw [if_pos e2]; simp
    · rw [if_neg e2]
      refine labRow_pos ⟨y, ?_, e⟩
      have : y ≠ n := fun e3 => e2 (e3 ▸ e)
      omega
theorem labL_eq {c : Nat → Nat} {N : Nat} (hm : ∀ i, i < N → c i ≤ i) (hi : ∀ i, i < N → c (c i) = c i) : ∀ {n}, n ≤ N → labL c N n = clsL (fun i j => c i == c j) N n
  | 0, _ => rfl
  | n + 1, hn => by
    unfold labL clsL
    rw [labL_eq hm hi (n := n) (by omega)]
    by_cases e : c n = n
    · rw [if_neg (labRow_pos ⟨n, by omega, e⟩), if_pos, labRow_eq e]
      unfold clsNew
      rw [Bool.not_eq_true', Bool.eq_false_iff]
      intro h
      obtain ⟨i, h1, h2⟩ := List.any_eq_true.1 h
      have h1 : i < n := by simpa using h1
      have h2 : c i = c n := by simpa using h2
      have := hm i (by omega)
      omega
    · have hr : labRow c n N = [] := labRow_nil fun y hy e2 => e (by rw [← e2]; exact hi y hy)
      rw [hr, if_pos (show ([] : List Int).length = 0 from rfl), if_neg]
      unfold clsNew
      rw [Bool.not_eq_true', Bool.not_eq_false]
      have h1 := hm n (by omega)
      refine List.any_eq_true.2 ⟨c n, ?_, ?_⟩
      · simp; omega
      · simp [hi n (by omega)]
theorem clsRow_mem {e : Nat → Nat → Bool} {x : Nat} {v : Int} : ∀ {n}, v ∈ clsRow e x n ↔ ∃ y : Nat, v = y ∧ y < n ∧ e x y = true
  | 0 => by simp [clsRow]
  | n + 1 => by
    unfold clsRow
    split
    · rename_i h
      rw [List.mem_append, clsRow_mem]
      constructor
      · rintro (⟨y, a, b, c⟩ | h1)
        · exact ⟨y, a, by omega, c⟩
        · exact ⟨n, by simpa using h1, by omega, h⟩
      · rintro ⟨y, a, b, c⟩
        by_cases e : y = n
        · right; subst e; simpa using a
        · left; exact ⟨y, a, by omega, c⟩
    · rename_i h
      rw [clsRow_mem]
      constructor
      · rintro ⟨y, a, b, c⟩; exact ⟨y, a, by omega, c⟩
      · rintro ⟨y, a, b, c⟩
        refine ⟨y, a, ?_, c⟩
        have : y ≠ n := fun e => h (e ▸ c)
        omega
theorem clsRow_len {e : Nat → Nat → Bool} {x : Nat} : ∀ {n}, (clsRow e x n).length ≤ n
  | 0 => Nat.le_refl _
  | n + 1 => by
    have := clsRow_len (e := e) (x := x) (n := n)
    unfold clsRow; split
    · simp; omega
    · omega
/-- nothing of a class stands before its first element -/
theorem clsRow_from {e : Nat → Nat → Bool} {x : Nat} : ∀ {n}, n ≤ x → (∀ y, y < x → e x y = false) → clsRow e x n = []
  | 0, _, _ => rfl
  | n + 1, hn, h => by unfold clsRow; rw [if_neg (by simp [h n (by omega)]), clsRow_from (by omega) h]

end Go.Proofs.Ytjmenocghjggcaa
