/-
Contracts of functions of the given program, by the abstract walk.
-/
import Derived.Test.YtjmenocghjggcaaAbsY
import Derived.Test.YtjmenocghjggcaaOa
namespace Go.Proofs.Ytjmenocghjggcaa
open Go Go.Abs
set_option linter.unusedVariables false
set_option linter.unusedSectionVars false
set_option linter.unusedSimpArgs false
set_option maxRecDepth 100000
/-! mates: the marks, plain -/
/-- marks with any numbers: f i at the places of the i-th -/
def grF (N : Nat) (f : Nat → Int) (tk : List (List Int)) : List Int := (List.range tk.length).foldl (fun g i => mkA (tk.getD i []) (f i) g N) (List.replicate 100 0)
theorem grF_snoc {N : Nat} {f : Nat → Int} {tk : List (List Int)} {p : List Int} : grF N f (tk ++ [p]) = mkA p (f tk.length) (grF N f tk) N := by
  unfold grF
  rw [List.length_append, List.length_cons, List.length_nil, List.range_succ, List.foldl_append]
  simp only [List.foldl_cons, List.foldl_nil]
  have e : (tk ++ [p]).getD tk.length [] = p := by simp
  rw [e]
  congr 1
  have key : ∀ (l : List Nat) (g : List Int), (∀ i ∈ l, i < tk.length) → l.foldl (fun g i => mkA ((tk ++ [p]).getD i []) (f i) g N) g = l.foldl (fun g i => mkA (tk.getD i []) (f i) g N) g := by
    intro l
    induction l with
    | nil => intro g _; rfl
    | cons a l ih =>
      intro g h
      have ha := h a (by simp)
      have ea : (tk ++ [p]).getD a [] = tk.getD a [] := by
        rw [List.getD_eq_getElem?_getD, List.getElem?_append_left ha, ← List.getD_eq_getElem?_getD]
      simp only [List.foldl_cons]
      rw [ea]
      exact ih _ fun i hi => h i (by simp [hi])
  exact key _ _ fun i hi => by simpa using hi
theorem grF_len {N : Nat} {f : Nat → Int} {tk : List (List Int)} : (grF N f tk).length = 100 := by
  unfold grF
  have key : ∀ (l : List Nat) (g : List Int), (l.foldl (fun g i => mkA (tk.getD i []) (f i) g N) g).length = g.length := by
    intro l
    induction l with
    | nil => intro g; rfl
    | cons a l ih => intro g; rw [List.foldl_cons, ih, mkA_len]
  rw [key]; simp
theorem grd_F {N : Nat} {tk : List (List Int)} : grd N tk = grF N (fun i => (i : Int) + 1) tk := rfl
/-- the first k of what is taken -/
theorem grF_take {N : Nat} {f : Nat → Int} {tk : List (List Int)} {k : Nat} (h : k < tk.length) : grF N f (tk.take (k + 1)) = mkA (tk.getD k []) (f k) (grF N f (tk.take k)) N := by
  rw [List.take_succ_eq_append_getElem h, grF_snoc, List.length_take, Nat.min_eq_left (by omega)]
  congr 1; simp [h]
theorem Tkn.take {N : Nat} {tk : List (List Int)} (h : Tkn N tk) (k : Nat) : Tkn N (tk.take k) :=
  ⟨fun p hp => h.pl p (List.mem_of_mem_take hp), h.dis.sublist (List.take_sublist k tk)⟩
theorem grF_get {N : Nat} {f : Nat → Int} (hN : N ≤ 10) {tk : List (List Int)} (h : Tkn N tk) {i j : Nat} (hj : j < 10) : ∀ {k}, k ≤ tk.length →
    ((∀ a, a < k → ¬ (i < N ∧ (tk.getD a []).getD i 0 = (j : Int))) → (grF N f (tk.take k)).getD (i * 10 + j) 0 = 0) ∧ (∀ a, a < k → i < N → (tk.getD a []).getD i 0 = (j : Int) → (grF N f (tk.take k)).getD (i * 10 + j) 0 = f a)
  | 0, _ => ⟨fun _ => by simp only [List.take_zero, grF, List.length_nil, List.range_zero, List.foldl_nil]; exact getD_rep0, fun a ha => absurd ha (by omega)⟩
  | k + 1, hk => by
    have ih := grF_get (f := f) hN h (i := i) hj (k := k) (by omega)
    have hp : PlN N (tk.getD k []) := h.pl _ (by simp [show k < tk.length by omega])
    rw [grF_take (by omega)]
    have e := mkA_get (v := f k) hp hN (grF_len (N := N) (f := f) (tk := tk.take k)) (i := i) hj (Nat.le_refl N)
    refine ⟨fun hno => ?_, fun a ha hi ea => ?_⟩
    · rw [e, if_neg (hno k (by omega))]
      exact ih.1 fun a ha => hno a (by omega)
    · rw [e]
      by_cases hak : a = k
      · subst hak; rw [if_pos ⟨hi, ea⟩]
      · have hlt : a < k := by omega
        rw [if_neg, ih.2 a hlt hi ea]
        rintro ⟨_, ek⟩
        have hd := (List.pairwise_iff_getElem.1 h.dis) a k (by omega) (by omega) hlt
        have : meetB N tk[a] tk[k] = true := meetB_iff.2 ⟨i, hi, by
          have e1 : tk.getD a [] = tk[a] := by simp [show a < tk.length by omega]
          have e2 : tk.getD k [] = tk[k] := by simp [show k < tk.length by omega]
          rw [← e1, ← e2, ea, ek]⟩
        rw [this] at hd; cases hd
theorem grF_all {N : Nat} {f : Nat → Int} (hN : N ≤ 10) {tk : List (List Int)} (h : Tkn N tk) {i j : Nat} (hj : j < 10) :
    ((∀ a, a < tk.length → ¬ (i < N ∧ (tk.getD a []).getD i 0 = (j : Int))) → (grF N f tk).getD (i * 10 + j) 0 = 0) ∧ (∀ a, a < tk.length → i < N → (tk.getD a []).getD i 0 = (j : Int) → (grF N f tk).getD (i * 10 + j) 0 = f a) := by
  have := grF_get (f := f) hN h (i := i) hj (Nat.le_refl tk.length)
  rwa [List.take_length] at this
/-- a transversal fits exactly if it meets none -/
theorem fits_iff {N : Nat} (hN : N ≤ 10) {tk : List (List Int)} (h : Tkn N tk) {p : List Int} (hp : PlN N p) : (∀ x, x < N → (grd N tk).getD (x * 10 + (p.getD x 0).toNat) 0 = 0) ↔ ¬ tk.any (fun q => meetB N p q) = true := by
  constructor
  · intro hz hm
    obtain ⟨q, hq, hmq⟩ := List.any_eq_true.1 hm
    obtain ⟨i, hi, e⟩ := meetB_iff.1 hmq
    obtain ⟨y, hy, ey⟩ := hp.2 i hi
    obtain ⟨a, ha, rfl⟩ := List.getElem_of_mem hq
    have h0 := hz i hi
    have e2 : tk.getD a [] = tk[a] := by simp [ha]
    have h1 := (grF_all (f := fun i => (i : Int) + 1) hN h (i := i) (j := y) (by omega)).2 a ha hi (by rw [e2, ← e, ey])
    rw [show (p.getD i 0).toNat = y by omega, grd_F, h1] at h0
    omega
  · intro hm x hx
    obtain ⟨y, hy, ey⟩ := hp.2 x hx
    rw [show (p.getD x 0).toNat = y by omega, grd_F]
    refine (grF_all hN h (by omega)).1 fun a ha hh => hm (List.any_eq_true.2 ⟨tk[a], List.getElem_mem _, meetB_iff.2 ⟨x, hx, ?_⟩⟩)
    have e2 : tk.getD a [] = tk[a] := by simp [ha]
    rw [← e2, hh.2, ey]
/-- marking and unmarking -/
theorem unmark {N : Nat} (hN : N ≤ 10) {p g : List Int} {v : Int} (hp : PlN N p) (hg : g.length = 100) (hz : ∀ x, x < N → g.getD (x * 10 + (p.getD x 0).toNat) 0 = 0) : mkA p 0 (mkA p v g N) N = g := by
  refine ext_getD (by rw [mkA_len, mkA_len]) fun n hn => ?_
  rw [mkA_len, mkA_len, hg] at hn
  have e : n = n / 10 * 10 + n % 10 := by omega
  rw [e, mkA_get hp hN (by rw [mkA_len]; exact hg) (by omega) (Nat.le_refl N), mkA_get hp hN hg (by omega) (Nat.le_refl N)]
  by_cases h : n / 10 < N ∧ p.getD (n / 10) 0 = ((n % 10 : Nat) : Int)
  · rw [if_pos h]
    have := hz _ h.1
    rw [h.2, Int.toNat_natCast] at this
    exact this.symm
  · rw [if_neg h, if_neg h]
/-- N that do not meet cover every place -/
theorem cover {N : Nat} {tk : List (List Int)} (h : Tkn N tk) (hl : tk.length = N) {x y : Nat} (hx : x < N) (hy : y < N) : ∃ a, a < tk.length ∧ (tk.getD a []).getD x 0 = (y : Int) := by
  let f : Nat → Nat := fun a => ((tk.getD a []).getD x 0).toNat
  have hf : ∀ a, a < N → ∃ z : Nat, z < N ∧ (tk.getD a []).getD x 0 = z := fun a ha => (h.pl (tk.getD a []) (by simp [show a < tk.length by omega])).2 x hx
  have nd : ((List.range N).map f).Nodup := by
    rw [List.Nodup, List.pairwise_map]
    rw [List.pairwise_iff_getElem]
    intro a b ha hb hab
    simp only [List.length_range] at ha hb
    simp only [List.getElem_range]
    intro e
    obtain ⟨z1, _, e1⟩ := hf a ha
    obtain ⟨z2, _, e2⟩ := hf b hb
    have hd := (List.pairwise_iff_getElem.1 h.dis) a b (by omega) (by omega) hab
    have : meetB N tk[a] tk[b] = true := meetB_iff.2 ⟨x, hx, by
      have q1 : tk.getD a [] = tk[a] := by simp [show a < tk.length by omega]
      have q2 : tk.getD b [] = tk[b] := by simp [show b < tk.length by omega]
      have : ((tk.getD a []).getD x 0).toNat = ((tk.getD b []).getD x 0).toNat := e
      rw [← q1, ← q2, e1, e2]
      rw [e1, e2] at this
      have h3 : z1 = z2 := by simpa using this
      rw [h3]⟩
    rw [this] at hd; cases hd
  apply Decidable.byContradiction; intro hno
  have hsub : (y :: (List.range N).map f) ⊆ List.range N := by
    intro z hz
    rcases List.mem_cons.1 hz with rfl | hz
    · exact List.mem_range.2 hy
    · obtain ⟨a, ha, rfl⟩ := List.mem_map.1 hz
      obtain ⟨z, hz, e⟩ := hf a (List.mem_range.1 ha)
      exact List.mem_range.2 (by show ((tk.getD a []).getD x 0).toNat < N; omega)
  have hnd : (y :: (List.range N).map f).Nodup := by
    rw [List.nodup_cons]
    refine ⟨fun hm => ?_, nd⟩
    obtain ⟨a, ha, e⟩ := List.mem_map.1 hm
    have ha := List.mem_range.1 ha
    obtain ⟨z, hz, e2⟩ := hf a ha
    have e3 : ((tk.getD a []).getD x 0).toNat = y := e
    exact hno ⟨a, by omega, by omega⟩
  have := hnd.length_le_of_subset hsub
  rw [List.length_cons, List.length_map, List.length_range] at this
  omega
/-- the table that the reference writes: one less than the marks -/
def outR (N : Nat) (g : List Int) : List Int := (List.range 100).map fun n => if n / 10 < N ∧ n % 10 < N then g.getD n 0 - 1 else 0
theorem out_same {N : Nat} (hN : N ≤ 10) {tk : List (List Int)} (h : Tkn N tk) (hl : tk.length = N) : outR N (grd N tk) = grF N (fun i => (i : Int)) tk := by
  refine ext_getD (by rw [grF_len]; simp [outR]) fun n hn => ?_
  have hn : n < 100 := by simpa [outR] using hn
  have e : n = n / 10 * 10 + n % 10 := by omega
  have e1 : (outR N (grd N tk)).getD n 0 = if n / 10 < N ∧ n % 10 < N then (grd N tk).getD n 0 - 1 else 0 := by simp [outR, hn]
  rw [e1]
  by_cases hc : n / 10 < N ∧ n % 10 < N
  · rw [if_pos hc]
    obtain ⟨a, ha, ea⟩ := cover h hl hc.1 hc.2
    have g1 := (grF_all (f := fun i => (i : Int) + 1) hN h (i := n / 10) (j := n % 10) (by omega)).2 a ha hc.1 ea
    have g2 := (grF_all (f := fun i => (i : Int)) hN h (i := n / 10) (j := n % 10) (by omega)).2 a ha hc.1 ea
    rw [← e] at g1 g2
    rw [grd_F, g1, g2]; omega
  · rw [if_neg hc]
    have g2 := (grF_all (f := fun i => (i : Int)) hN h (i := n / 10) (j := n % 10) (by omega)).1 fun a ha hh => by
      obtain ⟨z, hz, ez⟩ := (h.pl (tk.getD a []) (by simp [ha])).2 _ hh.1
      rw [ez] at hh
      exact hc ⟨hh.1, by omega⟩
    rw [← e] at g2
    exact g2.symm

end Go.Proofs.Ytjmenocghjggcaa
