/-
Contracts of functions of the given program, by the abstract walk.
-/
import Derived.Test.YtjmenocghjggcaaAbsY
import Derived.Test.YtjmenocghjggcaaWu
namespace Go.Proofs.Ytjmenocghjggcaa
open Go Go.Abs
set_option linter.unusedVariables false
set_option linter.unusedSectionVars false
set_option linter.unusedSimpArgs false
set_option maxRecDepth 100000
/-! linear algebra modulo p: the program's kernel, plain -/
/-- the kernel's row of the column c, the first i places told -/
def lsI (p : Int) (N : Nat) (P : LLs) (pi pl : List Nat) (c : Nat) : Nat → List Int
  | 0 => (List.replicate N 0).set c 1
  | i + 1 => (lsI p N P pi pl c i).set (pl.getD i 0) ((p - (at_ P (pi.getD i 0)).getD c 0).tmod p)
def kerI (p : Int) (N : Nat) (P : LLs) (pi pl : List Nat) : Nat → LLs
  | 0 => []
  | c + 1 => if c ∈ pl then kerI p N P pi pl c else kerI p N P pi pl c ++ [lsI p N P pi pl c pl.length]
theorem lsI_len {p : Int} {N : Nat} {P : LLs} {pi pl : List Nat} {c : Nat} : ∀ {i}, (lsI p N P pi pl c i).length = N
  | 0 => by simp [lsI]
  | i + 1 => by rw [lsI, List.length_set, lsI_len]
theorem lsI_rng {p : Int} {N : Nat} {P : LLs} {pi pl : List Nat} {c : Nat} (hp : PrP p) (hc : c < N) (hr : ∀ i, i < pl.length → RngP p (at_ P (pi.getD i 0))) : ∀ {i}, i ≤ pl.length → RngP p (lsI p N P pi pl c i)
  | 0, _ => fun j => by
    have hp2 := hp.le
    rw [lsI, getD_set_int (by simpa using hc)]
    split
    · omega
    · rw [getD_rep0]; omega
  | i + 1, hi => fun j => by
    have hp2 := hp.le
    have ih := lsI_rng hp hc hr (i := i) (by omega)
    have h1 := hr i (by omega) c
    rw [lsI]
    by_cases hl : pl.getD i 0 < (lsI p N P pi pl c i).length
    · rw [getD_set_int hl]
      split
      · have q1 := Int.tmod_nonneg p (show 0 ≤ p - (at_ P (pi.getD i 0)).getD c 0 by omega)
        have q2 := Int.tmod_lt_of_pos (p - (at_ P (pi.getD i 0)).getD c 0) (show 0 < p by omega)
        omega
      · exact ih j
    · rw [List.set_eq_of_length_le (by omega)]; exact ih j
theorem lsI_one {p : Int} {N : Nat} {P : LLs} {pi pl : List Nat} {c : Nat} (hc : c < N) (hn : c ∉ pl) : ∀ {i}, i ≤ pl.length → (lsI p N P pi pl c i).getD c 0 = 1
  | 0, _ => by rw [lsI, getD_set_int (by simpa using hc), if_pos rfl]
  | i + 1, hi => by
    have ih := lsI_one (p := p) (P := P) (pi := pi) hc hn (i := i) (by omega)
    have hne : pl.getD i 0 ≠ c := fun e => hn (by rw [← e, List.getD_eq_getElem?_getD, List.getElem?_eq_getElem (by omega)]; exact List.getElem_mem _)
    rw [lsI]
    by_cases hl : pl.getD i 0 < (lsI p N P pi pl c i).length
    · rw [getD_set_int hl, if_neg hne]; exact ih
    · rw [List.set_eq_of_length_le (by omega)]; exact ih
theorem kerI_len {p : Int} {N : Nat} {P : LLs} {pi pl : List Nat} : ∀ {c}, (kerI p N P pi pl c).length ≤ c
  | 0 => by simp [kerI]
  | c + 1 => by
    have := kerI_len (p := p) (N := N) (P := P) (pi := pi) (pl := pl) (c := c)
    rw [kerI]; split
    · omega
    · simp; omega
theorem kerI_mem {p : Int} {N : Nat} {P : LLs} {pi pl : List Nat} : ∀ {k} {a : List Int}, a ∈ kerI p N P pi pl k → ∃ c, c < k ∧ c ∉ pl ∧ a = lsI p N P pi pl c pl.length
  | 0, a, h => by simp [kerI] at h
  | k + 1, a, h => by
    rw [kerI] at h
    split at h
    · obtain ⟨c, h1, h2, h3⟩ := kerI_mem h; exact ⟨c, by omega, h2, h3⟩
    · rename_i hk
      rcases List.mem_append.1 h with h | h
      · obtain ⟨c, h1, h2, h3⟩ := kerI_mem h; exact ⟨c, by omega, h2, h3⟩
      · simp only [List.mem_singleton] at h; exact ⟨k, by omega, hk, h⟩
theorem kerI_nil {p : Int} {N : Nat} {P : LLs} {pi pl : List Nat} : ∀ {k}, kerI p N P pi pl k = [] ↔ ∀ c, c < k → c ∈ pl
  | 0 => by simp [kerI]
  | k + 1 => by
    rw [kerI]
    split
    · rename_i h
      rw [kerI_nil]
      exact ⟨fun hh c hc => by
        by_cases e : c = k
        · subst e; exact h
        · exact hh c (by omega), fun hh c hc => hh c (by omega)⟩
    · rename_i h
      constructor
      · intro e; simp at e
      · intro hh; exact absurd (hh k (by omega)) h
theorem kerI_mat {p : Int} {N : Nat} {P : LLs} {pi pl : List Nat} (hp : PrP p) (hr : ∀ i, i < pl.length → RngP p (at_ P (pi.getD i 0))) {k : Nat} (hk : k ≤ N) : Mat p N (kerI p N P pi pl k) := by
  refine ⟨fun a ha => ?_, fun a ha => ?_⟩
  · obtain ⟨c, _, _, rfl⟩ := kerI_mem ha; exact lsI_len
  · obtain ⟨c, hc, _, rfl⟩ := kerI_mem ha; exact lsI_rng hp (by omega) hr (Nat.le_refl _)
/-- the number of rows of the kernel's basis -/
def kerN (p : Int) (N : Nat) (E : LLs) : Nat :=
  (rdS p (kerI p N (rdS p N E N).1 (rdS p N E N).2.1 (rdS p N E N).2.2 N).length (kerI p N (rdS p N E N).1 (rdS p N E N).2.1 (rdS p N E N).2.2 N) N).2.2.length
theorem inc_all {N : Nat} {l : List Nat} (h : l.Pairwise (· < ·)) (hlt : ∀ x ∈ l, x < N) : (∀ c, c < N → c ∈ l) ↔ l.length = N := by
  have e : ∀ i (h : i < l.length), l.getD i 0 = l[i] := fun i h => by simp [h]
  have nd : l.Nodup := h.imp fun hab => Nat.ne_of_lt hab
  constructor
  · intro hall
    have h1 : (List.range N).Nodup := List.nodup_range
    have h2 : (List.range N).length ≤ l.length := h1.length_le_of_subset fun c hc => hall c (List.mem_range.1 hc)
    have h3 : l.length ≤ (List.range N).length := nd.length_le_of_subset fun c hc => List.mem_range.2 (hlt c hc)
    simp at h2 h3; omega
  · intro hl c hc
    have hge := inc_range (N := N) h c (by omega)
    have hup : ∀ d, c + d < N → l[c]'(by omega) + d ≤ l.getD (c + d) 0 := fun d => by
      induction d with
      | zero => intro hd; rw [e _ (by omega)]; exact Nat.le_refl _
      | succ d ih =>
        intro hd
        have h1 := ih (by omega)
        have h2 := (List.pairwise_iff_getElem.1 h) (c + d) (c + (d + 1)) (by omega) (by omega) (by omega)
        rw [e _ (by omega)] at h1 ⊢; omega
    have h1 := hup (N - 1 - c) (by omega)
    rw [show c + (N - 1 - c) = N - 1 by omega, e _ (by omega)] at h1
    have h2 := hlt (l[N - 1]'(by omega)) (List.getElem_mem _)
    have : l[c]'(by omega) = c := by omega
    rw [← this]; exact List.getElem_mem _
theorem kerN_iff {p : Int} {N : Nat} {E : LLs} (hp : PrP p) (hm : Mat p N E) (hl : E.length = N) : 0 < kerN p N E ↔ ¬ Triv p N E := by
  have hI := rdS_I hp hm hl (Nat.le_refl N)
  have hr := hI.red.rank hp.le.1 hm
  have hpl := (perm_lt hI.perm).1
  have hk := hI.kn
  rw [List.length_map, List.length_take, hpl, Nat.min_eq_left hk] at hr
  have hall := inc_all hI.inc hI.plt
  rw [← hr, ← hall]
  unfold kerN
  have hrr : ∀ i, i < (rdS p N E N).2.2.length → RngP p (at_ (rdS p N E N).1 ((rdS p N E N).2.1.getD i 0)) := fun i hi => hI.rng _ ((perm_lt hI.perm).2.1 i (by omega))
  generalize rdS p N E N = S at hrr hk
  obtain ⟨P, pi, pl⟩ := S
  simp only at hrr hk ⊢
  have hmK := kerI_mat (pi := pi) hp hrr (Nat.le_refl N)
  rw [← kerI_nil (p := p) (N := N) (P := P) (pi := pi)]
  have hmem : ∀ a ∈ kerI p N P pi pl N, ∃ c, c < N ∧ a.getD c 0 = 1 := fun a ha => by
    obtain ⟨c, hc, hn, rfl⟩ := kerI_mem ha
    exact ⟨c, hc, lsI_one hc hn (Nat.le_refl _)⟩
  generalize kerI p N P pi pl N = O at hmK hmem ⊢
  have hI2 := rdS_I hp hmK rfl (Nat.le_refl N)
  constructor
  · intro h e
    have h2 := hI2.kn
    have h3 : O.length = 0 := by rw [e]; rfl
    omega
  · intro hne
    apply Decidable.byContradiction; intro hn
    have h0 : (rdS p O.length O N).2.2 = [] := List.length_eq_zero_iff.1 (by omega)
    have hred := hI2.red
    rw [h0] at hred
    simp only [List.length_nil, List.take_zero, List.map_nil] at hred
    obtain ⟨a, ha⟩ := List.exists_mem_of_ne_nil O hne
    obtain ⟨c, hc, h1⟩ := hmem a ha
    have := hred.none hp.le.1 hmK a ha c hc
    rw [h1] at this; cases this

end Go.Proofs.Ytjmenocghjggcaa
