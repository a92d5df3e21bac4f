/-
Contracts of functions of the given program, by the abstract walk.
-/
import Derived.Test.YtjmenocghjggcaaAbsY
import Derived.Test.YtjmenocghjggcaaWi
namespace Go.Proofs.Ytjmenocghjggcaa
open Go Go.Abs
set_option linter.unusedVariables false
set_option linter.unusedSectionVars false
set_option linter.unusedSimpArgs false
set_option maxRecDepth 100000
/-! linear algebra modulo p: the program's reduction, plain -/
/-- the places r and i of a list exchanged -/
def swP (l : List Nat) (r i : Nat) : List Nat := (l.set r (l.getD i 0)).set i (l.getD r 0)
theorem swP_len {l : List Nat} {r i : Nat} : (swP l r i).length = l.length := by simp [swP]
theorem getD_nat_set {l : List Nat} {i j x : Nat} (h : i < l.length) : (l.set i x).getD j 0 = if i = j then x else l.getD j 0 := by
  rw [List.getD_eq_getElem?_getD, List.getElem?_set]
  by_cases e : i = j
  · subst e; rw [if_pos rfl, if_pos rfl, if_pos h]; rfl
  · rw [if_neg e, if_neg e, ← List.getD_eq_getElem?_getD]
theorem swP_get {l : List Nat} {r i j : Nat} (hr : r < l.length) (hi : i < l.length) : (swP l r i).getD j 0 = if i = j then l.getD r 0 else if r = j then l.getD i 0 else l.getD j 0 := by
  unfold swP
  rw [getD_nat_set (by simpa using hi), getD_nat_set hr]
theorem swP_perm {l : List Nat} {r i : Nat} (hr : r < l.length) (hi : i < l.length) : (swP l r i).Perm l := by
  rw [List.perm_iff_count]
  intro b
  unfold swP
  rw [List.count_set (by simpa using hi), List.count_set hr]
  have e1 : l.getD i 0 = l[i] := by simp [hi]
  have e2 : l.getD r 0 = l[r] := by simp [hr]
  have e3 : (l.set r (l.getD i 0))[i]'(by simpa using hi) = l[i] := by
    rw [List.getElem_set]; split
    · exact e1
    · rfl
  rw [e3, e1, e2]
  have c1 : l[r] = b → 0 < l.count b := fun e => List.count_pos_iff.2 (e ▸ List.getElem_mem _)
  by_cases h1 : l[r] = b
  · have := c1 h1
    by_cases h2 : l[i] = b <;> simp [h1, h2] <;> omega
  · by_cases h2 : l[i] = b <;> simp [h1, h2]
theorem swP_take {l : List Nat} {r i : Nat} (h : r ≤ i) : (swP l r i).take r = l.take r := by
  unfold swP
  rw [List.take_set_of_le h, List.take_set_of_le (Nat.le_refl r)]
theorem swP_drop {l : List Nat} {r i : Nat} (h : r ≤ i) (hi : i < l.length) : ((swP l r i).drop r).Perm (l.drop r) := by
  have := swP_perm (l := l) (r := r) (i := i) (by omega) hi
  rw [← List.take_append_drop r (swP l r i), swP_take h] at this
  exact (List.perm_append_left_iff (l.take r)).1 (this.trans (by rw [List.take_append_drop]))
/-- the state of the program's reduction: physical rows P, the rows' numbers pi, the pivots' places pl -/
structure RdI (p : Int) (n L : Nat) (rows : LLs) (c : Nat) (P : LLs) (pi pl : List Nat) : Prop where
  len : P.length = n
  perm : pi.Perm (List.range n)
  rlen : ∀ i, i < n → (at_ P i).length = L
  rng : ∀ i, i < n → RngP p (at_ P i)
  kn : pl.length ≤ n
  red : Red p L rows c ((pi.take pl.length).map (at_ P)) ((pi.drop pl.length).map (at_ P))
  plt : ∀ x ∈ pl, x < c
  inc : pl.Pairwise (· < ·)
  piv : ∀ i, i < pl.length → ∀ j, j < pl.length → (at_ P (pi.getD i 0)).getD (pl.getD j 0) 0 = if i = j then 1 else 0
theorem nodup_inj {l : List Nat} (nd : l.Nodup) {i j : Nat} (hi : i < l.length) (hj : j < l.length) : l[i] = l[j] ↔ i = j := by
  refine ⟨fun e => ?_, fun e => by subst e; rfl⟩
  rcases Nat.lt_trichotomy i j with h | h | h
  · exact absurd e (List.pairwise_iff_getElem.1 nd i j hi hj h)
  · exact h
  · exact absurd e.symm (List.pairwise_iff_getElem.1 nd j i hj hi h)
theorem perm_lt {n : Nat} {pi : List Nat} (h : pi.Perm (List.range n)) : pi.length = n ∧ (∀ i, i < n → pi.getD i 0 < n) ∧ (∀ i j, i < n → j < n → pi.getD i 0 = pi.getD j 0 → i = j) ∧ (∀ x, x < n → ∃ i, i < n ∧ pi.getD i 0 = x) := by
  have hl : pi.length = n := by rw [h.length_eq]; simp
  have hg : ∀ i (hi : i < n), pi.getD i 0 = pi[i]'(by omega) := fun i hi => by simp [show i < pi.length by omega]
  refine ⟨hl, fun i hi => ?_, fun i j hi hj e => ?_, fun x hx => ?_⟩
  · rw [hg i hi]; exact List.mem_range.1 (h.mem_iff.1 (List.getElem_mem _))
  · rw [hg i hi, hg j hj] at e
    have nd : pi.Nodup := h.nodup_iff.2 List.nodup_range
    exact (nodup_inj nd (by omega) (by omega)).1 e
  · obtain ⟨i, hi, e⟩ := List.getElem_of_mem (h.mem_iff.2 (List.mem_range.2 hx))
    exact ⟨i, by omega, by rw [hg i (by omega)]; exact e⟩
theorem RdI.init {p : Int} {n L : Nat} {rows : LLs} (hm : Mat p L rows) (hn : rows.length = n) : RdI p n L rows 0 rows (List.range n) [] := by
  have hmem : ∀ i, i < n → at_ rows i ∈ rows := fun i hi => by rw [at_lt (by omega)]; exact List.getElem_mem _
  refine ⟨hn, .refl _, fun i hi => hm.len _ (hmem i hi), fun i hi => hm.rng _ (hmem i hi), by simp, ?_, by simp, .nil, fun i hi => absurd hi (by simp)⟩
  have e : (List.range n).map (at_ rows) = rows := by
    refine List.ext_getElem (by simp [hn]) fun i h1 h2 => ?_
    rw [List.getElem_map, List.getElem_range, at_lt h2]
  simp only [List.length_nil, List.take_zero, List.drop_zero, List.map_nil]
  rw [e]; exact .init
theorem RdI.skip {p : Int} {n L : Nat} {rows : LLs} {c : Nat} {P : LLs} {pi pl : List Nat} (h : RdI p n L rows c P pi pl) (hz : ∀ j, pl.length ≤ j → j < n → (at_ P (pi.getD j 0)).getD c 0 = 0) : RdI p n L rows (c + 1) P pi pl := by
  obtain ⟨hl, _⟩ := perm_lt h.perm
  refine ⟨h.len, h.perm, h.rlen, h.rng, h.kn, h.red.skip fun a ha => ?_, fun x hx => Nat.lt_succ_of_lt (h.plt x hx), h.inc, h.piv⟩
  obtain ⟨x, hx, rfl⟩ := List.mem_map.1 ha
  obtain ⟨j, hj, e⟩ := List.getElem_of_mem hx
  rw [List.getElem_drop] at e
  rw [List.length_drop] at hj
  have := hz (pl.length + j) (by omega) (by omega)
  have e2 : pi.getD (pl.length + j) 0 = x := by rw [← e]; simp [show pl.length + j < pi.length by omega]
  rwa [e2] at this
theorem RdI.step {p : Int} {n L : Nat} {rows : LLs} {c : Nat} {P : LLs} {pi pl : List Nat} {i : Nat} {s : Int} {P' : LLs} (hp : 2 ≤ p) (hm : Mat p L rows) (h : RdI p n L rows c P pi pl) (hc : c < L) (hi : i < n) (hri : pl.length ≤ i)
    (hs : (s * (at_ P (pi.getD i 0)).getD c 0) % p = 1) (hP : P'.length = n)
    (hb : at_ P' ((swP pi pl.length i).getD pl.length 0) = scaleR p s (at_ P (pi.getD i 0)))
    (he : ∀ j, j < n → j ≠ pl.length → at_ P' ((swP pi pl.length i).getD j 0) = elimR p (scaleR p s (at_ P (pi.getD i 0))) c (at_ P ((swP pi pl.length i).getD j 0))) :
    RdI p n L rows (c + 1) P' (swP pi pl.length i) (pl ++ [c]) := by
  obtain ⟨hl, hlt, hinj, _⟩ := perm_lt h.perm
  have hpm : (swP pi pl.length i).Perm (List.range n) := (swP_perm (by omega) (by omega)).trans h.perm
  obtain ⟨hl', hlt', hinj', hsur'⟩ := perm_lt hpm
  have hr : (swP pi pl.length i).getD pl.length 0 = pi.getD i 0 := by
    rw [swP_get (by omega) (by omega)]
    by_cases e : i = pl.length
    · subst e; simp
    · rw [if_neg e, if_pos rfl]
  have hlow := h.red.low hp hm (by omega)
  have htake : (swP pi pl.length i).take pl.length = pi.take pl.length := swP_take hri
  have hbel : ∀ j, j < pl.length → (swP pi pl.length i).getD j 0 = pi.getD j 0 := fun j hj => by
    rw [swP_get (by omega) (by omega), if_neg (by omega), if_neg (by omega)]
  have hM := h.red.mat hp hm
  have ha0 : ∀ j, j < c → (at_ P (pi.getD i 0)).getD j 0 = 0 := fun j hj => by
    refine hlow.2.1 _ (List.mem_map.2 ⟨pi.getD i 0, ?_, rfl⟩) j hj
    have e : pi.getD i 0 = (pi.drop pl.length)[i - pl.length]'(by rw [List.length_drop]; omega) := by
      rw [List.getElem_drop]; simp [show pl.length + (i - pl.length) = i by omega, show i < pi.length by omega]
    rw [e]; exact List.getElem_mem _
  have la := h.rlen _ (hlt i hi)
  have b1 : (scaleR p s (at_ P (pi.getD i 0))).getD c 0 = 1 := by rw [scaleR_get (by omega)]; exact hs
  have b0 : ∀ j, j < c → (scaleR p s (at_ P (pi.getD i 0))).getD j 0 = 0 := fun j hj => by rw [scaleR_get (by omega), ha0 j hj]; simp
  have hred : Red p L rows (c + 1) (((swP pi pl.length i).take (pl.length + 1)).map (at_ P')) (((swP pi pl.length i).drop (pl.length + 1)).map (at_ P')) := by
    have hdr : (swP pi pl.length i).drop pl.length = pi.getD i 0 :: (swP pi pl.length i).drop (pl.length + 1) := by
      rw [← hr, List.drop_eq_getElem_cons (by omega)]
      simp [show pl.length < (swP pi pl.length i).length by omega]
    have q := h.red.perm (((swP_drop hri (by omega)).map (at_ P)).symm)
    rw [hdr, List.map_cons] at q
    have q2 := q.step hc hs
    have e1 : ((swP pi pl.length i).take (pl.length + 1)).map (at_ P') = ((pi.take pl.length).map (at_ P)).map (elimR p (scaleR p s (at_ P (pi.getD i 0))) c) ++ [scaleR p s (at_ P (pi.getD i 0))] := by
      rw [List.take_succ_eq_append_getElem (by omega), List.map_append, htake]
      congr 1
      · rw [List.map_map]
        refine List.map_congr_left fun x hx => ?_
        obtain ⟨j, hj, e⟩ := List.getElem_of_mem hx
        have hj2 : j < pl.length := by simp at hj; omega
        rw [List.getElem_take] at e
        have ex : x = (swP pi pl.length i).getD j 0 := by rw [hbel j hj2, ← e]; simp [show j < pi.length by omega]
        rw [ex, he j (by omega) (by omega)]; rfl
      · have : (swP pi pl.length i)[pl.length]'(by omega) = (swP pi pl.length i).getD pl.length 0 := by simp [show pl.length < (swP pi pl.length i).length by omega]
        simp only [List.map_cons, List.map_nil]
        rw [this, hb]
    have e2 : ((swP pi pl.length i).drop (pl.length + 1)).map (at_ P') = (((swP pi pl.length i).drop (pl.length + 1)).map (at_ P)).map (elimR p (scaleR p s (at_ P (pi.getD i 0))) c) := by
      rw [List.map_map]
      refine List.map_congr_left fun x hx => ?_
      obtain ⟨j, hj, e⟩ := List.getElem_of_mem hx
      rw [List.length_drop] at hj
      rw [List.getElem_drop] at e
      have ex : x = (swP pi pl.length i).getD (pl.length + 1 + j) 0 := by rw [← e]; simp [show pl.length + 1 + j < (swP pi pl.length i).length by omega]
      rw [ex, he _ (by omega) (by omega)]; rfl
    rw [e1, e2]; exact q2
  refine ⟨hP, hpm, fun x hx => ?_, fun x hx => ?_, by simp; omega, by rw [List.length_append]; exact hred, fun x hx => ?_, ?_, fun u hu v hv => ?_⟩
  · obtain ⟨j, hj, rfl⟩ := hsur' x hx
    by_cases e : j = pl.length
    · subst e; rw [hb, scaleR_len]; exact la
    · rw [he j hj e, elimR_len]; exact h.rlen _ hx
  · obtain ⟨j, hj, rfl⟩ := hsur' x hx
    by_cases e : j = pl.length
    · subst e; rw [hb]; exact scaleR_rng hp
    · rw [he j hj e]; exact elimR_rng hp
  · rcases List.mem_append.1 hx with hx | hx
    · have := h.plt x hx; omega
    · simp at hx; omega
  · rw [List.pairwise_append]
    exact ⟨h.inc, List.pairwise_singleton _ _, fun a ha b hb => by simp at hb; subst hb; exact h.plt a ha⟩
  · have hpl : ∀ v, v < pl.length → (pl ++ [c]).getD v 0 = pl.getD v 0 ∧ pl.getD v 0 < c := fun v hv => by
      refine ⟨by simp [List.getElem?_append_left hv], ?_⟩
      have : pl.getD v 0 = pl[v] := by simp [hv]
      rw [this]; exact h.plt _ (List.getElem_mem _)
    have hpc : (pl ++ [c]).getD pl.length 0 = c := by simp
    simp only [List.length_append, List.length_cons, List.length_nil] at hu hv
    by_cases eu : u = pl.length
    · subst eu
      rw [hb]
      by_cases ev : v = pl.length
      · subst ev; rw [hpc, b1, if_pos rfl]
      · obtain ⟨g1, g2⟩ := hpl v (by omega)
        rw [g1, b0 _ g2, if_neg (by omega)]
    · have lu := h.rlen _ (hlt' u (by omega))
      rw [he u (by omega) eu]
      by_cases ev : v = pl.length
      · subst ev; rw [hpc, elimR_self hp (by omega) b1, if_neg eu]
      · obtain ⟨g1, g2⟩ := hpl v (by omega)
        rw [g1, elimR_zero hp (by omega) (h.rng _ (hlt' u (by omega))) (b0 _ g2), hbel u (by omega)]
        exact h.piv u (by omega) v (by omega)
/-- the argument's cells: the rows' numbers -/
def celP (L : Nat) (pi : List Nat) : List Atom := pi.map fun i => .sl 0 (1 + i) 0 0 L 1
def msP (n L : Nat) (P : LLs) (pi : List Nat) : List Blk := .lv true [(0, .cells n (celP L pi))] :: inn P
theorem celP_len {L : Nat} {pi : List Nat} : (celP L pi).length = pi.length := by simp [celP]
theorem celP_get {L i : Nat} {pi : List Nat} (h : i < pi.length) : (celP L pi).getD i .top = .sl 0 (1 + pi.getD i 0) 0 0 L 1 := by simp [celP, h]
theorem celP_set {L i x : Nat} {pi : List Nat} : (celP L pi).set i (.sl 0 (1 + x) 0 0 L 1) = celP L (pi.set i x) := by simp [celP, List.map_set]
theorem celP_ren {L : Nat} {pi : List Nat} {σ : Ren} (hs : ∀ k, σ 0 k = some (0, k)) : (celP L pi).map (renAt σ) = celP L pi := by
  unfold celP
  rw [List.map_map]
  exact List.map_congr_left fun i _ => by simp [renAt, hs]
theorem msP_ren {n L : Nat} {P : LLs} {pi : List Nat} {σ : Ren} (hs : ∀ k, σ 0 k = some (0, k)) : (msP n L P pi).map (renBlk σ) = msP n L P pi := by
  simp only [msP, List.map_cons, inn_ren, renBlk, renSegs, renSg, celP_ren hs]
theorem msP_0 {n L : Nat} {P : LLs} {pi : List Nat} : (msP n L P pi).getD 0 .dead = .lv true [(0, .cells n (celP L pi))] := rfl
theorem msP_at {n L : Nat} {P : LLs} {pi : List Nat} {x : Nat} (h : x < P.length) : (msP n L P pi).getD (1 + x) .dead = ib (at_ P x) := by
  rw [msP, Nat.add_comm, List.getD_cons_succ, inn_get h]
theorem msP_set {n L : Nat} {P : LLs} {pi : List Nat} {x : Nat} {xs : List Int} (h : x < P.length) : (msP n L P pi).set (1 + x) (ib xs) = msP n L (P.set x xs) pi := by
  rw [msP, Nat.add_comm, List.set_cons_succ, inn_set h]; rfl
theorem ms1_P {L : Nat} {rows : LLs} (h : ∀ i, i < rows.length → (at_ rows i).length = L) : ms1 rows = msP rows.length L rows (List.range rows.length) := by
  unfold ms1 msP ob outs celP
  congr 5
  exact List.map_congr_left fun i hi => by rw [h i (List.mem_range.1 hi)]
/-- a row scaled in place, k cells of it -/
def scP (p f : Int) (r : List Int) : Nat → List Int
  | 0 => r
  | k + 1 => (scP p f r k).set k (((scP p f r k).getD k 0 * f).tmod p)
def elP (p f : Int) (b r : List Int) : Nat → List Int
  | 0 => r
  | k + 1 => (elP p f b r k).set k (((elP p f b r k).getD k 0 + f * b.getD k 0).tmod p)
theorem scP_len {p f : Int} {r : List Int} : ∀ {k}, (scP p f r k).length = r.length
  | 0 => rfl
  | k + 1 => by rw [scP, List.length_set, scP_len]
theorem elP_len {p f : Int} {b r : List Int} : ∀ {k}, (elP p f b r k).length = r.length
  | 0 => rfl
  | k + 1 => by rw [elP, List.length_set, elP_len]
theorem scP_get {p f : Int} {r : List Int} : ∀ {k j}, k ≤ r.length → (scP p f r k).getD j 0 = if j < k then (r.getD j 0 * f).tmod p else r.getD j 0
  | 0, j, _ => by simp [scP]
  | k + 1, j, h => by
    rw [scP, getD_set_int (by rw [scP_len]; omega), scP_get (k := k) (by omega), scP_get (k := k) (by omega)]
    by_cases e : k = j
    · subst e; rw [if_pos rfl, if_neg (by omega), if_pos (by omega)]
    · rw [if_neg e]; by_cases e2 : j < k
      · rw [if_pos e2, if_pos (by omega)]
      · rw [if_neg e2, if_neg (by omega)]
theorem elP_get {p f : Int} {b r : List Int} : ∀ {k j}, k ≤ r.length → (elP p f b r k).getD j 0 = if j < k then (r.getD j 0 + f * b.getD j 0).tmod p else r.getD j 0
  | 0, j, _ => by simp [elP]
  | k + 1, j, h => by
    rw [elP, getD_set_int (by rw [elP_len]; omega), elP_get (k := k) (by omega), elP_get (k := k) (by omega)]
    by_cases e : k = j
    · subst e; rw [if_pos rfl, if_neg (by omega), if_pos (by omega)]
    · rw [if_neg e]; by_cases e2 : j < k
      · rw [if_pos e2, if_pos (by omega)]
      · rw [if_neg e2, if_neg (by omega)]
theorem ext_getD {a b : List Int} (hl : a.length = b.length) (h : ∀ j, j < a.length → a.getD j 0 = b.getD j 0) : a = b := by
  refine List.ext_getElem hl fun j h1 h2 => ?_
  have := h j h1
  simpa [h1, h2] using this
theorem scP_scaleR {p f : Int} {r : List Int} (hp : PrP p) (hr : RngP p r) (hf : 0 ≤ f ∧ f ≤ p - 1) : scP p f r r.length = scaleR p f r := by
  refine ext_getD (by rw [scP_len, scaleR_len]) fun j hj => ?_
  rw [scP_len] at hj
  rw [scP_get (Nat.le_refl _), if_pos hj, scaleR_get hj, Int.mul_comm, Int.tmod_eq_emod_of_nonneg (prod_le hp hf (hr j)).1]
theorem elP_elimR {p : Int} {b r : List Int} {c : Nat} (hp : PrP p) (hr : RngP p r) (hb : RngP p b) : elP p (p - r.getD c 0) b r r.length = elimR p b c r := by
  have hp2 := hp.le
  refine ext_getD (by rw [elP_len, elimR_len]) fun j hj => ?_
  rw [elP_len] at hj
  rw [elP_get (Nat.le_refl _), if_pos hj, elimR_get hj]
  have h1 : 0 ≤ (p - r.getD c 0) * b.getD j 0 := Int.mul_nonneg (by have := hr c; omega) (hb j).1
  have h2 := hr j
  rw [Int.tmod_eq_emod_of_nonneg (by omega)]
  have : r.getD j 0 + (p - r.getD c 0) * b.getD j 0 = r.getD j 0 - r.getD c 0 * b.getD j 0 + p * b.getD j 0 := by grind
  rw [this, Int.add_mul_emod_self_left]
theorem elim_same {p : Int} {b r : List Int} {c : Nat} (hp : PrP p) (hr : RngP p r) (h : r.getD c 0 = 0) : elimR p b c r = r := by
  refine ext_getD elimR_len fun j hj => ?_
  rw [elimR_len] at hj
  have := hr j
  rw [elimR_get hj, h, Int.zero_mul, Int.sub_zero, Int.emod_eq_of_lt (by omega) (by omega)]
/-- the rows other than the pivot's, the first j of them done -/
def elJ (p : Int) (c r : Nat) (b : List Int) (pi : List Nat) (P : LLs) : Nat → LLs
  | 0 => P
  | j + 1 => if j = r then elJ p c r b pi P j else (elJ p c r b pi P j).set (pi.getD j 0) (elimR p b c (at_ P (pi.getD j 0)))
theorem elJ_len {p : Int} {c r : Nat} {b : List Int} {pi : List Nat} {P : LLs} : ∀ {j}, (elJ p c r b pi P j).length = P.length
  | 0 => rfl
  | j + 1 => by rw [elJ]; split <;> simp [elJ_len (j := j)]
theorem elJ_at {p : Int} {n c r : Nat} {b : List Int} {pi : List Nat} {P : LLs} (h : pi.Perm (List.range n)) (hP : P.length = n) {i : Nat} (hi : i < n) : ∀ {j}, j ≤ n → at_ (elJ p c r b pi P j) (pi.getD i 0) = if i < j ∧ i ≠ r then elimR p b c (at_ P (pi.getD i 0)) else at_ P (pi.getD i 0)
  | 0, _ => by simp [elJ]
  | j + 1, hj => by
    obtain ⟨hl, hlt, hinj, _⟩ := perm_lt h
    have ih := elJ_at h hP hi (p := p) (c := c) (r := r) (b := b) (j := j) (by omega)
    rw [elJ]
    by_cases e : j = r
    · rw [if_pos e, ih]
      by_cases e2 : i < j ∧ i ≠ r
      · rw [if_pos e2, if_pos ⟨by omega, e2.2⟩]
      · rw [if_neg e2, if_neg (by omega)]
    · rw [if_neg e, at_set (by rw [elJ_len, hP]; exact hlt j (by omega))]
      by_cases e2 : i = j
      · subst e2; rw [if_pos rfl, if_pos ⟨by omega, e⟩]
      · rw [if_neg fun hh => e2 (hinj i j hi (by omega) hh), ih]
        by_cases e3 : i < j ∧ i ≠ r
        · rw [if_pos e3, if_pos ⟨by omega, e3.2⟩]
        · rw [if_neg e3, if_neg (by omega)]
/-- the first place from r on, of d, whose row is not 0 at c -/
def fz (c : Nat) (P : LLs) (pi : List Nat) (r : Nat) : Nat → Nat
  | 0 => r
  | d + 1 => if (at_ P (pi.getD r 0)).getD c 0 = 0 then fz c P pi (r + 1) d else r
theorem fz_eq {c : Nat} {P : LLs} {pi : List Nat} {i : Nat} : ∀ {d r}, r ≤ i → i ≤ r + d → (∀ j, r ≤ j → j < i → (at_ P (pi.getD j 0)).getD c 0 = 0) → (i = r + d ∨ (at_ P (pi.getD i 0)).getD c 0 ≠ 0) → fz c P pi r d = i
  | 0, r, h1, h2, _, _ => by rw [fz]; omega
  | d + 1, r, h1, h2, h3, h4 => by
    rw [fz]
    by_cases e : r = i
    · subst e
      rw [if_neg (h4.resolve_left (by omega))]
    · rw [if_pos (h3 r (Nat.le_refl r) (by omega))]
      have h5 : i = r + 1 + d ∨ (at_ P (pi.getD i 0)).getD c 0 ≠ 0 := h4.imp (fun h => by omega) id
      exact fz_eq (by omega) (by omega) (fun j hj => h3 j (by omega)) h5
theorem fz_facts {c : Nat} {P : LLs} {pi : List Nat} : ∀ {d r}, r ≤ fz c P pi r d ∧ fz c P pi r d ≤ r + d ∧ (∀ j, r ≤ j → j < fz c P pi r d → (at_ P (pi.getD j 0)).getD c 0 = 0) ∧ (fz c P pi r d = r + d ∨ (at_ P (pi.getD (fz c P pi r d) 0)).getD c 0 ≠ 0)
  | 0, r => ⟨Nat.le_refl _, Nat.le_refl _, fun j h1 h2 => by rw [fz] at h2; omega, .inl rfl⟩
  | d + 1, r => by
    rw [fz]
    by_cases hz : (at_ P (pi.getD r 0)).getD c 0 = 0
    · rw [if_pos hz]
      obtain ⟨a1, a2, a3, a4⟩ := fz_facts (c := c) (P := P) (pi := pi) (d := d) (r := r + 1)
      refine ⟨by omega, by omega, fun j h1 h2 => ?_, a4.imp (fun h => by omega) id⟩
      by_cases e : j = r
      · subst e; exact hz
      · exact a3 j (by omega) h2
    · rw [if_neg hz]
      exact ⟨Nat.le_refl _, by omega, fun j h1 h2 => absurd h2 (by omega), .inr hz⟩
abbrev RdT := LLs × List Nat × List Nat
def pvB (p : Int) (c : Nat) (P : LLs) (x : Nat) : List Int := scaleR p (invF p ((at_ P x).getD c 0)) (at_ P x)
def rdN (p : Int) (n c : Nat) (S : RdT) : RdT :=
  if fz c S.1 S.2.1 S.2.2.length (n - S.2.2.length) < n then
    (elJ p c S.2.2.length (pvB p c S.1 (S.2.1.getD (fz c S.1 S.2.1 S.2.2.length (n - S.2.2.length)) 0)) (swP S.2.1 S.2.2.length (fz c S.1 S.2.1 S.2.2.length (n - S.2.2.length)))
      (S.1.set (S.2.1.getD (fz c S.1 S.2.1 S.2.2.length (n - S.2.2.length)) 0) (pvB p c S.1 (S.2.1.getD (fz c S.1 S.2.1 S.2.2.length (n - S.2.2.length)) 0))) n,
     swP S.2.1 S.2.2.length (fz c S.1 S.2.1 S.2.2.length (n - S.2.2.length)), S.2.2 ++ [c])
  else S
def rdS (p : Int) (n : Nat) (rows : LLs) : Nat → RdT
  | 0 => (rows, List.range n, [])
  | c + 1 => rdN p n c (rdS p n rows c)
theorem swP_r {pi : List Nat} {r i : Nat} (hr : r < pi.length) (hi : i < pi.length) : (swP pi r i).getD r 0 = pi.getD i 0 := by
  rw [swP_get hr hi]
  by_cases e : i = r
  · subst e; simp
  · rw [if_neg e, if_pos rfl]
/-- the program's reduction is a reduction -/
theorem rdS_I {p : Int} {n L : Nat} {rows : LLs} (hp : PrP p) (hm : Mat p L rows) (hn : rows.length = n) : ∀ {c}, c ≤ L → RdI p n L rows c (rdS p n rows c).1 (rdS p n rows c).2.1 (rdS p n rows c).2.2
  | 0, _ => RdI.init hm hn
  | c + 1, hc => by
    have hI := rdS_I hp hm hn (c := c) (by omega)
    rw [rdS]
    generalize rdS p n rows c = S at hI ⊢
    obtain ⟨P, pi, pl⟩ := S
    simp only at hI ⊢
    have hkn := hI.kn
    obtain ⟨f1, f2, f3, f4⟩ := fz_facts (c := c) (P := P) (pi := pi) (r := pl.length) (d := n - pl.length)
    unfold rdN
    simp only
    generalize fz c P pi pl.length (n - pl.length) = i at f1 f2 f3 f4 ⊢
    by_cases hi : i < n
    · rw [if_pos hi]
      have hz : (at_ P (pi.getD i 0)).getD c 0 ≠ 0 := by
        rcases f4 with f4 | f4
        · omega
        · exact f4
      obtain ⟨hl, hlt, hinj, _⟩ := perm_lt hI.perm
      have hx := hlt i hi
      have hxr := hI.rng _ hx
      obtain ⟨_, _, hs, _⟩ := inv_facts hp hz (hxr c)
      have hpm : (swP pi pl.length i).Perm (List.range n) := (swP_perm (by omega) (by omega)).trans hI.perm
      obtain ⟨hlj, hltj, hinjj, _⟩ := perm_lt hpm
      have hr : (swP pi pl.length i).getD pl.length 0 = pi.getD i 0 := swP_r (by omega) (by omega)
      have hP1l : (P.set (pi.getD i 0) (pvB p c P (pi.getD i 0))).length = n := by rw [List.length_set]; exact hI.len
      have hP1 : ∀ y, at_ (P.set (pi.getD i 0) (pvB p c P (pi.getD i 0))) y = if y = pi.getD i 0 then pvB p c P (pi.getD i 0) else at_ P y := fun y => at_set (by rw [hI.len]; exact hx)
      refine hI.step hp.le.1 hm (by omega) hi f1 hs (by rw [elJ_len]; exact hP1l) ?_ fun j hj hne => ?_
      · rw [elJ_at hpm hP1l (by omega) (Nat.le_refl n), if_neg (by simp), hr, hP1, if_pos rfl]; rfl
      · rw [elJ_at hpm hP1l hj (Nat.le_refl n), if_pos ⟨hj, hne⟩, hP1, if_neg (fun e => hne (by rw [← hr] at e; exact hinjj _ _ hj (by omega) e))]; rfl
    · rw [if_neg hi]
      exact hI.skip fun j h1 h2 => f3 j h1 (by omega)

end Go.Proofs.Ytjmenocghjggcaa
