/-
Contracts of functions of the given program, by the abstract walk.
-/
import Derived.Test.YtjmenocghjggcaaAbsY
import Derived.Test.YtjmenocghjggcaaBpl
namespace Go.Proofs.Ytjmenocghjggcaa
open Go Go.Abs
set_option linter.unusedVariables false
set_option linter.unusedSectionVars false
set_option linter.unusedSimpArgs false
set_option maxRecDepth 100000
/-! the memory of a group: names of its lists, and calls -/
abbrev GL := Nat → List (List Int)
abbrev Nm := Nat → Abs.Id
def rkF (P : Nat → Bool) (k : Nat) : Nat := ((List.range k).filter P).length
def fl (P : Nat → Bool) : List Nat := (List.range 10).filter P
theorem filt_get {P : Nat → Bool} : ∀ {n k}, k < n → P k = true → ((List.range n).filter P)[rkF P k]? = some k
  | 0, _, h, _ => absurd h (by omega)
  | n + 1, k, h, hp => by
    rw [List.range_succ, List.filter_append]
    by_cases e : k = n
    · subst e
      unfold rkF
      rw [List.getElem?_append_right (Nat.le_refl _), Nat.sub_self]
      simp [hp]
    · have := filt_get (n := n) (k := k) (by omega) hp
      have hl := (List.getElem?_eq_some_iff.1 this).1
      rw [List.getElem?_append_left hl]; exact this
theorem fl_get {P : Nat → Bool} {k : Nat} (hk : k < 10) (hp : P k = true) : (fl P)[rkF P k]? = some k := filt_get hk hp
theorem fl_mem {P : Nat → Bool} {k : Nat} : k ∈ fl P ↔ k < 10 ∧ P k = true := by unfold fl; rw [List.mem_filter, List.mem_range]
theorem fl_nodup {P : Nat → Bool} : (fl P).Nodup := List.nodup_range.filter _
theorem rk_lt {P : Nat → Bool} {k : Nat} (hk : k < 10) (hp : P k = true) : rkF P k < (fl P).length := (List.getElem?_eq_some_iff.1 (fl_get hk hp)).1
theorem rk_inj {P : Nat → Bool} {i j : Nat} (hi : i < 10) (hj : j < 10) (pi : P i = true) (pj : P j = true) (e : rkF P i = rkF P j) : i = j := by
  have h1 := fl_get hi pi
  have h2 := fl_get hj pj
  rw [e, h2] at h1
  exact (Option.some.inj h1).symm
theorem rk_of {P : Nat → Bool} {r : Nat} (h : r < (fl P).length) : ∃ k, k < 10 ∧ P k = true ∧ r = rkF P k := by
  have hm := fl_mem.1 (List.getElem_mem h)
  refine ⟨(fl P)[r], hm.1, hm.2, ?_⟩
  have h1 := fl_get hm.1 hm.2
  obtain ⟨h2, h3⟩ := List.getElem?_eq_some_iff.1 h1
  apply Classical.byContradiction
  intro hne
  have hnd := fl_nodup (P := P)
  unfold List.Nodup at hnd
  rw [List.pairwise_iff_getElem] at hnd
  rcases Nat.lt_or_gt_of_ne hne with h4 | h4
  · exact hnd _ _ h h2 h4 h3.symm
  · exact hnd _ _ h2 h h4 h3
theorem fl_map {P : Nat → Bool} {f : Nat → Blk} {k : Nat} (hk : k < 10) (hp : P k = true) : ((fl P).map f).getD (rkF P k) .dead = f k := by
  rw [List.getD_eq_getElem?_getD, List.getElem?_map, fl_get hk hp]; rfl
/-- lists that hold anything -/
def neB (gl : GL) (k : Nat) : Bool := decide (0 < (gl k).length)
/-- lists that have changed -/
def chB (gl gl' : GL) (k : Nat) : Bool := decide ((gl k).length ≠ (gl' k).length)
def cellsN (nm : Nm) (gl : GL) : List Atom := (List.range 10).map fun k => if neB gl k = true then .sl (nm k).1 (nm k).2 0 0 (gl k).length 10 else .nils
theorem cellsN_len {nm : Nm} {gl : GL} : (cellsN nm gl).length = 10 := by simp [cellsN]
theorem cellsN_get {nm : Nm} {gl : GL} {k : Nat} (hk : k < 10) : (cellsN nm gl).getD k .top = if neB gl k = true then .sl (nm k).1 (nm k).2 0 0 (gl k).length 10 else .nils := by
  simp [cellsN, hk]
theorem cellsN_ren {σ : Ren} {nm nm' : Nm} {gl : GL} (h : ∀ k, k < 10 → neB gl k = true → σ (nm k).1 (nm k).2 = some (nm' k)) : (cellsN nm gl).map (renAt σ) = cellsN nm' gl := by
  unfold cellsN
  rw [List.map_map]
  refine List.map_congr_left fun k hk => ?_
  have hk' := List.mem_range.1 hk
  show renAt σ (if neB gl k = true then _ else _) = _
  split
  · rename_i hn; simp only [renAt, h k hk' hn]
  · rfl
theorem cellsN_congr {nm nm' : Nm} {gl : GL} (h : ∀ k, k < 10 → neB gl k = true → nm k = nm' k) : cellsN nm gl = cellsN nm' gl := by
  unfold cellsN
  refine List.map_congr_left fun k hk => ?_
  split
  · rename_i hn; rw [h k (List.mem_range.1 hk) hn]
  · rfl
/-- a cell that is set to a list's name -/
theorem cellsN_set {nm : Nm} {gl gl' : GL} {k : Nat} {x : Abs.Id} (hk : k < 10) (hne : neB gl' k = true) (ho : ∀ i, i ≠ k → gl' i = gl i) : (cellsN nm gl).set k (.sl x.1 x.2 0 0 (gl' k).length 10) = cellsN (fun i => if i = k then x else nm i) gl' := by
  apply List.ext_getElem
  · simp [cellsN]
  · intro i h1 h2
    simp only [cellsN, List.getElem_set, List.getElem_map, List.getElem_range]
    by_cases e : k = i
    · subst e; rw [if_pos rfl, if_pos hne, if_pos rfl]
    · have e2 : neB gl' i = neB gl i := by unfold neB; rw [ho i (fun h => e h.symm)]
      have e3 : ¬ i = k := fun h => e h.symm
      simp only [if_neg e, if_neg e3, e2, ho i e3]
def grS (N : Nat) (As : List Atom) (b : List Int) (h : List Bool) : Segs := [(0, .ints .i64 1 [(N : Int)]), (1, .cells 10 As), (11, .ints .u8 1000 b), (1011, .bools 100 h)]
def grB (N : Nat) (nm : Nm) (st : GS) : Blk := .lv true (grS N (cellsN nm st.gl) st.b st.h)
theorem grB_ren {σ : Ren} {N : Nat} {nm nm' : Nm} {st : GS} (h : ∀ k, k < 10 → neB st.gl k = true → σ (nm k).1 (nm k).2 = some (nm' k)) : renBlk σ (grB N nm st) = grB N nm' st := by
  simp only [grB, grS, renBlk, renSegs, renSg, cellsN_ren h]
def outN (gl gl' : GL) : Nm := fun k => if chB gl gl' k = true then (1, rkF (chB gl gl') k) else (0, 1 + rkF (neB gl) k)
def outE (gl gl' : GL) : List Blk := (fl (neB gl)).map fun k => if chB gl gl' k = true then .dead else plB (gl k)
def outNs (gl gl' : GL) : List Blk := (fl (chB gl gl')).map fun k => plB (gl' k)
/-- the memory of a call whose lists were gl and are those of st -/
def grX (N : Nat) (gl : GL) (st : GS) : List Blk := grB N (outN gl st.gl) st :: outE gl st.gl
theorem chB_self {gl : GL} {k : Nat} : chB gl gl k = false := by unfold chB; simp
theorem outNs_self {gl : GL} : outNs gl gl = [] := by
  unfold outNs fl
  have : (List.range 10).filter (chB gl gl) = [] := List.filter_eq_nil_iff.2 fun k _ => by rw [chB_self]; simp
  rw [this]; rfl
theorem outE_len {gl gl' : GL} : (outE gl gl').length = (fl (neB gl)).length := by simp [outE]
theorem outE_get {gl gl' : GL} {k : Nat} (hk : k < 10) (hn : neB gl k = true) : (outE gl gl').getD (rkF (neB gl) k) .dead = if chB gl gl' k = true then .dead else plB (gl k) := fl_map hk hn
theorem outE_ren {σ : Ren} {gl gl' : GL} : (outE gl gl').map (renBlk σ) = outE gl gl' := by
  unfold outE
  rw [List.map_map]
  refine List.map_congr_left fun k _ => ?_
  show renBlk σ (if chB gl gl' k = true then _ else _) = _
  split
  · rfl
  · exact plB_ren
theorem outNs_get {gl gl' : GL} {k : Nat} (hk : k < 10) (hc : chB gl gl' k = true) : (outNs gl gl').getD (rkF (chB gl gl') k) .dead = plB (gl' k) := fl_map hk hc
theorem outNs_len {gl gl' : GL} : (outNs gl gl').length = (fl (chB gl gl')).length := by simp [outNs]
/-- lists that only grow -/
def Pre (gl gl' : GL) : Prop := ∀ k, ∃ X, gl' k = gl k ++ X
theorem Pre.refl {gl : GL} : Pre gl gl := fun k => ⟨[], by simp⟩
theorem Pre.trans {a b c : GL} (h : Pre a b) (h' : Pre b c) : Pre a c := fun k => by
  obtain ⟨X, hX⟩ := h k
  obtain ⟨Y, hY⟩ := h' k
  exact ⟨X ++ Y, by rw [hY, hX, List.append_assoc]⟩
theorem Pre.le {a b : GL} (h : Pre a b) (k : Nat) : (a k).length ≤ (b k).length := by
  obtain ⟨X, hX⟩ := h k
  rw [hX, List.length_append]; omega
theorem Pre.eq {a b : GL} (h : Pre a b) {k : Nat} (hc : chB a b k = false) : b k = a k := by
  obtain ⟨X, hX⟩ := h k
  unfold chB at hc
  have hc' := of_decide_eq_false hc
  rw [hX, List.length_append] at hc'
  have : X = [] := List.length_eq_zero_iff.1 (by omega)
  rw [hX, this, List.append_nil]
theorem Pre.ne {a b : GL} (h : Pre a b) {k : Nat} (hn : neB a k = true) : neB b k = true := by
  have := h.le k
  unfold neB at hn ⊢
  rw [decide_eq_true_iff] at hn ⊢
  omega
theorem Pre.ne' {a b : GL} (h : Pre a b) {k : Nat} (hn : neB b k = true) : neB a k = true ∨ chB a b k = true := by
  cases hc : chB a b k
  · left; unfold neB at hn ⊢; rwa [h.eq hc] at hn
  · exact .inr rfl
theorem Pre.ch {a b c : GL} (h : Pre a b) (h' : Pre b c) {k : Nat} : chB a c k = true ↔ chB a b k = true ∨ chB b c k = true := by
  have h1 := h.le k
  have h2 := h'.le k
  unfold chB
  rw [decide_eq_true_iff, decide_eq_true_iff, decide_eq_true_iff]
  omega
theorem get_call {m : Mem} {F : List Abs.Id} {xs ns : List Blk} {σ : Ren} (hF : F.Nodup) (hlen : xs.length = F.length) (hlt : ∀ p ∈ F, p.1 = 0 → p.2 < m.args.length) (hn : m.next ≠ 0) (a k : Nat) :
    (m.upd (zipUps σ F xs ++ newUps σ m.next 0 ns)).get a k = if a = m.next ∧ k < ns.length then renBlk σ (ns.getD k .dead) else match idx F a k with | some j => renBlk σ (xs.getD j .dead) | none => m.get a k := by
  rw [Mem.get_upd, fupds_append, fupds_new, fupds_zip _ hF hlen]
  · simp only [Nat.zero_le, true_and, Nat.zero_add, Nat.sub_zero]; rfl
  · intro x hx h0
    rcases List.mem_append.1 hx with h | h
    · have : ∀ {F : List Abs.Id} {xs : List Blk}, ∀ q ∈ zipUps σ F xs, q.1 ∈ F := by
        intro F
        induction F with
        | nil => intro xs q h; simp [zipUps] at h
        | cons p F ih =>
          intro xs q h
          cases xs with
          | nil => simp [zipUps] at h
          | cons b r =>
            rw [zipUps, List.mem_cons] at h
            rcases h with rfl | h
            · simp
            · exact List.mem_cons_of_mem _ (ih q h)
      exact hlt _ (this x h) h0
    · have : ∀ {ns : List Blk} {j : Nat}, ∀ q ∈ newUps σ m.next j ns, q.1.1 = m.next := by
        intro ns
        induction ns with
        | nil => intro j q h; simp [newUps] at h
        | cons b r ih =>
          intro j q h
          rw [newUps, List.mem_cons] at h
          rcases h with rfl | h
          · rfl
          · exact ih q h
      have := this x h
      exact absurd (this.symm.trans h0) hn

/-! the memory of a group: a call that is handed all of it -/
structure HasGrp (m : Mem) (gid : Abs.Id) (nm : Nm) (N : Nat) (st : GS) : Prop where
  grp : m.get gid.1 gid.2 = grB N nm st
  nam : ∀ k, k < 10 → neB st.gl k = true → m.get (nm k).1 (nm k).2 = plB (st.gl k)
  inj : ∀ i j, i < 10 → j < 10 → neB st.gl i = true → neB st.gl j = true → nm i = nm j → i = j
  ne : ∀ k, k < 10 → neB st.gl k = true → nm k ≠ gid
  frg : gid.1 < m.next
  frn : ∀ k, k < 10 → neB st.gl k = true → (nm k).1 < m.next
def idsF (gid : Abs.Id) (nm : Nm) (gl : GL) : List Abs.Id := gid :: (fl (neB gl)).map nm
def nmC (n : Nat) (nm : Nm) (gl gl' : GL) : Nm := fun k => if chB gl gl' k = true then (n, rkF (chB gl gl') k) else nm k
structure AfterC (m : Mem) (gid : Abs.Id) (nm : Nm) (N : Nat) (st st' : GS) (ups : Ups) : Prop where
  has : HasGrp (m.upd ups).tick gid (nmC m.next nm st.gl st'.gl) N st'
  oth : ∀ p : Abs.Id, p ≠ gid → p.1 ≠ m.next → (∀ k, k < 10 → neB st.gl k = true → p ≠ nm k) → (m.upd ups).get p.1 p.2 = m.get p.1 p.2
  ded : ∀ k, k < 10 → neB st.gl k = true → chB st.gl st'.gl k = true → (m.upd ups).get (nm k).1 (nm k).2 = .dead
section
variable {m : Mem} {gid : Abs.Id} {nm : Nm} {N : Nat} {st : GS} (h : HasGrp m gid nm N st)
include h
theorem HasGrp.nodup : (idsF gid nm st.gl).Nodup := by
  unfold idsF
  rw [List.nodup_cons]
  refine ⟨fun hm => ?_, ?_⟩
  · obtain ⟨k, hk, e⟩ := List.mem_map.1 hm
    obtain ⟨h1, h2⟩ := fl_mem.1 hk
    exact h.ne k h1 h2 e
  · unfold List.Nodup
    rw [List.pairwise_map]
    refine List.Pairwise.imp_of_mem ?_ (fl_nodup (P := neB st.gl))
    intro a b ha hb hab e
    obtain ⟨a1, a2⟩ := fl_mem.1 ha
    obtain ⟨b1, b2⟩ := fl_mem.1 hb
    exact hab (h.inj a b a1 b1 a2 b2 e)
theorem HasGrp.live : ∀ p ∈ idsF gid nm st.gl, ∃ gs, m.get p.1 p.2 = .lv true gs := by
  intro p hp
  rcases List.mem_cons.1 hp with rfl | hp
  · exact ⟨_, h.grp⟩
  · obtain ⟨k, hk, rfl⟩ := List.mem_map.1 hp
    obtain ⟨h1, h2⟩ := fl_mem.1 hk
    exact ⟨_, h.nam k h1 h2⟩
omit h in
theorem ids_at {k : Nat} (hk : k < 10) (hn : neB st.gl k = true) : (idsF gid nm st.gl)[1 + rkF (neB st.gl) k]? = some (nm k) := by
  unfold idsF
  rw [Nat.add_comm, List.getElem?_cons_succ, List.getElem?_map, fl_get hk hn]; rfl
theorem HasGrp.idx0 : idx (idsF gid nm st.gl) gid.1 gid.2 = some 0 := idx_of_get h.nodup rfl
theorem HasGrp.idxk {k : Nat} (hk : k < 10) (hn : neB st.gl k = true) : idx (idsF gid nm st.gl) (nm k).1 (nm k).2 = some (1 + rkF (neB st.gl) k) := idx_of_get h.nodup (ids_at hk hn)
theorem HasGrp.args : argBlks m (idsF gid nm st.gl) = grX N st.gl st := by
  unfold argBlks grX
  have e0 : renBlk (renIn (idsF gid nm st.gl)) (m.get gid.1 gid.2) = grB N (outN st.gl st.gl) st := by
    rw [h.grp]
    refine grB_ren fun k hk hn => ?_
    unfold renIn outN
    rw [h.idxk hk hn, chB_self]; rfl
  have e1 : ((fl (neB st.gl)).map nm).map (fun p => renBlk (renIn (idsF gid nm st.gl)) (m.get p.1 p.2)) = outE st.gl st.gl := by
    unfold outE
    rw [List.map_map]
    refine List.map_congr_left fun k hk => ?_
    obtain ⟨h1, h2⟩ := fl_mem.1 hk
    show renBlk _ (m.get (nm k).1 (nm k).2) = _
    rw [h.nam k h1 h2, plB_ren, chB_self]; rfl
  exact congr (congrArg List.cons e0) e1
theorem HasGrp.after (hn : m.next ≠ 0) {st' : GS} (hp : Pre st.gl st'.gl) : AfterC m gid nm N st st' (zipUps (renOut m.next (idsF gid nm st.gl)) (idsF gid nm st.gl) (grX N st.gl st') ++ newUps (renOut m.next (idsF gid nm st.gl)) m.next 0 (outNs st.gl st'.gl)) := by
  have hlt : ∀ p ∈ idsF gid nm st.gl, p.1 = 0 → p.2 < m.args.length := fun p hp h0 => by
    obtain ⟨gs, hg⟩ := h.live p hp
    rw [h0] at hg
    exact Mem.live_lt hg
  have hlen : (grX N st.gl st').length = (idsF gid nm st.gl).length := by simp [grX, idsF, outE]
  have hg := get_call (σ := renOut m.next (idsF gid nm st.gl)) (ns := outNs st.gl st'.gl) h.nodup hlen hlt hn
  have hfr := h.frn
  have g1 := h.frg
  generalize hU : (zipUps (renOut m.next (idsF gid nm st.gl)) (idsF gid nm st.gl) (grX N st.gl st') ++ newUps (renOut m.next (idsF gid nm st.gl)) m.next 0 (outNs st.gl st'.gl)) = U at hg ⊢
  have hnn : (m.upd U).tick.next = m.next + 1 := by simp [Mem.tick, Mem.upd_next]
  have hgt : (m.upd U).tick.get = (m.upd U).get := rfl
  refine ⟨⟨?_, fun k hk hne => ?_, fun i j hi hj ni nj e => ?_, fun k hk hne => ?_, by rw [hnn]; omega, fun k hk hne => ?_⟩, fun p h1 h2 h3 => ?_, fun k hk hne hc => ?_⟩
  · rw [hgt, hg, if_neg (by omega), h.idx0]
    show renBlk _ (grB N (outN st.gl st'.gl) st') = _
    refine grB_ren fun k hk hne => ?_
    unfold outN nmC
    split
    · show renOut m.next _ 1 _ = _
      simp [renOut]
    · rename_i hc
      have hn0 : neB st.gl k = true := (hp.ne' hne).resolve_right hc
      show renOut m.next _ 0 (1 + _) = _
      unfold renOut
      rw [if_pos rfl, ids_at hk hn0]
  · rw [hgt]
    unfold nmC
    split
    · rename_i hc
      rw [hg, if_pos ⟨rfl, by rw [outNs_len]; exact rk_lt hk hc⟩, outNs_get hk hc, plB_ren]
    · rename_i hc
      have hn0 : neB st.gl k = true := (hp.ne' hne).resolve_right hc
      have := hfr k hk hn0
      rw [hg, if_neg (by omega), h.idxk hk hn0]
      show renBlk _ ((grX N st.gl st').getD (1 + rkF (neB st.gl) k) .dead) = _
      unfold grX
      rw [Nat.add_comm, List.getD_cons_succ, outE_get hk hn0, if_neg hc, plB_ren, hp.eq (by simpa using hc)]
  · unfold nmC at e
    split at e
    · rename_i ci
      split at e
      · rename_i cj
        exact rk_inj hi hj ci cj (by have := congrArg Prod.snd e; exact this)
      · rename_i cj
        have := hfr j hj ((hp.ne' nj).resolve_right cj)
        have e1 := congrArg Prod.fst e
        simp only at e1; omega
    · rename_i ci
      split at e
      · rename_i cj
        have := hfr i hi ((hp.ne' ni).resolve_right ci)
        have e1 := congrArg Prod.fst e
        simp only at e1; omega
      · rename_i cj
        exact h.inj i j hi hj ((hp.ne' ni).resolve_right ci) ((hp.ne' nj).resolve_right cj) e
  · unfold nmC
    split
    · intro e
      have := congrArg Prod.fst e
      simp only at this; omega
    · rename_i hc
      exact h.ne k hk ((hp.ne' hne).resolve_right hc)
  · rw [hnn]
    unfold nmC
    split
    · exact Nat.lt_succ_self _
    · rename_i hc
      have := hfr k hk ((hp.ne' hne).resolve_right hc)
      omega
  · rw [hg, if_neg (fun e => h2 e.1), idx_none]
    intro hm
    rcases List.mem_cons.1 hm with e | hm
    · exact h1 e
    · obtain ⟨k, hk, e⟩ := List.mem_map.1 hm
      obtain ⟨k1, k2⟩ := fl_mem.1 hk
      exact h3 k k1 k2 e.symm
  · have := hfr k hk hne
    rw [hg, if_neg (by omega), h.idxk hk hne]
    show renBlk _ ((grX N st.gl st').getD (1 + rkF (neB st.gl) k) .dead) = _
    unfold grX
    rw [Nat.add_comm, List.getD_cons_succ, outE_get hk hne, if_pos hc]; rfl
theorem HasGrp.callX {P : Program} {f : FuncId} {vs vs' : List AV} {v0 : AV} {K : AV → Ups → List Abs.Id → Prop} (hn : m.next ≠ 0) {st' : GS} (hp : Pre st.gl st'.gl) (hc : ACalls P f vs' (grX N st.gl st) (fun r xs ns => r = v0 ∧ xs = grX N st.gl st' ∧ ns = outNs st.gl st'.gl))
    (hv : renVs (renIn (idsF gid nm st.gl)) vs = vs') (hv0 : ∀ σ : Ren, renV σ v0 = v0) (hK : ∀ ups, AfterC m gid nm N st st' ups → K v0 ups (idsF gid nm st.gl)) : CallsX P f vs m K := by
  refine CallsX.args (idsF gid nm st.gl) hc h.nodup (fun p hp => ?_) hv h.args ?_
  · obtain ⟨gs, hg⟩ := h.live p hp; rw [hg]; simp
  · rw [hv0]; exact hK _ (h.after hn hp)
theorem HasGrp.callV {P : Program} {f : FuncId} {vs vs' : List AV} {v0 : AV} {K : AV → Ups → List Abs.Id → Prop} (hn : m.next ≠ 0) {st' : GS} (hp : Pre st.gl st'.gl) (hc : ACalls P f vs' (grX N st.gl st) (fun r xs ns => r = v0 ∧ xs = grX N st.gl st' ∧ ns = outNs st.gl st'.gl))
    (hv : renVs (renIn (idsF gid nm st.gl)) vs = vs') (hv0 : ∀ σ : Ren, renV σ v0 = v0) (hK : ∀ ups, AfterC m gid nm N st st' ups → K v0 ups (idsF gid nm st.gl)) : CallsVia P f vs m K := by
  refine CallsVia.args (idsF gid nm st.gl) hc h.nodup (fun p hp => ?_) hv h.args ?_
  · obtain ⟨gs, hg⟩ := h.live p hp; rw [hg]; simp
  · rintro _ _ _ ⟨rfl, rfl, rfl⟩
    rw [hv0]; exact hK _ (h.after hn hp)
end
abbrev LocB := List (Abs.Id × Blk)
/-! a function whose first argument is the group -/
structure Body (gl0 : GL) (m : Mem) (nm : Nm) (N : Nat) (st : GS) : Prop where
  args : m.args = grB N nm st :: outE gl0 st.gl
  pre : Pre gl0 st.gl
  nmU : ∀ k, k < 10 → chB gl0 st.gl k = false → nm k = (0, 1 + rkF (neB gl0) k)
  nmN : ∀ k, k < 10 → chB gl0 st.gl k = true → (nm k).1 ≠ 0 ∧ (nm k).1 < m.next ∧ m.get (nm k).1 (nm k).2 = plB (st.gl k)
  inj : ∀ i j, i < 10 → j < 10 → chB gl0 st.gl i = true → chB gl0 st.gl j = true → nm i = nm j → i = j
  pos : 0 < m.next
theorem getD_args {a : Blk} {l : List Blk} {i : Nat} : (a :: l).getD (1 + i) .dead = l.getD i .dead := by rw [Nat.add_comm]; rfl
theorem Body.has {gl0 : GL} {m : Mem} {nm : Nm} {N : Nat} {st : GS} (h : Body gl0 m nm N st) : HasGrp m (0, 0) nm N st := by
  have hcase : ∀ k, k < 10 → neB st.gl k = true → ((nm k).1 ≠ 0 ∧ chB gl0 st.gl k = true) ∨ (nm k = (0, 1 + rkF (neB gl0) k) ∧ neB gl0 k = true ∧ chB gl0 st.gl k = false) := fun k hk hn => by
    cases hc : chB gl0 st.gl k
    · exact .inr ⟨h.nmU k hk hc, (h.pre.ne' hn).resolve_right (by rw [hc]; simp), rfl⟩
    · exact .inl ⟨(h.nmN k hk hc).1, rfl⟩
  have hpos := h.pos
  refine ⟨?_, fun k hk hn => ?_, fun i j hi hj ni nj e => ?_, fun k hk hn e => ?_, hpos, fun k hk hn => ?_⟩
  · show m.args.getD 0 .dead = _
    rw [h.args]; rfl
  · rcases hcase k hk hn with ⟨_, hc⟩ | ⟨e, h1, hc⟩
    · exact (h.nmN k hk hc).2.2
    · rw [e]
      show m.args.getD (1 + rkF (neB gl0) k) .dead = _
      rw [h.args, getD_args, outE_get hk h1, hc, if_neg (by simp), h.pre.eq hc]
  · rcases hcase i hi ni with ⟨a1, a2⟩ | ⟨a1, a2, a3⟩
    · rcases hcase j hj nj with ⟨b1, b2⟩ | ⟨b1, b2, b3⟩
      · exact h.inj i j hi hj a2 b2 e
      · rw [e, b1] at a1; exact absurd rfl a1
    · rcases hcase j hj nj with ⟨b1, b2⟩ | ⟨b1, b2, b3⟩
      · rw [← e, a1] at b1; exact absurd rfl b1
      · rw [a1, b1] at e
        have := congrArg Prod.snd e
        simp only at this
        exact rk_inj hi hj a2 b2 (by omega)
  · rcases hcase k hk hn with ⟨a1, _⟩ | ⟨a1, _⟩
    · rw [e] at a1; exact a1 rfl
    · rw [a1] at e
      have := congrArg Prod.snd e
      simp only at this; omega
  · rcases hcase k hk hn with ⟨_, hc⟩ | ⟨a1, _⟩
    · exact (h.nmN k hk hc).2.1
    · rw [a1]; exact hpos
theorem upd_at_next {ups : Ups} : ∀ {a : List Blk} {l : LocB} {n n' : Nat}, (Mem.mk a l n').upd ups = ⟨((Mem.mk a l n).upd ups).args, ((Mem.mk a l n).upd ups).loc, n'⟩ := by
  induction ups with
  | nil => intro a l n n'; rfl
  | cons x r ih =>
    obtain ⟨p, b⟩ := x
    intro a l n n'
    rw [Mem.upd, Mem.upd]
    unfold Mem.put
    split
    · exact ih
    · exact ih
theorem Body.after {gl0 : GL} {args : List Blk} {loc : LocB} {n : Nat} {nm : Nm} {N : Nat} {st st' : GS} {ups : Ups} (h : Body gl0 ⟨args, loc, n⟩ nm N st) (hp : Pre st.gl st'.gl) (ha : AfterC ⟨args, loc, n⟩ (0, 0) nm N st st' ups) :
    ∃ loc' : LocB, (∀ n', (Mem.mk args loc n').upd ups = ⟨grB N (nmC n nm st.gl st'.gl) st' :: outE gl0 st'.gl, loc', n'⟩) ∧ Body gl0 ⟨grB N (nmC n nm st.gl st'.gl) st' :: outE gl0 st'.gl, loc', n + 1⟩ (nmC n nm st.gl st'.gl) N st' ∧
      ∀ p : Abs.Id, p.1 ≠ 0 → p.1 ≠ n → (∀ k, k < 10 → chB gl0 st.gl k = true → p ≠ nm k) → assoc loc' p.1 p.2 = assoc loc p.1 p.2 := by
  have hpos : 0 < n := h.pos
  have hpre := h.pre.trans hp
  have hlen : ((Mem.mk args loc n).upd ups).args.length = args.length := Mem.upd_args ups _
  have hargs : args = grB N nm st :: outE gl0 st.gl := h.args
  have hnamed : ∀ k, k < 10 → neB st.gl k = true → chB gl0 st.gl k = true ∨ (nm k = (0, 1 + rkF (neB gl0) k) ∧ neB gl0 k = true) := fun k hk hn => by
    cases hc : chB gl0 st.gl k
    · exact .inr ⟨h.nmU k hk hc, (h.pre.ne' hn).resolve_right (by rw [hc]; simp)⟩
    · exact .inl rfl
  have hg0 := fun j => (show ((Mem.mk args loc n).upd ups).get 0 j = ((Mem.mk args loc n).upd ups).args.getD j .dead from rfl)
  have ea : ((Mem.mk args loc n).upd ups).args = grB N (nmC n nm st.gl st'.gl) st' :: outE gl0 st'.gl := by
    have ext : ∀ (A B : List Blk), A.length = B.length → (∀ i, i < A.length → A.getD i .dead = B.getD i .dead) → A = B := by
      intro A B hl he
      refine List.ext_getElem hl fun i h1 h2 => ?_
      have := he i h1
      simpa [h1, h2] using this
    refine ext _ _ (by rw [hlen, hargs]; simp [outE_len]) fun i hi => ?_
    rw [hlen, hargs, List.length_cons, outE_len] at hi
    rw [← hg0]
    by_cases e0 : i = 0
    · subst e0; exact ha.has.grp
    · obtain ⟨r, rfl⟩ : ∃ r, i = 1 + r := ⟨i - 1, by omega⟩
      obtain ⟨k, hk, hn0, rfl⟩ := rk_of (P := neB gl0) (r := r) (by omega)
      rw [getD_args, outE_get hk hn0]
      cases hc : chB gl0 st.gl k
      · have hnm := h.nmU k hk hc
        have hne := h.pre.ne hn0
        cases hc2 : chB st.gl st'.gl k
        · have e1 : chB gl0 st'.gl k = false := by
            cases e : chB gl0 st'.gl k
            · rfl
            · rcases (h.pre.ch hp).1 e with h1 | h1
              · rw [hc] at h1; cases h1
              · rw [hc2] at h1; cases h1
          have e2 : nmC n nm st.gl st'.gl k = (0, 1 + rkF (neB gl0) k) := by unfold nmC; rw [hc2, if_neg (by simp)]; exact hnm
          have := ha.has.nam k hk (hp.ne hne)
          rw [show (nmC (Mem.mk args loc n).next nm st.gl st'.gl) k = (0, 1 + rkF (neB gl0) k) from e2] at this
          rw [e1, if_neg (by simp), ← hpre.eq e1]; exact this
        · have e1 : chB gl0 st'.gl k = true := (h.pre.ch hp).2 (.inr hc2)
          have := ha.ded k hk hne hc2
          rw [hnm] at this
          rw [e1, if_pos rfl]; exact this
      · have e1 : chB gl0 st'.gl k = true := (h.pre.ch hp).2 (.inl hc)
        have := ha.oth (0, 1 + rkF (neB gl0) k) (by intro e; have := congrArg Prod.snd e; simp only at this; omega) (by show (0 : Nat) ≠ n; omega) (fun k' hk' hn' e => by
          rcases hnamed k' hk' hn' with h1 | ⟨h1, h2⟩
          · have := (h.nmN k' hk' h1).1
            rw [← e] at this; exact this rfl
          · rw [h1] at e
            have e3 := congrArg Prod.snd e
            simp only at e3
            have := rk_inj hk hk' hn0 h2 (by omega)
            subst this
            have := (h.nmN k hk hc).1
            rw [h1] at this
            exact this rfl)
        rw [e1, if_pos rfl]
        refine this.trans ?_
        show args.getD (1 + rkF (neB gl0) k) .dead = _
        rw [hargs, getD_args, outE_get hk hn0, hc, if_pos rfl]
  have hU : (Mem.mk args loc n).upd ups = ⟨grB N (nmC n nm st.gl st'.gl) st' :: outE gl0 st'.gl, ((Mem.mk args loc n).upd ups).loc, n⟩ := by
    have := upd_at_next (ups := ups) (a := args) (l := loc) (n := n) (n' := n)
    rw [ea] at this; exact this
  have hneC : ∀ {a b : GL}, Pre a b → ∀ k, chB a b k = true → neB b k = true := fun {a b} hab k hc => by
    have := hab.le k
    unfold chB at hc
    unfold neB
    rw [decide_eq_true_iff] at hc ⊢
    omega
  have hhas := ha.has
  rw [show (Mem.mk args loc n).next = n from rfl] at hhas
  have hoth := ha.oth
  rw [hU] at hhas hoth
  generalize ((Mem.mk args loc n).upd ups).loc = loc' at hU hhas hoth
  refine ⟨loc', fun n' => ?_, ⟨rfl, hpre, fun k hk hc => ?_, fun k hk hc => ?_, fun i j hi hj ci cj e => ?_, Nat.succ_pos n⟩, fun p h0 h1 h2 => ?_⟩
  · have := upd_at_next (ups := ups) (a := args) (l := loc) (n := n) (n' := n')
    rw [hU] at this; exact this
  · have c1 : chB gl0 st.gl k = false := by
      cases e : chB gl0 st.gl k
      · rfl
      · rw [(h.pre.ch hp).2 (.inl e)] at hc; cases hc
    have c2 : chB st.gl st'.gl k = false := by
      cases e : chB st.gl st'.gl k
      · rfl
      · rw [(h.pre.ch hp).2 (.inr e)] at hc; cases hc
    unfold nmC; rw [c2, if_neg (by simp)]; exact h.nmU k hk c1
  · have hn' := hneC hpre k hc
    refine ⟨?_, ?_, hhas.nam k hk hn'⟩
    · unfold nmC
      split
      · show n ≠ 0; omega
      · rename_i c2
        exact (h.nmN k hk (((h.pre.ch hp).1 hc).resolve_right c2)).1
    · exact hhas.frn k hk hn'
  · exact hhas.inj i j hi hj (hneC hpre i ci) (hneC hpre j cj) e
  · have := hoth p (fun e => h0 (by rw [e])) h1 (fun k hk hn e => by
      rcases hnamed k hk hn with hc | ⟨hc, _⟩
      · exact h2 k hk hc e
      · rw [e, hc] at h0; exact h0 rfl)
    rw [Mem.get, if_neg h0, Mem.get, if_neg h0] at this; exact this
/-- A call that is handed the group, in a function whose first argument it is. -/
theorem Body.callX {P : Program} {f : FuncId} {vs vs' : List AV} {v0 : AV} {K : AV → Ups → List Abs.Id → Prop} {gl0 : GL} {args : List Blk} {loc : LocB} {n : Nat} {nm : Nm} {N : Nat} {st st' : GS} (h : Body gl0 ⟨args, loc, n⟩ nm N st) (hp : Pre st.gl st'.gl)
    (hc : ACalls P f vs' (grX N st.gl st) (fun r xs ns => r = v0 ∧ xs = grX N st.gl st' ∧ ns = outNs st.gl st'.gl)) (hv : renVs (renIn (idsF (0, 0) nm st.gl)) vs = vs') (hv0 : ∀ σ : Ren, renV σ v0 = v0)
    (hK : ∀ (ups : Ups) (loc' : LocB), (∀ n', (Mem.mk args loc n').upd ups = ⟨grB N (nmC n nm st.gl st'.gl) st' :: outE gl0 st'.gl, loc', n'⟩) → Body gl0 ⟨grB N (nmC n nm st.gl st'.gl) st' :: outE gl0 st'.gl, loc', n + 1⟩ (nmC n nm st.gl st'.gl) N st' →
      (∀ p : Abs.Id, p.1 ≠ 0 → p.1 ≠ n → (∀ k, k < 10 → chB gl0 st.gl k = true → p ≠ nm k) → assoc loc' p.1 p.2 = assoc loc p.1 p.2) → K v0 ups (idsF (0, 0) nm st.gl)) : CallsX P f vs ⟨args, loc, n⟩ K := by
  refine h.has.callX (by have := h.pos; show n ≠ 0; have h2 : 0 < n := this; omega) hp hc hv hv0 fun ups ha => ?_
  obtain ⟨loc', h1, h2, h3⟩ := h.after hp ha
  exact hK ups loc' h1 h2 h3
theorem Body.callV {P : Program} {f : FuncId} {vs vs' : List AV} {v0 : AV} {K : AV → Ups → List Abs.Id → Prop} {gl0 : GL} {args : List Blk} {loc : LocB} {n : Nat} {nm : Nm} {N : Nat} {st st' : GS} (h : Body gl0 ⟨args, loc, n⟩ nm N st) (hp : Pre st.gl st'.gl)
    (hc : ACalls P f vs' (grX N st.gl st) (fun r xs ns => r = v0 ∧ xs = grX N st.gl st' ∧ ns = outNs st.gl st'.gl)) (hv : renVs (renIn (idsF (0, 0) nm st.gl)) vs = vs') (hv0 : ∀ σ : Ren, renV σ v0 = v0)
    (hK : ∀ (ups : Ups) (loc' : LocB), (∀ n', (Mem.mk args loc n').upd ups = ⟨grB N (nmC n nm st.gl st'.gl) st' :: outE gl0 st'.gl, loc', n'⟩) → Body gl0 ⟨grB N (nmC n nm st.gl st'.gl) st' :: outE gl0 st'.gl, loc', n + 1⟩ (nmC n nm st.gl st'.gl) N st' →
      (∀ p : Abs.Id, p.1 ≠ 0 → p.1 ≠ n → (∀ k, k < 10 → chB gl0 st.gl k = true → p ≠ nm k) → assoc loc' p.1 p.2 = assoc loc p.1 p.2) → K v0 ups (idsF (0, 0) nm st.gl)) : CallsVia P f vs ⟨args, loc, n⟩ K := by
  refine h.has.callV (by have := h.pos; show n ≠ 0; have h2 : 0 < n := this; omega) hp hc hv hv0 fun ups ha => ?_
  obtain ⟨loc', h1, h2, h3⟩ := h.after hp ha
  exact hK ups loc' h1 h2 h3

/-! has -/
theorem grX_len {N : Nat} {gl : GL} {st : GS} : (grX N gl st).length = 1 + (fl (neB gl)).length := by simp [grX, outE]; omega
theorem grX_fix {N : Nat} {st : GS} {σ : Ren} (h : ∀ k, σ 0 k = some (0, k)) : (grX N st.gl st).map (renBlk σ) = grX N st.gl st := by
  unfold grX
  rw [List.map_cons, outE_ren, grB_ren (nm' := outN st.gl st.gl) fun k hk hn => ?_]
  unfold outN
  rw [chB_self, if_neg (by simp)]
  exact h _
theorem renTo0 {σ : List (Abs.Id × Abs.Id)} {k : Nat} : renTo σ 0 k = some (0, k) := by cases σ <;> rfl
theorem renFin0 {l : List Abs.Id} {k : Nat} : renFin l 0 k = some (0, k) := rfl
theorem implBack_ok (N : Nat) (p : List Int) (hp : Bytes 10 p) (hN : N ≤ 10) (hb : ∀ i, i < N → pl p i < 10) :
    ACalls Try.prog 105 [.agg (plS p), .i .i64 N] [] (fun v ms ns => v = .agg (plS (bkL (pl p) N)) ∧ ms = [] ∧ ns = []) := by
  refine acalls_of_body mix Try.func105 rfl fok105 (Nat.le_of_ble_eq_true rfl) ?_
  unfold abody
  simp only [absE, absL, absF, reduceCtorEq, ↓reduceIte, Nat.reduceEqDiff, Nat.reduceAdd, Nat.reduceLT, Nat.reduceMul, Nat.reduceSub, Nat.reduceLeDiff, Int.reduceLT, Int.reduceLE, Int.reduceEq, Option.isSome_some, implies_true, false_implies, Prod.mk.injEq, ne_eq, not_false_eq_true, not_true_eq_false, ge_iff_le, gt_iff_lt, Int.toNat_natCast, Int.reduceToNat, Int.cast_ofNat_Int, Int.natCast_nonneg, Try.f105]
  refine awpLoop.intro (fun x : Nat => [(2, .ref (.ptr 1 0 0 0)), (4, .ref (.ptr 2 0 0 0)), (5, .ref (.ptr 4 0 0 0)), (8, .i .i64 N), (9, .i .i64 x)]) (fun x => ⟨[], [((1, 0), .lv true (plS p)), ((2, 0), .lv true (plS (List.replicate 10 0))), ((4, 0), .lv true (plS (bkL (pl p) x)))], 8⟩)
    (fun x => x ≤ N) (fun x => N - x) 0 (by omega) ⟨[((1,0),(1,0)), ((2,0),(2,0)), ((4,0),(4,0))], rfl, ?_, ?_⟩ ?_
  · simp [wkEnv, lk, renV, renAt, renTo, bkL]
  · simp [wkMem, wkLoc, Mem.get, assoc, renBlk, renSegs, renSg, renTo, bkL]
  · intro x hx
    by_cases h : (x : Int) < N
    · have w := wrap_i64s (show x < 2 ^ 62 by omega)
      have w8 := wrap_u8n (show x < 256 by omega)
      have j1 := hb x (by omega)
      have i1 : (x : Int) < 10 := by omega
      have i2 : (pl p x : Int) < 10 := by omega
      have u1 : 0 + x * 1 < 10 := by omega
      have u3 : 0 + pl p x * 1 + 1 ≤ 10 := by omega
      have k1 : p.getD (0 + x * 1) 0 = (pl p x : Int) := by rw [Nat.zero_add, Nat.mul_one]; exact hp.place x
      simp only [absE, absL, absF, reduceCtorEq, ↓reduceIte, Nat.reduceEqDiff, Nat.reduceAdd, Nat.reduceLT, Nat.reduceMul, Nat.reduceSub, Nat.reduceLeDiff, Int.reduceLT, Int.reduceLE, Int.reduceEq, Option.isSome_some, implies_true, false_implies, Prod.mk.injEq, ne_eq, not_false_eq_true, not_true_eq_false, ge_iff_le, gt_iff_lt, Int.toNat_natCast, Int.reduceToNat, Int.cast_ofNat_Int, Int.natCast_nonneg, h, i1, i2, u1, u3, k1, w8]
      refine LoopNext.intro (x + 1) (by omega) (by omega) ⟨[((1,0),(1,0)), ((2,0),(2,0)), ((4,0),(4,0))], rfl, ?_, ?_⟩
      · simp [wkEnv, lk, renV, renAt, renTo, bkL, w]
      · simp [wkMem, wkLoc, Mem.get, assoc, renBlk, renSegs, renSg, renTo, bkL, w]
    · have hxN : x = N := by omega
      subst hxN
      simp only [absE, absL, absF, reduceCtorEq, ↓reduceIte, Nat.reduceEqDiff, Nat.reduceAdd, Nat.reduceLT, Nat.reduceMul, Nat.reduceSub, Nat.reduceLeDiff, Int.reduceLT, Int.reduceLE, Int.reduceEq, Option.isSome_some, implies_true, false_implies, Prod.mk.injEq, ne_eq, not_false_eq_true, not_true_eq_false, ge_iff_le, gt_iff_lt, Int.toNat_natCast, Int.reduceToNat, Int.cast_ofNat_Int, Int.natCast_nonneg, h, Try.results105]
      exact ⟨[], by simp, by simp, by simp [renV, renVs, renSegs, renSg]⟩
theorem has_okG (N : Nat) (hN : N ≤ 10) {L0 : List Int → Prop} (st : GS) (hst : GOk N L0 st) (k : Nat) (hk : k ≤ N) (p : List Int) (hp : Vp N p) (hf : ∀ i, i < k → pl p i = i) :
    ACalls Try.prog 94 [.ref (.ptr 0 0 0 0), .agg (plS p), .i .i64 k] (grX N st.gl st) (fun v ms ns => v = .b (sftG N st k p) ∧ ms = grX N st.gl st ∧ ns = outNs st.gl st.gl) := by
  have hfix : ∀ σ : List (Abs.Id × Abs.Id), (grX N st.gl st).map (renBlk (renTo σ)) = grX N st.gl st := fun σ => grX_fix fun k => renTo0
  have e00 : (grX N st.gl st).getD 0 .dead = .lv true [(0, .ints .i64 1 [(N : Int)]), (1, .cells 10 (cellsN (outN st.gl st.gl) st.gl)), (11, .ints .u8 1000 st.b), (1011, .bools 100 st.h)] := rfl
  rw [outNs_self]
  refine acalls_of_body mix Try.func94 rfl fok94 (Nat.le_of_ble_eq_true rfl) ?_
  unfold abody
  simp only [absE, absL, absF, reduceCtorEq, ↓reduceIte, Nat.reduceEqDiff, Nat.reduceAdd, Nat.reduceLT, Nat.reduceMul, Nat.reduceSub, Nat.reduceLeDiff, Int.reduceLT, Int.reduceLE, Int.reduceEq, Option.isSome_some, implies_true, false_implies, Prod.mk.injEq, ne_eq, not_false_eq_true, not_true_eq_false, ge_iff_le, gt_iff_lt, Int.toNat_natCast, Int.reduceToNat, Int.cast_ofNat_Int, Int.natCast_nonneg, Try.f94]
  refine awpLoop.intro (fun s : Nat × List Int => [(0, .ref (.ptr 0 0 0 0)), (2, .i .i64 s.1), (4, .ref (.ptr 1 0 0 0)), (6, .b false)]) (fun s => ⟨grX N st.gl st, [((1, 0), .lv true (plS s.2))], 3⟩)
    (fun s => s.1 ≤ N ∧ Vp N s.2 ∧ (∀ x, x < s.1 → pl s.2 x = x) ∧ sftG N st k p = sftG N st s.1 s.2) (fun s => N - s.1) (k, p) ⟨hk, hp, hf, rfl⟩ ⟨[((1,0),(1,0))], rfl, ?_, ?_⟩ ?_
  · simp [wkEnv, lk, renV, renAt, renTo]
  · simp [wkMem, wkLoc, Mem.get, assoc, renBlk, renSegs, renSg, hfix]
  · rintro ⟨i, r⟩ ⟨hi, hr, hrf, hs⟩
    simp only at hi hr hrf hs
    by_cases h : (i : Int) < N
    · have hi2 : i < N := by omega
      have w := wrap_i64s (show i < 2 ^ 62 by omega)
      have hj := hr.lt hN hi2
      rw [sftG_lvl hN hi2] at hs
      have i10 : (i : Int) < 10 := by omega
      have j10 : (pl r i : Int) < 10 := by omega
      have v1 : 0 + i * 1 < 10 := by omega
      have e1 : r.getD (0 + i * 1) 0 = (pl r i : Int) := by rw [Nat.zero_add, Nat.mul_one]; exact hr.by_.place i
      have v2 : 0 + i * 10 + pl r i * 1 < 100 := by omega
      have eh : st.h.getD (0 + i * 10 + pl r i * 1) false = hasG st i (pl r i) := rfl
      have v3 : 0 + i * 100 + pl r i * 10 + 10 ≤ 1000 := by omega
      have eb : (st.b.drop (0 + i * 100 + pl r i * 10)).take 10 = byG st i (pl r i) := rfl
      simp only [absE, absL, absF, reduceCtorEq, ↓reduceIte, Nat.reduceEqDiff, Nat.reduceAdd, Nat.reduceLT, Nat.reduceMul, Nat.reduceSub, Nat.reduceLeDiff, Int.reduceLT, Int.reduceLE, Int.reduceEq, Option.isSome_some, implies_true, false_implies, Prod.mk.injEq, ne_eq, not_false_eq_true, not_true_eq_false, ge_iff_le, gt_iff_lt, Int.toNat_natCast, Int.reduceToNat, Int.cast_ofNat_Int, Int.natCast_nonneg, e00, h, i10, v1, e1, j10, v2, eh]
      cases hh : hasG st i (pl r i)
      · rw [hh, Bool.false_and] at hs
        simp only [absE, absL, absF, reduceCtorEq, ↓reduceIte, Nat.reduceEqDiff, Nat.reduceAdd, Nat.reduceLT, Nat.reduceMul, Nat.reduceSub, Nat.reduceLeDiff, Int.reduceLT, Int.reduceLE, Int.reduceEq, Option.isSome_some, implies_true, false_implies, Prod.mk.injEq, ne_eq, not_false_eq_true, not_true_eq_false, ge_iff_le, gt_iff_lt, Int.toNat_natCast, Int.reduceToNat, Int.cast_ofNat_Int, Int.natCast_nonneg, e00, Try.results94]
        exact ⟨[], by simp, by simp, by simp [renV, hs], grX_fix fun k => renFin0, by simp⟩
      · rw [hh, Bool.true_and] at hs
        have hb := (hst.by_ hN hi2 (by omega) hh).1
        obtain ⟨r1, r2⟩ := (hst.chain hN).rest hN hi2 hr hrf hh
        simp only [absE, absL, absF, reduceCtorEq, ↓reduceIte, Nat.reduceEqDiff, Nat.reduceAdd, Nat.reduceLT, Nat.reduceMul, Nat.reduceSub, Nat.reduceLeDiff, Int.reduceLT, Int.reduceLE, Int.reduceEq, Option.isSome_some, implies_true, false_implies, Prod.mk.injEq, ne_eq, not_false_eq_true, not_true_eq_false, ge_iff_le, gt_iff_lt, Int.toNat_natCast, Int.reduceToNat, Int.cast_ofNat_Int, Int.natCast_nonneg, e00, h, i10, v1, e1, j10, v2, eh, v3, eb]
        refine CallsX.none (implBack_ok N (byG st i (pl r i)) hb.by_ hN (fun x hx => by have := hb.lt hN hx; omega)) ?_
        simp only [absE, absL, absF, reduceCtorEq, ↓reduceIte, Nat.reduceEqDiff, Nat.reduceAdd, Nat.reduceLT, Nat.reduceMul, Nat.reduceSub, Nat.reduceLeDiff, Int.reduceLT, Int.reduceLE, Int.reduceEq, Option.isSome_some, implies_true, false_implies, Prod.mk.injEq, ne_eq, not_false_eq_true, not_true_eq_false, ge_iff_le, gt_iff_lt, Int.toNat_natCast, Int.reduceToNat, Int.cast_ofNat_Int, Int.natCast_nonneg, e00]
        repeat refine And.intro (by decide +kernel) ?_
        refine CallsX.none (implThen_ok N r (bkL (pl (byG st i (pl r i))) N) hr.by_ (hb.bk hN).by_ hN (fun x hx => by have := hr.lt hN hx; omega)) ?_
        have fold : mapL (fun x => pl (bkL (pl (byG st i (pl r i))) N) (pl r x)) N = th N r (bk N (byG st i (pl r i))) := rfl
        simp only [absE, absL, absF, reduceCtorEq, ↓reduceIte, Nat.reduceEqDiff, Nat.reduceAdd, Nat.reduceLT, Nat.reduceMul, Nat.reduceSub, Nat.reduceLeDiff, Int.reduceLT, Int.reduceLE, Int.reduceEq, Option.isSome_some, implies_true, false_implies, Prod.mk.injEq, ne_eq, not_false_eq_true, not_true_eq_false, ge_iff_le, gt_iff_lt, Int.toNat_natCast, Int.reduceToNat, Int.cast_ofNat_Int, Int.natCast_nonneg, fold]
        repeat refine And.intro (by decide +kernel) ?_
        simp only [absE, absL, absF, reduceCtorEq, ↓reduceIte, Nat.reduceEqDiff, Nat.reduceAdd, Nat.reduceLT, Nat.reduceMul, Nat.reduceSub, Nat.reduceLeDiff, Int.reduceLT, Int.reduceLE, Int.reduceEq, Option.isSome_some, implies_true, false_implies, Prod.mk.injEq, ne_eq, not_false_eq_true, not_true_eq_false, ge_iff_le, gt_iff_lt, Int.toNat_natCast, Int.reduceToNat, Int.cast_ofNat_Int, Int.natCast_nonneg]
        refine LoopNext.intro (i + 1, th N r (bk N (byG st i (pl r i)))) ⟨by simp only; omega, r1, r2, hs⟩ (by simp only; omega) ⟨[((1,0),(1,0))], rfl, ?_, ?_⟩
        · simp [wkEnv, lk, renV, renAt, renTo, w]
        · simp [wkMem, wkLoc, Mem.get, assoc, renBlk, renSegs, renSg, hfix]
    · obtain rfl : i = N := by omega
      have ht : sftG i st i r = true := by unfold sftG; rw [Nat.sub_self]; rfl
      rw [ht] at hs
      simp only [absE, absL, absF, reduceCtorEq, ↓reduceIte, Nat.reduceEqDiff, Nat.reduceAdd, Nat.reduceLT, Nat.reduceMul, Nat.reduceSub, Nat.reduceLeDiff, Int.reduceLT, Int.reduceLE, Int.reduceEq, Option.isSome_some, implies_true, false_implies, Prod.mk.injEq, ne_eq, not_false_eq_true, not_true_eq_false, ge_iff_le, gt_iff_lt, Int.toNat_natCast, Int.reduceToNat, Int.cast_ofNat_Int, Int.natCast_nonneg, e00, h, Try.results94]
      exact ⟨[], by simp, by simp, by simp [renV, hs], grX_fix fun k => renFin0, by simp⟩

/-! the memory of a group: loops, begin and end of a function -/
abbrev PairsG := List (Abs.Id × Abs.Id)
theorem renTo_memG {σ : PairsG} {p q : Abs.Id} (hnd : (σ.map (fun x => x.1)).Nodup) (h0 : p.1 ≠ 0) (h : (p, q) ∈ σ) : renTo σ p.1 p.2 = some q := by
  induction σ with
  | nil => cases h
  | cons x r ih =>
    obtain ⟨p', q'⟩ := x
    rw [List.map_cons, List.nodup_cons] at hnd
    unfold renTo
    rw [if_neg h0]
    simp only
    rcases List.mem_cons.1 h with e | h
    · cases e; rw [if_pos ⟨rfl, rfl⟩]
    · rw [if_neg, ih hnd.2 h]
      rintro ⟨e1, e2⟩
      exact hnd.1 (List.mem_map.2 ⟨(p, q), h, by rw [← Prod.eta p', ← Prod.eta p]; simp [e1, e2]⟩)
def canN (t : Nat) (gl0 gl : GL) : Nm := fun k => if chB gl0 gl k = true then (t, k) else (0, 1 + rkF (neB gl0) k)
def bagN (t : Nat) (gl0 gl : GL) : LocB := (fl (chB gl0 gl)).map fun k => ((t, k), plB (gl k))
def sgN (t : Nat) (gl0 gl : GL) (nm : Nm) : PairsG := (fl (chB gl0 gl)).map fun k => (nm k, (t, k))
theorem assoc_bag {t : Nat} {f : Nat → Blk} {k : Nat} : ∀ {l : List Nat}, k ∈ l → assoc (l.map fun k => (((t, k) : Abs.Id), f k)) t k = f k
  | [], h => by cases h
  | a :: l, h => by
    rw [List.map_cons, assoc]
    by_cases e : a = k
    · subst e; rw [if_pos ⟨rfl, rfl⟩]
    · rw [if_neg (fun h => e h.2)]
      exact assoc_bag ((List.mem_cons.1 h).resolve_left (fun h => e h.symm))
theorem wkLoc_sg {m : Mem} {τ : Ren} {t : Nat} {nm : Nm} : ∀ {l : List Nat}, wkLoc m τ (l.map fun k => (nm k, (t, k))) = l.map fun k => ((t, k), renBlk τ (m.get (nm k).1 (nm k).2))
  | [] => rfl
  | a :: l => by rw [List.map_cons, wkLoc, wkLoc_sg, List.map_cons]
theorem Body.weak {gl0 : GL} {args : List Blk} {loc : LocB} {n : Nat} {nm : Nm} {N : Nat} {st : GS} (h : Body gl0 ⟨args, loc, n⟩ nm N st) {x t n0 : Nat} {bx : Blk} (hx0 : x ≠ 0) (hxt : x ≠ t) (ht : t ≠ 0) (hxn : x < n0) (htn : t < n0) (hbx : assoc loc x 0 = bx) (hren : ∀ σ : Ren, renBlk σ bx = bx) (hnx : ∀ k, k < 10 → chB gl0 st.gl k = true → nm k ≠ (x, 0)) :
    wkOk (((x, 0), (x, 0)) :: sgN t gl0 st.gl nm) n0 = true ∧ ∀ n', (⟨grB N (canN t gl0 st.gl) st :: outE gl0 st.gl, ((x, 0), bx) :: bagN t gl0 st.gl, n0⟩ : Mem) = wkMem (((x, 0), (x, 0)) :: sgN t gl0 st.gl nm) n0 ⟨args, loc, n'⟩ := by
  have nd1 : ((((x, 0), (x, 0)) :: sgN t gl0 st.gl nm).map (fun x => x.1)).Nodup := by
    rw [List.map_cons, List.nodup_cons]
    unfold sgN
    rw [List.map_map]
    refine ⟨fun hm => ?_, ?_⟩
    · obtain ⟨k, hk, e⟩ := List.mem_map.1 hm
      obtain ⟨h1, h2⟩ := fl_mem.1 hk
      exact hnx k h1 h2 e
    · unfold List.Nodup
      rw [List.pairwise_map]
      refine List.Pairwise.imp_of_mem ?_ (fl_nodup (P := chB gl0 st.gl))
      intro a b ha hb hab e
      obtain ⟨a1, a2⟩ := fl_mem.1 ha
      obtain ⟨b1, b2⟩ := fl_mem.1 hb
      exact hab (h.inj a b a1 b1 a2 b2 e)
  have nd2 : ((((x, 0), (x, 0)) :: sgN t gl0 st.gl nm).map (fun x => x.2)).Nodup := by
    rw [List.map_cons, List.nodup_cons]
    unfold sgN
    rw [List.map_map]
    refine ⟨fun hm => ?_, ?_⟩
    · obtain ⟨k, hk, e⟩ := List.mem_map.1 hm
      have := congrArg Prod.fst e
      simp only [Function.comp] at this
      exact hxt this.symm
    · unfold List.Nodup
      rw [List.pairwise_map]
      refine List.Pairwise.imp_of_mem ?_ (fl_nodup (P := chB gl0 st.gl))
      intro a b ha hb hab e
      have := congrArg Prod.snd e
      simp only [Function.comp] at this
      exact hab this
  refine ⟨?_, ?_⟩
  · unfold wkOk
    rw [Bool.and_eq_true, Bool.and_eq_true, Bool.and_eq_true, List.all_eq_true]
    refine ⟨⟨⟨fun y hy => ?_, decide_eq_true nd1⟩, decide_eq_true nd2⟩, decide_eq_true (by omega)⟩
    rcases List.mem_cons.1 hy with rfl | hy
    · simp [hx0, hxn]
    · obtain ⟨k, hk, rfl⟩ := List.mem_map.1 hy
      obtain ⟨h1, h2⟩ := fl_mem.1 hk
      have := (h.nmN k h1 h2).1
      simp [this, ht, htn]
  · intro n'
    unfold wkMem
    have ea : args = grB N nm st :: outE gl0 st.gl := h.args
    have e1 : args.map (renBlk (renTo (((x, 0), (x, 0)) :: sgN t gl0 st.gl nm))) = grB N (canN t gl0 st.gl) st :: outE gl0 st.gl := by
      rw [ea, List.map_cons, outE_ren]
      congr 1
      refine grB_ren fun k hk hn => ?_
      unfold canN
      split
      · rename_i hc
        exact renTo_memG nd1 (h.nmN k hk hc).1 (List.mem_cons_of_mem _ (List.mem_map.2 ⟨k, fl_mem.2 ⟨hk, hc⟩, rfl⟩))
      · rename_i hc
        rw [h.nmU k hk (by simpa using hc)]; exact renTo0
    have e2 : wkLoc ⟨args, loc, n'⟩ (renTo (((x, 0), (x, 0)) :: sgN t gl0 st.gl nm)) (((x, 0), (x, 0)) :: sgN t gl0 st.gl nm) = ((x, 0), bx) :: bagN t gl0 st.gl := by
      generalize renTo (((x, 0), (x, 0)) :: sgN t gl0 st.gl nm) = τ
      rw [wkLoc]
      have e3 : (Mem.mk args loc n').get x 0 = bx := by rw [Mem.get, if_neg hx0]; exact hbx
      congr 1
      · rw [e3, hren]
      · unfold sgN bagN
        rw [wkLoc_sg]
        refine List.map_congr_left fun k hk => ?_
        obtain ⟨h1, h2⟩ := fl_mem.1 hk
        rw [show (Mem.mk args loc n').get (nm k).1 (nm k).2 = plB (st.gl k) from (h.nmN k h1 h2).2.2, plB_ren]
    show Mem.mk _ _ _ = Mem.mk _ _ _
    rw [e1, e2]
theorem Body.can {gl0 : GL} {N : Nat} {st : GS} {x t n0 : Nat} {bx : Blk} (hp : Pre gl0 st.gl) (hxt : x ≠ t) (ht : t ≠ 0) (htn : t < n0) : Body gl0 ⟨grB N (canN t gl0 st.gl) st :: outE gl0 st.gl, ((x, 0), bx) :: bagN t gl0 st.gl, n0⟩ (canN t gl0 st.gl) N st := by
  refine ⟨rfl, hp, fun k hk hc => by unfold canN; rw [hc, if_neg (by simp)], fun k hk hc => ?_, fun i j hi hj ci cj e => ?_, by show 0 < n0; omega⟩
  · have e : canN t gl0 st.gl k = (t, k) := by unfold canN; rw [hc, if_pos rfl]
    rw [e]
    refine ⟨ht, htn, ?_⟩
    rw [Mem.get, if_neg ht]
    show assoc (((x, 0), bx) :: bagN t gl0 st.gl) t k = _
    rw [assoc, if_neg (fun e => hxt e.1)]
    exact assoc_bag (fl_mem.2 ⟨hk, hc⟩)
  · unfold canN at e
    rw [ci, cj, if_pos rfl] at e
    exact congrArg Prod.snd e
theorem Body.entry {N : Nat} {st : GS} {loc : LocB} {n : Nat} (hn : 0 < n) : Body st.gl ⟨grX N st.gl st, loc, n⟩ (outN st.gl st.gl) N st :=
  ⟨rfl, Pre.refl, fun k _ _ => by unfold outN; rw [chB_self, if_neg (by simp)], fun k _ hc => absurd hc (by rw [chB_self]; simp), fun i j _ _ hc => absurd hc (by rw [chB_self]; simp), hn⟩
theorem Body.fin {gl0 : GL} {m : Mem} {nm : Nm} {N : Nat} {st : GS} (h : Body gl0 m nm N st) : Abs.Fin (fun v ms ns => v = .tup [] ∧ ms = grX N gl0 st ∧ ns = outNs gl0 st.gl) m (.tup []) := by
  have nd : ((fl (chB gl0 st.gl)).map nm).Nodup := by
    unfold List.Nodup
    rw [List.pairwise_map]
    refine List.Pairwise.imp_of_mem ?_ (fl_nodup (P := chB gl0 st.gl))
    intro a b ha hb hab e
    obtain ⟨a1, a2⟩ := fl_mem.1 ha
    obtain ⟨b1, b2⟩ := fl_mem.1 hb
    exact hab (h.inj a b a1 b1 a2 b2 e)
  refine ⟨(fl (chB gl0 st.gl)).map nm, nd, fun p hp => ?_, by simp [renV, renVs], ?_, ?_⟩
  · obtain ⟨k, hk, rfl⟩ := List.mem_map.1 hp
    obtain ⟨h1, h2⟩ := fl_mem.1 hk
    exact (h.nmN k h1 h2).1
  · rw [h.args, List.map_cons, outE_ren]
    unfold grX
    congr 1
    refine grB_ren fun k hk hn => ?_
    unfold outN
    split
    · rename_i hc
      have e : idx ((fl (chB gl0 st.gl)).map nm) (nm k).1 (nm k).2 = some (rkF (chB gl0 st.gl) k) := idx_of_get nd (by rw [List.getElem?_map, fl_get hk hc]; rfl)
      unfold renFin
      rw [if_neg (h.nmN k hk hc).1, e]; rfl
    · rename_i hc
      rw [h.nmU k hk (by simpa using hc)]; exact renFin0
  · unfold outNs
    rw [List.map_map]
    refine List.map_congr_left fun k hk => ?_
    obtain ⟨h1, h2⟩ := fl_mem.1 hk
    show renBlk _ (m.get (nm k).1 (nm k).2) = _
    rw [(h.nmN k h1 h2).2.2, plB_ren]

end Go.Proofs.Ytjmenocghjggcaa
