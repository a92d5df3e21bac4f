/-
Contracts of functions of the given program, by the abstract walk.
-/
import Derived.Test.YtgblnnodoabdeaaAbsY
import Derived.Test.YtgblnnodoabdeaaXc
namespace Go.Proofs.Ytgblnnodoabdeaa
open Go Go.Abs
set_option linter.unusedVariables false
set_option linter.unusedSectionVars false
set_option linter.unusedSimpArgs false
set_option maxRecDepth 100000
/-! the memory behind such a call; leaving names behind -/
theorem zipUps_mem {σ : Ren} : ∀ {F : List Abs.Id} {bs : List Blk} {x : Abs.Id × Blk}, x ∈ zipUps σ F bs → ∃ (i : Nat) (b : Blk), F[i]? = some x.1 ∧ bs[i]? = some b ∧ x.2 = renBlk σ b
  | [], _, _, h => by simp [zipUps] at h
  | _ :: _, [], _, h => by simp [zipUps] at h
  | p :: F, b :: bs, x, h => by
    rw [zipUps] at h
    rcases List.mem_cons.1 h with rfl | h
    · exact ⟨0, b, rfl, rfl, rfl⟩
    · obtain ⟨i, b', h1, h2, h3⟩ := zipUps_mem h
      exact ⟨i + 1, b', by simpa using h1, by simpa using h2, h3⟩
theorem upd_same : ∀ {ups : Ups} {m : Mem}, (∀ x ∈ ups, x.1.1 = 0 ∧ m.args[x.1.2]? = some x.2) → m.upd ups = m
  | [], _, _ => rfl
  | (p, b) :: r, m, h => by
    obtain ⟨h1, h2⟩ := h (p, b) (by simp)
    have h1 : p.1 = 0 := h1
    have h2 : m.args[p.2]? = some b := h2
    have e : m.put p b = m := by
      unfold Mem.put
      rw [if_pos h1]
      have : m.args.set p.2 b = m.args := by
        refine List.ext_getElem? fun i => ?_
        rw [List.getElem?_set]
        split
        · rename_i e; subst e
          split
          · exact h2.symm
          · rename_i hl; rw [List.getElem?_eq_none (by omega)] at h2; cases h2
        · rfl
      rw [this]
    rw [Mem.upd, e]
    exact upd_same fun x hx => h x (by simp [hx])
theorem upd_front {aP E : List Blk} {loc : Loc} {n b : Nat} {σ : Ren} (haP : 0 < E.length → aP.length = b) (hE : E.map (renBlk σ) = E) : (Mem.mk (aP ++ E) loc n).upd (zipUps σ (srcs 0 b E.length) E) = ⟨aP ++ E, loc, n⟩ := by
  refine upd_same fun x hx => ?_
  obtain ⟨i, c, h1, h2, h3⟩ := zipUps_mem hx
  have hi : i < E.length := by
    rcases Nat.lt_or_ge i E.length with h | h
    · exact h
    · rw [List.getElem?_eq_none h] at h2; cases h2
  have haP := haP (by omega)
  unfold srcs at h1
  rw [List.getElem?_map, List.getElem?_range hi] at h1
  have h1 := (Option.some.inj h1).symm
  rw [h1]
  refine ⟨rfl, ?_⟩
  show (aP ++ E)[b + i]? = some x.2
  rw [List.getElem?_append_right (by omega), show b + i - aP.length = i by omega, h2, h3]
  have : (E.map (renBlk σ))[i]? = some (renBlk σ c) := by rw [List.getElem?_map, h2]; rfl
  rw [hE, h2] at this
  exact this
theorem grow_mem {aP E aP' xs0 ns : List Blk} {loc loc' : Loc} {n nid b B : Nat} {F0 : List Abs.Id} {A : LLs} {σ : Ren} (hb : F0.length = b) (hx : xs0.length = b) (hE : E.map (renBlk σ) = E) (hB : B ≠ 0) (hnid : nid ≠ 0) (haP' : 0 < E.length → aP'.length = b)
    (h1 : (Mem.mk (aP ++ E) loc n).upd (zipUps σ F0 xs0) = ⟨aP' ++ E, loc', n⟩) :
    (Mem.mk (aP ++ E) loc n).upd (zipUps σ (growF F0 b E.length B A.length) (xs0 ++ (E ++ inn A)) ++ newUps σ nid 0 ns) = ⟨aP' ++ E, (newUps σ nid 0 ns).reverse ++ (rbag B 0 A ++ loc'), n⟩ := by
  have hnew : ∀ {l : List Blk} {j : Nat}, ∀ x ∈ newUps σ nid j l, x.1.1 ≠ 0 := by
    intro l
    induction l with
    | nil => intro j x h; simp [newUps] at h
    | cons a r ih =>
      intro j x h
      rw [newUps] at h
      rcases List.mem_cons.1 h with rfl | h
      · exact hnid
      · exact ih x h
  unfold growF
  rw [zipUps_app (by omega), zipUps_app (by rw [srcs_len]), zipUps_srcs rfl, Mem.upd_app, Mem.upd_app, h1, Mem.upd_app, upd_front haP' hE, Mem.upd_bagU hB, Mem.upd_loc _ hnew]
theorem growF_in0 {F0 : List Abs.Id} {b m B l : Nat} (hb : F0.length = b) (hF : ∀ p ∈ F0, ¬(p.1 = 0 ∧ b ≤ p.2)) : ∀ k, b ≤ k → k < b + m → renIn (growF F0 b m B l) 0 k = some (0, k) := fun k h1 h2 => by
  unfold renIn; rw [growF_idx0 hb hF h1 h2]; rfl
theorem growF_inB {F0 : List Abs.Id} {b m B l : Nat} (hb : F0.length = b) (hB : B ≠ 0) (hF : ∀ p ∈ F0, p.1 ≠ B) : ∀ j, j < l → renIn (growF F0 b m B l) B (0 + j) = some (0, b + m + j) := fun j hj => by
  unfold renIn; rw [growF_idxB hb hB hF hj]; rfl
theorem growF_out0 {F0 : List Abs.Id} {nid b m B l : Nat} (hb : F0.length = b) : ∀ k, b ≤ k → k < b + m → renOut nid (growF F0 b m B l) 0 k = some (0, k) := fun k h1 h2 => by
  unfold renOut; rw [if_pos rfl, growF_at0 hb h1 h2]
theorem growF_outB {F0 : List Abs.Id} {nid b m B l : Nat} (hb : F0.length = b) : ∀ j, j < l → renOut nid (growF F0 b m B l) 0 (b + m + j) = some (B, 0 + j) := fun j hj => by
  unfold renOut; rw [if_pos rfl, growF_atB hb hj]
def HRb (cs : List Atom) (E : List Blk) (n : Nat) (A : LLs) (v : AV) (ms ns : List Blk) : Prop :=
  (A = [] ∧ v = .ref (.sl 0 0 0 0 n 1) ∧ ms = .lv true [(0, .cells n cs)] :: E ∧ ns = []) ∨ (A ≠ [] ∧ v = .ref (.sl 1 0 0 0 (n + A.length) 1) ∧ ms = .dead :: E ∧ ns = .lv true [(0, .cells (n + A.length) (cs ++ outs 1 1 A))] :: inn A)
/-- A call that is handed such a list, its outer block O, its own rows B. -/
theorem CallsVia.hmaps {P : Program} {f : FuncId} {vs vs' : List AV} {aP E : List Blk} {cs : List Atom} {A A2 : LLs} {loc : Loc} {nid n O B : Nat} {K : AV → Ups → List Abs.Id → Prop} (hO : O ≠ 0) (hB : B ≠ 0) (hOB : O ≠ B) (hnid : nid ≠ 0) (haP : 0 < E.length → aP.length = 1)
    (h0 : assoc loc O 0 = .lv true [(0, .cells (n + A.length) (cs ++ outs B 0 A))]) (hA : ∀ j, j < A.length → assoc loc B (0 + j) = ib (at_ A j)) (hE : Opq 1 cs E)
    (h : ACalls P f vs' (.lv true [(0, .cells (n + A.length) (cs ++ outs 0 (1 + E.length) A))] :: (E ++ inn A)) (fun v ms ns => HRb (cs ++ outs 0 (1 + E.length) A) (E ++ inn A) (n + A.length) A2 v ms ns))
    (hv : ∀ σ : Ren, σ O 0 = some (0, 0) → renVs σ vs = vs')
    (hK0 : A2 = [] → ∀ ups rd, (∀ n', (Mem.mk (aP ++ E) loc n').upd ups = ⟨aP ++ E, rbag B 0 A ++ ((O, 0), .lv true [(0, .cells (n + A.length) (cs ++ outs B 0 A))]) :: loc, n'⟩) → K (.ref (.sl O 0 0 0 (n + A.length) 1)) ups rd)
    (hK1 : A2 ≠ [] → ∀ ups rd, (∀ n', (Mem.mk (aP ++ E) loc n').upd ups = ⟨aP ++ E, rbag nid 1 A2 ++ ((nid, 0), .lv true [(0, .cells (n + A.length + A2.length) (cs ++ outs B 0 A ++ outs nid 1 A2))]) :: (rbag B 0 A ++ ((O, 0), .dead) :: loc), n'⟩) → K (.ref (.sl nid 0 0 0 (n + A.length + A2.length) 1)) ups rd) :
    CallsVia P f vs ⟨aP ++ E, loc, nid⟩ K := by
  have hF : ∀ p ∈ ([(O, 0)] : List Abs.Id), ¬(p.1 = 0 ∧ 1 ≤ p.2) := by simp
  have hFB : ∀ p ∈ ([(O, 0)] : List Abs.Id), p.1 ≠ B := by simp [hOB]
  have g0 : ∀ n', (Mem.mk (aP ++ E) loc n').get O 0 = .lv true [(0, .cells (n + A.length) (cs ++ outs B 0 A))] := fun n' => by
    show (if O = 0 then _ else assoc loc O 0) = _; rw [if_neg hO]; exact h0
  have i0 := growF_in0 (b := 1) (m := E.length) (B := B) (l := A.length) rfl hF
  have iB := growF_inB (b := 1) (m := E.length) (l := A.length) rfl hB hFB
  have o0 := growF_out0 (F0 := [(O, 0)]) (nid := nid) (b := 1) (m := E.length) (B := B) (l := A.length) rfl
  have oB := growF_outB (F0 := [(O, 0)]) (nid := nid) (b := 1) (m := E.length) (B := B) (l := A.length) rfl
  have oO : renOut nid (growF [(O, 0)] 1 E.length B A.length) 0 0 = some (O, 0) := rfl
  have ce := hE.ren _ o0
  have cB : (outs 0 (1 + E.length) A).map (renAt (renOut nid (growF [(O, 0)] 1 E.length B A.length))) = outs B 0 A := outs_ren fun i hi => by rw [oB i hi]
  refine CallsVia.grow (b := 1) (bs0 := [.lv true [(0, .cells (n + A.length) (cs ++ outs 0 (1 + E.length) A))]]) [(O, 0)] rfl haP hB (by simp) hF hFB hE (fun p hp => ?_) hA h (hv _ ?_) ?_ ?_
  · simp at hp; subst hp; rw [g0]; simp
  · simp [renIn, growF, idx]
  · simp only [List.map_cons, List.map_nil, g0, renBlk, renSegs, renSg, List.map_append, (hE.ren _ i0).1, outs_ren (a' := 0) (k' := 1 + E.length) iB]
  · rintro r xs ns (⟨h1, rfl, rfl, rfl⟩ | ⟨h1, rfl, rfl, rfl⟩)
    · have e1 : renV (renOut nid (growF [(O, 0)] 1 E.length B A.length)) (.ref (.sl 0 0 0 0 (n + A.length) 1)) = .ref (.sl O 0 0 0 (n + A.length) 1) := by simp only [renV, renAt, oO]
      rw [e1]
      refine hK0 h1 _ _ fun n' => ?_
      have := grow_mem (aP := aP) (aP' := aP) (xs0 := [.lv true [(0, .cells (n + A.length) (cs ++ outs 0 (1 + E.length) A))]]) (ns := []) (loc := loc) (n := n') (nid := nid) (F0 := [(O, 0)]) (A := A) (B := B) (b := 1) rfl rfl ce.2 hB hnid haP
        (loc' := ((O, 0), .lv true [(0, .cells (n + A.length) (cs ++ outs B 0 A))]) :: loc) (by simp only [zipUps, Mem.upd, Mem.put, hO, if_false, renBlk, renSegs, renSg, List.map_append, ce.1, cB])
      exact this
    · have e1 : renV (renOut nid (growF [(O, 0)] 1 E.length B A.length)) (.ref (.sl 1 0 0 0 (n + A.length + A2.length) 1)) = .ref (.sl nid 0 0 0 (n + A.length + A2.length) 1) := rfl
      rw [e1]
      refine hK1 h1 _ _ fun n' => ?_
      have := grow_mem (aP := aP) (aP' := aP) (xs0 := [.dead]) (ns := .lv true [(0, .cells (n + A.length + A2.length) (cs ++ outs 0 (1 + E.length) A ++ outs 1 1 A2))] :: inn A2) (loc := loc) (n := n') (nid := nid) (F0 := [(O, 0)]) (A := A) (B := B) (b := 1) rfl rfl ce.2 hB hnid haP
        (loc' := ((O, 0), .dead) :: loc) (by simp only [zipUps, Mem.upd, Mem.put, hO, if_false, renBlk])
      refine Eq.trans this ?_
      have c2 : (outs 1 1 A2).map (renAt (renOut nid (growF [(O, 0)] 1 E.length B A.length))) = outs nid 1 A2 := outs_ren fun i hi => rfl
      simp only [newUps, newUps_inn, renBlk, renSegs, renSg, List.map_append, ce.1, cB, c2, List.reverse_cons, rbag, List.append_assoc, List.cons_append, List.nil_append]
/-- The same, when the outer block came in. -/
theorem CallsVia.hmaps0 {P : Program} {f : FuncId} {vs vs' : List AV} {E : List Blk} {cs : List Atom} {A2 : LLs} {loc : Loc} {nid n : Nat} {K : AV → Ups → List Abs.Id → Prop} (hnid : nid ≠ 0) (hE : Opq 1 cs E)
    (h : ACalls P f vs' (.lv true [(0, .cells n cs)] :: E) (fun v ms ns => HRb cs E n A2 v ms ns))
    (hv : ∀ σ : Ren, σ 0 0 = some (0, 0) → renVs σ vs = vs')
    (hK0 : A2 = [] → ∀ ups rd, (∀ n', (Mem.mk (.lv true [(0, .cells n cs)] :: E) loc n').upd ups = ⟨.lv true [(0, .cells n cs)] :: E, loc, n'⟩) → K (.ref (.sl 0 0 0 0 n 1)) ups rd)
    (hK1 : A2 ≠ [] → ∀ ups rd, (∀ n', (Mem.mk (.lv true [(0, .cells n cs)] :: E) loc n').upd ups = ⟨.dead :: E, rbag nid 1 A2 ++ ((nid, 0), .lv true [(0, .cells (n + A2.length) (cs ++ outs nid 1 A2))]) :: loc, n'⟩) → K (.ref (.sl nid 0 0 0 (n + A2.length) 1)) ups rd) :
    CallsVia P f vs ⟨.lv true [(0, .cells n cs)] :: E, loc, nid⟩ K := by
  have hF : ∀ p ∈ ([(0, 0)] : List Abs.Id), ¬(p.1 = 0 ∧ 1 ≤ p.2) := by simp
  have hFB : ∀ p ∈ ([(0, 0)] : List Abs.Id), p.1 ≠ 1 := by simp
  have i0 := growF_in0 (b := 1) (m := E.length) (B := 1) (l := ([] : LLs).length) rfl hF
  have o0 := growF_out0 (F0 := [(0, 0)]) (nid := nid) (b := 1) (m := E.length) (B := 1) (l := ([] : LLs).length) rfl
  have ce := hE.ren _ o0
  have h' : ACalls P f vs' ([.lv true [(0, .cells n cs)]] ++ (E ++ inn [])) (fun v ms ns => HRb cs E n A2 v ms ns) := by
    rw [inn_nil, List.append_nil]; exact h
  refine CallsVia.grow (b := 1) (aP := [.lv true [(0, .cells n cs)]]) (A := []) (B := 1) (bs0 := [.lv true [(0, .cells n cs)]]) [(0, 0)] rfl (fun _ => rfl) (by decide) (by simp) hF hFB hE (fun p hp => ?_) (fun j hj => absurd hj (by simp)) h' (hv _ ?_) ?_ ?_
  · simp at hp; subst hp; simp [Mem.get]
  · rfl
  · have g0 : (Mem.mk ([.lv true [(0, .cells n cs)]] ++ E) loc nid).get 0 0 = .lv true [(0, .cells n cs)] := rfl
    simp only [List.map_cons, List.map_nil, g0, renBlk, renSegs, renSg, (hE.ren _ i0).1]
  · rintro r xs ns (⟨h1, rfl, rfl, rfl⟩ | ⟨h1, rfl, rfl, rfl⟩)
    · refine hK0 h1 _ _ fun n' => ?_
      have := grow_mem (aP := [.lv true [(0, .cells n cs)]]) (aP' := [.lv true [(0, .cells n cs)]]) (xs0 := [.lv true [(0, .cells n cs)]]) (ns := []) (loc := loc) (loc' := loc) (n := n') (nid := nid) (F0 := [(0, 0)]) (A := []) (B := 1) (b := 1) rfl rfl ce.2 (by decide) hnid (fun _ => rfl)
        (by simp only [zipUps, Mem.upd, Mem.put, if_true, renBlk, renSegs, renSg, ce.1, List.cons_append, List.nil_append, List.set_cons_zero])
      rw [inn_nil, List.append_nil] at this
      exact this
    · refine hK1 h1 _ _ fun n' => ?_
      have := grow_mem (aP := [.lv true [(0, .cells n cs)]]) (aP' := [.dead]) (xs0 := [.dead]) (ns := .lv true [(0, .cells (n + A2.length) (cs ++ outs 1 1 A2))] :: inn A2) (loc := loc) (loc' := loc) (n := n') (nid := nid) (F0 := [(0, 0)]) (A := []) (B := 1) (b := 1) rfl rfl ce.2 (by decide) hnid (fun _ => rfl)
        (by simp only [zipUps, Mem.upd, Mem.put, if_true, renBlk, List.cons_append, List.nil_append, List.set_cons_zero])
      rw [inn_nil, List.append_nil] at this
      refine Eq.trans this ?_
      have c2 : (outs 1 1 A2).map (renAt (renOut nid (growF [(0, 0)] 1 E.length 1 ([] : LLs).length))) = outs nid 1 A2 := outs_ren fun i hi => rfl
      simp only [newUps, newUps_inn, renBlk, renSegs, renSg, List.map_append, ce.1, c2, List.reverse_cons, rbag_nil, List.append_assoc, List.cons_append, List.nil_append]
      rfl
abbrev growR (B t l l2 : Nat) : Pairs := rids (fun j => (t, 1 + j)) l2 B l ++ stdR B l
section
variable {m : Mem} {pre : Pairs} {o O : Abs.Id} {B t : Nat} {A A2 : LLs}
theorem renTo_grow (hB0 : B ≠ 0) (ht0 : t ≠ 0) (htB : t ≠ B) (hpre : ∀ x ∈ pre, x.1.1 ≠ B ∧ x.1.1 ≠ t) (ho : o.1 ≠ B ∧ (o.1 ≠ t ∨ o.2 = 0)) :
    (∀ j, j < A.length → renTo (pre ++ (o, O) :: growR B t A.length A2.length) B (0 + j) = some (B, 0 + j)) ∧ (∀ j, j < A2.length → renTo (pre ++ (o, O) :: growR B t A.length A2.length) t (1 + j) = some (B, A.length + j)) := by
  constructor
  · intro j hj
    have e : pre ++ (o, O) :: growR B t A.length A2.length = (pre ++ (o, O) :: rids (fun j => (t, 1 + j)) A2.length B A.length) ++ stdR B A.length := by simp [growR]
    rw [e]
    refine renTo_row (src := fun j => (B, 0 + j)) std_inj hB0 hj fun x hx h => ?_
    rcases List.mem_append.1 hx with hx | hx
    · exact (hpre x hx).1 (by rw [h])
    · rcases List.mem_cons.1 hx with rfl | hx
      · exact ho.1 (by rw [show o = _ from h])
      · obtain ⟨i, _, rfl⟩ := rids_mem.1 hx
        exact htB (by simpa using congrArg (·.1) h)
  · intro j hj
    have e : pre ++ (o, O) :: growR B t A.length A2.length = (pre ++ [(o, O)]) ++ (rids (fun j => (t, 1 + j)) A2.length B A.length ++ stdR B A.length) := by simp [growR]
    have h1 := renTo_row (A := pre ++ [(o, O)]) (src := fun j => (t, 1 + j)) (m := A2.length) (a := B) (k := A.length) (i := j) (fun i j _ _ h => by simpa using congrArg (·.2) h) ht0 hj fun x hx h => by
      rcases List.mem_append.1 hx with hx | hx
      · exact (hpre x hx).2 (by rw [h])
      · simp at hx; subst hx
        have e1 : o.1 = t := congrArg (·.1) h
        have e2 : o.2 = 1 + j := congrArg (·.2) h
        rcases ho.2 with h3 | h3
        · exact h3 e1
        · omega
    rw [e, ← List.append_assoc, renTo_app, if_neg ht0, h1]
theorem wk_grow {k : Nat} {cs : List Atom} (hB0 : B ≠ 0) (ht0 : t ≠ 0) (htB : t ≠ B) (hpre : ∀ x ∈ pre, x.1.1 ≠ B ∧ x.1.1 ≠ t) (ho : o.1 ≠ B ∧ (o.1 ≠ t ∨ o.2 = 0))
    (hO : m.get o.1 o.2 = .lv true [(0, .cells k (cs ++ outs B 0 A ++ outs t 1 A2))]) (hcs : ∀ σ : Ren, (∀ k, σ 0 k = some (0, k)) → cs.map (renAt σ) = cs)
    (hA : ∀ j, j < A.length → m.get B (0 + j) = ib (at_ A j)) (hA2 : ∀ j, j < A2.length → m.get t (1 + j) = ib (at_ A2 j)) :
    wkLoc m (renTo (pre ++ (o, O) :: growR B t A.length A2.length)) (pre ++ (o, O) :: growR B t A.length A2.length) = wkLoc m (renTo (pre ++ (o, O) :: growR B t A.length A2.length)) pre ++ (O, .lv true [(0, .cells k (cs ++ outs B 0 (A ++ A2)))]) :: rbag B 0 (A ++ A2) := by
  obtain ⟨t1, t2⟩ := renTo_grow (O := O) (A := A) (A2 := A2) hB0 ht0 htB hpre ho
  have t3 := hcs (renTo (pre ++ (o, O) :: growR B t A.length A2.length)) fun k => by cases pre <;> simp [renTo]
  generalize renTo (pre ++ (o, O) :: growR B t A.length A2.length) = τ at t1 t2 t3 ⊢
  rw [wkLoc_app]
  congr 1
  rw [wkLoc, hO, wkLoc_app, wkLoc_rids (src := fun j => (t, 1 + j)) rfl hA2, stdR, wkLoc_rids (src := fun j => (B, 0 + j)) rfl hA, rbag_append, Nat.zero_add]
  congr 1
  congr 1
  simp only [renBlk, renSegs, renSg, List.map_append, t3, outs_ren t1, outs_ren t2, outs_append, Nat.zero_add, List.append_assoc]
theorem wkOk_grow {next : Nat} (h : wkOk (pre ++ [(o, O)]) next = true) (hB0 : B ≠ 0) (hBn : B < next) (ht0 : t ≠ 0) (htB : t ≠ B) (hpre : ∀ x ∈ pre, x.1.1 ≠ B ∧ x.1.1 ≠ t ∧ x.2.1 ≠ B) (ho : o.1 ≠ B ∧ (o.1 ≠ t ∨ o.2 = 0)) (hO : O.1 ≠ B) :
    wkOk (pre ++ (o, O) :: growR B t A.length A2.length) next = true := by
  have e : pre ++ (o, O) :: growR B t A.length A2.length = ((pre ++ [(o, O)]) ++ rids (fun j => (t, 1 + j)) A2.length B A.length) ++ stdR B A.length := by simp [growR]
  rw [e]
  have h1 : wkOk ((pre ++ [(o, O)]) ++ rids (fun j => (t, 1 + j)) A2.length B A.length) next = true :=
    wkOk_rids h (fun i j _ _ h => by simpa using congrArg (·.2) h) (fun _ _ => ht0) hB0 hBn (fun x hx i hi he => by
      rcases List.mem_append.1 hx with hx | hx
      · exact (hpre x hx).2.1 (by rw [he])
      · simp at hx; subst hx
        have e1 : o.1 = t := congrArg (·.1) he
        have e2 : o.2 = 1 + i := congrArg (·.2) he
        rcases ho.2 with h3 | h3
        · exact h3 e1
        · omega) fun x hx i hi he => by
      rcases List.mem_append.1 hx with hx | hx
      · exact (hpre x hx).2.2 (by rw [he])
      · simp at hx; subst hx
        exact hO (by rw [show O = _ from he])
  refine wkOk_rids h1 std_inj (fun _ _ => hB0) hB0 hBn (fun x hx i hi he => ?_) fun x hx i hi he => ?_
  · rcases List.mem_append.1 hx with hx | hx
    · rcases List.mem_append.1 hx with hx | hx
      · exact (hpre x hx).1 (by rw [he])
      · simp at hx; subst hx
        exact ho.1 (by rw [show o = _ from he])
    · obtain ⟨j, _, rfl⟩ := rids_mem.1 hx
      exact htB (by simpa using congrArg (·.1) he)
  · rcases List.mem_append.1 hx with hx | hx
    · rcases List.mem_append.1 hx with hx | hx
      · exact (hpre x hx).2.2 (by rw [he])
      · simp at hx; subst hx
        exact hO (by rw [show O = _ from he])
    · obtain ⟨j, _, rfl⟩ := rids_mem.1 hx
      have : A.length + j = 0 + i := by simpa using congrArg (·.2) he
      omega
end
theorem hfin {mem : Mem} {p : Abs.Id} {B k : Nat} {cs : List Atom} {A : LLs} (hp : p.1 ≠ B) (hB : B ≠ 0) (h : mem.get p.1 p.2 = .lv true [(0, .cells k (cs ++ outs B 0 A))]) (hg : ∀ j, j < A.length → mem.get B (0 + j) = ib (at_ A j)) (hc : ∀ keep, cs.map (renAt (renFin keep)) = cs) :
    (p :: srcs B 0 A.length).map (fun q => renBlk (renFin (p :: srcs B 0 A.length)) (mem.get q.1 q.2)) = .lv true [(0, .cells k (cs ++ outs 1 1 A))] :: inn A := by
  rw [List.map_cons, srcs_get hg, h]
  simp only [renBlk, renSegs, renSg, List.map_append, hc, outs_ren (a' := 1) (k' := 1) fun j hj => renFin_row (.inl hp) hB hj]

end Go.Proofs.Ytgblnnodoabdeaa
