/-
Contracts of functions of the given program, by the abstract walk.
-/
import Derived.Test.YtgblnnodoabdeaaAbsY
import Derived.Test.YtgblnnodoabdeaaXa
import Derived.Test.YtgblnnodoabdeaaXe
namespace Go.Proofs.Ytgblnnodoabdeaa
open Go Go.Abs
set_option linter.unusedVariables false
set_option linter.unusedSectionVars false
set_option linter.unusedSimpArgs false
set_option maxRecDepth 100000
/-! homomorphisms: calls of the program's search -/
def P4 (N M : Nat) (t s : List Int) (o : Atom) (b : Blk) (E : List Blk) : List Blk :=
  .lv true (sqS N t) :: .lv true (sqS M s) :: .lv true [(0, .cells 1 [.fn 71 [(0, 0, 0, 0), (0, 1, 0, 0), (0, 2, 0, 0), (0, 3, 0, 0)]])] :: .lv true [(0, .cells 1 [o])] :: b :: E
def HI (N M : Nat) (t s : List Int) (cs : List Atom) (E : List Blk) (n : Nat) (A : LLs) (v : AV) (ms ns : List Blk) : Prop :=
  v = .b (leM (n + A.length)) ∧ ((A = [] ∧ ms = P4 N M t s (.sl 0 4 0 0 n 1) (.lv true [(0, .cells n cs)]) E ∧ ns = []) ∨ (A ≠ [] ∧ ms = P4 N M t s (.sl 1 0 0 0 (n + A.length) 1) .dead E ∧ ns = .lv true [(0, .cells (n + A.length) (cs ++ outs 1 1 A))] :: inn A))
theorem CallsVia.hsearch {P : Program} {f : FuncId} {N M : Nat} {t s : List Int} {vs vs' : List AV} {E : List Blk} {cs : List Atom} {A A2 : LLs} {loc : Loc} {nid n O B : Nat} {K : AV → Ups → List Abs.Id → Prop} (hO : O ≠ 0) (hB : B ≠ 0) (hOB : O ≠ B) (hnid : nid ≠ 0)
    (h0 : assoc loc O 0 = .lv true [(0, .cells (n + A.length) (cs ++ outs B 0 A))]) (hA : ∀ j, j < A.length → assoc loc B (0 + j) = ib (at_ A j)) (hE : Opq 5 cs E)
    (h : ACalls P f vs' (P4 N M t s (.sl 0 4 0 0 (n + A.length) 1) (.lv true [(0, .cells (n + A.length) (cs ++ outs 0 (5 + E.length) A))]) (E ++ inn A)) (fun v ms ns => HI N M t s (cs ++ outs 0 (5 + E.length) A) (E ++ inn A) (n + A.length) A2 v ms ns))
    (hv : ∀ σ : Ren, (∀ k, k < 4 → σ 0 k = some (0, k)) → renVs σ vs = vs')
    (hK0 : A2 = [] → ∀ ups rd, (∀ n', (Mem.mk (P4 N M t s (.sl O 0 0 0 (n + A.length) 1) .dead E) loc n').upd ups = ⟨P4 N M t s (.sl O 0 0 0 (n + A.length) 1) .dead E, rbag B 0 A ++ ((O, 0), .lv true [(0, .cells (n + A.length) (cs ++ outs B 0 A))]) :: loc, n'⟩) → K (.b (leM (n + A.length))) ups rd)
    (hK1 : A2 ≠ [] → ∀ ups rd, (∀ n', (Mem.mk (P4 N M t s (.sl O 0 0 0 (n + A.length) 1) .dead E) loc n').upd ups = ⟨P4 N M t s (.sl nid 0 0 0 (n + A.length + A2.length) 1) .dead E, rbag nid 1 A2 ++ ((nid, 0), .lv true [(0, .cells (n + A.length + A2.length) (cs ++ outs B 0 A ++ outs nid 1 A2))]) :: (rbag B 0 A ++ ((O, 0), .dead) :: loc), n'⟩) → K (.b (leM (n + A.length + A2.length))) ups rd) :
    CallsVia P f vs ⟨P4 N M t s (.sl O 0 0 0 (n + A.length) 1) .dead E, loc, nid⟩ K := by
  have hF : ∀ p ∈ ([(0, 0), (0, 1), (0, 2), (0, 3), (O, 0)] : List Abs.Id), ¬(p.1 = 0 ∧ 5 ≤ p.2) := by simp
  have hFB : ∀ p ∈ ([(0, 0), (0, 1), (0, 2), (0, 3), (O, 0)] : List Abs.Id), p.1 ≠ B := by simp [hOB, Ne.symm hB]
  have hnd : ([(0, 0), (0, 1), (0, 2), (0, 3), (O, 0)] : List Abs.Id).Nodup := by simp [Ne.symm hO]
  have i0 := growF_in0 (b := 5) (m := E.length) (B := B) (l := A.length) rfl hF
  have iB := growF_inB (b := 5) (m := E.length) (l := A.length) rfl hB hFB
  have o0 := growF_out0 (F0 := [(0, 0), (0, 1), (0, 2), (0, 3), (O, 0)]) (nid := nid) (b := 5) (m := E.length) (B := B) (l := A.length) rfl
  have oB := growF_outB (F0 := [(0, 0), (0, 1), (0, 2), (0, 3), (O, 0)]) (nid := nid) (b := 5) (m := E.length) (B := B) (l := A.length) rfl
  have ce := hE.ren _ o0
  have cB : (outs 0 (5 + E.length) A).map (renAt (renOut nid (growF [(0, 0), (0, 1), (0, 2), (0, 3), (O, 0)] 5 E.length B A.length))) = outs B 0 A := outs_ren fun i hi => by rw [oB i hi]
  have hO0 : ¬ (0 = O) := fun e => hO e.symm
  have g0 : ∀ n', (Mem.mk (P4 N M t s (.sl O 0 0 0 (n + A.length) 1) .dead E) loc n').get O 0 = .lv true [(0, .cells (n + A.length) (cs ++ outs B 0 A))] := fun n' => by
    show (if O = 0 then _ else assoc loc O 0) = _; rw [if_neg hO]; exact h0
  have q0 : renOut nid (growF [(0, 0), (0, 1), (0, 2), (0, 3), (O, 0)] 5 E.length B A.length) 0 0 = some (0, 0) := rfl
  have q1 : renOut nid (growF [(0, 0), (0, 1), (0, 2), (0, 3), (O, 0)] 5 E.length B A.length) 0 1 = some (0, 1) := rfl
  have q2 : renOut nid (growF [(0, 0), (0, 1), (0, 2), (0, 3), (O, 0)] 5 E.length B A.length) 0 2 = some (0, 2) := rfl
  have q3 : renOut nid (growF [(0, 0), (0, 1), (0, 2), (0, 3), (O, 0)] 5 E.length B A.length) 0 3 = some (0, 3) := rfl
  have q4 : renOut nid (growF [(0, 0), (0, 1), (0, 2), (0, 3), (O, 0)] 5 E.length B A.length) 0 4 = some (O, 0) := rfl
  have qn : renOut nid (growF [(0, 0), (0, 1), (0, 2), (0, 3), (O, 0)] 5 E.length B A.length) 1 0 = some (nid, 0) := rfl
  refine CallsVia.grow (b := 5) (aP := P4 N M t s (.sl O 0 0 0 (n + A.length) 1) .dead []) (bs0 := P4 N M t s (.sl 0 4 0 0 (n + A.length) 1) (.lv true [(0, .cells (n + A.length) (cs ++ outs 0 (5 + E.length) A))]) []) [(0, 0), (0, 1), (0, 2), (0, 3), (O, 0)] rfl (fun _ => rfl) hB hnd hF hFB hE (fun p hp => ?_) hA h (hv _ ?_) ?_ ?_
  · simp only [List.mem_cons, List.not_mem_nil, or_false] at hp
    rcases hp with rfl | rfl | rfl | rfl | rfl
    · simp [Mem.get, P4]
    · simp [Mem.get, P4]
    · simp [Mem.get, P4]
    · simp [Mem.get, P4]
    · show (Mem.mk (P4 N M t s (.sl O 0 0 0 (n + A.length) 1) .dead E) loc nid).get O 0 ≠ _
      rw [g0]; simp
  · intro k hk
    rcases k with _ | _ | _ | _ | k
    · simp [renIn, growF, idx]
    · simp [renIn, growF, idx]
    · simp [renIn, growF, idx]
    · simp [renIn, growF, idx]
    · omega
  · have gO : (Mem.mk (P4 N M t s (.sl O 0 0 0 (n + A.length) 1) .dead [] ++ E) loc nid).get O 0 = _ := g0 nid
    have r0 : renIn (growF [(0, 0), (0, 1), (0, 2), (0, 3), (O, 0)] 5 E.length B A.length) 0 0 = some (0, 0) := by simp [renIn, growF, idx]
    have r1 : renIn (growF [(0, 0), (0, 1), (0, 2), (0, 3), (O, 0)] 5 E.length B A.length) 0 1 = some (0, 1) := by simp [renIn, growF, idx]
    have r2 : renIn (growF [(0, 0), (0, 1), (0, 2), (0, 3), (O, 0)] 5 E.length B A.length) 0 2 = some (0, 2) := by simp [renIn, growF, idx]
    have r3 : renIn (growF [(0, 0), (0, 1), (0, 2), (0, 3), (O, 0)] 5 E.length B A.length) 0 3 = some (0, 3) := by simp [renIn, growF, idx]
    have r4 : renIn (growF [(0, 0), (0, 1), (0, 2), (0, 3), (O, 0)] 5 E.length B A.length) O 0 = some (0, 4) := by simp [renIn, growF, idx, hO0]
    simp only [List.map_cons, List.map_nil, gO]
    simp only [P4, Mem.get, if_true, List.cons_append, List.nil_append, List.getD_cons_zero, List.getD_cons_succ, renBlk, renSegs, renSg, List.map_cons, List.map_nil, renAt, renCaps, r0, r1, r2, r3, r4, List.map_append, (hE.ren _ i0).1, outs_ren (a' := 0) (k' := 5 + E.length) iB]
  · rintro r xs ns ⟨rfl, (⟨h1, rfl, rfl⟩ | ⟨h1, rfl, rfl⟩)⟩
    · have e1 : renV (renOut nid (growF [(0, 0), (0, 1), (0, 2), (0, 3), (O, 0)] 5 E.length B A.length)) (.b (leM (n + A.length + A2.length))) = .b (leM (n + A.length)) := by rw [h1]; rfl
      rw [e1]
      refine hK0 h1 _ _ fun n' => ?_
      exact grow_mem (aP := P4 N M t s (.sl O 0 0 0 (n + A.length) 1) .dead []) (aP' := P4 N M t s (.sl O 0 0 0 (n + A.length) 1) .dead []) (xs0 := P4 N M t s (.sl 0 4 0 0 (n + A.length) 1) (.lv true [(0, .cells (n + A.length) (cs ++ outs 0 (5 + E.length) A))]) []) (ns := []) (loc := loc) (n := n') (nid := nid) (F0 := [(0, 0), (0, 1), (0, 2), (0, 3), (O, 0)]) (A := A) (B := B) (b := 5) rfl rfl ce.2 hB hnid (fun _ => rfl)
        (loc' := ((O, 0), .lv true [(0, .cells (n + A.length) (cs ++ outs B 0 A))]) :: loc) (by simp only [P4, zipUps, Mem.upd, Mem.put, hO, if_false, if_true, renBlk, renSegs, renSg, renAt, renCaps, q0, q1, q2, q3, q4, List.map_cons, List.map_nil, List.map_append, ce.1, cB, List.cons_append, List.nil_append, List.set_cons_zero, List.set_cons_succ])
    · have e1 : renV (renOut nid (growF [(0, 0), (0, 1), (0, 2), (0, 3), (O, 0)] 5 E.length B A.length)) (.b (leM (n + A.length + A2.length))) = .b (leM (n + A.length + A2.length)) := rfl
      rw [e1]
      refine hK1 h1 _ _ fun n' => ?_
      refine Eq.trans (grow_mem (aP := P4 N M t s (.sl O 0 0 0 (n + A.length) 1) .dead []) (aP' := P4 N M t s (.sl nid 0 0 0 (n + A.length + A2.length) 1) .dead []) (xs0 := P4 N M t s (.sl 1 0 0 0 (n + A.length + A2.length) 1) .dead []) (ns := .lv true [(0, .cells (n + A.length + A2.length) (cs ++ outs 0 (5 + E.length) A ++ outs 1 1 A2))] :: inn A2) (loc := loc) (n := n') (nid := nid) (F0 := [(0, 0), (0, 1), (0, 2), (0, 3), (O, 0)]) (A := A) (B := B) (b := 5) rfl rfl ce.2 hB hnid (fun _ => rfl)
        (loc' := ((O, 0), .dead) :: loc) (by simp only [P4, zipUps, Mem.upd, Mem.put, hO, if_false, if_true, renBlk, renSegs, renSg, renAt, renCaps, q0, q1, q2, q3, q4, qn, List.map_cons, List.map_nil, List.cons_append, List.nil_append, List.set_cons_zero, List.set_cons_succ])) ?_
      have c2 : (outs 1 1 A2).map (renAt (renOut nid (growF [(0, 0), (0, 1), (0, 2), (0, 3), (O, 0)] 5 E.length B A.length))) = outs nid 1 A2 := outs_ren fun i hi => rfl
      simp only [newUps, newUps_inn, renBlk, renSegs, renSg, List.map_append, ce.1, cB, c2, List.reverse_cons, rbag, List.append_assoc, List.cons_append, List.nil_append, P4]
theorem CallsVia.hsearch0 {P : Program} {f : FuncId} {N M : Nat} {t s : List Int} {vs vs' : List AV} {E : List Blk} {cs : List Atom} {A2 : LLs} {loc : Loc} {nid n : Nat} {K : AV → Ups → List Abs.Id → Prop} (hnid : nid ≠ 0) (hE : Opq 5 cs E)
    (h : ACalls P f vs' (P4 N M t s (.sl 0 4 0 0 n 1) (.lv true [(0, .cells n cs)]) E) (fun v ms ns => HI N M t s cs E n A2 v ms ns))
    (hv : ∀ σ : Ren, (∀ k, k < 4 → σ 0 k = some (0, k)) → renVs σ vs = vs')
    (hK0 : A2 = [] → ∀ ups rd, (∀ n', (Mem.mk (P4 N M t s (.sl 0 4 0 0 n 1) (.lv true [(0, .cells n cs)]) E) loc n').upd ups = ⟨P4 N M t s (.sl 0 4 0 0 n 1) (.lv true [(0, .cells n cs)]) E, loc, n'⟩) → K (.b (leM n)) ups rd)
    (hK1 : A2 ≠ [] → ∀ ups rd, (∀ n', (Mem.mk (P4 N M t s (.sl 0 4 0 0 n 1) (.lv true [(0, .cells n cs)]) E) loc n').upd ups = ⟨P4 N M t s (.sl nid 0 0 0 (n + A2.length) 1) .dead E, rbag nid 1 A2 ++ ((nid, 0), .lv true [(0, .cells (n + A2.length) (cs ++ outs nid 1 A2))]) :: loc, n'⟩) → K (.b (leM (n + A2.length))) ups rd) :
    CallsVia P f vs ⟨P4 N M t s (.sl 0 4 0 0 n 1) (.lv true [(0, .cells n cs)]) E, loc, nid⟩ K := by
  have hF : ∀ p ∈ ([(0, 0), (0, 1), (0, 2), (0, 3), (0, 4)] : List Abs.Id), ¬(p.1 = 0 ∧ 5 ≤ p.2) := by simp
  have hFB : ∀ p ∈ ([(0, 0), (0, 1), (0, 2), (0, 3), (0, 4)] : List Abs.Id), p.1 ≠ 1 := by simp
  have i0 := growF_in0 (b := 5) (m := E.length) (B := 1) (l := ([] : LLs).length) rfl hF
  have o0 := growF_out0 (F0 := [(0, 0), (0, 1), (0, 2), (0, 3), (0, 4)]) (nid := nid) (b := 5) (m := E.length) (B := 1) (l := ([] : LLs).length) rfl
  have ce := hE.ren _ o0
  have q0 : renOut nid (growF [(0, 0), (0, 1), (0, 2), (0, 3), (0, 4)] 5 E.length 1 ([] : LLs).length) 0 0 = some (0, 0) := rfl
  have q1 : renOut nid (growF [(0, 0), (0, 1), (0, 2), (0, 3), (0, 4)] 5 E.length 1 ([] : LLs).length) 0 1 = some (0, 1) := rfl
  have q2 : renOut nid (growF [(0, 0), (0, 1), (0, 2), (0, 3), (0, 4)] 5 E.length 1 ([] : LLs).length) 0 2 = some (0, 2) := rfl
  have q3 : renOut nid (growF [(0, 0), (0, 1), (0, 2), (0, 3), (0, 4)] 5 E.length 1 ([] : LLs).length) 0 3 = some (0, 3) := rfl
  have q4 : renOut nid (growF [(0, 0), (0, 1), (0, 2), (0, 3), (0, 4)] 5 E.length 1 ([] : LLs).length) 0 4 = some (0, 4) := rfl
  have qn : renOut nid (growF [(0, 0), (0, 1), (0, 2), (0, 3), (0, 4)] 5 E.length 1 ([] : LLs).length) 1 0 = some (nid, 0) := rfl
  have h' : ACalls P f vs' (P4 N M t s (.sl 0 4 0 0 n 1) (.lv true [(0, .cells n cs)]) [] ++ (E ++ inn [])) (fun v ms ns => HI N M t s cs E n A2 v ms ns) := by
    rw [inn_nil, List.append_nil]; exact h
  refine CallsVia.grow (b := 5) (aP := P4 N M t s (.sl 0 4 0 0 n 1) (.lv true [(0, .cells n cs)]) []) (A := []) (B := 1) (bs0 := P4 N M t s (.sl 0 4 0 0 n 1) (.lv true [(0, .cells n cs)]) []) [(0, 0), (0, 1), (0, 2), (0, 3), (0, 4)] rfl (fun _ => rfl) (by decide) (by decide) hF hFB hE (fun p hp => ?_) (fun j hj => absurd hj (by simp)) h' (hv _ ?_) ?_ ?_
  · simp only [List.mem_cons, List.not_mem_nil, or_false] at hp
    rcases hp with rfl | rfl | rfl | rfl | rfl <;> simp [Mem.get, P4]
  · intro k hk
    rcases k with _ | _ | _ | _ | k
    · simp [renIn, growF, idx]
    · simp [renIn, growF, idx]
    · simp [renIn, growF, idx]
    · simp [renIn, growF, idx]
    · omega
  · have r0 : renIn (growF [(0, 0), (0, 1), (0, 2), (0, 3), (0, 4)] 5 E.length 1 ([] : LLs).length) 0 0 = some (0, 0) := by simp [renIn, growF, idx]
    have r1 : renIn (growF [(0, 0), (0, 1), (0, 2), (0, 3), (0, 4)] 5 E.length 1 ([] : LLs).length) 0 1 = some (0, 1) := by simp [renIn, growF, idx]
    have r2 : renIn (growF [(0, 0), (0, 1), (0, 2), (0, 3), (0, 4)] 5 E.length 1 ([] : LLs).length) 0 2 = some (0, 2) := by simp [renIn, growF, idx]
    have r3 : renIn (growF [(0, 0), (0, 1), (0, 2), (0, 3), (0, 4)] 5 E.length 1 ([] : LLs).length) 0 3 = some (0, 3) := by simp [renIn, growF, idx]
    have r4 : renIn (growF [(0, 0), (0, 1), (0, 2), (0, 3), (0, 4)] 5 E.length 1 ([] : LLs).length) 0 4 = some (0, 4) := by simp [renIn, growF, idx]
    simp only [P4, Mem.get, if_true, List.cons_append, List.nil_append, List.getD_cons_zero, List.getD_cons_succ, renBlk, renSegs, renSg, List.map_cons, List.map_nil, renAt, renCaps, r0, r1, r2, r3, r4, (hE.ren _ i0).1]
  · rintro r xs ns ⟨rfl, (⟨h1, rfl, rfl⟩ | ⟨h1, rfl, rfl⟩)⟩
    · have e1 : renV (renOut nid (growF [(0, 0), (0, 1), (0, 2), (0, 3), (0, 4)] 5 E.length 1 ([] : LLs).length)) (.b (leM (n + A2.length))) = .b (leM n) := by rw [h1]; rfl
      rw [e1]
      refine hK0 h1 _ _ fun n' => ?_
      have := grow_mem (aP := P4 N M t s (.sl 0 4 0 0 n 1) (.lv true [(0, .cells n cs)]) []) (aP' := P4 N M t s (.sl 0 4 0 0 n 1) (.lv true [(0, .cells n cs)]) []) (xs0 := P4 N M t s (.sl 0 4 0 0 n 1) (.lv true [(0, .cells n cs)]) []) (ns := []) (loc := loc) (loc' := loc) (n := n') (nid := nid) (F0 := [(0, 0), (0, 1), (0, 2), (0, 3), (0, 4)]) (A := []) (B := 1) (b := 5) rfl rfl ce.2 (by decide) hnid (fun _ => rfl)
        (by simp only [P4, zipUps, Mem.upd, Mem.put, if_true, renBlk, renSegs, renSg, renAt, renCaps, q0, q1, q2, q3, q4, List.map_cons, List.map_nil, ce.1, List.cons_append, List.nil_append, List.set_cons_zero, List.set_cons_succ])
      rw [inn_nil, List.append_nil] at this
      exact this
    · refine hK1 h1 _ _ fun n' => ?_
      have := grow_mem (aP := P4 N M t s (.sl 0 4 0 0 n 1) (.lv true [(0, .cells n cs)]) []) (aP' := P4 N M t s (.sl nid 0 0 0 (n + A2.length) 1) .dead []) (xs0 := P4 N M t s (.sl 1 0 0 0 (n + A2.length) 1) .dead []) (ns := .lv true [(0, .cells (n + A2.length) (cs ++ outs 1 1 A2))] :: inn A2) (loc := loc) (loc' := loc) (n := n') (nid := nid) (F0 := [(0, 0), (0, 1), (0, 2), (0, 3), (0, 4)]) (A := []) (B := 1) (b := 5) rfl rfl ce.2 (by decide) hnid (fun _ => rfl)
        (by simp only [P4, zipUps, Mem.upd, Mem.put, if_true, renBlk, renSegs, renSg, renAt, renCaps, q0, q1, q2, q3, q4, qn, List.map_cons, List.map_nil, List.cons_append, List.nil_append, List.set_cons_zero, List.set_cons_succ])
      rw [inn_nil, List.append_nil] at this
      refine Eq.trans this ?_
      have c2 : (outs 1 1 A2).map (renAt (renOut nid (growF [(0, 0), (0, 1), (0, 2), (0, 3), (0, 4)] 5 E.length 1 ([] : LLs).length))) = outs nid 1 A2 := outs_ren fun i hi => rfl
      simp only [newUps, newUps_inn, renBlk, renSegs, renSg, List.map_append, ce.1, c2, List.reverse_cons, rbag_nil, List.append_assoc, List.cons_append, List.nil_append, P4]
      rfl

end Go.Proofs.Ytgblnnodoabdeaa
