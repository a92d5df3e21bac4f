/-
Contracts of functions of the given program, by the abstract walk.
-/
import Derived.Test.YtgblnnodoabdeaaAbsY
import Derived.Test.YtgblnnodoabdeaaJj
namespace Go.Proofs.Ytgblnnodoabdeaa
open Go Go.Abs
set_option linter.unusedVariables false
set_option linter.unusedSectionVars false
set_option linter.unusedSimpArgs false
set_option maxRecDepth 100000
/-! a list of lists that grows behind a front that nobody looks at -/
theorem at_appL {A B : LLs} {i : Nat} (h : i < A.length) : at_ (A ++ B) i = at_ A i := by
  unfold at_; rw [List.getD_eq_getElem?_getD, List.getElem?_append_left h, ← List.getD_eq_getElem?_getD]
theorem at_appR {A B : LLs} {i : Nat} : at_ (A ++ B) (A.length + i) = at_ B i := by
  unfold at_; rw [List.getD_eq_getElem?_getD, List.getElem?_append_right (by omega), ← List.getD_eq_getElem?_getD]; congr 1; omega
theorem range_map_app {α : Type} {a b : Nat} {f : Nat → α} : (List.range (a + b)).map f = (List.range a).map f ++ (List.range b).map fun i => f (a + i) := by
  rw [List.range_add, List.map_append, List.map_map]; rfl
theorem outs_append {a k : Nat} {A B : LLs} : outs a k (A ++ B) = outs a k A ++ outs a (k + A.length) B := by
  unfold outs
  rw [List.length_append, range_map_app]
  congr 1
  · exact List.map_congr_left fun i hi => by rw [at_appL (List.mem_range.1 hi)]
  · exact List.map_congr_left fun i _ => by rw [at_appR, Nat.add_assoc]
theorem inn_append {A B : LLs} : inn (A ++ B) = inn A ++ inn B := by
  unfold inn
  rw [List.length_append, range_map_app]
  congr 1
  · exact List.map_congr_left fun i hi => by rw [at_appL (List.mem_range.1 hi)]
  · exact List.map_congr_left fun i _ => by rw [at_appR]
theorem bagU_append {a k : Nat} {A B : LLs} : bagU a k (A ++ B) = bagU a k A ++ bagU a (k + A.length) B := by
  unfold bagU
  rw [List.length_append, range_map_app]
  congr 1
  · exact List.map_congr_left fun i hi => by rw [at_appL (List.mem_range.1 hi)]
  · exact List.map_congr_left fun i _ => by rw [at_appR, Nat.add_assoc]
theorem rbag_append {a k : Nat} {A B : LLs} : rbag a k (A ++ B) = rbag a (k + A.length) B ++ rbag a k A := by
  unfold rbag; rw [bagU_append, List.reverse_append]
structure Opq (b : Nat) (cs : List Atom) (E : List Blk) : Prop where
  ren : ∀ σ : Ren, (∀ k, b ≤ k → k < b + E.length → σ 0 k = some (0, k)) → cs.map (renAt σ) = cs ∧ E.map (renBlk σ) = E
  live : ∀ k, k < E.length → E.getD k .dead ≠ .dead
theorem Opq.nil {b : Nat} : Opq b [] [] := ⟨fun _ _ => ⟨rfl, rfl⟩, fun k h => absurd h (by simp)⟩
theorem Opq.grow {b : Nat} {cs : List Atom} {E : List Blk} (h : Opq b cs E) (A : LLs) : Opq b (cs ++ outs 0 (b + E.length) A) (E ++ inn A) := by
  refine ⟨fun σ hσ => ?_, fun k hk => ?_⟩
  · obtain ⟨h1, h2⟩ := h.ren σ fun k h1 h2 => hσ k h1 (by rw [List.length_append]; omega)
    rw [List.map_append, List.map_append, h1, h2, inn_ren, outs_ren (a' := 0) (k' := b + E.length) fun i hi => by
      rw [hσ _ (by omega) (by rw [List.length_append, inn_len]; omega)]]
    exact ⟨rfl, rfl⟩
  · rw [List.length_append, inn_len] at hk
    rw [List.getD_eq_getElem?_getD]
    by_cases e : k < E.length
    · rw [List.getElem?_append_left e, ← List.getD_eq_getElem?_getD]; exact h.live k e
    · rw [List.getElem?_append_right (by omega), ← List.getD_eq_getElem?_getD, inn_get (by omega)]; simp [ib]
/-- The ids that a call is handed: F0 (b of them), the front's rows, one's own rows. -/
def growF (F0 : List Abs.Id) (b m B l : Nat) : List Abs.Id := F0 ++ (srcs 0 b m ++ srcs B 0 l)
theorem idx_none' {F : List Abs.Id} {a k : Nat} (h : ∀ p ∈ F, ¬(p.1 = a ∧ p.2 = k)) : idx F a k = none := by
  induction F with
  | nil => rfl
  | cons p r ih => rw [idx, if_neg (h p (by simp)), ih fun q hq => h q (by simp [hq])]; rfl
section
variable {F0 : List Abs.Id} {b m B l : Nat}
theorem growF_idx0 (hb : F0.length = b) (hF : ∀ p ∈ F0, ¬(p.1 = 0 ∧ b ≤ p.2)) {k : Nat} (h1 : b ≤ k) (h2 : k < b + m) : idx (growF F0 b m B l) 0 k = some k := by
  unfold growF
  rw [idx_app, idx_none' fun p hp h => hF p hp ⟨h.1, by omega⟩, idx_app, idx_srcs, if_pos ⟨rfl, h1, h2⟩]
  simp; omega
theorem growF_idxB (hb : F0.length = b) (hB : B ≠ 0) (hF : ∀ p ∈ F0, p.1 ≠ B) {j : Nat} (h : j < l) : idx (growF F0 b m B l) B (0 + j) = some (b + m + j) := by
  unfold growF
  rw [idx_app, idx_none' fun p hp h => hF p hp h.1, idx_app, idx_srcs, if_neg (fun h => hB h.1), idx_srcs_in h]
  simp [srcs_len]; omega
theorem growF_at0 (hb : F0.length = b) {k : Nat} (h1 : b ≤ k) (h2 : k < b + m) : (growF F0 b m B l)[k]? = some (0, k) := by
  unfold growF
  rw [List.getElem?_append_right (by omega), List.getElem?_append_left (by rw [srcs_len]; omega)]
  unfold srcs
  rw [List.getElem?_map, List.getElem?_range (by omega)]
  simp; omega
theorem growF_atB (hb : F0.length = b) {j : Nat} (h : j < l) : (growF F0 b m B l)[b + m + j]? = some (B, 0 + j) := by
  unfold growF
  rw [List.getElem?_append_right (by omega), List.getElem?_append_right (by rw [srcs_len]; omega)]
  rw [srcs_len, show b + m + j - F0.length - m = j by omega]
  unfold srcs
  rw [List.getElem?_map, List.getElem?_range h]; rfl
theorem growF_at (hb : F0.length = b) {k : Nat} (h : k < b) : (growF F0 b m B l)[k]? = F0[k]? := by
  unfold growF; rw [List.getElem?_append_left (by omega)]
theorem growF_nodup (hB : B ≠ 0) (hn : F0.Nodup) (hF : ∀ p ∈ F0, ¬(p.1 = 0 ∧ b ≤ p.2)) (hFB : ∀ p ∈ F0, p.1 ≠ B) : (growF F0 b m B l).Nodup := by
  unfold growF
  rw [List.nodup_append]
  refine ⟨hn, ?_, fun p hp q hq e => ?_⟩
  · rw [List.nodup_append]
    refine ⟨srcs_nodup, srcs_nodup, fun p hp q hq e => ?_⟩
    have h1 := (srcs_mem.1 hp).1
    have h2 := (srcs_mem.1 hq).1
    rw [e] at h1
    exact hB (h2.symm.trans h1)
  · subst e
    rcases List.mem_append.1 hq with hq | hq
    · have := srcs_mem.1 hq
      exact hF p hp ⟨this.1, this.2.1⟩
    · exact hFB p hp (srcs_mem.1 hq).1
end
theorem CallsVia.grow {P : Program} {f : FuncId} {vs vs' : List AV} {aP : List Blk} {E : List Blk} {cs : List Atom} {A : LLs} {loc : Loc} {n b B : Nat} {K : AV → Ups → List Abs.Id → Prop} {R : AV → List Blk → List Blk → Prop} {bs0 : List Blk} (F0 : List Abs.Id) (hb : F0.length = b) (haP : 0 < E.length → aP.length = b) (hB : B ≠ 0)
    (hn : F0.Nodup) (hF : ∀ p ∈ F0, ¬(p.1 = 0 ∧ b ≤ p.2)) (hFB : ∀ p ∈ F0, p.1 ≠ B) (hE : Opq b cs E) (hl : ∀ p ∈ F0, (Mem.mk (aP ++ E) loc n).get p.1 p.2 ≠ .dead) (hA : ∀ j, j < A.length → assoc loc B (0 + j) = ib (at_ A j))
    (h : ACalls P f vs' (bs0 ++ (E ++ inn A)) R) (hv : renVs (renIn (growF F0 b E.length B A.length)) vs = vs')
    (hb0 : F0.map (fun p => renBlk (renIn (growF F0 b E.length B A.length)) ((Mem.mk (aP ++ E) loc n).get p.1 p.2)) = bs0)
    (hK : ∀ r xs ns, R r xs ns → K (renV (renOut n (growF F0 b E.length B A.length)) r) (zipUps (renOut n (growF F0 b E.length B A.length)) (growF F0 b E.length B A.length) xs ++ newUps (renOut n (growF F0 b E.length B A.length)) n 0 ns) (growF F0 b E.length B A.length)) :
    CallsVia P f vs ⟨aP ++ E, loc, n⟩ K := by
  have ge : ∀ i, i < E.length → (Mem.mk (aP ++ E) loc n).get 0 (b + i) = E.getD i .dead := fun i hi => by
    have haP := haP (by omega)
    show (aP ++ E).getD (b + i) .dead = _
    rw [List.getD_eq_getElem?_getD, List.getElem?_append_right (by omega), ← List.getD_eq_getElem?_getD, show b + i - aP.length = i by omega]
  have gB : ∀ j, j < A.length → (Mem.mk (aP ++ E) loc n).get B (0 + j) = ib (at_ A j) := fun j hj => by
    show (if B = 0 then _ else assoc loc B (0 + j)) = _
    rw [if_neg hB]; exact hA j hj
  have hren := (hE.ren (renIn (growF F0 b E.length B A.length)) fun k h1 h2 => by unfold renIn; rw [growF_idx0 hb hF h1 h2]; rfl).2
  refine CallsVia.args (growF F0 b E.length B A.length) h (growF_nodup hB hn hF hFB) (fun p hp => ?_) hv ?_ hK
  · unfold growF at hp
    rcases List.mem_append.1 hp with hp | hp
    · exact hl p hp
    · rcases List.mem_append.1 hp with hp | hp
      · obtain ⟨h1, h2, h3⟩ := srcs_mem.1 hp
        obtain ⟨x, y⟩ := p
        simp only at h1 h2 h3
        subst h1
        rw [show y = b + (y - b) by omega, ge _ (by omega)]
        exact hE.live _ (by omega)
      · obtain ⟨h1, h2, h3⟩ := srcs_mem.1 hp
        obtain ⟨x, y⟩ := p
        simp only at h1 h2 h3
        subst h1
        rw [show y = 0 + y by omega, gB _ (by omega)]
        simp [ib]
  · unfold argBlks
    conv => lhs; arg 2; unfold growF
    rw [List.map_append, List.map_append, hb0]
    congr 1
    congr 1
    · have e : (srcs 0 b E.length).map (fun p => renBlk (renIn (growF F0 b E.length B A.length)) ((Mem.mk (aP ++ E) loc n).get p.1 p.2)) = E.map (renBlk (renIn (growF F0 b E.length B A.length))) := by
        unfold srcs
        rw [List.map_map]
        refine List.ext_getElem (by simp) fun i h1 h2 => ?_
        have hi : i < E.length := by simpa using h2
        rw [List.getElem_map, List.getElem_map, List.getElem_range]
        simp only [Function.comp]
        rw [ge i hi, List.getD_eq_getElem?_getD, List.getElem?_eq_getElem hi]
        rfl
      rw [e, hren]
    · exact srcs_get gB

end Go.Proofs.Ytgblnnodoabdeaa
