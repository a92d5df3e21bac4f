/-
Contracts of functions of the given program, by the abstract walk.
-/
import Derived.Test.YtjmenocghjggcaaAbsY
import Derived.Test.YtjmenocghjggcaaOj
namespace Go.Proofs.Ytjmenocghjggcaa
open Go Go.Abs
set_option linter.unusedVariables false
set_option linter.unusedSectionVars false
set_option linter.unusedSimpArgs false
set_option maxRecDepth 100000
/-! mates: blocks of one name in the store; the first place -/
def updL (a : Nat) : Nat → List Blk → Loc → Loc
  | _, [], l => l
  | k, b :: r, l => updL a (k + 1) r (((a, k), b) :: l)
theorem assoc_updL {a b j : Nat} : ∀ {E : List Blk} {k : Nat} {l : Loc}, assoc (updL a k E l) b j = if b = a ∧ k ≤ j ∧ j < k + E.length then E.getD (j - k) .dead else assoc l b j
  | [], k, l => by rw [updL, if_neg (fun h => by have h1 := h.2.1; have h2 := h.2.2; simp only [List.length_nil] at h2; omega)]
  | x :: r, k, l => by
    rw [updL, assoc_updL, List.length_cons]
    by_cases h : b = a ∧ k + 1 ≤ j ∧ j < k + 1 + r.length
    · rw [if_pos h, if_pos (by omega), show j - k = (j - (k + 1)) + 1 by omega, List.getD_cons_succ]
    · rw [if_neg h, assoc]
      by_cases e : a = b ∧ k = j
      · rw [if_pos e, if_pos (by omega), show j - k = 0 by omega, List.getD_cons_zero]
      · rw [if_neg e, if_neg (by omega)]
theorem assoc_updL_in {a i k : Nat} {E : List Blk} {l : Loc} (h : i < E.length) : assoc (updL a k E l) a (k + i) = E.getD i .dead := by rw [assoc_updL, if_pos (by omega), Nat.add_sub_cancel_left]
theorem assoc_updL_ne {a b j k : Nat} {E : List Blk} {l : Loc} (h : b ≠ a) : assoc (updL a k E l) b j = assoc l b j := by rw [assoc_updL, if_neg (fun e => h e.1)]
theorem upd_news {σ : Ren} {args : List Blk} {nid n : Nat} (h0 : nid ≠ 0) : ∀ {E : List Blk} {k : Nat} {l : Loc}, E.map (renBlk σ) = E → (Mem.mk args l n).upd (newUps σ nid k E) = ⟨args, updL nid k E l, n⟩
  | [], _, _, _ => rfl
  | b :: r, k, l, h => by
    simp only [List.map_cons, List.cons.injEq] at h
    rw [newUps, Mem.upd, h.1]
    show (Mem.put ⟨args, l, n⟩ (nid, k) b).upd _ = _
    rw [Mem.put, if_neg h0]
    exact upd_news h0 h.2
theorem upd_srcs {σ : Ren} {args : List Blk} {a n : Nat} (h0 : a ≠ 0) : ∀ {E : List Blk} {k : Nat} {l : Loc}, E.map (renBlk σ) = E → (Mem.mk args l n).upd (zipUps σ (srcs a k E.length) E) = ⟨args, updL a k E l, n⟩
  | [], _, _, _ => rfl
  | b :: r, k, l, h => by
    simp only [List.map_cons, List.cons.injEq] at h
    have e : srcs a k (b :: r).length = (a, k) :: srcs a (k + 1) r.length := by
      unfold srcs
      rw [List.length_cons, List.range_succ_eq_map, List.map_cons, List.map_map]
      congr 1
      refine List.map_congr_left fun i _ => ?_
      simp; omega
    rw [e, zipUps, Mem.upd, h.1]
    show (Mem.put ⟨args, l, n⟩ (a, k) b).upd _ = _
    rw [Mem.put, if_neg h0]
    exact upd_srcs h0 h.2
theorem zip_split {σ : Ren} : ∀ {A : List Abs.Id} {X : List Blk}, A.length = X.length → ∀ {B : List Abs.Id} {Y : List Blk}, zipUps σ (A ++ B) (X ++ Y) = zipUps σ A X ++ zipUps σ B Y
  | [], [], _, _, _ => rfl
  | a :: A, x :: X, h, B, Y => by
    simp only [List.cons_append, zipUps]; rw [zip_split (by simpa using h)]
/-- A call that is handed F0 and the blocks E of the name a, which it leaves. -/
theorem CallsVia.tailL {P : Program} {f : FuncId} {vs vs' : List AV} {E : List Blk} {args : List Blk} {loc : Loc} {n a bf : Nat} {K : AV → Ups → List Abs.Id → Prop} {R : AV → List Blk → List Blk → Prop} {bs0 : List Blk} (F0 : List Abs.Id) (hb : F0.length = bf) (ha : a ≠ 0) (hn : F0.Nodup) (hF : ∀ p ∈ F0, p.1 ≠ a)
    (hE : ∀ σ : Ren, E.map (renBlk σ) = E) (hEl : ∀ x ∈ E, x ≠ .dead) (hg : ∀ i, i < E.length → assoc loc a (0 + i) = E.getD i .dead) (hl : ∀ p ∈ F0, (Mem.mk args loc n).get p.1 p.2 ≠ .dead)
    (h : ACalls P f vs' (bs0 ++ E) (fun r xs ns => ∃ xs0, xs = xs0 ++ E ∧ xs0.length = bf ∧ R r xs0 ns)) (hv : renVs (renIn (F0 ++ srcs a 0 E.length)) vs = vs') (hb0 : F0.map (fun p => renBlk (renIn (F0 ++ srcs a 0 E.length)) ((Mem.mk args loc n).get p.1 p.2)) = bs0)
    (hK : ∀ r xs0 ns, R r xs0 ns → xs0.length = bf → ∀ ups rd, (∀ n' A L, (Mem.mk args loc n').upd (zipUps (renOut n (F0 ++ srcs a 0 E.length)) F0 xs0) = ⟨A, L, n'⟩ → (Mem.mk args loc n').upd ups = (Mem.mk A (updL a 0 E L) n').upd (newUps (renOut n (F0 ++ srcs a 0 E.length)) n 0 ns)) → K (renV (renOut n (F0 ++ srcs a 0 E.length)) r) ups rd) :
    CallsVia P f vs ⟨args, loc, n⟩ K := by
  have ge : ∀ n i, i < E.length → (Mem.mk args loc n).get a (0 + i) = E.getD i .dead := fun n i hi => by
    rw [Mem.get, if_neg ha]; exact hg i hi
  refine CallsVia.args (F0 ++ srcs a 0 E.length) h ?_ ?_ hv ?_ ?_
  · rw [List.nodup_append]
    refine ⟨hn, srcs_nodup, fun p hp q hq e => ?_⟩
    subst e
    exact hF p hp (srcs_mem.1 hq).1
  · intro p hp
    rcases List.mem_append.1 hp with hp | hp
    · exact hl p hp
    · obtain ⟨h1, h2, h3⟩ := srcs_mem.1 hp
      obtain ⟨x, y⟩ := p
      simp only at h1 h2 h3
      subst h1
      rw [show y = 0 + y by omega, ge _ _ (by omega), List.getD_eq_getElem?_getD, List.getElem?_eq_getElem (by omega)]
      exact hEl _ (List.getElem_mem _)
  · unfold argBlks
    rw [List.map_append, hb0]
    congr 1
    have e : (srcs a 0 E.length).map (fun p => renBlk (renIn (F0 ++ srcs a 0 E.length)) ((Mem.mk args loc n).get p.1 p.2)) = E.map (renBlk (renIn (F0 ++ srcs a 0 E.length))) := by
      unfold srcs
      rw [List.map_map]
      refine List.ext_getElem (by simp) fun i h1 h2 => ?_
      have hi : i < E.length := by simpa using h2
      simp only [List.getElem_map, List.getElem_range, Function.comp]
      rw [ge _ _ hi]; simp [hi]
    rw [e, hE]
  · rintro r xs ns ⟨xs0, rfl, hx0, hR⟩
    refine hK r xs0 ns hR hx0 _ _ fun n' A L hAL => ?_
    rw [Mem.upd_app, zip_split (by omega), Mem.upd_app, hAL, upd_srcs ha (hE _)]
theorem tailL_in {F0 : List Abs.Id} {a bf m i : Nat} (hb : F0.length = bf) (hF : ∀ p ∈ F0, p.1 ≠ a) (hi : i < m) : renIn (F0 ++ srcs a 0 m) a (0 + i) = some (0, bf + i) := by
  have e : idx F0 a (0 + i) = none := by
    have key : ∀ F : List Abs.Id, (∀ p ∈ F, p.1 ≠ a) → idx F a (0 + i) = none := by
      intro F
      induction F with
      | nil => intro _; rfl
      | cons p F ih =>
        intro h
        rw [idx, if_neg (fun e => h p (by simp) e.1), ih fun q hq => h q (by simp [hq])]; rfl
    exact key F0 hF
  unfold renIn
  rw [idx_app, e, idx_srcs_in hi]
  simp; omega
theorem tailL_out {F0 : List Abs.Id} {n a bf m i : Nat} (hb : F0.length = bf) (hi : i < m) : renOut n (F0 ++ srcs a 0 m) 0 (bf + i) = some (a, 0 + i) := by
  show (F0 ++ srcs a 0 m)[bf + i]? = _
  rw [List.getElem?_append_right (by omega)]
  simp [srcs, hb, hi]
/-- the cell of lists, those behind LF being nil -/
def byD (a b : Nat) (LF : List (List (List Int))) : Blk := .lv true [(0, .cells 10 (cellsF a b LF ++ List.replicate (10 - LF.length) .nils))]
theorem byD_ren {a b a' b' : Nat} {LF : List (List (List Int))} {σ : Ren} (h : ∀ i, i < (blksF LF).length → σ a (b + i) = some (a', b' + i)) : renBlk σ (byD a b LF) = byD a' b' LF := by
  simp only [byD, renBlk, renSegs, renSg, List.map_append, cellsF_ren h, List.map_replicate, renAt]
theorem byC_nil {b : Nat} {LF : List (List (List Int))} (h : LF.length < 10) : byC b LF .nils = byD 0 b LF := by
  unfold byC byD
  rw [show 10 - LF.length = (9 - LF.length) + 1 by omega, List.replicate_succ]
theorem byD_snoc0 {a b : Nat} {LF : List (List (List Int))} (h : LF.length < 10) : byD a b (LF ++ [[]]) = byD a b LF := by
  unfold byD
  rw [cellsF_app, List.length_append, List.length_singleton, show 10 - LF.length = (10 - (LF.length + 1)) + 1 by omega, List.replicate_succ]
  simp [cellsF]
theorem blksF_snoc0 {LF : List (List (List Int))} : blksF (LF ++ [[]]) = blksF LF := by rw [blksF_app]; simp [blksF]
theorem blksF_snoc {LF : List (List (List Int))} {L : List (List Int)} (h : L ≠ []) : blksF (LF ++ [L]) = blksF LF ++ [plB L] := by
  rw [blksF_app]
  cases L with
  | nil => exact absurd rfl h
  | cons p L => rfl
theorem cellsF_one {a b : Nat} {L : List (List Int)} (h : L ≠ []) : cellsF a b [L] = [.sl a b 0 0 L.length 10] := by
  cases L with
  | nil => exact absurd rfl h
  | cons p L => rfl
def byX (a b : Nat) (LF : List (List (List Int))) (A : Atom) : Blk := .lv true [(0, .cells 10 (cellsF a b LF ++ A :: List.replicate (9 - LF.length) .nils))]
theorem byX_ren {a b a' b' : Nat} {LF : List (List (List Int))} {A : Atom} {σ : Ren} (h : ∀ i, i < (blksF LF).length → σ a (b + i) = some (a', b' + i)) : renBlk σ (byX a b LF A) = byX a' b' LF (renAt σ A) := by
  simp only [byX, renBlk, renSegs, renSg, List.map_append, List.map_cons, cellsF_ren h, List.map_replicate]; rfl
/-- a list that comes in after the others -/
theorem byX_grow {a b t a' b' : Nat} {LF : List (List (List Int))} {L : List (List Int)} {σ : Ren} (hl : LF.length < 10) (hL : L ≠ []) (h : ∀ i, i < (blksF LF).length → σ a (b + i) = some (a', b' + i)) (ht : σ t 0 = some (a', b' + (blksF LF).length)) :
    renBlk σ (byX a b LF (.sl t 0 0 0 L.length 10)) = byD a' b' (LF ++ [L]) := by
  rw [byX_ren h]
  simp only [byX, byD, renAt, ht, cellsF_app, cellsF_one hL, List.length_append, List.length_singleton]
  rw [show 10 - (LF.length + 1) = 9 - LF.length by omega, List.append_assoc, List.singleton_append]
def bagB (a : Nat) (E : List Blk) : Loc := ((List.range E.length).map fun i => ((a, 0 + i), E.getD i .dead)).reverse
theorem bagB_get {a i : Nat} {E : List Blk} (h : i < E.length) : assoc (bagB a E) a (0 + i) = E.getD i .dead := by
  have key : ∀ n, i < n → assoc (((List.range n).map fun i => (((a, 0 + i) : Abs.Id), E.getD i .dead)).reverse) a (0 + i) = E.getD i .dead := by
    intro n
    induction n with
    | zero => intro h; exact absurd h (by omega)
    | succ n ih =>
      intro hn
      rw [List.range_succ, List.map_append, List.map_singleton, List.reverse_append, List.reverse_singleton, List.singleton_append, assoc]
      by_cases e : n = i
      · subst e; rw [if_pos ⟨rfl, rfl⟩]
      · rw [if_neg (by omega)]; exact ih (by omega)
  exact key _ h
theorem bagB_snoc {a : Nat} {E : List Blk} {b : Blk} : bagB a (E ++ [b]) = ((a, 0 + E.length), b) :: bagB a E := by
  unfold bagB
  rw [List.length_append, List.length_singleton, List.range_succ, List.map_append, List.map_singleton, List.reverse_append, List.reverse_singleton, List.singleton_append]
  congr 1
  · simp
  · congr 1
    refine List.map_congr_left fun i hi => ?_
    have : i < E.length := List.mem_range.1 hi
    rw [List.getD_eq_getElem?_getD, List.getElem?_append_left this, ← List.getD_eq_getElem?_getD]
theorem wkLoc_bagB {m : Mem} {τ : Ren} {a b : Nat} {E : List Blk} (hE : ∀ σ : Ren, E.map (renBlk σ) = E) (h : ∀ i, i < E.length → m.get a (0 + i) = E.getD i .dead) : wkLoc m τ (rids (fun j => (a, 0 + j)) E.length b 0) = bagB b E := by
  unfold rids bagB
  rw [← List.map_reverse, wkLoc_map m τ (fun j => (a, 0 + j)) (fun i => (b, 0 + i)) (fun i => E.getD i .dead) _ fun i hi => by
    have hi' : i < E.length := by simpa using hi
    rw [h i hi']
    have e1 : (E.map (renBlk τ))[i]? = E[i]? := by rw [hE]
    rw [List.getElem?_map, List.getElem?_eq_getElem hi', Option.map_some, Option.some.injEq] at e1
    rw [List.getD_eq_getElem?_getD, List.getElem?_eq_getElem hi']; exact e1, List.map_reverse]
theorem map_srcs {mem : Mem} {σ : Ren} {a : Nat} {E : List Blk} (hE : ∀ σ : Ren, E.map (renBlk σ) = E) (h : ∀ i, i < E.length → mem.get a (0 + i) = E.getD i .dead) : (srcs a 0 E.length).map (fun p => renBlk σ (mem.get p.1 p.2)) = E := by
  have e : (srcs a 0 E.length).map (fun p => renBlk σ (mem.get p.1 p.2)) = E.map (renBlk σ) := by
    unfold srcs
    rw [List.map_map]
    refine List.ext_getElem (by simp) fun i h1 h2 => ?_
    have hi : i < E.length := by simpa using h2
    simp only [List.getElem_map, List.getElem_range, Function.comp]
    rw [h _ hi]; simp [hi]
  rw [e, hE]
theorem renFin_srcs {a m i : Nat} (ha : a ≠ 0) (hi : i < m) : renFin (srcs a 0 m) a (0 + i) = some (1, 0 + i) := by
  simp only [renFin, ha, if_false, idx_srcs_in hi, Option.map_some]; simp
/-- A call that makes the blocks E. -/
theorem CallsVia.news {P : Program} {f : FuncId} {vs vs' : List AV} {E xs0 bs : List Blk} {v : AV} {args : List Blk} {loc : Loc} {n : Nat} {K : AV → Ups → List Abs.Id → Prop} (F : List Abs.Id) (hn0 : n ≠ 0) (hn : F.Nodup) (hE : ∀ σ : Ren, E.map (renBlk σ) = E) (hl : ∀ p ∈ F, (Mem.mk args loc n).get p.1 p.2 ≠ .dead)
    (h : ACalls P f vs' bs (fun r xs ns => r = v ∧ xs = xs0 ∧ ns = E)) (hv : renVs (renIn F) vs = vs') (hb : argBlks ⟨args, loc, n⟩ F = bs)
    (hK : ∀ ups rd, (∀ n' A L, (Mem.mk args loc n').upd (zipUps (renOut n F) F xs0) = ⟨A, L, n'⟩ → (Mem.mk args loc n').upd ups = ⟨A, updL n 0 E L, n'⟩) → K (renV (renOut n F) v) ups rd) :
    CallsVia P f vs ⟨args, loc, n⟩ K := by
  refine CallsVia.args F h hn hl hv hb ?_
  rintro r xs ns ⟨rfl, rfl, rfl⟩
  refine hK _ _ fun n' A L hAL => ?_
  rw [Mem.upd_app, hAL, upd_news hn0 (hE _)]

end Go.Proofs.Ytjmenocghjggcaa
