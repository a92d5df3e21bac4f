/-
Contracts of functions of the given program, by the abstract walk.
-/
import Derived.Test.YtjmenocghjggcaaAbsY
import Derived.Test.YtjmenocghjggcaaOf
import Derived.Test.YtjmenocghjggcaaJj
namespace Go.Proofs.Ytjmenocghjggcaa
open Go Go.Abs
set_option linter.unusedVariables false
set_option linter.unusedSectionVars false
set_option linter.unusedSimpArgs false
set_option maxRecDepth 100000
/-! mates: calls with a tail of lists of places that stays as it is -/
def cellsF (a b : Nat) : List (List (List Int)) → List Atom
  | [] => []
  | [] :: r => .nils :: cellsF a b r
  | (p :: L) :: r => .sl a b 0 0 (p :: L).length 10 :: cellsF a (b + 1) r
def blksF : List (List (List Int)) → List Blk
  | [] => []
  | [] :: r => blksF r
  | (p :: L) :: r => plB (p :: L) :: blksF r
theorem cellsF_len {a : Nat} : ∀ {LS : List (List (List Int))} {b : Nat}, (cellsF a b LS).length = LS.length
  | [], _ => rfl
  | [] :: r, b => by rw [cellsF, List.length_cons, cellsF_len]; rfl
  | (p :: L) :: r, b => by rw [cellsF, List.length_cons, cellsF_len]; rfl
theorem blksF_ren {σ : Ren} : ∀ {LS : List (List (List Int))}, (blksF LS).map (renBlk σ) = blksF LS
  | [] => rfl
  | [] :: r => by rw [blksF]; exact blksF_ren
  | (p :: L) :: r => by rw [blksF, List.map_cons, plB_ren, blksF_ren]
theorem blksF_live : ∀ {LS : List (List (List Int))}, ∀ b ∈ blksF LS, b ≠ .dead
  | [], b, h => by cases h
  | [] :: r, b, h => by rw [blksF] at h; exact blksF_live b h
  | (p :: L) :: r, b, h => by
    rw [blksF, List.mem_cons] at h
    rcases h with rfl | h
    · simp [plB]
    · exact blksF_live b h
theorem cellsF_ren {σ : Ren} {a a' : Nat} : ∀ {LS : List (List (List Int))} {b b' : Nat}, (∀ i, i < (blksF LS).length → σ a (b + i) = some (a', b' + i)) → (cellsF a b LS).map (renAt σ) = cellsF a' b' LS
  | [], _, _, _ => rfl
  | [] :: r, b, b', h => by
    rw [cellsF, cellsF, List.map_cons, cellsF_ren (LS := r) h]; rfl
  | (p :: L) :: r, b, b', h => by
    have h0 := h 0 (by rw [blksF]; simp)
    have hr : ∀ i, i < (blksF r).length → σ a (b + 1 + i) = some (a', b' + 1 + i) := fun i hi => by
      have := h (i + 1) (by rw [blksF]; simpa using hi)
      rw [show b + 1 + i = b + (i + 1) by omega, show b' + 1 + i = b' + (i + 1) by omega]; exact this
    rw [cellsF, cellsF, List.map_cons, cellsF_ren hr]
    simp only [Nat.add_zero] at h0
    simp [renAt, h0]
theorem cellsF_app {a : Nat} : ∀ {LS R : List (List (List Int))} {b : Nat}, cellsF a b (LS ++ R) = cellsF a b LS ++ cellsF a (b + (blksF LS).length) R
  | [], R, b => by simp [cellsF, blksF]
  | [] :: r, R, b => by rw [List.cons_append, cellsF, cellsF_app, cellsF, blksF]; rfl
  | (p :: L) :: r, R, b => by
    rw [List.cons_append, cellsF, cellsF_app, cellsF, blksF, List.length_cons, List.cons_append, show b + 1 + (blksF r).length = b + ((blksF r).length + 1) by omega]; rfl
theorem blksF_app : ∀ {LS R : List (List (List Int))}, blksF (LS ++ R) = blksF LS ++ blksF R
  | [], R => rfl
  | [] :: r, R => by rw [List.cons_append, blksF, blksF_app, blksF]
  | (p :: L) :: r, R => by rw [List.cons_append, blksF, blksF_app, blksF]; rfl
theorem cellsF_get {a : Nat} : ∀ {LS : List (List (List Int))} {b k : Nat}, k < LS.length → (LS.getD k [] = [] ∧ (cellsF a b LS).getD k .top = .nils) ∨ (LS.getD k [] ≠ [] ∧ ∃ e, e < (blksF LS).length ∧ (cellsF a b LS).getD k .top = .sl a (b + e) 0 0 (LS.getD k []).length 10 ∧ (blksF LS).getD e .dead = plB (LS.getD k []))
  | [], b, k, h => absurd h (by simp)
  | [] :: r, b, 0, _ => .inl ⟨rfl, rfl⟩
  | [] :: r, b, k + 1, h => by
    have := cellsF_get (a := a) (LS := r) (b := b) (k := k) (by simpa using h)
    simpa [cellsF, blksF] using this
  | (p :: L) :: r, b, 0, _ => .inr ⟨by simp, 0, by simp [blksF], by simp [cellsF], by simp [blksF]⟩
  | (p :: L) :: r, b, k + 1, h => by
    rcases cellsF_get (a := a) (LS := r) (b := b + 1) (k := k) (by simpa using h) with ⟨h1, h2⟩ | ⟨h1, e, he, h2, h3⟩
    · exact .inl ⟨by simpa using h1, by simpa [cellsF] using h2⟩
    · refine .inr ⟨by simpa using h1, e + 1, by simpa [blksF] using he, ?_, by simpa [blksF] using h3⟩
      rw [show b + (e + 1) = b + 1 + e by omega]
      simpa [cellsF] using h2
theorem zip_memO {σ : Ren} : ∀ {F : List Abs.Id} {xs : List Blk}, ∀ q ∈ zipUps σ F xs, q.1 ∈ F
  | [], _, q, h => by simp [zipUps] at h
  | _ :: _, [], q, h => by simp [zipUps] at h
  | p :: F, b :: r, q, h => by
    rw [zipUps, List.mem_cons] at h
    rcases h with rfl | h
    · simp
    · exact List.mem_cons_of_mem _ (zip_memO q h)
/-- A call that is handed F0 and all that stands in the arguments from b on, which it leaves. -/
theorem CallsVia.tail {P : Program} {f : FuncId} {vs vs' : List AV} {aP E : List Blk} {loc : Loc} {n b bf : Nat} {K : AV → Ups → List Abs.Id → Prop} {R : AV → List Blk → List Blk → Prop} {bs0 : List Blk} (F0 : List Abs.Id) (hb : F0.length = bf) (haP : aP.length = b) (hn : F0.Nodup) (hF : ∀ p ∈ F0, ¬(p.1 = 0 ∧ b ≤ p.2))
    (hE : ∀ σ : Ren, E.map (renBlk σ) = E) (hEl : ∀ x ∈ E, x ≠ .dead) (hl : ∀ p ∈ F0, (Mem.mk (aP ++ E) loc n).get p.1 p.2 ≠ .dead)
    (h : ACalls P f vs' (bs0 ++ E) (fun r xs ns => ∃ xs0, xs = xs0 ++ E ∧ xs0.length = bf ∧ R r xs0 ns)) (hv : renVs (renIn (F0 ++ srcs 0 b E.length)) vs = vs') (hb0 : F0.map (fun p => renBlk (renIn (F0 ++ srcs 0 b E.length)) ((Mem.mk (aP ++ E) loc n).get p.1 p.2)) = bs0)
    (hK : ∀ r xs0 ns, R r xs0 ns → xs0.length = bf → ∀ ups rd, (∀ n', (Mem.mk (aP ++ E) loc n').upd ups = ((Mem.mk (aP ++ E) loc n').upd (zipUps (renOut n (F0 ++ srcs 0 b E.length)) F0 xs0)).upd (newUps (renOut n (F0 ++ srcs 0 b E.length)) n 0 ns)) → K (renV (renOut n (F0 ++ srcs 0 b E.length)) r) ups rd) :
    CallsVia P f vs ⟨aP ++ E, loc, n⟩ K := by
  have ge : ∀ n i, i < E.length → (Mem.mk (aP ++ E) loc n).get 0 (b + i) = E.getD i .dead := fun n i hi => by
    show (aP ++ E).getD (b + i) .dead = _
    rw [List.getD_eq_getElem?_getD, List.getElem?_append_right (by omega), ← List.getD_eq_getElem?_getD, show b + i - aP.length = i by omega]
  refine CallsVia.args (F0 ++ srcs 0 b E.length) h ?_ ?_ hv ?_ ?_
  · rw [List.nodup_append]
    refine ⟨hn, srcs_nodup, fun p hp q hq e => ?_⟩
    subst e
    have := srcs_mem.1 hq
    exact hF p hp ⟨this.1, this.2.1⟩
  · intro p hp
    rcases List.mem_append.1 hp with hp | hp
    · exact hl p hp
    · obtain ⟨h1, h2, h3⟩ := srcs_mem.1 hp
      obtain ⟨x, y⟩ := p
      simp only at h1 h2 h3
      subst h1
      rw [show y = b + (y - b) by omega, ge _ _ (by omega), List.getD_eq_getElem?_getD, List.getElem?_eq_getElem (by omega)]
      exact hEl _ (List.getElem_mem _)
  · unfold argBlks
    rw [List.map_append, hb0]
    congr 1
    have e : (srcs 0 b E.length).map (fun p => renBlk (renIn (F0 ++ srcs 0 b E.length)) ((Mem.mk (aP ++ E) loc n).get p.1 p.2)) = E.map (renBlk (renIn (F0 ++ srcs 0 b E.length))) := by
      unfold srcs
      rw [List.map_map]
      refine List.ext_getElem (by simp) fun i h1 h2 => ?_
      have hi : i < E.length := by simpa using h2
      simp only [List.getElem_map, List.getElem_range, Function.comp]
      rw [ge _ _ hi]; simp [hi]
    rw [e, hE]
  · rintro r xs ns ⟨xs0, rfl, hx0, hR⟩
    refine hK r xs0 ns hR hx0 _ _ fun n' => ?_
    rw [Mem.upd_app]
    congr 1
    have hz : ∀ (σ : Ren) (A : List Abs.Id) (X : List Blk), A.length = X.length → ∀ (B : List Abs.Id) (Y : List Blk), zipUps σ (A ++ B) (X ++ Y) = zipUps σ A X ++ zipUps σ B Y := by
      intro σ A
      induction A with
      | nil => intro X hX B Y; cases X with
        | nil => rfl
        | cons x X => simp at hX
      | cons a A ih => intro X hX B Y; cases X with
        | nil => simp at hX
        | cons x X => simp only [List.cons_append, zipUps]; rw [ih X (by simpa using hX)]
    rw [hz _ F0 xs0 (by omega), Mem.upd_app]
    -- the tail is written back as it is
    have hargs : ∀ (U : Ups) (m : Mem), (∀ x ∈ U, ¬(x.1.1 = 0 ∧ b ≤ x.1.2)) → (∀ i, b ≤ i → m.args.getD i .dead = (aP ++ E).getD i .dead) → ∀ i, b ≤ i → (m.upd U).args.getD i .dead = (aP ++ E).getD i .dead := by
      intro U
      induction U with
      | nil => intro m _ hm; exact hm
      | cons x U ih =>
        obtain ⟨p, c⟩ := x
        intro m hU hm
        refine ih _ (fun y hy => hU y (by simp [hy])) fun i hi => ?_
        have hp := hU (p, c) (by simp)
        unfold Mem.put
        by_cases h0 : p.1 = 0
        · rw [if_pos h0]
          have hne : p.2 ≠ i := fun e => hp ⟨h0, by show b ≤ p.2; omega⟩
          show (m.args.set p.2 c).getD i .dead = _
          rw [List.getD_eq_getElem?_getD, List.getElem?_set, if_neg hne, ← List.getD_eq_getElem?_getD]
          exact hm i hi
        · rw [if_neg h0]; exact hm i hi
    have hback : ∀ (k : Nat) (Y : List Blk) (m : Mem), (∀ i, i < Y.length → m.args.getD (b + k + i) .dead = Y.getD i .dead) → (∀ σ : Ren, Y.map (renBlk σ) = Y) → m.upd (zipUps (renOut n (F0 ++ srcs 0 b E.length)) ((List.range Y.length).map fun i => ((0, b + k + i) : Abs.Id)) Y) = m := by
      intro k Y
      induction Y generalizing k with
      | nil => intro m _ _; rfl
      | cons y Y ih =>
        intro m hm hY
        have hy : renBlk (renOut n (F0 ++ srcs 0 b E.length)) y = y := by
          have := hY (renOut n (F0 ++ srcs 0 b E.length)); simp only [List.map_cons, List.cons.injEq] at this; exact this.1
        rw [List.length_cons, List.range_succ_eq_map, List.map_cons, zipUps, Mem.upd, hy, put_same (by
          have h0 := hm 0 (by simp)
          show m.args.getD (b + k + 0) .dead = y
          rw [h0]; rfl), List.map_map]
        have := ih (k + 1) m (fun i hi => by
          have := hm (i + 1) (by simpa using hi)
          rw [show b + (k + 1) + i = b + k + (i + 1) by omega]; simpa using this) (fun σ => by
          have := hY σ; simp only [List.map_cons, List.cons.injEq] at this; exact this.2)
        have ef : ((fun i => ((0, b + k + i) : Abs.Id)) ∘ Nat.succ) = fun i => ((0, b + (k + 1) + i) : Abs.Id) := by funext i; simp; omega
        rw [ef]; exact this
    have hk0 := hback 0 E ((Mem.mk (aP ++ E) loc n').upd (zipUps (renOut n (F0 ++ srcs 0 b E.length)) F0 xs0)) (fun i hi => by
      rw [hargs _ _ (fun x hx hh => hF x.1 (zip_memO x hx) hh) (fun i _ => rfl) (b + 0 + i) (by omega), Nat.add_zero]
      exact ge n' i hi) hE
    simp only [Nat.add_zero] at hk0
    exact hk0
theorem tail_in {F0 : List Abs.Id} {b bf m i : Nat} (hb : F0.length = bf) (hF : ∀ p ∈ F0, ¬(p.1 = 0 ∧ b ≤ p.2)) (hi : i < m) : renIn (F0 ++ srcs 0 b m) 0 (b + i) = some (0, bf + i) := by
  have e : idx F0 0 (b + i) = none := by
    have key : ∀ F : List Abs.Id, (∀ p ∈ F, ¬(p.1 = 0 ∧ b ≤ p.2)) → idx F 0 (b + i) = none := by
      intro F
      induction F with
      | nil => intro _; rfl
      | cons p F ih =>
        intro h
        rw [idx, if_neg (fun e => h p (by simp) ⟨e.1, by omega⟩), ih fun q hq => h q (by simp [hq])]; rfl
    exact key F0 hF
  unfold renIn
  rw [idx_app, e, idx_srcs_in hi]
  simp; omega
theorem tail_out {F0 : List Abs.Id} {n b bf m i : Nat} (hb : F0.length = bf) (hi : i < m) : renOut n (F0 ++ srcs 0 b m) 0 (bf + i) = some (0, b + i) := by
  show (F0 ++ srcs 0 b m)[bf + i]? = _
  rw [List.getElem?_append_right (by omega)]
  simp [srcs, hb, hi]

end Go.Proofs.Ytjmenocghjggcaa
