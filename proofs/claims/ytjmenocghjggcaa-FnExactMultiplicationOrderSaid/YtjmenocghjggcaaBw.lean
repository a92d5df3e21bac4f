/-
Contracts of functions of the given program, by the abstract walk.
-/
import Derived.Test.YtjmenocghjggcaaAbsY
import Derived.Test.YtjmenocghjggcaaBv
namespace Go.Proofs.Ytjmenocghjggcaa
open Go Go.Abs
set_option linter.unusedVariables false
set_option linter.unusedSectionVars false
set_option linter.unusedSimpArgs false
set_option maxRecDepth 100000
/-! groupOf: the memory of a group that lies in a function's own blocks -/
theorem goW {N : Nat} (hN : N ≤ 10) {L0 : List Int → Prop} : ∀ f, LookW N L0 f ∧ AddW N L0 f := by
  intro f
  induction f with
  | zero => exact ⟨fun k p st h => absurd h.mu (by omega), fun k p st h => absurd h.mu (by omega)⟩
  | succ f ih => exact ⟨lookW_step hN ih.1 ih.2, addW_step hN ih.1⟩
def lcN (t : Nat) : Nm := fun k => (t, k)
def bagL (t : Nat) (gl : GL) : LocB := (fl (neB gl)).map fun k => ((t, k), plB (gl k))
def sgL (t : Nat) (gl : GL) (nm : Nm) : PairsG := (fl (neB gl)).map fun k => (nm k, (t, k))
theorem HasGrp.at {args : List Blk} {loc : LocB} {n n' : Nat} {gid : Abs.Id} {nm : Nm} {N : Nat} {st : GS} (h : HasGrp ⟨args, loc, n⟩ gid nm N st) (hn : n ≤ n') : HasGrp ⟨args, loc, n'⟩ gid nm N st :=
  ⟨h.grp, h.nam, h.inj, h.ne, Nat.lt_of_lt_of_le h.frg hn, fun k hk hne => Nat.lt_of_lt_of_le (h.frn k hk hne) hn⟩
theorem HasGrp.can {args : List Blk} {N : Nat} {st : GS} {g t n0 : Nat} (hgt : g ≠ t) (hg : g ≠ 0) (ht : t ≠ 0) (hgn : g < n0) (htn : t < n0) : HasGrp ⟨args, ((g, 0), grB N (lcN t) st) :: bagL t st.gl, n0⟩ (g, 0) (lcN t) N st := by
  refine ⟨?_, fun k hk hne => ?_, fun i j _ _ _ _ e => congrArg Prod.snd e, fun k _ _ e => hgt (congrArg Prod.fst e).symm, hgn, fun _ _ _ => htn⟩
  · rw [Mem.get, if_neg hg]
    show assoc (((g, 0), grB N (lcN t) st) :: bagL t st.gl) g 0 = _
    rw [assoc, if_pos ⟨rfl, rfl⟩]
  · show (Mem.mk args _ n0).get t k = _
    rw [Mem.get, if_neg ht]
    show assoc (((g, 0), grB N (lcN t) st) :: bagL t st.gl) t k = _
    rw [assoc, if_neg (fun e => hgt e.1)]
    exact assoc_bag (fl_mem.2 ⟨hk, hne⟩)
theorem HasGrp.weak {args : List Blk} {loc : LocB} {n : Nat} {nm : Nm} {N : Nat} {st : GS} {g t n0 : Nat} (h : HasGrp ⟨args, loc, n⟩ (g, 0) nm N st) (hgt : g ≠ t) (hg : g ≠ 0) (ht : t ≠ 0) (hgn : g < n0) (htn : t < n0) (hnz : ∀ k, k < 10 → neB st.gl k = true → (nm k).1 ≠ 0) (hargs : ∀ σ : Ren, args.map (renBlk σ) = args) :
    wkOk (((g, 0), (g, 0)) :: sgL t st.gl nm) n0 = true ∧ ∀ n', (⟨args, ((g, 0), grB N (lcN t) st) :: bagL t st.gl, n0⟩ : Mem) = wkMem (((g, 0), (g, 0)) :: sgL t st.gl nm) n0 ⟨args, loc, n'⟩ := by
  have nd1 : ((((g, 0), (g, 0)) :: sgL t st.gl nm).map (fun x => x.1)).Nodup := by
    rw [List.map_cons, List.nodup_cons]
    unfold sgL
    rw [List.map_map]
    refine ⟨fun hm => ?_, ?_⟩
    · obtain ⟨k, hk, e⟩ := List.mem_map.1 hm
      obtain ⟨h1, h2⟩ := fl_mem.1 hk
      exact h.ne k h1 h2 e
    · unfold List.Nodup
      rw [List.pairwise_map]
      refine List.Pairwise.imp_of_mem ?_ (fl_nodup (P := neB st.gl))
      intro a b ha hb hab e
      obtain ⟨a1, a2⟩ := fl_mem.1 ha
      obtain ⟨b1, b2⟩ := fl_mem.1 hb
      exact hab (h.inj a b a1 b1 a2 b2 e)
  have nd2 : ((((g, 0), (g, 0)) :: sgL t st.gl nm).map (fun x => x.2)).Nodup := by
    rw [List.map_cons, List.nodup_cons]
    unfold sgL
    rw [List.map_map]
    refine ⟨fun hm => ?_, ?_⟩
    · obtain ⟨k, hk, e⟩ := List.mem_map.1 hm
      have := congrArg Prod.fst e
      simp only [Function.comp] at this
      exact hgt this.symm
    · unfold List.Nodup
      rw [List.pairwise_map]
      refine List.Pairwise.imp_of_mem ?_ (fl_nodup (P := neB st.gl))
      intro a b ha hb hab e
      have := congrArg Prod.snd e
      simp only [Function.comp] at this
      exact hab this
  refine ⟨?_, ?_⟩
  · unfold wkOk
    rw [Bool.and_eq_true, Bool.and_eq_true, Bool.and_eq_true, List.all_eq_true]
    refine ⟨⟨⟨fun y hy => ?_, decide_eq_true nd1⟩, decide_eq_true nd2⟩, decide_eq_true (by omega)⟩
    rcases List.mem_cons.1 hy with rfl | hy
    · simp [hg, hgn]
    · obtain ⟨k, hk, rfl⟩ := List.mem_map.1 hy
      obtain ⟨h1, h2⟩ := fl_mem.1 hk
      have := hnz k h1 h2
      simp [this, ht, htn]
  · intro n'
    unfold wkMem
    have e2 : wkLoc ⟨args, loc, n'⟩ (renTo (((g, 0), (g, 0)) :: sgL t st.gl nm)) (((g, 0), (g, 0)) :: sgL t st.gl nm) = ((g, 0), grB N (lcN t) st) :: bagL t st.gl := by
      rw [wkLoc]
      congr 1
      · rw [show (Mem.mk args loc n').get (g, 0).1 (g, 0).2 = grB N nm st from h.grp]
        congr 1
        refine grB_ren fun k hk hne => ?_
        exact renTo_memG nd1 (hnz k hk hne) (List.mem_cons_of_mem _ (List.mem_map.2 ⟨k, fl_mem.2 ⟨hk, hne⟩, rfl⟩))
      · unfold sgL bagL
        rw [wkLoc_sg]
        refine List.map_congr_left fun k hk => ?_
        obtain ⟨h1, h2⟩ := fl_mem.1 hk
        rw [show (Mem.mk args loc n').get (nm k).1 (nm k).2 = plB (st.gl k) from h.nam k h1 h2, plB_ren]
    show Mem.mk _ _ _ = Mem.mk _ _ _
    rw [hargs, e2]
theorem HasGrp.callL {P : Program} {f : FuncId} {vs vs' : List AV} {v0 : AV} {K : AV → Ups → List Abs.Id → Prop} {args : List Blk} {loc : LocB} {n : Nat} {gid : Abs.Id} {nm : Nm} {N : Nat} {st st' : GS} (h : HasGrp ⟨args, loc, n⟩ gid nm N st) (hg : gid.1 ≠ 0) (hnz : ∀ k, k < 10 → neB st.gl k = true → (nm k).1 ≠ 0) (hn : n ≠ 0) (hp : Pre st.gl st'.gl)
    (hc : ACalls P f vs' (grX N st.gl st) (fun r xs ns => r = v0 ∧ xs = grX N st.gl st' ∧ ns = outNs st.gl st'.gl)) (hv : renVs (renIn (idsF gid nm st.gl)) vs = vs') (hv0 : ∀ σ : Ren, renV σ v0 = v0)
    (hK : ∀ (ups : Ups) (loc' : LocB), (∀ n', (Mem.mk args loc n').upd ups = ⟨args, loc', n'⟩) → HasGrp ⟨args, loc', n + 1⟩ gid (nmC n nm st.gl st'.gl) N st' → (∀ k, k < 10 → neB st'.gl k = true → (nmC n nm st.gl st'.gl k).1 ≠ 0) →
      (∀ p : Abs.Id, p ≠ gid → p.1 ≠ 0 → p.1 ≠ n → (∀ k, k < 10 → neB st.gl k = true → p ≠ nm k) → assoc loc' p.1 p.2 = assoc loc p.1 p.2) → K v0 ups (idsF gid nm st.gl)) : CallsVia P f vs ⟨args, loc, n⟩ K := by
  refine h.callV (m := ⟨args, loc, n⟩) hn hp hc hv hv0 fun ups ha => ?_
  have hlen : ((Mem.mk args loc n).upd ups).args.length = args.length := Mem.upd_args ups _
  have ext : ∀ (A B : List Blk), A.length = B.length → (∀ i, i < A.length → A.getD i .dead = B.getD i .dead) → A = B := by
    intro A B hl he
    refine List.ext_getElem hl fun i h1 h2 => ?_
    have := he i h1
    simpa [h1, h2] using this
  have ea : ((Mem.mk args loc n).upd ups).args = args := ext _ _ hlen fun i hi => by
    have := ha.oth (0, i) (fun e => hg (by rw [← e])) (fun e => hn e.symm) (fun k hk hne e => hnz k hk hne (by rw [← e]))
    exact this
  have hU : (Mem.mk args loc n).upd ups = ⟨args, ((Mem.mk args loc n).upd ups).loc, n⟩ := by
    have := upd_at_next (ups := ups) (a := args) (l := loc) (n := n) (n' := n)
    rw [ea] at this; exact this
  have hhas := ha.has
  have hoth := ha.oth
  rw [show (Mem.mk args loc n).next = n from rfl] at hhas
  rw [hU] at hhas hoth
  generalize ((Mem.mk args loc n).upd ups).loc = loc' at hU hhas hoth
  refine hK ups loc' (fun n' => ?_) hhas (fun k hk hne => ?_) fun p h1 h0 h2 h3 => ?_
  · have := upd_at_next (ups := ups) (a := args) (l := loc) (n := n) (n' := n')
    rw [hU] at this; exact this
  · unfold nmC
    split
    · exact hn
    · rename_i hc2
      exact hnz k hk ((hp.ne' hne).resolve_right hc2)
  · have := hoth p h1 h2 h3
    rw [Mem.get, if_neg h0, Mem.get, if_neg h0] at this; exact this

end Go.Proofs.Ytjmenocghjggcaa
