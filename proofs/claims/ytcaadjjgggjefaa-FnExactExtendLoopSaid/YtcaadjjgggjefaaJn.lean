/-
Contracts of functions of the given program, by the abstract walk.
-/
import Derived.Test.YtcaadjjgggjefaaAbsY
import Derived.Test.YtcaadjjgggjefaaJk
import Derived.Test.YtcaadjjgggjefaaJm
namespace Go.Proofs.Ytcaadjjgggjefaa
open Go Go.Abs
set_option linter.unusedVariables false
set_option linter.unusedSectionVars false
set_option linter.unusedSimpArgs false
set_option maxRecDepth 100000
/-! calls that are handed all that came in -/
def StMs (ms : List Blk) : Prop := ∀ σ : Ren, (∀ k, k < ms.length → σ 0 k = some (0, k)) → ms.map (renBlk σ) = ms
def StVs (ms : List Blk) (vs : List AV) : Prop := ∀ σ : Ren, (∀ k, k < ms.length → σ 0 k = some (0, k)) → renVs σ vs = vs
def allF (ms : List Blk) : List Abs.Id := srcs 0 0 ms.length
theorem allF_in {ms : List Blk} {k : Nat} (h : k < ms.length) : renIn (allF ms) 0 k = some (0, k) := by
  have := idx_srcs_in (a := 0) (k := 0) h
  rw [Nat.zero_add] at this
  simp [renIn, allF, this]
theorem allF_out {ms : List Blk} {n k : Nat} (h : k < ms.length) : renOut n (allF ms) 0 k = some (0, k) := by
  show (allF ms)[k]? = _
  simp [allF, srcs, h]
theorem allF_blks {ms : List Blk} {loc : Loc} {n : Nat} (hst : StMs ms) : argBlks ⟨ms, loc, n⟩ (allF ms) = ms := by
  have h := hst (renIn (allF ms)) fun k hk => allF_in hk
  conv => rhs; rw [← h]
  unfold argBlks
  apply List.ext_getElem
  · simp [allF, srcs]
  · intro i h1 h2
    have h3 : i < ms.length := by simpa using h2
    simp only [List.getElem_map]
    congr 1
    simp [allF, srcs, h3, Mem.get]
theorem upd_all {loc : Loc} {n : Nat} : ∀ (done rest : List Blk), (Mem.mk (done ++ rest) loc n).upd ((List.range rest.length).map fun i => ((0, done.length + i), rest.getD i .dead)) = ⟨done ++ rest, loc, n⟩
  | done, [] => rfl
  | done, b :: rest => by
    rw [List.length_cons, List.range_succ_eq_map, List.map_cons, List.map_map]
    simp only [Mem.upd]
    have e : (Mem.mk (done ++ b :: rest) loc n).put (0, done.length + 0) ((b :: rest).getD 0 .dead) = ⟨(done ++ [b]) ++ rest, loc, n⟩ := by
      rw [put_same]
      · simp
      · show (done ++ b :: rest).getD (done.length + 0) .dead = b
        simp
    rw [e]
    have h := upd_all (loc := loc) (n := n) (done ++ [b]) rest
    have e2 : ((fun i => (((0 : Nat), done.length + i), (b :: rest).getD i Blk.dead)) ∘ Nat.succ) = fun i => (((0 : Nat), (done ++ [b]).length + i), rest.getD i .dead) := by
      funext i; simp; omega
    rw [e2, h]
    simp
theorem zip_all {σ : Ren} {ms : List Blk} (h : ms.map (renBlk σ) = ms) : zipUps σ (allF ms) ms = (List.range ms.length).map fun i => ((0, 0 + i), ms.getD i .dead) := by
  have key : ∀ (l : List Blk) (k : Nat), l.map (renBlk σ) = l → zipUps σ (srcs 0 k l.length) l = (List.range l.length).map fun i => ((0, k + i), l.getD i .dead) := by
    intro l
    induction l with
    | nil => intro k _; rfl
    | cons b l ih =>
      intro k hk
      simp only [List.map_cons, List.cons.injEq] at hk
      have e : srcs 0 k (b :: l).length = (0, k) :: srcs 0 (k + 1) l.length := by
        simp only [srcs, List.length_cons, List.range_succ_eq_map, List.map_cons, List.map_map]
        congr 1
        exact List.map_congr_left fun i _ => by simp; omega
      rw [e, zipUps, ih (k + 1) hk.2, hk.1, List.length_cons, List.range_succ_eq_map, List.map_cons, List.map_map]
      congr 1
      exact List.map_congr_left fun i _ => by simp; omega
  exact key ms 0 h
theorem CallsVia.all {P : Program} {f : FuncId} {vs : List AV} {ms : List Blk} {loc : Loc} {n : Nat} {R : AV → List Blk → Prop} (hl : ∀ b ∈ ms, b ≠ .dead) (hst : StMs ms) (hv : StVs ms vs)
    (h : ACalls P f vs ms (fun r ms' ns => R r ns ∧ ms' = ms)) {K : AV → Ups → List Abs.Id → Prop}
    (hK : ∀ r ns ups rd, R r ns → (∀ n, (Mem.mk ms loc n).upd ups = ⟨ms, loc, n⟩) → K (renV (renOut n (allF ms)) r) (ups ++ newUps (renOut n (allF ms)) n 0 ns) rd) : CallsVia P f vs ⟨ms, loc, n⟩ K := by
  refine CallsVia.args (allF ms) h srcs_nodup ?_ (hv _ fun k hk => allF_in hk) (allF_blks hst) ?_
  · intro p hp
    obtain ⟨h1, h2, h3⟩ := srcs_mem.1 hp
    obtain ⟨x, y⟩ := p
    simp only at h1 h2 h3
    subst h1
    show ms.getD y .dead ≠ .dead
    rw [List.getD_eq_getElem?_getD, List.getElem?_eq_getElem (by omega)]
    exact hl _ (List.getElem_mem _)
  · rintro r ms' ns ⟨hr, rfl⟩
    refine hK r ns _ _ hr fun n' => ?_
    rw [zip_all (hst _ fun k hk => allF_out hk)]
    have := upd_all (loc := loc) (n := n') [] ms'
    simpa using this
/-- A list of lists that a law is handed, and the memory that came with it. -/
def LLOf (A : Atom) (ms : List Blk) (LL : LLs) : Prop :=
  (A = .nils ∧ LL = [] ∧ ms = []) ∨ (A = .sl0 ∧ LL = [] ∧ ms = []) ∨ ∃ As Bs, A = .sl 0 0 0 0 LL.length 1 ∧ 0 < LL.length ∧ ms = lms LL As Bs ∧ LArg LL As Bs
theorem llArg_of {W : World} {v : Value} {A : Atom} {ms : List Blk} {l : List Pl3} {LL : LLs} (h : LLArg W v A ms l LL) : LLOf A ms LL := by
  rcases h with ⟨h1, h2, h3, _⟩ | ⟨h1, h2, h3, _⟩ | h
  · exact .inl ⟨h1, h2, h3⟩
  · exact .inr (.inl ⟨h1, h2, h3⟩)
  · exact .inr (.inr h)
theorem lms_len {LL : LLs} {As : List Atom} {Bs : List Blk} (h : LArg LL As Bs) : (lms LL As Bs).length = LL.length + 1 := by simp [lms, h.lenB]
theorem lms_live {LL : LLs} {As : List Atom} {Bs : List Blk} (h : LArg LL As Bs) : ∀ b ∈ lms LL As Bs, b ≠ .dead := by
  intro b hb
  rcases List.mem_cons.1 hb with rfl | hb
  · simp
  · obtain ⟨i, hi, rfl⟩ := List.getElem_of_mem hb
    have := h.live i (by rw [← h.lenB]; exact hi)
    simpa [hi] using this
theorem lms_st {LL : LLs} {As : List Atom} {Bs : List Blk} (h : LArg LL As Bs) : StMs (lms LL As Bs) := by
  intro σ hσ
  rw [lms_len h] at hσ
  have e := h.ren σ hσ
  simp only [lms, List.map_cons, renBlk, renSegs, renSg, e.1, e.2]
theorem szLists_any {A : Atom} {ms : List Blk} {LL : LLs} (h : LLOf A ms LL) (hl : ∀ i, i < LL.length → (at_ LL i).length ≤ maxLen) (hm : LL.length ≤ maxLen) {left : Int} (h0 : 0 ≤ left) (h1 : left ≤ 2 ^ 20) {loc : Loc} {n : Nat} {K : AV → Ups → List Abs.Id → Prop}
    (hK : ∀ (r : Int) ups rd, (0 ≤ r → LL.length ≤ 2 ^ 20 ∧ ∀ i, i < LL.length → (at_ LL i).length ≤ 2 ^ 20) → (∀ n, (Mem.mk ms loc n).upd ups = ⟨ms, loc, n⟩) → K (.i .i64 r) ups rd) :
    CallsVia Try.prog 40 [.ref A, .i .i64 left] ⟨ms, loc, n⟩ K := by
  rcases h with ⟨rfl, rfl, rfl⟩ | ⟨rfl, rfl, rfl⟩ | ⟨As, Bs, rfl, hp, rfl, hla⟩
  · refine CallsVia.none (szLists_nil left h0 h1) ?_
    rintro _ _ _ ⟨rfl, rfl, rfl⟩
    exact hK left _ _ (fun _ => ⟨by simp, fun i hi => absurd hi (by simp)⟩) fun _ => rfl
  · refine CallsVia.none (szLists_sl0 left h0 h1) ?_
    rintro _ _ _ ⟨rfl, rfl, rfl⟩
    exact hK left _ _ (fun _ => ⟨by simp, fun i hi => absurd hi (by simp)⟩) fun _ => rfl
  · have hlen := lms_len hla
    refine CallsVia.all (R := fun v ns => (∃ r : Int, v = .i .i64 r ∧ (0 ≤ r → LL.length ≤ 2 ^ 20 ∧ ∀ i, i < LL.length → (at_ LL i).length ≤ 2 ^ 20)) ∧ ns = []) (lms_live hla) (lms_st hla) (fun σ hσ => by simp only [renVs, renV, renAt, hσ 0 (by omega)])
      ((szLists_ok LL As Bs hla hl hm left h0 h1).mono fun r xs ns ⟨a, b, c⟩ => ⟨⟨a, c⟩, b⟩) ?_
    rintro _ _ ups rd ⟨⟨r, rfl, hr⟩, rfl⟩ hu
    simp only [newUps, List.append_nil]
    exact hK r ups rd hr hu
theorem toLists_any {A : Atom} {ms : List Blk} {LL : LLs} (h : LLOf A ms LL) (hl : ∀ i, i < LL.length → (at_ LL i).length ≤ 2 ^ 20) (hm : LL.length ≤ 2 ^ 20) {loc : Loc} {n : Nat} (hn : n ≠ 0) {K : AV → Ups → List Abs.Id → Prop}
    (hK : ∀ ups rd, (∀ n', (Mem.mk ms loc n').upd ups = ⟨ms, rbag n 1 LL ++ ((n, 0), ob n 1 LL) :: loc, n'⟩) → K (.ref (.sl n 0 0 0 LL.length 1)) ups rd) :
    CallsVia Try.prog 42 [.ref A] ⟨ms, loc, n⟩ K := by
  rcases h with ⟨rfl, rfl, rfl⟩ | ⟨rfl, rfl, rfl⟩ | ⟨As, Bs, rfl, hp, rfl, hla⟩
  · refine CallsVia.none toLists_nil ?_
    rintro _ _ _ ⟨rfl, rfl, rfl⟩
    refine hK _ _ fun n' => ?_
    simp [zipUps, newUps, Mem.upd, Mem.put, hn, rbag_nil, ob_out]
  · refine CallsVia.none toLists_sl0 ?_
    rintro _ _ _ ⟨rfl, rfl, rfl⟩
    refine hK _ _ fun n' => ?_
    simp [zipUps, newUps, Mem.upd, Mem.put, hn, rbag_nil, ob_out]
  · have hlen := lms_len hla
    refine CallsVia.all (R := fun v ns => v = .ref (.sl 1 0 0 0 LL.length 1) ∧ ns = ob 1 1 LL :: inn LL) (lms_live hla) (lms_st hla) (fun σ hσ => by simp only [renVs, renV, renAt, hσ 0 (by omega)])
      ((toLists_ok LL As Bs hla hl hm).mono fun r xs ns ⟨a, b, c⟩ => ⟨⟨a, c⟩, b⟩) ?_
    rintro _ _ ups rd ⟨rfl, rfl⟩ hu
    refine hK _ _ fun n' => ?_
    rw [Mem.upd_app, hu n']
    simp only [newUps, newUps_inn, ob_out, Mem.upd, Mem.put, hn, if_false]
    rw [Mem.upd_bagU hn]
/-- A call that reads one list of lists of the walk's own, and hands back a value without names. -/
theorem CallsVia.rowV {P : Program} {f : FuncId} {args : List Blk} {loc : Loc} {n g : Nat} {LL : LLs} {v : AV} {vs vs' : List AV} (hg : g ≠ 0) (rg : Row loc g LL) (hv : ∀ σ : Ren, σ g 0 = some (0, 0) → renVs σ vs = vs') (hr : ∀ σ, renV σ v = v)
    (h : ACalls P f vs' (ms1 LL) (fun r ms ns => r = v ∧ ms = ms1 LL ∧ ns = []))
    {K : AV → Ups → List Abs.Id → Prop} (hK : ∀ ups rd loc', (∀ n, (Mem.mk args loc n).upd ups = ⟨args, loc', n⟩) → (∀ a k, assoc loc' a k = assoc loc a k) → K v ups rd) :
    CallsVia P f vs ⟨args, loc, n⟩ K := by
  refine CallsVia.args ((g, 0) :: srcs g 1 LL.length) h (row_nodup (.inr (Nat.lt_succ_self 0))) ?_ (hv _ (by simp [renIn, idx])) ?_ ?_
  · intro p hp
    rcases List.mem_cons.1 hp with rfl | hp
    · rw [rg.get0 hg]; simp [ob]
    · exact srcs_live hg rg p hp
  · unfold argBlks
    rw [List.map_cons, rg.get0 hg, get_srcs hg rg, ob_ren fun j hj => row_in hj]
    rfl
  · rintro _ _ _ ⟨rfl, rfl, rfl⟩
    rw [hr]
    refine hK _ _ (rbag g 1 LL ++ ((g, 0), ob g 1 LL) :: loc) (fun n' => ?_) fun a k => assoc_row rg a k
    simp only [ms1, zipUps, newUps, List.append_nil]
    rw [zipUps_srcs rfl, ob_ren fun j hj => row_out hj]
    simp only [Mem.upd, Mem.put, hg, if_false]
    rw [Mem.upd_bagU hg]
theorem disj_args {l r : List Abs.Id} (hl : l.all (fun p => p.1 != 0) = true) (hr : ∀ p ∈ r, p.1 = 0) : disj l r = true ∧ disj r l = true := by
  rw [List.all_eq_true] at hl
  constructor
  · unfold disj
    rw [List.all_eq_true]
    intro p hp
    have := hl p hp
    simp only [bne_iff_ne, ne_eq] at this
    simp only [Bool.not_eq_true', List.contains_eq_mem, decide_eq_false_iff_not]
    exact fun hm => this (hr p hm)
  · unfold disj
    rw [List.all_eq_true]
    intro p hp
    simp only [Bool.not_eq_true', List.contains_eq_mem, decide_eq_false_iff_not]
    intro hm
    have := hl p hm
    simp only [bne_iff_ne, ne_eq] at this
    exact this (hr p hp)
/-- The same in a region that draws its order: what is written and read are blocks that came in. -/
theorem CallsX.all {P : Program} {f : FuncId} {vs : List AV} {ms : List Blk} {loc : Loc} {n : Nat} {v : AV} (hl : ∀ b ∈ ms, b ≠ .dead) (hst : StMs ms) (hv : StVs ms vs) (hr : ∀ σ, renV σ v = v)
    (h : ACalls P f vs ms (fun r ms' ns => r = v ∧ ms' = ms ∧ ns = [])) {K : AV → Ups → List Abs.Id → Prop}
    (hK : ∀ ups rd, (∀ n, (Mem.mk ms loc n).upd ups = ⟨ms, loc, n⟩) → (∀ p ∈ ups.map (·.1), p.1 = 0) → (∀ p ∈ rd, p.1 = 0) → K v ups rd) : CallsX P f vs ⟨ms, loc, n⟩ K := by
  refine CallsX.args (allF ms) h srcs_nodup ?_ (hv _ fun k hk => allF_in hk) (allF_blks hst) ?_
  · intro p hp
    obtain ⟨h1, h2, h3⟩ := srcs_mem.1 hp
    obtain ⟨x, y⟩ := p
    simp only at h1 h2 h3
    subst h1
    show ms.getD y .dead ≠ .dead
    rw [List.getD_eq_getElem?_getD, List.getElem?_eq_getElem (by omega)]
    exact hl _ (List.getElem_mem _)
  · rw [hr]
    refine hK _ _ (fun n' => ?_) (fun p hp => ?_) fun p hp => (srcs_mem.1 hp).1
    · simp only [newUps, List.append_nil]
      rw [zip_all (hst _ fun k hk => allF_out hk)]
      have := upd_all (loc := loc) (n := n') [] ms
      simpa using this
    · simp only [newUps, List.append_nil] at hp
      rw [zip_all (hst _ fun k hk => allF_out hk)] at hp
      simp only [List.map_map, List.mem_map, List.mem_range] at hp
      obtain ⟨i, _, rfl⟩ := hp
      rfl
theorem LLOf.st {A : Atom} {ms : List Blk} {LL : LLs} (h : LLOf A ms LL) : StMs ms := by
  rcases h with ⟨_, _, rfl⟩ | ⟨_, _, rfl⟩ | ⟨As, Bs, _, _, rfl, hla⟩
  · intro σ _; rfl
  · intro σ _; rfl
  · exact lms_st hla

end Go.Proofs.Ytcaadjjgggjefaa
