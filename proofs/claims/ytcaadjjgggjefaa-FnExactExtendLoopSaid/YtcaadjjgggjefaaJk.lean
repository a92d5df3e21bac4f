/-
Contracts of functions of the given program, by the abstract walk.
-/
import Derived.Test.YtcaadjjgggjefaaAbsY
import Derived.Test.YtcaadjjgggjefaaJx
namespace Go.Proofs.Ytcaadjjgggjefaa
open Go Go.Abs
set_option linter.unusedVariables false
set_option linter.unusedSectionVars false
set_option linter.unusedSimpArgs false
set_option maxRecDepth 100000
/-! calls of the law's helpers, with what they leave of the memory -/
abbrev Loc := List (Abs.Id × Blk)
/-- A list of lists lies at the blocks (a, ..). -/
def Row (loc : Loc) (a : Nat) (LL : LLs) : Prop := assoc loc a 0 = ob a 1 LL ∧ ∀ i, i < LL.length → assoc loc a (1 + i) = ib (at_ LL i)
theorem Row.cons {loc : Loc} {a : Nat} {LL : LLs} {p : Abs.Id} {b : Blk} (h : p.1 ≠ a) (r : Row loc a LL) : Row ((p, b) :: loc) a LL :=
  ⟨by rw [assoc, if_neg (fun e => h e.1)]; exact r.1, fun i hi => by rw [assoc, if_neg (fun e => h e.1)]; exact r.2 i hi⟩
theorem Row.app {loc : Loc} {a b k : Nat} {LL LL' : LLs} (h : a ≠ b) (r : Row loc a LL) : Row (rbag b k LL' ++ loc) a LL :=
  ⟨by rw [assoc_rbag_ne h]; exact r.1, fun i hi => by rw [assoc_rbag_ne h]; exact r.2 i hi⟩
theorem Row.new {loc : Loc} {a : Nat} {LL : LLs} : Row (rbag a 1 LL ++ ((a, 0), ob a 1 LL) :: loc) a LL :=
  ⟨by rw [assoc_rbag_lt (by decide), assoc, if_pos ⟨rfl, rfl⟩], fun i hi => assoc_rbag_in hi⟩
theorem Row.eq {loc loc' : Loc} {a : Nat} {LL : LLs} (h : ∀ k, assoc loc' a k = assoc loc a k) (r : Row loc a LL) : Row loc' a LL :=
  ⟨by rw [h]; exact r.1, fun i hi => by rw [h]; exact r.2 i hi⟩
theorem Row.get0 {args : List Blk} {loc : Loc} {n a : Nat} {LL : LLs} (ha : a ≠ 0) (r : Row loc a LL) : (Mem.mk args loc n).get a 0 = ob a 1 LL := by
  show (if a = 0 then _ else assoc loc a 0) = _; rw [if_neg ha]; exact r.1
theorem Row.get1 {args : List Blk} {loc : Loc} {n a i : Nat} {LL : LLs} (ha : a ≠ 0) (r : Row loc a LL) (hi : i < LL.length) : (Mem.mk args loc n).get a (1 + i) = ib (at_ LL i) := by
  show (if a = 0 then _ else assoc loc a (1 + i)) = _; rw [if_neg ha]; exact r.2 i hi
theorem get_srcs {args : List Blk} {loc : Loc} {n a : Nat} {LL : LLs} (ha : a ≠ 0) (r : Row loc a LL) (σ : Ren) : (srcs a 1 LL.length).map (fun p => renBlk σ ((Mem.mk args loc n).get p.1 p.2)) = inn LL := srcs_get fun i hi => r.get1 ha hi
theorem srcs_live {args : List Blk} {loc : Loc} {n a : Nat} {LL : LLs} (ha : a ≠ 0) (r : Row loc a LL) : ∀ p ∈ srcs a 1 LL.length, (Mem.mk args loc n).get p.1 p.2 ≠ .dead := by
  intro p hp
  obtain ⟨h1, h2, h3⟩ := srcs_mem.1 hp
  obtain ⟨x, y⟩ := p
  simp only at h1 h2 h3
  subst h1
  rw [show y = 1 + (y - 1) by omega, r.get1 ha (by omega)]
  simp [ib]
/-- Reading a whole list of lists and writing it back changes nothing. -/
theorem assoc_row {loc : Loc} {a : Nat} {LL : LLs} (r : Row loc a LL) (x y : Nat) : assoc (rbag a 1 LL ++ ((a, 0), ob a 1 LL) :: loc) x y = assoc loc x y := by
  by_cases h : x = a
  · subst h
    by_cases h0 : y = 0
    · subst h0; rw [assoc_rbag_lt (by decide), assoc, if_pos ⟨rfl, rfl⟩, r.1]
    · by_cases h1 : y - 1 < LL.length
      · rw [show y = 1 + (y - 1) by omega, assoc_rbag_in h1, r.2 _ h1]
      · rw [assoc_app_out fun z hz => by obtain ⟨i, hi, rfl⟩ := rbag_mem.1 hz; exact fun e => by have := e.2; simp at this; omega, assoc, if_neg (fun e => h0 e.2.symm)]
  · rw [assoc_rbag_ne h, assoc, if_neg (fun e => h e.1.symm)]
theorem row_nodup2 {g s m k : Nat} (h : g ≠ s) : ((g, 0) :: (s, 0) :: (srcs g 1 m ++ srcs s 1 k)).Nodup := by
  rw [List.nodup_cons, List.nodup_cons, List.nodup_append]
  refine ⟨fun hm => ?_, fun hm => ?_, srcs_nodup, srcs_nodup, fun p hp q hq e => ?_⟩
  · rcases List.mem_cons.1 hm with e | hm
    · exact h (by simpa using e)
    · rcases List.mem_append.1 hm with hm | hm
      · have := (srcs_mem.1 hm).2.1; simp at this
      · have := (srcs_mem.1 hm).2.1; simp at this
  · rcases List.mem_append.1 hm with hm | hm
    · have := (srcs_mem.1 hm).2.1; simp at this
    · have := (srcs_mem.1 hm).2.1; simp at this
  · subst e
    exact h (by rw [← (srcs_mem.1 hp).1, (srcs_mem.1 hq).1])
theorem eqLists_via {args : List Blk} {loc : Loc} {n g s : Nat} {LL : LLs} (hg : g ≠ 0) (hs : s ≠ 0) (hgs : g ≠ s) (rg : Row loc g LL) (rs : Row loc s LL) (hl : ∀ i, i < LL.length → (at_ LL i).length < 2 ^ 40) (hm : LL.length < 2 ^ 40)
    {K : AV → Ups → List Abs.Id → Prop} (hK : ∀ ups rd loc', (∀ n, (Mem.mk args loc n).upd ups = ⟨args, loc', n⟩) → (∀ a k, assoc loc' a k = assoc loc a k) → K (.b true) ups rd) :
    CallsVia Try.prog 32 [.ref (.sl g 0 0 0 LL.length 1), .ref (.sl s 0 0 0 LL.length 1)] ⟨args, loc, n⟩ K := by
  have n1 : ¬(s = g ∧ True) := fun e => hgs e.1.symm
  have i1 : ∀ j, j < LL.length → renIn ((g, 0) :: (s, 0) :: (srcs g 1 LL.length ++ srcs s 1 LL.length)) g (1 + j) = some (0, 2 + j) := fun j hj => by
    have e : ¬(0 = 1 + j) := by omega
    simp only [renIn, idx, e, and_false, if_false, idx_app, idx_srcs_in hj]
    simp; omega
  have i2 : ∀ j, j < LL.length → renIn ((g, 0) :: (s, 0) :: (srcs g 1 LL.length ++ srcs s 1 LL.length)) s (1 + j) = some (0, 2 + LL.length + j) := fun j hj => by
    have e : ¬(0 = 1 + j) := by omega
    have e2 : idx (srcs g 1 LL.length) s (1 + j) = none := by rw [idx_srcs, if_neg (fun h => hgs h.1.symm)]
    simp only [renIn, idx, e, and_false, if_false, idx_app, e2, idx_srcs_in hj, srcs_len]
    simp; omega
  refine CallsVia.args ((g, 0) :: (s, 0) :: (srcs g 1 LL.length ++ srcs s 1 LL.length)) (eqLists_ok LL hl hm) (row_nodup2 hgs) ?_ ?_ ?_ ?_
  · intro p hp
    rcases List.mem_cons.1 hp with rfl | hp
    · rw [rg.get0 hg]; simp [ob]
    · rcases List.mem_cons.1 hp with rfl | hp
      · rw [rs.get0 hs]; simp [ob]
      · rcases List.mem_append.1 hp with hp | hp
        · exact srcs_live hg rg p hp
        · exact srcs_live hs rs p hp
  · have e1 : renIn ((g, 0) :: (s, 0) :: (srcs g 1 LL.length ++ srcs s 1 LL.length)) g 0 = some (0, 0) := by simp [renIn, idx]
    have e2 : renIn ((g, 0) :: (s, 0) :: (srcs g 1 LL.length ++ srcs s 1 LL.length)) s 0 = some (0, 1) := by simp [renIn, idx, hgs]
    simp [renVs, renV, renAt, e1, e2]
  · unfold argBlks
    rw [List.map_cons, List.map_cons, List.map_append, rg.get0 hg, rs.get0 hs, get_srcs hg rg, get_srcs hs rs, ob_ren i1, ob_ren i2]
    rfl
  · rintro _ _ _ ⟨rfl, rfl, rfl⟩
    have o1 : ∀ j, j < LL.length → renOut n ((g, 0) :: (s, 0) :: (srcs g 1 LL.length ++ srcs s 1 LL.length)) 0 (2 + j) = some (g, 1 + j) := fun j hj => by
      show ((g, 0) :: (s, 0) :: (srcs g 1 LL.length ++ srcs s 1 LL.length))[2 + j]? = _
      rw [show 2 + j = j + 1 + 1 by omega, List.getElem?_cons_succ, List.getElem?_cons_succ, List.getElem?_append_left (by rw [srcs_len]; exact hj)]
      simp [srcs, hj]
    have o2 : ∀ j, j < LL.length → renOut n ((g, 0) :: (s, 0) :: (srcs g 1 LL.length ++ srcs s 1 LL.length)) 0 (2 + LL.length + j) = some (s, 1 + j) := fun j hj => by
      show ((g, 0) :: (s, 0) :: (srcs g 1 LL.length ++ srcs s 1 LL.length))[2 + LL.length + j]? = _
      rw [show 2 + LL.length + j = LL.length + j + 1 + 1 by omega, List.getElem?_cons_succ, List.getElem?_cons_succ, List.getElem?_append_right (by rw [srcs_len]; omega), srcs_len]
      simp [srcs, hj]
    refine hK _ _ (rbag s 1 LL ++ (rbag g 1 LL ++ ((s, 0), ob s 1 LL) :: ((g, 0), ob g 1 LL) :: loc)) (fun n' => ?_) fun a k => ?_
    · simp only [ms2, zipUps, newUps, List.append_nil]
      rw [zipUps_app (by rw [srcs_len, inn_len]), zipUps_srcs rfl, zipUps_srcs rfl, ob_ren o1, ob_ren o2]
      simp only [Mem.upd, Mem.put, hg, hs, if_false, Mem.upd_app]
      rw [Mem.upd_bagU hg, Mem.upd_bagU hs]
    · have r1 : Row (((g, 0), ob g 1 LL) :: loc) s LL := rs.cons hgs
      by_cases h : a = s
      · subst h
        by_cases h0 : k = 0
        · subst h0; rw [assoc_rbag_lt (by decide), assoc_rbag_lt (by decide), assoc, if_pos ⟨rfl, rfl⟩, rs.1]
        · by_cases h1 : k - 1 < LL.length
          · rw [show k = 1 + (k - 1) by omega, assoc_rbag_in h1, rs.2 _ h1]
          · rw [assoc_app_out fun z hz => by obtain ⟨i, hi, rfl⟩ := rbag_mem.1 hz; exact fun e => by have := e.2; simp at this; omega, assoc_rbag_ne (fun e => hgs e.symm), assoc, if_neg (fun e => h0 e.2.symm), assoc, if_neg (fun e => h0 e.2.symm)]
      · rw [assoc_rbag_ne h]
        by_cases h' : a = g
        · subst h'
          by_cases h0 : k = 0
          · subst h0; rw [assoc_rbag_lt (by decide), assoc, if_neg (fun e => h e.1.symm), assoc, if_pos ⟨rfl, rfl⟩, rg.1]
          · by_cases h1 : k - 1 < LL.length
            · rw [show k = 1 + (k - 1) by omega, assoc_rbag_in h1, rg.2 _ h1]
            · rw [assoc_app_out fun z hz => by obtain ⟨i, hi, rfl⟩ := rbag_mem.1 hz; exact fun e => by have := e.2; simp at this; omega, assoc, if_neg (fun e => h0 e.2.symm), assoc, if_neg (fun e => h0 e.2.symm)]
        · rw [assoc_rbag_ne h', assoc, if_neg (fun e => h e.1.symm), assoc, if_neg (fun e => h' e.1.symm)]
theorem row_in {g m j : Nat} (hj : j < m) : renIn ((g, 0) :: srcs g 1 m) g (1 + j) = some (0, 1 + j) := by
  have e : ¬(0 = 1 + j) := by omega
  simp only [renIn, idx, e, and_false, if_false, idx_srcs_in hj]
  simp; omega
theorem row_out {g m j n : Nat} (hj : j < m) : renOut n ((g, 0) :: srcs g 1 m) 0 (1 + j) = some (g, 1 + j) := by
  show ((g, 0) :: srcs g 1 m)[1 + j]? = _
  rw [show 1 + j = j + 1 by omega, List.getElem?_cons_succ]
  simp [srcs, hj]; omega
/-- A call that is handed one list of lists, and leaves MM there. -/
theorem CallsVia.row {P : Program} {f : FuncId} {args : List Blk} {loc : Loc} {n g k : Nat} {LL MM : LLs} {v : AV} {rest : List AV} (hg : g ≠ 0) (rg : Row loc g LL) (hk : k = LL.length) (hlen : MM.length = LL.length) (hr : ∀ σ, renVs σ rest = rest) (hv : ∀ σ, renV σ v = v)
    (h : ACalls P f (.ref (.sl 0 0 0 0 k 1) :: rest) (ms1 LL) (fun r ms ns => r = v ∧ ms = ms1 MM ∧ ns = []))
    {K : AV → Ups → List Abs.Id → Prop} (hK : ∀ ups rd loc', (∀ n, (Mem.mk args loc n).upd ups = ⟨args, loc', n⟩) → Row loc' g MM → (∀ a k, a ≠ g → assoc loc' a k = assoc loc a k) → (MM = LL → ∀ a k, assoc loc' a k = assoc loc a k) → K v ups rd) :
    CallsVia P f (.ref (.sl g 0 0 0 k 1) :: rest) ⟨args, loc, n⟩ K := by
  subst hk
  refine CallsVia.args ((g, 0) :: srcs g 1 LL.length) h (row_nodup (.inr (Nat.lt_succ_self 0))) ?_ ?_ ?_ ?_
  · intro p hp
    rcases List.mem_cons.1 hp with rfl | hp
    · rw [rg.get0 hg]; simp [ob]
    · exact srcs_live hg rg p hp
  · have e1 : renIn ((g, 0) :: srcs g 1 LL.length) g 0 = some (0, 0) := by simp [renIn, idx]
    simp only [renVs, renV, renAt, e1, hr]
  · unfold argBlks
    rw [List.map_cons, rg.get0 hg, get_srcs hg rg, ob_ren fun j hj => row_in hj]
    rfl
  · rintro _ _ _ ⟨rfl, rfl, rfl⟩
    rw [hv]
    refine hK _ _ (rbag g 1 MM ++ ((g, 0), ob g 1 MM) :: loc) (fun n' => ?_) Row.new (fun a k ha => ?_) fun e a k => ?_
    · simp only [ms1, zipUps, newUps, List.append_nil]
      rw [zipUps_srcs hlen.symm, ob_ren fun j hj => row_out (by rw [← hlen]; exact hj)]
      simp only [Mem.upd, Mem.put, hg, if_false]
      rw [Mem.upd_bagU hg]
    · rw [assoc_rbag_ne ha, assoc, if_neg (fun e => ha e.1.symm)]
    · subst e; exact assoc_row rg a k
/-- A list of lists that a machine can hold. -/
def FitsL (LL : LLs) : Prop := LL.length < 2 ^ 19 ∧ ∀ i, i < LL.length → (at_ LL i).length ≤ 2 ^ 20
theorem FitsL.pre {LL : LLs} (h : FitsL LL) : ∀ {k}, k ≤ LL.length → preLen LL k ≤ k * 2 ^ 20
  | 0, _ => by simp [preLen]
  | k + 1, hk => by
    have h1 := h.pre (show k ≤ LL.length by omega)
    have h2 := h.2 k (by omega)
    rw [preLen]; omega
theorem FitsL.tot {LL : LLs} (h : FitsL LL) : 1 + preLen LL LL.length < 2 ^ 40 := by
  have h1 := h.pre (Nat.le_refl _)
  have h2 := h.1
  omega

end Go.Proofs.Ytcaadjjgggjefaa
