/-
Contracts of functions of the given program, by the abstract walk.
-/
import Derived.Test.YtjmenocghjggcaaAbsY
import Derived.Test.YtjmenocghjggcaaWx
namespace Go.Proofs.Ytjmenocghjggcaa
open Go Go.Abs
set_option linter.unusedVariables false
set_option linter.unusedSectionVars false
set_option linter.unusedSimpArgs false
set_option maxRecDepth 100000
/-! linear algebra modulo p: the reference's reduction, the walk -/
def srcA : Bool → Nat → Abs.Id
  | true, j => (0, 1 + j)
  | false, j => (16, 0 + j)
def bagA : Bool → LLs → LLs
  | true, _ => []
  | false, R => R
theorem ms1_S {LL : LLs} : outs 0 1 LL = outsS (srcA true) LL := outs_S
theorem redS_len {p : Int} {L : Nat} {rows : LLs} (hp : PrP p) (hm : Mat p L rows) {c : Nat} (hc : c ≤ L) : (redS p L rows c).1.length + (redS p L rows c).2.length = rows.length := (redS_red hp hm hc).count
def rdL (D R : LLs) (b : Bool) : Loc := [((13, 0), .lv true [(0, .cells D.length (outs 14 0 D))]), ((15, 0), .lv true [(0, .cells R.length (outsS (srcA b) R))])] ++ (rbag 14 0 D ++ rbag 16 0 (bagA b R))
def rdM (rows D R : LLs) : Mem := ⟨ms1 rows, rdL D R D.isEmpty, 200⟩
/-- a list that is kept beside another -/
theorem wk_two {m : Mem} {A : Pairs} {s1 s2 : Nat → Abs.Id} {n1 n2 B1 B2 : Nat} {L1 L2 : LLs} {τ : Ren} (h1 : n1 = L1.length) (h2 : n2 = L2.length) (g1 : ∀ j, j < L1.length → m.get (s1 j).1 (s1 j).2 = ib (at_ L1 j)) (g2 : ∀ j, j < L2.length → m.get (s2 j).1 (s2 j).2 = ib (at_ L2 j)) :
    wkLoc m τ (A ++ (segR s1 n1 B1 ++ segR s2 n2 B2)) = wkLoc m τ A ++ (rbag B1 0 L1 ++ rbag B2 0 L2) := by
  rw [wkLoc_app, wkLoc_app, wk_seg h1 g1, wk_seg h2 g2]
theorem stdS_inj {B n : Nat} : ∀ i j, i < n → j < n → ((fun j => (B, 0 + j)) i : Abs.Id) = (fun j => (B, 0 + j)) j → i = j := fun i j _ _ e => by simpa using e
theorem ok_two {A : Pairs} {s1 s2 : Nat → Abs.Id} {n1 n2 B1 B2 next : Nat} (h : wkOk A next = true) (i1 : ∀ i j, i < n1 → j < n1 → s1 i = s1 j → i = j) (i2 : ∀ i j, i < n2 → j < n2 → s2 i = s2 j → i = j) (z1 : ∀ i, i < n1 → (s1 i).1 ≠ 0) (z2 : ∀ i, i < n2 → (s2 i).1 ≠ 0)
    (hB1 : B1 ≠ 0) (hB2 : B2 ≠ 0) (hn1 : B1 < next) (hn2 : B2 < next) (hB : B1 ≠ B2) (a1 : ∀ x ∈ A, ∀ i, i < n1 → x.1 ≠ s1 i) (a2 : ∀ x ∈ A, ∀ i, i < n2 → x.1 ≠ s2 i) (t1 : ∀ x ∈ A, x.2.1 ≠ B1) (t2 : ∀ x ∈ A, x.2.1 ≠ B2) (d : ∀ i j, i < n1 → j < n2 → s1 i ≠ s2 j) :
    wkOk (A ++ (segR s1 n1 B1 ++ segR s2 n2 B2)) next = true := by
  rw [← List.append_assoc]
  refine wkOk_seg (wkOk_seg h i1 z1 hB1 hn1 a1 t1) i2 z2 hB2 hn2 (fun x hx i hi e => ?_) fun x hx => ?_
  · rcases List.mem_append.1 hx with hx | hx
    · exact a2 x hx i hi e
    · obtain ⟨j, hj, e1, _⟩ := seg_out hx
      exact d j i hj hi (e1.symm.trans e)
  · rcases List.mem_append.1 hx with hx | hx
    · exact t2 x hx
    · obtain ⟨j, hj, _, e2⟩ := seg_out hx
      rw [e2]; exact hB
theorem rbag_get {B : Nat} {LL : LLs} {j : Nat} (h : j < LL.length) {rest : Loc} : assoc (rbag B 0 LL ++ rest) B (0 + j) = ib (at_ LL j) := by
  exact assoc_rbag_in h
def keepG (s1 : Nat → Abs.Id) (o1 : Abs.Id) (nD : Nat) (b : Bool) (R : LLs) : Pairs := (o1, (13, 0)) :: ((15, 0), (15, 0)) :: (segR s1 nD 14 ++ segR (fun j => (16, 0 + j)) (bagA b R).length 16)
def stdS : Nat → Abs.Id := fun j => (14, 0 + j)
theorem keepG_wk {A : Pairs} {m : Mem} {s1 : Nat → Abs.Id} {o1 : Abs.Id} {b : Bool} {D R : LLs} {n : Nat} (hok : wkOk (A ++ keepG s1 o1 D.length b R) n = true) (z1 : ∀ j, j < D.length → (s1 j).1 ≠ 0)
    (h13 : m.get o1.1 o1.2 = .lv true [(0, .cells D.length (outsS s1 D))]) (h15 : m.get 15 0 = .lv true [(0, .cells R.length (outsS (srcA b) R))]) (g1 : ∀ j, j < D.length → m.get (s1 j).1 (s1 j).2 = ib (at_ D j)) (g2 : ∀ j, j < (bagA b R).length → m.get 16 (0 + j) = ib (at_ (bagA b R) j)) :
    wkLoc m (renTo (A ++ keepG s1 o1 D.length b R)) (A ++ keepG s1 o1 D.length b R) = wkLoc m (renTo (A ++ keepG s1 o1 D.length b R)) A ++ rdL D R b := by
  have r1 : (outsS s1 D).map (renAt (renTo (A ++ keepG s1 o1 D.length b R))) = outs 14 0 D := outsS_ren fun j hj => renTo_ok hok (z1 j hj) (by simp only [keepG, List.mem_append, List.mem_cons]; exact .inr (.inr (.inr (.inl (seg_mem hj)))))
  have r2 : (outsS (srcA b) R).map (renAt (renTo (A ++ keepG s1 o1 D.length b R))) = outsS (srcA b) R := by
    cases b
    · rw [outsS_ren (src := srcA false) (a := 16) (k := 0) fun j hj => renTo_ok (p := (16, 0 + j)) hok (by simp) (by simp only [keepG, List.mem_append, List.mem_cons]; exact .inr (.inr (.inr (.inr (seg_mem (src := fun j => (16, 0 + j)) hj))))), outs_S]; rfl
    · rw [outsS_ren (a := 0) (k := 1) fun j hj => renTo_zero _, ms1_S]
  generalize renTo (A ++ keepG s1 o1 D.length b R) = τ at r1 r2 ⊢
  rw [wkLoc_app, keepG, wkLoc, wkLoc, wkLoc_app, wk_seg rfl g1, wk_seg rfl g2, h13, h15]
  simp only [renBlk, renSegs, renSg, r1, r2, rdL, List.cons_append, List.nil_append]
theorem keepG_ok {A : Pairs} {s1 : Nat → Abs.Id} {o1 : Abs.Id} {b : Bool} {D R : LLs} {n : Nat} (h : wkOk (A ++ [(o1, (13, 0)), ((15, 0), (15, 0))]) n = true) (i1 : ∀ i j, i < D.length → j < D.length → s1 i = s1 j → i = j) (z1 : ∀ j, j < D.length → (s1 j).1 ≠ 0) (hn : 16 < n)
    (a1 : ∀ x ∈ A ++ [(o1, (13, 0)), ((15, 0), (15, 0))], ∀ i, i < D.length → x.1 ≠ s1 i) (a2 : ∀ x ∈ A ++ [(o1, (13, 0)), ((15, 0), (15, 0))], x.1.1 ≠ 16) (t : ∀ x ∈ A ++ [(o1, (13, 0)), ((15, 0), (15, 0))], x.2.1 ≠ 14 ∧ x.2.1 ≠ 16) (d : ∀ i, i < D.length → (s1 i).1 ≠ 16) :
    wkOk (A ++ keepG s1 o1 D.length b R) n = true := by
  have e : A ++ keepG s1 o1 D.length b R = (A ++ [(o1, (13, 0)), ((15, 0), (15, 0))]) ++ (segR s1 D.length 14 ++ segR (fun j => (16, 0 + j)) (bagA b R).length 16) := by simp [keepG]
  rw [e]
  exact ok_two h i1 stdS_inj z1 (fun _ _ => by simp) (by decide) (by decide) (by omega) hn (by decide) a1 (fun x hx i _ e => a2 x hx (by rw [e])) (fun x hx => (t x hx).1) (fun x hx => (t x hx).2) fun i j hi _ e => d i hi (by rw [e])
theorem rdL_13 {D R : LLs} {b : Bool} : assoc (rdL D R b) 13 0 = .lv true [(0, .cells D.length (outsS stdS D))] := by
  have e : stdS = fun j => (14, j) := by funext j; simp [stdS]
  simp [rdL, assoc, e, outs_S]
theorem rdL_15 {D R : LLs} {b : Bool} : assoc (rdL D R b) 15 0 = .lv true [(0, .cells R.length (outsS (srcA b) R))] := by simp [rdL, assoc]
theorem rdL_14 {D R : LLs} {b : Bool} {j : Nat} (h : j < D.length) : assoc (rdL D R b) 14 (0 + j) = ib (at_ D j) := by
  have q := assoc_rbag_in (a := 14) (k := 0) (i := j) (LL := D) (r := rbag 16 0 (bagA b R)) h
  simp only [rdL, List.cons_append, List.nil_append, assoc]
  simpa using q
theorem rdL_16 {D R : LLs} {b : Bool} {j : Nat} (h : j < (bagA b R).length) : assoc (rdL D R b) 16 (0 + j) = ib (at_ (bagA b R) j) := by
  have q := assoc_rbag_in' (a := 16) (k := 0) (i := j) (LL := bagA b R) h
  simp only [rdL, List.cons_append, List.nil_append, assoc]
  have e := assoc_rbag_ne (a := 14) (k := 0) (b := 16) (j := 0 + j) (LL := D) (r := rbag 16 0 (bagA b R)) (by decide)
  rw [q] at e
  simpa using e
theorem assoc_pre {pre loc : Loc} {a k : Nat} (h : ∀ x ∈ pre, x.1.1 ≠ a) : assoc (pre ++ loc) a k = assoc loc a k := assoc_app_out fun x hx e => h x hx e.1
theorem keep_pre {A : Pairs} {args : List Blk} {pre : Loc} {D R : LLs} {b : Bool} {n next : Nat} (hok : wkOk (A ++ keepG stdS (13, 0) D.length b R) n = true) (hp : ∀ x ∈ pre, x.1.1 ≠ 13 ∧ x.1.1 ≠ 14 ∧ x.1.1 ≠ 15 ∧ x.1.1 ≠ 16) :
    wkLoc ⟨args, pre ++ rdL D R b, next⟩ (renTo (A ++ keepG stdS (13, 0) D.length b R)) (A ++ keepG stdS (13, 0) D.length b R) = wkLoc ⟨args, pre ++ rdL D R b, next⟩ (renTo (A ++ keepG stdS (13, 0) D.length b R)) A ++ rdL D R b := by
  refine keepG_wk hok (fun _ _ => by simp [stdS]) ?_ ?_ (fun j hj => ?_) (fun j hj => ?_)
  · show assoc (pre ++ rdL D R b) 13 0 = _; rw [assoc_pre fun x hx => (hp x hx).1, rdL_13]
  · show assoc (pre ++ rdL D R b) 15 0 = _; rw [assoc_pre fun x hx => (hp x hx).2.2.1, rdL_15]
  · show assoc (pre ++ rdL D R b) 14 (0 + j) = _; rw [assoc_pre fun x hx => (hp x hx).2.1, rdL_14 hj]
  · show assoc (pre ++ rdL D R b) 16 (0 + j) = _; rw [assoc_pre fun x hx => (hp x hx).2.2.2, rdL_16 hj]
theorem keep_ok {b : Bool} {D R : LLs} : wkOk ([] ++ keepG stdS (13, 0) D.length b R) 200 = true := keepG_ok (by simp [wkOk]) stdS_inj (fun _ _ => by simp [stdS]) (by decide) (by simp [stdS]) (by simp) (by simp) (by simp [stdS])
theorem keep_mem {rows D R : LLs} {b : Bool} {next : Nat} : (⟨ms1 rows, rdL D R b, 200⟩ : Mem) = wkMem ([] ++ keepG stdS (13, 0) D.length b R) 200 ⟨ms1 rows, rdL D R b, next⟩ := by
  have q := keep_pre (A := []) (args := ms1 rows) (pre := []) (next := next) (keep_ok (b := b) (D := D) (R := R)) (by simp)
  simp only [wkMem]
  rw [ms1_ren renTo_zero]
  exact congrArg (fun x => Mem.mk (ms1 rows) x 200) q.symm
theorem wkOk_perm {σ σ' : Pairs} {n : Nat} (hp : σ.Perm σ') (h : wkOk σ n = true) : wkOk σ' n = true := by
  simp only [wkOk, Bool.and_eq_true, decide_eq_true_eq, List.all_eq_true] at h ⊢
  obtain ⟨⟨⟨e1, e2⟩, e3⟩, e4⟩ := h
  exact ⟨⟨⟨fun x hx => e1 x (hp.mem_iff.2 hx), (hp.map _).nodup_iff.1 e2⟩, (hp.map _).nodup_iff.1 e3⟩, e4⟩
/-- rows 0 .. n - 1 of the bag B, then the block t -/
def growS (B t n : Nat) : Nat → Abs.Id := fun j => if j < n then (B, 0 + j) else (t, 0)
/-- the bag B with the block t in the place of row n -/
def swapS (B t n : Nat) : Nat → Abs.Id := fun j => if j = n then (t, 0) else (B, 0 + j)
theorem growS_inj {B t n : Nat} (h : t ≠ B) : ∀ i j, i < n + 1 → j < n + 1 → growS B t n i = growS B t n j → i = j := fun i j hi hj e => by
  unfold growS at e
  by_cases h1 : i < n <;> by_cases h2 : j < n
  · rw [if_pos h1, if_pos h2] at e; simpa using e
  · rw [if_pos h1, if_neg h2] at e; exact absurd (congrArg (·.1) e).symm h
  · rw [if_neg h1, if_pos h2] at e; exact absurd (congrArg (·.1) e) h
  · omega
theorem swapS_inj {B t n : Nat} (h : t ≠ B) : ∀ i j, swapS B t n i = swapS B t n j → i = j := fun i j e => by
  unfold swapS at e
  by_cases h1 : i = n <;> by_cases h2 : j = n
  · omega
  · rw [if_pos h1, if_neg h2] at e; exact absurd (congrArg (·.1) e) h
  · rw [if_neg h1, if_pos h2] at e; exact absurd (congrArg (·.1) e).symm h
  · rw [if_neg h1, if_neg h2] at e; simpa using e
theorem growS_fst {B t n i : Nat} : (growS B t n i).1 = B ∨ (growS B t n i).1 = t := by unfold growS; split <;> simp
theorem swapS_fst {B t n i : Nat} : (swapS B t n i).1 = B ∨ (swapS B t n i).1 = t := by unfold swapS; split <;> simp
theorem outs_grow {B t : Nat} {LL : LLs} {xs : List Int} : outs B 0 LL ++ [.sl t 0 0 0 xs.length 1] = outsS (growS B t LL.length) (LL ++ [xs]) := by
  rw [outs_S, outsS_snoc]; rfl
theorem outs_swap {B t n : Nat} {LL : LLs} {xs : List Int} (hn : n < LL.length) : (outs B 0 LL).set n (.sl t 0 0 0 xs.length 1) = outsS (swapS B t n) (LL.set n xs) := by
  rw [outs_S, outsS_set hn]; rfl
/-- Three bags at once: 19 (the rows that are made), 14 and 16. -/
theorem ok_three {A : Pairs} {s s1 s2 : Nat → Abs.Id} {n n1 n2 next : Nat} (h : wkOk A next = true) (i0 : ∀ i j, i < n → j < n → s i = s j → i = j) (i1 : ∀ i j, i < n1 → j < n1 → s1 i = s1 j → i = j) (i2 : ∀ i j, i < n2 → j < n2 → s2 i = s2 j → i = j)
    (z : ∀ i, i < n → (s i).1 ≠ 0) (z1 : ∀ i, i < n1 → (s1 i).1 ≠ 0) (z2 : ∀ i, i < n2 → (s2 i).1 ≠ 0) (hn : 19 < next)
    (a : ∀ x ∈ A, ∀ i, i < n → x.1.1 ≠ (s i).1) (a1 : ∀ x ∈ A, ∀ i, i < n1 → x.1.1 ≠ (s1 i).1) (a2 : ∀ x ∈ A, ∀ i, i < n2 → x.1.1 ≠ (s2 i).1) (t : ∀ x ∈ A, x.2.1 ≠ 14 ∧ x.2.1 ≠ 16 ∧ x.2.1 ≠ 19)
    (d1 : ∀ i j, i < n1 → j < n2 → (s1 i).1 ≠ (s2 j).1) (d2 : ∀ i j, i < n → j < n1 → (s i).1 ≠ (s1 j).1) (d3 : ∀ i j, i < n → j < n2 → (s i).1 ≠ (s2 j).1) :
    wkOk (A ++ (segR s1 n1 14 ++ segR s2 n2 16) ++ segR s n 19) next = true := by
  refine wkOk_seg (ok_two h i1 i2 z1 z2 (by decide) (by decide) (by omega) (by omega) (by decide) (fun x hx i hi e => a1 x hx i hi (by rw [e])) (fun x hx i hi e => a2 x hx i hi (by rw [e])) (fun x hx => (t x hx).1) (fun x hx => (t x hx).2.1) fun i j hi hj e => d1 i j hi hj (by rw [e])) i0 z (by decide) (by omega) (fun x hx i hi e => ?_) fun x hx => ?_
  · rcases List.mem_append.1 hx with hx | hx
    · exact a x hx i hi (by rw [e])
    · rcases List.mem_append.1 hx with hx | hx
      · obtain ⟨j, hj, e1, _⟩ := seg_out hx
        exact d2 i j hi hj (by rw [← e, e1])
      · obtain ⟨j, hj, e1, _⟩ := seg_out hx
        exact d3 i j hi hj (by rw [← e, e1])
  · rcases List.mem_append.1 hx with hx | hx
    · exact (t x hx).2.2
    · rcases List.mem_append.1 hx with hx | hx
      · obtain ⟨j, hj, _, e2⟩ := seg_out hx
        rw [e2]; simp
      · obtain ⟨j, hj, _, e2⟩ := seg_out hx
        rw [e2]; simp
theorem keep4_ok {A : Pairs} {s s1 : Nat → Abs.Id} {o1 : Abs.Id} {b : Bool} {R : LLs} {n nD next : Nat} (h : wkOk (A ++ [(o1, (13, 0)), ((15, 0), (15, 0))]) next = true) (i0 : ∀ i j, i < n → j < n → s i = s j → i = j) (i1 : ∀ i j, i < nD → j < nD → s1 i = s1 j → i = j)
    (z : ∀ i, i < n → (s i).1 ≠ 0 ∧ (s i).1 ≠ 15 ∧ (s i).1 ≠ 16 ∧ (s i).1 ≠ o1.1 ∧ ∀ x ∈ A, x.1.1 ≠ (s i).1) (z1 : ∀ i, i < nD → (s1 i).1 ≠ 0 ∧ (s1 i).1 ≠ 15 ∧ (s1 i).1 ≠ 16 ∧ (s1 i).1 ≠ o1.1 ∧ ∀ x ∈ A, x.1.1 ≠ (s1 i).1) (o : o1.1 ≠ 16) (hn : 19 < next)
    (t : ∀ x ∈ A, x.2.1 ≠ 14 ∧ x.2.1 ≠ 16 ∧ x.2.1 ≠ 19) (a : ∀ x ∈ A, x.1.1 ≠ 16) (d2 : ∀ i j, i < n → j < nD → (s i).1 ≠ (s1 j).1) :
    wkOk (A ++ segR s n 19 ++ keepG s1 o1 nD b R) next = true := by
  have key := ok_three (s := s) (s1 := s1) (s2 := fun j => (16, 0 + j)) (n := n) (n1 := nD) (n2 := (bagA b R).length) h i0 i1 stdS_inj (fun i hi => (z i hi).1) (fun i hi => (z1 i hi).1) (fun _ _ => by simp) hn
    (fun x hx i hi => by
      simp only [List.mem_append, List.mem_cons, List.not_mem_nil, or_false] at hx
      rcases hx with hx | rfl | rfl
      · exact (z i hi).2.2.2.2 x hx
      · exact fun e => (z i hi).2.2.2.1 e.symm
      · exact fun e => (z i hi).2.1 e.symm)
    (fun x hx i hi => by
      simp only [List.mem_append, List.mem_cons, List.not_mem_nil, or_false] at hx
      rcases hx with hx | rfl | rfl
      · exact (z1 i hi).2.2.2.2 x hx
      · exact fun e => (z1 i hi).2.2.2.1 e.symm
      · exact fun e => (z1 i hi).2.1 e.symm)
    (fun x hx i hi => by
      simp only [List.mem_append, List.mem_cons, List.not_mem_nil, or_false] at hx
      rcases hx with hx | rfl | rfl
      · exact a x hx
      · exact o
      · simp)
    (fun x hx => by
      simp only [List.mem_append, List.mem_cons, List.not_mem_nil, or_false] at hx
      rcases hx with hx | rfl | rfl
      · exact t x hx
      · simp
      · simp)
    (fun i j hi hj => (z1 i hi).2.2.1) d2 (fun i j hi hj => (z i hi).2.2.1)
  refine wkOk_perm ?_ key
  have e1 : A ++ [(o1, ((13, 0) : Abs.Id)), ((15, 0), (15, 0))] ++ (segR s1 nD 14 ++ segR (fun j => (16, 0 + j)) (bagA b R).length 16) ++ segR s n 19 = A ++ (keepG s1 o1 nD b R ++ segR s n 19) := by simp [keepG]
  rw [e1, List.append_assoc]
  exact List.perm_append_comm.append_left A
theorem keep4_wk {A : Pairs} {m : Mem} {s s1 : Nat → Abs.Id} {o1 : Abs.Id} {b : Bool} {D R RR : LLs} {n : Nat} (hok : wkOk (A ++ segR s RR.length 19 ++ keepG s1 o1 D.length b R) n = true) (z1 : ∀ j, j < D.length → (s1 j).1 ≠ 0)
    (g : ∀ j, j < RR.length → m.get (s j).1 (s j).2 = ib (at_ RR j))
    (h13 : m.get o1.1 o1.2 = .lv true [(0, .cells D.length (outsS s1 D))]) (h15 : m.get 15 0 = .lv true [(0, .cells R.length (outsS (srcA b) R))]) (g1 : ∀ j, j < D.length → m.get (s1 j).1 (s1 j).2 = ib (at_ D j)) (g2 : ∀ j, j < (bagA b R).length → m.get 16 (0 + j) = ib (at_ (bagA b R) j)) :
    wkLoc m (renTo (A ++ segR s RR.length 19 ++ keepG s1 o1 D.length b R)) (A ++ segR s RR.length 19 ++ keepG s1 o1 D.length b R) = wkLoc m (renTo (A ++ segR s RR.length 19 ++ keepG s1 o1 D.length b R)) A ++ (rbag 19 0 RR ++ rdL D R b) := by
  rw [keepG_wk hok z1 h13 h15 g1 g2, wkLoc_app, wk_seg rfl g, List.append_assoc]
theorem ren4 {A : Pairs} {s s1 : Nat → Abs.Id} {o1 : Abs.Id} {b : Bool} {R RR : LLs} {n nD : Nat} (hok : wkOk (A ++ segR s RR.length 19 ++ keepG s1 o1 nD b R) n = true) (z : ∀ j, j < RR.length → (s j).1 ≠ 0) :
    (outsS s RR).map (renAt (renTo (A ++ segR s RR.length 19 ++ keepG s1 o1 nD b R))) = outs 19 0 RR :=
  outsS_ren fun j hj => renTo_ok hok (z j hj) (List.mem_append_left _ (List.mem_append_right _ (seg_mem hj)))
theorem addS_rng {p : Int} (hp : 2 ≤ p) {a b : List Int} {s : Int} {i : Nat} : RngP p (addS p a b s i) := fun j => by
  by_cases h : j < i
  · have : (addS p a b s i).getD j 0 = (a.getD j 0 + s * b.getD j 0) % p := by
      unfold addS; rw [List.getD_eq_getElem?_getD, List.getElem?_map, List.getElem?_range h]; rfl
    rw [this]; exact rng_mod hp
  · rw [List.getD_eq_getElem?_getD, List.getElem?_eq_none (by rw [addS_len]; omega)]; simp; omega
theorem keep0_ok {A : Pairs} {b : Bool} {D R : LLs} (h : wkOk (A ++ [((13, 0), (13, 0)), ((15, 0), (15, 0))]) 200 = true) (a : ∀ x ∈ A, x.1.1 ≠ 14 ∧ x.1.1 ≠ 16 ∧ x.2.1 ≠ 14 ∧ x.2.1 ≠ 16 ∧ x.2.1 ≠ 19) : wkOk (A ++ segR stdS ([] : LLs).length 19 ++ keepG stdS (13, 0) D.length b R) 200 = true :=
  keep4_ok h (fun i _ hi => absurd hi (by simp)) stdS_inj (fun i hi => absurd hi (by simp)) (fun i hi => ⟨by simp [stdS], by simp [stdS], by simp [stdS], by simp [stdS], fun x hx => (a x hx).1⟩) (by decide) (by decide) (fun x hx => ⟨(a x hx).2.2.1, (a x hx).2.2.2.1, (a x hx).2.2.2.2⟩) (fun x hx => (a x hx).2.1) (fun i _ hi => absurd hi (by simp))
def std19 : Nat → Abs.Id := fun j => (19, 0 + j)
theorem keep19_ok {A : Pairs} {b : Bool} {D R : LLs} {n : Nat} (h : wkOk (A ++ [((13, 0), (13, 0)), ((15, 0), (15, 0))]) 200 = true) (a : ∀ x ∈ A, x.1.1 ≠ 14 ∧ x.1.1 ≠ 16 ∧ x.1.1 ≠ 19 ∧ x.2.1 ≠ 14 ∧ x.2.1 ≠ 16 ∧ x.2.1 ≠ 19) : wkOk (A ++ segR std19 n 19 ++ keepG stdS (13, 0) D.length b R) 200 = true :=
  keep4_ok h stdS_inj stdS_inj (fun i hi => ⟨by simp [std19], by simp [std19], by simp [std19], by simp [std19], fun x hx => (a x hx).2.2.1⟩) (fun i hi => ⟨by simp [stdS], by simp [stdS], by simp [stdS], by simp [stdS], fun x hx => (a x hx).1⟩) (by decide) (by decide) (fun x hx => (a x hx).2.2.2) (fun x hx => (a x hx).2.1) (fun i _ hi => by simp [std19, stdS])
theorem grow19_ok {A : Pairs} {b : Bool} {D R : LLs} {n t : Nat} (h : wkOk (A ++ [((13, 0), (13, 0)), ((15, 0), (15, 0))]) 200 = true) (ht : 19 < t) (a : ∀ x ∈ A, x.1.1 ≠ 14 ∧ x.1.1 ≠ 16 ∧ x.1.1 ≠ 19 ∧ x.1.1 ≠ t ∧ x.2.1 ≠ 14 ∧ x.2.1 ≠ 16 ∧ x.2.1 ≠ 19) : wkOk (A ++ segR (growS 19 t n) (n + 1) 19 ++ keepG stdS (13, 0) D.length b R) 200 = true :=
  keep4_ok h (growS_inj (by omega)) stdS_inj (fun i hi => by
      have q := growS_fst (B := 19) (t := t) (n := n) (i := i)
      refine ⟨by omega, by omega, by omega, fun e => ?_, fun x hx e => ?_⟩
      · simp only at e; omega
      · have := a x hx; omega) (fun i hi => ⟨by simp [stdS], by simp [stdS], by simp [stdS], by simp [stdS], fun x hx => (a x hx).1⟩) (by decide) (by decide) (fun x hx => (a x hx).2.2.2.2) (fun x hx => (a x hx).2.1) (fun i j hi _ => by
      have q := growS_fst (B := 19) (t := t) (n := n) (i := i)
      simp only [stdS]; omega)
theorem remL_len {p : Int} {c L : Nat} {b : List Int} {k : Nat} {R : LLs} : ∀ {j}, (remL p c L b k R j).length ≤ j
  | 0 => by simp [remL]
  | j + 1 => by
    have := remL_len (p := p) (c := c) (L := L) (b := b) (k := k) (R := R) (j := j)
    rw [remL]; split
    · omega
    · simp; omega
/-- what a memory with a bag 19 before the two lists holds -/
theorem mem19 {pre : Loc} {RR D R : LLs} {b : Bool} {args : List Blk} {n : Nat} (hp : ∀ x ∈ pre, x.1.1 ≠ 13 ∧ x.1.1 ≠ 14 ∧ x.1.1 ≠ 15 ∧ x.1.1 ≠ 16 ∧ x.1.1 ≠ 19) :
    (∀ j, j < RR.length → Mem.get ⟨args, pre ++ (rbag 19 0 RR ++ rdL D R b), n⟩ 19 (0 + j) = ib (at_ RR j)) ∧ Mem.get ⟨args, pre ++ (rbag 19 0 RR ++ rdL D R b), n⟩ 13 0 = .lv true [(0, .cells D.length (outsS stdS D))] ∧ Mem.get ⟨args, pre ++ (rbag 19 0 RR ++ rdL D R b), n⟩ 15 0 = .lv true [(0, .cells R.length (outsS (srcA b) R))] ∧
      (∀ j, j < D.length → Mem.get ⟨args, pre ++ (rbag 19 0 RR ++ rdL D R b), n⟩ 14 (0 + j) = ib (at_ D j)) ∧ (∀ j, j < (bagA b R).length → Mem.get ⟨args, pre ++ (rbag 19 0 RR ++ rdL D R b), n⟩ 16 (0 + j) = ib (at_ (bagA b R) j)) := by
  refine ⟨fun j hj => ?_, ?_, ?_, fun j hj => ?_, fun j hj => ?_⟩
  · show assoc _ 19 (0 + j) = _; rw [assoc_pre fun x hx => (hp x hx).2.2.2.2, assoc_rbag_in hj]
  · show assoc _ 13 0 = _; rw [assoc_pre fun x hx => (hp x hx).1, assoc_rbag_ne (by decide), rdL_13]
  · show assoc _ 15 0 = _; rw [assoc_pre fun x hx => (hp x hx).2.2.1, assoc_rbag_ne (by decide), rdL_15]
  · show assoc _ 14 (0 + j) = _; rw [assoc_pre fun x hx => (hp x hx).2.1, assoc_rbag_ne (by decide), rdL_14 hj]
  · show assoc _ 16 (0 + j) = _; rw [assoc_pre fun x hx => (hp x hx).2.2.2.1, assoc_rbag_ne (by decide), rdL_16 hj]
theorem chk_m {ops : List Oper} {j : Nat} {wr rd : List Abs.Id} : ∀ {h : Hist} {l : List (Nat × Bool)}, h.map (fun x => (x.1, x.2.1.isEmpty && x.2.2.isEmpty)) = l → (l.all fun y => y.2 || ordB ops y.1 j) = true → chk ops j wr rd h
  | [], _, _, _ => trivial
  | (i, wr', rd') :: r, _, rfl, hh => by
    simp only [List.map_cons, List.all_cons, Bool.and_eq_true, Bool.or_eq_true] at hh
    refine ⟨?_, chk_m rfl hh.2⟩
    rcases hh.1 with ⟨h1, h2⟩ | h1
    · rw [List.isEmpty_iff] at h1 h2; subst h1; subst h2; rfl
    · rw [h1, Bool.or_true]
theorem redS_nil {p : Int} {L : Nat} {rows : LLs} : ∀ {c}, (redS p L rows c).1 = [] → (redS p L rows c).2 = rows
  | 0, _ => rfl
  | c + 1, h => by
    rw [redS] at h ⊢
    unfold redN at h ⊢
    split at h
    · simp at h
    · rename_i h2
      rw [if_neg h2]
      exact redS_nil h
def keepT (nD nR : Nat) : List Abs.Id := (13, 0) :: (srcs 14 0 nD ++ ((15, 0) :: srcs 16 0 nR))
theorem keepT_14 {nD nR j : Nat} (h : j < nD) : renFin (keepT nD nR) 14 (0 + j) = some (1, 1 + j) := by
  simp only [renFin, keepT, idx, idx_app, idx_srcs_in h]
  simp; omega
theorem keepT_15 {nD nR : Nat} : renFin (keepT nD nR) 15 0 = some (1, nD + 1) := by
  have e : idx (srcs 14 0 nD) 15 0 = none := by rw [idx_srcs, if_neg]; simp
  simp only [renFin, keepT, idx, idx_app, e, srcs_len]
  simp
theorem keepT_16 {nD nR j : Nat} (h : j < nR) : renFin (keepT nD nR) 16 (0 + j) = some (1, nD + 2 + j) := by
  have e : idx (srcs 14 0 nD) 16 (0 + j) = none := by rw [idx_srcs, if_neg]; simp
  simp only [renFin, keepT, idx, idx_app, e, idx_srcs_in h, srcs_len]
  simp; omega
theorem keepT_nodup {nD nR : Nat} : (keepT nD nR).Nodup := by
  unfold keepT
  rw [List.nodup_cons, List.nodup_append, List.nodup_cons]
  refine ⟨fun h => ?_, srcs_nodup, ⟨fun h => ?_, srcs_nodup⟩, fun p hp q hq e => ?_⟩
  · rcases List.mem_append.1 h with h | h
    · have := (srcs_mem.1 h).1; simp at this
    · rcases List.mem_cons.1 h with h | h
      · cases h
      · have := (srcs_mem.1 h).1; simp at this
  · have := (srcs_mem.1 h).1; simp at this
  · have h1 := (srcs_mem.1 hp).1
    rw [e] at h1
    rcases List.mem_cons.1 hq with rfl | hq
    · simp at h1
    · have h2 := (srcs_mem.1 hq).1; omega
theorem keepT_nz {nD nR : Nat} : ∀ p ∈ keepT nD nR, p.1 ≠ 0 := by
  intro p hp
  rcases List.mem_cons.1 hp with rfl | hp
  · simp
  · rcases List.mem_append.1 hp with hp | hp
    · rw [(srcs_mem.1 hp).1]; decide
    · rcases List.mem_cons.1 hp with rfl | hp
      · simp
      · rw [(srcs_mem.1 hp).1]; decide
theorem keepT_map {D R : LLs} {args : List Blk} {n : Nat} : (keepT D.length R.length).map (fun q => renBlk (renFin (keepT D.length R.length)) (Mem.get ⟨args, rdL D R false, n⟩ q.1 q.2)) = ob 1 1 D :: (inn D ++ ob 1 (D.length + 2) R :: inn R) := by
  have r1 : (outs 14 0 D).map (renAt (renFin (keepT D.length R.length))) = outs 1 1 D := outs_ren fun j hj => keepT_14 hj
  have r2 : (outsS (srcA false) R).map (renAt (renFin (keepT D.length R.length))) = outs 1 (D.length + 2) R := by rw [show outsS (srcA false) R = outs 16 0 R from outs_S.symm]; exact outs_ren fun j hj => keepT_16 hj
  have g13 : Mem.get ⟨args, rdL D R false, n⟩ 13 0 = .lv true [(0, .cells D.length (outs 14 0 D))] := by show assoc _ 13 0 = _; rw [rdL_13, outs_S]; rfl
  have g15 : Mem.get ⟨args, rdL D R false, n⟩ 15 0 = .lv true [(0, .cells R.length (outsS (srcA false) R))] := by show assoc _ 15 0 = _; rw [rdL_15]
  have g1 := srcs_get (σ := renFin (keepT D.length R.length)) (mem := ⟨args, rdL D R false, n⟩) (a := 14) (k := 0) (LL := D) fun j hj => rdL_14 hj
  have g2 := srcs_get (σ := renFin (keepT D.length R.length)) (mem := ⟨args, rdL D R false, n⟩) (a := 16) (k := 0) (LL := R) fun j hj => rdL_16 (b := false) hj
  generalize renFin (keepT D.length R.length) = τ at r1 r2 g1 g2 ⊢
  rw [keepT, List.map_cons, List.map_append, List.map_cons, g1, g2]
  simp only [g13, g15, renBlk, renSegs, renSg, r1, r2, ob]
theorem eldL_len {p : Int} {c L : Nat} {b : List Int} {D : LLs} {j : Nat} : (eldL p c L b D j).length = D.length := by simp [eldL]
theorem eldL_at {p : Int} {c L : Nat} {b : List Int} {D : LLs} {j i : Nat} (h : i < D.length) : at_ (eldL p c L b D j) i = if i < j then elS p c L b (at_ D i) else at_ D i := by
  rw [at_lt (by rw [eldL_len]; exact h)]; simp [eldL]
theorem eldL_zero {p : Int} {c L : Nat} {b : List Int} {D : LLs} : eldL p c L b D 0 = D := by
  refine List.ext_getElem eldL_len fun i h1 h2 => ?_
  simp [eldL, at_lt h2]
theorem eldL_next {p : Int} {c L : Nat} {b : List Int} {D : LLs} {j : Nat} (h : j < D.length) : eldL p c L b D (j + 1) = (eldL p c L b D j).set j (elS p c L b (at_ D j)) := by
  refine List.ext_getElem (by simp [eldL]) fun i h1 h2 => ?_
  rw [List.getElem_set]
  by_cases e : j = i
  · subst e; simp [eldL]
  · rw [if_neg e]
    have e2 : (i < j + 1) = (i < j) := propext ⟨fun _ => by omega, fun _ => by omega⟩
    simp [eldL, e2]
theorem set_same {l : List Blk} {n : Nat} : l.set n (l.getD n .dead) = l := by
  refine List.ext_getElem (by simp) fun i h1 h2 => ?_
  rw [List.getElem_set]
  by_cases e : n = i
  · subst e; rw [if_pos rfl, List.getD_eq_getElem?_getD, List.getElem?_eq_getElem h2]; rfl
  · rw [if_neg e]
theorem zrow_rng {L : Nat} {p : Int} (hp : PrP p) : RngP p (List.replicate L 0) := fun i => by
  have := hp.le
  rw [List.getD_eq_getElem?_getD, List.getElem?_replicate]; split <;> simp <;> omega
set_option maxHeartbeats 2000000 in
theorem l10Reduce_ok (L w : Nat) (p : Int) (rows : LLs) (hL : L ≤ 20) (hw : w ≤ L) (hp : PrP p) (hm : Mat p L rows) (hr : rows.length ≤ 10) (hr1 : 1 ≤ rows.length) :
    ACalls Try.prog 26 [.i .i64 p, .ref (.sl 0 0 0 0 rows.length 1), .i .i64 w] (ms1 rows)
      (fun v ms ns => ms = ms1 rows ∧ (((redS p L rows w).1 = [] ∧ v = .tup [.ref (.sl 1 0 0 0 0 1), .ref (.sl 1 1 0 0 rows.length 1)] ∧ ns = [.lv true [(0, .cells 0 [])], .lv true [(0, .cells rows.length (outs 0 1 rows))]]) ∨
        ((redS p L rows w).1 ≠ [] ∧ v = .tup [.ref (.sl 1 0 0 0 (redS p L rows w).1.length 1), .ref (.sl 1 ((redS p L rows w).1.length + 1) 0 0 (redS p L rows w).2.length 1)] ∧ ns = ob 1 1 (redS p L rows w).1 :: (inn (redS p L rows w).1 ++ ob 1 ((redS p L rows w).1.length + 2) (redS p L rows w).2 :: inn (redS p L rows w).2)))) := by
  have hp2 := hp.le
  have g0 := ms1_0 (LL := rows)
  have m1 : rows.length * 1 = rows.length := Nat.mul_one _
  refine acalls_of_body mix Try.func26 rfl fok26 (Nat.le_of_ble_eq_true rfl) ?_
  unfold abody
  simp only [absE, absL, absF, reduceCtorEq, ↓reduceIte, Nat.reduceEqDiff, Nat.reduceAdd, Nat.reduceLT, Nat.reduceMul, Nat.reduceSub, Nat.reduceLeDiff, Int.reduceLT, Int.reduceLE, Int.reduceEq, Option.isSome_some, implies_true, false_implies, Prod.mk.injEq, ne_eq, not_false_eq_true, not_true_eq_false, ge_iff_le, gt_iff_lt, Int.toNat_natCast, Int.reduceToNat, Int.cast_ofNat_Int, Int.natCast_nonneg, m1, g0, Try.f26]
  refine And.intro (by omega) (And.intro (by omega) ?_)
  refine awpLoop.intro (fun c : Nat => [(0, .i .i64 p), (2, .i .i64 w), (8, .ref (.sl 15 0 0 0 (redS p L rows c).2.length 1)), (9, .ref (.sl 13 0 0 0 (redS p L rows c).1.length 1)), (10, .i .i64 c)]) (fun c => rdM rows (redS p L rows c).1 (redS p L rows c).2) (fun c => c ≤ w) (fun c => w - c) 0 (by omega) ⟨[((6, 0), (13, 0)), ((5, 0), (15, 0))], rfl, ?_, ?_⟩ ?_
  · simp [wkEnv, lk, renV, renAt, renTo, redS]
  · have e : ∀ σ, (outs 0 1 rows).map (renAt (renTo σ)) = outs 0 1 rows := fun σ => outs_ren fun i hi => renTo_zero _
    simp [wkMem, rdM, rdL, redS, ms1_ren renTo_zero, wkLoc, Mem.get, assoc, renBlk, renSegs, renSg, e, ms1_S.symm, rbag_nil, outs_nil, bagA]
  · intro c hc
    have hRed := redS_red hp hm (c := c) (by omega)
    have hNext : redS p L rows (c + 1) = redN p L c (redS p L rows c).1 (redS p L rows c).2 := rfl
    generalize hD : (redS p L rows c).1 = D at hRed hNext ⊢
    generalize hR : (redS p L rows c).2 = R at hRed hNext ⊢
    have hM := hRed.mat hp.le.1 hm
    have hcnt := hRed.count
    by_cases hcw : (c : Int) < w
    · have wc := wrap_i64s (show c < 2 ^ 62 by omega)
      cases hb : D.isEmpty
      · have em : rdM rows D R = ⟨ms1 rows, rdL D R false, 200⟩ := by unfold rdM; rw [hb]
        simp only [em]
        simp only [absE, absL, absF, reduceCtorEq, ↓reduceIte, Nat.reduceEqDiff, Nat.reduceAdd, Nat.reduceLT, Nat.reduceMul, Nat.reduceSub, Nat.reduceLeDiff, Int.reduceLT, Int.reduceLE, Int.reduceEq, Option.isSome_some, implies_true, false_implies, Prod.mk.injEq, ne_eq, not_false_eq_true, not_true_eq_false, ge_iff_le, gt_iff_lt, Int.toNat_natCast, Int.reduceToNat, Int.cast_ofNat_Int, Int.natCast_nonneg, hcw]
        have hkl := fnz_le (c := c) (R := R)
        generalize hk : fnz c R = k at hkl
        refine awpLoop.intro (fun j : Nat => [(0, .i .i64 p), (2, .i .i64 w), (8, .ref (.sl 15 0 0 0 R.length 1)), (9, .ref (.sl 13 0 0 0 D.length 1)), (10, .i .i64 c), (11, .i .i64 (if j ≤ k then -1 else (k : Int))), (12, .i .i64 j)]) (fun _ => ⟨ms1 rows, rdL D R false, 200⟩) (fun j => j ≤ k + 1 ∧ j ≤ R.length) (fun j => R.length - j) 0 (by omega) ⟨[] ++ keepG stdS (13, 0) D.length false R, keep_ok, ?_, keep_mem⟩ ?_
        · simp [wkEnv, lk, renV, renAt, renTo, keepG]
        · rintro j ⟨hj1, hj2⟩
          have wj := wrap_i64s (show j < 2 ^ 62 by omega)
          have hcL : (c : Int) < L := by omega
          have hcL2 : 0 + c * 1 < L := by omega
          by_cases hjk : j ≤ k
          · by_cases hjR : j < R.length
            · have h1 : (j : Int) < R.length := by omega
              have hmem : at_ R j ∈ R := by rw [at_lt hjR]; exact List.getElem_mem _
              have la := hM.len (at_ R j) (by simp [hmem])
              have v1 : 0 + j * 1 < R.length := by omega
              have o1 : (outsS (srcA false) R).getD (0 + j * 1) .top = .sl 16 j 0 0 L 1 := by rw [Nat.zero_add, Nat.mul_one, outsS_get hjR, la]; simp [srcA]
              have q : assoc (rbag 14 0 D ++ rbag 16 0 R) 16 j = .lv true [(0, .ints .i64 L (at_ R j))] := by
                rw [assoc_rbag_ne (by decide)]
                have q := assoc_rbag_in' (a := 16) (k := 0) (i := j) (LL := R) hjR
                rw [Nat.zero_add] at q; rw [q, ib, la]
              have g1 : (at_ R j).getD (0 + c * 1) 0 = (at_ R j).getD c 0 := by rw [Nat.zero_add, Nat.mul_one]
              simp only [rdL, bagA]
              by_cases hz : (at_ R j).getD c 0 = 0
              · have hjk2 : j < k := by
                  apply Decidable.byContradiction; intro hn
                  obtain rfl : j = k := by omega
                  subst hk
                  exact fnz_at hjR hz
                simp only [absE, absL, absF, reduceCtorEq, ↓reduceIte, Nat.reduceEqDiff, Nat.reduceAdd, Nat.reduceLT, Nat.reduceMul, Nat.reduceSub, Nat.reduceLeDiff, Int.reduceLT, Int.reduceLE, Int.reduceEq, Option.isSome_some, implies_true, false_implies, Prod.mk.injEq, ne_eq, not_false_eq_true, not_true_eq_false, ge_iff_le, gt_iff_lt, Int.toNat_natCast, Int.reduceToNat, Int.cast_ofNat_Int, Int.natCast_nonneg, h1, hjk, v1, o1, q, hcL, hcL2, g1, hz]
                refine LoopNext.intro (j + 1) (by omega) (by omega) ⟨[] ++ keepG stdS (13, 0) D.length false R, keep_ok, ?_, ?_⟩
                · simp [wkEnv, lk, renV, renAt, renTo, keepG, wj, show j + 1 ≤ k by omega]
                · exact keep_mem
              · have hjk2 : j = k := by
                  apply Decidable.byContradiction; intro hn
                  exact hz (fnz_none (by omega))
                simp only [absE, absL, absF, reduceCtorEq, ↓reduceIte, Nat.reduceEqDiff, Nat.reduceAdd, Nat.reduceLT, Nat.reduceMul, Nat.reduceSub, Nat.reduceLeDiff, Int.reduceLT, Int.reduceLE, Int.reduceEq, Option.isSome_some, implies_true, false_implies, Prod.mk.injEq, ne_eq, not_false_eq_true, not_true_eq_false, ge_iff_le, gt_iff_lt, Int.toNat_natCast, Int.reduceToNat, Int.cast_ofNat_Int, Int.natCast_nonneg, h1, hjk, v1, o1, q, hcL, hcL2, g1, hz]
                refine LoopNext.intro (j + 1) (by omega) (by omega) ⟨[] ++ keepG stdS (13, 0) D.length false R, keep_ok, ?_, ?_⟩
                · simp [wkEnv, lk, renV, renAt, renTo, keepG, hjk2, show IntKind.i64.wrap ((k : Int) + 1) = ((k + 1 : Nat) : Int) from wrap_i64s (by omega)]
                · exact keep_mem
            · have h1 : ¬ (j : Int) < R.length := by omega
              have hno : ¬ fnz c R < R.length := by omega
              have e2 : redN p L c D R = (D, R) := by unfold redN; rw [if_neg hno]
              simp only [rdL, bagA]
              simp only [absE, absL, absF, reduceCtorEq, ↓reduceIte, Nat.reduceEqDiff, Nat.reduceAdd, Nat.reduceLT, Nat.reduceMul, Nat.reduceSub, Nat.reduceLeDiff, Int.reduceLT, Int.reduceLE, Int.reduceEq, Option.isSome_some, implies_true, false_implies, Prod.mk.injEq, ne_eq, not_false_eq_true, not_true_eq_false, ge_iff_le, gt_iff_lt, Int.toNat_natCast, Int.reduceToNat, Int.cast_ofNat_Int, Int.natCast_nonneg, h1, hjk]
              refine LoopNext.intro (c + 1) (by omega) (by omega) ⟨[] ++ keepG stdS (13, 0) D.length false R, keep_ok, ?_, ?_⟩
              · simp [wkEnv, lk, renV, renAt, renTo, keepG, wc, hNext, e2]
              · rw [hNext, e2, show rdM rows (D, R).1 (D, R).2 = _ from em]; exact keep_mem
          · obtain rfl : j = k + 1 := by omega
            have hkR : k < R.length := by omega
            have hkk : ¬ (k : Int) < 0 := by omega
            have h1 := Nat.lt_or_ge (k + 1) R.length
            have hmem : at_ R k ∈ R := by rw [at_lt hkR]; exact List.getElem_mem _
            have la := hM.len (at_ R k) (by simp [hmem])
            have ra := hM.rng (at_ R k) (by simp [hmem])
            have v1 : 0 + k * 1 < R.length := by omega
            have hkR2 : (k : Int) < R.length := by omega
            have o1 : (outsS (srcA false) R).getD (0 + k * 1) .top = .sl 16 k 0 0 L 1 := by rw [Nat.zero_add, Nat.mul_one, outsS_get hkR, la]; simp [srcA]
            have q : assoc (rbag 14 0 D ++ rbag 16 0 R) 16 k = .lv true [(0, .ints .i64 L (at_ R k))] := by
              rw [assoc_rbag_ne (by decide)]
              have q := assoc_rbag_in' (a := 16) (k := 0) (i := k) (LL := R) hkR
              rw [Nat.zero_add] at q; rw [q, ib, la]
            have g1 : (at_ R k).getD (0 + c * 1) 0 = (at_ R k).getD c 0 := by rw [Nat.zero_add, Nat.mul_one]
            have hz : (at_ R k).getD c 0 ≠ 0 := by subst hk; exact fnz_at hkR
            obtain ⟨hi1, hi2, _, _⟩ := inv_facts hp hz (ra c)
            have hL8 : (L : Int) * 8 ≤ 140737488355328 := by omega
            have mL : L * 1 = L := Nat.mul_one L
            simp only [rdL, bagA]
            by_cases h1 : ((k + 1 : Nat) : Int) < R.length
            · simp only [absE, absL, absF, reduceCtorEq, ↓reduceIte, Nat.reduceEqDiff, Nat.reduceAdd, Nat.reduceLT, Nat.reduceMul, Nat.reduceSub, Nat.reduceLeDiff, Int.reduceLT, Int.reduceLE, Int.reduceEq, Option.isSome_some, implies_true, false_implies, Prod.mk.injEq, ne_eq, not_false_eq_true, not_true_eq_false, ge_iff_le, gt_iff_lt, Int.toNat_natCast, Int.reduceToNat, Int.cast_ofNat_Int, Int.natCast_nonneg, hjk, hkk, h1, hkR2, v1, o1, q, hcL, hcL2, g1, hL8, mL]
              repeat refine And.intro (by decide +kernel) ?_
              refine CallsX.none (l10Inverse_ok p _ hp hz (ra c)) ?_
              simp only [absE, absL, absF, reduceCtorEq, ↓reduceIte, Nat.reduceEqDiff, Nat.reduceAdd, Nat.reduceLT, Nat.reduceMul, Nat.reduceSub, Nat.reduceLeDiff, Int.reduceLT, Int.reduceLE, Int.reduceEq, Option.isSome_some, implies_true, false_implies, Prod.mk.injEq, ne_eq, not_false_eq_true, not_true_eq_false, ge_iff_le, gt_iff_lt, Int.toNat_natCast, Int.reduceToNat, Int.cast_ofNat_Int, Int.natCast_nonneg]
              repeat refine And.intro (by decide +kernel) ?_
              refine CallsX.args [(215, 0), (16, k)] (l10AddS_ok L p (List.replicate L 0) (at_ R k) (invF p ((at_ R k).getD c 0)) hL hp (zrow_rng hp) ra ⟨by omega, hi2⟩) (by simp) (by simp [Mem.get, assoc, q]) (by simp [renVs, renV, renAt, renIn, idx]) (by simp [argBlks, Mem.get, assoc, q, renBlk, renSegs, renSg]) ?_
              simp only [absE, absL, absF, reduceCtorEq, ↓reduceIte, Nat.reduceEqDiff, Nat.reduceAdd, Nat.reduceLT, Nat.reduceMul, Nat.reduceSub, Nat.reduceLeDiff, Int.reduceLT, Int.reduceLE, Int.reduceEq, Option.isSome_some, implies_true, false_implies, Prod.mk.injEq, ne_eq, not_false_eq_true, not_true_eq_false, ge_iff_le, gt_iff_lt, Int.toNat_natCast, Int.reduceToNat, Int.cast_ofNat_Int, Int.natCast_nonneg, q]
              refine And.intro (chk_w (l := [13, 12, 11, 10, 9, 8, 7, 6, 5, 4, 3, 2, 1, 0]) rfl (by decide +kernel)) ?_
              have hpl : (addS p (List.replicate L 0) (at_ R k) (invF p ((at_ R k).getD c 0)) L).length = L := addS_len
              have hpr : RngP p (addS p (List.replicate L 0) (at_ R k) (invF p ((at_ R k).getD c 0)) L) := addS_rng hp.le.1
              have hN2 : redN p L c D R = (eldL p c L (addS p (List.replicate L 0) (at_ R k) (invF p ((at_ R k).getD c 0)) L) D D.length ++ [addS p (List.replicate L 0) (at_ R k) (invF p ((at_ R k).getD c 0)) L], remL p c L (addS p (List.replicate L 0) (at_ R k) (invF p ((at_ R k).getD c 0)) L) k R R.length) := by
                unfold redN; rw [hk, if_pos hkR]; rfl
              generalize addS p (List.replicate L 0) (at_ R k) (invF p ((at_ R k).getD c 0)) L = pv at hpl hpr hN2 ⊢
              refine awpLoop.intro (fun j : Nat => [(0, .i .i64 p), (2, .i .i64 w), (8, .ref (.sl 15 0 0 0 R.length 1)), (9, .ref (.sl 13 0 0 0 D.length 1)), (10, .i .i64 c), (11, .i .i64 k), (14, .ref (.sl 17 0 0 0 L 1)), (15, .ref (.sl 18 0 0 0 (remL p c L pv k R j).length 1)), (16, .i .i64 j)]) (fun j => ⟨ms1 rows, ((17, 0), .lv true [(0, .ints .i64 L pv)]) :: ((18, 0), .lv true [(0, .cells (remL p c L pv k R j).length (outs 19 0 (remL p c L pv k R j)))]) :: (rbag 19 0 (remL p c L pv k R j) ++ rdL D R false), 200⟩)
                (fun j => j ≤ R.length) (fun j => R.length - j) 0 (by omega) ⟨[((232, 0), (17, 0)), ((234, 0), (18, 0))] ++ segR stdS ([] : LLs).length 19 ++ keepG stdS (13, 0) D.length false R, keep0_ok (by simp [wkOk]) (by simp), ?_, ?_⟩ ?_
              · simp [wkEnv, lk, renV, renAt, renTo, keepG, remL, segR, rids]
              · simp only [wkMem, remL]
                rw [ms1_ren renTo_zero, keep4_wk (keep0_ok (by simp [wkOk]) (by simp)) (fun _ _ => by simp [stdS]) (fun j hj => absurd hj (by simp)) (by
                    have e : stdS = fun j => (14, j) := by funext j; simp [stdS]
                    simp [Mem.get, assoc, e, outs_S]) (by simp [Mem.get, assoc]) (fun j hj => by
                    simp only [Mem.get, assoc, stdS]; simp
                    have q := assoc_rbag_in (a := 14) (k := 0) (i := j) (LL := D) (r := rbag 16 0 R) hj
                    rwa [Nat.zero_add] at q) (fun j hj => by
                    have q' := assoc_rbag_in' (a := 16) (k := 0) (i := j) (LL := R) hj
                    have q2 := assoc_rbag_ne (a := 14) (k := 0) (b := 16) (j := j) (LL := D) (r := rbag 16 0 R) (by decide)
                    rw [Nat.zero_add] at q'
                    simp only [Mem.get, assoc]
                    by_cases e : k = j
                    · subst e; simp [bagA, ib, la]
                    · simp [e, q2, q', bagA])]
                simp [wkLoc, Mem.get, assoc, renBlk, renSegs, renSg, rbag_nil, outs_nil]
              · intro j hj
                by_cases h2 : (j : Int) < R.length
                · have hjR : j < R.length := by omega
                  have wj := wrap_i64s (show j < 2 ^ 62 by omega)
                  have hst : remL p c L pv k R (j + 1) = if j = k then remL p c L pv k R j else remL p c L pv k R j ++ [elS p c L pv (at_ R j)] := rfl
                  have hrl : (remL p c L pv k R j).length ≤ j := remL_len
                  by_cases hjk2 : (j : Int) = k
                  · rw [if_pos (by omega)] at hst
                    generalize remL p c L pv k R j = RR at hst hrl ⊢
                    simp only [absE, absL, absF, reduceCtorEq, ↓reduceIte, Nat.reduceEqDiff, Nat.reduceAdd, Nat.reduceLT, Nat.reduceMul, Nat.reduceSub, Nat.reduceLeDiff, Int.reduceLT, Int.reduceLE, Int.reduceEq, Option.isSome_some, implies_true, false_implies, Prod.mk.injEq, ne_eq, not_false_eq_true, not_true_eq_false, ge_iff_le, gt_iff_lt, Int.toNat_natCast, Int.reduceToNat, Int.cast_ofNat_Int, Int.natCast_nonneg, h2, hkR2, hjk2]
                    have hok := keep19_ok (A := [((17, 0), (17, 0)), ((18, 0), (18, 0))]) (b := false) (D := D) (R := R) (n := RR.length) (by simp [wkOk]) (by simp)
                    have r13 := renTo_ok (p := (13, 0)) (q := (13, 0)) hok (by simp) (by simp [keepG])
                    have r15 := renTo_ok (p := (15, 0)) (q := (15, 0)) hok (by simp) (by simp [keepG])
                    have r17 := renTo_ok (p := (17, 0)) (q := (17, 0)) hok (by simp) (by simp [keepG])
                    have r18 := renTo_ok (p := (18, 0)) (q := (18, 0)) hok (by simp) (by simp [keepG])
                    have r4 := ren4 (RR := RR) hok (fun _ _ => by simp [std19])
                    have hm19 := mem19 (pre := [((17, 0), .lv true [(0, .ints .i64 L pv)]), ((18, 0), .lv true [(0, .cells RR.length (outs 19 0 RR))])]) (RR := RR) (D := D) (R := R) (b := false) (args := ms1 rows) (n := 210) (by simp)
                    have hkm := keep4_wk (RR := RR) hok (fun _ _ => by simp [stdS]) hm19.1 hm19.2.1 hm19.2.2.1 hm19.2.2.2.1 hm19.2.2.2.2
                    rw [show outsS std19 RR = outs 19 0 RR from outs_S.symm] at r4
                    refine LoopNext.intro (j + 1) (by omega) (by omega) ⟨[((17, 0), (17, 0)), ((18, 0), (18, 0))] ++ segR std19 RR.length 19 ++ keepG stdS (13, 0) D.length false R, hok, ?_, ?_⟩
                    · simp only [wkEnv]
                      generalize renTo ([((17, 0), (17, 0)), ((18, 0), (18, 0))] ++ segR std19 RR.length 19 ++ keepG stdS (13, 0) D.length false R) = τ at r13 r15 r17 r18 ⊢
                      simp [lk, renV, renAt, r13, r15, r17, r18, hst, ← hjk2, wj]
                    · simp only [wkMem]
                      rw [ms1_ren renTo_zero, hst]
                      refine congrArg (fun x => Mem.mk (ms1 rows) x 200) (Eq.trans ?_ hkm.symm)
                      generalize renTo ([((17, 0), (17, 0)), ((18, 0), (18, 0))] ++ segR std19 RR.length 19 ++ keepG stdS (13, 0) D.length false R) = τ at r4 ⊢
                      simp [wkLoc, Mem.get, assoc, renBlk, renSegs, renSg, r4]
                  · rw [if_neg (by omega)] at hst
                    generalize remL p c L pv k R j = RR at hst hrl ⊢
                    have hmj : at_ R j ∈ R := by rw [at_lt hjR]; exact List.getElem_mem _
                    have laj := hM.len (at_ R j) (by simp [hmj])
                    have raj := hM.rng (at_ R j) (by simp [hmj])
                    have v1j : 0 + j * 1 < R.length := by omega
                    have o1j : (outsS (srcA false) R).getD (0 + j * 1) .top = .sl 16 j 0 0 L 1 := by rw [Nat.zero_add, Nat.mul_one, outsS_get hjR, laj]; simp [srcA]
                    have qj : assoc (rbag 19 0 RR ++ rdL D R false) 16 j = .lv true [(0, .ints .i64 L (at_ R j))] := by
                      rw [assoc_rbag_ne (by decide)]
                      have q := rdL_16 (D := D) (R := R) (b := false) (j := j) hjR
                      rw [Nat.zero_add] at q; rw [q, ib, show bagA false R = R from rfl, laj]
                    have q15 : assoc (rbag 19 0 RR ++ rdL D R false) 15 0 = .lv true [(0, .cells R.length (outsS (srcA false) R))] := by rw [assoc_rbag_ne (by decide), rdL_15]
                    have g1j : (at_ R j).getD (0 + c * 1) 0 = (at_ R j).getD c 0 := by rw [Nat.zero_add, Nat.mul_one]
                    have rc := raj c
                    have wn : IntKind.i64.wrap (0 - (at_ R j).getD c 0) = -((at_ R j).getD c 0) := by rw [Int.zero_sub]; exact wrap_i64 (by omega) (by omega)
                    have mR : RR.length * 1 = RR.length := Nat.mul_one _
                    simp only [absE, absL, absF, reduceCtorEq, ↓reduceIte, Nat.reduceEqDiff, Nat.reduceAdd, Nat.reduceLT, Nat.reduceMul, Nat.reduceSub, Nat.reduceLeDiff, Int.reduceLT, Int.reduceLE, Int.reduceEq, Option.isSome_some, implies_true, false_implies, Prod.mk.injEq, ne_eq, not_false_eq_true, not_true_eq_false, ge_iff_le, gt_iff_lt, Int.toNat_natCast, Int.reduceToNat, Int.cast_ofNat_Int, Int.natCast_nonneg, h2, hjk2, v1j, o1j, qj, q15, g1j, wn, hcL, hcL2, mR]
                    refine CallsX.args [(16, j), (17, 0)] (l10AddS_ok L p (at_ R j) pv (-((at_ R j).getD c 0)) hL hp raj hpr (by omega)) (by simp) (by simp [Mem.get, assoc, qj]) (by simp [renVs, renV, renAt, renIn, idx]) (by simp [argBlks, Mem.get, assoc, qj, renBlk, renSegs, renSg]) ?_
                    simp only [absE, absL, absF, reduceCtorEq, ↓reduceIte, Nat.reduceEqDiff, Nat.reduceAdd, Nat.reduceLT, Nat.reduceMul, Nat.reduceSub, Nat.reduceLeDiff, Int.reduceLT, Int.reduceLE, Int.reduceEq, Option.isSome_some, implies_true, false_implies, Prod.mk.injEq, ne_eq, not_false_eq_true, not_true_eq_false, ge_iff_le, gt_iff_lt, Int.toNat_natCast, Int.reduceToNat, Int.cast_ofNat_Int, Int.natCast_nonneg, qj, q15, mR]
                    refine And.intro (chk_m (l := [(13, false), (12, true), (11, true), (10, false), (9, true), (8, true), (7, true), (6, true), (5, false), (4, true), (3, true), (2, true), (1, true), (0, true)]) rfl (by decide +kernel)) (And.intro (chk_m (l := [(15, false), (14, true), (13, false), (12, true), (11, true), (10, false), (9, true), (8, true), (7, true), (6, true), (5, false), (4, true), (3, true), (2, true), (1, true), (0, true)]) rfl (by decide +kernel)) (And.intro (by omega) (And.intro (by omega) (And.intro (chk_m (l := [(16, false), (15, false), (14, true), (13, false), (12, true), (11, true), (10, false), (9, true), (8, true), (7, true), (6, true), (5, false), (4, true), (3, true), (2, true), (1, true), (0, true)]) rfl (by decide +kernel)) ?_))))
                    have hxl : (elS p c L pv (at_ R j)).length = L := addS_len
                    rw [show addS p (at_ R j) pv (-((at_ R j).getD c 0)) L = elS p c L pv (at_ R j) from rfl]
                    generalize elS p c L pv (at_ R j) = xs at hst hxl ⊢
                    have hok := grow19_ok (A := [((17, 0), (17, 0)), ((224, 0), (18, 0))]) (b := false) (D := D) (R := R) (n := RR.length) (t := 222) (by simp [wkOk]) (by decide) (by simp)
                    rw [← show (RR ++ [xs]).length = RR.length + 1 by simp] at hok
                    have r13 := renTo_ok (p := (13, 0)) (q := (13, 0)) hok (by simp) (by simp [keepG])
                    have r15 := renTo_ok (p := (15, 0)) (q := (15, 0)) hok (by simp) (by simp [keepG])
                    have r17 := renTo_ok (p := (17, 0)) (q := (17, 0)) hok (by simp) (by simp [keepG])
                    have r18 := renTo_ok (p := (224, 0)) (q := (18, 0)) hok (by simp) (by simp [keepG])
                    have r4 := ren4 (RR := RR ++ [xs]) hok (fun i _ => by have q := growS_fst (B := 19) (t := 222) (n := RR.length) (i := i); omega)
                    rw [← outs_grow, hxl] at r4
                    refine LoopNext.intro (j + 1) (by omega) (by omega) ⟨[((17, 0), (17, 0)), ((224, 0), (18, 0))] ++ segR (growS 19 222 RR.length) (RR ++ [xs]).length 19 ++ keepG stdS (13, 0) D.length false R, hok, ?_, ?_⟩
                    · simp only [wkEnv]
                      generalize renTo ([((17, 0), (17, 0)), ((224, 0), (18, 0))] ++ segR (growS 19 222 RR.length) (RR ++ [xs]).length 19 ++ keepG stdS (13, 0) D.length false R) = τ at r13 r15 r17 r18 ⊢
                      simp [lk, renV, renAt, r13, r15, r17, r18, hst, wj]
                    · simp only [wkMem]
                      rw [ms1_ren renTo_zero, hst, keep4_wk (RR := RR ++ [xs]) hok (fun _ _ => by simp [stdS]) (fun i hi => by
                          unfold growS
                          by_cases e : i < RR.length
                          · rw [if_pos e]
                            have q := assoc_rbag_in (a := 19) (k := 0) (i := i) (LL := RR) (r := rdL D R false) e
                            simp only [Nat.zero_add] at q ⊢
                            simp [Mem.get, assoc, q, at_app, show ¬ i = RR.length by omega]
                          · rw [if_neg e]
                            obtain rfl : i = RR.length := by simp at hi; omega
                            simp [Mem.get, assoc, at_app, ib, hxl]) (by
                          have q := rdL_13 (D := D) (R := R) (b := false)
                          simp [Mem.get, assoc, assoc_rbag_ne, q]) (by simp [Mem.get, assoc, q15]) (fun i hi => by
                          have q := rdL_14 (D := D) (R := R) (b := false) hi
                          simp only [Nat.zero_add, stdS] at q ⊢
                          simp [Mem.get, assoc, assoc_rbag_ne, q]) (fun i hi => by
                          have q := rdL_16 (D := D) (R := R) (b := false) hi
                          simp only [Nat.zero_add] at q ⊢
                          by_cases e : j = i
                          · subst e; simp [Mem.get, assoc, bagA, ib, laj]
                          · simp [Mem.get, assoc, assoc_rbag_ne, q, e])]
                      generalize renTo ([((17, 0), (17, 0)), ((224, 0), (18, 0))] ++ segR (growS 19 222 RR.length) (RR ++ [xs]).length 19 ++ keepG stdS (13, 0) D.length false R) = τ at r4 ⊢
                      simp only [List.map_append, List.map_cons, List.map_nil] at r4
                      simp [wkLoc, Mem.get, assoc, renBlk, renSegs, renSg, r4]
                · obtain rfl : j = R.length := by omega
                  have q13 : assoc (rbag 19 0 (remL p c L pv k R R.length) ++ rdL D R false) 13 0 = .lv true [(0, .cells D.length (outs 14 0 D))] := by rw [assoc_rbag_ne (by decide), rdL_13]; rw [outs_S]; rfl
                  simp only [absE, absL, absF, reduceCtorEq, ↓reduceIte, Nat.reduceEqDiff, Nat.reduceAdd, Nat.reduceLT, Nat.reduceMul, Nat.reduceSub, Nat.reduceLeDiff, Int.reduceLT, Int.reduceLE, Int.reduceEq, Option.isSome_some, implies_true, false_implies, Prod.mk.injEq, ne_eq, not_false_eq_true, not_true_eq_false, ge_iff_le, gt_iff_lt, Int.toNat_natCast, Int.reduceToNat, Int.cast_ofNat_Int, Int.natCast_nonneg, h2]
                  have hRl : (remL p c L pv k R R.length).length ≤ R.length := remL_len
                  generalize remL p c L pv k R R.length = RR at hN2 hRl q13 ⊢
                  have hok := keep19_ok (A := [((17, 0), (17, 0)), ((18, 0), (18, 0))]) (b := false) (D := D) (R := R) (n := RR.length) (by simp [wkOk]) (by simp)
                  have r13 := renTo_ok (p := (13, 0)) (q := (13, 0)) hok (by simp) (by simp [keepG])
                  have r17 := renTo_ok (p := (17, 0)) (q := (17, 0)) hok (by simp) (by simp [keepG])
                  have r18 := renTo_ok (p := (18, 0)) (q := (18, 0)) hok (by simp) (by simp [keepG])
                  have r4 := ren4 (RR := RR) hok (fun _ _ => by simp [std19])
                  have hm19 := mem19 (pre := [((17, 0), .lv true [(0, .ints .i64 L pv)]), ((18, 0), .lv true [(0, .cells RR.length (outs 19 0 RR))])]) (RR := RR) (D := D) (R := R) (b := false) (args := ms1 rows) (n := 205) (by simp)
                  have hkm := keep4_wk (RR := RR) hok (fun _ _ => by simp [stdS]) hm19.1 hm19.2.1 hm19.2.2.1 hm19.2.2.2.1 hm19.2.2.2.2
                  rw [show outsS std19 RR = outs 19 0 RR from outs_S.symm] at r4
                  refine awpLoop.intro (fun j : Nat => [(0, .i .i64 p), (2, .i .i64 w), (9, .ref (.sl 13 0 0 0 D.length 1)), (10, .i .i64 c), (14, .ref (.sl 17 0 0 0 L 1)), (15, .ref (.sl 18 0 0 0 RR.length 1)), (17, .i .i64 j)]) (fun j => ⟨ms1 rows, ((17, 0), .lv true [(0, .ints .i64 L pv)]) :: ((18, 0), .lv true [(0, .cells RR.length (outs 19 0 RR))]) :: (rbag 19 0 RR ++ rdL (eldL p c L pv D j) R false), 200⟩)
                    (fun j => j ≤ D.length) (fun j => D.length - j) 0 (by omega) ⟨[((17, 0), (17, 0)), ((18, 0), (18, 0))] ++ segR std19 RR.length 19 ++ keepG stdS (13, 0) D.length false R, hok, ?_, ?_⟩ ?_
                  · simp only [wkEnv]
                    generalize renTo ([((17, 0), (17, 0)), ((18, 0), (18, 0))] ++ segR std19 RR.length 19 ++ keepG stdS (13, 0) D.length false R) = τ at r13 r17 r18 ⊢
                    simp [lk, renV, renAt, r13, r17, r18]
                  · simp only [wkMem]
                    rw [ms1_ren renTo_zero, eldL_zero]
                    refine congrArg (fun x => Mem.mk (ms1 rows) x 200) (Eq.trans ?_ hkm.symm)
                    generalize renTo ([((17, 0), (17, 0)), ((18, 0), (18, 0))] ++ segR std19 RR.length 19 ++ keepG stdS (13, 0) D.length false R) = τ at r4 ⊢
                    simp [wkLoc, Mem.get, assoc, renBlk, renSegs, renSg, r4]
                  · intro i hi
                    have hEl : (eldL p c L pv D i).length = D.length := eldL_len
                    by_cases h3 : (i : Int) < D.length
                    · have hiD : i < D.length := by omega
                      have wi := wrap_i64s (show i < 2 ^ 62 by omega)
                      have hst := eldL_next (p := p) (c := c) (L := L) (b := pv) hiD
                      have hat : at_ (eldL p c L pv D i) i = at_ D i := by rw [eldL_at hiD, if_neg (by omega)]
                      generalize eldL p c L pv D i = E at hEl hst hat ⊢
                      have hmi : at_ D i ∈ D := by rw [at_lt hiD]; exact List.getElem_mem _
                      have lai := hM.len (at_ D i) (by simp [hmi])
                      have rai := hM.rng (at_ D i) (by simp [hmi])
                      have v1i : 0 + i * 1 < D.length := by omega
                      have o1i : (outs 14 0 E).getD (0 + i * 1) .top = .sl 14 i 0 0 L 1 := by rw [Nat.zero_add, Nat.mul_one, outs_get (by omega), hat, lai, Nat.zero_add]
                      have q13i : assoc (rbag 19 0 RR ++ rdL E R false) 13 0 = .lv true [(0, .cells D.length (outs 14 0 E))] := by rw [assoc_rbag_ne (by decide), rdL_13, hEl, outs_S]; rfl
                      have qi : assoc (rbag 19 0 RR ++ rdL E R false) 14 i = .lv true [(0, .ints .i64 L (at_ D i))] := by
                        rw [assoc_rbag_ne (by decide)]
                        have q := rdL_14 (D := E) (R := R) (b := false) (j := i) (by omega)
                        rw [Nat.zero_add] at q; rw [q, ib, hat, lai]
                      have g1i : (at_ D i).getD (0 + c * 1) 0 = (at_ D i).getD c 0 := by rw [Nat.zero_add, Nat.mul_one]
                      have rc := rai c
                      have wn : IntKind.i64.wrap (0 - (at_ D i).getD c 0) = -((at_ D i).getD c 0) := by rw [Int.zero_sub]; exact wrap_i64 (by omega) (by omega)
                      simp only [absE, absL, absF, reduceCtorEq, ↓reduceIte, Nat.reduceEqDiff, Nat.reduceAdd, Nat.reduceLT, Nat.reduceMul, Nat.reduceSub, Nat.reduceLeDiff, Int.reduceLT, Int.reduceLE, Int.reduceEq, Option.isSome_some, implies_true, false_implies, Prod.mk.injEq, ne_eq, not_false_eq_true, not_true_eq_false, ge_iff_le, gt_iff_lt, Int.toNat_natCast, Int.reduceToNat, Int.cast_ofNat_Int, Int.natCast_nonneg, h3, v1i, o1i, q13i, qi, g1i, wn, hcL, hcL2]
                      refine CallsX.args [(14, i), (17, 0)] (l10AddS_ok L p (at_ D i) pv (-((at_ D i).getD c 0)) hL hp rai hpr (by omega)) (by simp) (by simp [Mem.get, assoc, qi]) (by simp [renVs, renV, renAt, renIn, idx]) (by simp [argBlks, Mem.get, assoc, qi, renBlk, renSegs, renSg]) ?_
                      simp only [absE, absL, absF, reduceCtorEq, ↓reduceIte, Nat.reduceEqDiff, Nat.reduceAdd, Nat.reduceLT, Nat.reduceMul, Nat.reduceSub, Nat.reduceLeDiff, Int.reduceLT, Int.reduceLE, Int.reduceEq, Option.isSome_some, implies_true, false_implies, Prod.mk.injEq, ne_eq, not_false_eq_true, not_true_eq_false, ge_iff_le, gt_iff_lt, Int.toNat_natCast, Int.reduceToNat, Int.cast_ofNat_Int, Int.natCast_nonneg, qi, q13i, v1i]
                      refine And.intro (chk_m (l := [(14, false), (13, true), (12, true), (11, false), (10, true), (9, true), (8, true), (7, true), (6, false), (5, true), (4, true), (3, true), (2, true), (1, true), (0, true)]) rfl (by decide +kernel)) (And.intro (by omega) ?_)
                      have hxl : (elS p c L pv (at_ D i)).length = L := addS_len
                      rw [show addS p (at_ D i) pv (-((at_ D i).getD c 0)) L = elS p c L pv (at_ D i) from rfl]
                      generalize elS p c L pv (at_ D i) = xs at hst hxl ⊢
                      have u : (outs 14 0 E).set (0 + i * 1) (.sl 220 0 0 0 L 1) = outsS (swapS 14 220 i) (E.set i xs) := by
                        rw [Nat.zero_add, Nat.mul_one, ← outs_swap (by omega), hxl]
                      have e1 : 1 = D.length → [(.sl 220 0 0 0 L 1 : Atom)] = outsS (swapS 14 220 i) (E.set i xs) := fun e => by
                        rw [← u]
                        have l1 : (outs 14 0 E).length = 1 := by rw [outs_len]; omega
                        have i0 : 0 + i * 1 = 0 := by omega
                        rw [i0]
                        generalize outs 14 0 E = o at l1 ⊢
                        match o, l1 with
                        | [v], _ => rfl
                      have hok6 : wkOk ([((17, 0), (17, 0)), ((18, 0), (18, 0))] ++ segR std19 RR.length 19 ++ keepG (swapS 14 220 i) (13, 0) (E.set i xs).length false R) 200 = true := keep4_ok (by simp [wkOk]) stdS_inj (fun a b _ _ h => swapS_inj (by decide) a b h) (fun j hj => ⟨by simp [std19], by simp [std19], by simp [std19], by simp [std19], by simp [std19]⟩) (fun j hj => by
                          have q := swapS_fst (B := 14) (t := 220) (n := i) (i := j)
                          refine ⟨by omega, by omega, by omega, by simp only; omega, fun x hx e => ?_⟩
                          simp only [List.mem_cons, List.not_mem_nil, or_false] at hx
                          rcases hx with rfl | rfl <;> simp only at e <;> omega) (by decide) (by decide) (by simp) (by simp) (fun a b _ _ => by
                          have q := swapS_fst (B := 14) (t := 220) (n := i) (i := b)
                          simp only [std19]; omega)
                      have s13 := renTo_ok (p := (13, 0)) (q := (13, 0)) hok6 (by simp) (by simp [keepG])
                      have s17 := renTo_ok (p := (17, 0)) (q := (17, 0)) hok6 (by simp) (by simp [keepG])
                      have s18 := renTo_ok (p := (18, 0)) (q := (18, 0)) hok6 (by simp) (by simp [keepG])
                      have r46 := ren4 (RR := RR) hok6 (fun _ _ => by simp [std19])
                      rw [show outsS std19 RR = outs 19 0 RR from outs_S.symm] at r46
                      by_cases h1' : 1 = D.length
                      · rw [if_pos h1']
                        refine And.intro (by omega) (And.intro (chk_m (l := [(16, false), (15, true), (14, false), (13, true), (12, true), (11, false), (10, true), (9, true), (8, true), (7, true), (6, false), (5, true), (4, true), (3, true), (2, true), (1, true), (0, true)]) rfl (by decide +kernel)) ?_)
                        rw [e1 h1']
                        refine LoopNext.intro (i + 1) (by omega) (by omega) ⟨[((17, 0), (17, 0)), ((18, 0), (18, 0))] ++ segR std19 RR.length 19 ++ keepG (swapS 14 220 i) (13, 0) (E.set i xs).length false R, hok6, ?_, ?_⟩
                        · simp only [wkEnv]
                          generalize renTo ([((17, 0), (17, 0)), ((18, 0), (18, 0))] ++ segR std19 RR.length 19 ++ keepG (swapS 14 220 i) (13, 0) (E.set i xs).length false R) = τ at s13 s17 s18 ⊢
                          simp [lk, renV, renAt, s13, s17, s18, wi]
                        · simp only [wkMem]
                          rw [ms1_ren renTo_zero, hst, keep4_wk (RR := RR) hok6 (fun j _ => by have q := swapS_fst (B := 14) (t := 220) (n := i) (i := j); omega) (fun j hj => by
                              have q := assoc_rbag_in (a := 19) (k := 0) (i := j) (LL := RR) (r := rdL E R false) hj
                              simp only [Nat.zero_add, std19] at q ⊢
                              simp [Mem.get, assoc, q]) (by simp [Mem.get, assoc, hEl]) (by
                              have q := rdL_15 (D := E) (R := R) (b := false)
                              simp [Mem.get, assoc, assoc_rbag_ne, q]) (fun j hj => by
                              have hjE : j < E.length := by simpa using hj
                              rw [at_set (by omega)]
                              unfold swapS
                              by_cases e : j = i
                              · rw [if_pos e, if_pos e]; simp [Mem.get, assoc, ib, hxl]
                              · rw [if_neg e, if_neg e]
                                have q := rdL_14 (D := E) (R := R) (b := false) hjE
                                simp only [Nat.zero_add] at q ⊢
                                simp [Mem.get, assoc, assoc_rbag_ne, q, show ¬ i = j from fun h => e h.symm]) (fun j hj => by
                              have q := rdL_16 (D := E) (R := R) (b := false) hj
                              simp only [Nat.zero_add] at q ⊢
                              simp [Mem.get, assoc, assoc_rbag_ne, q])]
                          generalize renTo ([((17, 0), (17, 0)), ((18, 0), (18, 0))] ++ segR std19 RR.length 19 ++ keepG (swapS 14 220 i) (13, 0) (E.set i xs).length false R) = τ at r46 ⊢
                          simp [wkLoc, Mem.get, assoc, renBlk, renSegs, renSg, r46]
                      · rw [if_neg h1']
                        refine And.intro (by omega) ?_
                        refine And.intro (chk_m (l := [(16, false), (15, true), (14, false), (13, true), (12, true), (11, false), (10, true), (9, true), (8, true), (7, true), (6, false), (5, true), (4, true), (3, true), (2, true), (1, true), (0, true)]) rfl (by decide +kernel)) ?_
                        rw [u]
                        refine LoopNext.intro (i + 1) (by omega) (by omega) ⟨[((17, 0), (17, 0)), ((18, 0), (18, 0))] ++ segR std19 RR.length 19 ++ keepG (swapS 14 220 i) (13, 0) (E.set i xs).length false R, hok6, ?_, ?_⟩
                        · simp only [wkEnv]
                          generalize renTo ([((17, 0), (17, 0)), ((18, 0), (18, 0))] ++ segR std19 RR.length 19 ++ keepG (swapS 14 220 i) (13, 0) (E.set i xs).length false R) = τ at s13 s17 s18 ⊢
                          simp [lk, renV, renAt, s13, s17, s18, wi]
                        · simp only [wkMem]
                          rw [ms1_ren renTo_zero, hst, keep4_wk (RR := RR) hok6 (fun j _ => by have q := swapS_fst (B := 14) (t := 220) (n := i) (i := j); omega) (fun j hj => by
                              have q := assoc_rbag_in (a := 19) (k := 0) (i := j) (LL := RR) (r := rdL E R false) hj
                              simp only [Nat.zero_add, std19] at q ⊢
                              simp [Mem.get, assoc, q]) (by simp [Mem.get, assoc, hEl]) (by
                              have q := rdL_15 (D := E) (R := R) (b := false)
                              simp [Mem.get, assoc, assoc_rbag_ne, q]) (fun j hj => by
                              have hjE : j < E.length := by simpa using hj
                              rw [at_set (by omega)]
                              unfold swapS
                              by_cases e : j = i
                              · rw [if_pos e, if_pos e]; simp [Mem.get, assoc, ib, hxl]
                              · rw [if_neg e, if_neg e]
                                have q := rdL_14 (D := E) (R := R) (b := false) hjE
                                simp only [Nat.zero_add] at q ⊢
                                simp [Mem.get, assoc, assoc_rbag_ne, q, show ¬ i = j from fun h => e h.symm]) (fun j hj => by
                              have q := rdL_16 (D := E) (R := R) (b := false) hj
                              simp only [Nat.zero_add] at q ⊢
                              simp [Mem.get, assoc, assoc_rbag_ne, q])]
                          generalize renTo ([((17, 0), (17, 0)), ((18, 0), (18, 0))] ++ segR std19 RR.length 19 ++ keepG (swapS 14 220 i) (13, 0) (E.set i xs).length false R) = τ at r46 ⊢
                          simp [wkLoc, Mem.get, assoc, renBlk, renSegs, renSg, r46]
                    · obtain rfl : i = D.length := by omega
                      have mD : D.length * 1 = D.length := Nat.mul_one _
                      generalize eldL p c L pv D D.length = E at hEl hN2 ⊢
                      have q13i : assoc (rbag 19 0 RR ++ rdL E R false) 13 0 = .lv true [(0, .cells D.length (outs 14 0 E))] := by rw [assoc_rbag_ne (by decide), rdL_13, hEl, outs_S]; rfl
                      simp only [absE, absL, absF, reduceCtorEq, ↓reduceIte, Nat.reduceEqDiff, Nat.reduceAdd, Nat.reduceLT, Nat.reduceMul, Nat.reduceSub, Nat.reduceLeDiff, Int.reduceLT, Int.reduceLE, Int.reduceEq, Option.isSome_some, implies_true, false_implies, Prod.mk.injEq, ne_eq, not_false_eq_true, not_true_eq_false, ge_iff_le, gt_iff_lt, Int.toNat_natCast, Int.reduceToNat, Int.cast_ofNat_Int, Int.natCast_nonneg, h3, q13i, mD]
                      refine And.intro (by omega) (And.intro (by omega) ?_)
                      have hN3 : redS p L rows (c + 1) = (E ++ [pv], RR) := by rw [hNext, hN2]
                      have hok7 : wkOk ([((207, 0), (13, 0)), ((18, 0), (15, 0))] ++ (segR (growS 14 17 E.length) (E ++ [pv]).length 14 ++ segR std19 RR.length 16)) 200 = true := ok_two (by simp [wkOk]) (fun a b ha hb => growS_inj (by decide) a b (by simpa using ha) (by simpa using hb)) stdS_inj (fun a _ => by have q := growS_fst (B := 14) (t := 17) (n := E.length) (i := a); omega) (fun _ _ => by simp [std19]) (by decide) (by decide) (by decide) (by decide) (by decide)
                        (fun x hx a _ e => by
                          have q := growS_fst (B := 14) (t := 17) (n := E.length) (i := a)
                          have e' := congrArg (·.1) e
                          simp only [List.mem_cons, List.not_mem_nil, or_false] at hx
                          rcases hx with rfl | rfl <;> simp only at e' <;> omega) (fun x hx a _ e => by
                          have e' := congrArg (·.1) e
                          simp only [List.mem_cons, List.not_mem_nil, or_false] at hx
                          rcases hx with rfl | rfl <;> simp [std19] at e') (by simp) (by simp) (fun a b _ _ e => by
                          have q := growS_fst (B := 14) (t := 17) (n := E.length) (i := a)
                          have e' := congrArg (·.1) e
                          simp only [std19] at e'; omega)
                      have s13 := renTo_ok (p := (207, 0)) (q := (13, 0)) hok7 (by simp) (by simp)
                      have s15 := renTo_ok (p := (18, 0)) (q := (15, 0)) hok7 (by simp) (by simp)
                      have u := outs_grow (B := 14) (t := 17) (LL := E) (xs := pv)
                      rw [hpl] at u
                      have w1 : (outsS (growS 14 17 E.length) (E ++ [pv])).map (renAt (renTo ([((207, 0), (13, 0)), ((18, 0), (15, 0))] ++ (segR (growS 14 17 E.length) (E ++ [pv]).length 14 ++ segR std19 RR.length 16)))) = outs 14 0 (E ++ [pv]) := outsS_ren fun j hj => renTo_ok hok7 (by have q := growS_fst (B := 14) (t := 17) (n := E.length) (i := j); omega) (List.mem_append_right _ (List.mem_append_left _ (seg_mem hj)))
                      have w2 : (outs 19 0 RR).map (renAt (renTo ([((207, 0), (13, 0)), ((18, 0), (15, 0))] ++ (segR (growS 14 17 E.length) (E ++ [pv]).length 14 ++ segR std19 RR.length 16)))) = outs 16 0 RR := by
                        rw [outs_S]; exact outsS_ren fun j hj => renTo_ok (p := (19, 0 + j)) hok7 (by simp) (List.mem_append_right _ (List.mem_append_right _ (seg_mem (src := std19) hj)))
                      refine LoopNext.intro (c + 1) (by omega) (by omega) ⟨[((207, 0), (13, 0)), ((18, 0), (15, 0))] ++ (segR (growS 14 17 E.length) (E ++ [pv]).length 14 ++ segR std19 RR.length 16), hok7, ?_, ?_⟩
                      · simp only [wkEnv]
                        generalize renTo ([((207, 0), (13, 0)), ((18, 0), (15, 0))] ++ (segR (growS 14 17 E.length) (E ++ [pv]).length 14 ++ segR std19 RR.length 16)) = τ at s13 s15 ⊢
                        simp [lk, renV, renAt, s13, s15, wc, hN3, hEl]
                      · have hne : (E ++ [pv]).isEmpty = false := by simp
                        rw [hN3]
                        simp only [wkMem, rdM, hne]
                        rw [ms1_ren renTo_zero, wk_two (L1 := E ++ [pv]) (L2 := RR) rfl rfl (fun j hj => by
                            unfold growS
                            by_cases e : j < E.length
                            · rw [if_pos e]
                              have q := rdL_14 (D := E) (R := R) (b := false) e
                              simp only [Nat.zero_add] at q ⊢
                              simp [Mem.get, assoc, assoc_rbag_ne, q, at_app, show ¬ j = E.length by omega]
                            · rw [if_neg e]
                              obtain rfl : j = E.length := by simp at hj; omega
                              simp [Mem.get, assoc, at_app, ib, hpl]) (fun j hj => by
                            have q := assoc_rbag_in (a := 19) (k := 0) (i := j) (LL := RR) (r := rdL E R false) hj
                            simp only [Nat.zero_add, std19] at q ⊢
                            simp [Mem.get, assoc, q]), u]
                        generalize renTo ([((207, 0), (13, 0)), ((18, 0), (15, 0))] ++ (segR (growS 14 17 E.length) (E ++ [pv]).length 14 ++ segR std19 RR.length 16)) = τ at w1 w2 ⊢
                        rw [hEl] at w1
                        simp [wkLoc, Mem.get, assoc, renBlk, renSegs, renSg, w1, w2, rdL, bagA, hEl, show outsS (srcA false) RR = outs 16 0 RR from outs_S.symm]
            · simp only [absE, absL, absF, reduceCtorEq, ↓reduceIte, Nat.reduceEqDiff, Nat.reduceAdd, Nat.reduceLT, Nat.reduceMul, Nat.reduceSub, Nat.reduceLeDiff, Int.reduceLT, Int.reduceLE, Int.reduceEq, Option.isSome_some, implies_true, false_implies, Prod.mk.injEq, ne_eq, not_false_eq_true, not_true_eq_false, ge_iff_le, gt_iff_lt, Int.toNat_natCast, Int.reduceToNat, Int.cast_ofNat_Int, Int.natCast_nonneg, hjk, hkk, h1, hkR2, v1, o1, q, hcL, hcL2, g1, hL8, mL]
              repeat refine And.intro (by decide +kernel) ?_
              refine CallsX.none (l10Inverse_ok p _ hp hz (ra c)) ?_
              simp only [absE, absL, absF, reduceCtorEq, ↓reduceIte, Nat.reduceEqDiff, Nat.reduceAdd, Nat.reduceLT, Nat.reduceMul, Nat.reduceSub, Nat.reduceLeDiff, Int.reduceLT, Int.reduceLE, Int.reduceEq, Option.isSome_some, implies_true, false_implies, Prod.mk.injEq, ne_eq, not_false_eq_true, not_true_eq_false, ge_iff_le, gt_iff_lt, Int.toNat_natCast, Int.reduceToNat, Int.cast_ofNat_Int, Int.natCast_nonneg]
              repeat refine And.intro (by decide +kernel) ?_
              refine CallsX.args [(215, 0), (16, k)] (l10AddS_ok L p (List.replicate L 0) (at_ R k) (invF p ((at_ R k).getD c 0)) hL hp (zrow_rng hp) ra ⟨by omega, hi2⟩) (by simp) (by simp [Mem.get, assoc, q]) (by simp [renVs, renV, renAt, renIn, idx]) (by simp [argBlks, Mem.get, assoc, q, renBlk, renSegs, renSg]) ?_
              simp only [absE, absL, absF, reduceCtorEq, ↓reduceIte, Nat.reduceEqDiff, Nat.reduceAdd, Nat.reduceLT, Nat.reduceMul, Nat.reduceSub, Nat.reduceLeDiff, Int.reduceLT, Int.reduceLE, Int.reduceEq, Option.isSome_some, implies_true, false_implies, Prod.mk.injEq, ne_eq, not_false_eq_true, not_true_eq_false, ge_iff_le, gt_iff_lt, Int.toNat_natCast, Int.reduceToNat, Int.cast_ofNat_Int, Int.natCast_nonneg, q]
              refine And.intro (chk_w (l := [13, 12, 11, 10, 9, 8, 7, 6, 5, 4, 3, 2, 1, 0]) rfl (by decide +kernel)) ?_
              have hpl : (addS p (List.replicate L 0) (at_ R k) (invF p ((at_ R k).getD c 0)) L).length = L := addS_len
              have hpr : RngP p (addS p (List.replicate L 0) (at_ R k) (invF p ((at_ R k).getD c 0)) L) := addS_rng hp.le.1
              have hN2 : redN p L c D R = (eldL p c L (addS p (List.replicate L 0) (at_ R k) (invF p ((at_ R k).getD c 0)) L) D D.length ++ [addS p (List.replicate L 0) (at_ R k) (invF p ((at_ R k).getD c 0)) L], remL p c L (addS p (List.replicate L 0) (at_ R k) (invF p ((at_ R k).getD c 0)) L) k R R.length) := by
                unfold redN; rw [hk, if_pos hkR]; rfl
              generalize addS p (List.replicate L 0) (at_ R k) (invF p ((at_ R k).getD c 0)) L = pv at hpl hpr hN2 ⊢
              refine awpLoop.intro (fun j : Nat => [(0, .i .i64 p), (2, .i .i64 w), (8, .ref (.sl 15 0 0 0 R.length 1)), (9, .ref (.sl 13 0 0 0 D.length 1)), (10, .i .i64 c), (11, .i .i64 k), (14, .ref (.sl 17 0 0 0 L 1)), (15, .ref (.sl 18 0 0 0 (remL p c L pv k R j).length 1)), (16, .i .i64 j)]) (fun j => ⟨ms1 rows, ((17, 0), .lv true [(0, .ints .i64 L pv)]) :: ((18, 0), .lv true [(0, .cells (remL p c L pv k R j).length (outs 19 0 (remL p c L pv k R j)))]) :: (rbag 19 0 (remL p c L pv k R j) ++ rdL D R false), 200⟩)
                (fun j => j ≤ R.length) (fun j => R.length - j) 0 (by omega) ⟨[((232, 0), (17, 0)), ((234, 0), (18, 0))] ++ segR stdS ([] : LLs).length 19 ++ keepG stdS (13, 0) D.length false R, keep0_ok (by simp [wkOk]) (by simp), ?_, ?_⟩ ?_
              · simp [wkEnv, lk, renV, renAt, renTo, keepG, remL, segR, rids]
              · simp only [wkMem, remL]
                rw [ms1_ren renTo_zero, keep4_wk (keep0_ok (by simp [wkOk]) (by simp)) (fun _ _ => by simp [stdS]) (fun j hj => absurd hj (by simp)) (by
                    have e : stdS = fun j => (14, j) := by funext j; simp [stdS]
                    simp [Mem.get, assoc, e, outs_S]) (by simp [Mem.get, assoc]) (fun j hj => by
                    simp only [Mem.get, assoc, stdS]; simp
                    have q := assoc_rbag_in (a := 14) (k := 0) (i := j) (LL := D) (r := rbag 16 0 R) hj
                    rwa [Nat.zero_add] at q) (fun j hj => by
                    have q' := assoc_rbag_in' (a := 16) (k := 0) (i := j) (LL := R) hj
                    have q2 := assoc_rbag_ne (a := 14) (k := 0) (b := 16) (j := j) (LL := D) (r := rbag 16 0 R) (by decide)
                    rw [Nat.zero_add] at q'
                    simp only [Mem.get, assoc]
                    by_cases e : k = j
                    · subst e; simp [bagA, ib, la]
                    · simp [e, q2, q', bagA])]
                simp [wkLoc, Mem.get, assoc, renBlk, renSegs, renSg, rbag_nil, outs_nil]
              · intro j hj
                by_cases h2 : (j : Int) < R.length
                · have hjR : j < R.length := by omega
                  have wj := wrap_i64s (show j < 2 ^ 62 by omega)
                  have hst : remL p c L pv k R (j + 1) = if j = k then remL p c L pv k R j else remL p c L pv k R j ++ [elS p c L pv (at_ R j)] := rfl
                  have hrl : (remL p c L pv k R j).length ≤ j := remL_len
                  by_cases hjk2 : (j : Int) = k
                  · rw [if_pos (by omega)] at hst
                    generalize remL p c L pv k R j = RR at hst hrl ⊢
                    simp only [absE, absL, absF, reduceCtorEq, ↓reduceIte, Nat.reduceEqDiff, Nat.reduceAdd, Nat.reduceLT, Nat.reduceMul, Nat.reduceSub, Nat.reduceLeDiff, Int.reduceLT, Int.reduceLE, Int.reduceEq, Option.isSome_some, implies_true, false_implies, Prod.mk.injEq, ne_eq, not_false_eq_true, not_true_eq_false, ge_iff_le, gt_iff_lt, Int.toNat_natCast, Int.reduceToNat, Int.cast_ofNat_Int, Int.natCast_nonneg, h2, hkR2, hjk2]
                    have hok := keep19_ok (A := [((17, 0), (17, 0)), ((18, 0), (18, 0))]) (b := false) (D := D) (R := R) (n := RR.length) (by simp [wkOk]) (by simp)
                    have r13 := renTo_ok (p := (13, 0)) (q := (13, 0)) hok (by simp) (by simp [keepG])
                    have r15 := renTo_ok (p := (15, 0)) (q := (15, 0)) hok (by simp) (by simp [keepG])
                    have r17 := renTo_ok (p := (17, 0)) (q := (17, 0)) hok (by simp) (by simp [keepG])
                    have r18 := renTo_ok (p := (18, 0)) (q := (18, 0)) hok (by simp) (by simp [keepG])
                    have r4 := ren4 (RR := RR) hok (fun _ _ => by simp [std19])
                    have hm19 := mem19 (pre := [((17, 0), .lv true [(0, .ints .i64 L pv)]), ((18, 0), .lv true [(0, .cells RR.length (outs 19 0 RR))])]) (RR := RR) (D := D) (R := R) (b := false) (args := ms1 rows) (n := 210) (by simp)
                    have hkm := keep4_wk (RR := RR) hok (fun _ _ => by simp [stdS]) hm19.1 hm19.2.1 hm19.2.2.1 hm19.2.2.2.1 hm19.2.2.2.2
                    rw [show outsS std19 RR = outs 19 0 RR from outs_S.symm] at r4
                    refine LoopNext.intro (j + 1) (by omega) (by omega) ⟨[((17, 0), (17, 0)), ((18, 0), (18, 0))] ++ segR std19 RR.length 19 ++ keepG stdS (13, 0) D.length false R, hok, ?_, ?_⟩
                    · simp only [wkEnv]
                      generalize renTo ([((17, 0), (17, 0)), ((18, 0), (18, 0))] ++ segR std19 RR.length 19 ++ keepG stdS (13, 0) D.length false R) = τ at r13 r15 r17 r18 ⊢
                      simp [lk, renV, renAt, r13, r15, r17, r18, hst, ← hjk2, wj]
                    · simp only [wkMem]
                      rw [ms1_ren renTo_zero, hst]
                      refine congrArg (fun x => Mem.mk (ms1 rows) x 200) (Eq.trans ?_ hkm.symm)
                      generalize renTo ([((17, 0), (17, 0)), ((18, 0), (18, 0))] ++ segR std19 RR.length 19 ++ keepG stdS (13, 0) D.length false R) = τ at r4 ⊢
                      simp [wkLoc, Mem.get, assoc, renBlk, renSegs, renSg, r4]
                  · rw [if_neg (by omega)] at hst
                    generalize remL p c L pv k R j = RR at hst hrl ⊢
                    have hmj : at_ R j ∈ R := by rw [at_lt hjR]; exact List.getElem_mem _
                    have laj := hM.len (at_ R j) (by simp [hmj])
                    have raj := hM.rng (at_ R j) (by simp [hmj])
                    have v1j : 0 + j * 1 < R.length := by omega
                    have o1j : (outsS (srcA false) R).getD (0 + j * 1) .top = .sl 16 j 0 0 L 1 := by rw [Nat.zero_add, Nat.mul_one, outsS_get hjR, laj]; simp [srcA]
                    have qj : assoc (rbag 19 0 RR ++ rdL D R false) 16 j = .lv true [(0, .ints .i64 L (at_ R j))] := by
                      rw [assoc_rbag_ne (by decide)]
                      have q := rdL_16 (D := D) (R := R) (b := false) (j := j) hjR
                      rw [Nat.zero_add] at q; rw [q, ib, show bagA false R = R from rfl, laj]
                    have q15 : assoc (rbag 19 0 RR ++ rdL D R false) 15 0 = .lv true [(0, .cells R.length (outsS (srcA false) R))] := by rw [assoc_rbag_ne (by decide), rdL_15]
                    have g1j : (at_ R j).getD (0 + c * 1) 0 = (at_ R j).getD c 0 := by rw [Nat.zero_add, Nat.mul_one]
                    have rc := raj c
                    have wn : IntKind.i64.wrap (0 - (at_ R j).getD c 0) = -((at_ R j).getD c 0) := by rw [Int.zero_sub]; exact wrap_i64 (by omega) (by omega)
                    have mR : RR.length * 1 = RR.length := Nat.mul_one _
                    simp only [absE, absL, absF, reduceCtorEq, ↓reduceIte, Nat.reduceEqDiff, Nat.reduceAdd, Nat.reduceLT, Nat.reduceMul, Nat.reduceSub, Nat.reduceLeDiff, Int.reduceLT, Int.reduceLE, Int.reduceEq, Option.isSome_some, implies_true, false_implies, Prod.mk.injEq, ne_eq, not_false_eq_true, not_true_eq_false, ge_iff_le, gt_iff_lt, Int.toNat_natCast, Int.reduceToNat, Int.cast_ofNat_Int, Int.natCast_nonneg, h2, hjk2, v1j, o1j, qj, q15, g1j, wn, hcL, hcL2, mR]
                    refine CallsX.args [(16, j), (17, 0)] (l10AddS_ok L p (at_ R j) pv (-((at_ R j).getD c 0)) hL hp raj hpr (by omega)) (by simp) (by simp [Mem.get, assoc, qj]) (by simp [renVs, renV, renAt, renIn, idx]) (by simp [argBlks, Mem.get, assoc, qj, renBlk, renSegs, renSg]) ?_
                    simp only [absE, absL, absF, reduceCtorEq, ↓reduceIte, Nat.reduceEqDiff, Nat.reduceAdd, Nat.reduceLT, Nat.reduceMul, Nat.reduceSub, Nat.reduceLeDiff, Int.reduceLT, Int.reduceLE, Int.reduceEq, Option.isSome_some, implies_true, false_implies, Prod.mk.injEq, ne_eq, not_false_eq_true, not_true_eq_false, ge_iff_le, gt_iff_lt, Int.toNat_natCast, Int.reduceToNat, Int.cast_ofNat_Int, Int.natCast_nonneg, qj, q15, mR]
                    refine And.intro (chk_m (l := [(13, false), (12, true), (11, true), (10, false), (9, true), (8, true), (7, true), (6, true), (5, false), (4, true), (3, true), (2, true), (1, true), (0, true)]) rfl (by decide +kernel)) (And.intro (chk_m (l := [(15, false), (14, true), (13, false), (12, true), (11, true), (10, false), (9, true), (8, true), (7, true), (6, true), (5, false), (4, true), (3, true), (2, true), (1, true), (0, true)]) rfl (by decide +kernel)) (And.intro (by omega) (And.intro (by omega) (And.intro (chk_m (l := [(16, false), (15, false), (14, true), (13, false), (12, true), (11, true), (10, false), (9, true), (8, true), (7, true), (6, true), (5, false), (4, true), (3, true), (2, true), (1, true), (0, true)]) rfl (by decide +kernel)) ?_))))
                    have hxl : (elS p c L pv (at_ R j)).length = L := addS_len
                    rw [show addS p (at_ R j) pv (-((at_ R j).getD c 0)) L = elS p c L pv (at_ R j) from rfl]
                    generalize elS p c L pv (at_ R j) = xs at hst hxl ⊢
                    have hok := grow19_ok (A := [((17, 0), (17, 0)), ((224, 0), (18, 0))]) (b := false) (D := D) (R := R) (n := RR.length) (t := 222) (by simp [wkOk]) (by decide) (by simp)
                    rw [← show (RR ++ [xs]).length = RR.length + 1 by simp] at hok
                    have r13 := renTo_ok (p := (13, 0)) (q := (13, 0)) hok (by simp) (by simp [keepG])
                    have r15 := renTo_ok (p := (15, 0)) (q := (15, 0)) hok (by simp) (by simp [keepG])
                    have r17 := renTo_ok (p := (17, 0)) (q := (17, 0)) hok (by simp) (by simp [keepG])
                    have r18 := renTo_ok (p := (224, 0)) (q := (18, 0)) hok (by simp) (by simp [keepG])
                    have r4 := ren4 (RR := RR ++ [xs]) hok (fun i _ => by have q := growS_fst (B := 19) (t := 222) (n := RR.length) (i := i); omega)
                    rw [← outs_grow, hxl] at r4
                    refine LoopNext.intro (j + 1) (by omega) (by omega) ⟨[((17, 0), (17, 0)), ((224, 0), (18, 0))] ++ segR (growS 19 222 RR.length) (RR ++ [xs]).length 19 ++ keepG stdS (13, 0) D.length false R, hok, ?_, ?_⟩
                    · simp only [wkEnv]
                      generalize renTo ([((17, 0), (17, 0)), ((224, 0), (18, 0))] ++ segR (growS 19 222 RR.length) (RR ++ [xs]).length 19 ++ keepG stdS (13, 0) D.length false R) = τ at r13 r15 r17 r18 ⊢
                      simp [lk, renV, renAt, r13, r15, r17, r18, hst, wj]
                    · simp only [wkMem]
                      rw [ms1_ren renTo_zero, hst, keep4_wk (RR := RR ++ [xs]) hok (fun _ _ => by simp [stdS]) (fun i hi => by
                          unfold growS
                          by_cases e : i < RR.length
                          · rw [if_pos e]
                            have q := assoc_rbag_in (a := 19) (k := 0) (i := i) (LL := RR) (r := rdL D R false) e
                            simp only [Nat.zero_add] at q ⊢
                            simp [Mem.get, assoc, q, at_app, show ¬ i = RR.length by omega]
                          · rw [if_neg e]
                            obtain rfl : i = RR.length := by simp at hi; omega
                            simp [Mem.get, assoc, at_app, ib, hxl]) (by
                          have q := rdL_13 (D := D) (R := R) (b := false)
                          simp [Mem.get, assoc, assoc_rbag_ne, q]) (by simp [Mem.get, assoc, q15]) (fun i hi => by
                          have q := rdL_14 (D := D) (R := R) (b := false) hi
                          simp only [Nat.zero_add, stdS] at q ⊢
                          simp [Mem.get, assoc, assoc_rbag_ne, q]) (fun i hi => by
                          have q := rdL_16 (D := D) (R := R) (b := false) hi
                          simp only [Nat.zero_add] at q ⊢
                          by_cases e : j = i
                          · subst e; simp [Mem.get, assoc, bagA, ib, laj]
                          · simp [Mem.get, assoc, assoc_rbag_ne, q, e])]
                      generalize renTo ([((17, 0), (17, 0)), ((224, 0), (18, 0))] ++ segR (growS 19 222 RR.length) (RR ++ [xs]).length 19 ++ keepG stdS (13, 0) D.length false R) = τ at r4 ⊢
                      simp only [List.map_append, List.map_cons, List.map_nil] at r4
                      simp [wkLoc, Mem.get, assoc, renBlk, renSegs, renSg, r4]
                · obtain rfl : j = R.length := by omega
                  have q13 : assoc (rbag 19 0 (remL p c L pv k R R.length) ++ rdL D R false) 13 0 = .lv true [(0, .cells D.length (outs 14 0 D))] := by rw [assoc_rbag_ne (by decide), rdL_13]; rw [outs_S]; rfl
                  simp only [absE, absL, absF, reduceCtorEq, ↓reduceIte, Nat.reduceEqDiff, Nat.reduceAdd, Nat.reduceLT, Nat.reduceMul, Nat.reduceSub, Nat.reduceLeDiff, Int.reduceLT, Int.reduceLE, Int.reduceEq, Option.isSome_some, implies_true, false_implies, Prod.mk.injEq, ne_eq, not_false_eq_true, not_true_eq_false, ge_iff_le, gt_iff_lt, Int.toNat_natCast, Int.reduceToNat, Int.cast_ofNat_Int, Int.natCast_nonneg, h2]
                  have hRl : (remL p c L pv k R R.length).length ≤ R.length := remL_len
                  generalize remL p c L pv k R R.length = RR at hN2 hRl q13 ⊢
                  have hok := keep19_ok (A := [((17, 0), (17, 0)), ((18, 0), (18, 0))]) (b := false) (D := D) (R := R) (n := RR.length) (by simp [wkOk]) (by simp)
                  have r13 := renTo_ok (p := (13, 0)) (q := (13, 0)) hok (by simp) (by simp [keepG])
                  have r17 := renTo_ok (p := (17, 0)) (q := (17, 0)) hok (by simp) (by simp [keepG])
                  have r18 := renTo_ok (p := (18, 0)) (q := (18, 0)) hok (by simp) (by simp [keepG])
                  have r4 := ren4 (RR := RR) hok (fun _ _ => by simp [std19])
                  have hm19 := mem19 (pre := [((17, 0), .lv true [(0, .ints .i64 L pv)]), ((18, 0), .lv true [(0, .cells RR.length (outs 19 0 RR))])]) (RR := RR) (D := D) (R := R) (b := false) (args := ms1 rows) (n := 205) (by simp)
                  have hkm := keep4_wk (RR := RR) hok (fun _ _ => by simp [stdS]) hm19.1 hm19.2.1 hm19.2.2.1 hm19.2.2.2.1 hm19.2.2.2.2
                  rw [show outsS std19 RR = outs 19 0 RR from outs_S.symm] at r4
                  refine awpLoop.intro (fun j : Nat => [(0, .i .i64 p), (2, .i .i64 w), (9, .ref (.sl 13 0 0 0 D.length 1)), (10, .i .i64 c), (14, .ref (.sl 17 0 0 0 L 1)), (15, .ref (.sl 18 0 0 0 RR.length 1)), (17, .i .i64 j)]) (fun j => ⟨ms1 rows, ((17, 0), .lv true [(0, .ints .i64 L pv)]) :: ((18, 0), .lv true [(0, .cells RR.length (outs 19 0 RR))]) :: (rbag 19 0 RR ++ rdL (eldL p c L pv D j) R false), 200⟩)
                    (fun j => j ≤ D.length) (fun j => D.length - j) 0 (by omega) ⟨[((17, 0), (17, 0)), ((18, 0), (18, 0))] ++ segR std19 RR.length 19 ++ keepG stdS (13, 0) D.length false R, hok, ?_, ?_⟩ ?_
                  · simp only [wkEnv]
                    generalize renTo ([((17, 0), (17, 0)), ((18, 0), (18, 0))] ++ segR std19 RR.length 19 ++ keepG stdS (13, 0) D.length false R) = τ at r13 r17 r18 ⊢
                    simp [lk, renV, renAt, r13, r17, r18]
                  · simp only [wkMem]
                    rw [ms1_ren renTo_zero, eldL_zero]
                    refine congrArg (fun x => Mem.mk (ms1 rows) x 200) (Eq.trans ?_ hkm.symm)
                    generalize renTo ([((17, 0), (17, 0)), ((18, 0), (18, 0))] ++ segR std19 RR.length 19 ++ keepG stdS (13, 0) D.length false R) = τ at r4 ⊢
                    simp [wkLoc, Mem.get, assoc, renBlk, renSegs, renSg, r4]
                  · intro i hi
                    have hEl : (eldL p c L pv D i).length = D.length := eldL_len
                    by_cases h3 : (i : Int) < D.length
                    · have hiD : i < D.length := by omega
                      have wi := wrap_i64s (show i < 2 ^ 62 by omega)
                      have hst := eldL_next (p := p) (c := c) (L := L) (b := pv) hiD
                      have hat : at_ (eldL p c L pv D i) i = at_ D i := by rw [eldL_at hiD, if_neg (by omega)]
                      generalize eldL p c L pv D i = E at hEl hst hat ⊢
                      have hmi : at_ D i ∈ D := by rw [at_lt hiD]; exact List.getElem_mem _
                      have lai := hM.len (at_ D i) (by simp [hmi])
                      have rai := hM.rng (at_ D i) (by simp [hmi])
                      have v1i : 0 + i * 1 < D.length := by omega
                      have o1i : (outs 14 0 E).getD (0 + i * 1) .top = .sl 14 i 0 0 L 1 := by rw [Nat.zero_add, Nat.mul_one, outs_get (by omega), hat, lai, Nat.zero_add]
                      have q13i : assoc (rbag 19 0 RR ++ rdL E R false) 13 0 = .lv true [(0, .cells D.length (outs 14 0 E))] := by rw [assoc_rbag_ne (by decide), rdL_13, hEl, outs_S]; rfl
                      have qi : assoc (rbag 19 0 RR ++ rdL E R false) 14 i = .lv true [(0, .ints .i64 L (at_ D i))] := by
                        rw [assoc_rbag_ne (by decide)]
                        have q := rdL_14 (D := E) (R := R) (b := false) (j := i) (by omega)
                        rw [Nat.zero_add] at q; rw [q, ib, hat, lai]
                      have g1i : (at_ D i).getD (0 + c * 1) 0 = (at_ D i).getD c 0 := by rw [Nat.zero_add, Nat.mul_one]
                      have rc := rai c
                      have wn : IntKind.i64.wrap (0 - (at_ D i).getD c 0) = -((at_ D i).getD c 0) := by rw [Int.zero_sub]; exact wrap_i64 (by omega) (by omega)
                      simp only [absE, absL, absF, reduceCtorEq, ↓reduceIte, Nat.reduceEqDiff, Nat.reduceAdd, Nat.reduceLT, Nat.reduceMul, Nat.reduceSub, Nat.reduceLeDiff, Int.reduceLT, Int.reduceLE, Int.reduceEq, Option.isSome_some, implies_true, false_implies, Prod.mk.injEq, ne_eq, not_false_eq_true, not_true_eq_false, ge_iff_le, gt_iff_lt, Int.toNat_natCast, Int.reduceToNat, Int.cast_ofNat_Int, Int.natCast_nonneg, h3, v1i, o1i, q13i, qi, g1i, wn, hcL, hcL2]
                      refine CallsX.args [(14, i), (17, 0)] (l10AddS_ok L p (at_ D i) pv (-((at_ D i).getD c 0)) hL hp rai hpr (by omega)) (by simp) (by simp [Mem.get, assoc, qi]) (by simp [renVs, renV, renAt, renIn, idx]) (by simp [argBlks, Mem.get, assoc, qi, renBlk, renSegs, renSg]) ?_
                      simp only [absE, absL, absF, reduceCtorEq, ↓reduceIte, Nat.reduceEqDiff, Nat.reduceAdd, Nat.reduceLT, Nat.reduceMul, Nat.reduceSub, Nat.reduceLeDiff, Int.reduceLT, Int.reduceLE, Int.reduceEq, Option.isSome_some, implies_true, false_implies, Prod.mk.injEq, ne_eq, not_false_eq_true, not_true_eq_false, ge_iff_le, gt_iff_lt, Int.toNat_natCast, Int.reduceToNat, Int.cast_ofNat_Int, Int.natCast_nonneg, qi, q13i, v1i]
                      refine And.intro (chk_m (l := [(14, false), (13, true), (12, true), (11, false), (10, true), (9, true), (8, true), (7, true), (6, false), (5, true), (4, true), (3, true), (2, true), (1, true), (0, true)]) rfl (by decide +kernel)) (And.intro (by omega) ?_)
                      have hxl : (elS p c L pv (at_ D i)).length = L := addS_len
                      rw [show addS p (at_ D i) pv (-((at_ D i).getD c 0)) L = elS p c L pv (at_ D i) from rfl]
                      generalize elS p c L pv (at_ D i) = xs at hst hxl ⊢
                      have u : (outs 14 0 E).set (0 + i * 1) (.sl 220 0 0 0 L 1) = outsS (swapS 14 220 i) (E.set i xs) := by
                        rw [Nat.zero_add, Nat.mul_one, ← outs_swap (by omega), hxl]
                      have e1 : 1 = D.length → [(.sl 220 0 0 0 L 1 : Atom)] = outsS (swapS 14 220 i) (E.set i xs) := fun e => by
                        rw [← u]
                        have l1 : (outs 14 0 E).length = 1 := by rw [outs_len]; omega
                        have i0 : 0 + i * 1 = 0 := by omega
                        rw [i0]
                        generalize outs 14 0 E = o at l1 ⊢
                        match o, l1 with
                        | [v], _ => rfl
                      have hok6 : wkOk ([((17, 0), (17, 0)), ((18, 0), (18, 0))] ++ segR std19 RR.length 19 ++ keepG (swapS 14 220 i) (13, 0) (E.set i xs).length false R) 200 = true := keep4_ok (by simp [wkOk]) stdS_inj (fun a b _ _ h => swapS_inj (by decide) a b h) (fun j hj => ⟨by simp [std19], by simp [std19], by simp [std19], by simp [std19], by simp [std19]⟩) (fun j hj => by
                          have q := swapS_fst (B := 14) (t := 220) (n := i) (i := j)
                          refine ⟨by omega, by omega, by omega, by simp only; omega, fun x hx e => ?_⟩
                          simp only [List.mem_cons, List.not_mem_nil, or_false] at hx
                          rcases hx with rfl | rfl <;> simp only at e <;> omega) (by decide) (by decide) (by simp) (by simp) (fun a b _ _ => by
                          have q := swapS_fst (B := 14) (t := 220) (n := i) (i := b)
                          simp only [std19]; omega)
                      have s13 := renTo_ok (p := (13, 0)) (q := (13, 0)) hok6 (by simp) (by simp [keepG])
                      have s17 := renTo_ok (p := (17, 0)) (q := (17, 0)) hok6 (by simp) (by simp [keepG])
                      have s18 := renTo_ok (p := (18, 0)) (q := (18, 0)) hok6 (by simp) (by simp [keepG])
                      have r46 := ren4 (RR := RR) hok6 (fun _ _ => by simp [std19])
                      rw [show outsS std19 RR = outs 19 0 RR from outs_S.symm] at r46
                      by_cases h1' : 1 = D.length
                      · rw [if_pos h1']
                        refine And.intro (by omega) (And.intro (chk_m (l := [(16, false), (15, true), (14, false), (13, true), (12, true), (11, false), (10, true), (9, true), (8, true), (7, true), (6, false), (5, true), (4, true), (3, true), (2, true), (1, true), (0, true)]) rfl (by decide +kernel)) ?_)
                        rw [e1 h1']
                        refine LoopNext.intro (i + 1) (by omega) (by omega) ⟨[((17, 0), (17, 0)), ((18, 0), (18, 0))] ++ segR std19 RR.length 19 ++ keepG (swapS 14 220 i) (13, 0) (E.set i xs).length false R, hok6, ?_, ?_⟩
                        · simp only [wkEnv]
                          generalize renTo ([((17, 0), (17, 0)), ((18, 0), (18, 0))] ++ segR std19 RR.length 19 ++ keepG (swapS 14 220 i) (13, 0) (E.set i xs).length false R) = τ at s13 s17 s18 ⊢
                          simp [lk, renV, renAt, s13, s17, s18, wi]
                        · simp only [wkMem]
                          rw [ms1_ren renTo_zero, hst, keep4_wk (RR := RR) hok6 (fun j _ => by have q := swapS_fst (B := 14) (t := 220) (n := i) (i := j); omega) (fun j hj => by
                              have q := assoc_rbag_in (a := 19) (k := 0) (i := j) (LL := RR) (r := rdL E R false) hj
                              simp only [Nat.zero_add, std19] at q ⊢
                              simp [Mem.get, assoc, q]) (by simp [Mem.get, assoc, hEl]) (by
                              have q := rdL_15 (D := E) (R := R) (b := false)
                              simp [Mem.get, assoc, assoc_rbag_ne, q]) (fun j hj => by
                              have hjE : j < E.length := by simpa using hj
                              rw [at_set (by omega)]
                              unfold swapS
                              by_cases e : j = i
                              · rw [if_pos e, if_pos e]; simp [Mem.get, assoc, ib, hxl]
                              · rw [if_neg e, if_neg e]
                                have q := rdL_14 (D := E) (R := R) (b := false) hjE
                                simp only [Nat.zero_add] at q ⊢
                                simp [Mem.get, assoc, assoc_rbag_ne, q, show ¬ i = j from fun h => e h.symm]) (fun j hj => by
                              have q := rdL_16 (D := E) (R := R) (b := false) hj
                              simp only [Nat.zero_add] at q ⊢
                              simp [Mem.get, assoc, assoc_rbag_ne, q])]
                          generalize renTo ([((17, 0), (17, 0)), ((18, 0), (18, 0))] ++ segR std19 RR.length 19 ++ keepG (swapS 14 220 i) (13, 0) (E.set i xs).length false R) = τ at r46 ⊢
                          simp [wkLoc, Mem.get, assoc, renBlk, renSegs, renSg, r46]
                      · rw [if_neg h1']
                        refine And.intro (by omega) ?_
                        refine And.intro (chk_m (l := [(16, false), (15, true), (14, false), (13, true), (12, true), (11, false), (10, true), (9, true), (8, true), (7, true), (6, false), (5, true), (4, true), (3, true), (2, true), (1, true), (0, true)]) rfl (by decide +kernel)) ?_
                        rw [u]
                        refine LoopNext.intro (i + 1) (by omega) (by omega) ⟨[((17, 0), (17, 0)), ((18, 0), (18, 0))] ++ segR std19 RR.length 19 ++ keepG (swapS 14 220 i) (13, 0) (E.set i xs).length false R, hok6, ?_, ?_⟩
                        · simp only [wkEnv]
                          generalize renTo ([((17, 0), (17, 0)), ((18, 0), (18, 0))] ++ segR std19 RR.length 19 ++ keepG (swapS 14 220 i) (13, 0) (E.set i xs).length false R) = τ at s13 s17 s18 ⊢
                          simp [lk, renV, renAt, s13, s17, s18, wi]
                        · simp only [wkMem]
                          rw [ms1_ren renTo_zero, hst, keep4_wk (RR := RR) hok6 (fun j _ => by have q := swapS_fst (B := 14) (t := 220) (n := i) (i := j); omega) (fun j hj => by
                              have q := assoc_rbag_in (a := 19) (k := 0) (i := j) (LL := RR) (r := rdL E R false) hj
                              simp only [Nat.zero_add, std19] at q ⊢
                              simp [Mem.get, assoc, q]) (by simp [Mem.get, assoc, hEl]) (by
                              have q := rdL_15 (D := E) (R := R) (b := false)
                              simp [Mem.get, assoc, assoc_rbag_ne, q]) (fun j hj => by
                              have hjE : j < E.length := by simpa using hj
                              rw [at_set (by omega)]
                              unfold swapS
                              by_cases e : j = i
                              · rw [if_pos e, if_pos e]; simp [Mem.get, assoc, ib, hxl]
                              · rw [if_neg e, if_neg e]
                                have q := rdL_14 (D := E) (R := R) (b := false) hjE
                                simp only [Nat.zero_add] at q ⊢
                                simp [Mem.get, assoc, assoc_rbag_ne, q, show ¬ i = j from fun h => e h.symm]) (fun j hj => by
                              have q := rdL_16 (D := E) (R := R) (b := false) hj
                              simp only [Nat.zero_add] at q ⊢
                              simp [Mem.get, assoc, assoc_rbag_ne, q])]
                          generalize renTo ([((17, 0), (17, 0)), ((18, 0), (18, 0))] ++ segR std19 RR.length 19 ++ keepG (swapS 14 220 i) (13, 0) (E.set i xs).length false R) = τ at r46 ⊢
                          simp [wkLoc, Mem.get, assoc, renBlk, renSegs, renSg, r46]
                    · obtain rfl : i = D.length := by omega
                      have mD : D.length * 1 = D.length := Nat.mul_one _
                      generalize eldL p c L pv D D.length = E at hEl hN2 ⊢
                      have q13i : assoc (rbag 19 0 RR ++ rdL E R false) 13 0 = .lv true [(0, .cells D.length (outs 14 0 E))] := by rw [assoc_rbag_ne (by decide), rdL_13, hEl, outs_S]; rfl
                      simp only [absE, absL, absF, reduceCtorEq, ↓reduceIte, Nat.reduceEqDiff, Nat.reduceAdd, Nat.reduceLT, Nat.reduceMul, Nat.reduceSub, Nat.reduceLeDiff, Int.reduceLT, Int.reduceLE, Int.reduceEq, Option.isSome_some, implies_true, false_implies, Prod.mk.injEq, ne_eq, not_false_eq_true, not_true_eq_false, ge_iff_le, gt_iff_lt, Int.toNat_natCast, Int.reduceToNat, Int.cast_ofNat_Int, Int.natCast_nonneg, h3, q13i, mD]
                      refine And.intro (by omega) (And.intro (by omega) ?_)
                      have hN3 : redS p L rows (c + 1) = (E ++ [pv], RR) := by rw [hNext, hN2]
                      have hok7 : wkOk ([((207, 0), (13, 0)), ((18, 0), (15, 0))] ++ (segR (growS 14 17 E.length) (E ++ [pv]).length 14 ++ segR std19 RR.length 16)) 200 = true := ok_two (by simp [wkOk]) (fun a b ha hb => growS_inj (by decide) a b (by simpa using ha) (by simpa using hb)) stdS_inj (fun a _ => by have q := growS_fst (B := 14) (t := 17) (n := E.length) (i := a); omega) (fun _ _ => by simp [std19]) (by decide) (by decide) (by decide) (by decide) (by decide)
                        (fun x hx a _ e => by
                          have q := growS_fst (B := 14) (t := 17) (n := E.length) (i := a)
                          have e' := congrArg (·.1) e
                          simp only [List.mem_cons, List.not_mem_nil, or_false] at hx
                          rcases hx with rfl | rfl <;> simp only at e' <;> omega) (fun x hx a _ e => by
                          have e' := congrArg (·.1) e
                          simp only [List.mem_cons, List.not_mem_nil, or_false] at hx
                          rcases hx with rfl | rfl <;> simp [std19] at e') (by simp) (by simp) (fun a b _ _ e => by
                          have q := growS_fst (B := 14) (t := 17) (n := E.length) (i := a)
                          have e' := congrArg (·.1) e
                          simp only [std19] at e'; omega)
                      have s13 := renTo_ok (p := (207, 0)) (q := (13, 0)) hok7 (by simp) (by simp)
                      have s15 := renTo_ok (p := (18, 0)) (q := (15, 0)) hok7 (by simp) (by simp)
                      have u := outs_grow (B := 14) (t := 17) (LL := E) (xs := pv)
                      rw [hpl] at u
                      have w1 : (outsS (growS 14 17 E.length) (E ++ [pv])).map (renAt (renTo ([((207, 0), (13, 0)), ((18, 0), (15, 0))] ++ (segR (growS 14 17 E.length) (E ++ [pv]).length 14 ++ segR std19 RR.length 16)))) = outs 14 0 (E ++ [pv]) := outsS_ren fun j hj => renTo_ok hok7 (by have q := growS_fst (B := 14) (t := 17) (n := E.length) (i := j); omega) (List.mem_append_right _ (List.mem_append_left _ (seg_mem hj)))
                      have w2 : (outs 19 0 RR).map (renAt (renTo ([((207, 0), (13, 0)), ((18, 0), (15, 0))] ++ (segR (growS 14 17 E.length) (E ++ [pv]).length 14 ++ segR std19 RR.length 16)))) = outs 16 0 RR := by
                        rw [outs_S]; exact outsS_ren fun j hj => renTo_ok (p := (19, 0 + j)) hok7 (by simp) (List.mem_append_right _ (List.mem_append_right _ (seg_mem (src := std19) hj)))
                      refine LoopNext.intro (c + 1) (by omega) (by omega) ⟨[((207, 0), (13, 0)), ((18, 0), (15, 0))] ++ (segR (growS 14 17 E.length) (E ++ [pv]).length 14 ++ segR std19 RR.length 16), hok7, ?_, ?_⟩
                      · simp only [wkEnv]
                        generalize renTo ([((207, 0), (13, 0)), ((18, 0), (15, 0))] ++ (segR (growS 14 17 E.length) (E ++ [pv]).length 14 ++ segR std19 RR.length 16)) = τ at s13 s15 ⊢
                        simp [lk, renV, renAt, s13, s15, wc, hN3, hEl]
                      · have hne : (E ++ [pv]).isEmpty = false := by simp
                        rw [hN3]
                        simp only [wkMem, rdM, hne]
                        rw [ms1_ren renTo_zero, wk_two (L1 := E ++ [pv]) (L2 := RR) rfl rfl (fun j hj => by
                            unfold growS
                            by_cases e : j < E.length
                            · rw [if_pos e]
                              have q := rdL_14 (D := E) (R := R) (b := false) e
                              simp only [Nat.zero_add] at q ⊢
                              simp [Mem.get, assoc, assoc_rbag_ne, q, at_app, show ¬ j = E.length by omega]
                            · rw [if_neg e]
                              obtain rfl : j = E.length := by simp at hj; omega
                              simp [Mem.get, assoc, at_app, ib, hpl]) (fun j hj => by
                            have q := assoc_rbag_in (a := 19) (k := 0) (i := j) (LL := RR) (r := rdL E R false) hj
                            simp only [Nat.zero_add, std19] at q ⊢
                            simp [Mem.get, assoc, q]), u]
                        generalize renTo ([((207, 0), (13, 0)), ((18, 0), (15, 0))] ++ (segR (growS 14 17 E.length) (E ++ [pv]).length 14 ++ segR std19 RR.length 16)) = τ at w1 w2 ⊢
                        rw [hEl] at w1
                        simp [wkLoc, Mem.get, assoc, renBlk, renSegs, renSg, w1, w2, rdL, bagA, hEl, show outsS (srcA false) RR = outs 16 0 RR from outs_S.symm]
      · have em : rdM rows D R = ⟨ms1 rows, rdL D R true, 200⟩ := by unfold rdM; rw [hb]
        have he : D = [] := List.isEmpty_iff.1 hb
        have hRr : R = rows := by rw [← hR]; exact redS_nil (by rw [hD]; exact he)
        simp only [em]
        simp only [absE, absL, absF, reduceCtorEq, ↓reduceIte, Nat.reduceEqDiff, Nat.reduceAdd, Nat.reduceLT, Nat.reduceMul, Nat.reduceSub, Nat.reduceLeDiff, Int.reduceLT, Int.reduceLE, Int.reduceEq, Option.isSome_some, implies_true, false_implies, Prod.mk.injEq, ne_eq, not_false_eq_true, not_true_eq_false, ge_iff_le, gt_iff_lt, Int.toNat_natCast, Int.reduceToNat, Int.cast_ofNat_Int, Int.natCast_nonneg, hcw]
        have hkl := fnz_le (c := c) (R := R)
        generalize hk : fnz c R = k at hkl
        refine awpLoop.intro (fun j : Nat => [(0, .i .i64 p), (2, .i .i64 w), (8, .ref (.sl 15 0 0 0 R.length 1)), (9, .ref (.sl 13 0 0 0 D.length 1)), (10, .i .i64 c), (11, .i .i64 (if j ≤ k then -1 else (k : Int))), (12, .i .i64 j)]) (fun _ => ⟨ms1 rows, rdL D R true, 200⟩) (fun j => j ≤ k + 1 ∧ j ≤ R.length) (fun j => R.length - j) 0 (by omega) ⟨[] ++ keepG stdS (13, 0) D.length true R, keep_ok, ?_, keep_mem⟩ ?_
        · simp [wkEnv, lk, renV, renAt, renTo, keepG]
        · rintro j ⟨hj1, hj2⟩
          have wj := wrap_i64s (show j < 2 ^ 62 by omega)
          have hcL : (c : Int) < L := by omega
          have hcL2 : 0 + c * 1 < L := by omega
          by_cases hjk : j ≤ k
          · by_cases hjR : j < R.length
            · have h1 : (j : Int) < R.length := by omega
              have hmem : at_ R j ∈ R := by rw [at_lt hjR]; exact List.getElem_mem _
              have la := hM.len (at_ R j) (by simp [hmem])
              have v1 : 0 + j * 1 < R.length := by omega
              have o1 : (outsS (srcA true) R).getD (0 + j * 1) .top = .sl 0 (1 + j) 0 0 L 1 := by rw [Nat.zero_add, Nat.mul_one, outsS_get hjR, la]; simp [srcA]
              have q : (ms1 rows).getD (1 + j) .dead = .lv true [(0, .ints .i64 L (at_ R j))] := by
                rw [ms1_at (by rw [← hRr]; exact hjR), ib, ← hRr, la]
              have g1 : (at_ R j).getD (0 + c * 1) 0 = (at_ R j).getD c 0 := by rw [Nat.zero_add, Nat.mul_one]
              simp only [rdL, bagA]
              by_cases hz : (at_ R j).getD c 0 = 0
              · have hjk2 : j < k := by
                  apply Decidable.byContradiction; intro hn
                  obtain rfl : j = k := by omega
                  subst hk
                  exact fnz_at hjR hz
                simp only [absE, absL, absF, reduceCtorEq, ↓reduceIte, Nat.reduceEqDiff, Nat.reduceAdd, Nat.reduceLT, Nat.reduceMul, Nat.reduceSub, Nat.reduceLeDiff, Int.reduceLT, Int.reduceLE, Int.reduceEq, Option.isSome_some, implies_true, false_implies, Prod.mk.injEq, ne_eq, not_false_eq_true, not_true_eq_false, ge_iff_le, gt_iff_lt, Int.toNat_natCast, Int.reduceToNat, Int.cast_ofNat_Int, Int.natCast_nonneg, h1, hjk, v1, o1, q, hcL, hcL2, g1, hz]
                refine LoopNext.intro (j + 1) (by omega) (by omega) ⟨[] ++ keepG stdS (13, 0) D.length true R, keep_ok, ?_, ?_⟩
                · simp [wkEnv, lk, renV, renAt, renTo, keepG, wj, show j + 1 ≤ k by omega]
                · exact keep_mem
              · have hjk2 : j = k := by
                  apply Decidable.byContradiction; intro hn
                  exact hz (fnz_none (by omega))
                simp only [absE, absL, absF, reduceCtorEq, ↓reduceIte, Nat.reduceEqDiff, Nat.reduceAdd, Nat.reduceLT, Nat.reduceMul, Nat.reduceSub, Nat.reduceLeDiff, Int.reduceLT, Int.reduceLE, Int.reduceEq, Option.isSome_some, implies_true, false_implies, Prod.mk.injEq, ne_eq, not_false_eq_true, not_true_eq_false, ge_iff_le, gt_iff_lt, Int.toNat_natCast, Int.reduceToNat, Int.cast_ofNat_Int, Int.natCast_nonneg, h1, hjk, v1, o1, q, hcL, hcL2, g1, hz]
                refine LoopNext.intro (j + 1) (by omega) (by omega) ⟨[] ++ keepG stdS (13, 0) D.length true R, keep_ok, ?_, ?_⟩
                · simp [wkEnv, lk, renV, renAt, renTo, keepG, hjk2, show IntKind.i64.wrap ((k : Int) + 1) = ((k + 1 : Nat) : Int) from wrap_i64s (by omega)]
                · exact keep_mem
            · have h1 : ¬ (j : Int) < R.length := by omega
              have hno : ¬ fnz c R < R.length := by omega
              have e2 : redN p L c D R = (D, R) := by unfold redN; rw [if_neg hno]
              simp only [rdL, bagA]
              simp only [absE, absL, absF, reduceCtorEq, ↓reduceIte, Nat.reduceEqDiff, Nat.reduceAdd, Nat.reduceLT, Nat.reduceMul, Nat.reduceSub, Nat.reduceLeDiff, Int.reduceLT, Int.reduceLE, Int.reduceEq, Option.isSome_some, implies_true, false_implies, Prod.mk.injEq, ne_eq, not_false_eq_true, not_true_eq_false, ge_iff_le, gt_iff_lt, Int.toNat_natCast, Int.reduceToNat, Int.cast_ofNat_Int, Int.natCast_nonneg, h1, hjk]
              refine LoopNext.intro (c + 1) (by omega) (by omega) ⟨[] ++ keepG stdS (13, 0) D.length true R, keep_ok, ?_, ?_⟩
              · simp [wkEnv, lk, renV, renAt, renTo, keepG, wc, hNext, e2]
              · rw [hNext, e2, show rdM rows (D, R).1 (D, R).2 = _ from em]; exact keep_mem
          · obtain rfl : j = k + 1 := by omega
            have hkR : k < R.length := by omega
            have hkk : ¬ (k : Int) < 0 := by omega
            have h1 := Nat.lt_or_ge (k + 1) R.length
            have hmem : at_ R k ∈ R := by rw [at_lt hkR]; exact List.getElem_mem _
            have la := hM.len (at_ R k) (by simp [hmem])
            have ra := hM.rng (at_ R k) (by simp [hmem])
            have v1 : 0 + k * 1 < R.length := by omega
            have hkR2 : (k : Int) < R.length := by omega
            have o1 : (outsS (srcA true) R).getD (0 + k * 1) .top = .sl 0 (1 + k) 0 0 L 1 := by rw [Nat.zero_add, Nat.mul_one, outsS_get hkR, la]; simp [srcA]
            have q : (ms1 rows).getD (1 + k) .dead = .lv true [(0, .ints .i64 L (at_ R k))] := by
              rw [ms1_at (by rw [← hRr]; exact hkR), ib, ← hRr, la]
            have g1 : (at_ R k).getD (0 + c * 1) 0 = (at_ R k).getD c 0 := by rw [Nat.zero_add, Nat.mul_one]
            have hz : (at_ R k).getD c 0 ≠ 0 := by subst hk; exact fnz_at hkR
            obtain ⟨hi1, hi2, _, _⟩ := inv_facts hp hz (ra c)
            have hL8 : (L : Int) * 8 ≤ 140737488355328 := by omega
            have mL : L * 1 = L := Nat.mul_one L
            simp only [rdL, bagA]
            by_cases h1 : ((k + 1 : Nat) : Int) < R.length
            · simp only [absE, absL, absF, reduceCtorEq, ↓reduceIte, Nat.reduceEqDiff, Nat.reduceAdd, Nat.reduceLT, Nat.reduceMul, Nat.reduceSub, Nat.reduceLeDiff, Int.reduceLT, Int.reduceLE, Int.reduceEq, Option.isSome_some, implies_true, false_implies, Prod.mk.injEq, ne_eq, not_false_eq_true, not_true_eq_false, ge_iff_le, gt_iff_lt, Int.toNat_natCast, Int.reduceToNat, Int.cast_ofNat_Int, Int.natCast_nonneg, hjk, hkk, h1, hkR2, v1, o1, q, hcL, hcL2, g1, hL8, mL]
              have us : (ms1 rows).set (1 + k) (.lv true [(0, .ints .i64 L (at_ R k))]) = ms1 rows := by rw [← q]; exact set_same
              repeat refine And.intro (by decide +kernel) ?_
              refine CallsX.none (l10Inverse_ok p _ hp hz (ra c)) ?_
              simp only [absE, absL, absF, reduceCtorEq, ↓reduceIte, Nat.reduceEqDiff, Nat.reduceAdd, Nat.reduceLT, Nat.reduceMul, Nat.reduceSub, Nat.reduceLeDiff, Int.reduceLT, Int.reduceLE, Int.reduceEq, Option.isSome_some, implies_true, false_implies, Prod.mk.injEq, ne_eq, not_false_eq_true, not_true_eq_false, ge_iff_le, gt_iff_lt, Int.toNat_natCast, Int.reduceToNat, Int.cast_ofNat_Int, Int.natCast_nonneg]
              repeat refine And.intro (by decide +kernel) ?_
              have q'' := q
              rw [List.getD_eq_getElem?_getD] at q''
              refine CallsX.args [(215, 0), (0, 1 + k)] (l10AddS_ok L p (List.replicate L 0) (at_ R k) (invF p ((at_ R k).getD c 0)) hL hp (zrow_rng hp) ra ⟨by omega, hi2⟩) (by simp) (by simp [Mem.get, assoc, q'']) (by simp [renVs, renV, renAt, renIn, idx]) (by simp [argBlks, Mem.get, assoc, q'', renBlk, renSegs, renSg]) ?_
              simp only [absE, absL, absF, reduceCtorEq, ↓reduceIte, Nat.reduceEqDiff, Nat.reduceAdd, Nat.reduceLT, Nat.reduceMul, Nat.reduceSub, Nat.reduceLeDiff, Int.reduceLT, Int.reduceLE, Int.reduceEq, Option.isSome_some, implies_true, false_implies, Prod.mk.injEq, ne_eq, not_false_eq_true, not_true_eq_false, ge_iff_le, gt_iff_lt, Int.toNat_natCast, Int.reduceToNat, Int.cast_ofNat_Int, Int.natCast_nonneg, q, us]
              refine And.intro (chk_w (l := [13, 12, 11, 10, 9, 8, 7, 6, 5, 4, 3, 2, 1, 0]) rfl (by decide +kernel)) ?_
              have hpl : (addS p (List.replicate L 0) (at_ R k) (invF p ((at_ R k).getD c 0)) L).length = L := addS_len
              have hpr : RngP p (addS p (List.replicate L 0) (at_ R k) (invF p ((at_ R k).getD c 0)) L) := addS_rng hp.le.1
              have hN2 : redN p L c D R = (eldL p c L (addS p (List.replicate L 0) (at_ R k) (invF p ((at_ R k).getD c 0)) L) D D.length ++ [addS p (List.replicate L 0) (at_ R k) (invF p ((at_ R k).getD c 0)) L], remL p c L (addS p (List.replicate L 0) (at_ R k) (invF p ((at_ R k).getD c 0)) L) k R R.length) := by
                unfold redN; rw [hk, if_pos hkR]; rfl
              generalize addS p (List.replicate L 0) (at_ R k) (invF p ((at_ R k).getD c 0)) L = pv at hpl hpr hN2 ⊢
              refine awpLoop.intro (fun j : Nat => [(0, .i .i64 p), (2, .i .i64 w), (8, .ref (.sl 15 0 0 0 R.length 1)), (9, .ref (.sl 13 0 0 0 D.length 1)), (10, .i .i64 c), (11, .i .i64 k), (14, .ref (.sl 17 0 0 0 L 1)), (15, .ref (.sl 18 0 0 0 (remL p c L pv k R j).length 1)), (16, .i .i64 j)]) (fun j => ⟨ms1 rows, ((17, 0), .lv true [(0, .ints .i64 L pv)]) :: ((18, 0), .lv true [(0, .cells (remL p c L pv k R j).length (outs 19 0 (remL p c L pv k R j)))]) :: (rbag 19 0 (remL p c L pv k R j) ++ rdL D R true), 200⟩)
                (fun j => j ≤ R.length) (fun j => R.length - j) 0 (by omega) ⟨[((232, 0), (17, 0)), ((234, 0), (18, 0))] ++ segR stdS ([] : LLs).length 19 ++ keepG stdS (13, 0) D.length true R, keep0_ok (by simp [wkOk]) (by simp), ?_, ?_⟩ ?_
              · simp [wkEnv, lk, renV, renAt, renTo, keepG, remL, segR, rids]
              · simp only [wkMem, remL]
                rw [ms1_ren renTo_zero, keep4_wk (keep0_ok (by simp [wkOk]) (by simp)) (fun _ _ => by simp [stdS]) (fun j hj => absurd hj (by simp)) (by
                    have e : stdS = fun j => (14, j) := by funext j; simp [stdS]
                    simp [Mem.get, assoc, e, outs_S]) (by simp [Mem.get, assoc]) (fun j hj => by
                    simp only [Mem.get, assoc, stdS]; simp
                    have q := assoc_rbag_in (a := 14) (k := 0) (i := j) (LL := D) (r := rbag 16 0 []) hj
                    rwa [Nat.zero_add] at q) (fun j hj => by
                    exact absurd hj (by simp [bagA]))]
                simp [wkLoc, Mem.get, assoc, renBlk, renSegs, renSg, rbag_nil, outs_nil]
              · intro j hj
                by_cases h2 : (j : Int) < R.length
                · have hjR : j < R.length := by omega
                  have wj := wrap_i64s (show j < 2 ^ 62 by omega)
                  have hst : remL p c L pv k R (j + 1) = if j = k then remL p c L pv k R j else remL p c L pv k R j ++ [elS p c L pv (at_ R j)] := rfl
                  have hrl : (remL p c L pv k R j).length ≤ j := remL_len
                  by_cases hjk2 : (j : Int) = k
                  · rw [if_pos (by omega)] at hst
                    generalize remL p c L pv k R j = RR at hst hrl ⊢
                    simp only [absE, absL, absF, reduceCtorEq, ↓reduceIte, Nat.reduceEqDiff, Nat.reduceAdd, Nat.reduceLT, Nat.reduceMul, Nat.reduceSub, Nat.reduceLeDiff, Int.reduceLT, Int.reduceLE, Int.reduceEq, Option.isSome_some, implies_true, false_implies, Prod.mk.injEq, ne_eq, not_false_eq_true, not_true_eq_false, ge_iff_le, gt_iff_lt, Int.toNat_natCast, Int.reduceToNat, Int.cast_ofNat_Int, Int.natCast_nonneg, h2, hkR2, hjk2]
                    have hok := keep19_ok (A := [((17, 0), (17, 0)), ((18, 0), (18, 0))]) (b := true) (D := D) (R := R) (n := RR.length) (by simp [wkOk]) (by simp)
                    have r13 := renTo_ok (p := (13, 0)) (q := (13, 0)) hok (by simp) (by simp [keepG])
                    have r15 := renTo_ok (p := (15, 0)) (q := (15, 0)) hok (by simp) (by simp [keepG])
                    have r17 := renTo_ok (p := (17, 0)) (q := (17, 0)) hok (by simp) (by simp [keepG])
                    have r18 := renTo_ok (p := (18, 0)) (q := (18, 0)) hok (by simp) (by simp [keepG])
                    have r4 := ren4 (RR := RR) hok (fun _ _ => by simp [std19])
                    have hm19 := mem19 (pre := [((17, 0), .lv true [(0, .ints .i64 L pv)]), ((18, 0), .lv true [(0, .cells RR.length (outs 19 0 RR))])]) (RR := RR) (D := D) (R := R) (b := true) (args := ms1 rows) (n := 210) (by simp)
                    have hkm := keep4_wk (RR := RR) hok (fun _ _ => by simp [stdS]) hm19.1 hm19.2.1 hm19.2.2.1 hm19.2.2.2.1 hm19.2.2.2.2
                    rw [show outsS std19 RR = outs 19 0 RR from outs_S.symm] at r4
                    refine LoopNext.intro (j + 1) (by omega) (by omega) ⟨[((17, 0), (17, 0)), ((18, 0), (18, 0))] ++ segR std19 RR.length 19 ++ keepG stdS (13, 0) D.length true R, hok, ?_, ?_⟩
                    · simp only [wkEnv]
                      generalize renTo ([((17, 0), (17, 0)), ((18, 0), (18, 0))] ++ segR std19 RR.length 19 ++ keepG stdS (13, 0) D.length true R) = τ at r13 r15 r17 r18 ⊢
                      simp [lk, renV, renAt, r13, r15, r17, r18, hst, ← hjk2, wj]
                    · simp only [wkMem]
                      rw [ms1_ren renTo_zero, hst]
                      refine congrArg (fun x => Mem.mk (ms1 rows) x 200) (Eq.trans ?_ hkm.symm)
                      generalize renTo ([((17, 0), (17, 0)), ((18, 0), (18, 0))] ++ segR std19 RR.length 19 ++ keepG stdS (13, 0) D.length true R) = τ at r4 ⊢
                      simp [wkLoc, Mem.get, assoc, renBlk, renSegs, renSg, r4]
                  · rw [if_neg (by omega)] at hst
                    generalize remL p c L pv k R j = RR at hst hrl ⊢
                    have hmj : at_ R j ∈ R := by rw [at_lt hjR]; exact List.getElem_mem _
                    have laj := hM.len (at_ R j) (by simp [hmj])
                    have raj := hM.rng (at_ R j) (by simp [hmj])
                    have v1j : 0 + j * 1 < R.length := by omega
                    have o1j : (outsS (srcA true) R).getD (0 + j * 1) .top = .sl 0 (1 + j) 0 0 L 1 := by rw [Nat.zero_add, Nat.mul_one, outsS_get hjR, laj]; simp [srcA]
                    have qj : (ms1 rows).getD (1 + j) .dead = .lv true [(0, .ints .i64 L (at_ R j))] := by
                      rw [ms1_at (by rw [← hRr]; exact hjR), ib, ← hRr, laj]
                    have usj : (ms1 rows).set (1 + j) (.lv true [(0, .ints .i64 L (at_ R j))]) = ms1 rows := by rw [← qj]; exact set_same
                    have qj' := qj
                    rw [List.getD_eq_getElem?_getD] at qj'
                    have q15 : assoc (rbag 19 0 RR ++ rdL D R true) 15 0 = .lv true [(0, .cells R.length (outsS (srcA true) R))] := by rw [assoc_rbag_ne (by decide), rdL_15]
                    have g1j : (at_ R j).getD (0 + c * 1) 0 = (at_ R j).getD c 0 := by rw [Nat.zero_add, Nat.mul_one]
                    have rc := raj c
                    have wn : IntKind.i64.wrap (0 - (at_ R j).getD c 0) = -((at_ R j).getD c 0) := by rw [Int.zero_sub]; exact wrap_i64 (by omega) (by omega)
                    have mR : RR.length * 1 = RR.length := Nat.mul_one _
                    simp only [absE, absL, absF, reduceCtorEq, ↓reduceIte, Nat.reduceEqDiff, Nat.reduceAdd, Nat.reduceLT, Nat.reduceMul, Nat.reduceSub, Nat.reduceLeDiff, Int.reduceLT, Int.reduceLE, Int.reduceEq, Option.isSome_some, implies_true, false_implies, Prod.mk.injEq, ne_eq, not_false_eq_true, not_true_eq_false, ge_iff_le, gt_iff_lt, Int.toNat_natCast, Int.reduceToNat, Int.cast_ofNat_Int, Int.natCast_nonneg, h2, hjk2, v1j, o1j, qj, q15, g1j, wn, hcL, hcL2, mR]
                    refine CallsX.args [(0, 1 + j), (17, 0)] (l10AddS_ok L p (at_ R j) pv (-((at_ R j).getD c 0)) hL hp raj hpr (by omega)) (by simp) (by simp [Mem.get, assoc, qj']) (by simp [renVs, renV, renAt, renIn, idx]) (by simp [argBlks, Mem.get, assoc, qj', renBlk, renSegs, renSg]) ?_
                    simp only [absE, absL, absF, reduceCtorEq, ↓reduceIte, Nat.reduceEqDiff, Nat.reduceAdd, Nat.reduceLT, Nat.reduceMul, Nat.reduceSub, Nat.reduceLeDiff, Int.reduceLT, Int.reduceLE, Int.reduceEq, Option.isSome_some, implies_true, false_implies, Prod.mk.injEq, ne_eq, not_false_eq_true, not_true_eq_false, ge_iff_le, gt_iff_lt, Int.toNat_natCast, Int.reduceToNat, Int.cast_ofNat_Int, Int.natCast_nonneg, qj, usj, q15, mR]
                    refine And.intro (chk_m (l := [(13, false), (12, true), (11, true), (10, false), (9, true), (8, true), (7, true), (6, true), (5, false), (4, true), (3, true), (2, true), (1, true), (0, true)]) rfl (by decide +kernel)) (And.intro (chk_m (l := [(15, false), (14, true), (13, false), (12, true), (11, true), (10, false), (9, true), (8, true), (7, true), (6, true), (5, false), (4, true), (3, true), (2, true), (1, true), (0, true)]) rfl (by decide +kernel)) (And.intro (by omega) (And.intro (by omega) (And.intro (chk_m (l := [(16, false), (15, false), (14, true), (13, false), (12, true), (11, true), (10, false), (9, true), (8, true), (7, true), (6, true), (5, false), (4, true), (3, true), (2, true), (1, true), (0, true)]) rfl (by decide +kernel)) ?_))))
                    have hxl : (elS p c L pv (at_ R j)).length = L := addS_len
                    rw [show addS p (at_ R j) pv (-((at_ R j).getD c 0)) L = elS p c L pv (at_ R j) from rfl]
                    generalize elS p c L pv (at_ R j) = xs at hst hxl ⊢
                    have hok := grow19_ok (A := [((17, 0), (17, 0)), ((224, 0), (18, 0))]) (b := true) (D := D) (R := R) (n := RR.length) (t := 222) (by simp [wkOk]) (by decide) (by simp)
                    rw [← show (RR ++ [xs]).length = RR.length + 1 by simp] at hok
                    have r13 := renTo_ok (p := (13, 0)) (q := (13, 0)) hok (by simp) (by simp [keepG])
                    have r15 := renTo_ok (p := (15, 0)) (q := (15, 0)) hok (by simp) (by simp [keepG])
                    have r17 := renTo_ok (p := (17, 0)) (q := (17, 0)) hok (by simp) (by simp [keepG])
                    have r18 := renTo_ok (p := (224, 0)) (q := (18, 0)) hok (by simp) (by simp [keepG])
                    have r4 := ren4 (RR := RR ++ [xs]) hok (fun i _ => by have q := growS_fst (B := 19) (t := 222) (n := RR.length) (i := i); omega)
                    rw [← outs_grow, hxl] at r4
                    refine LoopNext.intro (j + 1) (by omega) (by omega) ⟨[((17, 0), (17, 0)), ((224, 0), (18, 0))] ++ segR (growS 19 222 RR.length) (RR ++ [xs]).length 19 ++ keepG stdS (13, 0) D.length true R, hok, ?_, ?_⟩
                    · simp only [wkEnv]
                      generalize renTo ([((17, 0), (17, 0)), ((224, 0), (18, 0))] ++ segR (growS 19 222 RR.length) (RR ++ [xs]).length 19 ++ keepG stdS (13, 0) D.length true R) = τ at r13 r15 r17 r18 ⊢
                      simp [lk, renV, renAt, r13, r15, r17, r18, hst, wj]
                    · simp only [wkMem]
                      rw [ms1_ren renTo_zero, hst, keep4_wk (RR := RR ++ [xs]) hok (fun _ _ => by simp [stdS]) (fun i hi => by
                          unfold growS
                          by_cases e : i < RR.length
                          · rw [if_pos e]
                            have q := assoc_rbag_in (a := 19) (k := 0) (i := i) (LL := RR) (r := rdL D R true) e
                            simp only [Nat.zero_add] at q ⊢
                            simp [Mem.get, assoc, q, at_app, show ¬ i = RR.length by omega]
                          · rw [if_neg e]
                            obtain rfl : i = RR.length := by simp at hi; omega
                            simp [Mem.get, assoc, at_app, ib, hxl]) (by
                          have q := rdL_13 (D := D) (R := R) (b := true)
                          simp [Mem.get, assoc, assoc_rbag_ne, q]) (by simp [Mem.get, assoc, q15]) (fun i hi => by
                          have q := rdL_14 (D := D) (R := R) (b := true) hi
                          simp only [Nat.zero_add, stdS] at q ⊢
                          simp [Mem.get, assoc, assoc_rbag_ne, q]) (fun i hi => by
                          exact absurd hi (by simp [bagA]))]
                      generalize renTo ([((17, 0), (17, 0)), ((224, 0), (18, 0))] ++ segR (growS 19 222 RR.length) (RR ++ [xs]).length 19 ++ keepG stdS (13, 0) D.length true R) = τ at r4 ⊢
                      simp only [List.map_append, List.map_cons, List.map_nil] at r4
                      simp [wkLoc, Mem.get, assoc, renBlk, renSegs, renSg, r4]
                · obtain rfl : j = R.length := by omega
                  have q13 : assoc (rbag 19 0 (remL p c L pv k R R.length) ++ rdL D R true) 13 0 = .lv true [(0, .cells D.length (outs 14 0 D))] := by rw [assoc_rbag_ne (by decide), rdL_13]; rw [outs_S]; rfl
                  simp only [absE, absL, absF, reduceCtorEq, ↓reduceIte, Nat.reduceEqDiff, Nat.reduceAdd, Nat.reduceLT, Nat.reduceMul, Nat.reduceSub, Nat.reduceLeDiff, Int.reduceLT, Int.reduceLE, Int.reduceEq, Option.isSome_some, implies_true, false_implies, Prod.mk.injEq, ne_eq, not_false_eq_true, not_true_eq_false, ge_iff_le, gt_iff_lt, Int.toNat_natCast, Int.reduceToNat, Int.cast_ofNat_Int, Int.natCast_nonneg, h2]
                  have hRl : (remL p c L pv k R R.length).length ≤ R.length := remL_len
                  generalize remL p c L pv k R R.length = RR at hN2 hRl q13 ⊢
                  have hok := keep19_ok (A := [((17, 0), (17, 0)), ((18, 0), (18, 0))]) (b := true) (D := D) (R := R) (n := RR.length) (by simp [wkOk]) (by simp)
                  have r13 := renTo_ok (p := (13, 0)) (q := (13, 0)) hok (by simp) (by simp [keepG])
                  have r17 := renTo_ok (p := (17, 0)) (q := (17, 0)) hok (by simp) (by simp [keepG])
                  have r18 := renTo_ok (p := (18, 0)) (q := (18, 0)) hok (by simp) (by simp [keepG])
                  have r4 := ren4 (RR := RR) hok (fun _ _ => by simp [std19])
                  have hm19 := mem19 (pre := [((17, 0), .lv true [(0, .ints .i64 L pv)]), ((18, 0), .lv true [(0, .cells RR.length (outs 19 0 RR))])]) (RR := RR) (D := D) (R := R) (b := true) (args := ms1 rows) (n := 205) (by simp)
                  have hkm := keep4_wk (RR := RR) hok (fun _ _ => by simp [stdS]) hm19.1 hm19.2.1 hm19.2.2.1 hm19.2.2.2.1 hm19.2.2.2.2
                  rw [show outsS std19 RR = outs 19 0 RR from outs_S.symm] at r4
                  refine awpLoop.intro (fun j : Nat => [(0, .i .i64 p), (2, .i .i64 w), (9, .ref (.sl 13 0 0 0 D.length 1)), (10, .i .i64 c), (14, .ref (.sl 17 0 0 0 L 1)), (15, .ref (.sl 18 0 0 0 RR.length 1)), (17, .i .i64 j)]) (fun j => ⟨ms1 rows, ((17, 0), .lv true [(0, .ints .i64 L pv)]) :: ((18, 0), .lv true [(0, .cells RR.length (outs 19 0 RR))]) :: (rbag 19 0 RR ++ rdL (eldL p c L pv D j) R true), 200⟩)
                    (fun j => j ≤ D.length) (fun j => D.length - j) 0 (by omega) ⟨[((17, 0), (17, 0)), ((18, 0), (18, 0))] ++ segR std19 RR.length 19 ++ keepG stdS (13, 0) D.length true R, hok, ?_, ?_⟩ ?_
                  · simp only [wkEnv]
                    generalize renTo ([((17, 0), (17, 0)), ((18, 0), (18, 0))] ++ segR std19 RR.length 19 ++ keepG stdS (13, 0) D.length true R) = τ at r13 r17 r18 ⊢
                    simp [lk, renV, renAt, r13, r17, r18]
                  · simp only [wkMem]
                    rw [ms1_ren renTo_zero, eldL_zero]
                    refine congrArg (fun x => Mem.mk (ms1 rows) x 200) (Eq.trans ?_ hkm.symm)
                    generalize renTo ([((17, 0), (17, 0)), ((18, 0), (18, 0))] ++ segR std19 RR.length 19 ++ keepG stdS (13, 0) D.length true R) = τ at r4 ⊢
                    simp [wkLoc, Mem.get, assoc, renBlk, renSegs, renSg, r4]
                  · intro i hi
                    have hEl : (eldL p c L pv D i).length = D.length := eldL_len
                    by_cases h3 : (i : Int) < D.length
                    · exact absurd h3 (by rw [he, List.length_nil]; omega)
                    · obtain rfl : i = D.length := by omega
                      have mD : D.length * 1 = D.length := Nat.mul_one _
                      generalize eldL p c L pv D D.length = E at hEl hN2 ⊢
                      have q13i : assoc (rbag 19 0 RR ++ rdL E R true) 13 0 = .lv true [(0, .cells D.length (outs 14 0 E))] := by rw [assoc_rbag_ne (by decide), rdL_13, hEl, outs_S]; rfl
                      simp only [absE, absL, absF, reduceCtorEq, ↓reduceIte, Nat.reduceEqDiff, Nat.reduceAdd, Nat.reduceLT, Nat.reduceMul, Nat.reduceSub, Nat.reduceLeDiff, Int.reduceLT, Int.reduceLE, Int.reduceEq, Option.isSome_some, implies_true, false_implies, Prod.mk.injEq, ne_eq, not_false_eq_true, not_true_eq_false, ge_iff_le, gt_iff_lt, Int.toNat_natCast, Int.reduceToNat, Int.cast_ofNat_Int, Int.natCast_nonneg, h3, q13i, mD]
                      refine And.intro (by omega) (And.intro (by omega) ?_)
                      have hN3 : redS p L rows (c + 1) = (E ++ [pv], RR) := by rw [hNext, hN2]
                      have hok7 : wkOk ([((207, 0), (13, 0)), ((18, 0), (15, 0))] ++ (segR (growS 14 17 E.length) (E ++ [pv]).length 14 ++ segR std19 RR.length 16)) 200 = true := ok_two (by simp [wkOk]) (fun a b ha hb => growS_inj (by decide) a b (by simpa using ha) (by simpa using hb)) stdS_inj (fun a _ => by have q := growS_fst (B := 14) (t := 17) (n := E.length) (i := a); omega) (fun _ _ => by simp [std19]) (by decide) (by decide) (by decide) (by decide) (by decide)
                        (fun x hx a _ e => by
                          have q := growS_fst (B := 14) (t := 17) (n := E.length) (i := a)
                          have e' := congrArg (·.1) e
                          simp only [List.mem_cons, List.not_mem_nil, or_false] at hx
                          rcases hx with rfl | rfl <;> simp only at e' <;> omega) (fun x hx a _ e => by
                          have e' := congrArg (·.1) e
                          simp only [List.mem_cons, List.not_mem_nil, or_false] at hx
                          rcases hx with rfl | rfl <;> simp [std19] at e') (by simp) (by simp) (fun a b _ _ e => by
                          have q := growS_fst (B := 14) (t := 17) (n := E.length) (i := a)
                          have e' := congrArg (·.1) e
                          simp only [std19] at e'; omega)
                      have s13 := renTo_ok (p := (207, 0)) (q := (13, 0)) hok7 (by simp) (by simp)
                      have s15 := renTo_ok (p := (18, 0)) (q := (15, 0)) hok7 (by simp) (by simp)
                      have u := outs_grow (B := 14) (t := 17) (LL := E) (xs := pv)
                      rw [hpl] at u
                      have w1 : (outsS (growS 14 17 E.length) (E ++ [pv])).map (renAt (renTo ([((207, 0), (13, 0)), ((18, 0), (15, 0))] ++ (segR (growS 14 17 E.length) (E ++ [pv]).length 14 ++ segR std19 RR.length 16)))) = outs 14 0 (E ++ [pv]) := outsS_ren fun j hj => renTo_ok hok7 (by have q := growS_fst (B := 14) (t := 17) (n := E.length) (i := j); omega) (List.mem_append_right _ (List.mem_append_left _ (seg_mem hj)))
                      have w2 : (outs 19 0 RR).map (renAt (renTo ([((207, 0), (13, 0)), ((18, 0), (15, 0))] ++ (segR (growS 14 17 E.length) (E ++ [pv]).length 14 ++ segR std19 RR.length 16)))) = outs 16 0 RR := by
                        rw [outs_S]; exact outsS_ren fun j hj => renTo_ok (p := (19, 0 + j)) hok7 (by simp) (List.mem_append_right _ (List.mem_append_right _ (seg_mem (src := std19) hj)))
                      refine LoopNext.intro (c + 1) (by omega) (by omega) ⟨[((207, 0), (13, 0)), ((18, 0), (15, 0))] ++ (segR (growS 14 17 E.length) (E ++ [pv]).length 14 ++ segR std19 RR.length 16), hok7, ?_, ?_⟩
                      · simp only [wkEnv]
                        generalize renTo ([((207, 0), (13, 0)), ((18, 0), (15, 0))] ++ (segR (growS 14 17 E.length) (E ++ [pv]).length 14 ++ segR std19 RR.length 16)) = τ at s13 s15 ⊢
                        simp [lk, renV, renAt, s13, s15, wc, hN3, hEl]
                      · have hne : (E ++ [pv]).isEmpty = false := by simp
                        rw [hN3]
                        simp only [wkMem, rdM, hne]
                        rw [ms1_ren renTo_zero, wk_two (L1 := E ++ [pv]) (L2 := RR) rfl rfl (fun j hj => by
                            unfold growS
                            by_cases e : j < E.length
                            · rw [if_pos e]
                              have q := rdL_14 (D := E) (R := R) (b := true) e
                              simp only [Nat.zero_add] at q ⊢
                              simp [Mem.get, assoc, assoc_rbag_ne, q, at_app, show ¬ j = E.length by omega]
                            · rw [if_neg e]
                              obtain rfl : j = E.length := by simp at hj; omega
                              simp [Mem.get, assoc, at_app, ib, hpl]) (fun j hj => by
                            have q := assoc_rbag_in (a := 19) (k := 0) (i := j) (LL := RR) (r := rdL E R true) hj
                            simp only [Nat.zero_add, std19] at q ⊢
                            simp [Mem.get, assoc, q]), u]
                        generalize renTo ([((207, 0), (13, 0)), ((18, 0), (15, 0))] ++ (segR (growS 14 17 E.length) (E ++ [pv]).length 14 ++ segR std19 RR.length 16)) = τ at w1 w2 ⊢
                        rw [hEl] at w1
                        simp [wkLoc, Mem.get, assoc, renBlk, renSegs, renSg, w1, w2, rdL, bagA, hEl, show outsS (srcA false) RR = outs 16 0 RR from outs_S.symm]
            · simp only [absE, absL, absF, reduceCtorEq, ↓reduceIte, Nat.reduceEqDiff, Nat.reduceAdd, Nat.reduceLT, Nat.reduceMul, Nat.reduceSub, Nat.reduceLeDiff, Int.reduceLT, Int.reduceLE, Int.reduceEq, Option.isSome_some, implies_true, false_implies, Prod.mk.injEq, ne_eq, not_false_eq_true, not_true_eq_false, ge_iff_le, gt_iff_lt, Int.toNat_natCast, Int.reduceToNat, Int.cast_ofNat_Int, Int.natCast_nonneg, hjk, hkk, h1, hkR2, v1, o1, q, hcL, hcL2, g1, hL8, mL]
              have us : (ms1 rows).set (1 + k) (.lv true [(0, .ints .i64 L (at_ R k))]) = ms1 rows := by rw [← q]; exact set_same
              repeat refine And.intro (by decide +kernel) ?_
              refine CallsX.none (l10Inverse_ok p _ hp hz (ra c)) ?_
              simp only [absE, absL, absF, reduceCtorEq, ↓reduceIte, Nat.reduceEqDiff, Nat.reduceAdd, Nat.reduceLT, Nat.reduceMul, Nat.reduceSub, Nat.reduceLeDiff, Int.reduceLT, Int.reduceLE, Int.reduceEq, Option.isSome_some, implies_true, false_implies, Prod.mk.injEq, ne_eq, not_false_eq_true, not_true_eq_false, ge_iff_le, gt_iff_lt, Int.toNat_natCast, Int.reduceToNat, Int.cast_ofNat_Int, Int.natCast_nonneg]
              repeat refine And.intro (by decide +kernel) ?_
              have q'' := q
              rw [List.getD_eq_getElem?_getD] at q''
              refine CallsX.args [(215, 0), (0, 1 + k)] (l10AddS_ok L p (List.replicate L 0) (at_ R k) (invF p ((at_ R k).getD c 0)) hL hp (zrow_rng hp) ra ⟨by omega, hi2⟩) (by simp) (by simp [Mem.get, assoc, q'']) (by simp [renVs, renV, renAt, renIn, idx]) (by simp [argBlks, Mem.get, assoc, q'', renBlk, renSegs, renSg]) ?_
              simp only [absE, absL, absF, reduceCtorEq, ↓reduceIte, Nat.reduceEqDiff, Nat.reduceAdd, Nat.reduceLT, Nat.reduceMul, Nat.reduceSub, Nat.reduceLeDiff, Int.reduceLT, Int.reduceLE, Int.reduceEq, Option.isSome_some, implies_true, false_implies, Prod.mk.injEq, ne_eq, not_false_eq_true, not_true_eq_false, ge_iff_le, gt_iff_lt, Int.toNat_natCast, Int.reduceToNat, Int.cast_ofNat_Int, Int.natCast_nonneg, q, us]
              refine And.intro (chk_w (l := [13, 12, 11, 10, 9, 8, 7, 6, 5, 4, 3, 2, 1, 0]) rfl (by decide +kernel)) ?_
              have hpl : (addS p (List.replicate L 0) (at_ R k) (invF p ((at_ R k).getD c 0)) L).length = L := addS_len
              have hpr : RngP p (addS p (List.replicate L 0) (at_ R k) (invF p ((at_ R k).getD c 0)) L) := addS_rng hp.le.1
              have hN2 : redN p L c D R = (eldL p c L (addS p (List.replicate L 0) (at_ R k) (invF p ((at_ R k).getD c 0)) L) D D.length ++ [addS p (List.replicate L 0) (at_ R k) (invF p ((at_ R k).getD c 0)) L], remL p c L (addS p (List.replicate L 0) (at_ R k) (invF p ((at_ R k).getD c 0)) L) k R R.length) := by
                unfold redN; rw [hk, if_pos hkR]; rfl
              generalize addS p (List.replicate L 0) (at_ R k) (invF p ((at_ R k).getD c 0)) L = pv at hpl hpr hN2 ⊢
              refine awpLoop.intro (fun j : Nat => [(0, .i .i64 p), (2, .i .i64 w), (8, .ref (.sl 15 0 0 0 R.length 1)), (9, .ref (.sl 13 0 0 0 D.length 1)), (10, .i .i64 c), (11, .i .i64 k), (14, .ref (.sl 17 0 0 0 L 1)), (15, .ref (.sl 18 0 0 0 (remL p c L pv k R j).length 1)), (16, .i .i64 j)]) (fun j => ⟨ms1 rows, ((17, 0), .lv true [(0, .ints .i64 L pv)]) :: ((18, 0), .lv true [(0, .cells (remL p c L pv k R j).length (outs 19 0 (remL p c L pv k R j)))]) :: (rbag 19 0 (remL p c L pv k R j) ++ rdL D R true), 200⟩)
                (fun j => j ≤ R.length) (fun j => R.length - j) 0 (by omega) ⟨[((232, 0), (17, 0)), ((234, 0), (18, 0))] ++ segR stdS ([] : LLs).length 19 ++ keepG stdS (13, 0) D.length true R, keep0_ok (by simp [wkOk]) (by simp), ?_, ?_⟩ ?_
              · simp [wkEnv, lk, renV, renAt, renTo, keepG, remL, segR, rids]
              · simp only [wkMem, remL]
                rw [ms1_ren renTo_zero, keep4_wk (keep0_ok (by simp [wkOk]) (by simp)) (fun _ _ => by simp [stdS]) (fun j hj => absurd hj (by simp)) (by
                    have e : stdS = fun j => (14, j) := by funext j; simp [stdS]
                    simp [Mem.get, assoc, e, outs_S]) (by simp [Mem.get, assoc]) (fun j hj => by
                    simp only [Mem.get, assoc, stdS]; simp
                    have q := assoc_rbag_in (a := 14) (k := 0) (i := j) (LL := D) (r := rbag 16 0 []) hj
                    rwa [Nat.zero_add] at q) (fun j hj => by
                    exact absurd hj (by simp [bagA]))]
                simp [wkLoc, Mem.get, assoc, renBlk, renSegs, renSg, rbag_nil, outs_nil]
              · intro j hj
                by_cases h2 : (j : Int) < R.length
                · have hjR : j < R.length := by omega
                  have wj := wrap_i64s (show j < 2 ^ 62 by omega)
                  have hst : remL p c L pv k R (j + 1) = if j = k then remL p c L pv k R j else remL p c L pv k R j ++ [elS p c L pv (at_ R j)] := rfl
                  have hrl : (remL p c L pv k R j).length ≤ j := remL_len
                  by_cases hjk2 : (j : Int) = k
                  · rw [if_pos (by omega)] at hst
                    generalize remL p c L pv k R j = RR at hst hrl ⊢
                    simp only [absE, absL, absF, reduceCtorEq, ↓reduceIte, Nat.reduceEqDiff, Nat.reduceAdd, Nat.reduceLT, Nat.reduceMul, Nat.reduceSub, Nat.reduceLeDiff, Int.reduceLT, Int.reduceLE, Int.reduceEq, Option.isSome_some, implies_true, false_implies, Prod.mk.injEq, ne_eq, not_false_eq_true, not_true_eq_false, ge_iff_le, gt_iff_lt, Int.toNat_natCast, Int.reduceToNat, Int.cast_ofNat_Int, Int.natCast_nonneg, h2, hkR2, hjk2]
                    have hok := keep19_ok (A := [((17, 0), (17, 0)), ((18, 0), (18, 0))]) (b := true) (D := D) (R := R) (n := RR.length) (by simp [wkOk]) (by simp)
                    have r13 := renTo_ok (p := (13, 0)) (q := (13, 0)) hok (by simp) (by simp [keepG])
                    have r15 := renTo_ok (p := (15, 0)) (q := (15, 0)) hok (by simp) (by simp [keepG])
                    have r17 := renTo_ok (p := (17, 0)) (q := (17, 0)) hok (by simp) (by simp [keepG])
                    have r18 := renTo_ok (p := (18, 0)) (q := (18, 0)) hok (by simp) (by simp [keepG])
                    have r4 := ren4 (RR := RR) hok (fun _ _ => by simp [std19])
                    have hm19 := mem19 (pre := [((17, 0), .lv true [(0, .ints .i64 L pv)]), ((18, 0), .lv true [(0, .cells RR.length (outs 19 0 RR))])]) (RR := RR) (D := D) (R := R) (b := true) (args := ms1 rows) (n := 210) (by simp)
                    have hkm := keep4_wk (RR := RR) hok (fun _ _ => by simp [stdS]) hm19.1 hm19.2.1 hm19.2.2.1 hm19.2.2.2.1 hm19.2.2.2.2
                    rw [show outsS std19 RR = outs 19 0 RR from outs_S.symm] at r4
                    refine LoopNext.intro (j + 1) (by omega) (by omega) ⟨[((17, 0), (17, 0)), ((18, 0), (18, 0))] ++ segR std19 RR.length 19 ++ keepG stdS (13, 0) D.length true R, hok, ?_, ?_⟩
                    · simp only [wkEnv]
                      generalize renTo ([((17, 0), (17, 0)), ((18, 0), (18, 0))] ++ segR std19 RR.length 19 ++ keepG stdS (13, 0) D.length true R) = τ at r13 r15 r17 r18 ⊢
                      simp [lk, renV, renAt, r13, r15, r17, r18, hst, ← hjk2, wj]
                    · simp only [wkMem]
                      rw [ms1_ren renTo_zero, hst]
                      refine congrArg (fun x => Mem.mk (ms1 rows) x 200) (Eq.trans ?_ hkm.symm)
                      generalize renTo ([((17, 0), (17, 0)), ((18, 0), (18, 0))] ++ segR std19 RR.length 19 ++ keepG stdS (13, 0) D.length true R) = τ at r4 ⊢
                      simp [wkLoc, Mem.get, assoc, renBlk, renSegs, renSg, r4]
                  · rw [if_neg (by omega)] at hst
                    generalize remL p c L pv k R j = RR at hst hrl ⊢
                    have hmj : at_ R j ∈ R := by rw [at_lt hjR]; exact List.getElem_mem _
                    have laj := hM.len (at_ R j) (by simp [hmj])
                    have raj := hM.rng (at_ R j) (by simp [hmj])
                    have v1j : 0 + j * 1 < R.length := by omega
                    have o1j : (outsS (srcA true) R).getD (0 + j * 1) .top = .sl 0 (1 + j) 0 0 L 1 := by rw [Nat.zero_add, Nat.mul_one, outsS_get hjR, laj]; simp [srcA]
                    have qj : (ms1 rows).getD (1 + j) .dead = .lv true [(0, .ints .i64 L (at_ R j))] := by
                      rw [ms1_at (by rw [← hRr]; exact hjR), ib, ← hRr, laj]
                    have usj : (ms1 rows).set (1 + j) (.lv true [(0, .ints .i64 L (at_ R j))]) = ms1 rows := by rw [← qj]; exact set_same
                    have qj' := qj
                    rw [List.getD_eq_getElem?_getD] at qj'
                    have q15 : assoc (rbag 19 0 RR ++ rdL D R true) 15 0 = .lv true [(0, .cells R.length (outsS (srcA true) R))] := by rw [assoc_rbag_ne (by decide), rdL_15]
                    have g1j : (at_ R j).getD (0 + c * 1) 0 = (at_ R j).getD c 0 := by rw [Nat.zero_add, Nat.mul_one]
                    have rc := raj c
                    have wn : IntKind.i64.wrap (0 - (at_ R j).getD c 0) = -((at_ R j).getD c 0) := by rw [Int.zero_sub]; exact wrap_i64 (by omega) (by omega)
                    have mR : RR.length * 1 = RR.length := Nat.mul_one _
                    simp only [absE, absL, absF, reduceCtorEq, ↓reduceIte, Nat.reduceEqDiff, Nat.reduceAdd, Nat.reduceLT, Nat.reduceMul, Nat.reduceSub, Nat.reduceLeDiff, Int.reduceLT, Int.reduceLE, Int.reduceEq, Option.isSome_some, implies_true, false_implies, Prod.mk.injEq, ne_eq, not_false_eq_true, not_true_eq_false, ge_iff_le, gt_iff_lt, Int.toNat_natCast, Int.reduceToNat, Int.cast_ofNat_Int, Int.natCast_nonneg, h2, hjk2, v1j, o1j, qj, q15, g1j, wn, hcL, hcL2, mR]
                    refine CallsX.args [(0, 1 + j), (17, 0)] (l10AddS_ok L p (at_ R j) pv (-((at_ R j).getD c 0)) hL hp raj hpr (by omega)) (by simp) (by simp [Mem.get, assoc, qj']) (by simp [renVs, renV, renAt, renIn, idx]) (by simp [argBlks, Mem.get, assoc, qj', renBlk, renSegs, renSg]) ?_
                    simp only [absE, absL, absF, reduceCtorEq, ↓reduceIte, Nat.reduceEqDiff, Nat.reduceAdd, Nat.reduceLT, Nat.reduceMul, Nat.reduceSub, Nat.reduceLeDiff, Int.reduceLT, Int.reduceLE, Int.reduceEq, Option.isSome_some, implies_true, false_implies, Prod.mk.injEq, ne_eq, not_false_eq_true, not_true_eq_false, ge_iff_le, gt_iff_lt, Int.toNat_natCast, Int.reduceToNat, Int.cast_ofNat_Int, Int.natCast_nonneg, qj, usj, q15, mR]
                    refine And.intro (chk_m (l := [(13, false), (12, true), (11, true), (10, false), (9, true), (8, true), (7, true), (6, true), (5, false), (4, true), (3, true), (2, true), (1, true), (0, true)]) rfl (by decide +kernel)) (And.intro (chk_m (l := [(15, false), (14, true), (13, false), (12, true), (11, true), (10, false), (9, true), (8, true), (7, true), (6, true), (5, false), (4, true), (3, true), (2, true), (1, true), (0, true)]) rfl (by decide +kernel)) (And.intro (by omega) (And.intro (by omega) (And.intro (chk_m (l := [(16, false), (15, false), (14, true), (13, false), (12, true), (11, true), (10, false), (9, true), (8, true), (7, true), (6, true), (5, false), (4, true), (3, true), (2, true), (1, true), (0, true)]) rfl (by decide +kernel)) ?_))))
                    have hxl : (elS p c L pv (at_ R j)).length = L := addS_len
                    rw [show addS p (at_ R j) pv (-((at_ R j).getD c 0)) L = elS p c L pv (at_ R j) from rfl]
                    generalize elS p c L pv (at_ R j) = xs at hst hxl ⊢
                    have hok := grow19_ok (A := [((17, 0), (17, 0)), ((224, 0), (18, 0))]) (b := true) (D := D) (R := R) (n := RR.length) (t := 222) (by simp [wkOk]) (by decide) (by simp)
                    rw [← show (RR ++ [xs]).length = RR.length + 1 by simp] at hok
                    have r13 := renTo_ok (p := (13, 0)) (q := (13, 0)) hok (by simp) (by simp [keepG])
                    have r15 := renTo_ok (p := (15, 0)) (q := (15, 0)) hok (by simp) (by simp [keepG])
                    have r17 := renTo_ok (p := (17, 0)) (q := (17, 0)) hok (by simp) (by simp [keepG])
                    have r18 := renTo_ok (p := (224, 0)) (q := (18, 0)) hok (by simp) (by simp [keepG])
                    have r4 := ren4 (RR := RR ++ [xs]) hok (fun i _ => by have q := growS_fst (B := 19) (t := 222) (n := RR.length) (i := i); omega)
                    rw [← outs_grow, hxl] at r4
                    refine LoopNext.intro (j + 1) (by omega) (by omega) ⟨[((17, 0), (17, 0)), ((224, 0), (18, 0))] ++ segR (growS 19 222 RR.length) (RR ++ [xs]).length 19 ++ keepG stdS (13, 0) D.length true R, hok, ?_, ?_⟩
                    · simp only [wkEnv]
                      generalize renTo ([((17, 0), (17, 0)), ((224, 0), (18, 0))] ++ segR (growS 19 222 RR.length) (RR ++ [xs]).length 19 ++ keepG stdS (13, 0) D.length true R) = τ at r13 r15 r17 r18 ⊢
                      simp [lk, renV, renAt, r13, r15, r17, r18, hst, wj]
                    · simp only [wkMem]
                      rw [ms1_ren renTo_zero, hst, keep4_wk (RR := RR ++ [xs]) hok (fun _ _ => by simp [stdS]) (fun i hi => by
                          unfold growS
                          by_cases e : i < RR.length
                          · rw [if_pos e]
                            have q := assoc_rbag_in (a := 19) (k := 0) (i := i) (LL := RR) (r := rdL D R true) e
                            simp only [Nat.zero_add] at q ⊢
                            simp [Mem.get, assoc, q, at_app, show ¬ i = RR.length by omega]
                          · rw [if_neg e]
                            obtain rfl : i = RR.length := by simp at hi; omega
                            simp [Mem.get, assoc, at_app, ib, hxl]) (by
                          have q := rdL_13 (D := D) (R := R) (b := true)
                          simp [Mem.get, assoc, assoc_rbag_ne, q]) (by simp [Mem.get, assoc, q15]) (fun i hi => by
                          have q := rdL_14 (D := D) (R := R) (b := true) hi
                          simp only [Nat.zero_add, stdS] at q ⊢
                          simp [Mem.get, assoc, assoc_rbag_ne, q]) (fun i hi => by
                          exact absurd hi (by simp [bagA]))]
                      generalize renTo ([((17, 0), (17, 0)), ((224, 0), (18, 0))] ++ segR (growS 19 222 RR.length) (RR ++ [xs]).length 19 ++ keepG stdS (13, 0) D.length true R) = τ at r4 ⊢
                      simp only [List.map_append, List.map_cons, List.map_nil] at r4
                      simp [wkLoc, Mem.get, assoc, renBlk, renSegs, renSg, r4]
                · obtain rfl : j = R.length := by omega
                  have q13 : assoc (rbag 19 0 (remL p c L pv k R R.length) ++ rdL D R true) 13 0 = .lv true [(0, .cells D.length (outs 14 0 D))] := by rw [assoc_rbag_ne (by decide), rdL_13]; rw [outs_S]; rfl
                  simp only [absE, absL, absF, reduceCtorEq, ↓reduceIte, Nat.reduceEqDiff, Nat.reduceAdd, Nat.reduceLT, Nat.reduceMul, Nat.reduceSub, Nat.reduceLeDiff, Int.reduceLT, Int.reduceLE, Int.reduceEq, Option.isSome_some, implies_true, false_implies, Prod.mk.injEq, ne_eq, not_false_eq_true, not_true_eq_false, ge_iff_le, gt_iff_lt, Int.toNat_natCast, Int.reduceToNat, Int.cast_ofNat_Int, Int.natCast_nonneg, h2]
                  have hRl : (remL p c L pv k R R.length).length ≤ R.length := remL_len
                  generalize remL p c L pv k R R.length = RR at hN2 hRl q13 ⊢
                  have hok := keep19_ok (A := [((17, 0), (17, 0)), ((18, 0), (18, 0))]) (b := true) (D := D) (R := R) (n := RR.length) (by simp [wkOk]) (by simp)
                  have r13 := renTo_ok (p := (13, 0)) (q := (13, 0)) hok (by simp) (by simp [keepG])
                  have r17 := renTo_ok (p := (17, 0)) (q := (17, 0)) hok (by simp) (by simp [keepG])
                  have r18 := renTo_ok (p := (18, 0)) (q := (18, 0)) hok (by simp) (by simp [keepG])
                  have r4 := ren4 (RR := RR) hok (fun _ _ => by simp [std19])
                  have hm19 := mem19 (pre := [((17, 0), .lv true [(0, .ints .i64 L pv)]), ((18, 0), .lv true [(0, .cells RR.length (outs 19 0 RR))])]) (RR := RR) (D := D) (R := R) (b := true) (args := ms1 rows) (n := 205) (by simp)
                  have hkm := keep4_wk (RR := RR) hok (fun _ _ => by simp [stdS]) hm19.1 hm19.2.1 hm19.2.2.1 hm19.2.2.2.1 hm19.2.2.2.2
                  rw [show outsS std19 RR = outs 19 0 RR from outs_S.symm] at r4
                  refine awpLoop.intro (fun j : Nat => [(0, .i .i64 p), (2, .i .i64 w), (9, .ref (.sl 13 0 0 0 D.length 1)), (10, .i .i64 c), (14, .ref (.sl 17 0 0 0 L 1)), (15, .ref (.sl 18 0 0 0 RR.length 1)), (17, .i .i64 j)]) (fun j => ⟨ms1 rows, ((17, 0), .lv true [(0, .ints .i64 L pv)]) :: ((18, 0), .lv true [(0, .cells RR.length (outs 19 0 RR))]) :: (rbag 19 0 RR ++ rdL (eldL p c L pv D j) R true), 200⟩)
                    (fun j => j ≤ D.length) (fun j => D.length - j) 0 (by omega) ⟨[((17, 0), (17, 0)), ((18, 0), (18, 0))] ++ segR std19 RR.length 19 ++ keepG stdS (13, 0) D.length true R, hok, ?_, ?_⟩ ?_
                  · simp only [wkEnv]
                    generalize renTo ([((17, 0), (17, 0)), ((18, 0), (18, 0))] ++ segR std19 RR.length 19 ++ keepG stdS (13, 0) D.length true R) = τ at r13 r17 r18 ⊢
                    simp [lk, renV, renAt, r13, r17, r18]
                  · simp only [wkMem]
                    rw [ms1_ren renTo_zero, eldL_zero]
                    refine congrArg (fun x => Mem.mk (ms1 rows) x 200) (Eq.trans ?_ hkm.symm)
                    generalize renTo ([((17, 0), (17, 0)), ((18, 0), (18, 0))] ++ segR std19 RR.length 19 ++ keepG stdS (13, 0) D.length true R) = τ at r4 ⊢
                    simp [wkLoc, Mem.get, assoc, renBlk, renSegs, renSg, r4]
                  · intro i hi
                    have hEl : (eldL p c L pv D i).length = D.length := eldL_len
                    by_cases h3 : (i : Int) < D.length
                    · exact absurd h3 (by rw [he, List.length_nil]; omega)
                    · obtain rfl : i = D.length := by omega
                      have mD : D.length * 1 = D.length := Nat.mul_one _
                      generalize eldL p c L pv D D.length = E at hEl hN2 ⊢
                      have q13i : assoc (rbag 19 0 RR ++ rdL E R true) 13 0 = .lv true [(0, .cells D.length (outs 14 0 E))] := by rw [assoc_rbag_ne (by decide), rdL_13, hEl, outs_S]; rfl
                      simp only [absE, absL, absF, reduceCtorEq, ↓reduceIte, Nat.reduceEqDiff, Nat.reduceAdd, Nat.reduceLT, Nat.reduceMul, Nat.reduceSub, Nat.reduceLeDiff, Int.reduceLT, Int.reduceLE, Int.reduceEq, Option.isSome_some, implies_true, false_implies, Prod.mk.injEq, ne_eq, not_false_eq_true, not_true_eq_false, ge_iff_le, gt_iff_lt, Int.toNat_natCast, Int.reduceToNat, Int.cast_ofNat_Int, Int.natCast_nonneg, h3, q13i, mD]
                      refine And.intro (by omega) (And.intro (by omega) ?_)
                      have hN3 : redS p L rows (c + 1) = (E ++ [pv], RR) := by rw [hNext, hN2]
                      have hok7 : wkOk ([((207, 0), (13, 0)), ((18, 0), (15, 0))] ++ (segR (growS 14 17 E.length) (E ++ [pv]).length 14 ++ segR std19 RR.length 16)) 200 = true := ok_two (by simp [wkOk]) (fun a b ha hb => growS_inj (by decide) a b (by simpa using ha) (by simpa using hb)) stdS_inj (fun a _ => by have q := growS_fst (B := 14) (t := 17) (n := E.length) (i := a); omega) (fun _ _ => by simp [std19]) (by decide) (by decide) (by decide) (by decide) (by decide)
                        (fun x hx a _ e => by
                          have q := growS_fst (B := 14) (t := 17) (n := E.length) (i := a)
                          have e' := congrArg (·.1) e
                          simp only [List.mem_cons, List.not_mem_nil, or_false] at hx
                          rcases hx with rfl | rfl <;> simp only at e' <;> omega) (fun x hx a _ e => by
                          have e' := congrArg (·.1) e
                          simp only [List.mem_cons, List.not_mem_nil, or_false] at hx
                          rcases hx with rfl | rfl <;> simp [std19] at e') (by simp) (by simp) (fun a b _ _ e => by
                          have q := growS_fst (B := 14) (t := 17) (n := E.length) (i := a)
                          have e' := congrArg (·.1) e
                          simp only [std19] at e'; omega)
                      have s13 := renTo_ok (p := (207, 0)) (q := (13, 0)) hok7 (by simp) (by simp)
                      have s15 := renTo_ok (p := (18, 0)) (q := (15, 0)) hok7 (by simp) (by simp)
                      have u := outs_grow (B := 14) (t := 17) (LL := E) (xs := pv)
                      rw [hpl] at u
                      have w1 : (outsS (growS 14 17 E.length) (E ++ [pv])).map (renAt (renTo ([((207, 0), (13, 0)), ((18, 0), (15, 0))] ++ (segR (growS 14 17 E.length) (E ++ [pv]).length 14 ++ segR std19 RR.length 16)))) = outs 14 0 (E ++ [pv]) := outsS_ren fun j hj => renTo_ok hok7 (by have q := growS_fst (B := 14) (t := 17) (n := E.length) (i := j); omega) (List.mem_append_right _ (List.mem_append_left _ (seg_mem hj)))
                      have w2 : (outs 19 0 RR).map (renAt (renTo ([((207, 0), (13, 0)), ((18, 0), (15, 0))] ++ (segR (growS 14 17 E.length) (E ++ [pv]).length 14 ++ segR std19 RR.length 16)))) = outs 16 0 RR := by
                        rw [outs_S]; exact outsS_ren fun j hj => renTo_ok (p := (19, 0 + j)) hok7 (by simp) (List.mem_append_right _ (List.mem_append_right _ (seg_mem (src := std19) hj)))
                      refine LoopNext.intro (c + 1) (by omega) (by omega) ⟨[((207, 0), (13, 0)), ((18, 0), (15, 0))] ++ (segR (growS 14 17 E.length) (E ++ [pv]).length 14 ++ segR std19 RR.length 16), hok7, ?_, ?_⟩
                      · simp only [wkEnv]
                        generalize renTo ([((207, 0), (13, 0)), ((18, 0), (15, 0))] ++ (segR (growS 14 17 E.length) (E ++ [pv]).length 14 ++ segR std19 RR.length 16)) = τ at s13 s15 ⊢
                        simp [lk, renV, renAt, s13, s15, wc, hN3, hEl]
                      · have hne : (E ++ [pv]).isEmpty = false := by simp
                        rw [hN3]
                        simp only [wkMem, rdM, hne]
                        rw [ms1_ren renTo_zero, wk_two (L1 := E ++ [pv]) (L2 := RR) rfl rfl (fun j hj => by
                            unfold growS
                            by_cases e : j < E.length
                            · rw [if_pos e]
                              have q := rdL_14 (D := E) (R := R) (b := true) e
                              simp only [Nat.zero_add] at q ⊢
                              simp [Mem.get, assoc, assoc_rbag_ne, q, at_app, show ¬ j = E.length by omega]
                            · rw [if_neg e]
                              obtain rfl : j = E.length := by simp at hj; omega
                              simp [Mem.get, assoc, at_app, ib, hpl]) (fun j hj => by
                            have q := assoc_rbag_in (a := 19) (k := 0) (i := j) (LL := RR) (r := rdL E R true) hj
                            simp only [Nat.zero_add, std19] at q ⊢
                            simp [Mem.get, assoc, q]), u]
                        generalize renTo ([((207, 0), (13, 0)), ((18, 0), (15, 0))] ++ (segR (growS 14 17 E.length) (E ++ [pv]).length 14 ++ segR std19 RR.length 16)) = τ at w1 w2 ⊢
                        rw [hEl] at w1
                        simp [wkLoc, Mem.get, assoc, renBlk, renSegs, renSg, w1, w2, rdL, bagA, hEl, show outsS (srcA false) RR = outs 16 0 RR from outs_S.symm]
    · obtain rfl : w = c := by omega
      rw [hD, hR]
      cases hb : D.isEmpty
      · have hne : D ≠ [] := by rintro rfl; cases hb
        have em : rdM rows D R = ⟨ms1 rows, rdL D R false, 200⟩ := by unfold rdM; rw [hb]
        simp only [em]
        simp only [absE, absL, absF, reduceCtorEq, ↓reduceIte, Nat.reduceEqDiff, Nat.reduceAdd, Nat.reduceLT, Nat.reduceMul, Nat.reduceSub, Nat.reduceLeDiff, Int.reduceLT, Int.reduceLE, Int.reduceEq, Option.isSome_some, implies_true, false_implies, Prod.mk.injEq, ne_eq, not_false_eq_true, not_true_eq_false, ge_iff_le, gt_iff_lt, Int.toNat_natCast, Int.reduceToNat, Int.cast_ofNat_Int, Int.natCast_nonneg, hcw, Try.results26]
        refine ⟨keepT D.length R.length, keepT_nodup, keepT_nz, ms1_ren renFin_zero, .inr ⟨hne, ?_, keepT_map⟩⟩
        have r13 : renFin (keepT D.length R.length) 13 0 = some (1, 0) := by simp [renFin, keepT, idx]
        have r15 := keepT_15 (nD := D.length) (nR := R.length)
        simp [renV, renVs, renAt, r13, r15]
      · have he : D = [] := List.isEmpty_iff.1 hb
        have em : rdM rows D R = ⟨ms1 rows, rdL D R true, 200⟩ := by unfold rdM; rw [hb]
        simp only [em]
        simp only [absE, absL, absF, reduceCtorEq, ↓reduceIte, Nat.reduceEqDiff, Nat.reduceAdd, Nat.reduceLT, Nat.reduceMul, Nat.reduceSub, Nat.reduceLeDiff, Int.reduceLT, Int.reduceLE, Int.reduceEq, Option.isSome_some, implies_true, false_implies, Prod.mk.injEq, ne_eq, not_false_eq_true, not_true_eq_false, ge_iff_le, gt_iff_lt, Int.toNat_natCast, Int.reduceToNat, Int.cast_ofNat_Int, Int.natCast_nonneg, hcw, Try.results26]
        have hRr : R = rows := by rw [← hR]; exact redS_nil (by rw [hD]; exact he)
        subst he
        have e1 : (outsS (srcA true) R).map (renAt (renFin [(13, 0), (15, 0)])) = outs 0 1 rows := by rw [outsS_ren (a := 0) (k := 1) fun j hj => renFin_zero _, hRr]
        exact ⟨[(13, 0), (15, 0)], by simp, by simp, ms1_ren renFin_zero, .inl ⟨rfl, by simp [renV, renVs, renAt, renFin, idx, hRr], by simp [Mem.get, assoc, rdL, renBlk, renSegs, renSg, outs_nil, e1, congrArg List.length hRr]⟩⟩

end Go.Proofs.Ytjmenocghjggcaa
