/-
Contracts of functions of the given program, by the abstract walk.
-/
import Derived.Test.YtjmenocghjggcaaAbsY
import Derived.Test.YtjmenocghjggcaaWr
namespace Go.Proofs.Ytjmenocghjggcaa
open Go Go.Abs
set_option linter.unusedVariables false
set_option linter.unusedSectionVars false
set_option linter.unusedSimpArgs false
set_option maxRecDepth 100000
/-! linear algebra modulo p: the reference's reduction as a call on lists of the walk's own -/
theorem assoc_rowV {loc : Loc} {O B : Nat} {LL : LLs} (hOB : O ≠ B) (h0 : assoc loc O 0 = ob B 0 LL) (hi : ∀ i, i < LL.length → assoc loc B (0 + i) = ib (at_ LL i)) (x y : Nat) : assoc (rbag B 0 LL ++ ((O, 0), ob B 0 LL) :: loc) x y = assoc loc x y := by
  by_cases h : x = B
  · subst h
    by_cases h1 : y < LL.length
    · have q := assoc_rbag_in (a := x) (k := 0) (LL := LL) (r := ((O, 0), ob x 0 LL) :: loc) h1
      have q2 := hi y h1
      rw [Nat.zero_add] at q q2; rw [q, q2]
    · rw [assoc_app_out fun z hz => by obtain ⟨i, hi, rfl⟩ := rbag_mem.1 hz; exact fun e => by have := e.2; simp at this; omega, assoc, if_neg (fun e => hOB e.1)]
  · rw [assoc_rbag_ne h, assoc]
    split
    · rename_i e; rw [← e.1, ← e.2]; exact h0.symm
    · rfl
theorem newUps_app {σ : Ren} {n : Nat} : ∀ {xs ys : List Blk} {i : Nat}, newUps σ n i (xs ++ ys) = newUps σ n i xs ++ newUps σ n (i + xs.length) ys
  | [], ys, i => by simp [newUps]
  | x :: xs, ys, i => by
    rw [List.cons_append, newUps, newUps, newUps_app, List.cons_append, List.length_cons, show i + 1 + xs.length = i + (xs.length + 1) by omega]
/-- where the rows that are left lie -/
def restS (n B kR : Nat) (b : Bool) : Nat → Abs.Id := fun j => if b then (B, 0 + j) else (n, kR + 1 + j)
theorem red_via {args : List Blk} {loc : Loc} {n O B L w nr : Nat} {p : Int} {rows : LLs} (hnr : nr = rows.length) (hO : O ≠ 0) (hB : B ≠ 0) (hn : n ≠ 0) (hOB : O ≠ B) (hnO : n ≠ O) (hnB : n ≠ B) (h0 : assoc loc O 0 = ob B 0 rows) (hi : ∀ i, i < rows.length → assoc loc B (0 + i) = ib (at_ rows i))
    (hL : L ≤ 20) (hw : w ≤ L) (hp : PrP p) (hm : Mat p L rows) (hr : rows.length ≤ 10) {K : AV → Ups → List Abs.Id → Prop}
    (hK : ∀ ups rd loc' kR b, (∀ n', (Mem.mk args loc n').upd ups = ⟨args, loc', n'⟩) → (∀ a k, a ≠ n → assoc loc' a k = assoc loc a k) → (redS p L rows w).1.length < kR →
      assoc loc' n 0 = .lv true [(0, .cells (redS p L rows w).1.length (outs n 1 (redS p L rows w).1))] → (∀ j, j < (redS p L rows w).1.length → assoc loc' n (1 + j) = ib (at_ (redS p L rows w).1 j)) →
      assoc loc' n kR = .lv true [(0, .cells (redS p L rows w).2.length (outsS (restS n B kR b) (redS p L rows w).2))] → (∀ j, j < (redS p L rows w).2.length → assoc loc' (restS n B kR b j).1 (restS n B kR b j).2 = ib (at_ (redS p L rows w).2 j)) →
      K (.tup [.ref (.sl n 0 0 0 (redS p L rows w).1.length 1), .ref (.sl n kR 0 0 (redS p L rows w).2.length 1)]) ups rd) :
    CallsVia Try.prog 26 [.i .i64 p, .ref (.sl O 0 0 0 nr 1), .i .i64 w] ⟨args, loc, n⟩ K := by
  subst hnr
  have g0 : ∀ n, (Mem.mk args loc n).get O 0 = ob B 0 rows := fun n => by show (if O = 0 then _ else assoc loc O 0) = _; rw [if_neg hO]; exact h0
  have gi : ∀ n i, i < rows.length → (Mem.mk args loc n).get B (0 + i) = ib (at_ rows i) := fun n i hh => by show (if B = 0 then _ else assoc loc B (0 + i)) = _; rw [if_neg hB]; exact hi i hh
  have rin : ∀ j, j < rows.length → renIn ((O, 0) :: srcs B 0 rows.length) B (0 + j) = some (0, 1 + j) := fun j hj => by
    simp only [renIn, idx, hOB, false_and, if_false, idx_srcs_in hj]
    simp; omega
  have rout : ∀ j, j < rows.length → renOut n ((O, 0) :: srcs B 0 rows.length) 0 (1 + j) = some (B, 0 + j) := fun j hj => by
    show ((O, 0) :: srcs B 0 rows.length)[1 + j]? = _
    rw [show 1 + j = j + 1 by omega, List.getElem?_cons_succ]
    simp [srcs, hj]
  have rnew : ∀ j, renOut n ((O, 0) :: srcs B 0 rows.length) 1 j = some (n, j) := fun j => rfl
  have hzip : ∀ n', (Mem.mk args loc n').upd (zipUps (renOut n ((O, 0) :: srcs B 0 rows.length)) ((O, 0) :: srcs B 0 rows.length) (ms1 rows)) = ⟨args, rbag B 0 rows ++ ((O, 0), ob B 0 rows) :: loc, n'⟩ := fun n' => by
    simp only [ms1, zipUps]
    rw [zipUps_srcs rfl, ob_ren rout]
    simp only [Mem.upd, Mem.put, hO, if_false]
    rw [Mem.upd_bagU hB]
  have hsame := assoc_rowV hOB h0 hi
  generalize rbag B 0 rows ++ ((O, 0), ob B 0 rows) :: loc = loc1 at hzip hsame
  have hargs : ∀ {R : AV → List Blk → List Blk → Prop}, ACalls Try.prog 26 [.i .i64 p, .ref (.sl 0 0 0 0 rows.length 1), .i .i64 w] (ms1 rows) R → (∀ r xs ns, R r xs ns → K (renV (renOut n ((O, 0) :: srcs B 0 rows.length)) r) (zipUps (renOut n ((O, 0) :: srcs B 0 rows.length)) ((O, 0) :: srcs B 0 rows.length) xs ++ newUps (renOut n ((O, 0) :: srcs B 0 rows.length)) n 0 ns) ((O, 0) :: srcs B 0 rows.length)) →
      CallsVia Try.prog 26 [.i .i64 p, .ref (.sl O 0 0 0 rows.length 1), .i .i64 w] ⟨args, loc, n⟩ K := fun h hk => by
    refine CallsVia.args ((O, 0) :: srcs B 0 rows.length) h (row_nodup (.inl hOB)) ?_ (by simp [renVs, renV, renAt, renIn, idx]) ?_ hk
    · intro p hp
      rcases List.mem_cons.1 hp with rfl | hp
      · rw [g0]; simp [ob]
      · obtain ⟨h1, h2, h3⟩ := srcs_mem.1 hp
        obtain ⟨x, y⟩ := p
        simp only at h1 h2 h3
        subst h1
        rw [show y = 0 + y by omega, gi _ _ (by omega)]
        simp [ib]
    · unfold argBlks
      rw [List.map_cons, g0, srcs_get fun i hh => gi _ i hh, ob_ren rin]
      rfl
  by_cases hne : rows.length = 0
  · obtain rfl : rows = [] := List.length_eq_zero_iff.1 hne
    have hcnt : (redS p L [] w).1.length + (redS p L [] w).2.length = 0 := redS_len hp hm hw
    have eD : (redS p L [] w).1 = [] := List.length_eq_zero_iff.1 (by omega)
    have eR : (redS p L [] w).2 = [] := List.length_eq_zero_iff.1 (by omega)
    rw [eD, eR] at hK
    refine hargs (l10Reduce0_ok w p (by omega)) ?_
    rintro _ _ _ ⟨rfl, rfl, rfl⟩
    have h := hK (zipUps (renOut n ((O, 0) :: srcs B 0 ([] : LLs).length)) ((O, 0) :: srcs B 0 ([] : LLs).length) (ms1 []) ++ newUps (renOut n ((O, 0) :: srcs B 0 ([] : LLs).length)) n 0 [.lv true [(0, .cells 0 [])], .lv true [(0, .cells 0 [])]]) ((O, 0) :: srcs B 0 ([] : LLs).length) (((n, 1), .lv true [(0, .cells 0 [])]) :: ((n, 0), .lv true [(0, .cells 0 [])]) :: loc1) 1 false (fun n' => by
      rw [Mem.upd_app, hzip]; simp [newUps, Mem.upd, Mem.put, hn, renBlk, renSegs, renSg]) (fun a k ha => by
      rw [assoc, if_neg (fun e => ha e.1.symm), assoc, if_neg (fun e => ha e.1.symm), hsame]) (by simp) (by simp [assoc, outs_nil]) (fun j hj => absurd hj (by simp)) (by simp [assoc, outsS]) (fun j hj => absurd hj (by simp))
    exact h
  · have hRd := l10Reduce_ok L w p rows hL hw hp hm hr (by omega)
    refine hargs hRd ?_
    rintro r ms ns ⟨rfl, ⟨hD, rfl, rfl⟩ | ⟨hD, rfl, rfl⟩⟩
    · have hR : (redS p L rows w).2 = rows := redS_nil hD
      rw [hD, hR] at hK
      have e1 : (outs 0 1 rows).map (renAt (renOut n ((O, 0) :: srcs B 0 rows.length))) = outs B 0 rows := outs_ren rout
      have eo : outs B 0 rows = outsS (restS n B 1 true) rows := by rw [outs_S]; exact outsS_congr rfl fun j _ => ⟨by simp [restS], rfl⟩
      have h := hK (zipUps (renOut n ((O, 0) :: srcs B 0 rows.length)) ((O, 0) :: srcs B 0 rows.length) (ms1 rows) ++ newUps (renOut n ((O, 0) :: srcs B 0 rows.length)) n 0 [.lv true [(0, .cells 0 [])], .lv true [(0, .cells rows.length (outs 0 1 rows))]]) ((O, 0) :: srcs B 0 rows.length) (((n, 1), .lv true [(0, .cells rows.length (outs B 0 rows))]) :: ((n, 0), .lv true [(0, .cells 0 [])]) :: loc1) 1 true (fun n' => by
        rw [Mem.upd_app, hzip]; simp [newUps, Mem.upd, Mem.put, hn, renBlk, renSegs, renSg, e1]) (fun a k ha => by
        rw [assoc, if_neg (fun e => ha e.1.symm), assoc, if_neg (fun e => ha e.1.symm), hsame]) (by simp) (by simp [assoc, outs_nil]) (fun j hj => absurd hj (by simp)) (by simp [assoc, eo]) (fun j hj => by
        simp only [restS, if_true]
        rw [assoc, if_neg (fun e => hnB e.1), assoc, if_neg (fun e => hnB e.1), hsame]; exact hi j hj)
      simpa [renV, renVs, renAt, rnew] using h
    · generalize (redS p L rows w).1 = D at hK hD ⊢
      generalize (redS p L rows w).2 = R at hK ⊢
      have h := hK (zipUps (renOut n ((O, 0) :: srcs B 0 rows.length)) ((O, 0) :: srcs B 0 rows.length) (ms1 rows) ++ newUps (renOut n ((O, 0) :: srcs B 0 rows.length)) n 0 (ob 1 1 D :: (inn D ++ ob 1 (D.length + 2) R :: inn R))) ((O, 0) :: srcs B 0 rows.length)
        (rbag n (D.length + 2) R ++ ((n, D.length + 1), ob n (D.length + 2) R) :: (rbag n 1 D ++ ((n, 0), ob n 1 D) :: loc1)) (D.length + 1) false (fun n' => by
        have er : renBlk (renOut n ((O, 0) :: srcs B 0 rows.length)) (ob 1 (D.length + 2) R) = ob n (D.length + 2) R := ob_ren fun i _ => rfl
        rw [Mem.upd_app, hzip]
        simp only [newUps, newUps_app, newUps_inn, inn_len, ob_out, er, Mem.upd, Mem.put, hn, if_false, Mem.upd_app, Mem.upd_bagU (show n ≠ 0 from hn)]
        rw [show 0 + 1 + D.length + 1 = D.length + 2 by omega, show 0 + 1 + D.length = D.length + 1 by omega]) (fun a k ha => by
        rw [assoc_rbag_ne ha, assoc, if_neg (fun e => ha e.1.symm), assoc_rbag_ne ha, assoc, if_neg (fun e => ha e.1.symm), hsame]) (by omega) (by
        rw [assoc_rbag_lt (by omega), assoc, if_neg (fun e => by have := e.2; omega), assoc_rbag_lt (by omega), assoc, if_pos ⟨rfl, rfl⟩]; rfl) (fun j hj => by
        rw [assoc_rbag_lt (by omega), assoc, if_neg (fun e => by have := e.2; simp only at this; omega), assoc_rbag_in hj]) (by
        rw [assoc_rbag_lt (by omega), assoc, if_pos ⟨rfl, rfl⟩, ob, outs_S, outsS_congr (s1 := fun j => (n, D.length + 2 + j)) (s2 := restS n B (D.length + 1) false) rfl fun j _ => ⟨by simp [restS], rfl⟩]) (fun j hj => by
        simp only [restS, if_neg (show ¬ (false = true) by decide)]
        rw [show D.length + 1 + 1 + j = D.length + 2 + j by omega, assoc_rbag_in hj])
      simpa [renV, renVs, renAt, rnew] using h

end Go.Proofs.Ytjmenocghjggcaa
