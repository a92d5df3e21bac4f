/-
Contracts of functions of the given program, by the abstract walk.
-/
import Derived.Test.YtoccbgffekhcaaaAbsY
import Derived.Test.YtoccbgffekhcaaaVd
namespace Go.Proofs.Ytoccbgffekhcaaa
open Go Go.Abs
set_option linter.unusedVariables false
set_option linter.unusedSectionVars false
set_option linter.unusedSimpArgs false
set_option maxRecDepth 100000
/-! what the laws about identities compare -/
theorem SlAtB.ren {j : Nat} {A : Atom} {xs : List Int} {ms : List Blk} (h : SlAtB j A xs ms) {σ : Ren} (hσ : ∀ k, k < ms.length → σ 0 k = some (0, k)) : renAt σ A = A := by
  rcases h with ⟨rfl, _⟩ | ⟨rfl, _⟩ | ⟨rfl, hg⟩
  · rfl
  · rfl
  · have hj : j < ms.length := by
      apply Decidable.byContradiction
      intro hn
      rw [List.getD_eq_getElem?_getD, List.getElem?_eq_none (by omega)] at hg
      cases hg
    simp only [renAt, hσ j hj]
theorem idA_st {j0 j1 : Nat} {A B : Atom} {xs ys : List Int} {ms : List Blk} (h0 : SlAtB j0 A xs ms) (h1 : SlAtB j1 B ys ms) : StVs ms [idA A B] := fun σ hσ => by
  simp [idA, renVs, renV, renSegs, renSg, h0.ren hσ, h1.ren hσ]
theorem idA_st2 {j0 j1 : Nat} {A B : Atom} {xs ys : List Int} {ms : List Blk} {z : Int} (h0 : SlAtB j0 A xs ms) (h1 : SlAtB j1 B ys ms) : StVs ms [idA A B, .i .i64 z] := fun σ hσ => by
  simp [idA, renVs, renV, renSegs, renSg, h0.ren hσ, h1.ren hσ]
noncomputable def cntR (n : Int) (t xs ys : List Int) (k l : Nat) : AV := if askB n t xs ys k l then .tup [.i .i64 (foX (cntG n.toNat t xs ys k l) n.toNat 0 n.toNat : Nat), .i .i64 0] else .tup [.i .i64 0, .i .i64 1]
noncomputable def hldR (n : Int) (t xs ys : List Int) (k l : Nat) : AV := if askB n t xs ys k l then .tup [.b (hldB n.toNat t xs ys k l), .i .i64 0] else .tup [.b false, .i .i64 1]
theorem implCountR_ok (n : Int) (t xs ys : List Int) (k l : Nat) (ht : Bytes 100 t) (hk : k ≤ 2 ^ 20) (hl : l ≤ 2 ^ 20) :
    ACalls Try.prog 44 [.agg (sqS n t), idV 0 1 k l] [bk k xs, bk l ys] (fun v ms ns => v = cntR n t xs ys k l ∧ ms = [bk k xs, bk l ys] ∧ ns = []) := by
  unfold cntR
  cases h : askB n t xs ys k l
  · exact implCount_no n t xs ys k l ht hk hl h
  · have hs := sqB_iff.1 (askB_iff.1 h).1
    obtain ⟨N, rfl⟩ : ∃ N : Nat, n = N := ⟨n.toNat, by have := hs.1; omega⟩
    rw [show (N : Int).toNat = N by omega]
    exact implCount_yes N t xs ys k l ht hk hl h
theorem specCountR_ok (n : Int) (t xs ys : List Int) (k l : Nat) (ht : Bytes 100 t) (hk : k ≤ 2 ^ 20) (hl : l ≤ 2 ^ 20) :
    ACalls Try.prog 42 [.agg (sqS n t), idV 0 1 k l] [bk k xs, bk l ys] (fun v ms ns => v = cntR n t xs ys k l ∧ ms = [bk k xs, bk l ys] ∧ ns = []) := by
  unfold cntR
  cases h : askB n t xs ys k l
  · exact specCount_no n t xs ys k l ht hk hl h
  · have hs := sqB_iff.1 (askB_iff.1 h).1
    obtain ⟨N, rfl⟩ : ∃ N : Nat, n = N := ⟨n.toNat, by have := hs.1; omega⟩
    rw [show (N : Int).toNat = N by omega]
    exact specCount_yes N t xs ys k l ht hk hl h
theorem implHoldsR_ok (n : Int) (t xs ys : List Int) (k l : Nat) (ht : Bytes 100 t) (hk : k ≤ 2 ^ 20) (hl : l ≤ 2 ^ 20) :
    ACalls Try.prog 47 [.agg (sqS n t), idV 0 1 k l] [bk k xs, bk l ys] (fun v ms ns => v = hldR n t xs ys k l ∧ ms = [bk k xs, bk l ys] ∧ ns = []) := by
  unfold hldR
  cases h : askB n t xs ys k l
  · exact implHolds_no n t xs ys k l ht hk hl h
  · have hs := sqB_iff.1 (askB_iff.1 h).1
    obtain ⟨N, rfl⟩ : ∃ N : Nat, n = N := ⟨n.toNat, by have := hs.1; omega⟩
    rw [show (N : Int).toNat = N by omega]
    exact implHolds_yes N t xs ys k l ht hk hl h
theorem specHoldsR_ok (n : Int) (t xs ys : List Int) (k l : Nat) (ht : Bytes 100 t) (hk : k ≤ 2 ^ 20) (hl : l ≤ 2 ^ 20) :
    ACalls Try.prog 46 [.agg (sqS n t), idV 0 1 k l] [bk k xs, bk l ys] (fun v ms ns => v = hldR n t xs ys k l ∧ ms = [bk k xs, bk l ys] ∧ ns = []) := by
  unfold hldR
  cases h : askB n t xs ys k l
  · exact specHolds_no n t xs ys k l ht hk hl h
  · have hs := sqB_iff.1 (askB_iff.1 h).1
    obtain ⟨N, rfl⟩ : ∃ N : Nat, n = N := ⟨n.toNat, by have := hs.1; omega⟩
    rw [show (N : Int).toNat = N by omega]
    exact specHolds_yes N t xs ys k l ht hk hl h
theorem cnt_form (n : Int) (t xs ys : List Int) (k l : Nat) : ∃ b e, cntR n t xs ys k l = .tup [.i .i64 b, .i .i64 e] := by
  unfold cntR; split
  · exact ⟨_, _, rfl⟩
  · exact ⟨_, _, rfl⟩
theorem hld_form (n : Int) (t xs ys : List Int) (k l : Nat) : ∃ b e, hldR n t xs ys k l = .tup [.b b, .i .i64 e] := by
  unfold hldR; split
  · exact ⟨_, _, rfl⟩
  · exact ⟨_, _, rfl⟩
theorem chk_y {ops : List Oper} {j : Nat} {wr rd : List Abs.Id} : ∀ {h : Hist} {l : List Nat}, h.map (fun x => x.1) = l → (l.all fun i => ordB ops i j) = true → chk ops j wr rd h
  | [], _, _, _ => trivial
  | (i, wr', rd') :: r, _, rfl, hh => by
    simp only [List.map_cons, List.all_cons, Bool.and_eq_true] at hh
    refine ⟨?_, chk_y rfl hh.2⟩
    rw [hh.1, Bool.or_true]
theorem newUps_id {n : Nat} {F : List Abs.Id} {k l : Nat} {xs ys : List Int} : newUps (renOut n F) n 0 [.lv true [(0, .ints .u8 k xs)], .lv true [(0, .ints .u8 l ys)]] = [((n, 0), .lv true [(0, .ints .u8 k xs)]), ((n, 1), .lv true [(0, .ints .u8 l ys)])] := rfl
theorem renV_id {n : Nat} {F : List Abs.Id} {k l : Nat} : renV (renOut n F) (.agg [(0, .cells 1 [.sl 1 0 0 0 k 1]), (1, .cells 1 [.sl 1 1 0 0 l 1])]) = .agg [(0, .cells 1 [.sl n 0 0 0 k 1]), (1, .cells 1 [.sl n 1 0 0 l 1])] := rfl
theorem disj_new {n : Nat} {l r : List Abs.Id} (hl : l.all (fun p => p.1 != 0 && p.1 != n) = true) (hr : ∀ p ∈ r, p.1 = 0 ∨ p.1 = n) : disj l r = true ∧ disj r l = true := by
  rw [List.all_eq_true] at hl
  constructor
  · unfold disj
    rw [List.all_eq_true]
    intro p hp
    have := hl p hp
    simp only [Bool.and_eq_true, bne_iff_ne, ne_eq] at this
    simp only [Bool.not_eq_true', List.contains_eq_mem, decide_eq_false_iff_not]
    exact fun hm => (hr p hm).elim this.1 this.2
  · unfold disj
    rw [List.all_eq_true]
    intro p hp
    simp only [Bool.not_eq_true', List.contains_eq_mem, decide_eq_false_iff_not]
    intro hm
    have := hl p hm
    simp only [Bool.and_eq_true, bne_iff_ne, ne_eq] at this
    exact (hr p hp).elim this.1 this.2

end Go.Proofs.Ytoccbgffekhcaaa
