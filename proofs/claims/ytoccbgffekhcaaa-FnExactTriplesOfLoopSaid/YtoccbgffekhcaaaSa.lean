/-
Contracts of functions of the given program, by the abstract walk.
-/
import Derived.Test.YtoccbgffekhcaaaAbsY
import Derived.Test.YtoccbgffekhcaaaRe
import Derived.Test.YtoccbgffekhcaaaNf
import Derived.Test.YtoccbgffekhcaaaDi
namespace Go.Proofs.Ytoccbgffekhcaaa
open Go Go.Abs
set_option linter.unusedVariables false
set_option linter.unusedSectionVars false
set_option linter.unusedSimpArgs false
set_option maxRecDepth 100000
/-! TriplesOfLoop: the list of triples -/
def lsT (t : List Int) (a : Nat) : Nat → LLs
  | 0 => []
  | b + 1 => if a < b ∧ b < cl t a b then lsT t a b ++ [[(a : Int) - 1, (b : Int) - 1, (cl t a b : Int) - 1]] else lsT t a b
def trL (t : List Int) (N : Nat) : Nat → LLs
  | 0 => []
  | a + 1 => if a = 0 then [] else trL t N a ++ lsT t a N
theorem lsT_nil {t : List Int} {a : Nat} : ∀ {b}, b ≤ a + 1 → lsT t a b = []
  | 0, _ => rfl
  | b + 1, h => by rw [lsT, if_neg (by omega)]; exact lsT_nil (by omega)
theorem lsT_len {t : List Int} {a : Nat} : ∀ {b}, (lsT t a b).length ≤ b
  | 0 => by simp [lsT]
  | b + 1 => by
    have := lsT_len (t := t) (a := a) (b := b)
    rw [lsT]; split
    · rw [List.length_append]; simp; omega
    · omega
theorem trL_len {t : List Int} {N : Nat} : ∀ {a}, (trL t N a).length ≤ a * N
  | 0 => by simp [trL]
  | a + 1 => by
    have h1 := trL_len (t := t) (N := N) (a := a)
    have h2 := lsT_len (t := t) (a := a) (b := N)
    rw [trL, Nat.add_mul]; split
    · simp
    · rw [List.length_append]; omega
theorem lsT_row {t : List Int} {a : Nat} : ∀ {b}, ∀ xs ∈ lsT t a b, xs.length = 3
  | 0, xs, h => by simp [lsT] at h
  | b + 1, xs, h => by
    rw [lsT] at h
    split at h
    · rcases List.mem_append.1 h with h | h
      · exact lsT_row xs h
      · simp at h; subst h; rfl
    · exact lsT_row xs h
theorem trL_row {t : List Int} {N : Nat} : ∀ {a}, ∀ xs ∈ trL t N a, xs.length = 3
  | 0, xs, h => by simp [trL] at h
  | a + 1, xs, h => by
    rw [trL] at h
    split at h
    · simp at h
    · rcases List.mem_append.1 h with h | h
      · exact trL_row xs h
      · exact lsT_row xs h
theorem trL_at {t : List Int} {N a i : Nat} (h : i < (trL t N a).length) : (at_ (trL t N a) i).length = 3 := by
  rw [at_lt h]; exact trL_row _ (List.getElem_mem h)
theorem trL_fits {t : List Int} {N : Nat} (hN : N ≤ 10) : FitsL (trL t N N) := by
  have h1 := trL_len (t := t) (N := N) (a := N)
  have h2 : N * N ≤ 100 := Nat.le_trans (Nat.mul_le_mul hN hN) (by decide)
  exact ⟨by omega, fun i hi => by rw [trL_at hi]; decide⟩
open Classical in
noncomputable def trOk (n : Int) (t : List Int) : Bool := decide (tlR (n - 1) (trL t n.toNat n.toNat) = .tup [.agg (sqS n t), .i .i64 0])
theorem trOk_iff {n : Int} {t : List Int} : trOk n t = true ↔ tlR (n - 1) (trL t n.toNat n.toNat) = .tup [.agg (sqS n t), .i .i64 0] := by unfold trOk; exact @decide_eq_true_iff _ (_)
noncomputable def tolB (n : Int) (t : List Int) : Bool := sqB n t && (loopB n t && trOk n t)
noncomputable def tolC (n : Int) (t : List Int) : Int := if sqB n t then 5 else 1
/-- A call that is handed one list of lists whose rows lie elsewhere. -/
theorem assoc_rowW {loc : Loc} {O B : Nat} {LL : LLs} (hOB : O ≠ B) (h0 : assoc loc O 0 = ob B 0 LL) (hi : ∀ i, i < LL.length → assoc loc B (0 + i) = ib (at_ LL i)) (x y : Nat) : assoc (rbag B 0 LL ++ ((O, 0), ob B 0 LL) :: loc) x y = assoc loc x y := by
  by_cases h : x = B
  · subst h
    by_cases h1 : y < LL.length
    · have q := assoc_rbag_in (a := x) (k := 0) (LL := LL) (r := ((O, 0), ob x 0 LL) :: loc) h1
      have q2 := hi y h1
      rw [Nat.zero_add] at q q2; rw [q, q2]
    · rw [assoc_app_out fun z hz => by obtain ⟨i, hi, rfl⟩ := rbag_mem.1 hz; exact fun e => by have := e.2; simp at this; omega, assoc, if_neg (fun e => hOB e.1)]
  · rw [assoc_rbag_ne h, assoc]
    split
    · rename_i e; rw [← e.1, ← e.2]; exact h0.symm
    · rfl
theorem CallsVia.rowW {P : Program} {f : FuncId} {args : List Blk} {loc : Loc} {n O B : Nat} {LL : LLs} {v : AV} {vs vs' : List AV} (hO : O ≠ 0) (hB : B ≠ 0) (hOB : O ≠ B) (h0 : assoc loc O 0 = ob B 0 LL) (hi : ∀ i, i < LL.length → assoc loc B (0 + i) = ib (at_ LL i)) (hv : ∀ σ : Ren, σ O 0 = some (0, 0) → renVs σ vs = vs') (hr : ∀ σ, renV σ v = v)
    (h : ACalls P f vs' (ms1 LL) (fun r ms ns => r = v ∧ ms = ms1 LL ∧ ns = []))
    {K : AV → Ups → List Abs.Id → Prop} (hK : ∀ ups rd loc', (∀ n, (Mem.mk args loc n).upd ups = ⟨args, loc', n⟩) → (∀ a k, assoc loc' a k = assoc loc a k) → K v ups rd) :
    CallsVia P f vs ⟨args, loc, n⟩ K := by
  have g0 : ∀ n, (Mem.mk args loc n).get O 0 = ob B 0 LL := fun n => by show (if O = 0 then _ else assoc loc O 0) = _; rw [if_neg hO]; exact h0
  have gi : ∀ n i, i < LL.length → (Mem.mk args loc n).get B (0 + i) = ib (at_ LL i) := fun n i hh => by show (if B = 0 then _ else assoc loc B (0 + i)) = _; rw [if_neg hB]; exact hi i hh
  have rin : ∀ j, j < LL.length → renIn ((O, 0) :: srcs B 0 LL.length) B (0 + j) = some (0, 1 + j) := fun j hj => by
    simp only [renIn, idx, hOB, false_and, if_false, idx_srcs_in hj]
    simp; omega
  have rout : ∀ j, j < LL.length → renOut n ((O, 0) :: srcs B 0 LL.length) 0 (1 + j) = some (B, 0 + j) := fun j hj => by
    show ((O, 0) :: srcs B 0 LL.length)[1 + j]? = _
    rw [show 1 + j = j + 1 by omega, List.getElem?_cons_succ]
    simp [srcs, hj]
  refine CallsVia.args ((O, 0) :: srcs B 0 LL.length) h (row_nodup (.inl hOB)) ?_ (hv _ (by simp [renIn, idx])) ?_ ?_
  · intro p hp
    rcases List.mem_cons.1 hp with rfl | hp
    · rw [g0]; simp [ob]
    · obtain ⟨h1, h2, h3⟩ := srcs_mem.1 hp
      obtain ⟨x, y⟩ := p
      simp only at h1 h2 h3
      subst h1
      rw [show y = 0 + y by omega, gi _ _ (by omega)]
      simp [ib]
  · unfold argBlks
    rw [List.map_cons, g0, srcs_get fun i hh => gi _ i hh, ob_ren rin]
    rfl
  · rintro _ _ _ ⟨rfl, rfl, rfl⟩
    rw [hr]
    refine hK _ _ (rbag B 0 LL ++ ((O, 0), ob B 0 LL) :: loc) (fun n' => ?_) fun a k => assoc_rowW hOB h0 hi a k
    simp only [ms1, zipUps, newUps, List.append_nil]
    rw [zipUps_srcs rfl, ob_ren rout]
    simp only [Mem.upd, Mem.put, hO, if_false]
    rw [Mem.upd_bagU hB]

end Go.Proofs.Ytoccbgffekhcaaa
