/-
Contracts of functions of the given program, by the abstract walk.
-/
import Derived.Test.YtcaadjjgggjefaaAbsY
import Derived.Test.YtcaadjjgggjefaaJd
namespace Go.Proofs.Ytcaadjjgggjefaa
open Go Go.Abs
set_option linter.unusedVariables false
set_option linter.unusedSectionVars false
set_option linter.unusedSimpArgs false
set_option maxRecDepth 100000
/-! a list of lists that grows at its end -/
abbrev Pairs := List (Abs.Id × Abs.Id)
def stdR (B n : Nat) : Pairs := rids (fun j => (B, 0 + j)) n B 0
/-- The renaming after one more list: its block t, the outer block o. -/
def snocS (o : Abs.Id) (O t B n : Nat) : Pairs := (o, (O, 0)) :: ((t, 0), (B, 0 + n)) :: stdR B n
theorem wk_snoc {m : Mem} {pre : Pairs} {o : Abs.Id} {O t B n : Nat} {LL : LLs} {xs : List Int} (hn : n = LL.length) (hB0 : B ≠ 0) (ht0 : t ≠ 0) (htB : t ≠ B) (hpre : ∀ x ∈ pre, x.1.1 ≠ B ∧ x.1.1 ≠ t) (ho : o.1 ≠ t ∧ o.1 ≠ B)
    (hO : m.get o.1 o.2 = .lv true [(0, .cells (n + 1) (outs B 0 LL ++ [.sl t 0 0 0 xs.length 1]))]) (hT : m.get t 0 = ib xs) (hB : ∀ j, j < n → m.get B (0 + j) = ib (at_ LL j)) :
    wkLoc m (renTo (pre ++ snocS o O t B n)) (pre ++ snocS o O t B n) = wkLoc m (renTo (pre ++ snocS o O t B n)) pre ++ ((O, 0), ob B 0 (LL ++ [xs])) :: rbag B 0 (LL ++ [xs]) := by
  subst hn
  have hτ : ∀ j, j < LL.length → renTo (pre ++ snocS o O t B LL.length) B (0 + j) = some (B, 0 + j) := fun j hj => by
    have e : pre ++ snocS o O t B LL.length = (pre ++ [(o, (O, 0)), ((t, 0), (B, 0 + LL.length))]) ++ stdR B LL.length := by simp [snocS]
    rw [e]
    refine renTo_row (src := fun j => (B, 0 + j)) std_inj hB0 hj fun x hx h => ?_
    rcases List.mem_append.1 hx with hx | hx
    · exact (hpre x hx).1 (by rw [h])
    · simp at hx
      rcases hx with rfl | rfl
      · exact ho.2 (by rw [show o = _ from h])
      · exact htB (by simpa using congrArg (·.1) h)
  have hτt : renTo (pre ++ snocS o O t B LL.length) t 0 = some (B, 0 + LL.length) := by
    rw [renTo_app, if_neg ht0, renTo_out ht0 fun x hx h => (hpre x hx).2 (by rw [h])]
    simp only [snocS]
    rw [renTo, if_neg ht0, if_neg (fun h => ho.1 h.1), renTo, if_neg ht0]
    simp
  generalize renTo (pre ++ snocS o O t B LL.length) = τ at hτ hτt ⊢
  rw [wkLoc_app]
  congr 1
  rw [snocS, wkLoc, wkLoc, stdR, wkLoc_rids rfl fun j hj => hB j hj, hO, hT, renBlk_ib, rbag_app]
  congr 1
  congr 1
  simp only [renBlk, renSegs, renSg, List.map_append, List.map_cons, List.map_nil, outs_ren hτ, renAt, hτt, ob, outs_app, List.length_append, List.length_singleton]
theorem wkOk_snoc {pre : Pairs} {o : Abs.Id} {O t B n next : Nat} (h : wkOk (pre ++ [(o, (O, 0)), ((t, 0), (B, 0 + n))]) next = true) (hB0 : B ≠ 0) (hBn : B < next) (htB : t ≠ B) (hO : O ≠ B) (hpre : ∀ x ∈ pre, x.1.1 ≠ B ∧ x.2.1 ≠ B) (ho : o.1 ≠ B) :
    wkOk (pre ++ snocS o O t B n) next = true := by
  have e : pre ++ snocS o O t B n = (pre ++ [(o, (O, 0)), ((t, 0), (B, 0 + n))]) ++ stdR B n := by simp [snocS]
  rw [e]
  refine wkOk_rids h std_inj (fun _ _ => hB0) hB0 hBn (fun x hx i hi he => ?_) fun x hx i hi he => ?_
  · rcases List.mem_append.1 hx with hx | hx
    · exact (hpre x hx).1 (by rw [he])
    · simp at hx
      rcases hx with rfl | rfl
      · exact ho (by rw [show o = _ from he])
      · exact htB (by simpa using congrArg (·.1) he)
  · rcases List.mem_append.1 hx with hx | hx
    · exact (hpre x hx).2 (by rw [he])
    · simp at hx
      rcases hx with rfl | rfl
      · exact hO (by simpa using congrArg (·.1) he)
      · have : n = i := by simpa using congrArg (·.2) he
        omega
/-- The renaming that keeps a list of lists as it is. -/
theorem wk_keep {m : Mem} {pre : Pairs} {B n : Nat} {LL : LLs} (hn : n = LL.length) (hB : ∀ j, j < n → m.get B (0 + j) = ib (at_ LL j)) :
    wkLoc m (renTo (pre ++ stdR B n)) (pre ++ stdR B n) = wkLoc m (renTo (pre ++ stdR B n)) pre ++ rbag B 0 LL := by
  subst hn
  rw [wkLoc_app, stdR, wkLoc_rids rfl fun j hj => hB j hj]
theorem keep_at {pre : Pairs} {B n : Nat} (hB0 : B ≠ 0) (hpre : ∀ x ∈ pre, x.1.1 ≠ B) {j : Nat} (hj : j < n) : renTo (pre ++ stdR B n) B (0 + j) = some (B, 0 + j) :=
  renTo_row (src := fun j => (B, 0 + j)) std_inj hB0 hj fun x hx h => hpre x hx (by rw [h])
theorem wkOk_keep {pre : Pairs} {B n next : Nat} (h : wkOk pre next = true) (hB0 : B ≠ 0) (hBn : B < next) (hpre : ∀ x ∈ pre, x.1.1 ≠ B ∧ x.2.1 ≠ B) : wkOk (pre ++ stdR B n) next = true :=
  wkOk_rids h std_inj (fun _ _ => hB0) hB0 hBn (fun x hx i hi he => (hpre x hx).1 (by rw [he])) fun x hx i hi he => (hpre x hx).2 (by rw [he])
/-- A list of lists that is handed back. -/
theorem row_map {mem : Mem} {p : Abs.Id} {B : Nat} {LL : LLs} (hp : p.1 ≠ B) (hB : B ≠ 0) (h : mem.get p.1 p.2 = ob B 0 LL) (hg : ∀ j, j < LL.length → mem.get B (0 + j) = ib (at_ LL j)) :
    (p :: srcs B 0 LL.length).map (fun q => renBlk (renFin (p :: srcs B 0 LL.length)) (mem.get q.1 q.2)) = ob 1 1 LL :: inn LL := by
  rw [List.map_cons, srcs_get hg, h, ob_ren (a' := 1) (k' := 1) fun j hj => renFin_row (.inl hp) hB hj]
theorem row_map' {mem : Mem} {p : Abs.Id} {B k : Nat} {LL : LLs} (hp : p.1 ≠ B ∨ p.2 < k) (hB : B ≠ 0) (h : mem.get p.1 p.2 = ob B k LL) (hg : ∀ j, j < LL.length → mem.get B (k + j) = ib (at_ LL j)) :
    (p :: srcs B k LL.length).map (fun q => renBlk (renFin (p :: srcs B k LL.length)) (mem.get q.1 q.2)) = ob 1 1 LL :: inn LL := by
  rw [List.map_cons, srcs_get hg, h, ob_ren (a' := 1) (k' := 1) fun j hj => renFin_row hp hB hj]
/-- What a call hands back as a list of lists. -/
theorem renOut_one {nid i : Nat} {F : List Abs.Id} : renOut nid F 1 i = some (nid, i) := rfl
theorem ob_out {nid : Nat} {F : List Abs.Id} {LL : LLs} : renBlk (renOut nid F) (ob 1 1 LL) = ob nid 1 LL := ob_ren fun i _ => rfl

end Go.Proofs.Ytcaadjjgggjefaa
