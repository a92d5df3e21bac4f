/-
Contracts of functions of the given program, by the abstract walk.
-/
import Derived.Test.YtjmenocghjggcaaAbsY
import Derived.Test.YtjmenocghjggcaaFa
import Derived.Test.YtjmenocghjggcaaDq
namespace Go.Proofs.Ytjmenocghjggcaa
open Go Go.Abs
set_option linter.unusedVariables false
set_option linter.unusedSectionVars false
set_option linter.unusedSimpArgs false
set_option maxRecDepth 100000
/-! lists of lists that a law is handed -/
theorem put_same {m : Mem} {j : Nat} {B : Blk} (h : m.get 0 j = B) : m.put (0, j) B = m := by
  have h' : m.args.getD j .dead = B := h
  show { m with args := m.args.set j B } = m
  have e : m.args.set j B = m.args := by
    apply List.ext_getElem
    · simp
    · intro i h1 h2
      rw [List.getElem_set]
      split
      · rename_i e; subst e; simp [h2] at h'; exact h'.symm
      · rfl
  rw [e]
def szR (left : Int) (k : Nat) : Int := if left - k < 0 then -1 else left - k
theorem maxLen_le : maxLen < 2 ^ 63 := by decide
theorem toInts_any {j : Nat} {A : Atom} {B : Blk} {xs : List Int} (hA : SlAny j A B xs) {m : Mem} (hg : m.get 0 j = B) (hx : xs.length ≤ 2 ^ 20) {K : AV → Ups → List Abs.Id → Prop}
    (hK : ∀ ups rd, m.upd ups = m.upd [((m.next, 0), ib xs)] → K (.ref (.sl m.next 0 0 0 xs.length 1)) ups rd) : CallsVia Try.prog 12 [.ref A] m K := by
  rcases hA with ⟨rfl, rfl⟩ | ⟨rfl, rfl⟩ | ⟨rfl, rfl⟩
  · refine CallsVia.none toInts_nil ?_
    rintro _ _ _ ⟨rfl, rfl, rfl⟩
    refine hK _ _ ?_
    rfl
  · refine CallsVia.none toInts_sl0 ?_
    rintro _ _ _ ⟨rfl, rfl, rfl⟩
    refine hK _ _ ?_
    rfl
  · refine CallsVia.args [(0, j)] (toInts_ok xs.length xs false rfl hx) (by simp) (by simp [hg]) (by simp [renVs, renV, renAt, renIn, idx]) (by simp [argBlks, hg, renBlk, renSegs, renSg]) ?_
    rintro _ _ _ ⟨rfl, rfl, rfl⟩
    refine hK _ _ ?_
    simp only [zipUps, newUps, List.nil_append, List.cons_append, Mem.upd, renBlk, renSegs, renSg]
    rw [put_same hg]; rfl
theorem msren {LL : LLs} {As : List Atom} {Bs : List Blk} (h : LArg LL As Bs) {σ : Ren} (hs : ∀ k, σ 0 k = some (0, k)) : (lms LL As Bs).map (renBlk σ) = lms LL As Bs := by
  simp only [lms, List.map_cons, renBlk, renSegs, renSg, (h.ren σ fun k _ => hs k).1, (h.ren σ fun k _ => hs k).2]
theorem renTo_zero {σ : List (Abs.Id × Abs.Id)} (k : Nat) : renTo σ 0 k = some (0, k) := by cases σ <;> simp [renTo]
theorem renFin_zero {keep : List Abs.Id} (k : Nat) : renFin keep 0 k = some (0, k) := by simp [renFin]
theorem LArg.get {LL : LLs} {As : List Atom} {Bs : List Blk} {i : Nat} : (lms LL As Bs).getD (1 + i) .dead = Bs.getD i .dead := by rw [lms, Nat.add_comm, List.getD_cons_succ]
theorem LArg.get0 {LL : LLs} {As : List Atom} {Bs : List Blk} : (lms LL As Bs).getD 0 .dead = .lv false [(0, .cells LL.length As)] := rfl
theorem take_at {LL : LLs} {i : Nat} (h : i < LL.length) : LL.take (i + 1) = LL.take i ++ [at_ LL i] := by
  rw [List.take_succ_eq_append_getElem h, at_lt h]
theorem take_len {LL : LLs} {i : Nat} (h : i ≤ LL.length) : (LL.take i).length = i := by simp; omega
theorem at_take {LL : LLs} {i j : Nat} (h : j < i) : at_ (LL.take i) j = at_ LL j := by
  unfold at_; simp [List.getElem?_take, h]
def padO (a k : Nat) (LL : LLs) (i : Nat) : List Atom := outs a k (LL.take i) ++ List.replicate (LL.length - i) .nils
theorem padO_set {a k i : Nat} {LL : LLs} {x : Atom} (h : i < LL.length) : (padO a k LL i).set i x = outs a k (LL.take i) ++ x :: List.replicate (LL.length - (i + 1)) .nils := by
  unfold padO
  have e : (outs a k (LL.take i)).length = i := by rw [outs_len, take_len (by omega)]
  rw [List.set_append_right _ _ (by omega), e, Nat.sub_self, show LL.length - i = (LL.length - (i + 1)) + 1 by omega, List.replicate_succ, List.set_cons_zero]
theorem padO_next {a k i : Nat} {LL : LLs} (h : i < LL.length) : padO a k LL (i + 1) = outs a k (LL.take i) ++ .sl a (k + i) 0 0 (at_ LL i).length 1 :: List.replicate (LL.length - (i + 1)) .nils := by
  unfold padO
  rw [take_at h, outs_app, take_len (by omega), List.append_assoc]; rfl
theorem padO_zero {a k : Nat} {LL : LLs} : padO a k LL 0 = List.replicate LL.length .nils := by simp [padO, outs]
theorem padO_all {a k : Nat} {LL : LLs} : padO a k LL LL.length = outs a k LL := by simp [padO]
theorem padO_len {a k i : Nat} {LL : LLs} (h : i ≤ LL.length) : (padO a k LL i).length = LL.length := by unfold padO; rw [List.length_append, outs_len, take_len h]; simp; omega
theorem srcs_get {σ : Ren} {mem : Mem} {a k : Nat} {LL : LLs} (h : ∀ i, i < LL.length → mem.get a (k + i) = ib (at_ LL i)) : (srcs a k LL.length).map (fun p => renBlk σ (mem.get p.1 p.2)) = inn LL := by
  unfold srcs inn
  rw [List.map_map]
  exact List.map_congr_left fun i hi => by simp only [Function.comp, h i (List.mem_range.1 hi)]; rfl
theorem row_nodup {p : Abs.Id} {a k m : Nat} (h : p.1 ≠ a ∨ p.2 < k) : (p :: srcs a k m).Nodup := by
  rw [List.nodup_cons]
  refine ⟨fun hm => ?_, srcs_nodup⟩
  have := srcs_mem.1 hm
  rcases h with h | h
  · exact h this.1
  · omega
theorem row_keep {p : Abs.Id} {a k m : Nat} (h : p.1 ≠ 0) (ha : a ≠ 0) : ∀ q ∈ p :: srcs a k m, q.1 ≠ 0 := by
  intro q hq
  rcases List.mem_cons.1 hq with rfl | hq
  · exact h
  · rw [(srcs_mem.1 hq).1]; exact ha
theorem renFin_row {p : Abs.Id} {a k m j : Nat} (h : p.1 ≠ a ∨ p.2 < k) (ha : a ≠ 0) (hj : j < m) : renFin (p :: srcs a k m) a (k + j) = some (1, 1 + j) := by
  have e : ¬(p.1 = a ∧ p.2 = k + j) := by omega
  simp only [renFin, idx, e, ha, idx_srcs_in hj, if_false, Option.map_some]
  simp; omega
/-- Two lists of lists. -/
def ms2 (LL : LLs) : List Blk := ob 0 2 LL :: ob 0 (2 + LL.length) LL :: (inn LL ++ inn LL)
theorem ob_zero {σ : Ren} (hs : ∀ k, σ 0 k = some (0, k)) {k : Nat} {LL : LLs} : renBlk σ (ob 0 k LL) = ob 0 k LL := ob_ren fun i _ => by rw [hs]
theorem ms2_ren {σ : Ren} (hs : ∀ k, σ 0 k = some (0, k)) {LL : LLs} : (ms2 LL).map (renBlk σ) = ms2 LL := by
  simp only [ms2, List.map_cons, List.map_append, ob_zero hs, inn_ren]
theorem ms2_a {LL : LLs} {i : Nat} (h : i < LL.length) : (ms2 LL).getD (2 + i) .dead = ib (at_ LL i) := by
  rw [ms2, show 2 + i = i + 1 + 1 by omega, List.getD_cons_succ, List.getD_cons_succ, List.getD_eq_getElem?_getD, List.getElem?_append_left (by rw [inn_len]; exact h)]
  rw [← List.getD_eq_getElem?_getD, inn_get h]
theorem ms2_b {LL : LLs} {i : Nat} (h : i < LL.length) : (ms2 LL).getD (2 + LL.length + i) .dead = ib (at_ LL i) := by
  rw [ms2, show 2 + LL.length + i = LL.length + i + 1 + 1 by omega, List.getD_cons_succ, List.getD_cons_succ, List.getD_eq_getElem?_getD, List.getElem?_append_right (by rw [inn_len]; omega)]
  rw [inn_len, Nat.add_sub_cancel_left, ← List.getD_eq_getElem?_getD, inn_get h]
theorem put_ib {m : Mem} {j : Nat} {B : Blk} (h : m.get 0 j = B) : m.upd [((0, j), B)] = m := put_same h
def preLen (LL : LLs) : Nat → Nat
  | 0 => 0
  | i + 1 => preLen LL i + (at_ LL i).length
theorem preLen_le {LL : LLs} {i j : Nat} (h : i ≤ j) : preLen LL i ≤ preLen LL j := by
  induction j with
  | zero => rw [show i = 0 by omega]; exact Nat.le_refl _
  | succ j ih =>
    by_cases e : i = j + 1
    · rw [e]; exact Nat.le_refl _
    · have := ih (by omega); rw [preLen]; omega
theorem preLen_at {LL : LLs} {i : Nat} (h : i < LL.length) : preLen LL i + (at_ LL i).length ≤ preLen LL LL.length := by
  have := preLen_le (LL := LL) (show i + 1 ≤ LL.length by omega); rwa [preLen] at this
/-- The marks m, m + 1, .. in lists as long as those of LL. -/
def mkLL (m : Nat) (LL : LLs) : LLs := (List.range LL.length).map fun i => marksL (m + preLen LL i) (at_ LL i).length
theorem mkLL_len {m : Nat} {LL : LLs} : (mkLL m LL).length = LL.length := by simp [mkLL]
theorem mkLL_at {m i : Nat} {LL : LLs} (h : i < LL.length) : at_ (mkLL m LL) i = marksL (m + preLen LL i) (at_ LL i).length := by
  rw [at_lt (by rw [mkLL_len]; exact h)]; simp [mkLL]
def mixL (A B : LLs) (i : Nat) : LLs := (List.range B.length).map fun j => if j < i then at_ A j else at_ B j
theorem mixL_len {A B : LLs} {i : Nat} : (mixL A B i).length = B.length := by simp [mixL]
theorem mixL_at {A B : LLs} {i j : Nat} (h : j < B.length) : at_ (mixL A B i) j = if j < i then at_ A j else at_ B j := by
  rw [at_lt (by rw [mixL_len]; exact h)]; simp [mixL]
theorem mixL_zero {A B : LLs} : mixL A B 0 = B := lls_ext mixL_len fun i hi => by rw [mixL_at (by rwa [mixL_len] at hi), if_neg (by omega)]
theorem mixL_all {A B : LLs} (h : A.length = B.length) : mixL A B B.length = A := lls_ext (by rw [mixL_len, h]) fun i hi => by rw [mixL_len] at hi; rw [mixL_at hi, if_pos hi]
theorem mixL_set {A B : LLs} {i : Nat} (h : i < B.length) : (mixL A B i).set i (at_ A i) = mixL A B (i + 1) := lls_ext (by simp [mixL_len]) fun j hj => by
  rw [List.length_set, mixL_len] at hj
  rw [at_set (by rw [mixL_len]; exact h), mixL_at hj, mixL_at hj]
  by_cases e : i = j
  · subst e; rw [if_pos rfl, if_pos (by omega)]
  · rw [if_neg e]
    by_cases e2 : j < i
    · rw [if_pos e2, if_pos (by omega)]
    · rw [if_neg e2, if_neg (by omega)]
/-- One list of lists. -/
def ms1 (LL : LLs) : List Blk := ob 0 1 LL :: inn LL
theorem ms1_ren {σ : Ren} (hs : ∀ k, σ 0 k = some (0, k)) {LL : LLs} : (ms1 LL).map (renBlk σ) = ms1 LL := by
  simp only [ms1, List.map_cons, ob_zero hs, inn_ren]
theorem ms1_at {LL : LLs} {i : Nat} (h : i < LL.length) : (ms1 LL).getD (1 + i) .dead = ib (at_ LL i) := by
  rw [ms1, show 1 + i = i + 1 by omega, List.getD_cons_succ, inn_get h]
theorem ms1_set {LL : LLs} {i : Nat} {xs : List Int} (h : i < LL.length) (hx : xs.length = (at_ LL i).length) : (ms1 LL).set (1 + i) (ib xs) = ms1 (LL.set i xs) := by
  have e : ob 0 1 LL = ob 0 1 (LL.set i xs) := by
    unfold ob
    rw [List.length_set, outs_same (LL' := LL.set i xs) (by simp) fun j hj => by rw [at_set h]; split <;> simp_all]
  rw [ms1, show 1 + i = i + 1 by omega, List.set_cons_succ, inn_set h, e]; rfl
theorem ms1_0 {LL : LLs} : (ms1 LL).getD 0 .dead = .lv true [(0, .cells LL.length (outs 0 1 LL))] := rfl
abbrev Pairs := List (Abs.Id × Abs.Id)
def stdR (B n : Nat) : Pairs := rids (fun j => (B, 0 + j)) n B 0
/-- The renaming after one more list: its block t, the outer block o. -/
def snocS (o : Abs.Id) (O t B n : Nat) : Pairs := (o, (O, 0)) :: ((t, 0), (B, 0 + n)) :: stdR B n
theorem wk_snoc {m : Mem} {pre : Pairs} {o : Abs.Id} {O t B n : Nat} {LL : LLs} {xs : List Int} (hn : n = LL.length) (hB0 : B ≠ 0) (ht0 : t ≠ 0) (htB : t ≠ B) (hpre : ∀ x ∈ pre, x.1.1 ≠ B ∧ x.1.1 ≠ t) (ho : o.1 ≠ t ∧ o.1 ≠ B)
    (hO : m.get o.1 o.2 = .lv true [(0, .cells (n + 1) (outs B 0 LL ++ [.sl t 0 0 0 xs.length 1]))]) (hT : m.get t 0 = ib xs) (hB : ∀ j, j < n → m.get B (0 + j) = ib (at_ LL j)) :
    wkLoc m (renTo (pre ++ snocS o O t B n)) (pre ++ snocS o O t B n) = wkLoc m (renTo (pre ++ snocS o O t B n)) pre ++ ((O, 0), ob B 0 (LL ++ [xs])) :: rbag B 0 (LL ++ [xs]) := by
  subst hn
  have hτ : ∀ j, j < LL.length → renTo (pre ++ snocS o O t B LL.length) B (0 + j) = some (B, 0 + j) := fun j hj => by
    have e : pre ++ snocS o O t B LL.length = (pre ++ [(o, (O, 0)), ((t, 0), (B, 0 + LL.length))]) ++ stdR B LL.length := by simp [snocS]
    rw [e]
    refine renTo_row (src := fun j => (B, 0 + j)) std_inj hB0 hj fun x hx h => ?_
    rcases List.mem_append.1 hx with hx | hx
    · exact (hpre x hx).1 (by rw [h])
    · simp at hx
      rcases hx with rfl | rfl
      · exact ho.2 (by rw [show o = _ from h])
      · exact htB (by simpa using congrArg (·.1) h)
  have hτt : renTo (pre ++ snocS o O t B LL.length) t 0 = some (B, 0 + LL.length) := by
    rw [renTo_app, if_neg ht0, renTo_out ht0 fun x hx h => (hpre x hx).2 (by rw [h])]
    simp only [snocS]
    rw [renTo, if_neg ht0, if_neg (fun h => ho.1 h.1), renTo, if_neg ht0]
    simp
  generalize renTo (pre ++ snocS o O t B LL.length) = τ at hτ hτt ⊢
  rw [wkLoc_app]
  congr 1
  rw [snocS, wkLoc, wkLoc, stdR, wkLoc_rids rfl fun j hj => hB j hj, hO, hT, renBlk_ib, rbag_app]
  congr 1
  congr 1
  simp only [renBlk, renSegs, renSg, List.map_append, List.map_cons, List.map_nil, outs_ren hτ, renAt, hτt, ob, outs_app, List.length_append, List.length_singleton]
theorem wkOk_snoc {pre : Pairs} {o : Abs.Id} {O t B n next : Nat} (h : wkOk (pre ++ [(o, (O, 0)), ((t, 0), (B, 0 + n))]) next = true) (hB0 : B ≠ 0) (hBn : B < next) (htB : t ≠ B) (hO : O ≠ B) (hpre : ∀ x ∈ pre, x.1.1 ≠ B ∧ x.2.1 ≠ B) (ho : o.1 ≠ B) :
    wkOk (pre ++ snocS o O t B n) next = true := by
  have e : pre ++ snocS o O t B n = (pre ++ [(o, (O, 0)), ((t, 0), (B, 0 + n))]) ++ stdR B n := by simp [snocS]
  rw [e]
  refine wkOk_rids h std_inj (fun _ _ => hB0) hB0 hBn (fun x hx i hi he => ?_) fun x hx i hi he => ?_
  · rcases List.mem_append.1 hx with hx | hx
    · exact (hpre x hx).1 (by rw [he])
    · simp at hx
      rcases hx with rfl | rfl
      · exact ho (by rw [show o = _ from he])
      · exact htB (by simpa using congrArg (·.1) he)
  · rcases List.mem_append.1 hx with hx | hx
    · exact (hpre x hx).2 (by rw [he])
    · simp at hx
      rcases hx with rfl | rfl
      · exact hO (by simpa using congrArg (·.1) he)
      · have : n = i := by simpa using congrArg (·.2) he
        omega
/-- The renaming that keeps a list of lists as it is. -/
theorem wk_keep {m : Mem} {pre : Pairs} {B n : Nat} {LL : LLs} (hn : n = LL.length) (hB : ∀ j, j < n → m.get B (0 + j) = ib (at_ LL j)) :
    wkLoc m (renTo (pre ++ stdR B n)) (pre ++ stdR B n) = wkLoc m (renTo (pre ++ stdR B n)) pre ++ rbag B 0 LL := by
  subst hn
  rw [wkLoc_app, stdR, wkLoc_rids rfl fun j hj => hB j hj]
theorem keep_at {pre : Pairs} {B n : Nat} (hB0 : B ≠ 0) (hpre : ∀ x ∈ pre, x.1.1 ≠ B) {j : Nat} (hj : j < n) : renTo (pre ++ stdR B n) B (0 + j) = some (B, 0 + j) :=
  renTo_row (src := fun j => (B, 0 + j)) std_inj hB0 hj fun x hx h => hpre x hx (by rw [h])
theorem wkOk_keep {pre : Pairs} {B n next : Nat} (h : wkOk pre next = true) (hB0 : B ≠ 0) (hBn : B < next) (hpre : ∀ x ∈ pre, x.1.1 ≠ B ∧ x.2.1 ≠ B) : wkOk (pre ++ stdR B n) next = true :=
  wkOk_rids h std_inj (fun _ _ => hB0) hB0 hBn (fun x hx i hi he => (hpre x hx).1 (by rw [he])) fun x hx i hi he => (hpre x hx).2 (by rw [he])
/-- A list of lists that is handed back. -/
theorem row_map {mem : Mem} {p : Abs.Id} {B : Nat} {LL : LLs} (hp : p.1 ≠ B) (hB : B ≠ 0) (h : mem.get p.1 p.2 = ob B 0 LL) (hg : ∀ j, j < LL.length → mem.get B (0 + j) = ib (at_ LL j)) :
    (p :: srcs B 0 LL.length).map (fun q => renBlk (renFin (p :: srcs B 0 LL.length)) (mem.get q.1 q.2)) = ob 1 1 LL :: inn LL := by
  rw [List.map_cons, srcs_get hg, h, ob_ren (a' := 1) (k' := 1) fun j hj => renFin_row (.inl hp) hB hj]
theorem row_map' {mem : Mem} {p : Abs.Id} {B k : Nat} {LL : LLs} (hp : p.1 ≠ B ∨ p.2 < k) (hB : B ≠ 0) (h : mem.get p.1 p.2 = ob B k LL) (hg : ∀ j, j < LL.length → mem.get B (k + j) = ib (at_ LL j)) :
    (p :: srcs B k LL.length).map (fun q => renBlk (renFin (p :: srcs B k LL.length)) (mem.get q.1 q.2)) = ob 1 1 LL :: inn LL := by
  rw [List.map_cons, srcs_get hg, h, ob_ren (a' := 1) (k' := 1) fun j hj => renFin_row hp hB hj]
/-- What a call hands back as a list of lists. -/
theorem renOut_one {nid i : Nat} {F : List Abs.Id} : renOut nid F 1 i = some (nid, i) := rfl
theorem ob_out {nid : Nat} {F : List Abs.Id} {LL : LLs} : renBlk (renOut nid F) (ob 1 1 LL) = ob nid 1 LL := ob_ren fun i _ => rfl
def llV (LL : LLs) : AV := .tup [.ref (.sl 1 0 0 0 LL.length 1), .i .i64 0]
def llN (LL : LLs) : List Blk := ob 1 1 LL :: inn LL

/-! calls of the law's helpers, with what they leave of the memory -/
abbrev Loc := List (Abs.Id × Blk)
/-- A list of lists lies at the blocks (a, ..). -/
def Row (loc : Loc) (a : Nat) (LL : LLs) : Prop := assoc loc a 0 = ob a 1 LL ∧ ∀ i, i < LL.length → assoc loc a (1 + i) = ib (at_ LL i)
theorem Row.cons {loc : Loc} {a : Nat} {LL : LLs} {p : Abs.Id} {b : Blk} (h : p.1 ≠ a) (r : Row loc a LL) : Row ((p, b) :: loc) a LL :=
  ⟨by rw [assoc, if_neg (fun e => h e.1)]; exact r.1, fun i hi => by rw [assoc, if_neg (fun e => h e.1)]; exact r.2 i hi⟩
theorem Row.app {loc : Loc} {a b k : Nat} {LL LL' : LLs} (h : a ≠ b) (r : Row loc a LL) : Row (rbag b k LL' ++ loc) a LL :=
  ⟨by rw [assoc_rbag_ne h]; exact r.1, fun i hi => by rw [assoc_rbag_ne h]; exact r.2 i hi⟩
theorem Row.new {loc : Loc} {a : Nat} {LL : LLs} : Row (rbag a 1 LL ++ ((a, 0), ob a 1 LL) :: loc) a LL :=
  ⟨by rw [assoc_rbag_lt (by decide), assoc, if_pos ⟨rfl, rfl⟩], fun i hi => assoc_rbag_in hi⟩
theorem Row.eq {loc loc' : Loc} {a : Nat} {LL : LLs} (h : ∀ k, assoc loc' a k = assoc loc a k) (r : Row loc a LL) : Row loc' a LL :=
  ⟨by rw [h]; exact r.1, fun i hi => by rw [h]; exact r.2 i hi⟩
theorem Row.get0 {args : List Blk} {loc : Loc} {n a : Nat} {LL : LLs} (ha : a ≠ 0) (r : Row loc a LL) : (Mem.mk args loc n).get a 0 = ob a 1 LL := by
  show (if a = 0 then _ else assoc loc a 0) = _; rw [if_neg ha]; exact r.1
theorem Row.get1 {args : List Blk} {loc : Loc} {n a i : Nat} {LL : LLs} (ha : a ≠ 0) (r : Row loc a LL) (hi : i < LL.length) : (Mem.mk args loc n).get a (1 + i) = ib (at_ LL i) := by
  show (if a = 0 then _ else assoc loc a (1 + i)) = _; rw [if_neg ha]; exact r.2 i hi
theorem get_srcs {args : List Blk} {loc : Loc} {n a : Nat} {LL : LLs} (ha : a ≠ 0) (r : Row loc a LL) (σ : Ren) : (srcs a 1 LL.length).map (fun p => renBlk σ ((Mem.mk args loc n).get p.1 p.2)) = inn LL := srcs_get fun i hi => r.get1 ha hi
theorem srcs_live {args : List Blk} {loc : Loc} {n a : Nat} {LL : LLs} (ha : a ≠ 0) (r : Row loc a LL) : ∀ p ∈ srcs a 1 LL.length, (Mem.mk args loc n).get p.1 p.2 ≠ .dead := by
  intro p hp
  obtain ⟨h1, h2, h3⟩ := srcs_mem.1 hp
  obtain ⟨x, y⟩ := p
  simp only at h1 h2 h3
  subst h1
  rw [show y = 1 + (y - 1) by omega, r.get1 ha (by omega)]
  simp [ib]
/-- Reading a whole list of lists and writing it back changes nothing. -/
theorem assoc_row {loc : Loc} {a : Nat} {LL : LLs} (r : Row loc a LL) (x y : Nat) : assoc (rbag a 1 LL ++ ((a, 0), ob a 1 LL) :: loc) x y = assoc loc x y := by
  by_cases h : x = a
  · subst h
    by_cases h0 : y = 0
    · subst h0; rw [assoc_rbag_lt (by decide), assoc, if_pos ⟨rfl, rfl⟩, r.1]
    · by_cases h1 : y - 1 < LL.length
      · rw [show y = 1 + (y - 1) by omega, assoc_rbag_in h1, r.2 _ h1]
      · rw [assoc_app_out fun z hz => by obtain ⟨i, hi, rfl⟩ := rbag_mem.1 hz; exact fun e => by have := e.2; simp at this; omega, assoc, if_neg (fun e => h0 e.2.symm)]
  · rw [assoc_rbag_ne h, assoc, if_neg (fun e => h e.1.symm)]
theorem row_nodup2 {g s m k : Nat} (h : g ≠ s) : ((g, 0) :: (s, 0) :: (srcs g 1 m ++ srcs s 1 k)).Nodup := by
  rw [List.nodup_cons, List.nodup_cons, List.nodup_append]
  refine ⟨fun hm => ?_, fun hm => ?_, srcs_nodup, srcs_nodup, fun p hp q hq e => ?_⟩
  · rcases List.mem_cons.1 hm with e | hm
    · exact h (by simpa using e)
    · rcases List.mem_append.1 hm with hm | hm
      · have := (srcs_mem.1 hm).2.1; simp at this
      · have := (srcs_mem.1 hm).2.1; simp at this
  · rcases List.mem_append.1 hm with hm | hm
    · have := (srcs_mem.1 hm).2.1; simp at this
    · have := (srcs_mem.1 hm).2.1; simp at this
  · subst e
    exact h (by rw [← (srcs_mem.1 hp).1, (srcs_mem.1 hq).1])
theorem row_in {g m j : Nat} (hj : j < m) : renIn ((g, 0) :: srcs g 1 m) g (1 + j) = some (0, 1 + j) := by
  have e : ¬(0 = 1 + j) := by omega
  simp only [renIn, idx, e, and_false, if_false, idx_srcs_in hj]
  simp; omega
theorem row_out {g m j n : Nat} (hj : j < m) : renOut n ((g, 0) :: srcs g 1 m) 0 (1 + j) = some (g, 1 + j) := by
  show ((g, 0) :: srcs g 1 m)[1 + j]? = _
  rw [show 1 + j = j + 1 by omega, List.getElem?_cons_succ]
  simp [srcs, hj]; omega
/-- A call that is handed one list of lists, and leaves MM there. -/
theorem CallsVia.row {P : Program} {f : FuncId} {args : List Blk} {loc : Loc} {n g k : Nat} {LL MM : LLs} {v : AV} {rest : List AV} (hg : g ≠ 0) (rg : Row loc g LL) (hk : k = LL.length) (hlen : MM.length = LL.length) (hr : ∀ σ, renVs σ rest = rest) (hv : ∀ σ, renV σ v = v)
    (h : ACalls P f (.ref (.sl 0 0 0 0 k 1) :: rest) (ms1 LL) (fun r ms ns => r = v ∧ ms = ms1 MM ∧ ns = []))
    {K : AV → Ups → List Abs.Id → Prop} (hK : ∀ ups rd loc', (∀ n, (Mem.mk args loc n).upd ups = ⟨args, loc', n⟩) → Row loc' g MM → (∀ a k, a ≠ g → assoc loc' a k = assoc loc a k) → (MM = LL → ∀ a k, assoc loc' a k = assoc loc a k) → K v ups rd) :
    CallsVia P f (.ref (.sl g 0 0 0 k 1) :: rest) ⟨args, loc, n⟩ K := by
  subst hk
  refine CallsVia.args ((g, 0) :: srcs g 1 LL.length) h (row_nodup (.inr (Nat.lt_succ_self 0))) ?_ ?_ ?_ ?_
  · intro p hp
    rcases List.mem_cons.1 hp with rfl | hp
    · rw [rg.get0 hg]; simp [ob]
    · exact srcs_live hg rg p hp
  · have e1 : renIn ((g, 0) :: srcs g 1 LL.length) g 0 = some (0, 0) := by simp [renIn, idx]
    simp only [renVs, renV, renAt, e1, hr]
  · unfold argBlks
    rw [List.map_cons, rg.get0 hg, get_srcs hg rg, ob_ren fun j hj => row_in hj]
    rfl
  · rintro _ _ _ ⟨rfl, rfl, rfl⟩
    rw [hv]
    refine hK _ _ (rbag g 1 MM ++ ((g, 0), ob g 1 MM) :: loc) (fun n' => ?_) Row.new (fun a k ha => ?_) fun e a k => ?_
    · simp only [ms1, zipUps, newUps, List.append_nil]
      rw [zipUps_srcs hlen.symm, ob_ren fun j hj => row_out (by rw [← hlen]; exact hj)]
      simp only [Mem.upd, Mem.put, hg, if_false]
      rw [Mem.upd_bagU hg]
    · rw [assoc_rbag_ne ha, assoc, if_neg (fun e => ha e.1.symm)]
    · subst e; exact assoc_row rg a k
/-- A list of lists that a machine can hold. -/
def FitsL (LL : LLs) : Prop := LL.length < 2 ^ 19 ∧ ∀ i, i < LL.length → (at_ LL i).length ≤ 2 ^ 20
theorem FitsL.pre {LL : LLs} (h : FitsL LL) : ∀ {k}, k ≤ LL.length → preLen LL k ≤ k * 2 ^ 20
  | 0, _ => by simp [preLen]
  | k + 1, hk => by
    have h1 := h.pre (show k ≤ LL.length by omega)
    have h2 := h.2 k (by omega)
    rw [preLen]; omega
theorem FitsL.tot {LL : LLs} (h : FitsL LL) : 1 + preLen LL LL.length < 2 ^ 40 := by
  have h1 := h.pre (Nat.le_refl _)
  have h2 := h.1
  omega

/-! a law's head, with the rest of its code left closed -/
theorem awp_rest {P : Program} {a b : Code} {env : Env} {m : Mem} {K : Exit → Env → Mem → Prop} (h : ∀ rest, rest = b → awp P (.seq a rest) env m K) : awp P (.seq a b) env m K := h b rfl
theorem SlOf.any {j : Nat} {A : Atom} {B : Blk} {xs : List Int} (h : SlOf .i64 j A B xs) : SlAny j A B xs := by
  rcases h with ⟨h, _, h'⟩ | ⟨h, _, h'⟩ | h
  · exact .inl ⟨h, h'⟩
  · exact .inr (.inl ⟨h, h'⟩)
  · exact .inr (.inr h)
theorem toInts_o {j : Nat} {A : Atom} {B : Blk} {xs : List Int} (hA : SlOf .i64 j A B xs) {m : Mem} (hg : m.get 0 j = B) (hx : xs.length ≤ 2 ^ 20) {K : AV → Ups → List Abs.Id → Prop}
    (hK : ∀ ups rd, m.upd ups = m.upd [((m.next, 0), .lv true [(0, .ints .i64 xs.length xs)])] → K (.ref (.sl m.next 0 0 0 xs.length 1)) ups rd) : CallsVia Try.prog 12 [.ref A] m K := toInts_any (SlOf.any hA) hg hx hK
theorem SlOf.ren {k : IntKind} {j : Nat} {A : Atom} {B : Blk} {xs : List Int} (h : SlOf k j A B xs) (σ : Ren) : renBlk σ B = B := by
  rcases h with ⟨_, rfl, _⟩ | ⟨_, rfl, _⟩ | ⟨_, rfl⟩ <;> rfl

/-! calls that are handed all that came in -/
def StMs (ms : List Blk) : Prop := ∀ σ : Ren, (∀ k, k < ms.length → σ 0 k = some (0, k)) → ms.map (renBlk σ) = ms
def StVs (ms : List Blk) (vs : List AV) : Prop := ∀ σ : Ren, (∀ k, k < ms.length → σ 0 k = some (0, k)) → renVs σ vs = vs
def allF (ms : List Blk) : List Abs.Id := srcs 0 0 ms.length
theorem allF_in {ms : List Blk} {k : Nat} (h : k < ms.length) : renIn (allF ms) 0 k = some (0, k) := by
  have := idx_srcs_in (a := 0) (k := 0) h
  rw [Nat.zero_add] at this
  simp [renIn, allF, this]
theorem allF_out {ms : List Blk} {n k : Nat} (h : k < ms.length) : renOut n (allF ms) 0 k = some (0, k) := by
  show (allF ms)[k]? = _
  simp [allF, srcs, h]
theorem allF_blks {ms : List Blk} {loc : Loc} {n : Nat} (hst : StMs ms) : argBlks ⟨ms, loc, n⟩ (allF ms) = ms := by
  have h := hst (renIn (allF ms)) fun k hk => allF_in hk
  conv => rhs; rw [← h]
  unfold argBlks
  apply List.ext_getElem
  · simp [allF, srcs]
  · intro i h1 h2
    have h3 : i < ms.length := by simpa using h2
    simp only [List.getElem_map]
    congr 1
    simp [allF, srcs, h3, Mem.get]
theorem upd_all {loc : Loc} {n : Nat} : ∀ (done rest : List Blk), (Mem.mk (done ++ rest) loc n).upd ((List.range rest.length).map fun i => ((0, done.length + i), rest.getD i .dead)) = ⟨done ++ rest, loc, n⟩
  | done, [] => rfl
  | done, b :: rest => by
    rw [List.length_cons, List.range_succ_eq_map, List.map_cons, List.map_map]
    simp only [Mem.upd]
    have e : (Mem.mk (done ++ b :: rest) loc n).put (0, done.length + 0) ((b :: rest).getD 0 .dead) = ⟨(done ++ [b]) ++ rest, loc, n⟩ := by
      rw [put_same]
      · simp
      · show (done ++ b :: rest).getD (done.length + 0) .dead = b
        simp
    rw [e]
    have h := upd_all (loc := loc) (n := n) (done ++ [b]) rest
    have e2 : ((fun i => (((0 : Nat), done.length + i), (b :: rest).getD i Blk.dead)) ∘ Nat.succ) = fun i => (((0 : Nat), (done ++ [b]).length + i), rest.getD i .dead) := by
      funext i; simp; omega
    rw [e2, h]
    simp
theorem zip_all {σ : Ren} {ms : List Blk} (h : ms.map (renBlk σ) = ms) : zipUps σ (allF ms) ms = (List.range ms.length).map fun i => ((0, 0 + i), ms.getD i .dead) := by
  have key : ∀ (l : List Blk) (k : Nat), l.map (renBlk σ) = l → zipUps σ (srcs 0 k l.length) l = (List.range l.length).map fun i => ((0, k + i), l.getD i .dead) := by
    intro l
    induction l with
    | nil => intro k _; rfl
    | cons b l ih =>
      intro k hk
      simp only [List.map_cons, List.cons.injEq] at hk
      have e : srcs 0 k (b :: l).length = (0, k) :: srcs 0 (k + 1) l.length := by
        simp only [srcs, List.length_cons, List.range_succ_eq_map, List.map_cons, List.map_map]
        congr 1
        exact List.map_congr_left fun i _ => by simp; omega
      rw [e, zipUps, ih (k + 1) hk.2, hk.1, List.length_cons, List.range_succ_eq_map, List.map_cons, List.map_map]
      congr 1
      exact List.map_congr_left fun i _ => by simp; omega
  exact key ms 0 h
theorem CallsVia.all {P : Program} {f : FuncId} {vs : List AV} {ms : List Blk} {loc : Loc} {n : Nat} {R : AV → List Blk → Prop} (hl : ∀ b ∈ ms, b ≠ .dead) (hst : StMs ms) (hv : StVs ms vs)
    (h : ACalls P f vs ms (fun r ms' ns => R r ns ∧ ms' = ms)) {K : AV → Ups → List Abs.Id → Prop}
    (hK : ∀ r ns ups rd, R r ns → (∀ n, (Mem.mk ms loc n).upd ups = ⟨ms, loc, n⟩) → K (renV (renOut n (allF ms)) r) (ups ++ newUps (renOut n (allF ms)) n 0 ns) rd) : CallsVia P f vs ⟨ms, loc, n⟩ K := by
  refine CallsVia.args (allF ms) h srcs_nodup ?_ (hv _ fun k hk => allF_in hk) (allF_blks hst) ?_
  · intro p hp
    obtain ⟨h1, h2, h3⟩ := srcs_mem.1 hp
    obtain ⟨x, y⟩ := p
    simp only at h1 h2 h3
    subst h1
    show ms.getD y .dead ≠ .dead
    rw [List.getD_eq_getElem?_getD, List.getElem?_eq_getElem (by omega)]
    exact hl _ (List.getElem_mem _)
  · rintro r ms' ns ⟨hr, rfl⟩
    refine hK r ns _ _ hr fun n' => ?_
    rw [zip_all (hst _ fun k hk => allF_out hk)]
    have := upd_all (loc := loc) (n := n') [] ms'
    simpa using this
/-- A list of lists that a law is handed, and the memory that came with it. -/
def LLOf (A : Atom) (ms : List Blk) (LL : LLs) : Prop :=
  (A = .nils ∧ LL = [] ∧ ms = []) ∨ (A = .sl0 ∧ LL = [] ∧ ms = []) ∨ ∃ As Bs, A = .sl 0 0 0 0 LL.length 1 ∧ 0 < LL.length ∧ ms = lms LL As Bs ∧ LArg LL As Bs
theorem llArg_of {W : World} {v : Value} {A : Atom} {ms : List Blk} {l : List Pl3} {LL : LLs} (h : LLArg W v A ms l LL) : LLOf A ms LL := by
  rcases h with ⟨h1, h2, h3, _⟩ | ⟨h1, h2, h3, _⟩ | h
  · exact .inl ⟨h1, h2, h3⟩
  · exact .inr (.inl ⟨h1, h2, h3⟩)
  · exact .inr (.inr h)
theorem lms_len {LL : LLs} {As : List Atom} {Bs : List Blk} (h : LArg LL As Bs) : (lms LL As Bs).length = LL.length + 1 := by simp [lms, h.lenB]
theorem lms_live {LL : LLs} {As : List Atom} {Bs : List Blk} (h : LArg LL As Bs) : ∀ b ∈ lms LL As Bs, b ≠ .dead := by
  intro b hb
  rcases List.mem_cons.1 hb with rfl | hb
  · simp
  · obtain ⟨i, hi, rfl⟩ := List.getElem_of_mem hb
    have := h.live i (by rw [← h.lenB]; exact hi)
    simpa [hi] using this
theorem lms_st {LL : LLs} {As : List Atom} {Bs : List Blk} (h : LArg LL As Bs) : StMs (lms LL As Bs) := by
  intro σ hσ
  rw [lms_len h] at hσ
  have e := h.ren σ hσ
  simp only [lms, List.map_cons, renBlk, renSegs, renSg, e.1, e.2]
/-- A call that reads one list of lists of the walk's own, and hands back a value without names. -/
theorem CallsVia.rowV {P : Program} {f : FuncId} {args : List Blk} {loc : Loc} {n g : Nat} {LL : LLs} {v : AV} {vs vs' : List AV} (hg : g ≠ 0) (rg : Row loc g LL) (hv : ∀ σ : Ren, σ g 0 = some (0, 0) → renVs σ vs = vs') (hr : ∀ σ, renV σ v = v)
    (h : ACalls P f vs' (ms1 LL) (fun r ms ns => r = v ∧ ms = ms1 LL ∧ ns = []))
    {K : AV → Ups → List Abs.Id → Prop} (hK : ∀ ups rd loc', (∀ n, (Mem.mk args loc n).upd ups = ⟨args, loc', n⟩) → (∀ a k, assoc loc' a k = assoc loc a k) → K v ups rd) :
    CallsVia P f vs ⟨args, loc, n⟩ K := by
  refine CallsVia.args ((g, 0) :: srcs g 1 LL.length) h (row_nodup (.inr (Nat.lt_succ_self 0))) ?_ (hv _ (by simp [renIn, idx])) ?_ ?_
  · intro p hp
    rcases List.mem_cons.1 hp with rfl | hp
    · rw [rg.get0 hg]; simp [ob]
    · exact srcs_live hg rg p hp
  · unfold argBlks
    rw [List.map_cons, rg.get0 hg, get_srcs hg rg, ob_ren fun j hj => row_in hj]
    rfl
  · rintro _ _ _ ⟨rfl, rfl, rfl⟩
    rw [hr]
    refine hK _ _ (rbag g 1 LL ++ ((g, 0), ob g 1 LL) :: loc) (fun n' => ?_) fun a k => assoc_row rg a k
    simp only [ms1, zipUps, newUps, List.append_nil]
    rw [zipUps_srcs rfl, ob_ren fun j hj => row_out hj]
    simp only [Mem.upd, Mem.put, hg, if_false]
    rw [Mem.upd_bagU hg]
theorem disj_args {l r : List Abs.Id} (hl : l.all (fun p => p.1 != 0) = true) (hr : ∀ p ∈ r, p.1 = 0) : disj l r = true ∧ disj r l = true := by
  rw [List.all_eq_true] at hl
  constructor
  · unfold disj
    rw [List.all_eq_true]
    intro p hp
    have := hl p hp
    simp only [bne_iff_ne, ne_eq] at this
    simp only [Bool.not_eq_true', List.contains_eq_mem, decide_eq_false_iff_not]
    exact fun hm => this (hr p hm)
  · unfold disj
    rw [List.all_eq_true]
    intro p hp
    simp only [Bool.not_eq_true', List.contains_eq_mem, decide_eq_false_iff_not]
    intro hm
    have := hl p hm
    simp only [bne_iff_ne, ne_eq] at this
    exact this (hr p hp)
/-- The same in a region that draws its order: what is written and read are blocks that came in. -/
theorem CallsX.all {P : Program} {f : FuncId} {vs : List AV} {ms : List Blk} {loc : Loc} {n : Nat} {v : AV} (hl : ∀ b ∈ ms, b ≠ .dead) (hst : StMs ms) (hv : StVs ms vs) (hr : ∀ σ, renV σ v = v)
    (h : ACalls P f vs ms (fun r ms' ns => r = v ∧ ms' = ms ∧ ns = [])) {K : AV → Ups → List Abs.Id → Prop}
    (hK : ∀ ups rd, (∀ n, (Mem.mk ms loc n).upd ups = ⟨ms, loc, n⟩) → (∀ p ∈ ups.map (·.1), p.1 = 0) → (∀ p ∈ rd, p.1 = 0) → K v ups rd) : CallsX P f vs ⟨ms, loc, n⟩ K := by
  refine CallsX.args (allF ms) h srcs_nodup ?_ (hv _ fun k hk => allF_in hk) (allF_blks hst) ?_
  · intro p hp
    obtain ⟨h1, h2, h3⟩ := srcs_mem.1 hp
    obtain ⟨x, y⟩ := p
    simp only at h1 h2 h3
    subst h1
    show ms.getD y .dead ≠ .dead
    rw [List.getD_eq_getElem?_getD, List.getElem?_eq_getElem (by omega)]
    exact hl _ (List.getElem_mem _)
  · rw [hr]
    refine hK _ _ (fun n' => ?_) (fun p hp => ?_) fun p hp => (srcs_mem.1 hp).1
    · simp only [newUps, List.append_nil]
      rw [zip_all (hst _ fun k hk => allF_out hk)]
      have := upd_all (loc := loc) (n := n') [] ms
      simpa using this
    · simp only [newUps, List.append_nil] at hp
      rw [zip_all (hst _ fun k hk => allF_out hk)] at hp
      simp only [List.map_map, List.mem_map, List.mem_range] at hp
      obtain ⟨i, _, rfl⟩ := hp
      rfl
theorem LLOf.st {A : Atom} {ms : List Blk} {LL : LLs} (h : LLOf A ms LL) : StMs ms := by
  rcases h with ⟨_, _, rfl⟩ | ⟨_, _, rfl⟩ | ⟨As, Bs, _, _, rfl, hla⟩
  · intro σ _; rfl
  · intro σ _; rfl
  · exact lms_st hla

end Go.Proofs.Ytjmenocghjggcaa
