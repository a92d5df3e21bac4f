/-
Slices that a law is handed: read-only blocks.
-/
import Derived.Test.YtjmenocghjggcaaAbsW
import Derived.ChangeSlices
import Derived.WideKeyArgs
import Derived.Deep.Matrix
namespace Go.Abs
open Go
set_option linter.unusedVariables false
set_option linter.unusedSectionVars false
set_option linter.unusedSimpArgs false
set_option linter.defProp false

theorem sameAt_of {W W' : World} {p : MemPlace} (h : W'.heap[p.block]? = W.heap[p.block]?) : W.sameAt W' p := by
  cases p with
  | cell b off =>
    show W'.cell? ⟨b, off, none⟩ = W.cell? ⟨b, off, none⟩
    have e : W'.heap[b]? = W.heap[b]? := h
    simp only [World.cell?, e]
  | map b => exact h
theorem Kept.sameAt {W W' : World} (h : Kept (fun _ => False) W W') {p : MemPlace} (hp : p.block < W.heap.size) : W.sameAt W' p := sameAt_of (h.same _ hp (fun x => x))

def rhoL (l : List (Nat × Nat × Nat)) : Rho := fun a k => if a = 0 then l[k]? else none
def RoBlk (W : World) (m : Blk) (p : Nat × Nat × Nat) : Prop :=
  ∃ (k : IntKind) (n : Nat) (xs : List Int) (arr : Array Value) (T : TypeId) (fz : Nat × Nat) (pre post : List Value), m = .lv false [(0, .ints k n xs)] ∧ xs.length = n ∧ W.heap[p.1]? = some (.cells arr T fz) ∧
    arr.toList = pre ++ xs.map (Value.int k) ++ post ∧ pre.length = p.2.1 ∧ arr.size = p.2.2
def RoMem (W : World) : List Blk → List (Nat × Nat × Nat) → Prop
  | [], [] => True
  | m :: ms, p :: l => RoBlk W m p ∧ RoMem W ms l
  | _, _ => False
theorem RoMem.app {W : World} : ∀ {ms l ms' l'}, RoMem W ms l → RoMem W ms' l' → RoMem W (ms ++ ms') (l ++ l')
  | [], [], _, _, _, h => h
  | _ :: _, _ :: _, _, _, h, h' => ⟨h.1, RoMem.app h.2 h'⟩
  | [], _ :: _, _, _, h, _ => h.elim
  | _ :: _, [], _, _, h, _ => h.elim
theorem RoMem.at {W : World} : ∀ {ms l} {k : Nat} {m : Blk}, RoMem W ms l → ms.getD k .dead = m → m ≠ .dead → ∃ p, l[k]? = some p ∧ RoBlk W m p
  | [], [], k, m, _, e, hn => absurd e.symm (by simpa using hn)
  | m :: ms, p :: l, 0, x, h, e, hn => ⟨p, rfl, by have : m = x := e; subst this; exact h.1⟩
  | m :: ms, p :: l, k + 1, x, h, e, hn => RoMem.at (ms := ms) (l := l) (k := k) h.2 e hn
  | [], _ :: _, _, _, h, _, _ => h.elim
  | _ :: _, [], _, _, h, _, _ => h.elim
theorem RoMem.back {W : World} : ∀ {ms l} {k : Nat} {p : Nat × Nat × Nat}, RoMem W ms l → l[k]? = some p → ∃ m, RoBlk W m p
  | [], [], k, p, _, e => by simp at e
  | m :: ms, q :: l, 0, p, h, e => ⟨m, by have : q = p := by simpa using e
                                          subst this; exact h.1⟩
  | m :: ms, q :: l, k + 1, p, h, e => RoMem.back (ms := ms) (l := l) (k := k) h.2 (by simpa using e)
  | [], _ :: _, _, _, h, _ => h.elim
  | _ :: _, [], _, _, h, _ => h.elim
theorem RoMem.rel {W : World} {ms : List Blk} {l : List (Nat × Nat × Nat)} (h : RoMem W ms l) : MemRel (rhoL l) (fun _ => False) (getArgs ms) W := by
  have key : ∀ a k rw gs, getArgs ms a k = .lv rw gs → a = 0 ∧ rw = false ∧ ∃ p, l[k]? = some p ∧ RoBlk W (.lv rw gs) p := by
    intro a k rw gs hg
    unfold getArgs at hg
    split at hg
    · rename_i ha
      obtain ⟨p, hp, hb⟩ := RoMem.at h hg (by simp)
      obtain ⟨_, _, _, _, _, _, _, _, e, _⟩ := id hb
      cases e
      exact ⟨ha, rfl, p, hp, hb⟩
    · cases hg
  refine ⟨fun a k rw gs hg => ?_, fun a k a' k' gs gs' p p' hg => ?_, fun a k p hp => ?_, fun a k rw gs ha hg => ?_⟩
  · obtain ⟨rfl, rfl, p, hp, k0, n, xs, arr, T, fz, pre, post, e, h1, h2, h3, h4, h5⟩ := key _ _ _ _ hg
    cases e
    refine ⟨p, fz, by simp [rhoL, hp], ⟨arr, T, pre, xs.map (Value.int k0), post, h2, h3, h4, h5, rfl, xs.map (Value.int k0), [], by simp, ⟨h1, rfl⟩, rfl⟩, fun e => (by cases e), fun _ x => x⟩
  · obtain ⟨_, e, _⟩ := key _ _ _ _ hg; cases e
  · unfold rhoL at hp
    split at hp
    · obtain ⟨m, _, _, _, arr, T, fz, _, _, _, _, h2, _, _, h5⟩ := RoMem.back h hp
      exact ⟨arr, T, fz, h2, h5⟩
    · cases hp
  · exact absurd (key _ _ _ _ hg).1 ha

theorem law_calls_ro {P : Program} {f : FuncId} {vs : List AV} {ms : List Blk} {l : List (Nat × Nat × Nat)} {vals : List Value} {W : World} (h : ACalls P f vs ms (fun v ms' ns => v = .b true ∧ ms' = ms ∧ ns = [])) (hm : RoMem W ms l) (hv : RelVs (rhoL l) vs vals) :
    Calls P f vals.toArray W fun e W' => e = .returned (.bool true) ∧ Kept (fun _ => False) W W' := by
  refine (h.2 (rhoL l) (fun _ => False) W vals (fun a k ha => by simp [rhoL, ha]) (fun b hb => hb.elim) hm.rel hv).mono ?_
  rintro e w' ⟨r, xs, ns, val, ρ', rfl, ⟨rfl, rfl, rfl⟩, _, hr, _, _, _, hk⟩
  simp only [RelV] at hr
  exact ⟨by rw [hr], hk⟩

/-- A slice of integers, as a law is handed it: j tells which block it is. -/
def SlArg (W : World) (k : IntKind) (j : Nat) (v : Value) (A : Atom) (ms : List Blk) (l : List (Nat × Nat × Nat)) (xs : List Int) : Prop :=
  (v = .slice none 0 0 ∧ A = .nils ∧ ms = [] ∧ l = [] ∧ xs = []) ∨ (∃ a cap, v = .slice a 0 cap ∧ A = .sl0 ∧ ms = [] ∧ l = [] ∧ xs = []) ∨
  ∃ b off cap size, v = .slice (some ⟨b, off, none⟩) xs.length cap ∧ A = .sl 0 j 0 0 xs.length 1 ∧ 0 < xs.length ∧ xs.length ≤ cap ∧ off + cap ≤ size ∧ ms = [.lv false [(0, .ints k xs.length xs)]] ∧ l = [(b, off, size)] ∧ RoMem W ms l

theorem ints_open {H : Type} {enc : TypeId × Value → H} {P : Program} {W : World} {base : Nat} {t e : TypeId} {k : IntKind} {v : Value} {d : DataW H} {ps : List MemPlace}
    (ht : P.underlying t = some (.slice e)) (he : P.underlying e = some (.int k)) (hc : P.cellsOf e = 1) (hv : Value.okWide P W .any base t v)
    (h : DataW.Trod enc P W 0 (fun _ => true) true t v d ps) (j : Nat) :
    ∃ A ms l xs, SlArg W k j v A ms l xs ∧ (∀ x ∈ xs, (Lit.int k x).wf = true) ∧ xs.length ≤ maxLen := by
  obtain ⟨a0, len, cap, rfl⟩ := WideShapes.okWide_slice ht hv
  obtain ⟨fuel, hf⟩ := h
  rcases ChangeShapes.open_ints ht he hc hf with ⟨e1, _⟩ | ⟨a, len', cap', zs, e1, hb, hl, hm, hlen, _, hcell, hwf⟩
  · simp [Value.cells] at e1
    obtain ⟨rfl, rfl, rfl⟩ := e1
    exact ⟨.nils, [], [], [], .inl ⟨rfl, rfl, rfl, rfl, rfl⟩, by simp, by simp⟩
  · simp [Value.cells] at e1
    obtain ⟨rfl, rfl, rfl⟩ := e1
    simp only [if_true] at hlen
    by_cases h0 : len = 0
    · subst h0
      exact ⟨.sl0, [], [], [], .inr (.inl ⟨_, _, rfl, rfl, rfl, rfl, rfl⟩), by simp, by simp⟩
    · have hc0 := hcell 0 (by omega)
      have ha0 : a.add 0 = a := by simp [Addr.add]
      rw [ha0] at hc0
      unfold World.cell? at hc0
      split at hc0
      · rename_i arr T fz hheap
        split at hc0
        · cases hc0
        · rename_i hspot
          have hsp : a.spot = none := by cases hs : a.spot <;> simp_all
          have hget : ∀ i, i < cap → arr[a.off + i]? = some (.int k (zs.getD i 0)) := by
            intro i hi
            have := hcell i (by omega)
            unfold World.cell? at this
            by_cases hi0 : i = 0
            · subst hi0; simpa using hc0
            · simp only [Addr.add, hi0, if_false, hheap] at this
              simpa using this
          have hxl : (zs.take len).length = len := by simp; omega
          have hsz : a.off + cap ≤ arr.size := by
            have := hget (cap - 1) (by omega)
            have := (Array.getElem?_eq_some_iff.1 this).1
            omega
          have hmid : (arr.toList.drop a.off).take len = (zs.take len).map (Value.int k) := by
            apply List.ext_getElem?
            intro i
            by_cases hi : i < len
            · have h1 := hget i (by omega)
              have h2 : i < zs.length := by omega
              rw [List.getElem?_take, if_pos hi, List.getElem?_drop, List.getElem?_map, List.getElem?_take, if_pos hi]
              rw [Array.getElem?_toList, h1]
              simp [h2]
            · rw [List.getElem?_eq_none (by simp; omega), List.getElem?_eq_none (by simp; omega)]
          have hblk : RoBlk W (.lv false [(0, .ints k (zs.take len).length (zs.take len))]) (a.block, a.off, arr.size) :=
            ⟨k, _, zs.take len, arr, T, fz, arr.toList.take a.off, arr.toList.drop (a.off + len), rfl, rfl, hheap, by
              rw [← hmid, ← List.drop_drop, List.append_assoc, List.take_append_drop, List.take_append_drop], by simp; omega, rfl⟩
          refine ⟨.sl 0 j 0 0 (zs.take len).length 1, [.lv false [(0, .ints k (zs.take len).length (zs.take len))]], [(a.block, a.off, arr.size)], zs.take len,
            .inr (.inr ⟨a.block, a.off, cap, arr.size, ?_, rfl, by omega, by omega, hsz, rfl, rfl, hblk, trivial⟩), fun x hx => hwf x (List.mem_of_mem_take hx), by omega⟩
          rw [hxl]
          cases a
          simp at hsp
          subst hsp
          rfl
      · cases hc0
theorem SlArg.mem {W : World} {k : IntKind} {j : Nat} {v : Value} {A : Atom} {ms : List Blk} {l : List (Nat × Nat × Nat)} {xs : List Int} (h : SlArg W k j v A ms l xs) : RoMem W ms l := by
  rcases h with ⟨_, _, rfl, rfl, _⟩ | ⟨_, _, _, _, rfl, rfl, _⟩ | ⟨_, _, _, _, _, _, _, _, _, _, _, h⟩
  · trivial
  · trivial
  · exact h
/-- How it reads, when its block stands at the place j. -/
theorem SlArg.relV {W : World} {k : IntKind} {j : Nat} {v : Value} {A : Atom} {ms : List Blk} {l l' : List (Nat × Nat × Nat)} {xs : List Int} (h : SlArg W k j v A ms l xs) (hj : ∀ p, l = [p] → l'[j]? = some p) : RelV (rhoL l') (.ref A) v := by
  rcases h with ⟨rfl, rfl, _⟩ | ⟨a, cap, rfl, rfl, _⟩ | ⟨b, off, cap, size, rfl, rfl, h1, h2, h3, _, h4, _⟩
  · rfl
  · exact ⟨a, cap, rfl⟩
  · refine ⟨(b, off, size), cap, by simp [rhoL, hj _ h4], h2, .inl ⟨rfl, ?_⟩⟩
    show off + 0 + 0 + cap * 1 ≤ size
    omega

/-! ### more about sets -/
theorem wrap_and {a b : Nat} (ha : a < 2 ^ 62) (hb : b < 2 ^ 62) : IntKind.i64.wrap ((BitVec.ofInt IntKind.i64.bits (a : Int) &&& BitVec.ofInt IntKind.i64.bits (b : Int)).toNat : Int) = ((a &&& b : Nat) : Int) := by
  have h : a &&& b ≤ a := Nat.and_le_left
  have e1 : BitVec.ofInt IntKind.i64.bits (a : Int) = BitVec.ofNat 64 a := BitVec.ofInt_natCast ..
  have e2 : BitVec.ofInt IntKind.i64.bits (b : Int) = BitVec.ofNat 64 b := BitVec.ofInt_natCast ..
  have e3 : (BitVec.ofInt IntKind.i64.bits (a : Int) &&& BitVec.ofInt IntKind.i64.bits (b : Int)).toNat = a &&& b := by
    rw [e1, e2]
    show ((BitVec.ofNat 64 a) &&& (BitVec.ofNat 64 b)).toNat = _
    rw [BitVec.toNat_and, BitVec.toNat_ofNat, BitVec.toNat_ofNat, Nat.mod_eq_of_lt (by omega), Nat.mod_eq_of_lt (by omega)]
  rw [e3]
  exact wrap_i64n (by omega)
theorem setM_and {p q : Nat → Bool} {N : Nat} : setM p N &&& setM q N = setM (fun i => p i && q i) N := by
  apply Nat.eq_of_testBit_eq
  intro i
  rw [Nat.testBit_and, setM_bit, setM_bit, setM_bit]
  cases decide (i < N) <;> simp
theorem setM_congr {p q : Nat → Bool} : ∀ {N : Nat}, (∀ i, i < N → p i = q i) → setM p N = setM q N
  | 0, _ => rfl
  | N + 1, h => by unfold setM; rw [h N (by omega), setM_congr fun i hi => h i (by omega)]
theorem setM_inj {p q : Nat → Bool} {N : Nat} (h : setM p N = setM q N) {i : Nat} (hi : i < N) : p i = q i := by
  have := congrArg (fun s => s.testBit i) h
  simpa [setM_bit, hi] using this
/-- The members of a list of elements for which something is so. -/
theorem memL_filter {p q : Nat → Bool} : ∀ {N : Nat}, (memL p N).filter (fun x => q x.toNat) = memL (fun i => p i && q i) N
  | 0 => rfl
  | N + 1 => by
    unfold memL
    cases hp : p N
    · simp [memL_filter]
    · cases hq : q N
      · simp [memL_filter, hq]
      · simp [memL_filter, hq]
theorem memL_mem {p : Nat → Bool} {x : Int} : ∀ {N : Nat}, x ∈ memL p N ↔ ∃ i : Nat, x = i ∧ i < N ∧ p i = true
  | 0 => by simp [memL]
  | N + 1 => by
    unfold memL
    split
    · rename_i h
      rw [List.mem_append, memL_mem]
      constructor
      · rintro (⟨i, h1, h2, h3⟩ | h1)
        · exact ⟨i, h1, by omega, h3⟩
        · exact ⟨N, by simpa using h1, by omega, h⟩
      · rintro ⟨i, h1, h2, h3⟩
        by_cases e : i = N
        · right; subst e; simpa using h1
        · left; exact ⟨i, h1, by omega, h3⟩
    · rename_i h
      rw [memL_mem]
      constructor
      · rintro ⟨i, h1, h2, h3⟩; exact ⟨i, h1, by omega, h3⟩
      · rintro ⟨i, h1, h2, h3⟩
        refine ⟨i, h1, ?_, h3⟩
        have : i ≠ N := fun e => h (e ▸ h3)
        omega
end Go.Abs

/-
Lists of lists: one block of slices and a row of blocks of integers.
-/
namespace Go.Abs
open Go
set_option linter.unusedVariables false
set_option linter.unusedSectionVars false
set_option linter.unusedSimpArgs false
set_option linter.defProp false

abbrev LLs := List (List Int)
def ib (xs : List Int) : Blk := .lv true [(0, .ints .i64 xs.length xs)]
def at_ (LL : LLs) (i : Nat) : List Int := LL.getD i []
def srcs (a k m : Nat) : List Id := (List.range m).map fun i => (a, k + i)
def outs (a k : Nat) (LL : LLs) : List Atom := (List.range LL.length).map fun i => .sl a (k + i) 0 0 (at_ LL i).length 1
def ob (a k : Nat) (LL : LLs) : Blk := .lv true [(0, .cells LL.length (outs a k LL))]
def inn (LL : LLs) : List Blk := (List.range LL.length).map fun i => ib (at_ LL i)
def bagU (a k : Nat) (LL : LLs) : Ups := (List.range LL.length).map fun i => ((a, k + i), ib (at_ LL i))
def rbag (a k : Nat) (LL : LLs) : List (Id × Blk) := (bagU a k LL).reverse
def rids (src : Nat → Id) (m a k : Nat) : List (Id × Id) := ((List.range m).map fun i => (src i, (a, k + i))).reverse

theorem at_lt {LL : LLs} {i : Nat} (h : i < LL.length) : at_ LL i = LL[i] := by simp [at_, h]
theorem at_app {LL : LLs} {xs : List Int} {i : Nat} : at_ (LL ++ [xs]) i = if i = LL.length then xs else at_ LL i := by
  unfold at_
  rw [List.getD_eq_getElem?_getD, List.getD_eq_getElem?_getD]
  by_cases h : i < LL.length
  · rw [if_neg (by omega), List.getElem?_append_left h]
  · rw [List.getElem?_append_right (by omega)]
    by_cases e : i = LL.length
    · rw [if_pos e, e, Nat.sub_self]; rfl
    · rw [if_neg e, List.getElem?_eq_none (by simp; omega), List.getElem?_eq_none (by omega)]
theorem at_set {LL : LLs} {xs : List Int} {i j : Nat} (h : i < LL.length) : at_ (LL.set i xs) j = if i = j then xs else at_ LL j := by
  unfold at_
  by_cases e : i = j
  · subst e; simp [h]
  · simp [e]
theorem lls_ext {A B : LLs} (h : A.length = B.length) (he : ∀ i, i < A.length → at_ A i = at_ B i) : A = B := by
  apply List.ext_getElem h
  intro i h1 h2
  have := he i h1
  rwa [at_lt h1, at_lt h2] at this
theorem outs_len {a k : Nat} {LL : LLs} : (outs a k LL).length = LL.length := by simp [outs]
theorem outs_get {a k i : Nat} {LL : LLs} (h : i < LL.length) : (outs a k LL).getD i .top = .sl a (k + i) 0 0 (at_ LL i).length 1 := by simp [outs, h]
theorem inn_len {LL : LLs} : (inn LL).length = LL.length := by simp [inn]
theorem inn_get {i : Nat} {LL : LLs} (h : i < LL.length) : (inn LL).getD i .dead = ib (at_ LL i) := by simp [inn, h]
theorem inn_set {LL : LLs} {i : Nat} {xs : List Int} (h : i < LL.length) : (inn LL).set i (ib xs) = inn (LL.set i xs) := by
  apply List.ext_getElem
  · simp [inn]
  · intro j h1 h2
    simp only [inn, List.getElem_set, List.getElem_map, List.getElem_range, at_set h]
    split <;> simp
theorem outs_set {LL : LLs} {a k i : Nat} {xs : List Int} (h : i < LL.length) : (outs a k LL).set i (.sl a (k + i) 0 0 xs.length 1) = outs a k (LL.set i xs) := by
  apply List.ext_getElem
  · simp [outs]
  · intro j h1 h2
    simp only [outs, List.getElem_set, List.getElem_map, List.getElem_range, at_set h]
    split
    · rename_i e; subst e; rfl
    · rfl
theorem outs_same {LL LL' : LLs} {a k : Nat} (h : LL.length = LL'.length) (he : ∀ i, i < LL.length → (at_ LL i).length = (at_ LL' i).length) : outs a k LL = outs a k LL' := by
  unfold outs
  rw [← h]
  exact List.map_congr_left fun i hi => by rw [he i (List.mem_range.1 hi)]
theorem outs_app {LL : LLs} {a k : Nat} {xs : List Int} : outs a k (LL ++ [xs]) = outs a k LL ++ [.sl a (k + LL.length) 0 0 xs.length 1] := by
  unfold outs
  rw [List.length_append, List.length_singleton, List.range_succ, List.map_append]
  congr 1
  · exact List.map_congr_left fun i hi => by rw [at_app, if_neg (by have := List.mem_range.1 hi; omega)]
  · simp [at_app]
theorem rbag_app {LL : LLs} {a k : Nat} {xs : List Int} : rbag a k (LL ++ [xs]) = ((a, k + LL.length), ib xs) :: rbag a k LL := by
  unfold rbag bagU
  rw [List.length_append, List.length_singleton, List.range_succ, List.map_append, List.reverse_append]
  simp only [List.map_cons, List.map_nil, List.reverse_cons, List.reverse_nil, List.nil_append, List.cons_append, at_app, if_pos]
  congr 2
  exact List.map_congr_left fun i hi => by rw [if_neg (by have := List.mem_range.1 hi; omega)]
theorem rbag_nil {a k : Nat} : rbag a k [] = [] := rfl
theorem outs_nil {a k : Nat} : outs a k [] = [] := rfl
theorem inn_nil : inn [] = [] := rfl
theorem inn_app {LL : LLs} {xs : List Int} : inn (LL ++ [xs]) = inn LL ++ [ib xs] := by
  unfold inn
  rw [List.length_append, List.length_singleton, List.range_succ, List.map_append]
  congr 1
  · exact List.map_congr_left fun i hi => by rw [at_app, if_neg (by have := List.mem_range.1 hi; omega)]
  · simp [at_app]

/-! ### renaming -/
theorem renBlk_ib {σ : Ren} {xs : List Int} : renBlk σ (ib xs) = ib xs := rfl
theorem inn_ren {σ : Ren} {LL : LLs} : (inn LL).map (renBlk σ) = inn LL := by
  simp only [inn, List.map_map]
  exact List.map_congr_left fun i _ => rfl
theorem outs_ren {σ : Ren} {a k a' k' : Nat} {LL : LLs} (h : ∀ i, i < LL.length → σ a (k + i) = some (a', k' + i)) : (outs a k LL).map (renAt σ) = outs a' k' LL := by
  simp only [outs, List.map_map]
  exact List.map_congr_left fun i hi => by simp only [Function.comp, renAt, h i (List.mem_range.1 hi)]
theorem ob_ren {σ : Ren} {a k a' k' : Nat} {LL : LLs} (h : ∀ i, i < LL.length → σ a (k + i) = some (a', k' + i)) : renBlk σ (ob a k LL) = ob a' k' LL := by
  simp only [ob, renBlk, renSegs, renSg, outs_ren h]

/-! ### memory -/
theorem assoc_app_out {l r : List (Id × Blk)} {a k : Nat} (h : ∀ x ∈ l, ¬(x.1.1 = a ∧ x.1.2 = k)) : assoc (l ++ r) a k = assoc r a k := by
  induction l with
  | nil => rfl
  | cons x l ih =>
    obtain ⟨p, b⟩ := x
    have h1 := h (p, b) (by simp)
    simp only [List.cons_append, assoc]
    rw [if_neg h1]
    exact ih fun x hx => h x (by simp [hx])
theorem assoc_app_in {l r : List (Id × Blk)} {a k : Nat} {b : Blk} (h : ((a, k), b) ∈ l) (hu : ∀ x ∈ l, x.1 = (a, k) → x.2 = b) : assoc (l ++ r) a k = b := by
  induction l with
  | nil => cases h
  | cons x l ih =>
    obtain ⟨p, b'⟩ := x
    simp only [List.cons_append, assoc]
    by_cases e : p.1 = a ∧ p.2 = k
    · rw [if_pos e]; exact hu (p, b') (by simp) (by obtain ⟨rfl, rfl⟩ := e; rfl)
    · rw [if_neg e]
      refine ih ?_ fun x hx => hu x (by simp [hx])
      rcases List.mem_cons.1 h with h1 | h1
      · cases h1; exact absurd ⟨rfl, rfl⟩ e
      · exact h1
theorem rbag_mem {a k : Nat} {LL : LLs} {x : Id × Blk} : x ∈ rbag a k LL ↔ ∃ i, i < LL.length ∧ x = ((a, k + i), ib (at_ LL i)) := by
  simp only [rbag, bagU, List.mem_reverse, List.mem_map, List.mem_range]
  constructor
  · rintro ⟨i, h, rfl⟩; exact ⟨i, h, rfl⟩
  · rintro ⟨i, h, rfl⟩; exact ⟨i, h, rfl⟩
theorem assoc_rbag_ne {a k b j : Nat} {LL : LLs} {r : List (Id × Blk)} (h : b ≠ a) : assoc (rbag a k LL ++ r) b j = assoc r b j :=
  assoc_app_out fun x hx => by obtain ⟨i, _, rfl⟩ := rbag_mem.1 hx; exact fun e => h e.1.symm
theorem assoc_rbag_lt {a k b j : Nat} {LL : LLs} {r : List (Id × Blk)} (h : j < k) : assoc (rbag a k LL ++ r) b j = assoc r b j :=
  assoc_app_out fun x hx => by obtain ⟨i, _, rfl⟩ := rbag_mem.1 hx; exact fun e => by have := e.2; simp at this; omega
theorem assoc_rbag_in {a k i : Nat} {LL : LLs} {r : List (Id × Blk)} (h : i < LL.length) : assoc (rbag a k LL ++ r) a (k + i) = ib (at_ LL i) :=
  assoc_app_in (rbag_mem.2 ⟨i, h, rfl⟩) fun x hx e => by
    obtain ⟨j, hj, rfl⟩ := rbag_mem.1 hx
    simp at e; subst e; rfl
theorem assoc_rbag_ne' {a k b j : Nat} {LL : LLs} (h : b ≠ a) : assoc (rbag a k LL) b j = .dead := by
  have := assoc_rbag_ne (k := k) (j := j) (LL := LL) (r := []) h; rwa [List.append_nil] at this
theorem assoc_rbag_lt' {a k b j : Nat} {LL : LLs} (h : j < k) : assoc (rbag a k LL) b j = .dead := by
  have := assoc_rbag_lt (a := a) (b := b) (LL := LL) (r := []) h; rwa [List.append_nil] at this
theorem assoc_rbag_in' {a k i : Nat} {LL : LLs} (h : i < LL.length) : assoc (rbag a k LL) a (k + i) = ib (at_ LL i) := by
  have := assoc_rbag_in (a := a) (k := k) (r := []) h; rwa [List.append_nil] at this
theorem Mem.upd_app (a b : Ups) : ∀ m : Mem, m.upd (a ++ b) = (m.upd a).upd b := by
  induction a with
  | nil => intro m; rfl
  | cons x a ih => obtain ⟨p, c⟩ := x; intro m; simp only [List.cons_append, Mem.upd]; exact ih _
theorem Mem.upd_loc (l : Ups) (h : ∀ x ∈ l, x.1.1 ≠ 0) : ∀ m : Mem, m.upd l = { m with loc := l.reverse ++ m.loc } := by
  induction l with
  | nil => intro m; rfl
  | cons x l ih =>
    obtain ⟨p, c⟩ := x
    intro m
    have h1 : ¬ p.1 = 0 := h (p, c) (by simp)
    simp only [Mem.upd]
    rw [ih (fun x hx => h x (by simp [hx]))]
    simp [Mem.put, h1]
theorem Mem.upd_bagU {a k : Nat} {LL : LLs} (h : a ≠ 0) (m : Mem) : m.upd (bagU a k LL) = { m with loc := rbag a k LL ++ m.loc } :=
  Mem.upd_loc _ (fun x hx => by obtain ⟨i, _, rfl⟩ := rbag_mem.1 (by simpa [rbag] using hx); exact h) m
theorem newUps_inn {σ : Ren} {nid : Nat} {LL : LLs} {j : Nat} : newUps σ nid j (inn LL) = bagU nid j LL := by
  have key : ∀ (l : List (List Int)) (j : Nat), newUps σ nid j (l.map ib) = (List.range l.length).map fun i => ((nid, j + i), ib (at_ l i)) := by
    intro l
    induction l with
    | nil => intro j; rfl
    | cons x l ih =>
      intro j
      simp only [List.map_cons, newUps, ih, List.length_cons, List.range_succ_eq_map, List.map_map]
      congr 1
      exact List.map_congr_left fun i _ => by simp [at_]; omega
  have e : inn LL = LL.map ib := by
    apply List.ext_getElem
    · simp [inn]
    · intro i h1 h2
      simp only [inn, List.getElem_map, List.getElem_range]
      rw [at_lt]
  rw [e, key]; rfl
theorem zipUps_app {σ : Ren} : ∀ {F : List Id} {bs : List Blk} {F' : List Id} {bs' : List Blk}, F.length = bs.length → zipUps σ (F ++ F') (bs ++ bs') = zipUps σ F bs ++ zipUps σ F' bs'
  | [], [], _, _, _ => rfl
  | p :: F, b :: bs, F', bs', h => by simp only [List.cons_append, zipUps]; rw [zipUps_app (by simpa using h)]
  | [], _ :: _, _, _, h => by simp at h
  | _ :: _, [], _, _, h => by simp at h
theorem zipUps_srcs {σ : Ren} {a k : Nat} {LL : LLs} {m : Nat} (hm : m = LL.length) : zipUps σ (srcs a k m) (inn LL) = bagU a k LL := by
  subst hm
  have key : ∀ (l : List Nat), zipUps σ (l.map fun i => ((a, k + i) : Id)) (l.map fun i => ib (at_ LL i)) = l.map fun i => ((a, k + i), ib (at_ LL i)) := by
    intro l
    induction l with
    | nil => rfl
    | cons x l ih => simp only [List.map_cons, zipUps, ih, renBlk_ib]
  exact key _
theorem srcs_len {a k m : Nat} : (srcs a k m).length = m := by simp [srcs]
theorem srcs_mem {a k m : Nat} {p : Id} : p ∈ srcs a k m ↔ p.1 = a ∧ k ≤ p.2 ∧ p.2 < k + m := by
  obtain ⟨x, y⟩ := p
  simp only [srcs, List.mem_map, List.mem_range, Prod.mk.injEq]
  constructor
  · rintro ⟨i, h, rfl, rfl⟩; exact ⟨rfl, by omega, by omega⟩
  · rintro ⟨rfl, h1, h2⟩; exact ⟨y - k, by omega, rfl, by omega⟩
theorem srcs_nodup {a k m : Nat} : (srcs a k m).Nodup := by
  unfold srcs List.Nodup
  rw [List.pairwise_map]
  exact List.nodup_range.imp fun h e => h (by simpa using e)

/-! ### names of arguments and results -/
theorem idx_app (A B : List Id) (a k : Nat) : idx (A ++ B) a k = match idx A a k with | some j => some j | none => (idx B a k).map (· + A.length) := by
  induction A with
  | nil => cases h : idx B a k <;> simp [idx, h]
  | cons p A ih =>
    simp only [List.cons_append, idx]
    split
    · rfl
    · rw [ih]
      cases idx A a k with
      | some j => rfl
      | none => cases idx B a k <;> simp [Nat.add_assoc]
theorem idx_srcs {a k m b j : Nat} : idx (srcs a k m) b j = if b = a ∧ k ≤ j ∧ j < k + m then some (j - k) else none := by
  split
  · rename_i h
    obtain ⟨rfl, h1, h2⟩ := h
    refine idx_of_get srcs_nodup ?_
    have : j - k < m := by omega
    simp [srcs, this]; omega
  · rename_i h
    exact idx_none fun hm => h (by have := srcs_mem.1 hm; exact ⟨this.1, this.2⟩)
theorem idx_srcs_in {a k m i : Nat} (h : i < m) : idx (srcs a k m) a (k + i) = some i := by rw [idx_srcs, if_pos ⟨rfl, by omega, by omega⟩]; congr 1; omega

/-! ### leaving names behind -/
theorem wkLoc_app (m : Mem) (τ : Ren) : ∀ A B : List (Id × Id), wkLoc m τ (A ++ B) = wkLoc m τ A ++ wkLoc m τ B
  | [], _ => rfl
  | (p, q) :: A, B => by simp only [List.cons_append, wkLoc]; rw [wkLoc_app m τ A B]
theorem wkLoc_map (m : Mem) (τ : Ren) (src dst : Nat → Id) (f : Nat → Blk) : ∀ l : List Nat, (∀ i ∈ l, renBlk τ (m.get (src i).1 (src i).2) = f i) → wkLoc m τ (l.map fun i => (src i, dst i)) = l.map fun i => (dst i, f i)
  | [], _ => rfl
  | i :: l, h => by simp only [List.map_cons, wkLoc]; rw [wkLoc_map m τ src dst f l fun j hj => h j (by simp [hj]), h i (by simp)]
theorem wkLoc_rids {m : Mem} {τ : Ren} {src : Nat → Id} {n a k : Nat} {LL : LLs} (hn : n = LL.length) (h : ∀ i, i < LL.length → m.get (src i).1 (src i).2 = ib (at_ LL i)) : wkLoc m τ (rids src n a k) = rbag a k LL := by
  subst hn
  unfold rids rbag bagU
  rw [← List.map_reverse, wkLoc_map m τ src (fun i => (a, k + i)) (fun i => ib (at_ LL i)) _ fun i hi => by rw [h i (by simpa using hi)]; rfl, List.map_reverse]
theorem renTo_app {A B : List (Id × Id)} {a k : Nat} : renTo (A ++ B) a k = if a = 0 then some (0, k) else match renTo A a k with | some p => some p | none => renTo B a k := by
  by_cases ha : a = 0
  · subst ha; rw [if_pos rfl]; cases A ++ B <;> simp [renTo]
  · rw [if_neg ha]
    induction A with
    | nil => 
      have : renTo [] a k = none := by unfold renTo; rw [if_neg ha]
      rw [this]; rfl
    | cons x A ih =>
      obtain ⟨p, q⟩ := x
      rw [List.cons_append]
      have e1 : ∀ r : List (Id × Id), renTo ((p, q) :: r) a k = if p.1 = a ∧ p.2 = k then some q else renTo r a k := fun r => by rw [renTo, if_neg ha]
      rw [e1, e1]
      split
      · rfl
      · exact ih
theorem renTo_rids_in {src : Nat → Id} {m a k i : Nat} (hs : ∀ i j, i < m → j < m → src i = src j → i = j) (h0 : (src i).1 ≠ 0) (hi : i < m) : renTo (rids src m a k) (src i).1 (src i).2 = some (a, k + i) := by
  have key : ∀ l : List Nat, (∀ x ∈ l, x < m) → i ∈ l → renTo (l.map fun i => (src i, (a, k + i))) (src i).1 (src i).2 = some (a, k + i) := by
    intro l
    induction l with
    | nil => intro _ h; cases h
    | cons x l ih =>
      intro hl hm
      simp only [List.map_cons]
      unfold renTo
      rw [if_neg h0]
      simp only
      split
      · rename_i e
        have : src x = src i := Prod.ext e.1 e.2
        rw [hs x i (hl x (by simp)) hi this]
      · rename_i e
        refine ih (fun y hy => hl y (by simp [hy])) ?_
        rcases List.mem_cons.1 hm with rfl | h
        · exact absurd ⟨rfl, rfl⟩ e
        · exact h
  unfold rids
  rw [← List.map_reverse]
  exact key _ (fun x hx => by simpa using hx) (by simpa using hi)
theorem renTo_out {A : List (Id × Id)} {a k : Nat} (h0 : a ≠ 0) (h : ∀ x ∈ A, x.1 ≠ (a, k)) : renTo A a k = none := by
  induction A with
  | nil => unfold renTo; rw [if_neg h0]
  | cons x A ih =>
    obtain ⟨p, q⟩ := x
    have h1 := h (p, q) (by simp)
    unfold renTo
    rw [if_neg h0]
    simp only
    rw [if_neg fun e => h1 (Prod.ext e.1 e.2)]
    exact ih fun x hx => h x (by simp [hx])
/-- The renaming of the row's blocks, behind others. -/
theorem renTo_row {A : List (Id × Id)} {src : Nat → Id} {m a k i : Nat} (hs : ∀ i j, i < m → j < m → src i = src j → i = j) (h0 : (src i).1 ≠ 0) (hi : i < m) (hA : ∀ x ∈ A, x.1 ≠ src i) : renTo (A ++ rids src m a k) (src i).1 (src i).2 = some (a, k + i) := by
  rw [renTo_app, if_neg h0, renTo_out h0 hA]
  exact renTo_rids_in hs h0 hi
theorem rids_mem {src : Nat → Id} {m a k : Nat} {x : Id × Id} : x ∈ rids src m a k ↔ ∃ i, i < m ∧ x = (src i, (a, k + i)) := by
  simp only [rids, List.mem_reverse, List.mem_map, List.mem_range]
  constructor
  · rintro ⟨i, h, rfl⟩; exact ⟨i, h, rfl⟩
  · rintro ⟨i, h, rfl⟩; exact ⟨i, h, rfl⟩
theorem wkOk_rids {A : List (Id × Id)} {src : Nat → Id} {m a k next : Nat} (h : wkOk A next = true) (hs : ∀ i j, i < m → j < m → src i = src j → i = j) (h0 : ∀ i, i < m → (src i).1 ≠ 0) (ha : a ≠ 0) (hn : a < next)
    (h1 : ∀ x ∈ A, ∀ i, i < m → x.1 ≠ src i) (h2 : ∀ x ∈ A, ∀ i, i < m → x.2 ≠ (a, k + i)) : wkOk (A ++ rids src m a k) next = true := by
  simp only [wkOk, Bool.and_eq_true, decide_eq_true_eq, List.all_eq_true, bne_iff_ne] at h ⊢
  obtain ⟨⟨⟨e1, e2⟩, e3⟩, e4⟩ := h
  refine ⟨⟨⟨fun x hx => ?_, ?_⟩, ?_⟩, e4⟩
  · rcases List.mem_append.1 hx with hx | hx
    · exact e1 x hx
    · obtain ⟨i, hi, rfl⟩ := rids_mem.1 hx
      exact ⟨⟨h0 i hi, ha⟩, hn⟩
  · rw [List.map_append, List.nodup_append]
    refine ⟨e2, ?_, fun p hp q hq => ?_⟩
    · unfold rids List.Nodup
      rw [List.map_reverse, List.pairwise_reverse, List.map_map, List.pairwise_map]
      refine List.nodup_range.imp_of_mem fun {i j} hi hj h e => h ?_
      exact (hs j i (by simpa using hj) (by simpa using hi) e).symm
    · obtain ⟨x, hx, rfl⟩ := List.mem_map.1 hp
      obtain ⟨y, hy, rfl⟩ := List.mem_map.1 hq
      obtain ⟨i, hi, rfl⟩ := rids_mem.1 hy
      exact h1 x hx i hi
  · rw [List.map_append, List.nodup_append]
    refine ⟨e3, ?_, fun p hp q hq => ?_⟩
    · unfold rids List.Nodup
      rw [List.map_reverse, List.pairwise_reverse, List.map_map, List.pairwise_map]
      refine List.nodup_range.imp fun h e => h ?_
      simp at e; omega
    · obtain ⟨x, hx, rfl⟩ := List.mem_map.1 hp
      obtain ⟨y, hy, rfl⟩ := List.mem_map.1 hq
      obtain ⟨i, hi, rfl⟩ := rids_mem.1 hy
      exact h2 x hx i hi
theorem std_inj {a k m : Nat} : ∀ i j, i < m → j < m → ((a, k + i) : Id) = (a, k + j) → i = j := fun i j _ _ e => by simpa using e
end Go.Abs

/-
What a law is handed, block by block: slices that may be nil, lists of lists.
-/
namespace Go.Abs
open Go
set_option linter.unusedVariables false
set_option linter.unusedSectionVars false
set_option linter.unusedSimpArgs false
set_option linter.defProp false

abbrev Pl3 := Option (Nat × Nat × Nat)
def rhoO (l : List Pl3) : Rho := fun a k => if a = 0 then l.getD k none else none
def RoB (W : World) (ρ : Rho) (m : Blk) (o : Pl3) : Prop := (m = .dead ∧ o = none) ∨ ∃ gs p fz, m = .lv false gs ∧ o = some p ∧ Holds ρ W p gs fz
def RoO (W : World) (ρ : Rho) : List Blk → List Pl3 → Prop
  | [], [] => True
  | m :: ms, o :: l => RoB W ρ m o ∧ RoO W ρ ms l
  | _, _ => False
theorem RoO.app {W : World} {ρ : Rho} : ∀ {ms l ms' l'}, RoO W ρ ms l → RoO W ρ ms' l' → RoO W ρ (ms ++ ms') (l ++ l')
  | [], [], _, _, _, h => h
  | _ :: _, _ :: _, _, _, h, h' => ⟨h.1, RoO.app h.2 h'⟩
  | [], _ :: _, _, _, h, _ => h.elim
  | _ :: _, [], _, _, h, _ => h.elim
theorem RoO.at {W : World} {ρ : Rho} : ∀ {ms : List Blk} {l : List Pl3} {k : Nat}, RoO W ρ ms l → RoB W ρ (ms.getD k .dead) (l.getD k none)
  | [], [], k, _ => .inl ⟨by simp, by simp⟩
  | m :: ms, o :: l, 0, h => h.1
  | m :: ms, o :: l, k + 1, h => RoO.at (ms := ms) (l := l) (k := k) h.2
  | [], _ :: _, _, h => h.elim
  | _ :: _, [], _, h => h.elim
theorem RoO.rel {W : World} {ms : List Blk} {l : List Pl3} (h : RoO W (rhoO l) ms l) : MemRel (rhoO l) (fun _ => False) (getArgs ms) W := by
  have key : ∀ a k rw gs, getArgs ms a k = .lv rw gs → a = 0 ∧ rw = false ∧ ∃ p fz, rhoO l a k = some p ∧ Holds (rhoO l) W p gs fz := by
    intro a k rw gs hg
    unfold getArgs at hg
    split at hg
    · rename_i ha
      rcases RoO.at (k := k) h with ⟨e, _⟩ | ⟨gs', p, fz, e, e2, hh⟩
      · rw [e] at hg; cases hg
      · rw [e] at hg; cases hg
        exact ⟨ha, rfl, p, fz, by simp only [rhoO, ha, if_true, e2], hh⟩
    · cases hg
  refine ⟨fun a k rw gs hg => ?_, fun a k a' k' gs gs' p p' hg => ?_, fun a k p hp => ?_, fun a k rw gs ha hg => ?_⟩
  · obtain ⟨rfl, rfl, p, fz, e, hh⟩ := key _ _ _ _ hg
    exact ⟨p, fz, e, hh, fun e => (by cases e), fun _ x => x⟩
  · obtain ⟨_, e, _⟩ := key _ _ _ _ hg; cases e
  · unfold rhoO at hp
    split at hp
    · rcases RoO.at (k := k) h with ⟨_, e⟩ | ⟨gs', p', fz, _, e2, arr, T, _, _, _, h1, _, _, h4, _⟩
      · rw [e] at hp; cases hp
      · rw [e2] at hp; cases hp
        exact ⟨arr, T, fz, h1, h4⟩
    · cases hp
  · exact absurd (key _ _ _ _ hg).1 ha
theorem law_calls_o {P : Program} {f : FuncId} {vs : List AV} {ms : List Blk} {l : List Pl3} {vals : List Value} {W : World} (h : ACalls P f vs ms (fun v ms' ns => v = .b true ∧ ms' = ms ∧ ns = [])) (hm : RoO W (rhoO l) ms l) (hv : RelVs (rhoO l) vs vals) :
    Calls P f vals.toArray W fun e W' => e = .returned (.bool true) ∧ Kept (fun _ => False) W W' := by
  refine (h.2 (rhoO l) (fun _ => False) W vals (fun a k ha => by simp [rhoO, ha]) (fun b hb => hb.elim) hm.rel hv).mono ?_
  rintro e w' ⟨r, xs, ns, val, ρ', rfl, ⟨rfl, rfl, rfl⟩, _, hr, _, _, _, hk⟩
  simp only [RelV] at hr
  exact ⟨by rw [hr], hk⟩

/-- A row of cells that can be read lies in one block. -/
theorem block_of {W : World} {a : Addr} {n cap : Nat} {V : Nat → Value} (h0 : 0 < n) (hn : n ≤ cap) (hcell : ∀ i, i < cap → W.cell? (a.add i) = some (V i)) :
    ∃ arr T fz, W.heap[a.block]? = some (.cells arr T fz) ∧ a = ⟨a.block, a.off, none⟩ ∧ arr.toList = arr.toList.take a.off ++ (List.range n).map V ++ arr.toList.drop (a.off + n) ∧ (arr.toList.take a.off).length = a.off ∧ a.off + cap ≤ arr.size := by
  have hc0 := hcell 0 (by omega)
  have ha0 : a.add 0 = a := by simp [Addr.add]
  rw [ha0] at hc0
  unfold World.cell? at hc0
  split at hc0
  · rename_i arr T fz hheap
    split at hc0
    · cases hc0
    · rename_i hspot
      have hsp : a.spot = none := by cases hs : a.spot <;> simp_all
      have hget : ∀ i, i < cap → arr[a.off + i]? = some (V i) := by
        intro i hi
        have := hcell i (by omega)
        unfold World.cell? at this
        by_cases hi0 : i = 0
        · subst hi0; simpa using hc0
        · simp only [Addr.add, hi0, if_false, hheap] at this
          simpa using this
      have hsz : a.off + cap ≤ arr.size := by
        have := hget (cap - 1) (by omega)
        have := (Array.getElem?_eq_some_iff.1 this).1
        omega
      have hmid : (arr.toList.drop a.off).take n = (List.range n).map V := by
        apply List.ext_getElem?
        intro i
        by_cases hi : i < n
        · have h1 := hget i (by omega)
          rw [List.getElem?_take, if_pos hi, List.getElem?_drop, List.getElem?_map, Array.getElem?_toList, h1]
          simp [hi]
        · rw [List.getElem?_eq_none (by simp; omega), List.getElem?_eq_none (by simp; omega)]
      refine ⟨arr, T, fz, hheap, ?_, ?_, by simp; omega, hsz⟩
      · cases a; simp at hsp; subst hsp; rfl
      · rw [← hmid, ← List.drop_drop, List.append_assoc, List.take_append_drop, List.take_append_drop]
  · cases hc0

/-- A slice at the place j reads as xs: nil, empty or the block B. -/
def SlOf (k : IntKind) (j : Nat) (A : Atom) (B : Blk) (xs : List Int) : Prop :=
  (A = .nils ∧ B = .dead ∧ xs = []) ∨ (A = .sl0 ∧ B = .dead ∧ xs = []) ∨ (A = .sl 0 j 0 0 xs.length 1 ∧ B = .lv false [(0, .ints k xs.length xs)])
theorem SlArg.one {W : World} {k : IntKind} {j : Nat} {v : Value} {A : Atom} {ms : List Blk} {l : List (Nat × Nat × Nat)} {xs : List Int} (h : SlArg W k j v A ms l xs) :
    ∃ B o, SlOf k j A B xs ∧ (∀ ρ, RoB W ρ B o) ∧ ∀ ρ : Rho, ρ 0 j = o → RelV ρ (.ref A) v := by
  rcases h with ⟨rfl, rfl, _, _, rfl⟩ | ⟨a, cap, rfl, rfl, _, _, rfl⟩ | ⟨b, off, cap, size, rfl, rfl, h1, h2, h3, rfl, rfl, hm⟩
  · exact ⟨.dead, none, .inl ⟨rfl, rfl, rfl⟩, fun _ => .inl ⟨rfl, rfl⟩, fun _ _ => rfl⟩
  · exact ⟨.dead, none, .inr (.inl ⟨rfl, rfl, rfl⟩), fun _ => .inl ⟨rfl, rfl⟩, fun _ _ => ⟨a, cap, rfl⟩⟩
  · refine ⟨_, some (b, off, size), .inr (.inr ⟨rfl, rfl⟩), fun ρ => .inr ?_, fun ρ hρ => ⟨(b, off, size), cap, hρ, h2, .inl ⟨rfl, ?_⟩⟩⟩
    · obtain ⟨⟨k0, n, xs', arr, T, fz, pre, post, e, e1, e2, e3, e4, e5⟩, _⟩ := hm
      cases e
      exact ⟨_, _, fz, rfl, rfl, arr, T, pre, xs.map (Value.int k), post, e2, e3, e4, e5, rfl, xs.map (Value.int k), [], by simp, ⟨e1, rfl⟩, rfl⟩
    · show off + 0 + 0 + cap * 1 ≤ size
      omega

/-! ### lists of lists -/
def SlAny (j : Nat) (A : Atom) (B : Blk) (xs : List Int) : Prop :=
  (A = .nils ∧ xs = []) ∨ (A = .sl0 ∧ xs = []) ∨ (A = .sl 0 j 0 0 xs.length 1 ∧ B = .lv false [(0, .ints .i64 xs.length xs)])
/-- The memory of a list of lists that a law is handed. -/
structure LArg (LL : LLs) (As : List Atom) (Bs : List Blk) : Prop where
  lenA : As.length = LL.length
  lenB : Bs.length = LL.length
  cell : ∀ i, i < LL.length → SlAny (1 + i) (As.getD i .top) (Bs.getD i .dead) (at_ LL i)
  live : ∀ i, i < LL.length → Bs.getD i .dead ≠ .dead
  ren : ∀ σ : Ren, (∀ k, k < LL.length + 1 → σ 0 k = some (0, k)) → As.map (renAt σ) = As ∧ Bs.map (renBlk σ) = Bs
def lms (LL : LLs) (As : List Atom) (Bs : List Blk) : List Blk := .lv false [(0, .cells LL.length As)] :: Bs
theorem relAts_of {ρ : Rho} : ∀ {vs : List Value} {As : List Atom}, As.length = vs.length → (∀ i, i < vs.length → RelAt ρ (As.getD i .top) (vs.getD i undef)) → RelAts ρ As vs
  | [], [], _, _ => rfl
  | v :: vs, A :: As, h, hh => ⟨v, vs, rfl, hh 0 (by simp), relAts_of (by simpa using h) fun i hi => hh (i + 1) (by simpa using hi)⟩
  | [], _ :: _, h, _ => by simp at h
  | _ :: _, [], h, _ => by simp at h
theorem roO_of {W : World} {ρ : Rho} : ∀ {ms : List Blk} {l : List Pl3}, ms.length = l.length → (∀ i, i < ms.length → RoB W ρ (ms.getD i .dead) (l.getD i none)) → RoO W ρ ms l
  | [], [], _, _ => trivial
  | m :: ms, o :: l, h, hh => ⟨hh 0 (by simp), roO_of (by simpa using h) fun i hi => hh (i + 1) (by simpa using hi)⟩
  | [], _ :: _, h, _ => by simp at h
  | _ :: _, [], h, _ => by simp at h
def LLArg (W : World) (v : Value) (A : Atom) (ms : List Blk) (l : List Pl3) (LL : LLs) : Prop :=
  (A = .nils ∧ LL = [] ∧ ms = [] ∧ l = []) ∨ (A = .sl0 ∧ LL = [] ∧ ms = [] ∧ l = []) ∨ ∃ As Bs, A = .sl 0 0 0 0 LL.length 1 ∧ 0 < LL.length ∧ ms = lms LL As Bs ∧ LArg LL As Bs
theorem lists_open {H : Type} {enc : TypeId × Value → H} {P : Program} {W : World} {base : Nat} {t e q : TypeId} {v : Value} {d : DataW H} {ps : List MemPlace}
    (ht : P.underlying t = some (.slice e)) (he : P.underlying e = some (.slice q)) (hq : P.underlying q = some (.int .i64)) (ce : P.cellsOf e = 1) (cq : P.cellsOf q = 1) (hv : Value.okWide P W .any base t v)
    (h : DataW.Trod enc P W 0 (fun _ => true) true t v d ps) :
    ∃ A ms l LL, LLArg W v A ms l LL ∧ RoO W (rhoO l) ms l ∧ RelV (rhoO l) (.ref A) v ∧ LL.length ≤ maxLen ∧ (∀ i, i < LL.length → (at_ LL i).length ≤ maxLen) ∧ ∀ i, i < LL.length → ∀ x ∈ at_ LL i, (Lit.int .i64 x).wf = true := by
  obtain ⟨a0, len, cap, rfl⟩ := WideShapes.okWide_slice ht hv
  obtain ⟨fuel, hf⟩ := h
  rcases Deep.open_int_rows ht he hq ce cq hf with ⟨e1, _⟩ | ⟨a, len', cap', A, L, C, Z, e1, hb, hl, hm, _, hcell⟩
  · simp [Value.cells] at e1
    obtain ⟨rfl, rfl, rfl⟩ := e1
    exact ⟨.nils, [], [], [], .inl ⟨rfl, rfl, rfl, rfl⟩, trivial, rfl, by simp, by simp, by simp⟩
  · simp [Value.cells] at e1
    obtain ⟨rfl, rfl, rfl⟩ := e1
    by_cases h0 : len = 0
    · subst h0
      exact ⟨.sl0, [], [], [], .inr (.inl ⟨rfl, rfl, rfl, rfl⟩), trivial, ⟨_, _, rfl⟩, by simp, by simp, by simp⟩
    · obtain ⟨arr, T, fz, hheap, hae, harr, hpre, hsz⟩ := block_of (V := fun r => .slice (A r) (L r) (C r)) (n := len) (by omega) hl fun i hi => (hcell i hi).1
      have each : ∀ r, ∃ y : Atom × Blk × (Nat × Nat × Nat), r < len → SlAny (1 + r) y.1 y.2.1 ((Z r).take (L r)) ∧ (∀ ρ, RoB W ρ y.2.1 (some y.2.2)) ∧ (∀ ρ : Rho, ρ 0 (1 + r) = some y.2.2 → RelAt ρ y.1 (.slice (A r) (L r) (C r))) ∧
          (∀ σ : Ren, (∀ k, k < len + 1 → σ 0 k = some (0, k)) → renAt σ y.1 = y.1 ∧ renBlk σ y.2.1 = y.2.1) := by
        intro r
        by_cases hr : r < len
        · obtain ⟨_, c1, c2, c3, c4, c5, c6⟩ := hcell r (by omega)
          by_cases hL : L r = 0
          · have hB : ∀ ρ, RoB W ρ (.lv false []) (some (a.block, 0, arr.size)) := fun ρ => .inr ⟨[], _, fz, rfl, rfl, arr, T, [], [], arr.toList, hheap, by simp, rfl, rfl, rfl⟩
            cases hA : A r with
            | none =>
              have := c5 hA
              refine ⟨(.nils, .lv false [], (a.block, 0, arr.size)), fun _ => ⟨.inl ⟨rfl, by rw [hL]; rfl⟩, hB, fun ρ _ => ?_, fun σ _ => ⟨rfl, rfl⟩⟩⟩
              show _ = _
              rw [hL, this]
            | some a' =>
              refine ⟨(.sl0, .lv false [], (a.block, 0, arr.size)), fun _ => ⟨.inr (.inl ⟨rfl, by rw [hL]; rfl⟩), hB, fun ρ _ => ⟨some a', C r, by rw [hL]⟩, fun σ _ => ⟨rfl, rfl⟩⟩⟩
          · cases hA : A r with
            | none => have := c5 hA; omega
            | some a' =>
              have hc := (c6 a' hA).2
              obtain ⟨arr', T', fz', hheap', hae', harr', hpre', hsz'⟩ := block_of (V := fun c => .int .i64 ((Z r).getD c 0)) (n := L r) (cap := C r) (by omega) c1 hc
              have hxl : ((Z r).take (L r)).length = L r := by simp; omega
              have hmap : (List.range (L r)).map (fun c => Value.int .i64 ((Z r).getD c 0)) = ((Z r).take (L r)).map (Value.int .i64) := by
                apply List.ext_getElem (by simp; omega)
                intro i h1 h2
                simp at h1 h2
                simp [show i < (Z r).length by omega]
              refine ⟨(.sl 0 (1 + r) 0 0 ((Z r).take (L r)).length 1, .lv false [(0, .ints .i64 ((Z r).take (L r)).length ((Z r).take (L r)))], (a'.block, a'.off, arr'.size)), fun _ => ⟨.inr (.inr ⟨rfl, rfl⟩), fun ρ => .inr ⟨_, _, fz', rfl, rfl, arr', T', _, _, _, hheap', harr', hpre', rfl, rfl, _, [], ?_, ⟨rfl, rfl⟩, rfl⟩, fun ρ hρ => ⟨_, C r, hρ, by omega, .inl ⟨?_, ?_⟩⟩, fun σ hσ => ⟨by simp only [renAt, hσ (1 + r) (by omega)], rfl⟩⟩⟩
              · rw [List.append_nil, hmap]
              · rw [hxl]; exact congrArg (fun z => Value.slice (some z) (L r) (C r)) hae'
              · show a'.off + 0 + 0 + C r * 1 ≤ arr'.size; omega
        · exact ⟨(.nils, .dead, (0, 0, 0)), fun h => absurd h hr⟩
      obtain ⟨y, hy⟩ := Classical.axiomOfChoice each
      let LL : LLs := (List.range len).map fun r => (Z r).take (L r)
      let As : List Atom := (List.range len).map fun r => (y r).1
      let Bs : List Blk := (List.range len).map fun r => (y r).2.1
      let l : List Pl3 := some (a.block, a.off, arr.size) :: (List.range len).map fun r => some (y r).2.2
      have hLL : LL.length = len := by simp [LL]
      have hat : ∀ r, r < len → at_ LL r = (Z r).take (L r) := fun r hr => by rw [at_lt (by rw [hLL]; exact hr)]; simp [LL]
      have hAs : ∀ r, r < len → As.getD r .top = (y r).1 := fun r hr => by simp [As, hr]
      have hBs : ∀ r, r < len → Bs.getD r .dead = (y r).2.1 := fun r hr => by simp [Bs, hr]
      have hla : LArg LL As Bs := by
        refine ⟨by simp [As, hLL], by simp [Bs, hLL], fun i hi => ?_, fun i hi => ?_, fun σ hσ => ⟨?_, ?_⟩⟩
        · rw [hLL] at hi
          rw [hAs i hi, hBs i hi, hat i hi]; exact (hy i hi).1
        · rw [hLL] at hi
          rw [hBs i hi]
          rcases (hy i hi).2.1 (fun _ _ => none) with ⟨_, e⟩ | ⟨_, _, _, e, _⟩
          · cases e
          · rw [e]; simp
        · simp only [As, List.map_map]
          exact List.map_congr_left fun i hi => ((hy i (List.mem_range.1 hi)).2.2.2 σ (fun k hk => hσ k (by rw [hLL]; exact hk))).1
        · simp only [Bs, List.map_map]
          exact List.map_congr_left fun i hi => ((hy i (List.mem_range.1 hi)).2.2.2 σ (fun k hk => hσ k (by rw [hLL]; exact hk))).2
      have hρ : ∀ r, r < len → rhoO l 0 (1 + r) = some (y r).2.2 := fun r hr => by
        show (if (0 : Nat) = 0 then l.getD (1 + r) none else none) = _
        rw [if_pos rfl, Nat.add_comm]
        simp [l, hr]
      refine ⟨.sl 0 0 0 0 LL.length 1, lms LL As Bs, l, LL, .inr (.inr ⟨As, Bs, rfl, by omega, rfl, hla⟩), ?_, ?_, by rw [hLL]; omega, fun i hi => ?_, fun i hi x hx => ?_⟩
      · refine ⟨.inr ⟨_, _, fz, rfl, rfl, arr, T, _, _, _, hheap, harr, hpre, rfl, rfl, (List.range len).map (fun r => Value.slice (A r) (L r) (C r)), [], by simp, ⟨hla.lenA, ?_⟩, rfl⟩, roO_of (by simp [Bs]) fun i hi => ?_⟩
        · refine relAts_of (by rw [hla.lenA, hLL]; simp) fun i hi => ?_
          have hi' : i < len := by simpa using hi
          rw [hAs i hi']
          have : ((List.range len).map fun r => Value.slice (A r) (L r) (C r)).getD i undef = .slice (A i) (L i) (C i) := by simp [hi']
          rw [this]
          exact (hy i hi').2.2.1 _ (hρ i hi')
        · have hi' : i < len := by simpa [Bs] using hi
          rw [hBs i hi']
          have : ((List.range len).map fun r => some (y r).2.2).getD i none = some (y i).2.2 := by simp [hi']
          rw [this]
          exact (hy i hi').2.1 _
      · refine ⟨(a.block, a.off, arr.size), cap, rfl, by rw [hLL]; exact hl, .inl ⟨by rw [hLL]; exact congrArg (fun z => Value.slice (some z) len cap) hae, ?_⟩⟩
        show a.off + 0 + 0 + cap * 1 ≤ arr.size; omega
      · rw [hLL] at hi
        obtain ⟨_, c1, c2, c3, _⟩ := hcell i (by omega)
        rw [hat i hi]; simp; omega
      · rw [hLL] at hi
        rw [hat i hi] at hx
        exact (hcell i (by omega)).2.2.2.2.1 x (List.mem_of_mem_take hx)
end Go.Abs
