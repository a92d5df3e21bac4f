/-
What each operation of the model does to values and memory that read as the abstract words say: the memory's part.
-/
import Derived.Test.YtopkdpgbjpjgjaaAbsC
namespace Go.Abs
open Go
set_option linter.unusedVariables false
set_option linter.unusedSectionVars false
set_option linter.unusedSimpArgs false
set_option linter.defProp false

def fupd (get : Nat → Nat → Blk) (p : Id) (b : Blk) : Nat → Nat → Blk := fun a k => if p.1 = a ∧ p.2 = k then b else get a k

theorem Mem.get_put (m : Mem) (p : Id) (b : Blk) (h : p.1 = 0 → p.2 < m.args.length) : (m.put p b).get = fupd m.get p b := by
  funext a k
  obtain ⟨x, y⟩ := p
  simp only [Mem.put, fupd]
  by_cases hx : x = 0
  · subst hx
    simp only [Mem.get]
    have := h rfl
    by_cases ha : a = 0
    · subst ha
      simp only [if_true, true_and, List.getD_eq_getElem?_getD, List.getElem?_set]
      by_cases hk : y = k
      · subst hk; simp at this; simp [this]
      · simp [hk]
    · simp only [ha, if_false, if_true]
      rw [if_neg]
      rintro ⟨rfl, _⟩
      exact ha rfl
  · simp only [hx, if_false, Mem.get]
    by_cases ha : a = 0
    · subst ha
      simp [hx]
    · simp only [ha, if_false, assoc]

theorem Mem.put_args (m : Mem) (p : Id) (b : Blk) : (m.put p b).args.length = m.args.length := by
  unfold Mem.put; split <;> simp

theorem Mem.put_next (m : Mem) (p : Id) (b : Blk) : (m.put p b).next = m.next := by
  unfold Mem.put; split <;> simp

theorem Mem.upd_args (ups : Ups) : ∀ (m : Mem), (m.upd ups).args.length = m.args.length := by
  induction ups with
  | nil => intro m; rfl
  | cons x r ih => intro m; obtain ⟨p, b⟩ := x; simp only [Mem.upd]; rw [ih, Mem.put_args]

theorem Mem.upd_next (ups : Ups) : ∀ (m : Mem), (m.upd ups).next = m.next := by
  induction ups with
  | nil => intro m; rfl
  | cons x r ih => intro m; obtain ⟨p, b⟩ := x; simp only [Mem.upd]; rw [ih, Mem.put_next]

def fupds (get : Nat → Nat → Blk) : Ups → Nat → Nat → Blk
  | [] => get
  | (p, b) :: r => fupds (fupd get p b) r

theorem Mem.get_upd (ups : Ups) : ∀ (m : Mem), (∀ x ∈ ups, x.1.1 = 0 → x.1.2 < m.args.length) → (m.upd ups).get = fupds m.get ups := by
  induction ups with
  | nil => intro m _; rfl
  | cons x r ih =>
    intro m h
    obtain ⟨p, b⟩ := x
    simp only [Mem.upd, fupds]
    rw [ih _ (fun y hy => by rw [Mem.put_args]; exact h y (by simp [hy])), Mem.get_put _ _ _ (h (p, b) (by simp))]

theorem Mem.get_tick (m : Mem) : m.tick.get = m.get := rfl

theorem Mem.live_lt {m : Mem} {k : Nat} {rw_ : Bool} {gs : Segs} (h : m.get 0 k = .lv rw_ gs) : k < m.args.length := by
  simp only [Mem.get, if_true, List.getD_eq_getElem?_getD] at h
  rcases Nat.lt_or_ge k m.args.length with h' | h'
  · exact h'
  · simp [List.getElem?_eq_none h'] at h

/-! ### the world -/

theorem Kept.refl (own : Nat → Prop) (w : World) : Kept own w w := ⟨Nat.le_refl _, fun _ _ _ => rfl, fun _ arr T fz h => ⟨arr, T, fz, h, rfl⟩, rfl, rfl, fun _ => rfl⟩

theorem Kept.trans {own : Nat → Prop} {w w1 w2 : World} (h : Kept own w w1) (h' : Kept own w1 w2) : Kept own w w2 :=
  ⟨Nat.le_trans h.grows h'.grows, fun b hb ho => by rw [h'.same b (Nat.lt_of_lt_of_le hb h.grows) ho, h.same b hb ho],
   fun b arr T fz e => by
    obtain ⟨a1, T1, f1, e1, s1⟩ := h.sizes b arr T fz e
    obtain ⟨a2, T2, f2, e2, s2⟩ := h'.sizes b a1 T1 f1 e1
    exact ⟨a2, T2, f2, e2, s2.trans s1⟩, h'.os.trans h.os, h'.out.trans h.out, fun a => (h'.frz a).trans (h.frz a)⟩

theorem Kept.mono {own own' : Nat → Prop} {w w' : World} (h : Kept own w w') (ho : ∀ b, b < w.heap.size → own b → own' b) : Kept own' w w' :=
  ⟨h.grows, fun b hb hn => h.same b hb (fun x => hn (ho b hb x)), h.sizes, h.os, h.out, h.frz⟩

theorem Kept.draw (own : Nat → Prop) (w : World) (n : Nat) : Kept own w { w with drawn := n } := ⟨Nat.le_refl _, fun _ _ _ => rfl, fun _ arr T fz h => ⟨arr, T, fz, h, rfl⟩, rfl, rfl, fun _ => rfl⟩

theorem alloc_heap (w : World) (o : Obj) (b : Nat) (h : b < w.heap.size) : (w.alloc o).heap[b]? = w.heap[b]? := by
  show (w.heap.push o)[b]? = w.heap[b]?
  rw [Array.getElem?_push, if_neg (by omega)]

theorem alloc_new (w : World) (o : Obj) : (w.alloc o).heap[w.heap.size]? = some o := by
  show (w.heap.push o)[w.heap.size]? = some o
  rw [Array.getElem?_push, if_pos rfl]

theorem alloc_size (w : World) (o : Obj) : (w.alloc o).heap.size = w.heap.size + 1 := by
  show (w.heap.push o).size = _
  rw [Array.size_push]

theorem frozen_alloc (w : World) (c : Array Value) (t : TypeId) (a : Addr) : (w.alloc (.cells c t)).frozen? a = w.frozen? a := by
  unfold World.frozen?
  rcases Nat.lt_trichotomy a.block w.heap.size with h | h | h
  · rw [alloc_heap w _ _ h]
  · rw [h, alloc_new, Array.getElem?_eq_none (Nat.le_refl _)]
    simp
  · rw [Array.getElem?_eq_none (by rw [alloc_size]; omega), Array.getElem?_eq_none (by omega)]

theorem Kept.alloc (own : Nat → Prop) (w : World) (c : Array Value) (t : TypeId) : Kept own w (w.alloc (.cells c t)) :=
  ⟨by rw [alloc_size]; omega, fun b hb _ => alloc_heap w _ b hb, fun b arr T fz h => ⟨arr, T, fz, by
    rw [alloc_heap w _ b (Array.getElem?_eq_some_iff.1 h).1]; exact h, rfl⟩, rfl, rfl, frozen_alloc w c t⟩

theorem Kept.setRow {own : Nat → Prop} {w : World} {g : Nat} {old cs : Array Value} {T : TypeId} {fz : Nat × Nat} (hg : w.heap[g]? = some (.cells old T fz)) (hs : cs.size = old.size) (ho : own g) : Kept own w (w.setRow g cs) :=
  ⟨by simp, fun b _ hn => setRow_other w g b cs (fun e => hn (e ▸ ho)), fun b arr T' fz' h => by
    by_cases hb : b = g
    · subst hb
      rw [hg] at h
      simp only [Option.some.injEq, Obj.cells.injEq] at h
      obtain ⟨rfl, rfl, rfl⟩ := h
      exact ⟨cs, T, fz, setRow_heap w b _ cs _ _ hg, hs⟩
    · exact ⟨arr, T', fz', by rw [setRow_other w g b cs hb]; exact h, rfl⟩, rfl, rfl, fun a => by
    unfold World.frozen?
    by_cases hb : a.block = g
    · rw [hb, setRow_heap w g _ cs _ _ hg, hg]
    · rw [setRow_other w g _ cs hb]⟩

section
variable {ρ ρ' : Rho} {own : Nat → Prop} {get : Nat → Nat → Blk} {w w' : World}

theorem MemRel.world (h : MemRel ρ own get w) (e : w'.heap = w.heap) : MemRel ρ own get w' :=
  ⟨fun a k rw_ gs hg => by obtain ⟨p, fz, h1, h2, h3⟩ := h.holds a k rw_ gs hg; exact ⟨p, fz, h1, h2.world (by rw [e]), h3⟩, h.apart,
   fun a k p hp => by rw [e]; exact h.there a k p hp, h.rws⟩

/-- A block of one's own is written. -/
theorem MemRel.write {a k : Nat} {gs gs' : Segs} {p : Nat × Nat × Nat} {old cs : Array Value} {T : TypeId} (h : MemRel ρ own get w) (hg : get a k = .lv true gs) (hp : ρ a k = some p)
    (hh : w.heap[p.1]? = some (.cells old T (0, 0))) (hs : cs.size = old.size) (hH : Holds ρ (w.setRow p.1 cs) p gs' (0, 0)) : MemRel ρ own (fupd get (a, k) (.lv true gs')) (w.setRow p.1 cs) := by
  obtain ⟨p0, fz, e1, e2, e3, _⟩ := h.holds a k true gs hg
  rw [hp] at e1
  obtain rfl := Option.some.inj e1
  obtain ⟨rfl, ho⟩ := e3 rfl
  refine ⟨fun a' k' rw_ gs2 hg2 => ?_, fun a1 k1 a2 k2 g1 g2 p1 p2 x1 x2 => ?_, fun a' k' q hq => ?_, fun a' k' rw_ gs2 ha hg2 => ?_⟩
  · simp only [fupd] at hg2
    split at hg2
    · rename_i hc
      obtain ⟨rfl, rfl⟩ := hc
      simp only [Blk.lv.injEq] at hg2
      obtain ⟨rfl, rfl⟩ := hg2
      exact ⟨p, (0, 0), hp, hH, fun _ => ⟨rfl, ho⟩, fun hf => by cases hf⟩
    · rename_i hc
      obtain ⟨q, fz, f1, f2, f3, f4⟩ := h.holds a' k' rw_ gs2 hg2
      refine ⟨q, fz, f1, f2.world (setRow_other w _ _ _ ?_), f3, f4⟩
      intro e
      cases rw_ with
      | true => exact hc ((h.apart a' k' a k gs2 gs q p hg2 hg f1 hp e).imp Eq.symm Eq.symm)
      | false => exact f4 rfl (e ▸ ho)
  · intro y1 y2 e
    simp only [fupd] at x1 x2
    split at x1 <;> split at x2
    · rename_i c1 c2; exact ⟨c1.1.symm.trans c2.1, c1.2.symm.trans c2.2⟩
    · rename_i c1 c2; obtain ⟨rfl, rfl⟩ := c1; exact h.apart _ _ _ _ gs g2 p1 p2 hg x2 y1 y2 e
    · rename_i c1 c2; obtain ⟨rfl, rfl⟩ := c2; exact h.apart _ _ _ _ g1 gs p1 p2 x1 hg y1 y2 e
    · exact h.apart _ _ _ _ g1 g2 p1 p2 x1 x2 y1 y2 e
  · obtain ⟨arr, T', fz', f1, f2⟩ := h.there a' k' q hq
    by_cases e : q.1 = p.1
    · rw [e] at f1 ⊢
      rw [hh] at f1
      simp only [Option.some.injEq, Obj.cells.injEq] at f1
      obtain ⟨rfl, rfl, rfl⟩ := f1
      exact ⟨cs, T, (0, 0), setRow_heap w _ _ cs _ _ hh, hs.trans f2⟩
    · exact ⟨arr, T', fz', by rw [setRow_other w _ _ _ e]; exact f1, f2⟩
  · simp only [fupd] at hg2
    split at hg2
    · simp only [Blk.lv.injEq] at hg2; exact hg2.1.symm
    · exact h.rws a' k' rw_ gs2 ha hg2

/-- ρ with one more name. -/
def more (ρ : Rho) (n j : Nat) (p : Nat × Nat × Nat) : Rho := fun a k => if a = n ∧ k = j then some p else ρ a k

theorem Le.more {n j : Nat} {p : Nat × Nat × Nat} (h : ρ n j = none) : Le ρ (more ρ n j p) := by
  intro a k q hq
  simp only [Abs.more]
  split
  · rename_i hc; obtain ⟨rfl, rfl⟩ := hc; rw [h] at hq; cases hq
  · exact hq

/-- A name for a block of one's own that no live name names. -/
theorem MemRel.name {n : Nat} {gs : Segs} {p : Nat × Nat × Nat} (h : MemRel ρ own get w) (hn : ρ n 0 = none) (hnz : n ≠ 0)
    (hfree : ∀ a k gs' q, get a k = .lv true gs' → ρ a k = some q → q.1 ≠ p.1) (ho : own p.1)
    (hH : Holds (more ρ n 0 p) w p gs (0, 0)) : MemRel (more ρ n 0 p) own (fupd get (n, 0) (.lv true gs)) w := by
  have hle := Le.more (p := p) hn
  have hself : more ρ n 0 p n 0 = some p := by simp [more]
  have hother : ∀ a k, ¬ (n = a ∧ 0 = k) → more ρ n 0 p a k = ρ a k := by
    intro a k hc
    simp only [more]
    rw [if_neg]
    rintro ⟨rfl, rfl⟩
    exact hc ⟨rfl, rfl⟩
  refine ⟨fun a' k' rw_ gs2 hg2 => ?_, fun a1 k1 a2 k2 g1 g2 p1 p2 x1 x2 => ?_, fun a' k' q hq => ?_, fun a' k' rw_ gs2 ha hg2 => ?_⟩
  · simp only [fupd] at hg2
    split at hg2
    · rename_i hc
      obtain ⟨rfl, rfl⟩ := hc
      simp only [Blk.lv.injEq] at hg2
      obtain ⟨rfl, rfl⟩ := hg2
      exact ⟨p, (0, 0), hself, hH, fun _ => ⟨rfl, ho⟩, fun hf => by cases hf⟩
    · obtain ⟨q, fz, f1, f2, f3, f4⟩ := h.holds a' k' rw_ gs2 hg2
      exact ⟨q, fz, hle _ _ _ f1, f2.mono hle, f3, f4⟩
  · intro y1 y2 e
    simp only [fupd] at x1 x2
    split at x1 <;> split at x2
    · rename_i c1 c2; exact ⟨c1.1.symm.trans c2.1, c1.2.symm.trans c2.2⟩
    · rename_i c1 c2
      obtain ⟨rfl, rfl⟩ := c1
      rw [hself] at y1
      obtain rfl := Option.some.inj y1
      rw [hother _ _ c2] at y2
      exact absurd e.symm (hfree _ _ _ _ x2 y2)
    · rename_i c1 c2
      obtain ⟨rfl, rfl⟩ := c2
      rw [hself] at y2
      obtain rfl := Option.some.inj y2
      rw [hother _ _ c1] at y1
      exact absurd e (hfree _ _ _ _ x1 y1)
    · rename_i c1 c2
      rw [hother _ _ c1] at y1
      rw [hother _ _ c2] at y2
      exact h.apart _ _ _ _ g1 g2 p1 p2 x1 x2 y1 y2 e
  · by_cases hc : n = a' ∧ 0 = k'
    · obtain ⟨rfl, rfl⟩ := hc
      rw [hself] at hq
      obtain rfl := Option.some.inj hq
      obtain ⟨arr, T, pre, l, post, f1, _, _, f4, _⟩ := hH
      exact ⟨arr, T, (0, 0), f1, f4⟩
    · rw [hother _ _ hc] at hq
      exact h.there a' k' q hq
  · simp only [fupd] at hg2
    split at hg2
    · simp only [Blk.lv.injEq] at hg2; exact hg2.1.symm
    · exact h.rws a' k' rw_ gs2 ha hg2

theorem MemRel.alloc (h : MemRel ρ own get w) (o : Obj) : MemRel ρ own get (w.alloc o) := by
  refine ⟨fun a k rw_ gs hg => ?_, h.apart, fun a k p hp => ?_, h.rws⟩
  · obtain ⟨p, fz, h1, h2, h3⟩ := h.holds a k rw_ gs hg
    obtain ⟨arr, T, fz', h4, _⟩ := h.there a k p h1
    exact ⟨p, fz, h1, h2.world (alloc_heap w o _ (Array.getElem?_eq_some_iff.1 h4).1), h3⟩
  · obtain ⟨arr, T, fz', h4, h5⟩ := h.there a k p hp
    exact ⟨arr, T, fz', by rw [alloc_heap w o _ (Array.getElem?_eq_some_iff.1 h4).1]; exact h4, h5⟩

/-- A new block under a new name. -/
theorem MemRel.new {n : Nat} {gs : Segs} {arr : Array Value} {T : TypeId} {l post : List Value} (h : MemRel ρ own get w) (hn : ρ n 0 = none) (hnz : n ≠ 0) (ho : own w.heap.size)
    (harr : arr.toList = l ++ post) (hr : RelSegs ρ 0 gs l) :
    MemRel (more ρ n 0 (w.heap.size, 0, arr.size)) own (fupd get (n, 0) (.lv true gs)) (w.alloc (.cells arr T (0, 0))) := by
  refine MemRel.name (h.alloc _) hn hnz (fun a k gs' q hg hq e => ?_) ho ?_
  · obtain ⟨arr', T', fz', h4, _⟩ := h.there a k q hq
    have := (Array.getElem?_eq_some_iff.1 h4).1
    have e' : q.1 = w.heap.size := e
    omega
  · exact ⟨arr, T, [], l, post, alloc_new w _, by simpa using harr, rfl, rfl, hr.mono (Le.more hn)⟩

/-- A name is struck. -/
theorem MemRel.kill {a k : Nat} (h : MemRel ρ own get w) : MemRel ρ own (fupd get (a, k) .dead) w := by
  refine ⟨fun a' k' rw_ gs hg => ?_, fun a1 k1 a2 k2 g1 g2 p1 p2 x1 x2 => ?_, h.there, fun a' k' rw_ gs ha hg => ?_⟩
  · simp only [fupd] at hg
    split at hg
    · cases hg
    · exact h.holds a' k' rw_ gs hg
  · simp only [fupd] at x1 x2
    split at x1
    · cases x1
    · split at x2
      · cases x2
      · exact h.apart a1 k1 a2 k2 g1 g2 p1 p2 x1 x2
  · simp only [fupd] at hg
    split at hg
    · cases hg
    · exact h.rws a' k' rw_ gs ha hg
end

/-! ### cells of a block -/

theorem holds_cell {ρ : Rho} {w : World} {p : Nat × Nat × Nat} {gs : Segs} {fz : Nat × Nat} (h : Holds ρ w p gs fz) :
    ∃ arr T l, w.heap[p.1]? = some (.cells arr T fz) ∧ RelSegs ρ 0 gs l ∧ p.2.1 + l.length ≤ arr.size ∧ (∀ j v, l[j]? = some v → w.cell? ⟨p.1, p.2.1 + j, none⟩ = some v) := by
  obtain ⟨arr, T, pre, l, post, h1, h2, h3, h4, h5⟩ := h
  have hs : arr.size = pre.length + l.length + post.length := by rw [← Array.length_toList, h2]; simp; omega
  refine ⟨arr, T, l, h1, h5, by omega, fun j v hv => ?_⟩
  have hj : j < l.length := (List.getElem?_eq_some_iff.1 hv).1
  rw [cell_of_row w p.1 _ arr T fz h1, ← Array.getElem?_toList, h2, List.append_assoc, List.getElem?_append_right (by omega), List.getElem?_append_left (by omega), ← hv]
  congr 1
  omega

theorem holds_over {ρ : Rho} {w : World} {p : Nat × Nat × Nat} {gs : Segs} {at_ : Nat} {l' : List Value} {K : Segs → Prop} (h : Holds ρ w p gs (0, 0))
    (hk : ∀ l, RelSegs ρ 0 gs l → ∃ gs', K gs' ∧ at_ + l'.length ≤ l.length ∧ RelSegs ρ 0 gs' (over l at_ l')) :
    ∃ gs' old T cs, K gs' ∧ w.heap[p.1]? = some (.cells old T (0, 0)) ∧ p.2.1 + at_ + l'.length ≤ old.size ∧
      cs = (old.toList.take (p.2.1 + at_) ++ l' ++ old.toList.drop (p.2.1 + at_ + l'.length)).toArray ∧ cs.size = old.size ∧ Holds ρ (w.setRow p.1 cs) p gs' (0, 0) := by
  obtain ⟨arr, T, pre, l, post, h1, h2, h3, h4, h5⟩ := h
  have hs : arr.size = pre.length + l.length + post.length := by rw [← Array.length_toList, h2]; simp; omega
  obtain ⟨gs', hK, hb, hr⟩ := hk l h5
  refine ⟨gs', arr, T, _, hK, h1, by omega, rfl, ?_⟩
  have hsz : (arr.toList.take (p.2.1 + at_) ++ l' ++ arr.toList.drop (p.2.1 + at_ + l'.length)).length = arr.size := by simp; omega
  refine ⟨by simpa using hsz, _, T, pre, over l at_ l', post, setRow_heap w _ _ _ _ _ h1, ?_, h3, ?_, hr⟩
  · simp only [h2, over, ← h3]
    rw [List.append_assoc pre, List.take_length_add_append, Nat.add_assoc, List.drop_length_add_append, List.take_append_of_le_length (by omega), List.drop_append_of_le_length (by omega)]
    simp
  · rw [List.size_toArray, hsz]; exact h4

/-! ### what the model's small programs come to -/

section
variable {P : Program} {w : World}

theorem szOf_pos {t : TypeId} (h : 0 < szOf P t) : ∃ i, P.info? t = some i ∧ i.size = szOf P t := by
  unfold szOf at *
  cases hq : P.info? t with
  | none => simp [hq] at h
  | some i => exact ⟨i, rfl, by simp⟩

theorem run_sizeOf {t : TypeId} (h : (P.info? t).isSome = true) : (sizeOf t).run P w = .ok (szOf P t) w := by
  cases hq : P.info? t with
  | none => simp [hq] at h
  | some i => simp [sizeOf, typeInfo, hq, szOf]

theorem isSome_of_pos {t : TypeId} (h : 0 < szOf P t) : (P.info? t).isSome = true := by
  obtain ⟨i, hi, _⟩ := szOf_pos h; simp [hi]

theorem tyOf_arr {t n esz sz : Nat} (h : tyOf P t = .arr n esz sz) : ∃ e, P.underlying t = some (.array n e) ∧ esz = szOf P e ∧ sz = szOf P t := by
  unfold tyOf at h
  split at h <;> simp_all
theorem tyOf_st {t sz : Nat} {offs : List (Nat × Nat)} (h : tyOf P t = .st offs sz) : ∃ fs, P.underlying t = some (.struct fs) ∧ offs = fs.toList.map (fun f => (f.offset, szOf P f.type)) ∧ sz = szOf P t := by
  unfold tyOf at h
  split at h <;> simp_all
theorem tyOf_sl {t esz bytes : Nat} (h : tyOf P t = .sl esz bytes) : ∃ e, P.underlying t = some (.slice e) ∧ esz = szOf P e ∧ bytes = bytesOf P e ∧ elOf P t = e := by
  unfold tyOf at h
  split at h <;> simp_all [elOf]
theorem tyOf_str {t : Nat} (h : tyOf P t = .str) : P.underlying t = some .string := by
  unfold tyOf at h
  split at h <;> simp_all
theorem tyOf_int {t : Nat} {k : IntKind} (h : tyOf P t = .int k) : P.underlying t = some (.int k) := by
  unfold tyOf at h
  split at h <;> simp_all

theorem isAgg_false {t : TypeId} (h : match tyOf P t with | .arr .. | .st .. | .other => False | _ => True) : (isAgg t).run P w = .ok false w := by
  unfold tyOf at h
  unfold isAgg
  cases hu : P.underlying t with
  | none => simp [hu] at h
  | some d =>
    rw [Sem.run_bind, run_underlying hu w]
    cases d <;> simp [hu] at h <;> rfl

theorem isAgg_true {t : TypeId} (h : match tyOf P t with | .arr .. | .st .. => True | _ => False) : (isAgg t).run P w = .ok true w := by
  unfold tyOf at h
  unfold isAgg
  cases hu : P.underlying t with
  | none => simp [hu] at h
  | some d =>
    rw [Sem.run_bind, run_underlying hu w]
    cases d <;> simp [hu] at h <;> rfl

theorem addr_add (b o j : Nat) : (⟨b, o, none⟩ : Addr).add j = ⟨b, o + j, none⟩ := by unfold Addr.add; split <;> simp_all

theorem run_loadVar_agg {t : TypeId} {b o : Nat} {l : List Value} (h : match tyOf P t with | .arr .. | .st .. => True | _ => False) (hs : 0 < szOf P t) (hl : l.length = szOf P t)
    (hc : ∀ j v, l[j]? = some v → w.cell? ⟨b, o + j, none⟩ = some v) : (loadVar t ⟨b, o, none⟩).run P w = .ok (.agg l.toArray) w := by
  have h1 := run_loadCells_list (P := P) w ⟨b, o, none⟩ l (fun j v hv => by rw [addr_add]; exact hc j v hv)
  simp [loadVar, isAgg_true h, run_sizeOf (isSome_of_pos hs), ← hl, h1]

theorem run_loadVar_one {t : TypeId} {a : Addr} {v : Value} (h : match tyOf P t with | .arr .. | .st .. | .other => False | _ => True)
    (hc : w.cell? a = some v) : (loadVar t a).run P w = .ok v w := by
  simp [loadVar, isAgg_false h, hc]

theorem run_storeVar_at {t : TypeId} {b o : Nat} {v : Value} {old : Array Value} {T : TypeId} (hi : (P.info? t).isSome = true) (hs : v.cells.size = szOf P t) (hh : w.heap[b]? = some (.cells old T (0, 0)))
    (hb : o + v.cells.size ≤ old.size) (h1 : ∀ x ∈ v.cells.toList, x.oneCell' = true) :
    (storeVar t ⟨b, o, none⟩ v).run P w = .ok () (w.setRow b (old.toList.take o ++ v.cells.toList ++ old.toList.drop (o + v.cells.toList.length)).toArray) := by
  have := run_storeCells_at P b o T v.cells.toList 0 old w hh (by simpa using hb) h1
  simp only [Nat.add_zero] at this
  simp [storeVar, run_sizeOf hi, hs, this]

theorem run_zeroValue {t : TypeId} {z : Value} (h : (P.info? t).bind (·.zero) = some z) : (zeroValue t).run P w = .ok z w := by
  cases hq : P.info? t with
  | none => simp [hq] at h
  | some i =>
    simp only [hq, Option.bind_some] at h
    simp [zeroValue, typeInfo, hq, h]

theorem run_newVar (t : TypeId) (v : Value) : (newVar t v).run P w = .ok ⟨w.heap.size, 0, none⟩ (w.alloc (.cells v.cells t (0, 0))) := by
  rfl
end

theorem intsOf_sound {k : IntKind} : ∀ {vs : List Value} {xs : List Int}, intsOf k vs = some xs → vs = xs.map (Value.int k)
  | [], xs, h => by simp [intsOf] at h; subst h; rfl
  | v :: r, xs, h => by
    cases v <;> simp [intsOf] at h
    obtain ⟨rfl, ys, hy, rfl⟩ := h
    simp [intsOf_sound hy]

theorem boolsOf_sound : ∀ {vs : List Value} {xs : List Bool}, boolsOf vs = some xs → vs = xs.map Value.bool
  | [], xs, h => by simp [boolsOf] at h; subst h; rfl
  | v :: r, xs, h => by
    cases v <;> simp [boolsOf] at h
    obtain ⟨ys, hy, rfl⟩ := h
    simp [boolsOf_sound hy]

theorem atomOf_sound {ρ : Rho} {v : Value} {a : Atom} (h : atomOf v = some a) : RelAt ρ a v := by
  unfold atomOf at h
  split at h <;> simp at h <;> subst h <;> rfl

theorem atomsOf_sound {ρ : Rho} : ∀ {vs : List Value} {xs : List Atom}, atomsOf vs = some xs → RelAts ρ xs vs
  | [], xs, h => by simp [atomsOf] at h; subst h; rfl
  | v :: r, xs, h => by
    simp only [atomsOf] at h
    split at h
    · rename_i a l ha hl
      simp at h
      subst h
      exact ⟨v, r, rfl, atomOf_sound ha, atomsOf_sound hl⟩
    · simp at h

theorem segsOf_sound {ρ : Rho} : ∀ {lay : List (Nat × Lk)} {s : Nat} {vs : List Value} {gs : Segs}, segsOf s lay vs = some gs → RelSegs ρ s gs vs
  | [], s, vs, gs, h => by
    cases vs with
    | nil => simp [segsOf] at h; subst h; rfl
    | cons v r => simp [segsOf] at h
  | (n, k) :: r, s, vs, gs, h => by
    simp only [segsOf] at h
    split at h
    · rename_i hn
      split at h
      · rename_i g gs' hg hgs
        simp at h
        subst h
        have hr : RelSg ρ g (vs.take n) ∧ g.len = n := by
          cases k <;> simp [segOf] at hg
          · obtain ⟨xs, hx, rfl⟩ := hg
            have := intsOf_sound hx
            exact ⟨⟨by rw [← hn, this]; simp, this⟩, rfl⟩
          · obtain ⟨xs, hx, rfl⟩ := hg
            have := boolsOf_sound hx
            exact ⟨⟨by rw [← hn, this]; simp, this⟩, rfl⟩
          · obtain ⟨xs, hx, rfl⟩ := hg
            have := atomsOf_sound (ρ := ρ) hx
            exact ⟨⟨by rw [← hn, this.length], this⟩, rfl⟩
        refine ⟨rfl, vs.take n, vs.drop n, (List.take_append_drop _ _).symm, hr.1, ?_⟩
        rw [hr.2]
        exact segsOf_sound hgs
      · simp at h
    · simp at h

theorem zeroOf_sound {P : Program} {t : TypeId} {gs : Segs} (h : zeroOf P t = some gs) : ∃ z, (P.info? t).bind (·.zero) = some z ∧ ∀ ρ : Rho, RelSegs ρ 0 gs z.cells.toList := by
  unfold zeroOf at h
  split at h
  · rename_i z hz
    exact ⟨z, hz, fun ρ => segsOf_sound h⟩
  · simp at h

end Go.Abs
