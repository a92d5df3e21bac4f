/-
Plain laws of the abstract words: what is read as something still is when more names are known, when names change, and what reading and writing segments does to the cells.
-/
import Derived.Test.YtopkdpgbjpjgjaaAbsB
namespace Go.Abs
open Go
set_option linter.unusedVariables false
set_option linter.unusedSectionVars false
set_option linter.unusedSimpArgs false
set_option linter.defProp false

def Le (ρ ρ' : Rho) : Prop := ∀ a k p, ρ a k = some p → ρ' a k = some p

theorem Le.refl (ρ : Rho) : Le ρ ρ := fun _ _ _ h => h
theorem Le.trans {a b c : Rho} (h : Le a b) (h' : Le b c) : Le a c := fun x k p e => h' x k p (h x k p e)

section mono
variable {ρ ρ' : Rho} (h : Le ρ ρ')
include h

theorem RelCaps.mono : ∀ {cs : List (Nat × Nat × Nat × Nat)} {l : List Value}, RelCaps ρ cs l → RelCaps ρ' cs l
  | [], _, e => e
  | (a, k, st, off) :: r, _, ⟨p, l', h1, h2, h3⟩ => ⟨p, l', h _ _ _ h1, h2, RelCaps.mono h3⟩

theorem RelAt.mono : ∀ {x : Atom} {v : Value}, RelAt ρ x v → RelAt ρ' x v
  | .top, _, e => e
  | .s _, _, e => e
  | .ptr .., _, ⟨p, h1, h2⟩ => ⟨p, h _ _ _ h1, h2⟩
  | .nilp, _, e => e
  | .sl .., _, ⟨p, c, h1, h2⟩ => ⟨p, c, h _ _ _ h1, h2⟩
  | .nils, _, e => e
  | .sl0, _, e => e
  | .fn .., _, ⟨cs, h1, h2⟩ => ⟨cs, h1, RelCaps.mono h h2⟩
  | .nilf, _, e => e

theorem RelAts.mono : ∀ {x : List Atom} {l : List Value}, RelAts ρ x l → RelAts ρ' x l
  | [], _, e => e
  | _ :: _, _, ⟨v, l', h1, h2, h3⟩ => ⟨v, l', h1, RelAt.mono h h2, RelAts.mono h3⟩

theorem RelSg.mono : ∀ {g : Sg} {l : List Value}, RelSg ρ g l → RelSg ρ' g l
  | .ints .., _, e => e
  | .bools .., _, e => e
  | .cells .., _, ⟨h1, h2⟩ => ⟨h1, RelAts.mono h h2⟩

theorem RelSegs.mono : ∀ {gs : Segs} {s : Nat} {l : List Value}, RelSegs ρ s gs l → RelSegs ρ' s gs l
  | [], _, _, e => e
  | (_, _) :: _, _, _, ⟨h1, l1, l2, h2, h3, h4⟩ => ⟨h1, l1, l2, h2, RelSg.mono h h3, RelSegs.mono h4⟩

mutual
theorem RelV.mono : ∀ {x : AV} {v : Value}, RelV ρ x v → RelV ρ' x v
  | .top, _, _ => by simp [RelV]
  | .b _, _, e => by simpa [RelV] using e
  | .i _ _, _, e => by simpa [RelV] using e
  | .ref _, _, e => by simp only [RelV] at e ⊢; exact RelAt.mono h e
  | .agg _, _, e => by simp only [RelV] at e ⊢; obtain ⟨cs, h1, h2⟩ := e; exact ⟨cs, h1, RelSegs.mono h h2⟩
  | .tup _, _, e => by simp only [RelV] at e ⊢; obtain ⟨cs, h1, h2⟩ := e; exact ⟨cs, h1, RelVs.mono h2⟩
theorem RelVs.mono : ∀ {x : List AV} {l : List Value}, RelVs ρ x l → RelVs ρ' x l
  | [], _, e => by simpa [RelVs] using e
  | _ :: _, _, e => by simp only [RelVs] at e ⊢; obtain ⟨v, l', h1, h2, h3⟩ := e; exact ⟨v, l', h1, RelV.mono h2, RelVs.mono h3⟩
end
end mono

/-- 'σ' takes names of ρ to names of ρ'. -/
def Ren.To (σ : Ren) (ρ ρ' : Rho) : Prop := ∀ a k q p, σ a k = some q → ρ a k = some p → ρ' q.1 q.2 = some p

section ren
variable {ρ ρ' : Rho} {σ : Ren} (h : σ.To ρ ρ')
include h

theorem RelCaps.ren : ∀ {cs cs' : List (Nat × Nat × Nat × Nat)} {l : List Value}, RelCaps ρ cs l → renCaps σ cs = some cs' → RelCaps ρ' cs' l
  | [], _, _, e, e' => by simp only [renCaps, Option.some.injEq] at e'; subst e'; exact e
  | (a, k, st, off) :: r, cs', _, ⟨p, l', h1, h2, h3⟩, e' => by
    simp only [renCaps] at e'
    split at e'
    · rename_i q l1 hq hl
      simp only [Option.some.injEq] at e'
      subst e'
      exact ⟨p, l', h _ _ _ _ hq h1, h2, RelCaps.ren h3 hl⟩
    · simp at e'

theorem RelAt.ren : ∀ {x : Atom} {v : Value}, RelAt ρ x v → RelAt ρ' (renAt σ x) v
  | .top, _, e => e
  | .s _, _, e => e
  | .ptr a k st off, v, ⟨p, h1, h2⟩ => by
    simp only [renAt]
    split
    · rename_i q hq; exact ⟨p, h _ _ _ _ hq h1, h2⟩
    · subst h2; rfl
  | .nilp, _, e => e
  | .sl a k st off len esz, v, ⟨p, c, h1, h2, h3⟩ => by
    simp only [renAt]
    split
    · rename_i q hq; exact ⟨p, c, h _ _ _ _ hq h1, h2, h3⟩
    · rcases h3 with ⟨h3, _⟩ | ⟨_, ad, h3⟩ <;> subst h3 <;> rfl
  | .nils, _, e => e
  | .sl0, _, e => e
  | .fn f caps, v, ⟨cs, h1, h2⟩ => by
    simp only [renAt]
    split
    · rename_i q hq; exact ⟨cs, h1, RelCaps.ren h h2 hq⟩
    · subst h1; rfl
  | .nilf, _, e => e

theorem RelAts.ren : ∀ {x : List Atom} {l : List Value}, RelAts ρ x l → RelAts ρ' (x.map (renAt σ)) l
  | [], _, e => e
  | _ :: _, _, ⟨v, l', h1, h2, h3⟩ => ⟨v, l', h1, RelAt.ren h h2, RelAts.ren h3⟩

theorem RelSg.ren : ∀ {g : Sg} {l : List Value}, RelSg ρ g l → RelSg ρ' (renSg σ g) l
  | .ints .., _, e => e
  | .bools .., _, e => e
  | .cells .., _, ⟨h1, h2⟩ => ⟨by simpa using h1, RelAts.ren h h2⟩

omit h in
theorem renSg_len (g : Sg) : (renSg σ g).len = g.len := by cases g <;> rfl

theorem RelSegs.ren : ∀ {gs : Segs} {s : Nat} {l : List Value}, RelSegs ρ s gs l → RelSegs ρ' s (renSegs σ gs) l
  | [], _, _, e => e
  | (_, g) :: _, _, _, ⟨h1, l1, l2, h2, h3, h4⟩ => ⟨h1, l1, l2, h2, RelSg.ren h h3, by rw [renSg_len]; exact RelSegs.ren h4⟩

mutual
theorem RelV.ren : ∀ {x : AV} {v : Value}, RelV ρ x v → RelV ρ' (renV σ x) v
  | .top, _, _ => by simp [RelV, renV]
  | .b _, _, e => by simpa [RelV, renV] using e
  | .i _ _, _, e => by simpa [RelV, renV] using e
  | .ref _, _, e => by simp only [RelV, renV] at e ⊢; exact RelAt.ren h e
  | .agg _, _, e => by simp only [RelV, renV] at e ⊢; obtain ⟨cs, h1, h2⟩ := e; exact ⟨cs, h1, RelSegs.ren h h2⟩
  | .tup _, _, e => by simp only [RelV, renV] at e ⊢; obtain ⟨cs, h1, h2⟩ := e; exact ⟨cs, h1, RelVs.ren h2⟩
theorem RelVs.ren : ∀ {x : List AV} {l : List Value}, RelVs ρ x l → RelVs ρ' (renVs σ x) l
  | [], _, e => by simpa [RelVs, renVs] using e
  | _ :: _, _, e => by simp only [RelVs, renVs] at e ⊢; obtain ⟨v, l', h1, h2, h3⟩ := e; exact ⟨v, l', h1, RelV.ren h2, RelVs.ren h3⟩
end

theorem Holds.ren {w : World} {p : Nat × Nat × Nat} {gs : Segs} {fz : Nat × Nat} : Holds ρ w p gs fz → Holds ρ' w p (renSegs σ gs) fz := by
  rintro ⟨arr, T, pre, l, post, h1, h2, h3, h4, h5⟩
  exact ⟨arr, T, pre, l, post, h1, h2, h3, h4, RelSegs.ren h h5⟩
end ren

theorem Holds.mono {ρ ρ' : Rho} (h : Le ρ ρ') {w : World} {p : Nat × Nat × Nat} {gs : Segs} {fz : Nat × Nat} : Holds ρ w p gs fz → Holds ρ' w p gs fz := by
  rintro ⟨arr, T, pre, l, post, h1, h2, h3, h4, h5⟩
  exact ⟨arr, T, pre, l, post, h1, h2, h3, h4, RelSegs.mono h h5⟩

theorem Holds.world {ρ : Rho} {w w' : World} {p : Nat × Nat × Nat} {gs : Segs} {fz : Nat × Nat} (e : w'.heap[p.1]? = w.heap[p.1]?) : Holds ρ w p gs fz → Holds ρ w' p gs fz := by
  rintro ⟨arr, T, pre, l, post, h1, h2, h3, h4, h5⟩
  exact ⟨arr, T, pre, l, post, e ▸ h1, h2, h3, h4, h5⟩

theorem RelAt.one {ρ : Rho} : ∀ {x : Atom} {v : Value}, RelAt ρ x v → v.oneCell' = true
  | .top, _, e => e
  | .s _, _, e => by cases e; rfl
  | .ptr .., _, ⟨_, _, e⟩ => by cases e; rfl
  | .nilp, _, e => by cases e; rfl
  | .sl .., _, ⟨_, _, _, _, e⟩ => by rcases e with ⟨e, _⟩ | ⟨_, _, e⟩ <;> cases e <;> rfl
  | .nils, _, e => by cases e; rfl
  | .sl0, _, ⟨_, _, e⟩ => by cases e; rfl
  | .fn .., _, ⟨_, e, _⟩ => by cases e; rfl
  | .nilf, _, e => by cases e; rfl

theorem RelAts.one {ρ : Rho} : ∀ {x : List Atom} {l : List Value}, RelAts ρ x l → ∀ v ∈ l, v.oneCell' = true
  | [], _, e, v, hv => by cases e; cases hv
  | _ :: _, _, ⟨u, l', h1, h2, h3⟩, v, hv => by
    subst h1
    rcases List.mem_cons.1 hv with rfl | hv
    · exact h2.one
    · exact RelAts.one h3 v hv

theorem RelAts.length {ρ : Rho} : ∀ {x : List Atom} {l : List Value}, RelAts ρ x l → l.length = x.length
  | [], _, e => by cases e; rfl
  | _ :: _, _, ⟨_, _, h1, _, h3⟩ => by subst h1; simp [RelAts.length h3]

theorem RelSg.length {ρ : Rho} : ∀ {g : Sg} {l : List Value}, RelSg ρ g l → l.length = g.len
  | .ints .., _, ⟨h1, h2⟩ => by subst h2; simpa [Sg.len] using h1
  | .bools .., _, ⟨h1, h2⟩ => by subst h2; simpa [Sg.len] using h1
  | .cells .., _, ⟨h1, h2⟩ => by rw [RelAts.length h2]; exact h1

theorem RelSg.one {ρ : Rho} : ∀ {g : Sg} {l : List Value}, RelSg ρ g l → ∀ v ∈ l, v.oneCell' = true
  | .ints .., _, ⟨_, h2⟩, v, hv => by subst h2; obtain ⟨x, _, rfl⟩ := List.mem_map.1 hv; rfl
  | .bools .., _, ⟨_, h2⟩, v, hv => by subst h2; obtain ⟨x, _, rfl⟩ := List.mem_map.1 hv; rfl
  | .cells .., _, ⟨_, h2⟩, v, hv => RelAts.one h2 v hv

theorem RelSegs.one {ρ : Rho} : ∀ {gs : Segs} {s : Nat} {l : List Value}, RelSegs ρ s gs l → ∀ v ∈ l, v.oneCell' = true
  | [], _, _, e, v, hv => by cases e; cases hv
  | (_, _) :: _, _, _, ⟨_, l1, l2, h2, h3, h4⟩, v, hv => by
    subst h2
    rcases List.mem_append.1 hv with hv | hv
    · exact h3.one v hv
    · exact RelSegs.one h4 v hv

theorem RelSegs.length {ρ : Rho} : ∀ {gs : Segs} {s : Nat} {l : List Value}, RelSegs ρ s gs l → l.length = segsLen gs
  | [], _, _, e => by cases e; rfl
  | (_, _) :: _, _, _, ⟨_, l1, l2, h2, h3, h4⟩ => by subst h2; simp [segsLen, h3.length, RelSegs.length h4]

/-! ### one segment among all -/

theorem seg_split {ρ : Rho} : ∀ {gs : Segs} {s : Nat} {l : List Value} {st : Nat} {g : Sg}, RelSegs ρ s gs l → seg? gs st = some g →
    ∃ l1 l2 l3, l = l1 ++ l2 ++ l3 ∧ s + l1.length = st ∧ RelSg ρ g l2 ∧
      ∀ g' l2', g'.len = g.len → RelSg ρ g' l2' → RelSegs ρ s (updSeg gs st g') (l1 ++ l2' ++ l3)
  | [], _, _, _, _, _, e => by simp [seg?] at e
  | (s0, g0) :: r, s, l, st, g, ⟨h1, l1, l2, h2, h3, h4⟩, e => by
    simp only [seg?] at e
    split at e
    · rename_i hs
      simp only [Option.some.injEq] at e
      subst e
      refine ⟨[], l1, l2, by simpa using h2, by simp [← h1, hs], h3, ?_⟩
      intro g' l2' hl hr
      simp only [updSeg, hs, if_true, List.nil_append]
      exact ⟨hs ▸ h1, l2', l2, rfl, hr, by rw [hl]; exact h4⟩
    · rename_i hs
      obtain ⟨a1, a2, a3, b1, b2, b3, b4⟩ := seg_split h4 e
      refine ⟨l1 ++ a1, a2, a3, by rw [h2, b1]; simp, by simp [h3.length]; omega, b3, ?_⟩
      intro g' l2' hl hr
      simp only [updSeg, hs, if_false]
      exact ⟨h1, l1, a1 ++ l2' ++ a3, by simp, h3, b4 g' l2' hl hr⟩

theorem RelAts.getD {ρ : Rho} : ∀ {x : List Atom} {l : List Value} {j : Nat}, RelAts ρ x l → j < x.length → ∃ v, l[j]? = some v ∧ RelAt ρ (x.getD j .top) v
  | [], _, _, _, h => by simp at h
  | _ :: _, _, 0, ⟨v, l', h1, h2, _⟩, _ => ⟨v, by simp [h1], h2⟩
  | _ :: r, _, j + 1, ⟨v, l', h1, _, h3⟩, h => by
    obtain ⟨u, e, hu⟩ := RelAts.getD (j := j) h3 (by simpa using h)
    exact ⟨u, by simp [h1, e], by simpa using hu⟩

theorem ldSc_sound {ρ : Rho} {gs : Segs} {l : List Value} {st off : Nat} {K : AV → Prop} (h : RelSegs ρ 0 gs l) (hk : ldSc gs st off K) :
    ∃ v val, K v ∧ l[st + off]? = some val ∧ RelV ρ v val ∧ val.oneCell' = true := by
  unfold ldSc at hk
  have key : ∀ g, seg? gs st = some g → ∀ v, off < g.len → (∀ l2, RelSg ρ g l2 → ∃ val, l2[off]? = some val ∧ RelV ρ v val ∧ val.oneCell' = true) → ∃ val, l[st + off]? = some val ∧ RelV ρ v val ∧ val.oneCell' = true := by
    intro g hg v ho hv
    obtain ⟨l1, l2, l3, e, hl1, hr, _⟩ := seg_split h hg
    obtain ⟨val, h1, h2, h3⟩ := hv l2 hr
    refine ⟨val, ?_, h2, h3⟩
    have hlen := hr.length
    have : st = l1.length := by omega
    subst this
    rw [e, List.append_assoc, List.getElem?_append_right (by omega), List.getElem?_append_left (by omega)]
    rw [← h1]; congr 1; omega
  split at hk
  · rename_i k n xs hg
    obtain ⟨ho, hK⟩ := hk
    obtain ⟨val, h1, h2, h3⟩ := key _ hg (.i k (xs.getD off 0)) ho (by
      rintro l2 ⟨hn, rfl⟩
      refine ⟨.int k (xs.getD off 0), ?_, by simp [RelV], rfl⟩
      have : off < xs.length := by rw [hn]; exact ho
      simp [this])
    exact ⟨_, val, hK, h1, h2, h3⟩
  · rename_i n xs hg
    obtain ⟨ho, hK⟩ := hk
    obtain ⟨val, h1, h2, h3⟩ := key _ hg (.b (xs.getD off false)) ho (by
      rintro l2 ⟨hn, rfl⟩
      refine ⟨.bool (xs.getD off false), ?_, by simp [RelV], rfl⟩
      have : off < xs.length := by rw [hn]; exact ho
      simp [this])
    exact ⟨_, val, hK, h1, h2, h3⟩
  · rename_i n vs hg
    obtain ⟨ho, hK⟩ := hk
    obtain ⟨val, h1, h2, h3⟩ := key _ hg (.ref (vs.getD off .top)) ho (by
      rintro l2 ⟨hn, hr⟩
      obtain ⟨v, e, hv⟩ := RelAts.getD (j := off) hr (by rw [hn]; exact ho)
      exact ⟨v, e, by simpa [RelV] using hv, hv.one⟩)
    exact ⟨_, val, hK, h1, h2, h3⟩
  · exact hk.elim

theorem dropTo_sound {ρ : Rho} : ∀ {gs : Segs} {s : Nat} {l : List Value} {st : Nat} {g : Sg}, RelSegs ρ s gs l → seg? gs st = some g →
    ∃ l1 l2, l = l1 ++ l2 ∧ s + l1.length = st ∧ RelSegs ρ st (dropTo gs st) l2
  | [], _, _, _, _, _, e => by simp [seg?] at e
  | (s0, g0) :: r, s, l, st, g, h, e => by
    simp only [seg?] at e
    split at e
    · rename_i hs
      refine ⟨[], l, rfl, by simp [← h.1, hs], ?_⟩
      simp only [dropTo, hs, if_true]
      have := h.1
      rw [hs] at this
      subst this
      subst hs
      exact h
    · rename_i hs
      obtain ⟨h1, l1, l2, h2, h3, h4⟩ := h
      obtain ⟨a1, a2, b1, b2, b3⟩ := dropTo_sound h4 e
      refine ⟨l1 ++ a1, a2, by rw [h2, b1]; simp, by simp [h3.length]; omega, ?_⟩
      simp only [dropTo, hs, if_false]
      exact b3

theorem takeSz_sound {ρ : Rho} {st : Nat} : ∀ {gs : Segs} {sz s : Nat} {l : List Value} {hs : Segs}, RelSegs ρ s gs l → st ≤ s → takeSz st gs sz = some hs →
    ∃ l1 l2, l = l1 ++ l2 ∧ l1.length = sz ∧ RelSegs ρ (s - st) hs l1
  | gs, 0, s, l, hs, _, _, e => by
    have : hs = [] := by cases gs <;> simp [takeSz] at e <;> exact e
    subst this
    exact ⟨[], l, rfl, rfl, rfl⟩
  | [], _ + 1, _, _, _, _, _, e => by simp [takeSz] at e
  | (s0, g) :: r, n + 1, s, l, hs, ⟨h1, l1, l2, h2, h3, h4⟩, hst, e => by
    simp only [takeSz] at e
    split at e
    · rename_i hg
      cases hq : takeSz st r (n + 1 - g.len) with
      | none => simp [hq] at e
      | some hs' =>
        simp only [hq, Option.map_some, Option.some.injEq] at e
        subst e
        obtain ⟨a1, a2, b1, b2, b3⟩ := takeSz_sound h4 (by omega) hq
        refine ⟨l1 ++ a1, a2, by rw [h2, b1]; simp, by simp [h3.length, b2]; omega, by rw [h1], l1, a1, rfl, h3, ?_⟩
        have : s + g.len - st = s - st + g.len := by omega
        rw [this] at b3
        exact b3
    · simp at e

theorem RelAts.append {ρ : Rho} : ∀ {x y : List Atom} {l m : List Value}, RelAts ρ x l → RelAts ρ y m → RelAts ρ (x ++ y) (l ++ m)
  | [], _, _, _, e, h => by cases e; simpa using h
  | _ :: _, _, _, _, ⟨v, l', h1, h2, h3⟩, h => by subst h1; exact ⟨v, l' ++ _, rfl, h2, RelAts.append h3 h⟩

theorem RelAts.take {ρ : Rho} : ∀ {x : List Atom} {l : List Value} (n : Nat), RelAts ρ x l → RelAts ρ (x.take n) (l.take n)
  | [], _, n, e => by cases e; simp [RelAts]
  | _ :: _, _, 0, _ => by simp [RelAts]
  | _ :: _, _, n + 1, ⟨v, l', h1, h2, h3⟩ => by subst h1; exact ⟨v, _, rfl, h2, RelAts.take n h3⟩

theorem RelAts.drop {ρ : Rho} : ∀ {x : List Atom} {l : List Value} (n : Nat), RelAts ρ x l → RelAts ρ (x.drop n) (l.drop n)
  | [], _, n, e => by cases e; simp [RelAts]
  | _ :: _, _, 0, h => h
  | _ :: _, _, n + 1, ⟨v, l', h1, _, h3⟩ => by subst h1; exact RelAts.drop n h3

theorem spl_eq {α : Type} (xs : List α) (off : Nat) (ys : List α) (h : off + ys.length ≤ xs.length) : spl xs off ys = xs.take off ++ ys ++ xs.drop (off + ys.length) := by
  unfold spl
  split
  · rename_i y
    have : off < xs.length := by simp at h; omega
    rw [List.set_eq_take_append_cons_drop, if_pos this]
    simp
  · rfl

theorem ldMulti_sound {ρ : Rho} {gs : Segs} {l : List Value} {st off sz : Nat} {K : AV → Prop} {g : Sg} (hg : seg? gs st = some g) (h : RelSegs ρ 0 gs l) (hk : ldMulti gs st off sz K) :
    ∃ v l1 l2 l3, K v ∧ l = l1 ++ l2 ++ l3 ∧ l1.length = st + off ∧ l2.length = sz ∧ RelV ρ v (.agg l2.toArray) := by
  obtain ⟨ho, hk⟩ := hk
  obtain ⟨l1, l2, e, hl, hr⟩ := dropTo_sound h hg
  split at hk
  · rename_i hs ht
    obtain ⟨a1, a2, b1, b2, b3⟩ := takeSz_sound hr (Nat.le_refl _) ht
    exact ⟨_, l1, a1, a2, hk, by rw [e, b1]; simp, by omega, b2, by simp only [RelV]; exact ⟨a1, rfl, by simpa using b3⟩⟩
  · exact hk.elim

theorem ldAg_sound {ρ : Rho} {gs : Segs} {l : List Value} {st off sz : Nat} {K : AV → Prop} (h : RelSegs ρ 0 gs l) (hk : ldAg gs st off sz K) :
    ∃ v l1 l2 l3, K v ∧ l = l1 ++ l2 ++ l3 ∧ l1.length = st + off ∧ l2.length = sz ∧ RelV ρ v (.agg l2.toArray) := by
  have key : ∀ g, seg? gs st = some g → ∀ g' : Sg, g'.len = sz → off + sz ≤ g.len → (∀ l2, RelSg ρ g l2 → RelSg ρ g' ((l2.drop off).take sz)) → K (.agg [(0, g')]) →
      ∃ v l1 l2 l3, K v ∧ l = l1 ++ l2 ++ l3 ∧ l1.length = st + off ∧ l2.length = sz ∧ RelV ρ v (.agg l2.toArray) := by
    intro g hg g' hlen ho hr hK
    obtain ⟨l1, l2, l3, e, hl1, hr2, _⟩ := seg_split h hg
    have h2 := hr2.length
    refine ⟨_, l1 ++ l2.take off, (l2.drop off).take sz, (l2.drop off).drop sz ++ l3, hK, ?_, by simp; omega, by simp; omega, ?_⟩
    · rw [e]
      have e2 : l2 = l2.take off ++ ((l2.drop off).take sz ++ (l2.drop off).drop sz) := by rw [List.take_append_drop, List.take_append_drop]
      conv => lhs; rw [e2]
      simp
    · simp only [RelV]
      exact ⟨_, rfl, rfl, _, [], by simp, hr l2 hr2, by simp [RelSegs]⟩
  unfold ldAg at hk
  split at hk
  · rename_i k n xs hg
    split at hk
    · rename_i hn
      obtain ⟨rfl, hK⟩ := hk
      subst hn
      refine key _ hg _ rfl (by simp [Sg.len]) (fun l2 hr => ?_) hK
      have := hr.length
      simp only [Sg.len] at this
      rw [List.drop_zero, List.take_of_length_le (by omega)]
      exact hr
    · split at hk
      · obtain ⟨ho, hK⟩ := hk
        refine key _ hg _ rfl ho (fun l2 hr => ?_) hK
        obtain ⟨hn, rfl⟩ := hr
        exact ⟨by simp; omega, by simp [List.map_take, List.map_drop]⟩
      · exact ldMulti_sound hg h hk
  · rename_i n xs hg
    split at hk
    · rename_i hn
      obtain ⟨rfl, hK⟩ := hk
      subst hn
      refine key _ hg _ rfl (by simp [Sg.len]) (fun l2 hr => ?_) hK
      have := hr.length
      simp only [Sg.len] at this
      rw [List.drop_zero, List.take_of_length_le (by omega)]
      exact hr
    · split at hk
      · obtain ⟨ho, hK⟩ := hk
        refine key _ hg _ rfl ho (fun l2 hr => ?_) hK
        obtain ⟨hn, rfl⟩ := hr
        exact ⟨by simp; omega, by simp [List.map_take, List.map_drop]⟩
      · exact ldMulti_sound hg h hk
  · rename_i hg; exact ldMulti_sound hg h hk
  · exact hk.elim

/-! ### writing -/

theorem splice_sound {ρ : Rho} {g g' : Sg} {off : Nat} {K : Sg → Prop} {l l' : List Value} (h : RelSg ρ g l) (h' : RelSg ρ g' l') (hk : splice g off g' K) :
    ∃ g2, K g2 ∧ g2.len = g.len ∧ off + l'.length ≤ l.length ∧ RelSg ρ g2 (l.take off ++ l' ++ l.drop (off + l'.length)) := by
  have hl := h.length
  have hl' := h'.length
  unfold splice at hk
  split at hk
  · rename_i k n xs k' m ys
    obtain ⟨rfl, hk⟩ := hk
    obtain ⟨hn, rfl⟩ := h
    obtain ⟨hm, rfl⟩ := h'
    simp only [Sg.len] at hl hl'
    split at hk
    · rename_i hmn
      obtain ⟨rfl, hK⟩ := hk
      refine ⟨_, hK, rfl, by omega, by omega, ?_⟩
      rw [List.take_zero, List.drop_of_length_le (by omega)]
      simp
    · obtain ⟨ho, hK⟩ := hk
      refine ⟨_, hK, rfl, by omega, ?_, ?_⟩
      · rw [spl_eq _ _ _ (by omega)]; simp; omega
      · rw [spl_eq _ _ _ (by omega)]; simp [List.map_take, List.map_drop]
  · rename_i n xs m ys
    obtain ⟨hn, rfl⟩ := h
    obtain ⟨hm, rfl⟩ := h'
    simp only [Sg.len] at hl hl'
    split at hk
    · rename_i hmn
      obtain ⟨rfl, hK⟩ := hk
      refine ⟨_, hK, rfl, by omega, by omega, ?_⟩
      rw [List.take_zero, List.drop_of_length_le (by omega)]
      simp
    · obtain ⟨ho, hK⟩ := hk
      refine ⟨_, hK, rfl, by omega, ?_, ?_⟩
      · rw [spl_eq _ _ _ (by omega)]; simp; omega
      · rw [spl_eq _ _ _ (by omega)]; simp [List.map_take, List.map_drop]
  · rename_i n xs m ys
    obtain ⟨hn, hx⟩ := h
    obtain ⟨hm, hy⟩ := h'
    have e1 := hx.length
    have e2 := hy.length
    simp only [Sg.len] at hl hl'
    split at hk
    · rename_i hmn
      obtain ⟨rfl, hK⟩ := hk
      refine ⟨_, hK, rfl, by omega, by omega, ?_⟩
      rw [List.take_zero, List.drop_of_length_le (by omega)]
      simpa using hy
    · obtain ⟨ho, hK⟩ := hk
      refine ⟨_, hK, rfl, by omega, ?_, ?_⟩
      · rw [spl_eq _ _ _ (by omega)]; simp; omega
      · rw [spl_eq _ _ _ (by omega), ← e2]
        exact ((hx.take off).append hy).append (hx.drop _)
  · exact hk.elim

/-- A list with some of its elements put anew. -/
def over (l : List Value) (at_ : Nat) (l' : List Value) : List Value := l.take at_ ++ l' ++ l.drop (at_ + l'.length)

theorem over_length (l : List Value) (j : Nat) (l' : List Value) (h : j + l'.length ≤ l.length) : (over l j l').length = l.length := by
  unfold over; simp; omega

theorem over_over (l : List Value) (j : Nat) (a b : List Value) (h : j + a.length + b.length ≤ l.length) : over (over l j a) (j + a.length) b = over l j (a ++ b) := by
  unfold over
  have h1 : (List.take j l ++ a).length = j + a.length := by simp; omega
  rw [List.take_append_of_le_length (by omega), List.take_of_length_le (by omega), List.drop_append, List.drop_of_length_le (by omega), h1]
  simp only [List.nil_append, List.drop_drop, List.length_append, List.append_assoc]
  congr 3
  congr 1
  omega

theorem seg_over {ρ : Rho} {gs : Segs} {l : List Value} {st off : Nat} {g g' : Sg} {K : Segs → Prop} {l' : List Value} (h : RelSegs ρ 0 gs l) (hg : seg? gs st = some g) (h' : RelSg ρ g' l')
    (hk : splice g off g' fun g2 => K (updSeg gs st g2)) : ∃ gs', K gs' ∧ st + off + l'.length ≤ l.length ∧ RelSegs ρ 0 gs' (over l (st + off) l') := by
  obtain ⟨l1, l2, l3, e, hl1, hr, hu⟩ := seg_split h hg
  obtain ⟨g2, hK, h1, h2, h3⟩ := splice_sound hr h' hk
  have := hr.length
  refine ⟨_, hK, by rw [e]; simp; omega, ?_⟩
  have := hu g2 _ h1 h3
  have e2 : over l (st + off) l' = l1 ++ (l2.take off ++ l' ++ l2.drop (off + l'.length)) ++ l3 := by
    subst e
    have : st = l1.length := by omega
    subst this
    unfold over
    simp only [List.append_assoc]
    rw [List.take_length_add_append, List.take_append_of_le_length (by omega)]
    have : l1.length + off + l'.length = l1.length + (off + l'.length) := by omega
    rw [this, List.drop_length_add_append, List.drop_append_of_le_length (by omega)]
    simp
  rw [e2]
  exact this

theorem stMulti_sound {ρ : Rho} {st : Nat} : ∀ {vs : Segs} {gs : Segs} {l : List Value} {s : Nat} {K : Segs → Prop} {l' : List Value}, RelSegs ρ 0 gs l → RelSegs ρ s vs l' → st + s ≤ l.length → stMulti gs st vs K →
    ∃ gs', K gs' ∧ st + s + l'.length ≤ l.length ∧ RelSegs ρ 0 gs' (over l (st + s) l')
  | [], gs, l, s, K, l', h, h', hs, hk => by
    cases h'
    refine ⟨gs, hk, by simpa using hs, ?_⟩
    unfold over
    simpa using h
  | (s0, g') :: r, gs, l, s, K, l', h, ⟨h1, l1, l2, h2, h3, h4⟩, hs, hk => by
    subst h1
    simp only [stMulti] at hk
    split at hk
    · rename_i g hg
      obtain ⟨hlen, hk⟩ := hk
      obtain ⟨gs', hK, hb, hr⟩ := seg_over (K := fun gs2 => stMulti gs2 st r K) h hg h3 hk
      have hl3 := h3.length
      have hlo := over_length l (st + s0 + 0) l1 hb
      obtain ⟨gs2, hK2, hb2, hr2⟩ := stMulti_sound (s := s0 + g'.len) hr h4 (by rw [hlo]; omega) hK
      refine ⟨gs2, hK2, by subst h2; simp; omega, ?_⟩
      subst h2
      have e : st + (s0 + g'.len) = st + s0 + 0 + l1.length := by omega
      rw [e, over_over _ _ _ _ (by omega)] at hr2
      exact hr2
    · exact hk.elim

theorem stSegs_sound {ρ : Rho} {gs : Segs} {l : List Value} {st off : Nat} {vs : Segs} {K : Segs → Prop} {l' : List Value} (h : RelSegs ρ 0 gs l) (h' : RelSegs ρ 0 vs l') (hk : stSegs gs st off vs K) :
    ∃ gs', K gs' ∧ st + off + l'.length ≤ l.length ∧ RelSegs ρ 0 gs' (over l (st + off) l') := by
  unfold stSegs at hk
  split at hk
  · rename_i s0 g'
    obtain ⟨_, l1, l2, h2, h3, h4⟩ := h'
    have : l2 = [] := h4
    subst this
    rw [List.append_nil] at h2
    subst h2
    split at hk
    · rename_i g hg
      exact seg_over h hg h3 hk
    · exact hk.elim
  · obtain ⟨rfl, hsome, hk⟩ := hk
    obtain ⟨g, hg⟩ := Option.isSome_iff_exists.1 hsome
    obtain ⟨l1, l2, l3, e, hl1, _, _⟩ := seg_split h hg
    have := stMulti_sound (s := 0) h h' (by rw [e]; simp; omega) hk
    simpa using this

theorem segsOfAV_sound {ρ : Rho} {x : AV} {v : Value} {gs : Segs} (h : RelV ρ x v) (e : segsOfAV x = some gs) : RelSegs ρ 0 gs v.cells.toList := by
  cases x <;> simp only [segsOfAV, Option.some.injEq, reduceCtorEq] at e <;> subst e <;> simp only [RelV] at h
  · subst h; exact ⟨rfl, [.bool _], [], rfl, ⟨rfl, rfl⟩, rfl⟩
  · subst h; exact ⟨rfl, [.int _ _], [], rfl, ⟨rfl, rfl⟩, rfl⟩
  · have h1 := h.one
    have : v.cells = #[v] := by cases v <;> simp_all [Value.cells, Value.oneCell']
    rw [this]
    exact ⟨rfl, [v], [], rfl, ⟨rfl, v, [], rfl, h, rfl⟩, rfl⟩
  · obtain ⟨cs, rfl, h⟩ := h
    simpa [Value.cells] using h

end Go.Abs
