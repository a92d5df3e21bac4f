/-
Calls in the abstract words; all operations under one law.
-/
import Derived.Test.YtopkdpgbjpjgjaaAbsG
namespace Go.Abs
open Go
set_option linter.unusedVariables false
set_option linter.unusedSectionVars false
set_option linter.unusedSimpArgs false
set_option linter.defProp false

theorem fupds_append (u v : Ups) : ∀ get, fupds get (u ++ v) = fupds (fupds get u) v := by
  induction u with
  | nil => intro get; rfl
  | cons x r ih => intro get; obtain ⟨p, b⟩ := x; simp only [List.cons_append, fupds]; exact ih _

theorem idx_lt : ∀ {F : List Id} {a k j : Nat}, idx F a k = some j → F[j]? = some (a, k)
  | [], _, _, _, h => by simp [idx] at h
  | p :: r, a, k, j, h => by
    simp only [idx] at h
    split at h
    · rename_i hc
      simp at h
      subst h
      simp [← hc.1, ← hc.2]
    · cases hi : idx r a k with
      | none => simp [hi] at h
      | some j' =>
        simp [hi] at h
        subst h
        simpa using idx_lt hi

theorem idx_mem : ∀ {F : List Id} {a k : Nat}, (a, k) ∈ F → ∃ j, idx F a k = some j
  | [], _, _, h => by cases h
  | p :: r, a, k, h => by
    simp only [idx]
    split
    · exact ⟨0, rfl⟩
    · rename_i hc
      rcases List.mem_cons.1 h with rfl | h
      · exact absurd ⟨rfl, rfl⟩ hc
      · obtain ⟨j, hj⟩ := idx_mem h
        exact ⟨j + 1, by simp [hj]⟩

theorem idx_none {F : List Id} {a k : Nat} (h : (a, k) ∉ F) : idx F a k = none := by
  cases hi : idx F a k with
  | none => rfl
  | some j => exact absurd (List.mem_of_getElem? (idx_lt hi)) h

theorem idx_of_get : ∀ {F : List Id} {j a k : Nat}, F.Nodup → F[j]? = some (a, k) → idx F a k = some j
  | [], j, a, k, _, h => by simp at h
  | p :: r, j, a, k, hn, h => by
    obtain ⟨h1, h2⟩ := List.nodup_cons.1 hn
    cases j with
    | zero => simp at h; subst h; simp [idx]
    | succ j =>
      have h' : r[j]? = some (a, k) := by simpa using h
      simp only [idx]
      rw [if_neg, idx_of_get h2 h']
      · rfl
      · rintro ⟨e1, e2⟩
        exact h1 (by have := List.mem_of_getElem? h'; rwa [← e1, ← e2] at this)

theorem fupds_zip (σ : Ren) : ∀ {F : List Id} {as : List Blk}, F.Nodup → as.length = F.length → ∀ get a k,
    fupds get (zipUps σ F as) a k = match idx F a k with | some j => renBlk σ (as.getD j .dead) | none => get a k
  | [], as, _, h, get, a, k => by cases as <;> simp [zipUps, fupds, idx]
  | p :: r, [], _, h, _, _, _ => by simp at h
  | p :: r, b :: bs, hn, h, get, a, k => by
    obtain ⟨h1, h2⟩ := List.nodup_cons.1 hn
    simp only [zipUps, fupds]
    rw [fupds_zip σ h2 (by simpa using h)]
    simp only [idx]
    by_cases hc : p.1 = a ∧ p.2 = k
    · rw [if_pos hc, idx_none (by obtain ⟨rfl, rfl⟩ := hc; exact h1)]
      simp [fupd, hc]
    · rw [if_neg hc]
      cases hi : idx r a k with
      | none => simp [fupd, hc]
      | some j => simp

theorem fupds_new (σ : Ren) (nid : Nat) : ∀ {ns : List Blk} {j : Nat} {get : Nat → Nat → Blk} {a k : Nat},
    fupds get (newUps σ nid j ns) a k = if a = nid ∧ j ≤ k ∧ k < j + ns.length then renBlk σ (ns.getD (k - j) .dead) else get a k
  | [], j, get, a, k => by
    simp only [newUps, fupds, List.length_nil]
    rw [if_neg (by omega)]
  | b :: bs, j, get, a, k => by
    simp only [newUps, fupds]
    rw [fupds_new σ nid (ns := bs)]
    by_cases h1 : a = nid ∧ j + 1 ≤ k ∧ k < j + 1 + bs.length
    · rw [if_pos h1, if_pos ⟨h1.1, by omega, by simp; omega⟩]
      obtain ⟨d, hd⟩ : ∃ d, k - j = d + 1 := ⟨k - j - 1, by omega⟩
      rw [show k - (j + 1) = d by omega, hd]
      simp
    · rw [if_neg h1]
      by_cases h2 : a = nid ∧ k = j
      · obtain ⟨rfl, rfl⟩ := h2
        rw [if_pos ⟨rfl, by omega, by simp⟩]
        simp [fupd]
      · rw [if_neg (by simp only [List.length_cons]; omega)]
        simp only [fupd]
        rw [if_neg]
        rintro ⟨rfl, rfl⟩
        exact h2 ⟨rfl, rfl⟩

theorem renBlk_live {σ : Ren} {b : Blk} {rw_ : Bool} {gs : Segs} (h : renBlk σ b = .lv rw_ gs) : ∃ gs0, b = .lv rw_ gs0 ∧ gs = renSegs σ gs0 := by
  cases b with
  | dead => simp [renBlk] at h
  | lv r g => simp [renBlk] at h; obtain ⟨rfl, rfl⟩ := h; exact ⟨g, rfl, rfl⟩

section
variable {P : Program} {ρ : Rho} {own : Nat → Prop} {env : Env} {m : Mem} {a : Act} {w : World}

/-- What an operation is asked to do, its outcome open. -/
def OpK (P : Program) (ρ : Rho) (own : Nat → Prop) (m : Mem) (a : Act) (w : World) (o : Oper) (K : AV → Ups → List Id → Prop) : Prop :=
  ∀ next Q, (∀ v ups rd val w' ρ', K v ups rd → (∀ x ∈ ups, x.1.1 = 0 → x.1.2 < m.args.length) → After ρ own m ups v w val w' ρ' → next (a.put o.dst val) w') → o.wp P a w next Q

theorem OpOk.toK {o : Oper} {v : AV} {ups : Ups} {rd : List Id} {K : AV → Ups → List Id → Prop} (h : OpOk P ρ own m a w o v ups) (hk : K v ups rd) : OpK P ρ own m a w o K :=
  fun next Q hn => h.2 next Q fun val w' ρ' ha => hn v ups rd val w' ρ' hk h.1 ha

theorem RelCaps.vals : ∀ {caps : List (Nat × Nat × Nat × Nat)} {cs : List Value}, RelCaps ρ caps cs → RelVs ρ (capArgs caps) cs
  | [], cs, h => by cases h; simp [capArgs, RelVs]
  | (x, k, st, off) :: r, cs, ⟨p, l', h1, h2, h3⟩ => by
    subst h2
    simp only [capArgs, List.map_cons, RelVs]
    exact ⟨_, l', rfl, by simp only [RelV, RelAt]; exact ⟨p, h1, rfl⟩, RelCaps.vals h3⟩

theorem RelVs.append : ∀ {x y : List AV} {l l' : List Value}, RelVs ρ x l → RelVs ρ y l' → RelVs ρ (x ++ y) (l ++ l')
  | [], y, l, l', h, h' => by simp only [RelVs] at h; subst h; simpa using h'
  | _ :: _, y, l, l', h, h' => by
    simp only [RelVs, List.cons_append] at h ⊢
    obtain ⟨v, l2, rfl, h1, h2⟩ := h
    exact ⟨v, l2 ++ l', rfl, h1, RelVs.append h2 h'⟩

theorem RelVs.args (c : RelE ρ env a) : ∀ (xs : List Operand), RelVs ρ (xs.map (aev env)) (xs.map a.eval)
  | [] => by simp [RelVs]
  | x :: r => by simp only [List.map_cons, RelVs]; exact ⟨_, _, rfl, aev_sound c x, RelVs.args c r⟩

def rhoIn (ρ : Rho) (F : List Id) : Rho := fun a k => if a = 0 then (F[k]?).bind fun p => ρ p.1 p.2 else none

theorem renIn_to (F : List Id) : (renIn F).To ρ (rhoIn ρ F) := by
  intro a' k q p h1 h2
  simp only [renIn] at h1
  cases hi : idx F a' k with
  | none => simp [hi] at h1
  | some j =>
    simp [hi] at h1
    subst h1
    simp [rhoIn, idx_lt hi, h2]

theorem ok_calls {o : Oper} {f : FuncId} {vs : List AV} {vals : List Value} {K : AV → Ups → List Id → Prop} (c : Ctx ρ own env m a w) (hvs : RelVs ρ vs vals)
    (hrun : Okf P f → (execOp a.eval o).run P w = .ok (.enter f vals.toArray) w) (hk : CallsVia P f vs m K) : OpK P ρ own m a w o K := by
  obtain ⟨F, hnd, hlive, hok, hc⟩ := hk
  intro next Q hn
  unfold Oper.wp
  rw [hrun hok, Oper.upon_enter]
  have hFlive : ∀ p ∈ F, ∃ rw_ gs, m.get p.1 p.2 = .lv rw_ gs := by
    intro p hp
    have := hlive p hp
    cases hg : m.get p.1 p.2 with
    | dead => exact absurd hg this
    | lv r g => exact ⟨r, g, rfl⟩
  let ownc : Nat → Prop := fun b => ∃ p ∈ F, ∃ gs q, m.get p.1 p.2 = .lv true gs ∧ ρ p.1 p.2 = some q ∧ q.1 = b
  have hownc : ∀ b, ownc b → own b := by
    rintro b ⟨p, hp, gs, q, h1, h2, rfl⟩
    obtain ⟨q', fz, h3, _, h4, _⟩ := c.mem.holds p.1 p.2 true gs h1
    rw [h2] at h3
    obtain rfl := Option.some.inj h3
    exact (h4 rfl).2
  have hlt : ∀ {a' k : Nat} {q : Nat × Nat × Nat}, ρ a' k = some q → q.1 < w.heap.size := by
    intro a' k q h
    obtain ⟨arr, T, fz, h1, _⟩ := c.mem.there a' k q h
    exact (Array.getElem?_eq_some_iff.1 h1).1
  have hargs : ∀ j, (argBlks m F).getD j .dead = match F[j]? with | some p => renBlk (renIn F) (m.get p.1 p.2) | none => .dead := by
    intro j
    simp only [argBlks, List.getD_eq_getElem?_getD, List.getElem?_map]
    cases F[j]? <;> rfl
  have hM : MemRel (rhoIn ρ F) ownc (getArgs (argBlks m F)) w := by
    refine ⟨fun a' k rw_ gs hg => ?_, fun a1 k1 a2 k2 g1 g2 p1 p2 x1 x2 y1 y2 e => ?_, fun a' k p hp => ?_, fun a' k rw_ gs ha hg => ?_⟩
    · simp only [getArgs] at hg
      split at hg
      · rename_i h0
        subst h0
        rw [hargs] at hg
        cases hF : F[k]? with
        | none => simp [hF] at hg
        | some p =>
          simp only [hF] at hg
          obtain ⟨gs0, h1, rfl⟩ := renBlk_live hg
          obtain ⟨q, fz, h2, h3, h4, h5⟩ := c.mem.holds p.1 p.2 rw_ gs0 h1
          refine ⟨q, fz, by simp [rhoIn, hF, h2], h3.ren (renIn_to F), fun hr => ⟨(h4 hr).1, p, List.mem_of_getElem? hF, gs0, q, hr ▸ h1, h2, rfl⟩, fun hr ho => h5 hr (hownc _ ho)⟩
      · cases hg
    · simp only [getArgs] at x1 x2
      split at x1
      · split at x2
        · rename_i z1 z2
          subst z1
          subst z2
          rw [hargs] at x1 x2
          cases hF1 : F[k1]? with
          | none => simp [hF1] at x1
          | some q1 =>
            cases hF2 : F[k2]? with
            | none => simp [hF2] at x2
            | some q2 =>
              simp only [hF1] at x1
              simp only [hF2] at x2
              obtain ⟨gs1, h1, _⟩ := renBlk_live x1
              obtain ⟨gs2, h2, _⟩ := renBlk_live x2
              simp [rhoIn, hF1] at y1
              simp [rhoIn, hF2] at y2
              have := c.mem.apart _ _ _ _ _ _ _ _ h1 h2 y1 y2 e
              have hq : q1 = q2 := Prod.ext this.1 this.2
              subst hq
              have i1 := idx_of_get hnd hF1
              have i2 := idx_of_get hnd hF2
              rw [i1] at i2
              exact ⟨rfl, Option.some.inj i2⟩
        · cases x2
      · cases x1
    · simp only [rhoIn] at hp
      split at hp
      · cases hF : F[k]? with
        | none => simp [hF] at hp
        | some q =>
          simp [hF] at hp
          exact c.mem.there _ _ _ hp
      · cases hp
    · simp only [getArgs, ha, if_false] at hg
      cases hg
  refine (hc (rhoIn ρ F) ownc w vals (fun a' k h => by simp [rhoIn, h]) ?_ hM (RelVs.ren (renIn_to F) hvs)).mono ?_
  · rintro b ⟨p, hp, gs, q, _, h2, rfl⟩
    exact hlt h2
  · rintro e w' ⟨r, as, ns, val, ρ', rfl, hR, hlen, hr, hM', h0, h2, hkept⟩
    have hlen' : as.length = F.length := by rw [hlen]; simp [argBlks]
    let ρ2 : Rho := fun a' k => if a' = m.next then ρ' 1 k else ρ a' k
    have hto : (renOut m.next F).To ρ' ρ2 := by
      intro a' k q p g1 g2
      simp only [renOut] at g1
      split at g1
      · rename_i z; subst z
        rw [h0, rhoIn] at g2
        simp only [if_true, g1, Option.bind_some] at g2
        simp only [ρ2]
        rw [if_neg]
        · exact g2
        · intro z
          have := c.fresh q.2
          rw [← z, g2] at this
          cases this
      · split at g1
        · rename_i z; subst z
          simp at g1
          subst g1
          simp [ρ2, g2]
        · cases g1
    have hle : Le ρ ρ2 := by
      intro a' k p hp
      simp only [ρ2]
      rw [if_neg]
      · exact hp
      · rintro rfl
        rw [c.fresh k] at hp
        cases hp
    have hget : ∀ a' k, fupds m.get (zipUps (renOut m.next F) F as ++ newUps (renOut m.next F) m.next 0 ns) a' k =
        if a' = m.next ∧ k < ns.length then renBlk (renOut m.next F) (ns.getD k .dead) else
          match idx F a' k with | some j => renBlk (renOut m.next F) (as.getD j .dead) | none => m.get a' k := by
      intro a' k
      rw [fupds_append, fupds_new, fupds_zip _ hnd hlen']
      simp
    have hnF : ∀ k, (m.next, k) ∉ F := by
      intro k hmem
      obtain ⟨rw_, gs, hg⟩ := hFlive _ hmem
      obtain ⟨q, fz, hq, _⟩ := c.mem.holds _ _ _ _ hg
      have hq' : ρ m.next k = some q := hq
      rw [c.fresh k] at hq'
      cases hq'
    have hnew : ∀ k, m.get m.next k = .dead := by
      intro k
      cases hg : m.get m.next k with
      | dead => rfl
      | lv r g =>
        obtain ⟨q, fz, hq, _⟩ := c.mem.holds _ _ _ _ hg
        rw [c.fresh k] at hq
        cases hq
    -- the three kinds of names
    have kinds : ∀ a' k rw_ gs, fupds m.get (zipUps (renOut m.next F) F as ++ newUps (renOut m.next F) m.next 0 ns) a' k = .lv rw_ gs →
        (∃ gs0, a' = m.next ∧ ns.getD k .dead = .lv rw_ gs0 ∧ gs = renSegs (renOut m.next F) gs0) ∨
        (∃ j gs0, a' ≠ m.next ∧ F[j]? = some (a', k) ∧ as.getD j .dead = .lv rw_ gs0 ∧ gs = renSegs (renOut m.next F) gs0) ∨
        (a' ≠ m.next ∧ (a', k) ∉ F ∧ m.get a' k = .lv rw_ gs) := by
      intro a' k rw_ gs hg
      rw [hget] at hg
      split at hg
      · rename_i hc
        obtain ⟨gs0, g1, g2⟩ := renBlk_live hg
        exact .inl ⟨gs0, hc.1, g1, g2⟩
      · rename_i hc
        split at hg
        · rename_i j hj
          obtain ⟨gs0, g1, g2⟩ := renBlk_live hg
          refine .inr (.inl ⟨j, gs0, ?_, idx_lt hj, g1, g2⟩)
          rintro rfl
          exact hnF k (List.mem_of_getElem? (idx_lt hj))
        · rename_i hj
          refine .inr (.inr ⟨?_, ?_, hg⟩)
          · rintro rfl
            rw [hnew] at hg
            cases hg
          · intro hmem
            obtain ⟨j, hj'⟩ := idx_mem hmem
            rw [hj] at hj'
            cases hj'
    have hrhoF : ∀ j a' k, F[j]? = some (a', k) → ρ' 0 j = ρ a' k := by
      intro j a' k hj
      rw [h0, rhoIn]
      simp [hj]
    have hrho2 : ∀ a' k, a' ≠ m.next → ρ2 a' k = ρ a' k := fun a' k h => by simp [ρ2, h]
    have hownw : ∀ b, (ownc b ∨ w.heap.size ≤ b) → own b := fun b h => h.elim (hownc b) (c.own b)
    -- a live name that is not handed in lies elsewhere
    have hother : ∀ a' k rw_ gs q, (a', k) ∉ F → m.get a' k = .lv rw_ gs → ρ a' k = some q → ¬ (ownc q.1 ∨ w.heap.size ≤ q.1) := by
      intro a' k rw_ gs q hmem hg hq
      rintro (⟨p, hp, gs', q', g1, g2, g3⟩ | hge)
      · cases rw_ with
        | true =>
          have := c.mem.apart _ _ _ _ _ _ _ _ g1 hg g2 hq g3
          exact hmem (by rw [← this.1, ← this.2]; exact hp)
        | false =>
          obtain ⟨q2, fz, f1, _, _, f4⟩ := c.mem.holds _ _ _ _ hg
          rw [hq] at f1
          obtain rfl := Option.some.inj f1
          exact f4 rfl (hownc _ ⟨p, hp, gs', q', g1, g2, g3⟩)
      · have := hlt hq
        omega
    have hMem : MemRel ρ2 own (fupds m.get (zipUps (renOut m.next F) F as ++ newUps (renOut m.next F) m.next 0 ns)) w' := by
      refine ⟨fun a' k rw_ gs hg => ?_, fun a1 k1 a2 k2 g1 g2 p1 p2 x1 x2 y1 y2 e => ?_, fun a' k p hp => ?_, fun a' k rw_ gs ha hg => ?_⟩
      · rcases kinds a' k rw_ gs hg with ⟨gs0, rfl, f1, rfl⟩ | ⟨j, gs0, hne, hj, f1, rfl⟩ | ⟨hne, hmem, f1⟩
        · obtain ⟨q, fz, e1, e2, e3, e4⟩ := hM'.holds 1 k rw_ gs0 (by simpa [getOut] using f1)
          have hrw : rw_ = true := hM'.rws 1 k rw_ gs0 (by omega) (by simpa [getOut] using f1)
          subst hrw
          exact ⟨q, fz, by simp [ρ2, e1], e2.ren hto, fun _ => ⟨(e3 rfl).1, hownw _ (e3 rfl).2⟩, fun h => by cases h⟩
        · obtain ⟨q, fz, e1, e2, e3, e4⟩ := hM'.holds 0 j rw_ gs0 (by simpa [getOut] using f1)
          have e1' := e1
          rw [hrhoF j a' k hj] at e1'
          refine ⟨q, fz, by rw [hrho2 _ _ hne, e1'], e2.ren hto, fun h => ⟨(e3 h).1, hownw _ (e3 h).2⟩, fun h => ?_⟩
          obtain ⟨rw1, gs1, f2⟩ := hFlive _ (List.mem_of_getElem? hj)
          obtain ⟨q2, fz2, f3, _, _, f4⟩ := c.mem.holds _ _ _ _ f2
          have f3' : ρ a' k = some q2 := f3
          rw [e1'] at f3'
          obtain rfl := Option.some.inj f3'
          cases rw1 with
          | true => exact absurd (.inl ⟨(a', k), List.mem_of_getElem? hj, gs1, q, f2, e1', rfl⟩) (e4 h)
          | false => exact f4 rfl
        · obtain ⟨q, fz, e1, e2, e3, e4⟩ := c.mem.holds a' k rw_ gs f1
          have hno := hother a' k rw_ gs q hmem f1 e1
          exact ⟨q, fz, hle _ _ _ e1, (e2.world (hkept.same _ (hlt e1) (fun h => hno (.inl h)))).mono hle, e3, e4⟩
      · rcases kinds a1 k1 true g1 x1 with ⟨gs1, rfl, f1, _⟩ | ⟨j1, gs1, hne1, hj1, f1, _⟩ | ⟨hne1, hmem1, f1⟩ <;>
          rcases kinds a2 k2 true g2 x2 with ⟨gs2, rfl, f2, _⟩ | ⟨j2, gs2, hne2, hj2, f2, _⟩ | ⟨hne2, hmem2, f2⟩
        · simp [ρ2] at y1 y2
          exact ⟨rfl, (hM'.apart 1 k1 1 k2 gs1 gs2 p1 p2 (by simpa [getOut] using f1) (by simpa [getOut] using f2) y1 y2 e).2⟩
        · simp [ρ2] at y1
          rw [hrho2 _ _ hne2, ← hrhoF j2 a2 k2 hj2] at y2
          have := (hM'.apart 1 k1 0 j2 gs1 gs2 p1 p2 (by simpa [getOut] using f1) (by simpa [getOut] using f2) y1 y2 e).1
          omega
        · simp [ρ2] at y1
          rw [hrho2 _ _ hne2] at y2
          obtain ⟨q, fz, e1, e2, e3, e4⟩ := hM'.holds 1 k1 true gs1 (by simpa [getOut] using f1)
          rw [y1] at e1
          obtain rfl := Option.some.inj e1
          exact absurd (e ▸ (e3 rfl).2) (hother _ _ _ _ _ hmem2 f2 y2)
        · simp [ρ2] at y2
          rw [hrho2 _ _ hne1, ← hrhoF j1 a1 k1 hj1] at y1
          have := (hM'.apart 0 j1 1 k2 gs1 gs2 p1 p2 (by simpa [getOut] using f1) (by simpa [getOut] using f2) y1 y2 e).1
          omega
        · rw [hrho2 _ _ hne1, ← hrhoF j1 a1 k1 hj1] at y1
          rw [hrho2 _ _ hne2, ← hrhoF j2 a2 k2 hj2] at y2
          have := (hM'.apart 0 j1 0 j2 gs1 gs2 p1 p2 (by simpa [getOut] using f1) (by simpa [getOut] using f2) y1 y2 e).2
          subst this
          rw [hj1] at hj2
          simp at hj2
          exact hj2
        · rw [hrho2 _ _ hne1, ← hrhoF j1 a1 k1 hj1] at y1
          rw [hrho2 _ _ hne2] at y2
          obtain ⟨q, fz, e1, e2, e3, e4⟩ := hM'.holds 0 j1 true gs1 (by simpa [getOut] using f1)
          rw [y1] at e1
          obtain rfl := Option.some.inj e1
          exact absurd (e ▸ (e3 rfl).2) (hother _ _ _ _ _ hmem2 f2 y2)
        · simp [ρ2] at y2
          rw [hrho2 _ _ hne1] at y1
          obtain ⟨q, fz, e1, e2, e3, e4⟩ := hM'.holds 1 k2 true gs2 (by simpa [getOut] using f2)
          rw [y2] at e1
          obtain rfl := Option.some.inj e1
          exact absurd (e.symm ▸ (e3 rfl).2) (hother _ _ _ _ _ hmem1 f1 y1)
        · rw [hrho2 _ _ hne1] at y1
          rw [hrho2 _ _ hne2, ← hrhoF j2 a2 k2 hj2] at y2
          obtain ⟨q, fz, e1, e2, e3, e4⟩ := hM'.holds 0 j2 true gs2 (by simpa [getOut] using f2)
          rw [y2] at e1
          obtain rfl := Option.some.inj e1
          exact absurd (e.symm ▸ (e3 rfl).2) (hother _ _ _ _ _ hmem1 f1 y1)
        · rw [hrho2 _ _ hne1] at y1
          rw [hrho2 _ _ hne2] at y2
          exact c.mem.apart _ _ _ _ _ _ _ _ f1 f2 y1 y2 e
      · simp only [ρ2] at hp
        split at hp
        · exact hM'.there 1 k p hp
        · obtain ⟨arr, T, fz, e1, e2⟩ := c.mem.there a' k p hp
          obtain ⟨arr', T', fz', e3, e4⟩ := hkept.sizes _ _ _ _ e1
          exact ⟨arr', T', fz', e3, e4.trans e2⟩
      · rcases kinds a' k rw_ gs hg with ⟨gs0, rfl, f1, _⟩ | ⟨j, gs0, hne, hj, f1, _⟩ | ⟨hne, hmem, f1⟩
        · exact hM'.rws 1 k rw_ gs0 (by omega) (by simpa [getOut] using f1)
        · cases rw_ with
          | true => rfl
          | false =>
            obtain ⟨q, fz, e1, e2, e3, e4⟩ := hM'.holds 0 j false gs0 (by simpa [getOut] using f1)
            rw [hrhoF j a' k hj] at e1
            obtain ⟨rw1, gs1, f2⟩ := hFlive _ (List.mem_of_getElem? hj)
            have hr1 : rw1 = true := c.mem.rws a' k rw1 gs1 ha f2
            subst hr1
            exact absurd (.inl ⟨(a', k), List.mem_of_getElem? hj, gs1, q, f2, e1, rfl⟩) (e4 rfl)
        · exact c.mem.rws a' k rw_ gs ha f1
    refine hn _ _ _ val w' ρ2 hR ?_ ⟨hle, hrho2, RelV.ren hto hr, hMem, hkept.mono (fun b _ h => hownc b h)⟩
    intro x hx hx0
    rcases List.mem_append.1 hx with hx | hx
    · have : ∀ {F : List Id} {as : List Blk}, x ∈ zipUps (renOut m.next F) F as → True := fun _ => trivial
      have hz : ∀ (G : List Id) (bs : List Blk), x ∈ zipUps (renOut m.next F) G bs → x.1 ∈ G := by
        intro G
        induction G with
        | nil => intro bs h; cases bs <;> simp [zipUps] at h
        | cons p r ih =>
          intro bs h
          cases bs with
          | nil => simp [zipUps] at h
          | cons b bs =>
            simp only [zipUps, List.mem_cons] at h
            rcases h with rfl | h
            · exact List.mem_cons_self ..
            · exact List.mem_cons_of_mem _ (ih bs h)
      obtain ⟨rw_, gs, hg⟩ := hFlive _ (hz F as hx)
      rw [hx0] at hg
      exact Mem.live_lt hg
    · have hz : ∀ (bs : List Blk) (j : Nat), x ∈ newUps (renOut m.next F) m.next j bs → x.1.1 = m.next := by
        intro bs
        induction bs with
        | nil => intro j h; simp [newUps] at h
        | cons b bs ih =>
          intro j h
          simp only [newUps, List.mem_cons] at h
          rcases h with rfl | h
          · rfl
          · exact ih _ h
      have := hz ns 0 hx
      rw [hx0] at this
      exact absurd this.symm c.nz

end
end Go.Abs
