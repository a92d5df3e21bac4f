/-
Appending and calling, in the abstract words; then all operations under one law.
-/
import Derived.Test.YtopkdpgbjpjgjaaAbsF
namespace Go.Abs
open Go
set_option linter.unusedVariables false
set_option linter.unusedSectionVars false
set_option linter.unusedSimpArgs false
set_option linter.defProp false

section
variable {P : Program} {ρ : Rho} {own : Nat → Prop} {env : Env} {m : Mem} {a : Act} {w : World}

theorem subSg_sound {g : Sg} {l : List Value} {off n : Nat} (h : RelSg ρ g l) (hb : off + n ≤ g.len) : RelSg ρ (subSg' g off n) ((l.drop off).take n) := by
  unfold subSg'
  split
  · rename_i hc
    obtain ⟨rfl, rfl⟩ := hc
    have := h.length
    rw [List.drop_zero, List.take_of_length_le (by omega)]
    exact h
  · unfold subSg
    cases g with
    | ints k n' xs => obtain ⟨h1, rfl⟩ := h; simp only [Sg.len] at hb; exact ⟨by simp; omega, by simp [List.map_take, List.map_drop]⟩
    | bools n' xs => obtain ⟨h1, rfl⟩ := h; simp only [Sg.len] at hb; exact ⟨by simp; omega, by simp [List.map_take, List.map_drop]⟩
    | cells n' xs => obtain ⟨h1, h2⟩ := h; simp only [Sg.len] at hb; exact ⟨by simp; omega, (h2.drop off).take n⟩

theorem catSg_sound {g h : Sg} {l l' : List Value} {K : Sg → Prop} (h1 : RelSg ρ g l) (h2 : RelSg ρ h l') (hk : catSg g h K) : ∃ g2, K g2 ∧ RelSg ρ g2 (l ++ l') := by
  unfold catSg at hk
  split at hk
  · obtain ⟨rfl, hk⟩ := hk
    obtain ⟨e1, rfl⟩ := h1
    obtain ⟨e2, rfl⟩ := h2
    exact ⟨_, hk, by simp [e1, e2], by simp⟩
  · obtain ⟨e1, rfl⟩ := h1
    obtain ⟨e2, rfl⟩ := h2
    exact ⟨_, hk, by simp [e1, e2], by simp⟩
  · obtain ⟨e1, h1⟩ := h1
    obtain ⟨e2, h2⟩ := h2
    exact ⟨_, hk, by simp [e1, e2], h1.append h2⟩
  · exact hk.elim

/-- The cells that a slice of the abstract memory names, in the model. -/
theorem slCells_sound {x : AV} {v : Value} {esz : Nat} {z : Zk} {K : Sg → Nat → List Id → Prop} (c : Ctx ρ own env m a w) (hz : ∀ ρ : Rho, RelSg ρ (zeroArr 0 z) []) (hx : RelV ρ x v) (hk : slCells m x esz z K) :
    ∃ g n rd l, K g n rd ∧ RelSg ρ g l ∧ l.length = n * esz ∧
      ((x = .ref .nils ∧ v = .slice none 0 0 ∧ n = 0 ∧ l = []) ∨
       ∃ a' k st off rw_ gs p cap, x = .ref (.sl a' k st off n esz) ∧ m.get a' k = .lv rw_ gs ∧ ρ a' k = some p ∧ n ≤ cap ∧
        (∃ arr T fz, w.heap[p.1]? = some (.cells arr T fz) ∧ (rw_ = true → fz = (0, 0)) ∧ arr.size = p.2.2 ∧ p.2.1 + st + off + n * esz ≤ arr.size ∧ (arr.toList.drop (p.2.1 + st + off)).take (n * esz) = l) ∧
        (∀ j u, l[j]? = some u → w.cell? ⟨p.1, p.2.1 + st + off + j, none⟩ = some u) ∧
        ((v = .slice (some ⟨p.1, p.2.1 + st + off, none⟩) n cap ∧ p.2.1 + st + off + cap * esz ≤ p.2.2) ∨ (n = 0 ∧ cap = 0 ∧ ∃ ad, v = .slice (some ad) 0 0))) := by
  unfold slCells at hk
  split at hk
  · simp only [RelV, RelAt] at hx
    exact ⟨_, _, _, [], hk, hz ρ, by simp, .inl ⟨rfl, hx, rfl, rfl⟩⟩
  · rename_i a' k st off len e
    simp only [RelV, RelAt] at hx
    obtain ⟨p, cap, hp, hc, hv⟩ := hx
    split at hk
    · rename_i rw_ gs e2
      obtain ⟨p', fz, hp', hH, hrw, _⟩ := c.mem.holds a' k rw_ gs e2
      rw [hp] at hp'
      obtain rfl := Option.some.inj hp'
      split at hk
      · rename_i g hg
        obtain ⟨rfl, hb, hk⟩ := hk
        obtain ⟨arr, T, pre, l, post, f1, f2, f3, f4, f5⟩ := hH
        obtain ⟨l1, l2, l3, e3, hl1, hr, _⟩ := seg_split f5 hg
        have hl2 := hr.length
        have hsz : arr.size = pre.length + l.length + post.length := by rw [← Array.length_toList, f2]; simp; omega
        have hll : l.length = l1.length + l2.length + l3.length := by rw [e3]; simp; omega
        have hst : l1.length = st := by omega
        have hdrop : (arr.toList.drop (p.2.1 + st + off)).take (len * e) = (l2.drop off).take (len * e) := by
          rw [f2, e3, ← f3, ← hst]
          simp only [List.append_assoc]
          rw [Nat.add_assoc, List.drop_length_add_append, List.drop_length_add_append, List.drop_append_of_le_length (by omega), List.take_append_of_le_length (by simp; omega)]
        obtain ⟨cap2, hc2, hv2⟩ : ∃ cap2, len ≤ cap2 ∧ ((v = .slice (some ⟨p.1, p.2.1 + st + off, none⟩) len cap2 ∧ p.2.1 + st + off + cap2 * e ≤ p.2.2) ∨ (len = 0 ∧ cap2 = 0 ∧ ∃ ad, v = .slice (some ad) 0 0)) := by
          rcases hv with hv | ⟨h0, had⟩
          · exact ⟨cap, hc, .inl hv⟩
          · exact ⟨0, by omega, .inr ⟨h0, rfl, had⟩⟩
        refine ⟨_, _, _, _, hk, subSg_sound hr hb, by simp; omega, .inr ⟨a', k, st, off, rw_, gs, p, cap2, rfl, e2, hp, hc2, ⟨arr, T, fz, f1, fun h => (hrw h).1, f4, by omega, hdrop⟩, ?_, hv2⟩⟩
        intro j u hu
        rw [← hdrop, List.getElem?_take] at hu
        split at hu
        · rw [List.getElem?_drop] at hu
          rw [cell_of_row w p.1 _ arr T fz f1, ← Array.getElem?_toList]
          exact hu
        · cases hu
      · exact hk.elim
    · exact hk.elim
  · exact hk.elim

theorem MemRel.row {get : Nat → Nat → Blk} {g : Nat} {old cs : Array Value} {T : TypeId} {fz : Nat × Nat} (h : MemRel ρ own get w) (hh : w.heap[g]? = some (.cells old T fz)) (hs : cs.size = old.size) (ho : own g)
    (hfree : ∀ a k gs p, get a k = .lv true gs → ρ a k = some p → p.1 ≠ g) : MemRel ρ own get (w.setRow g cs) := by
  refine ⟨fun a k rw_ gs hg => ?_, h.apart, fun a k p hp => ?_, h.rws⟩
  · obtain ⟨p, fz, h1, h2, h3, h4⟩ := h.holds a k rw_ gs hg
    refine ⟨p, fz, h1, h2.world (setRow_other w _ _ _ ?_), h3, h4⟩
    intro e
    cases rw_ with
    | true => exact hfree a k gs p hg h1 e
    | false => exact h4 rfl (e ▸ ho)
  · obtain ⟨arr, T', fz', f1, f2⟩ := h.there a k p hp
    by_cases e : p.1 = g
    · rw [e] at f1 ⊢
      rw [hh] at f1
      simp only [Option.some.injEq, Obj.cells.injEq] at f1
      obtain ⟨rfl, rfl, rfl⟩ := f1
      exact ⟨cs, T, fz, setRow_heap w _ _ cs _ _ hh, hs.trans f2⟩
    · exact ⟨arr, T', fz', by rw [setRow_other w _ _ _ e]; exact f1, f2⟩

theorem run_append_at (t ty e : TypeId) (i : TypeInfo) (ht : P.underlying t = some (.slice e)) (hi : P.info? e = some i)
    (g o sLen sCap : Nat) (cur : Array Value) (T : TypeId) (hg : w.heap[g]? = some (.cells cur T (0, 0)))
    (a : Addr) (m c : Nat) (news : List Value) (hl : news.length = m * i.size) (hnews : ∀ j u, news[j]? = some u → w.cell? (a.add j) = some u) (h1 : ∀ u ∈ news, u.oneCell' = true)
    (hroom : sLen + m ≤ sCap) (hfit : o + sLen * i.size + news.length ≤ cur.size) :
    (Builtin.append_ #[t, t] ty #[.slice (some ⟨g, o, none⟩) sLen sCap, .slice (some a) m c]).run P w =
      .ok (.slice (some ⟨g, o, none⟩) (sLen + m) sCap) (w.setRow g (cur.toList.take (o + sLen * i.size) ++ news ++ cur.toList.drop (o + sLen * i.size + news.length)).toArray) := by
  have hf := run_firstCells_some (P := P) w i.size m a m c news hl hnews
  have hst := run_storeCells_at P g (o + sLen * i.size) T news 0 cur w hg (by simpa using hfit) h1
  simp only [Nat.add_zero] at hst
  simp [Builtin.append_, run_underlying ht, sizeOf, typeInfo, hi, Builtin.lenOf, hroom, hf, addr_add, hst]

theorem ok_append {o : Oper} {t : TypeId} {x y : Operand} {K : AV → Ups → List Id → Prop} (c : Ctx ρ own env m a w) (ho : o.op = .call { callee := .builtin .append, args := #[x, y], argTypes := #[t, t] }) (hk : aappend P t m (aev env x) (aev env y) K) :
    ∃ v ups rd, K v ups rd ∧ OpOk P ρ own m a w o v ups := by
  have hx := aev_sound c.env x
  have hy := aev_sound c.env y
  unfold aappend at hk
  split at hk
  · rename_i esz bytes z e1 e2
    obtain ⟨h0, hb0, hz, hnn, hk⟩ := hk
    obtain ⟨e, hu, he, hby, hel⟩ := tyOf_sl e1
    rw [hel] at e2
    obtain ⟨zv, cc, h1, h2, h3, h4⟩ := zeroEl_sound e2
    subst he
    subst hby
    obtain ⟨i, hi, his⟩ := szOf_pos h0
    have hib : i.bytes = bytesOf P e := by simp [bytesOf, hi]
    have hz2 : i.zero = some zv := by simpa [hi] using h1
    have hzv : zv.cells.size = i.size := by rw [← Array.length_toList, h2, List.length_replicate, hz, his]
    have hnil : ∀ ρ : Rho, RelSg ρ (zeroArr 0 z) [] := fun ρ => by simpa using h3 ρ 0
    obtain ⟨g, n, rd, l, hk, hg, hl, hs⟩ := slCells_sound c hnil hx hk
    obtain ⟨h, n', rd', l', hk, hh, hl', hs'⟩ := slCells_sound c hnil hy hk
    obtain ⟨hmax, hpos, hk⟩ := hk
    -- the source
    have hsrc : ∃ (ad : Addr) (cap : Nat), a.eval y = .slice (some ad) n' cap ∧ ∀ j u, l'[j]? = some u → w.cell? (ad.add j) = some u := by
      rcases hs' with ⟨hy0, _⟩ | ⟨a2, k2, st2, off2, rw2, gs2, p2, cap2, _, _, _, _, _, hc2, hv2⟩
      · rw [hy0] at hnn; exact hnn.elim
      · rcases hv2 with ⟨hv2, _⟩ | ⟨hn0, hcap0, ad, hv2⟩
        · exact ⟨_, _, hv2, fun j u hu => by rw [addr_add]; exact hc2 j u hu⟩
        · have : l' = [] := List.eq_nil_of_length_eq_zero (by rw [hl', hn0]; simp)
          subst this
          exact ⟨ad, 0, by rw [hv2, hn0], fun j u hu => by simp at hu⟩
    obtain ⟨ad, cap', hyv, hcells'⟩ := hsrc
    have hl'i : l'.length = n' * i.size := by rw [hl', his]
    have hone' : ∀ u ∈ l', u.oneCell' = true := hh.one
    have hne : n + n' ≤ 9223372036854775807 := by
      have := Nat.le_mul_of_pos_right (n + n') hb0
      omega
    have exec : ∀ {val w'}, (Builtin.append_ #[t, t] o.type #[a.eval x, a.eval y]).run P w = .ok val w' → (execOp a.eval o).run P w = .ok (.value val) w' := by
      intro val w' hr
      simp only [execOp, ho, resolve, Sem.run_bind, Sem.run_pure, Result.andThen_ok, invoke, builtin, List.map_toArray, List.map_cons, List.map_nil, hr]
    -- a new block
    have grown : ∀ (old : Nat), old < n + n' → ∀ {g2 : Sg}, RelSg ρ g2 (l ++ l') → ∀ {get' : Nat → Nat → Blk} {ks : Ups}, MemRel ρ own get' w → (∀ ups, fupds m.get (ks ++ ups) = fupds get' ups) →
        After ρ own m (ks ++ [((m.next, 0), .lv true [(0, g2)])]) (.ref (.sl m.next 0 0 0 (n + n') (szOf P e))) w
          (.slice (some ⟨w.heap.size, 0, none⟩) (n + n') (grownCap w (n + n') old e))
          (w.drew.alloc (.cells (l.toArray ++ l'.toArray ++ Builtin.zeroCells zv.cells (grownCap w (n + n') old e - (n + n'))) e))
          (more ρ m.next 0 (w.heap.size, 0, (l.toArray ++ l'.toArray ++ Builtin.zeroCells zv.cells (grownCap w (n + n') old e - (n + n'))).size)) := by
      intro old _ g2 hg2 get' ks hM hks
      have hge := grownCap_ge w (n + n') old e
      have hM' : MemRel ρ own get' w.drew := hM.world rfl
      refine ⟨Le.more (c.fresh 0), fun a' k h => more_only a' k h, rel_new_sl rfl rfl hge ?_, ?_, ?_⟩
      · simp only [Array.size_append, List.size_toArray, size_zeroCells, hl, hl', hzv, his]
        rw [← Nat.add_mul, ← Nat.add_mul]
        exact Nat.mul_le_mul_right _ (by omega)
      · rw [hks]
        exact hM'.new (c.fresh 0) c.nz (c.own _ (Nat.le_refl _)) (l := l ++ l') (post := (Builtin.zeroCells zv.cells (grownCap w (n + n') old e - (n + n'))).toList) (by simp) (rel_one hg2)
      · exact (Kept.draw own w (w.drawn + 1)).trans (Kept.alloc own w.drew _ _)
    rcases hs with ⟨hx0, hxv, rfl, rfl⟩ | ⟨a1, k1, st, off, rw1, gs1, p, cap, hx0, hget, hp, hncap, ⟨arr, T, fz, f1, f2, f3, f4, f5⟩, hcells, hv⟩
    · rw [hx0] at hk hpos
      simp only [killed] at hk
      obtain ⟨g2, hK, hg2⟩ := catSg_sound hg hh hk
      have hp0 : 0 < n' := hpos (by simp [isNil])
      refine ⟨_, _, _, hK, OpOk.value (new_ups c) (exec ?_) (grown 0 (by omega) hg2 (ks := []) c.mem (fun _ => rfl))⟩
      rw [hxv, hyv]
      have := run_append_nil (P := P) w t o.type e i zv hu hi hz2 ad n' cap' l' hl'i hcells' hp0 (by omega) (by rw [hib]; have := hmax; simp only [Nat.zero_add] at this; omega)
      simpa using this
    · rw [hx0] at hk
      simp only [killed, hget] at hk
      cases rw1 with
      | false => exact hk.elim
      | true =>
        simp only at hk
        obtain ⟨g2, hK, hg2⟩ := catSg_sound hg hh hk
        obtain rfl := f2 rfl
        have hups : ∀ x ∈ ([((a1, k1), Blk.dead)] ++ [((m.next, 0), Blk.lv true [(0, g2)])] : Ups), x.1.1 = 0 → x.1.2 < m.args.length := by
          intro x hx h
          simp only [List.cons_append, List.nil_append, List.mem_cons, List.not_mem_nil, or_false] at hx
          rcases hx with rfl | rfl
          · simp only at h ⊢
            subst h
            exact Mem.live_lt hget
          · exact absurd h c.nz
        obtain ⟨p', fz', hp', _, hrw, _⟩ := c.mem.holds a1 k1 true gs1 hget
        rw [hp] at hp'
        obtain rfl := Option.some.inj hp'
        obtain ⟨_, hown⟩ := hrw rfl
        have hkill : MemRel ρ own (fupd m.get (a1, k1) .dead) w := c.mem.kill
        have hfree : ∀ a' k' gs' q, fupd m.get (a1, k1) .dead a' k' = .lv true gs' → ρ a' k' = some q → q.1 ≠ p.1 := by
          intro a' k' gs' q hg' hq e
          simp only [fupd] at hg'
          split at hg'
          · cases hg'
          · rename_i hne
            exact hne ((c.mem.apart a' k' a1 k1 gs' gs1 q p hg' hget hq hp e).imp Eq.symm Eq.symm)
        have hle := Le.more (p := (p.1, p.2.1 + st + off, p.2.2)) (c.fresh 0)
        by_cases hroom : n + n' ≤ cap
        · rcases hv with ⟨hv, hcapb⟩ | ⟨hn0, hcap0, ad0, hv⟩
          · have hfit : p.2.1 + st + off + n * i.size + l'.length ≤ arr.size := by
              rw [hl'i, f3, Nat.add_assoc, ← Nat.add_mul, his]
              exact Nat.le_trans (Nat.add_le_add_left (Nat.mul_le_mul_right _ hroom) _) hcapb
            have hrun := run_append_at (P := P) t o.type e i hu hi p.1 (p.2.1 + st + off) n cap arr T f1 ad n' cap' l' hl'i hcells' hone' hroom hfit
            rw [← hv, ← hyv] at hrun
            have hcsz : (arr.toList.take (p.2.1 + st + off + n * i.size) ++ l' ++ arr.toList.drop (p.2.1 + st + off + n * i.size + l'.length)).length = arr.size := by simp; omega
            have hrow := hkill.row f1 (cs := (arr.toList.take (p.2.1 + st + off + n * i.size) ++ l' ++ arr.toList.drop (p.2.1 + st + off + n * i.size + l'.length)).toArray) (by simpa using hcsz) hown hfree
            refine ⟨_, _, _, hK, OpOk.value hups (exec hrun) ⟨hle, fun a' k h => more_only a' k h, ?_, hrow.name (c.fresh 0) c.nz hfree hown ?_, Kept.setRow f1 (by simpa using hcsz) hown⟩⟩
            · simp only [RelV, RelAt]
              exact ⟨(p.1, p.2.1 + st + off, p.2.2), cap, by simp [more], hroom, .inl ⟨by simp, by simpa using hcapb⟩⟩
            · refine ⟨_, T, arr.toList.take (p.2.1 + st + off), l ++ l', arr.toList.drop (p.2.1 + st + off + n * i.size + l'.length), setRow_heap w _ _ _ _ _ f1, ?_, ?_, ?_, rel_one (hg2.mono hle)⟩
              · simp only [← f5, his, List.take_add, List.append_assoc]
              · simp; omega
              · rw [List.size_toArray, hcsz]; exact f3
          · have hn'0 : n' = 0 := by omega
            subst hn'0
            subst hn0
            have hl0 : l = [] := List.eq_nil_of_length_eq_zero (by rw [hl]; simp)
            have hl'0 : l' = [] := List.eq_nil_of_length_eq_zero (by rw [hl']; simp)
            subst hl0
            subst hl'0
            have hrun : (Builtin.append_ #[t, t] o.type #[a.eval x, a.eval y]).run P w = .ok (.slice (some ad0) 0 0) w := by
              rw [hv, hyv]
              simp [Builtin.append_, run_underlying hu, sizeOf, typeInfo, hi, Builtin.lenOf, Builtin.firstCells, loadCells, loadCellsFrom, storeCells]
            refine ⟨_, _, _, hK, OpOk.value hups (exec hrun) ⟨hle, fun a' k h => more_only a' k h, ?_, hkill.name (c.fresh 0) c.nz hfree hown ?_, Kept.refl own w⟩⟩
            · simp only [RelV, RelAt]
              exact ⟨(p.1, p.2.1 + st + off, p.2.2), 0, by simp [more], by omega, .inr (by simp)⟩
            · refine ⟨arr, T, arr.toList.take (p.2.1 + st + off), [], arr.toList.drop (p.2.1 + st + off), f1, by simp, by simp; omega, f3, rel_one (by simpa using hg2.mono hle)⟩
        · have hexec : ∃ b, a.eval x = .slice (some b) n cap ∧ ∀ j u, l[j]? = some u → w.cell? (b.add j) = some u := by
            rcases hv with ⟨hv, _⟩ | ⟨hn0, hcap0, ad0, hv⟩
            · exact ⟨_, hv, fun j u hu => by rw [addr_add]; exact hcells j u hu⟩
            · have hl0 : l = [] := List.eq_nil_of_length_eq_zero (by rw [hl, hn0]; simp)
              subst hl0
              exact ⟨ad0, by rw [hv, hn0, hcap0], fun j u hu => by simp at hu⟩
          obtain ⟨b, hxv, hcb⟩ := hexec
          refine ⟨_, _, _, hK, OpOk.value hups (exec ?_) (grown cap (by omega) hg2 (ks := [((a1, k1), .dead)]) hkill (fun _ => rfl))⟩
          rw [hxv, hyv]
          exact run_append_grow (P := P) w t o.type e i zv hu hi hz2 b n cap l (by rw [hl, his]) hcb ad n' cap' l' hl'i hcells' (by omega) (by omega) (growslice_fits (by omega) (by rw [hib]; exact hmax))
  · exact hk.elim

end
end Go.Abs
