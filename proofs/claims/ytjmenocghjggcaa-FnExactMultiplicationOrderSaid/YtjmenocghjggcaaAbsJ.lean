/-
What the operations that make, read and write memory do, in the abstract words.
-/
import Derived.Test.YtjmenocghjggcaaAbsE
namespace Go.Abs
open Go
set_option linter.unusedVariables false
set_option linter.unusedSectionVars false
set_option linter.unusedSimpArgs false
set_option linter.defProp false

section
variable {P : Program} {ρ : Rho} {own : Nat → Prop} {env : Env} {m : Mem} {a : Act} {w : World}

theorem more_only {n : Nat} {p : Nat × Nat × Nat} : ∀ a' k, a' ≠ n → more ρ n 0 p a' k = ρ a' k := by
  intro a' k h
  simp only [more]
  rw [if_neg]
  rintro ⟨rfl, _⟩
  exact h rfl

/-- A new block under the fresh name. -/
theorem After.new {gs : Segs} {arr : Array Value} {T : TypeId} {l post : List Value} {v : AV} {val : Value} (c : Ctx ρ own env m a w) (harr : arr.toList = l ++ post) (hr : RelSegs ρ 0 gs l)
    (hv : RelV (more ρ m.next 0 (w.heap.size, 0, arr.size)) v val) : After ρ own m [((m.next, 0), .lv true gs)] v w val (w.alloc (.cells arr T (0, 0))) (more ρ m.next 0 (w.heap.size, 0, arr.size)) :=
  ⟨Le.more (c.fresh 0), fun a' k h => more_only a' k h, hv, c.mem.new (c.fresh 0) c.nz (c.own _ (Nat.le_refl _)) harr hr, Kept.alloc own w _ _⟩

theorem new_ups {gs : Segs} (c : Ctx ρ own env m a w) : ∀ x ∈ [(((m.next, 0) : Id), Blk.lv true gs)], x.1.1 = 0 → x.1.2 < m.args.length := by
  intro x hx h
  simp only [List.mem_cons, List.not_mem_nil, or_false] at hx
  subst hx
  exact absurd h c.nz

theorem rel_new_ptr {b : Nat} {p : Nat × Nat × Nat} (hp : p.1 = b) (h0 : p.2.1 = 0) : RelV (more ρ m.next 0 p) (.ref (.ptr m.next 0 0 0)) (.pointer (some ⟨b, 0, none⟩)) := by
  simp only [RelV, RelAt]
  exact ⟨p, by simp [more], by simp [hp, h0]⟩

theorem ok_alloc {o : Oper} {t : TypeId} {gs : Segs} (c : Ctx ρ own env m a w) (ho : o.op = .alloc t) (hz : zeroOf P t = some gs) :
    OpOk P ρ own m a w o (.ref (.ptr m.next 0 0 0)) [((m.next, 0), .lv true gs)] := by
  obtain ⟨z, h1, h2⟩ := zeroOf_sound hz
  refine OpOk.value (new_ups c) (val := .pointer (some ⟨w.heap.size, 0, none⟩)) ?_ (After.new (T := t) (arr := z.cells) (l := z.cells.toList) (post := []) c (by simp) (h2 ρ) (rel_new_ptr rfl rfl))
  simp only [execOp, ho]
  exact run_v (by simp [Instr.alloc, run_zeroValue h1, run_newVar])

theorem ok_box {o : Oper} {t : TypeId} {x : Operand} {gs : Segs} (c : Ctx ρ own env m a w) (ho : o.op = .box t x) (hz : segsOfAV (aev env x) = some gs) :
    OpOk P ρ own m a w o (.ref (.ptr m.next 0 0 0)) [((m.next, 0), .lv true gs)] := by
  have h2 := segsOfAV_sound (aev_sound c.env x) hz
  refine OpOk.value (new_ups c) (val := .pointer (some ⟨w.heap.size, 0, none⟩)) ?_ (After.new (T := t) (arr := (a.eval x).cells) (l := (a.eval x).cells.toList) (post := []) c (by simp) h2 (rel_new_ptr rfl rfl))
  simp only [execOp, ho]
  exact run_v (by simp [Instr.box, run_newVar])

theorem foldl_set_over : ∀ (vs : List Value) (j : Nat) (cs : Array Value), j + vs.length ≤ cs.size →
    ((vs.zipIdx j).foldl (fun (cs : Array Value) (x : Value × Nat) => cs.setIfInBounds x.2 x.1) cs).toList = over cs.toList j vs
  | [], j, cs, h => by simp [over]
  | v :: r, j, cs, h => by
    simp only [List.zipIdx_cons, List.foldl_cons]
    rw [foldl_set_over r (j + 1) _ (by simp at h ⊢; omega)]
    have h1 : (cs.setIfInBounds j v).toList = over cs.toList j [v] := by
      have hlt : j < cs.toList.length := by simp at h ⊢; omega
      rw [Array.toList_setIfInBounds, List.set_eq_take_append_cons_drop, if_pos hlt]
      simp [over]
    rw [h1]
    have := over_over cs.toList j [v] r (by simp at h ⊢; omega)
    simpa using this

theorem fill_step (off : Nat) (v : Value) (cells : Array Value) (h : off + v.cells.size ≤ cells.size) :
    (v.cells.zipIdx.foldl (fun cs (c, j) => cs.setIfInBounds (off + j) c) cells).toList = over cells.toList off v.cells.toList := by
  rw [← foldl_set_over v.cells.toList off cells (by simpa using h)]
  congr 1
  rw [← Array.foldl_toList, Array.toList_zipIdx]
  have : ∀ (l : List Value) (k : Nat) (cs : Array Value), List.foldl (fun (cs : Array Value) (x : Value × Nat) => match x with | (c, j) => cs.setIfInBounds (off + j) c) cs (l.zipIdx k) = List.foldl (fun (cs : Array Value) (x : Value × Nat) => cs.setIfInBounds x.2 x.1) cs (l.zipIdx (off + k)) := by
    intro l
    induction l with
    | nil => intro k cs; rfl
    | cons v r ih => intro k cs; simp only [List.zipIdx_cons, List.foldl_cons]; rw [ih (k + 1)]; rfl
  simpa using this v.cells.toList 0 cells

theorem aparts_sound {pl : Nat → Option (Nat × Nat × Nat)} {place : Nat → Option (Nat × Nat)} (c : Ctx ρ own env m a w) (hpl : ∀ j st off sz, pl j = some (st, off, sz) → place j = some (st + off, sz)) :
    ∀ {parts : List (Nat × Operand)} {gs : Segs} {K : Segs → Prop} {cells : Array Value}, RelSegs ρ 0 gs cells.toList → aparts P pl env parts gs K →
      ∃ gs' out, K gs' ∧ Instr.fill place cells (parts.map fun x => (x.1, a.eval x.2)) = some out ∧ RelSegs ρ 0 gs' out.toList ∧ out.size = cells.size
  | [], gs, K, cells, h, hk => ⟨gs, cells, hk, rfl, h, rfl⟩
  | (j, x) :: r, gs, K, cells, h, hk => by
    simp only [aparts] at hk
    split at hk
    · rename_i st off sz vs e1 e2
      obtain ⟨hlen, hk⟩ := hk
      have hv := segsOfAV_sound (aev_sound c.env x) e2
      obtain ⟨gs', hK, hb, hr⟩ := stSegs_sound h hv hk
      have hsz : (a.eval x).cells.size = sz := by rw [← Array.length_toList, hv.length, hlen]
      simp only [Array.length_toList] at hb
      have hfill := fill_step (st + off) (a.eval x) cells hb
      rw [← hfill] at hr
      have hs2 : (((a.eval x).cells.zipIdx.foldl (fun cs (c, j) => cs.setIfInBounds (st + off + j) c) cells)).size = cells.size := by
        rw [← Array.length_toList, hfill, over_length _ _ _ (by simpa using hb)]
        simp
      obtain ⟨gs2, out, h1, h2, h3, h4⟩ := aparts_sound c hpl hr hK
      refine ⟨gs2, out, h1, ?_, h3, h4.trans hs2⟩
      have hn1 : ¬ ((a.eval x).cells.size ≠ sz || decide (st + off + (a.eval x).cells.size > cells.size)) = true := by
        simp [hsz]; omega
      simp only [List.map_cons, Instr.fill, hpl j st off sz e1]
      rw [if_neg (by simpa using hn1)]
      exact h2
    · exact hk.elim

/-- The places of a struct's fields, where every field has a size. -/
theorem places_ok : ∀ (l : List Field), (∀ f ∈ l, 0 < szOf P f.type) → (l.mapM fun f => Prod.mk f.offset <$> sizeOf f.type : Sem (List (Nat × Nat))).run P w = .ok (l.map fun f => (f.offset, szOf P f.type)) w := by
  intro l
  induction l with
  | nil => intro _; rfl
  | cons f r ih =>
    intro h
    have h2 := ih (fun g hg => h g (by simp [hg]))
    simp [List.mapM_cons, run_sizeOf (isSome_of_pos (h f (by simp))), h2]

theorem ok_build {o : Oper} {t : TypeId} {parts : Array (Nat × Operand)} {K : Segs → Prop} (c : Ctx ρ own env m a w) (ho : o.op = .build t parts) (hk : abuild P t env parts.toList K) :
    ∃ gs, K gs ∧ OpOk P ρ own m a w o (.agg gs) [] := by
  unfold abuild at hk
  split at hk
  · rename_i gs offs sz e1 e2
    obtain ⟨z, h1, h2⟩ := zeroOf_sound e1
    obtain ⟨fs, hu, ho2, _⟩ := tyOf_st e2
    subst ho2
    obtain ⟨hall, hk⟩ := hk
    have hall' : ∀ f ∈ fs.toList, 0 < szOf P f.type := fun f hf => by
      have := List.all_eq_true.1 hall (f.offset, szOf P f.type) (List.mem_map.2 ⟨f, hf, rfl⟩)
      simpa using this
    have hrun : (fs.mapM fun f => Prod.mk f.offset <$> sizeOf f.type : Sem (Array (Nat × Nat))).run P w = .ok (fs.toList.map fun f => (f.offset, szOf P f.type)).toArray w := by
      rw [Array.mapM_eq_mapM_toList]
      simp [places_ok (P := P) (w := w) fs.toList hall']
    obtain ⟨gs', out, hK, hfill, hr, _⟩ := aparts_sound (place := fun j => (fs.toList.map fun f => (f.offset, szOf P f.type)).toArray[j]?) c (fun j st off s h => by
      cases hf : fs.toList[j]? with
      | none => simp [hf] at h
      | some f =>
        simp only [List.getElem?_map, hf, Option.map_some, Option.some.injEq, Prod.mk.injEq] at h
        obtain ⟨rfl, rfl, rfl⟩ := h
        simp [hf]) (h2 ρ) hk
    refine ⟨gs', hK, OpOk.pure (val := .agg out) c ?_ (by simp only [RelV]; exact ⟨out.toList, by simp, hr⟩)⟩
    simp only [execOp, ho]
    refine run_v ?_
    simp only [Instr.build, Sem.run_bind, run_zeroValue h1, Result.andThen_ok, run_underlying hu, bind_pure_comp, hrun, Array.toList_map, hfill]
    rfl
  · rename_i gs n esz sz e1 e2
    obtain ⟨z, h1, h2⟩ := zeroOf_sound e1
    obtain ⟨e, hu, he, _⟩ := tyOf_arr e2
    subst he
    obtain ⟨h0, hk⟩ := hk
    obtain ⟨gs', out, hK, hfill, hr, _⟩ := aparts_sound (place := fun i => some (i * szOf P e, szOf P e)) c (fun j st off s h => by simp at h ⊢; omega) (h2 ρ) hk
    refine ⟨gs', hK, OpOk.pure (val := .agg out) c ?_ (by simp only [RelV]; exact ⟨out.toList, by simp, hr⟩)⟩
    simp only [execOp, ho]
    refine run_v ?_
    simp [Instr.build, run_zeroValue h1, run_underlying hu, run_sizeOf (isSome_of_pos h0), hfill]
  · exact hk.elim

/-! ### loads and stores -/

theorem ok_load {o : Oper} {t : TypeId} {x : Operand} {K : AV → Ups → List Id → Prop} (c : Ctx ρ own env m a w) (ho : o.op = .load t x) (hk : aload P t env m x K) :
    ∃ v rd, K v [] rd ∧ OpOk P ρ own m a w o v [] ∧ ∃ ad val, a.eval x = .pointer (some ad) ∧ (loadVar t ad).run P w = .ok val w ∧ RelV ρ v val := by
  have hx := aev_sound c.env x
  unfold aload at hk
  split at hk
  · rename_i a' k st off e1
    rw [e1] at hx
    simp only [RelV, RelAt] at hx
    obtain ⟨p, hp, hv⟩ := hx
    split at hk
    · rename_i rw_ gs e2
      obtain ⟨p', fz, hp', hH, _⟩ := c.mem.holds a' k rw_ gs e2
      rw [hp] at hp'
      obtain rfl := Option.some.inj hp'
      obtain ⟨arr, T, l, hh, hr, hsz, hcell⟩ := holds_cell hH
      have agg : (match tyOf P t with | .arr .. | .st .. => True | _ => False) → ∀ sz, sz = szOf P t → 0 < sz → ldAg gs st off sz (fun v => K v [] [(a', k)]) → ∃ v rd, K v [] rd ∧ OpOk P ρ own m a w o v [] ∧ ∃ ad val, a.eval x = .pointer (some ad) ∧ (loadVar t ad).run P w = .ok val w ∧ RelV ρ v val := by
        rintro hag sz rfl h0 hk
        obtain ⟨v, l1, l2, l3, hK, hl, hl1, hl2, hrv⟩ := ldAg_sound h0 hr hk
        have hrun : (loadVar t ⟨p.1, p.2.1 + st + off, none⟩).run P w = .ok (.agg l2.toArray) w := by
          refine run_loadVar_agg hag h0 hl2 (fun j u hu => ?_)
          have := hcell (st + off + j) u (by
            rw [hl, List.append_assoc, List.getElem?_append_right (by omega)]
            have hj : j < l2.length := (List.getElem?_eq_some_iff.1 hu).1
            rw [List.getElem?_append_left (by omega), ← hu]
            congr 1
            omega)
          rw [← this]
          simp [Nat.add_assoc]
        exact ⟨v, _, hK, OpOk.pure c (by simp only [execOp, ho, hv]; exact run_v (by simp [Instr.loadAt, Instr.sureAddr, hrun])) hrv, _, _, hv, hrun, hrv⟩
      split at hk
      · rename_i n esz sz e3
        obtain ⟨_, _, _, hs⟩ := tyOf_arr e3
        exact agg (by rw [e3]; trivial) sz hs hk.1 hk.2
      · rename_i offs sz e3
        obtain ⟨_, _, _, hs⟩ := tyOf_st e3
        exact agg (by rw [e3]; trivial) sz hs hk.1 hk.2
      · exact hk.elim
      · rename_i q1 q2 q3
        obtain ⟨v, val, hK, hc, hrv, _⟩ := ldSc_sound hr hk
        have hag : (match tyOf P t with | .arr .. | .st .. | .other => False | _ => True) := by
          split <;> simp_all
        have hrun : (loadVar t ⟨p.1, p.2.1 + st + off, none⟩).run P w = .ok val w := by
          refine run_loadVar_one hag ?_
          have := hcell _ _ hc
          rw [← this]
          simp [Nat.add_assoc]
        exact ⟨v, _, hK, OpOk.pure c (by simp only [execOp, ho, hv]; exact run_v (by simp [Instr.loadAt, Instr.sureAddr, hrun])) hrv, _, _, hv, hrun, hrv⟩
    · exact hk.elim
  · exact hk.elim

theorem ok_store {o : Oper} {t : TypeId} {x y : Operand} {K : AV → Ups → List Id → Prop} (c : Ctx ρ own env m a w) (ho : o.op = .store t x y) (hk : astore P t env m x y K) :
    ∃ ups rd, K .top ups rd ∧ OpOk P ρ own m a w o .top ups := by
  have hx := aev_sound c.env x
  have hy := aev_sound c.env y
  unfold astore at hk
  split at hk
  · rename_i a' k st off vs e1 e2
    rw [e1] at hx
    simp only [RelV, RelAt] at hx
    obtain ⟨p, hp, hv⟩ := hx
    split at hk
    · rename_i gs e3
      obtain ⟨hlen, hi, hk⟩ := hk
      obtain ⟨p', fz, hp', hH, hrw, _⟩ := c.mem.holds a' k true gs e3
      rw [hp] at hp'
      obtain rfl := Option.some.inj hp'
      obtain ⟨rfl, hown⟩ := hrw rfl
      have hvs := segsOfAV_sound hy e2
      obtain ⟨gs', old, T, cs, hK, hh, hb, rfl, hsz, hH'⟩ := holds_over (K := fun gs' => K .top [((a', k), .lv true gs')] []) hH (fun l hl => stSegs_sound hl hvs hk)
      refine ⟨_, _, hK, ?_⟩
      have hcs : (a.eval y).cells.size = szOf P t := by rw [← Array.length_toList, hvs.length, hlen]
      refine OpOk.skip (w' := w.setRow p.1 (old.toList.take (p.2.1 + (st + off)) ++ (a.eval y).cells.toList ++ old.toList.drop (p.2.1 + (st + off) + (a.eval y).cells.toList.length)).toArray) (ρ' := ρ) ?_ ?_ ?_
      · intro x hx h0
        simp only [List.mem_cons, List.not_mem_nil, or_false] at hx
        subst hx
        simp only at h0 ⊢
        subst h0
        exact Mem.live_lt e3
      · simp only [execOp, ho, hv]
        refine run_u ?_
        have hrun := run_storeVar_at (P := P) (w := w) (b := p.1) (o := p.2.1 + (st + off)) (v := a.eval y) (t := t) hi hcs hh (by simpa using hb) hvs.one
        simp only [Instr.storeAt, Instr.sureAddr, Sem.run_bind, Sem.run_pure, Result.andThen_ok, Nat.add_assoc] at hrun ⊢
        exact hrun
      · exact ⟨Le.refl ρ, fun _ _ _ => rfl, by simp [RelV], c.mem.write e3 hp hh hsz hH', Kept.setRow hh hsz hown⟩
    · exact hk.elim
  · exact hk.elim


/-! ### slices -/

theorem zeroEl_sound {t : TypeId} {z : Zk} (h : zeroEl P t = some z) : ∃ zv c, (P.info? t).bind (·.zero) = some zv ∧ zv.cells.toList = List.replicate z.len c ∧ (∀ (ρ : Rho) n, RelSg ρ (zeroArr n z) (List.replicate (n * z.len) c)) ∧ (∀ n, (zeroArr n z).len = n * z.len) := by
  unfold zeroEl at h
  split at h
  · rename_i st k n xs e
    obtain ⟨zv, h1, h2⟩ := zeroOf_sound e
    split at h
    · rename_i hall
      simp only [Option.some.injEq] at h
      subst h
      obtain ⟨_, l1, l2, h3, ⟨h4, h5⟩, h6⟩ := h2 (fun _ _ => none)
      have : l2 = [] := h6
      subst this
      have hxs : xs = List.replicate n 0 := by
        rw [← h4]
        exact List.eq_replicate_iff.2 ⟨rfl, fun x hx => by simpa using List.all_eq_true.1 hall x hx⟩
      subst hxs
      refine ⟨zv, .int k 0, h1, by rw [h3, h5]; simp [Zk.len], fun ρ j => ⟨by simp, by simp [Zk.len]⟩, fun j => rfl⟩
    · simp at h
  · rename_i st n xs e
    obtain ⟨zv, h1, h2⟩ := zeroOf_sound e
    split at h
    · rename_i hall
      simp only [Option.some.injEq] at h
      subst h
      obtain ⟨_, l1, l2, h3, ⟨h4, h5⟩, h6⟩ := h2 (fun _ _ => none)
      have : l2 = [] := h6
      subst this
      have hxs : xs = List.replicate n false := by
        rw [← h4]
        exact List.eq_replicate_iff.2 ⟨rfl, fun x hx => by simpa using List.all_eq_true.1 hall x hx⟩
      subst hxs
      refine ⟨zv, .bool false, h1, by rw [h3, h5]; simp [Zk.len], fun ρ j => ⟨by simp, by simp [Zk.len]⟩, fun j => rfl⟩
    · simp at h
  · rename_i st b e
    obtain ⟨zv, h1, h2⟩ := zeroOf_sound e
    simp only [Option.some.injEq] at h
    subst h
    obtain ⟨_, l1, l2, h3, ⟨h4, v, l', rfl, hv, h7⟩, h6⟩ := h2 (fun _ _ => none)
    have e2 : l2 = [] := h6
    have e3 : l' = [] := h7
    subst e2
    subst e3
    refine ⟨zv, v, h1, by rw [h3]; rfl, fun ρ j => ?_, fun j => by simp [zeroArr, Sg.len, Zk.len]⟩
    have hv2 : RelAt ρ b v := by
      obtain ⟨_, l1, l2, h3', ⟨h4, v', l', rfl, hv', h7⟩, h6⟩ := h2 ρ
      have e2 : l2 = [] := h6
      have e3 : l' = [] := h7
      subst e2
      subst e3
      rw [h3] at h3'
      simp at h3'
      subst h3'
      exact hv'
    refine ⟨by simp, ?_⟩
    simp only [Zk.len, Nat.mul_one]
    induction j with
    | zero => rfl
    | succ j ih => exact ⟨v, _, rfl, hv2, ih⟩
  · simp at h

theorem zeros_eq {zv : Value} {c : Value} {k n : Nat} (h : zv.cells.toList = List.replicate k c) (hk : 0 < k) : ((Array.range n).map (zv.cells[· % zv.cells.size]!)).toList = List.replicate n c := by
  have hs : zv.cells.size = k := by rw [← Array.length_toList, h]; simp
  refine List.eq_replicate_iff.2 ⟨by simp, fun x hx => ?_⟩
  simp only [Array.toList_map, List.mem_map] at hx
  obtain ⟨j, _, rfl⟩ := hx
  have hlt : j % zv.cells.size < zv.cells.size := Nat.mod_lt _ (by omega)
  rw [getElem!_pos zv.cells _ hlt]
  have : zv.cells[j % zv.cells.size] ∈ zv.cells.toList := by simp
  rw [h] at this
  exact List.eq_of_mem_replicate this

theorem rel_one {g : Sg} {l : List Value} (h : RelSg ρ g l) : RelSegs ρ 0 [(0, g)] l := ⟨rfl, l, [], by simp, h, rfl⟩

theorem rel_new_sl {b len cap esz : Nat} {p : Nat × Nat × Nat} (hp : p.1 = b) (h0 : p.2.1 = 0) (hl : len ≤ cap) (hc : cap * esz ≤ p.2.2) : RelV (more ρ m.next 0 p) (.ref (.sl m.next 0 0 0 len esz)) (.slice (some ⟨b, 0, none⟩) len cap) := by
  simp only [RelV, RelAt]
  exact ⟨p, cap, by simp [more], hl, .inl ⟨by simp [hp, h0], by omega⟩⟩

theorem ok_buildSlice {o : Oper} {t : TypeId} {len : Nat} {parts : Array (Nat × Operand)} {K : Segs → Nat → Prop} (c : Ctx ρ own env m a w) (ho : o.op = .buildSlice t len parts) (hk : abuildSlice P t len env parts.toList K) :
    ∃ gs esz, K gs esz ∧ OpOk P ρ own m a w o (.ref (.sl m.next 0 0 0 len esz)) [((m.next, 0), .lv true gs)] := by
  unfold abuildSlice at hk
  split at hk
  · rename_i esz bytes z e1 e2
    obtain ⟨h0, hz, hmax, hk⟩ := hk
    obtain ⟨e, hu, he, _, hel⟩ := tyOf_sl e1
    rw [hel] at e2
    obtain ⟨zv, cc, h1, h2, h3, h4⟩ := zeroEl_sound e2
    subst he
    have hzl : 0 < z.len := by omega
    have hmade : ∃ cells : Array Value, cells.toList = List.replicate (len * szOf P e) cc ∧
        (if len * szOf P e = 0 then pure #[] else do pure (← zeroValue e).cells : Sem (Array Value)).run P w = .ok (if len * szOf P e = 0 then #[] else zv.cells) w ∧
        (Array.range (len * szOf P e)).map ((if len * szOf P e = 0 then #[] else zv.cells)[· % (if len * szOf P e = 0 then (#[] : Array Value) else zv.cells).size]!) = cells := by
      by_cases hn : len * szOf P e = 0
      · exact ⟨#[], by simp [hn], by simp [hn], by simp [hn]⟩
      · refine ⟨_, zeros_eq h2 hzl, by simp [hn, run_zeroValue h1], by simp [hn]⟩
    obtain ⟨cells, hc1, hc2, hc3⟩ := hmade
    have hrel : RelSegs ρ 0 [(0, zeroArr len z)] cells.toList := by rw [hc1, ← hz]; exact rel_one (h3 ρ len)
    obtain ⟨gs', out, hK, hfill, hr, hsz⟩ := aparts_sound (place := fun i => some (i * szOf P e, szOf P e)) c (fun j st off s h => by simp at h ⊢; omega) hrel hk
    have hcs : cells.size = len * szOf P e := by rw [← Array.length_toList, hc1]; simp
    refine ⟨gs', szOf P e, hK, OpOk.value (new_ups c) (val := .slice (some ⟨w.heap.size, 0, none⟩) len len) ?_ (After.new (T := e) (arr := out) (l := out.toList) (post := []) c (by simp) hr (rel_new_sl rfl rfl (Nat.le_refl _) (by simp [hsz, hcs])))⟩
    simp only [execOp, ho]
    refine run_v ?_
    have hno : ¬ (16777216 < len * szOf P e) := by omega
    simp only [Instr.buildSlice, Sem.run_bind, run_underlying hu, Result.andThen_ok, run_sizeOf (isSome_of_pos h0)]
    rw [if_neg (by simpa using hno)]
    by_cases hn : len * szOf P e = 0
    · rw [if_pos hn]
      simp only [if_pos hn] at hc3
      simp only [Sem.run_pure, Result.andThen_ok, Sem.run_bind, hc3, Array.toList_map, hfill]
      rfl
    · rw [if_neg hn]
      simp only [if_neg hn] at hc3
      simp only [Sem.run_pure, Result.andThen_ok, Sem.run_bind, run_zeroValue h1, hc3, Array.toList_map, hfill]
      rfl
  · rename_i esz bytes e1 e2
    split at hk
    · rename_i gz hz
      obtain ⟨h0, hlen, hmax, hk⟩ := hk
      obtain ⟨e, hu, he, _, hel⟩ := tyOf_sl e1
      subst he
      have hmade : ∃ cells : Array Value, RelSegs ρ 0 gz cells.toList ∧ ∃ zc : Array Value,
          (len * szOf P e = 0 → zc = #[]) ∧ (len * szOf P e ≠ 0 → ∃ zv, (P.info? e).bind (·.zero) = some zv ∧ zc = zv.cells) ∧ (Array.range (len * szOf P e)).map (zc[· % zc.size]!) = cells := by
        match len, hz, hlen with
        | 0, hz, hlen =>
          simp only [mixZero, Option.some.injEq] at hz
          subst hz
          exact ⟨#[], rfl, #[], by simp, by simp, by simp⟩
        | 1, hz, hlen =>
          simp only [mixZero, hel] at hz
          obtain ⟨zv, h1, h2⟩ := zeroOf_sound hz
          have hl := (h2 ρ).length
          have hsz : zv.cells.size = szOf P e := by rw [← Array.length_toList, hl, hlen]; omega
          refine ⟨zv.cells, h2 ρ, zv.cells, fun h => by omega, fun _ => ⟨zv, h1, rfl⟩, ?_⟩
          refine Array.ext (by simp [hsz]) fun i hi1 hi2 => ?_
          simp only [Array.getElem_map, Array.getElem_range]
          rw [Nat.mod_eq_of_lt (by omega), getElem!_pos zv.cells i (by omega)]
        | n + 2, hz, hlen => simp [mixZero] at hz
      obtain ⟨cells, hrel, zc, hc0, hc2, hc3⟩ := hmade
      obtain ⟨gs', out, hK, hfill, hr, hsz⟩ := aparts_sound (place := fun i => some (i * szOf P e, szOf P e)) c (fun j st off s h => by simp at h ⊢; omega) hrel hk
      have hcs : cells.size = len * szOf P e := by rw [← Array.length_toList, hrel.length, hlen]
      refine ⟨gs', szOf P e, hK, OpOk.value (new_ups c) (val := .slice (some ⟨w.heap.size, 0, none⟩) len len) ?_ (After.new (T := e) (arr := out) (l := out.toList) (post := []) c (by simp) hr (rel_new_sl rfl rfl (Nat.le_refl _) (by simp [hsz, hcs])))⟩
      simp only [execOp, ho]
      refine run_v ?_
      have hno : ¬ (16777216 < len * szOf P e) := by omega
      simp only [Instr.buildSlice, Sem.run_bind, run_underlying hu, Result.andThen_ok, run_sizeOf (isSome_of_pos h0)]
      rw [if_neg (by simpa using hno)]
      by_cases hn : len * szOf P e = 0
      · rw [if_pos hn]
        have := hc0 hn
        subst this
        simp only [Sem.run_pure, Result.andThen_ok, Sem.run_bind, hc3, Array.toList_map, hfill]
        rfl
      · rw [if_neg hn]
        obtain ⟨zv, h1, rfl⟩ := hc2 hn
        simp only [Sem.run_pure, Result.andThen_ok, Sem.run_bind, run_zeroValue h1, hc3, Array.toList_map, hfill]
        rfl
    · exact hk.elim
  · exact hk.elim

theorem ok_makeSlice {o : Oper} {t : TypeId} {x y : Operand} {K : AV → Ups → List Id → Prop} (c : Ctx ρ own env m a w) (ho : o.op = .makeSlice t x y) (hk : amakeSlice P t m (aev env x) (aev env y) K) :
    ∃ v ups rd, K v ups rd ∧ OpOk P ρ own m a w o v ups := by
  have hx := aev_sound c.env x
  have hy := aev_sound c.env y
  unfold amakeSlice at hk
  split at hk
  · rename_i esz bytes z n n' e1 e2 e3 e4
    rw [e3] at hx
    rw [e4] at hy
    simp only [RelV] at hx hy
    obtain ⟨h0, hb0, hz, hn, rfl, hmax, hk⟩ := hk
    obtain ⟨e, hu, he, hby, hel⟩ := tyOf_sl e1
    rw [hel] at e2
    obtain ⟨zv, cc, h1, h2, h3, h4⟩ := zeroEl_sound e2
    subst he
    subst hby
    have hzl : 0 < z.len := by omega
    obtain ⟨i, hi, his⟩ := szOf_pos h0
    have hib : i.bytes = bytesOf P e := by simp [bytesOf, hi]
    have hz2 : i.zero = some zv := by simpa [hi] using h1
    have hn63 : n ≤ 9223372036854775807 := by
      have : n * 1 ≤ n * (bytesOf P e : Int) := Int.mul_le_mul_of_nonneg_left (by omega) hn
      omega
    have hrun := run_make (P := P) w t e i zv hu hi hz2 .i64 .i64 n n hn (Int.le_refl _) (by rw [hib, Int.mul_comm]; omega) hn63
    refine ⟨_, _, _, hk, OpOk.value (new_ups c) ?_ (After.new (T := e) (arr := madeCells zv.cells (n.toNat * i.size)) (l := (madeCells zv.cells (n.toNat * i.size)).toList) (post := []) c (by simp) ?_ (rel_new_sl (cap := n.toNat) rfl rfl (Nat.le_refl _) (by simp [size_madeCells, his])))⟩
    · simp only [execOp, ho, hx, hy]
      exact run_v hrun
    · unfold madeCells
      rw [zeros_eq h2 hzl, his, ← hz]
      exact rel_one (h3 ρ n.toNat)
  · exact hk.elim

theorem ok_len {o : Oper} {args : Array Operand} {t : TypeId} {x : Operand} {K : AV → Prop} (c : Ctx ρ own env m a w) (ho : o.op = .call { callee := .builtin .len, args := #[x], argTypes := #[t] }) (hk : alen P t (aev env x) K) :
    ∃ v, K v ∧ OpOk P ρ own m a w o v [] := by
  have hx := aev_sound c.env x
  have fin : ∀ n : Int, K (.i .i64 n) → (Builtin.len_ #[t] o.type #[a.eval x]).run P w = .ok (.int .i64 n) w → ∃ v, K v ∧ OpOk P ρ own m a w o v [] := by
    intro n hK hr
    refine ⟨_, hK, OpOk.pure (val := .int .i64 n) c ?_ (by simp [RelV])⟩
    simp only [execOp, ho, resolve, Sem.run_bind, Sem.run_pure, Result.andThen_ok, invoke, builtin, List.map_toArray, List.map_cons, List.map_nil, hr]
  unfold alen at hk
  split at hk
  · rename_i esz bytes a' k st off n esz' e1 e2
    rw [e2] at hx
    simp only [RelV, RelAt] at hx
    obtain ⟨p, cap, hp, hc, hv⟩ := hx
    obtain ⟨e, hu, _⟩ := tyOf_sl e1
    rcases hv with ⟨hv, _⟩ | ⟨hz, ad, hv⟩
    · exact fin _ hk (by simp [Builtin.len_, run_underlying hu, hv, goInt])
    · exact fin _ hk (by simp [Builtin.len_, run_underlying hu, hv, goInt, hz])
  · rename_i esz bytes e1 e2
    rw [e2] at hx
    simp only [RelV, RelAt] at hx
    obtain ⟨e, hu, _⟩ := tyOf_sl e1
    exact fin _ hk (by simp [Builtin.len_, run_underlying hu, hx, goInt])
  · rename_i esz bytes e1 e2
    rw [e2] at hx
    simp only [RelV, RelAt] at hx
    obtain ⟨ad, cap, hx⟩ := hx
    obtain ⟨e, hu, _⟩ := tyOf_sl e1
    exact fin _ hk (by simp [Builtin.len_, run_underlying hu, hx, goInt])
  · rename_i n esz sz e1
    obtain ⟨e, hu, _⟩ := tyOf_arr e1
    exact fin _ hk (by cases hv : a.eval x <;> simp [Builtin.len_, run_underlying hu, goInt])
  · rename_i s e1 e2
    rw [e2] at hx
    simp only [RelV, RelAt] at hx
    have hu := tyOf_str e1
    exact fin _ hk (by simp [Builtin.len_, run_underlying hu, hx, goInt])
  · exact hk.elim

end
end Go.Abs

/-
Appending and calling, in the abstract words; then all operations under one law.
-/
namespace Go.Abs
open Go
set_option linter.unusedVariables false
set_option linter.unusedSectionVars false
set_option linter.unusedSimpArgs false
set_option linter.defProp false

section
variable {P : Program} {ρ : Rho} {own : Nat → Prop} {env : Env} {m : Mem} {a : Act} {w : World}

theorem subSg_sound {g : Sg} {l : List Value} {off n : Nat} (h : RelSg ρ g l) (hb : off + n ≤ g.len) : RelSg ρ (subSg' g off n) ((l.drop off).take n) := by
  unfold subSg'
  split
  · rename_i hc
    obtain ⟨rfl, rfl⟩ := hc
    have := h.length
    rw [List.drop_zero, List.take_of_length_le (by omega)]
    exact h
  · unfold subSg
    cases g with
    | ints k n' xs => obtain ⟨h1, rfl⟩ := h; simp only [Sg.len] at hb; exact ⟨by simp; omega, by simp [List.map_take, List.map_drop]⟩
    | bools n' xs => obtain ⟨h1, rfl⟩ := h; simp only [Sg.len] at hb; exact ⟨by simp; omega, by simp [List.map_take, List.map_drop]⟩
    | cells n' xs => obtain ⟨h1, h2⟩ := h; simp only [Sg.len] at hb; exact ⟨by simp; omega, (h2.drop off).take n⟩

theorem catSg_sound {g h : Sg} {l l' : List Value} {K : Sg → Prop} (h1 : RelSg ρ g l) (h2 : RelSg ρ h l') (hk : catSg g h K) : ∃ g2, K g2 ∧ RelSg ρ g2 (l ++ l') := by
  unfold catSg at hk
  split at hk
  · obtain ⟨rfl, hk⟩ := hk
    obtain ⟨e1, rfl⟩ := h1
    obtain ⟨e2, rfl⟩ := h2
    exact ⟨_, hk, by simp [e1, e2], by simp⟩
  · obtain ⟨e1, rfl⟩ := h1
    obtain ⟨e2, rfl⟩ := h2
    exact ⟨_, hk, by simp [e1, e2], by simp⟩
  · obtain ⟨e1, h1⟩ := h1
    obtain ⟨e2, h2⟩ := h2
    exact ⟨_, hk, by simp [e1, e2], h1.append h2⟩
  · exact hk.elim

/-- The cells that a slice of the abstract memory names, in the model. -/
theorem slCells_sound {x : AV} {v : Value} {esz : Nat} {z : Zk} {K : Sg → Nat → List Id → Prop} (c : Ctx ρ own env m a w) (hz : ∀ ρ : Rho, RelSg ρ (zeroArr 0 z) []) (hx : RelV ρ x v) (hk : slCells m x esz z K) :
    ∃ g n rd l, K g n rd ∧ RelSg ρ g l ∧ l.length = n * esz ∧
      ((x = .ref .nils ∧ v = .slice none 0 0 ∧ n = 0 ∧ l = []) ∨
       ∃ a' k st off rw_ gs p cap, x = .ref (.sl a' k st off n esz) ∧ m.get a' k = .lv rw_ gs ∧ ρ a' k = some p ∧ n ≤ cap ∧
        (∃ arr T fz, w.heap[p.1]? = some (.cells arr T fz) ∧ (rw_ = true → fz = (0, 0)) ∧ arr.size = p.2.2 ∧ p.2.1 + st + off + n * esz ≤ arr.size ∧ (arr.toList.drop (p.2.1 + st + off)).take (n * esz) = l) ∧
        (∀ j u, l[j]? = some u → w.cell? ⟨p.1, p.2.1 + st + off + j, none⟩ = some u) ∧
        ((v = .slice (some ⟨p.1, p.2.1 + st + off, none⟩) n cap ∧ p.2.1 + st + off + cap * esz ≤ p.2.2) ∨ (n = 0 ∧ cap = 0 ∧ ∃ ad, v = .slice (some ad) 0 0))) := by
  unfold slCells at hk
  split at hk
  · simp only [RelV, RelAt] at hx
    exact ⟨_, _, _, [], hk, hz ρ, by simp, .inl ⟨rfl, hx, rfl, rfl⟩⟩
  · rename_i a' k st off len e
    simp only [RelV, RelAt] at hx
    obtain ⟨p, cap, hp, hc, hv⟩ := hx
    split at hk
    · rename_i rw_ gs e2
      obtain ⟨p', fz, hp', hH, hrw, _⟩ := c.mem.holds a' k rw_ gs e2
      rw [hp] at hp'
      obtain rfl := Option.some.inj hp'
      split at hk
      · rename_i g hg
        obtain ⟨rfl, hb, hk⟩ := hk
        obtain ⟨arr, T, pre, l, post, f1, f2, f3, f4, f5⟩ := hH
        obtain ⟨l1, l2, l3, e3, hl1, hr, _⟩ := seg_split f5 hg
        have hl2 := hr.length
        have hsz : arr.size = pre.length + l.length + post.length := by rw [← Array.length_toList, f2]; simp; omega
        have hll : l.length = l1.length + l2.length + l3.length := by rw [e3]; simp; omega
        have hst : l1.length = st := by omega
        have hdrop : (arr.toList.drop (p.2.1 + st + off)).take (len * e) = (l2.drop off).take (len * e) := by
          rw [f2, e3, ← f3, ← hst]
          simp only [List.append_assoc]
          rw [Nat.add_assoc, List.drop_length_add_append, List.drop_length_add_append, List.drop_append_of_le_length (by omega), List.take_append_of_le_length (by simp; omega)]
        obtain ⟨cap2, hc2, hv2⟩ : ∃ cap2, len ≤ cap2 ∧ ((v = .slice (some ⟨p.1, p.2.1 + st + off, none⟩) len cap2 ∧ p.2.1 + st + off + cap2 * e ≤ p.2.2) ∨ (len = 0 ∧ cap2 = 0 ∧ ∃ ad, v = .slice (some ad) 0 0)) := by
          rcases hv with hv | ⟨h0, had⟩
          · exact ⟨cap, hc, .inl hv⟩
          · exact ⟨0, by omega, .inr ⟨h0, rfl, had⟩⟩
        refine ⟨_, _, _, _, hk, subSg_sound hr hb, by simp; omega, .inr ⟨a', k, st, off, rw_, gs, p, cap2, rfl, e2, hp, hc2, ⟨arr, T, fz, f1, fun h => (hrw h).1, f4, by omega, hdrop⟩, ?_, hv2⟩⟩
        intro j u hu
        rw [← hdrop, List.getElem?_take] at hu
        split at hu
        · rw [List.getElem?_drop] at hu
          rw [cell_of_row w p.1 _ arr T fz f1, ← Array.getElem?_toList]
          exact hu
        · cases hu
      · exact hk.elim
    · exact hk.elim
  · exact hk.elim

theorem MemRel.row {get : Nat → Nat → Blk} {g : Nat} {old cs : Array Value} {T : TypeId} {fz : Nat × Nat} (h : MemRel ρ own get w) (hh : w.heap[g]? = some (.cells old T fz)) (hs : cs.size = old.size) (ho : own g)
    (hfree : ∀ a k gs p, get a k = .lv true gs → ρ a k = some p → p.1 ≠ g) : MemRel ρ own get (w.setRow g cs) := by
  refine ⟨fun a k rw_ gs hg => ?_, h.apart, fun a k p hp => ?_, h.rws⟩
  · obtain ⟨p, fz, h1, h2, h3, h4⟩ := h.holds a k rw_ gs hg
    refine ⟨p, fz, h1, h2.world (setRow_other w _ _ _ ?_), h3, h4⟩
    intro e
    cases rw_ with
    | true => exact hfree a k gs p hg h1 e
    | false => exact h4 rfl (e ▸ ho)
  · obtain ⟨arr, T', fz', f1, f2⟩ := h.there a k p hp
    by_cases e : p.1 = g
    · rw [e] at f1 ⊢
      rw [hh] at f1
      simp only [Option.some.injEq, Obj.cells.injEq] at f1
      obtain ⟨rfl, rfl, rfl⟩ := f1
      exact ⟨cs, T, fz, setRow_heap w _ _ cs _ _ hh, hs.trans f2⟩
    · exact ⟨arr, T', fz', by rw [setRow_other w _ _ _ e]; exact f1, f2⟩

theorem run_append_at (t ty e : TypeId) (i : TypeInfo) (ht : P.underlying t = some (.slice e)) (hi : P.info? e = some i)
    (g o sLen sCap : Nat) (cur : Array Value) (T : TypeId) (hg : w.heap[g]? = some (.cells cur T (0, 0)))
    (a : Addr) (m c : Nat) (news : List Value) (hl : news.length = m * i.size) (hnews : ∀ j u, news[j]? = some u → w.cell? (a.add j) = some u) (h1 : ∀ u ∈ news, u.oneCell' = true)
    (hroom : sLen + m ≤ sCap) (hfit : o + sLen * i.size + news.length ≤ cur.size) :
    (Builtin.append_ #[t, t] ty #[.slice (some ⟨g, o, none⟩) sLen sCap, .slice (some a) m c]).run P w =
      .ok (.slice (some ⟨g, o, none⟩) (sLen + m) sCap) (w.setRow g (cur.toList.take (o + sLen * i.size) ++ news ++ cur.toList.drop (o + sLen * i.size + news.length)).toArray) := by
  have hf := run_firstCells_some (P := P) w i.size m a m c news hl hnews
  have hst := run_storeCells_at P g (o + sLen * i.size) T news 0 cur w hg (by simpa using hfit) h1
  simp only [Nat.add_zero] at hst
  simp [Builtin.append_, run_underlying ht, sizeOf, typeInfo, hi, Builtin.lenOf, hroom, hf, addr_add, hst]

theorem RelSegs.shift {d : Nat} : ∀ {h : Segs} {s : Nat} {l : List Value}, RelSegs ρ s h l → RelSegs ρ (d + s) (shiftSg d h) l
  | [], _, _, e => e
  | (st, g) :: r, s, l, h => by
    obtain ⟨rfl, l1, l2, rfl, h1, h2⟩ := h
    exact ⟨rfl, l1, l2, rfl, h1, by rw [Nat.add_assoc]; exact RelSegs.shift h2⟩

theorem RelSegs.append : ∀ {g h : Segs} {s : Nat} {l l' : List Value}, RelSegs ρ s g l → RelSegs ρ 0 h l' → RelSegs ρ s (g ++ shiftSg (s + segsLen g) h) (l ++ l')
  | [], h, s, l, l', e, hh => by
    have : l = [] := e
    subst this
    have := RelSegs.shift (d := s) hh
    simpa [segsLen] using this
  | (st, g) :: r, h, s, l, l', hg, hh => by
    obtain ⟨rfl, l1, l2, rfl, h1, h2⟩ := hg
    refine ⟨rfl, l1, l2 ++ l', by simp, h1, ?_⟩
    have := RelSegs.append h2 hh
    rwa [Nat.add_assoc] at this

theorem slSegs_sound {x : AV} {v : Value} {esz : Nat} {K : Segs → Nat → List Id → Prop} (c : Ctx ρ own env m a w) (hx : RelV ρ x v) (hk : slSegs m x esz K) :
    ∃ g n rd l, K g n rd ∧ RelSegs ρ 0 g l ∧ l.length = n * esz ∧
      (∃ a' k st off rw_ gs p cap, x = .ref (.sl a' k st off n esz) ∧ m.get a' k = .lv rw_ gs ∧ ρ a' k = some p ∧ n ≤ cap ∧
        (∃ arr T fz, w.heap[p.1]? = some (.cells arr T fz) ∧ (rw_ = true → fz = (0, 0)) ∧ arr.size = p.2.2 ∧ p.2.1 + st + off + n * esz ≤ arr.size ∧ (arr.toList.drop (p.2.1 + st + off)).take (n * esz) = l) ∧
        (∀ j u, l[j]? = some u → w.cell? ⟨p.1, p.2.1 + st + off + j, none⟩ = some u) ∧
        ((v = .slice (some ⟨p.1, p.2.1 + st + off, none⟩) n cap ∧ p.2.1 + st + off + cap * esz ≤ p.2.2) ∨ (n = 0 ∧ cap = 0 ∧ ∃ ad, v = .slice (some ad) 0 0))) := by
  unfold slSegs at hk
  split at hk
  · rename_i a' k st off len e
    simp only [RelV, RelAt] at hx
    obtain ⟨p, cap, hp, hc, hv⟩ := hx
    split at hk
    · rename_i rw_ gs e2
      obtain ⟨rfl, rfl, rfl, hlen, hk⟩ := hk
      obtain ⟨p', fz, hp', hH, hrw, _⟩ := c.mem.holds a' k rw_ gs e2
      rw [hp] at hp'
      obtain rfl := Option.some.inj hp'
      obtain ⟨arr, T, pre, l, post, f1, f2, f3, f4, f5⟩ := hH
      have hll := f5.length
      have hsz : arr.size = pre.length + l.length + post.length := by rw [← Array.length_toList, f2]; simp; omega
      have hdrop : (arr.toList.drop (p.2.1 + 0 + 0)).take (len * e) = l := by
        rw [f2, ← f3]
        simp only [List.append_assoc, Nat.add_zero]
        rw [List.drop_left, List.take_append_of_le_length (by omega), List.take_of_length_le (by omega)]
      obtain ⟨cap2, hc2, hv2⟩ : ∃ cap2, len ≤ cap2 ∧ ((v = .slice (some ⟨p.1, p.2.1 + 0 + 0, none⟩) len cap2 ∧ p.2.1 + 0 + 0 + cap2 * e ≤ p.2.2) ∨ (len = 0 ∧ cap2 = 0 ∧ ∃ ad, v = .slice (some ad) 0 0)) := by
        rcases hv with hv | ⟨h0, had⟩
        · exact ⟨cap, hc, .inl hv⟩
        · exact ⟨0, by omega, .inr ⟨h0, rfl, had⟩⟩
      refine ⟨_, _, _, _, hk, f5, by omega, a', k, 0, 0, rw_, gs, p, cap2, rfl, e2, hp, hc2, ⟨arr, T, fz, f1, fun h => (hrw h).1, f4, by omega, hdrop⟩, ?_, hv2⟩
      intro j u hu
      rw [← hdrop, List.getElem?_take] at hu
      split at hu
      · rw [List.getElem?_drop] at hu
        rw [cell_of_row w p.1 _ arr T fz f1, ← Array.getElem?_toList]
        exact hu
      · cases hu
    · exact hk.elim
  · exact hk.elim

theorem ok_append_mix {o : Oper} {t : TypeId} {x y : Operand} {K : AV → Ups → List Id → Prop} {esz bytes : Nat} {z : Segs} (c : Ctx ρ own env m a w) (ho : o.op = .call { callee := .builtin .append, args := #[x, y], argTypes := #[t, t] }) (e1 : tyOf P t = .sl esz bytes) (e2 : mixZero P t 1 = some z)
    (hk : 0 < esz ∧ 0 < bytes ∧ segsLen z = esz ∧ slSegs m (aev env x) esz fun g n rd => slSegs m (aev env y) esz fun h n' rd' => (n + n') * bytes ≤ 140737488355328 ∧ killed m (aev env x) fun ks =>
        K (.ref (.sl m.next 0 0 0 (n + n') esz)) (ks ++ [((m.next, 0), .lv true (g ++ shiftSg (n * esz) h))]) (rd ++ rd')) :
    ∃ v ups rd, K v ups rd ∧ OpOk P ρ own m a w o v ups := by
    have hx := aev_sound c.env x
    have hy := aev_sound c.env y
    obtain ⟨h0, hb0, hz, hk⟩ := hk
    obtain ⟨e, hu, he, hby, hel⟩ := tyOf_sl e1
    simp only [mixZero, hel] at e2
    obtain ⟨zv, h1, h2⟩ := zeroOf_sound e2
    subst he
    subst hby
    obtain ⟨i, hi, his⟩ := szOf_pos h0
    have hib : i.bytes = bytesOf P e := by simp [bytesOf, hi]
    have hz2 : i.zero = some zv := by simpa [hi] using h1
    have hzv : zv.cells.size = i.size := by rw [← Array.length_toList, (h2 ρ).length, hz, his]
    obtain ⟨g, n, rd, l, hk, hg, hl, hs⟩ := slSegs_sound c hx hk
    obtain ⟨h, n', rd', l', hk, hh, hl', hs'⟩ := slSegs_sound c hy hk
    obtain ⟨hmax, hk⟩ := hk
    -- the source
    have hsrc : ∃ (ad : Addr) (cap : Nat), a.eval y = .slice (some ad) n' cap ∧ ∀ j u, l'[j]? = some u → w.cell? (ad.add j) = some u := by
      obtain ⟨a2, k2, st2, off2, rw2, gs2, p2, cap2, _, _, _, _, _, hc2, hv2⟩ := hs'
      rcases hv2 with ⟨hv2, _⟩ | ⟨hn0, hcap0, ad, hv2⟩
      · exact ⟨_, _, hv2, fun j u hu => by rw [addr_add]; exact hc2 j u hu⟩
      · have : l' = [] := List.eq_nil_of_length_eq_zero (by rw [hl', hn0]; simp)
        subst this
        exact ⟨ad, 0, by rw [hv2, hn0], fun j u hu => by simp at hu⟩
    obtain ⟨ad, cap', hyv, hcells'⟩ := hsrc
    have hl'i : l'.length = n' * i.size := by rw [hl', his]
    have hone' : ∀ u ∈ l', u.oneCell' = true := hh.one
    have hne : n + n' ≤ 9223372036854775807 := by
      have := Nat.le_mul_of_pos_right (n + n') hb0
      omega
    have exec : ∀ {val w'}, (Builtin.append_ #[t, t] o.type #[a.eval x, a.eval y]).run P w = .ok val w' → (execOp a.eval o).run P w = .ok (.value val) w' := by
      intro val w' hr
      simp only [execOp, ho, resolve, Sem.run_bind, Sem.run_pure, Result.andThen_ok, invoke, builtin, List.map_toArray, List.map_cons, List.map_nil, hr]
    -- a new block
    have grown : ∀ (old : Nat), old < n + n' → ∀ {g2 : Segs}, RelSegs ρ 0 g2 (l ++ l') → ∀ {get' : Nat → Nat → Blk} {ks : Ups}, MemRel ρ own get' w → (∀ ups, fupds m.get (ks ++ ups) = fupds get' ups) →
        After ρ own m (ks ++ [((m.next, 0), .lv true g2)]) (.ref (.sl m.next 0 0 0 (n + n') (szOf P e))) w
          (.slice (some ⟨w.heap.size, 0, none⟩) (n + n') (grownCap w (n + n') old e))
          (w.drew.alloc (.cells (l.toArray ++ l'.toArray ++ Builtin.zeroCells zv.cells (grownCap w (n + n') old e - (n + n'))) e))
          (more ρ m.next 0 (w.heap.size, 0, (l.toArray ++ l'.toArray ++ Builtin.zeroCells zv.cells (grownCap w (n + n') old e - (n + n'))).size)) := by
      intro old _ g2 hg2 get' ks hM hks
      have hge := grownCap_ge w (n + n') old e
      have hM' : MemRel ρ own get' w.drew := hM.world rfl
      refine ⟨Le.more (c.fresh 0), fun a' k h => more_only a' k h, rel_new_sl rfl rfl hge ?_, ?_, ?_⟩
      · simp only [Array.size_append, List.size_toArray, size_zeroCells, hl, hl', hzv, his]
        rw [← Nat.add_mul, ← Nat.add_mul]
        exact Nat.mul_le_mul_right _ (by omega)
      · rw [hks]
        exact hM'.new (c.fresh 0) c.nz (c.own _ (Nat.le_refl _)) (l := l ++ l') (post := (Builtin.zeroCells zv.cells (grownCap w (n + n') old e - (n + n'))).toList) (by simp) (hg2)
      · exact (Kept.draw own w (w.drawn + 1)).trans (Kept.alloc own w.drew _ _)
    obtain ⟨a1, k1, st, off, rw1, gs1, p, cap, hx0, hget, hp, hncap, ⟨arr, T, fz, f1, f2, f3, f4, f5⟩, hcells, hv⟩ := hs
    rw [hx0] at hk
    simp only [killed, hget] at hk
    cases rw1 with
    | false => exact hk.elim
    | true =>
      simp only at hk
      have hK := hk
      have hg2 : RelSegs ρ 0 (g ++ shiftSg (n * szOf P e) h) (l ++ l') := by
        have := hg.append hh
        rwa [Nat.zero_add, ← hg.length, hl] at this
      obtain rfl := f2 rfl
      have hups : ∀ x ∈ ([((a1, k1), Blk.dead)] ++ [((m.next, 0), Blk.lv true (g ++ shiftSg (n * szOf P e) h))] : Ups), x.1.1 = 0 → x.1.2 < m.args.length := by
        intro x hx h
        simp only [List.cons_append, List.nil_append, List.mem_cons, List.not_mem_nil, or_false] at hx
        rcases hx with rfl | rfl
        · simp only at h ⊢
          subst h
          exact Mem.live_lt hget
        · exact absurd h c.nz
      obtain ⟨p', fz', hp', _, hrw, _⟩ := c.mem.holds a1 k1 true gs1 hget
      rw [hp] at hp'
      obtain rfl := Option.some.inj hp'
      obtain ⟨_, hown⟩ := hrw rfl
      have hkill : MemRel ρ own (fupd m.get (a1, k1) .dead) w := c.mem.kill
      have hfree : ∀ a' k' gs' q, fupd m.get (a1, k1) .dead a' k' = .lv true gs' → ρ a' k' = some q → q.1 ≠ p.1 := by
        intro a' k' gs' q hg' hq e
        simp only [fupd] at hg'
        split at hg'
        · cases hg'
        · rename_i hne
          exact hne ((c.mem.apart a' k' a1 k1 gs' gs1 q p hg' hget hq hp e).imp Eq.symm Eq.symm)
      have hle := Le.more (p := (p.1, p.2.1 + st + off, p.2.2)) (c.fresh 0)
      by_cases hroom : n + n' ≤ cap
      · rcases hv with ⟨hv, hcapb⟩ | ⟨hn0, hcap0, ad0, hv⟩
        · have hfit : p.2.1 + st + off + n * i.size + l'.length ≤ arr.size := by
            rw [hl'i, f3, Nat.add_assoc, ← Nat.add_mul, his]
            exact Nat.le_trans (Nat.add_le_add_left (Nat.mul_le_mul_right _ hroom) _) hcapb
          have hrun := run_append_at (P := P) t o.type e i hu hi p.1 (p.2.1 + st + off) n cap arr T f1 ad n' cap' l' hl'i hcells' hone' hroom hfit
          rw [← hv, ← hyv] at hrun
          have hcsz : (arr.toList.take (p.2.1 + st + off + n * i.size) ++ l' ++ arr.toList.drop (p.2.1 + st + off + n * i.size + l'.length)).length = arr.size := by simp; omega
          have hrow := hkill.row f1 (cs := (arr.toList.take (p.2.1 + st + off + n * i.size) ++ l' ++ arr.toList.drop (p.2.1 + st + off + n * i.size + l'.length)).toArray) (by simpa using hcsz) hown hfree
          refine ⟨_, _, _, hK, OpOk.value hups (exec hrun) ⟨hle, fun a' k h => more_only a' k h, ?_, hrow.name (c.fresh 0) c.nz hfree hown ?_, Kept.setRow f1 (by simpa using hcsz) hown⟩⟩
          · simp only [RelV, RelAt]
            exact ⟨(p.1, p.2.1 + st + off, p.2.2), cap, by simp [more], hroom, .inl ⟨by simp, by simpa using hcapb⟩⟩
          · refine ⟨_, T, arr.toList.take (p.2.1 + st + off), l ++ l', arr.toList.drop (p.2.1 + st + off + n * i.size + l'.length), setRow_heap w _ _ _ _ _ f1, ?_, ?_, ?_, hg2.mono hle⟩
            · simp only [← f5, his, List.take_add, List.append_assoc]
            · simp; omega
            · rw [List.size_toArray, hcsz]; exact f3
        · have hn'0 : n' = 0 := by omega
          subst hn'0
          subst hn0
          have hl0 : l = [] := List.eq_nil_of_length_eq_zero (by rw [hl]; simp)
          have hl'0 : l' = [] := List.eq_nil_of_length_eq_zero (by rw [hl']; simp)
          subst hl0
          subst hl'0
          have hrun : (Builtin.append_ #[t, t] o.type #[a.eval x, a.eval y]).run P w = .ok (.slice (some ad0) 0 0) w := by
            rw [hv, hyv]
            simp [Builtin.append_, run_underlying hu, sizeOf, typeInfo, hi, Builtin.lenOf, Builtin.firstCells, loadCells, loadCellsFrom, storeCells]
          refine ⟨_, _, _, hK, OpOk.value hups (exec hrun) ⟨hle, fun a' k h => more_only a' k h, ?_, hkill.name (c.fresh 0) c.nz hfree hown ?_, Kept.refl own w⟩⟩
          · simp only [RelV, RelAt]
            exact ⟨(p.1, p.2.1 + st + off, p.2.2), 0, by simp [more], by omega, .inr (by simp)⟩
          · refine ⟨arr, T, arr.toList.take (p.2.1 + st + off), [], arr.toList.drop (p.2.1 + st + off), f1, by simp, by simp; omega, f3, (by simpa using hg2.mono hle)⟩
      · have hexec : ∃ b, a.eval x = .slice (some b) n cap ∧ ∀ j u, l[j]? = some u → w.cell? (b.add j) = some u := by
          rcases hv with ⟨hv, _⟩ | ⟨hn0, hcap0, ad0, hv⟩
          · exact ⟨_, hv, fun j u hu => by rw [addr_add]; exact hcells j u hu⟩
          · have hl0 : l = [] := List.eq_nil_of_length_eq_zero (by rw [hl, hn0]; simp)
            subst hl0
            exact ⟨ad0, by rw [hv, hn0, hcap0], fun j u hu => by simp at hu⟩
        obtain ⟨b, hxv, hcb⟩ := hexec
        refine ⟨_, _, _, hK, OpOk.value hups (exec ?_) (grown cap (by omega) hg2 (ks := [((a1, k1), .dead)]) hkill (fun _ => rfl))⟩
        rw [hxv, hyv]
        exact run_append_grow (P := P) w t o.type e i zv hu hi hz2 b n cap l (by rw [hl, his]) hcb ad n' cap' l' hl'i hcells' (by omega) (by omega) (growslice_fits (by omega) (by rw [hib]; exact hmax))

theorem ok_append {o : Oper} {t : TypeId} {x y : Operand} {K : AV → Ups → List Id → Prop} (c : Ctx ρ own env m a w) (ho : o.op = .call { callee := .builtin .append, args := #[x, y], argTypes := #[t, t] }) (hk : aappend P t m (aev env x) (aev env y) K) :
    ∃ v ups rd, K v ups rd ∧ OpOk P ρ own m a w o v ups := by
  have hx := aev_sound c.env x
  have hy := aev_sound c.env y
  unfold aappend at hk
  split at hk
  · rename_i esz bytes z e1 e2
    obtain ⟨h0, hb0, hz, hnn, hk⟩ := hk
    obtain ⟨e, hu, he, hby, hel⟩ := tyOf_sl e1
    rw [hel] at e2
    obtain ⟨zv, cc, h1, h2, h3, h4⟩ := zeroEl_sound e2
    subst he
    subst hby
    obtain ⟨i, hi, his⟩ := szOf_pos h0
    have hib : i.bytes = bytesOf P e := by simp [bytesOf, hi]
    have hz2 : i.zero = some zv := by simpa [hi] using h1
    have hzv : zv.cells.size = i.size := by rw [← Array.length_toList, h2, List.length_replicate, hz, his]
    have hnil : ∀ ρ : Rho, RelSg ρ (zeroArr 0 z) [] := fun ρ => by simpa using h3 ρ 0
    obtain ⟨g, n, rd, l, hk, hg, hl, hs⟩ := slCells_sound c hnil hx hk
    obtain ⟨h, n', rd', l', hk, hh, hl', hs'⟩ := slCells_sound c hnil hy hk
    obtain ⟨hmax, hpos, hk⟩ := hk
    -- the source
    have hsrc : ∃ (ad : Addr) (cap : Nat), a.eval y = .slice (some ad) n' cap ∧ ∀ j u, l'[j]? = some u → w.cell? (ad.add j) = some u := by
      rcases hs' with ⟨hy0, _⟩ | ⟨a2, k2, st2, off2, rw2, gs2, p2, cap2, _, _, _, _, _, hc2, hv2⟩
      · rw [hy0] at hnn; exact hnn.elim
      · rcases hv2 with ⟨hv2, _⟩ | ⟨hn0, hcap0, ad, hv2⟩
        · exact ⟨_, _, hv2, fun j u hu => by rw [addr_add]; exact hc2 j u hu⟩
        · have : l' = [] := List.eq_nil_of_length_eq_zero (by rw [hl', hn0]; simp)
          subst this
          exact ⟨ad, 0, by rw [hv2, hn0], fun j u hu => by simp at hu⟩
    obtain ⟨ad, cap', hyv, hcells'⟩ := hsrc
    have hl'i : l'.length = n' * i.size := by rw [hl', his]
    have hone' : ∀ u ∈ l', u.oneCell' = true := hh.one
    have hne : n + n' ≤ 9223372036854775807 := by
      have := Nat.le_mul_of_pos_right (n + n') hb0
      omega
    have exec : ∀ {val w'}, (Builtin.append_ #[t, t] o.type #[a.eval x, a.eval y]).run P w = .ok val w' → (execOp a.eval o).run P w = .ok (.value val) w' := by
      intro val w' hr
      simp only [execOp, ho, resolve, Sem.run_bind, Sem.run_pure, Result.andThen_ok, invoke, builtin, List.map_toArray, List.map_cons, List.map_nil, hr]
    -- a new block
    have grown : ∀ (old : Nat), old < n + n' → ∀ {g2 : Sg}, RelSg ρ g2 (l ++ l') → ∀ {get' : Nat → Nat → Blk} {ks : Ups}, MemRel ρ own get' w → (∀ ups, fupds m.get (ks ++ ups) = fupds get' ups) →
        After ρ own m (ks ++ [((m.next, 0), .lv true [(0, g2)])]) (.ref (.sl m.next 0 0 0 (n + n') (szOf P e))) w
          (.slice (some ⟨w.heap.size, 0, none⟩) (n + n') (grownCap w (n + n') old e))
          (w.drew.alloc (.cells (l.toArray ++ l'.toArray ++ Builtin.zeroCells zv.cells (grownCap w (n + n') old e - (n + n'))) e))
          (more ρ m.next 0 (w.heap.size, 0, (l.toArray ++ l'.toArray ++ Builtin.zeroCells zv.cells (grownCap w (n + n') old e - (n + n'))).size)) := by
      intro old _ g2 hg2 get' ks hM hks
      have hge := grownCap_ge w (n + n') old e
      have hM' : MemRel ρ own get' w.drew := hM.world rfl
      refine ⟨Le.more (c.fresh 0), fun a' k h => more_only a' k h, rel_new_sl rfl rfl hge ?_, ?_, ?_⟩
      · simp only [Array.size_append, List.size_toArray, size_zeroCells, hl, hl', hzv, his]
        rw [← Nat.add_mul, ← Nat.add_mul]
        exact Nat.mul_le_mul_right _ (by omega)
      · rw [hks]
        exact hM'.new (c.fresh 0) c.nz (c.own _ (Nat.le_refl _)) (l := l ++ l') (post := (Builtin.zeroCells zv.cells (grownCap w (n + n') old e - (n + n'))).toList) (by simp) (rel_one hg2)
      · exact (Kept.draw own w (w.drawn + 1)).trans (Kept.alloc own w.drew _ _)
    rcases hs with ⟨hx0, hxv, rfl, rfl⟩ | ⟨a1, k1, st, off, rw1, gs1, p, cap, hx0, hget, hp, hncap, ⟨arr, T, fz, f1, f2, f3, f4, f5⟩, hcells, hv⟩
    · rw [hx0] at hk hpos
      simp only [killed] at hk
      obtain ⟨g2, hK, hg2⟩ := catSg_sound hg hh hk
      have hp0 : 0 < n' := hpos (by simp [isNil])
      refine ⟨_, _, _, hK, OpOk.value (new_ups c) (exec ?_) (grown 0 (by omega) hg2 (ks := []) c.mem (fun _ => rfl))⟩
      rw [hxv, hyv]
      have := run_append_nil (P := P) w t o.type e i zv hu hi hz2 ad n' cap' l' hl'i hcells' hp0 (by omega) (by rw [hib]; have := hmax; simp only [Nat.zero_add] at this; omega)
      simpa using this
    · rw [hx0] at hk
      simp only [killed, hget] at hk
      cases rw1 with
      | false => exact hk.elim
      | true =>
        simp only at hk
        obtain ⟨g2, hK, hg2⟩ := catSg_sound hg hh hk
        obtain rfl := f2 rfl
        have hups : ∀ x ∈ ([((a1, k1), Blk.dead)] ++ [((m.next, 0), Blk.lv true [(0, g2)])] : Ups), x.1.1 = 0 → x.1.2 < m.args.length := by
          intro x hx h
          simp only [List.cons_append, List.nil_append, List.mem_cons, List.not_mem_nil, or_false] at hx
          rcases hx with rfl | rfl
          · simp only at h ⊢
            subst h
            exact Mem.live_lt hget
          · exact absurd h c.nz
        obtain ⟨p', fz', hp', _, hrw, _⟩ := c.mem.holds a1 k1 true gs1 hget
        rw [hp] at hp'
        obtain rfl := Option.some.inj hp'
        obtain ⟨_, hown⟩ := hrw rfl
        have hkill : MemRel ρ own (fupd m.get (a1, k1) .dead) w := c.mem.kill
        have hfree : ∀ a' k' gs' q, fupd m.get (a1, k1) .dead a' k' = .lv true gs' → ρ a' k' = some q → q.1 ≠ p.1 := by
          intro a' k' gs' q hg' hq e
          simp only [fupd] at hg'
          split at hg'
          · cases hg'
          · rename_i hne
            exact hne ((c.mem.apart a' k' a1 k1 gs' gs1 q p hg' hget hq hp e).imp Eq.symm Eq.symm)
        have hle := Le.more (p := (p.1, p.2.1 + st + off, p.2.2)) (c.fresh 0)
        by_cases hroom : n + n' ≤ cap
        · rcases hv with ⟨hv, hcapb⟩ | ⟨hn0, hcap0, ad0, hv⟩
          · have hfit : p.2.1 + st + off + n * i.size + l'.length ≤ arr.size := by
              rw [hl'i, f3, Nat.add_assoc, ← Nat.add_mul, his]
              exact Nat.le_trans (Nat.add_le_add_left (Nat.mul_le_mul_right _ hroom) _) hcapb
            have hrun := run_append_at (P := P) t o.type e i hu hi p.1 (p.2.1 + st + off) n cap arr T f1 ad n' cap' l' hl'i hcells' hone' hroom hfit
            rw [← hv, ← hyv] at hrun
            have hcsz : (arr.toList.take (p.2.1 + st + off + n * i.size) ++ l' ++ arr.toList.drop (p.2.1 + st + off + n * i.size + l'.length)).length = arr.size := by simp; omega
            have hrow := hkill.row f1 (cs := (arr.toList.take (p.2.1 + st + off + n * i.size) ++ l' ++ arr.toList.drop (p.2.1 + st + off + n * i.size + l'.length)).toArray) (by simpa using hcsz) hown hfree
            refine ⟨_, _, _, hK, OpOk.value hups (exec hrun) ⟨hle, fun a' k h => more_only a' k h, ?_, hrow.name (c.fresh 0) c.nz hfree hown ?_, Kept.setRow f1 (by simpa using hcsz) hown⟩⟩
            · simp only [RelV, RelAt]
              exact ⟨(p.1, p.2.1 + st + off, p.2.2), cap, by simp [more], hroom, .inl ⟨by simp, by simpa using hcapb⟩⟩
            · refine ⟨_, T, arr.toList.take (p.2.1 + st + off), l ++ l', arr.toList.drop (p.2.1 + st + off + n * i.size + l'.length), setRow_heap w _ _ _ _ _ f1, ?_, ?_, ?_, rel_one (hg2.mono hle)⟩
              · simp only [← f5, his, List.take_add, List.append_assoc]
              · simp; omega
              · rw [List.size_toArray, hcsz]; exact f3
          · have hn'0 : n' = 0 := by omega
            subst hn'0
            subst hn0
            have hl0 : l = [] := List.eq_nil_of_length_eq_zero (by rw [hl]; simp)
            have hl'0 : l' = [] := List.eq_nil_of_length_eq_zero (by rw [hl']; simp)
            subst hl0
            subst hl'0
            have hrun : (Builtin.append_ #[t, t] o.type #[a.eval x, a.eval y]).run P w = .ok (.slice (some ad0) 0 0) w := by
              rw [hv, hyv]
              simp [Builtin.append_, run_underlying hu, sizeOf, typeInfo, hi, Builtin.lenOf, Builtin.firstCells, loadCells, loadCellsFrom, storeCells]
            refine ⟨_, _, _, hK, OpOk.value hups (exec hrun) ⟨hle, fun a' k h => more_only a' k h, ?_, hkill.name (c.fresh 0) c.nz hfree hown ?_, Kept.refl own w⟩⟩
            · simp only [RelV, RelAt]
              exact ⟨(p.1, p.2.1 + st + off, p.2.2), 0, by simp [more], by omega, .inr (by simp)⟩
            · refine ⟨arr, T, arr.toList.take (p.2.1 + st + off), [], arr.toList.drop (p.2.1 + st + off), f1, by simp, by simp; omega, f3, rel_one (by simpa using hg2.mono hle)⟩
        · have hexec : ∃ b, a.eval x = .slice (some b) n cap ∧ ∀ j u, l[j]? = some u → w.cell? (b.add j) = some u := by
            rcases hv with ⟨hv, _⟩ | ⟨hn0, hcap0, ad0, hv⟩
            · exact ⟨_, hv, fun j u hu => by rw [addr_add]; exact hcells j u hu⟩
            · have hl0 : l = [] := List.eq_nil_of_length_eq_zero (by rw [hl, hn0]; simp)
              subst hl0
              exact ⟨ad0, by rw [hv, hn0, hcap0], fun j u hu => by simp at hu⟩
          obtain ⟨b, hxv, hcb⟩ := hexec
          refine ⟨_, _, _, hK, OpOk.value hups (exec ?_) (grown cap (by omega) hg2 (ks := [((a1, k1), .dead)]) hkill (fun _ => rfl))⟩
          rw [hxv, hyv]
          exact run_append_grow (P := P) w t o.type e i zv hu hi hz2 b n cap l (by rw [hl, his]) hcb ad n' cap' l' hl'i hcells' (by omega) (by omega) (growslice_fits (by omega) (by rw [hib]; exact hmax))
  · rename_i esz bytes e1 e2
    split at hk
    · rename_i z e3
      exact ok_append_mix c ho e1 e3 hk
    · exact hk.elim
  · exact hk.elim

theorem ok_copy {o : Oper} {t t' : TypeId} {x y : Operand} {K : AV → Ups → List Id → Prop} (c : Ctx ρ own env m a w) (ho : o.op = .call { callee := .builtin .copy, args := #[x, y], argTypes := #[t, t'] }) (hk : acopy P t m (aev env x) (aev env y) K) :
    ∃ v ups rd, K v ups rd ∧ OpOk P ρ own m a w o v ups := by
  have hx := aev_sound c.env x
  have hy := aev_sound c.env y
  unfold acopy at hk
  split at hk
  · rename_i esz bytes a1 k st off n e1 e2 e3
    obtain ⟨rfl, rfl, hk⟩ := hk
    obtain ⟨e, hu, he, _, _⟩ := tyOf_sl e2
    obtain ⟨i, hi, his⟩ := szOf_pos (P := P) (t := e) (by omega)
    obtain ⟨g, n', rd, l, hk, hg, hl, hs⟩ := slCells_sound c (z := .bools 1) (fun _ => ⟨rfl, rfl⟩) hy hk
    obtain ⟨hpos, hk⟩ := hk
    split at hk
    · rename_i gs e4
      rcases hs with ⟨_, _, h0, _⟩ | ⟨a2, k2, st2, off2, rw2, gs2, p2, cap2, hy0, _, _, _, _, hcells, hv2⟩
      · omega
      · obtain ⟨hyv, _⟩ : a.eval y = .slice (some ⟨p2.1, p2.2.1 + st2 + off2, none⟩) n' cap2 ∧ p2.2.1 + st2 + off2 + cap2 * 1 ≤ p2.2.2 := by
          rcases hv2 with h | ⟨h0, _⟩
          · exact h
          · omega
        rw [e3] at hx
        simp only [RelV, RelAt] at hx
        obtain ⟨p, cap, hp, hc, hv⟩ := hx
        obtain ⟨hxv, hcap⟩ : a.eval x = .slice (some ⟨p.1, p.2.1 + st + off, none⟩) n cap ∧ p.2.1 + st + off + cap * 1 ≤ p.2.2 := by
          rcases hv with h | ⟨h0, _⟩
          · exact h
          · omega
        obtain ⟨p', fz, hp', hH, hrw, _⟩ := c.mem.holds a1 k true gs e4
        rw [hp] at hp'
        obtain rfl := Option.some.inj hp'
        obtain ⟨rfl, hown⟩ := hrw rfl
        have hgl := hg.length
        have hcs : RelSegs ρ 0 [(0, subSg' g 0 (min n' n))] (l.take (min n' n)) := by
          have q := subSg_sound (off := 0) (n := min n' n) hg (by omega)
          rw [List.drop_zero] at q
          exact ⟨rfl, _, [], by simp, q, rfl⟩
        have hlen : (l.take (min n' n)).length = min n' n := by simp; omega
        obtain ⟨gs', old, T, cs, hK, hh, hb, rfl, hsz, hH'⟩ := holds_over (K := fun gs' => K (.i .i64 (min n' n : Nat)) [((a1, k), .lv true gs')] rd) hH (fun l2 hl2 => stSegs_sound hl2 hcs hk)
        refine ⟨_, _, _, hK, ?_⟩
        refine OpOk.value (val := goInt (l.take (min n' n)).length) (w' := w.setRow p.1 (old.toList.take (p.2.1 + (st + off)) ++ l.take (min n' n) ++ old.toList.drop (p.2.1 + (st + off) + (l.take (min n' n)).length)).toArray) (ρ' := ρ) ?_ ?_ ?_
        · intro x hx h0
          simp only [List.mem_cons, List.not_mem_nil, or_false] at hx
          subst hx
          simp only at h0 ⊢
          subst h0
          exact Mem.live_lt e4
        · have hr := run_copy_row (P := P) w t t' o.type e p.1 (p.2.1 + (st + off)) n cap ⟨p2.1, p2.2.1 + st2 + off2, none⟩ n' cap2 old T (l.take (min n' n)) hu (by rw [hi]; simp [his, ← he]) hh (by rw [hlen])
            (fun j v hj => by
              rw [List.getElem?_take] at hj
              split at hj
              · rw [addr_add]; exact hcells j v hj
              · cases hj) (by omega) hcs.one
          simp only [execOp, ho, resolve, Sem.run_bind, Sem.run_pure, Result.andThen_ok, invoke, builtin, List.map_toArray, List.map_cons, List.map_nil, hxv, hyv]
          rw [show p.2.1 + st + off = p.2.1 + (st + off) by omega, hr]
          rfl
        · exact ⟨Le.refl ρ, fun _ _ _ => rfl, by rw [hlen]; simp [RelV, goInt], c.mem.write e4 hp hh hsz hH', Kept.setRow hh hsz hown⟩
    · exact hk.elim
  · exact hk.elim

end
end Go.Abs

/-
Calls in the abstract words; all operations under one law.
-/
namespace Go.Abs
open Go
set_option linter.unusedVariables false
set_option linter.unusedSectionVars false
set_option linter.unusedSimpArgs false
set_option linter.defProp false

theorem fupds_append (u v : Ups) : ∀ get, fupds get (u ++ v) = fupds (fupds get u) v := by
  induction u with
  | nil => intro get; rfl
  | cons x r ih => intro get; obtain ⟨p, b⟩ := x; simp only [List.cons_append, fupds]; exact ih _

theorem idx_lt : ∀ {F : List Id} {a k j : Nat}, idx F a k = some j → F[j]? = some (a, k)
  | [], _, _, _, h => by simp [idx] at h
  | p :: r, a, k, j, h => by
    simp only [idx] at h
    split at h
    · rename_i hc
      simp at h
      subst h
      simp [← hc.1, ← hc.2]
    · cases hi : idx r a k with
      | none => simp [hi] at h
      | some j' =>
        simp [hi] at h
        subst h
        simpa using idx_lt hi

theorem idx_mem : ∀ {F : List Id} {a k : Nat}, (a, k) ∈ F → ∃ j, idx F a k = some j
  | [], _, _, h => by cases h
  | p :: r, a, k, h => by
    simp only [idx]
    split
    · exact ⟨0, rfl⟩
    · rename_i hc
      rcases List.mem_cons.1 h with rfl | h
      · exact absurd ⟨rfl, rfl⟩ hc
      · obtain ⟨j, hj⟩ := idx_mem h
        exact ⟨j + 1, by simp [hj]⟩

theorem idx_none {F : List Id} {a k : Nat} (h : (a, k) ∉ F) : idx F a k = none := by
  cases hi : idx F a k with
  | none => rfl
  | some j => exact absurd (List.mem_of_getElem? (idx_lt hi)) h

theorem idx_of_get : ∀ {F : List Id} {j a k : Nat}, F.Nodup → F[j]? = some (a, k) → idx F a k = some j
  | [], j, a, k, _, h => by simp at h
  | p :: r, j, a, k, hn, h => by
    obtain ⟨h1, h2⟩ := List.nodup_cons.1 hn
    cases j with
    | zero => simp at h; subst h; simp [idx]
    | succ j =>
      have h' : r[j]? = some (a, k) := by simpa using h
      simp only [idx]
      rw [if_neg, idx_of_get h2 h']
      · rfl
      · rintro ⟨e1, e2⟩
        exact h1 (by have := List.mem_of_getElem? h'; rwa [← e1, ← e2] at this)

theorem fupds_zip (σ : Ren) : ∀ {F : List Id} {as : List Blk}, F.Nodup → as.length = F.length → ∀ get a k,
    fupds get (zipUps σ F as) a k = match idx F a k with | some j => renBlk σ (as.getD j .dead) | none => get a k
  | [], as, _, h, get, a, k => by cases as <;> simp [zipUps, fupds, idx]
  | p :: r, [], _, h, _, _, _ => by simp at h
  | p :: r, b :: bs, hn, h, get, a, k => by
    obtain ⟨h1, h2⟩ := List.nodup_cons.1 hn
    simp only [zipUps, fupds]
    rw [fupds_zip σ h2 (by simpa using h)]
    simp only [idx]
    by_cases hc : p.1 = a ∧ p.2 = k
    · rw [if_pos hc, idx_none (by obtain ⟨rfl, rfl⟩ := hc; exact h1)]
      simp [fupd, hc]
    · rw [if_neg hc]
      cases hi : idx r a k with
      | none => simp [fupd, hc]
      | some j => simp

theorem fupds_new (σ : Ren) (nid : Nat) : ∀ {ns : List Blk} {j : Nat} {get : Nat → Nat → Blk} {a k : Nat},
    fupds get (newUps σ nid j ns) a k = if a = nid ∧ j ≤ k ∧ k < j + ns.length then renBlk σ (ns.getD (k - j) .dead) else get a k
  | [], j, get, a, k => by
    simp only [newUps, fupds, List.length_nil]
    rw [if_neg (by omega)]
  | b :: bs, j, get, a, k => by
    simp only [newUps, fupds]
    rw [fupds_new σ nid (ns := bs)]
    by_cases h1 : a = nid ∧ j + 1 ≤ k ∧ k < j + 1 + bs.length
    · rw [if_pos h1, if_pos ⟨h1.1, by omega, by simp; omega⟩]
      obtain ⟨d, hd⟩ : ∃ d, k - j = d + 1 := ⟨k - j - 1, by omega⟩
      rw [show k - (j + 1) = d by omega, hd]
      simp
    · rw [if_neg h1]
      by_cases h2 : a = nid ∧ k = j
      · obtain ⟨rfl, rfl⟩ := h2
        rw [if_pos ⟨rfl, by omega, by simp⟩]
        simp [fupd]
      · rw [if_neg (by simp only [List.length_cons]; omega)]
        simp only [fupd]
        rw [if_neg]
        rintro ⟨rfl, rfl⟩
        exact h2 ⟨rfl, rfl⟩

theorem renBlk_live {σ : Ren} {b : Blk} {rw_ : Bool} {gs : Segs} (h : renBlk σ b = .lv rw_ gs) : ∃ gs0, b = .lv rw_ gs0 ∧ gs = renSegs σ gs0 := by
  cases b with
  | dead => simp [renBlk] at h
  | lv r g => simp [renBlk] at h; obtain ⟨rfl, rfl⟩ := h; exact ⟨g, rfl, rfl⟩

section
variable {P : Program} {ρ : Rho} {own : Nat → Prop} {env : Env} {m : Mem} {a : Act} {w : World}

/-- What an operation is asked to do, its outcome open. -/
def OpK (P : Program) (ρ : Rho) (own : Nat → Prop) (m : Mem) (a : Act) (w : World) (o : Oper) (K : AV → Ups → List Id → Prop) : Prop :=
  ∀ next Q, (∀ v ups rd val w' ρ', K v ups rd → (∀ x ∈ ups, x.1.1 = 0 → x.1.2 < m.args.length) → After ρ own m ups v w val w' ρ' → next (a.put o.dst val) w') → o.wp P a w next Q

theorem OpOk.toK {o : Oper} {v : AV} {ups : Ups} {rd : List Id} {K : AV → Ups → List Id → Prop} (h : OpOk P ρ own m a w o v ups) (hk : K v ups rd) : OpK P ρ own m a w o K :=
  fun next Q hn => h.2 next Q fun val w' ρ' ha => hn v ups rd val w' ρ' hk h.1 ha

theorem RelCaps.vals : ∀ {caps : List (Nat × Nat × Nat × Nat)} {cs : List Value}, RelCaps ρ caps cs → RelVs ρ (capArgs caps) cs
  | [], cs, h => by cases h; simp [capArgs, RelVs]
  | (x, k, st, off) :: r, cs, ⟨p, l', h1, h2, h3⟩ => by
    subst h2
    simp only [capArgs, List.map_cons, RelVs]
    exact ⟨_, l', rfl, by simp only [RelV, RelAt]; exact ⟨p, h1, rfl⟩, RelCaps.vals h3⟩

theorem RelVs.append : ∀ {x y : List AV} {l l' : List Value}, RelVs ρ x l → RelVs ρ y l' → RelVs ρ (x ++ y) (l ++ l')
  | [], y, l, l', h, h' => by simp only [RelVs] at h; subst h; simpa using h'
  | _ :: _, y, l, l', h, h' => by
    simp only [RelVs, List.cons_append] at h ⊢
    obtain ⟨v, l2, rfl, h1, h2⟩ := h
    exact ⟨v, l2 ++ l', rfl, h1, RelVs.append h2 h'⟩

theorem RelVs.args (c : RelE ρ env a) : ∀ (xs : List Operand), RelVs ρ (xs.map (aev env)) (xs.map a.eval)
  | [] => by simp [RelVs]
  | x :: r => by simp only [List.map_cons, RelVs]; exact ⟨_, _, rfl, aev_sound c x, RelVs.args c r⟩

def rhoIn (ρ : Rho) (F : List Id) : Rho := fun a k => if a = 0 then (F[k]?).bind fun p => ρ p.1 p.2 else none

theorem renIn_to (F : List Id) : (renIn F).To ρ (rhoIn ρ F) := by
  intro a' k q p h1 h2
  simp only [renIn] at h1
  cases hi : idx F a' k with
  | none => simp [hi] at h1
  | some j =>
    simp [hi] at h1
    subst h1
    simp [rhoIn, idx_lt hi, h2]

theorem ok_calls {o : Oper} {f : FuncId} {vs : List AV} {vals : List Value} {K : AV → Ups → List Id → Prop} (c : Ctx ρ own env m a w) (hvs : RelVs ρ vs vals)
    (hrun : Okf P f → (execOp a.eval o).run P w = .ok (.enter f vals.toArray) w) (hk : CallsVia P f vs m K) : OpK P ρ own m a w o K := by
  obtain ⟨F, hnd, hlive, hok, hc⟩ := hk
  intro next Q hn
  unfold Oper.wp
  rw [hrun hok, Oper.upon_enter]
  have hFlive : ∀ p ∈ F, ∃ rw_ gs, m.get p.1 p.2 = .lv rw_ gs := by
    intro p hp
    have := hlive p hp
    cases hg : m.get p.1 p.2 with
    | dead => exact absurd hg this
    | lv r g => exact ⟨r, g, rfl⟩
  let ownc : Nat → Prop := fun b => ∃ p ∈ F, ∃ gs q, m.get p.1 p.2 = .lv true gs ∧ ρ p.1 p.2 = some q ∧ q.1 = b
  have hownc : ∀ b, ownc b → own b := by
    rintro b ⟨p, hp, gs, q, h1, h2, rfl⟩
    obtain ⟨q', fz, h3, _, h4, _⟩ := c.mem.holds p.1 p.2 true gs h1
    rw [h2] at h3
    obtain rfl := Option.some.inj h3
    exact (h4 rfl).2
  have hlt : ∀ {a' k : Nat} {q : Nat × Nat × Nat}, ρ a' k = some q → q.1 < w.heap.size := by
    intro a' k q h
    obtain ⟨arr, T, fz, h1, _⟩ := c.mem.there a' k q h
    exact (Array.getElem?_eq_some_iff.1 h1).1
  have hargs : ∀ j, (argBlks m F).getD j .dead = match F[j]? with | some p => renBlk (renIn F) (m.get p.1 p.2) | none => .dead := by
    intro j
    simp only [argBlks, List.getD_eq_getElem?_getD, List.getElem?_map]
    cases F[j]? <;> rfl
  have hM : MemRel (rhoIn ρ F) ownc (getArgs (argBlks m F)) w := by
    refine ⟨fun a' k rw_ gs hg => ?_, fun a1 k1 a2 k2 g1 g2 p1 p2 x1 x2 y1 y2 e => ?_, fun a' k p hp => ?_, fun a' k rw_ gs ha hg => ?_⟩
    · simp only [getArgs] at hg
      split at hg
      · rename_i h0
        subst h0
        rw [hargs] at hg
        cases hF : F[k]? with
        | none => simp [hF] at hg
        | some p =>
          simp only [hF] at hg
          obtain ⟨gs0, h1, rfl⟩ := renBlk_live hg
          obtain ⟨q, fz, h2, h3, h4, h5⟩ := c.mem.holds p.1 p.2 rw_ gs0 h1
          refine ⟨q, fz, by simp [rhoIn, hF, h2], h3.ren (renIn_to F), fun hr => ⟨(h4 hr).1, p, List.mem_of_getElem? hF, gs0, q, hr ▸ h1, h2, rfl⟩, fun hr ho => h5 hr (hownc _ ho)⟩
      · cases hg
    · simp only [getArgs] at x1 x2
      split at x1
      · split at x2
        · rename_i z1 z2
          subst z1
          subst z2
          rw [hargs] at x1 x2
          cases hF1 : F[k1]? with
          | none => simp [hF1] at x1
          | some q1 =>
            cases hF2 : F[k2]? with
            | none => simp [hF2] at x2
            | some q2 =>
              simp only [hF1] at x1
              simp only [hF2] at x2
              obtain ⟨gs1, h1, _⟩ := renBlk_live x1
              obtain ⟨gs2, h2, _⟩ := renBlk_live x2
              simp [rhoIn, hF1] at y1
              simp [rhoIn, hF2] at y2
              have := c.mem.apart _ _ _ _ _ _ _ _ h1 h2 y1 y2 e
              have hq : q1 = q2 := Prod.ext this.1 this.2
              subst hq
              have i1 := idx_of_get hnd hF1
              have i2 := idx_of_get hnd hF2
              rw [i1] at i2
              exact ⟨rfl, Option.some.inj i2⟩
        · cases x2
      · cases x1
    · simp only [rhoIn] at hp
      split at hp
      · cases hF : F[k]? with
        | none => simp [hF] at hp
        | some q =>
          simp [hF] at hp
          exact c.mem.there _ _ _ hp
      · cases hp
    · simp only [getArgs, ha, if_false] at hg
      cases hg
  refine (hc (rhoIn ρ F) ownc w vals (fun a' k h => by simp [rhoIn, h]) ?_ hM (RelVs.ren (renIn_to F) hvs)).mono ?_
  · rintro b ⟨p, hp, gs, q, _, h2, rfl⟩
    exact hlt h2
  · rintro e w' ⟨r, as, ns, val, ρ', rfl, hR, hlen, hr, hM', h0, h2, hkept⟩
    have hlen' : as.length = F.length := by rw [hlen]; simp [argBlks]
    let ρ2 : Rho := fun a' k => if a' = m.next then ρ' 1 k else ρ a' k
    have hto : (renOut m.next F).To ρ' ρ2 := by
      intro a' k q p g1 g2
      simp only [renOut] at g1
      split at g1
      · rename_i z; subst z
        rw [h0, rhoIn] at g2
        simp only [if_true, g1, Option.bind_some] at g2
        simp only [ρ2]
        rw [if_neg]
        · exact g2
        · intro z
          have := c.fresh q.2
          rw [← z, g2] at this
          cases this
      · split at g1
        · rename_i z; subst z
          simp at g1
          subst g1
          simp [ρ2, g2]
        · cases g1
    have hle : Le ρ ρ2 := by
      intro a' k p hp
      simp only [ρ2]
      rw [if_neg]
      · exact hp
      · rintro rfl
        rw [c.fresh k] at hp
        cases hp
    have hget : ∀ a' k, fupds m.get (zipUps (renOut m.next F) F as ++ newUps (renOut m.next F) m.next 0 ns) a' k =
        if a' = m.next ∧ k < ns.length then renBlk (renOut m.next F) (ns.getD k .dead) else
          match idx F a' k with | some j => renBlk (renOut m.next F) (as.getD j .dead) | none => m.get a' k := by
      intro a' k
      rw [fupds_append, fupds_new, fupds_zip _ hnd hlen']
      simp
    have hnF : ∀ k, (m.next, k) ∉ F := by
      intro k hmem
      obtain ⟨rw_, gs, hg⟩ := hFlive _ hmem
      obtain ⟨q, fz, hq, _⟩ := c.mem.holds _ _ _ _ hg
      have hq' : ρ m.next k = some q := hq
      rw [c.fresh k] at hq'
      cases hq'
    have hnew : ∀ k, m.get m.next k = .dead := by
      intro k
      cases hg : m.get m.next k with
      | dead => rfl
      | lv r g =>
        obtain ⟨q, fz, hq, _⟩ := c.mem.holds _ _ _ _ hg
        rw [c.fresh k] at hq
        cases hq
    -- the three kinds of names
    have kinds : ∀ a' k rw_ gs, fupds m.get (zipUps (renOut m.next F) F as ++ newUps (renOut m.next F) m.next 0 ns) a' k = .lv rw_ gs →
        (∃ gs0, a' = m.next ∧ ns.getD k .dead = .lv rw_ gs0 ∧ gs = renSegs (renOut m.next F) gs0) ∨
        (∃ j gs0, a' ≠ m.next ∧ F[j]? = some (a', k) ∧ as.getD j .dead = .lv rw_ gs0 ∧ gs = renSegs (renOut m.next F) gs0) ∨
        (a' ≠ m.next ∧ (a', k) ∉ F ∧ m.get a' k = .lv rw_ gs) := by
      intro a' k rw_ gs hg
      rw [hget] at hg
      split at hg
      · rename_i hc
        obtain ⟨gs0, g1, g2⟩ := renBlk_live hg
        exact .inl ⟨gs0, hc.1, g1, g2⟩
      · rename_i hc
        split at hg
        · rename_i j hj
          obtain ⟨gs0, g1, g2⟩ := renBlk_live hg
          refine .inr (.inl ⟨j, gs0, ?_, idx_lt hj, g1, g2⟩)
          rintro rfl
          exact hnF k (List.mem_of_getElem? (idx_lt hj))
        · rename_i hj
          refine .inr (.inr ⟨?_, ?_, hg⟩)
          · rintro rfl
            rw [hnew] at hg
            cases hg
          · intro hmem
            obtain ⟨j, hj'⟩ := idx_mem hmem
            rw [hj] at hj'
            cases hj'
    have hrhoF : ∀ j a' k, F[j]? = some (a', k) → ρ' 0 j = ρ a' k := by
      intro j a' k hj
      rw [h0, rhoIn]
      simp [hj]
    have hrho2 : ∀ a' k, a' ≠ m.next → ρ2 a' k = ρ a' k := fun a' k h => by simp [ρ2, h]
    have hownw : ∀ b, (ownc b ∨ w.heap.size ≤ b) → own b := fun b h => h.elim (hownc b) (c.own b)
    -- a live name that is not handed in lies elsewhere
    have hother : ∀ a' k rw_ gs q, (a', k) ∉ F → m.get a' k = .lv rw_ gs → ρ a' k = some q → ¬ (ownc q.1 ∨ w.heap.size ≤ q.1) := by
      intro a' k rw_ gs q hmem hg hq
      rintro (⟨p, hp, gs', q', g1, g2, g3⟩ | hge)
      · cases rw_ with
        | true =>
          have := c.mem.apart _ _ _ _ _ _ _ _ g1 hg g2 hq g3
          exact hmem (by rw [← this.1, ← this.2]; exact hp)
        | false =>
          obtain ⟨q2, fz, f1, _, _, f4⟩ := c.mem.holds _ _ _ _ hg
          rw [hq] at f1
          obtain rfl := Option.some.inj f1
          exact f4 rfl (hownc _ ⟨p, hp, gs', q', g1, g2, g3⟩)
      · have := hlt hq
        omega
    have hMem : MemRel ρ2 own (fupds m.get (zipUps (renOut m.next F) F as ++ newUps (renOut m.next F) m.next 0 ns)) w' := by
      refine ⟨fun a' k rw_ gs hg => ?_, fun a1 k1 a2 k2 g1 g2 p1 p2 x1 x2 y1 y2 e => ?_, fun a' k p hp => ?_, fun a' k rw_ gs ha hg => ?_⟩
      · rcases kinds a' k rw_ gs hg with ⟨gs0, rfl, f1, rfl⟩ | ⟨j, gs0, hne, hj, f1, rfl⟩ | ⟨hne, hmem, f1⟩
        · obtain ⟨q, fz, e1, e2, e3, e4⟩ := hM'.holds 1 k rw_ gs0 (by simpa [getOut] using f1)
          have hrw : rw_ = true := hM'.rws 1 k rw_ gs0 (by omega) (by simpa [getOut] using f1)
          subst hrw
          exact ⟨q, fz, by simp [ρ2, e1], e2.ren hto, fun _ => ⟨(e3 rfl).1, hownw _ (e3 rfl).2⟩, fun h => by cases h⟩
        · obtain ⟨q, fz, e1, e2, e3, e4⟩ := hM'.holds 0 j rw_ gs0 (by simpa [getOut] using f1)
          have e1' := e1
          rw [hrhoF j a' k hj] at e1'
          refine ⟨q, fz, by rw [hrho2 _ _ hne, e1'], e2.ren hto, fun h => ⟨(e3 h).1, hownw _ (e3 h).2⟩, fun h => ?_⟩
          obtain ⟨rw1, gs1, f2⟩ := hFlive _ (List.mem_of_getElem? hj)
          obtain ⟨q2, fz2, f3, _, _, f4⟩ := c.mem.holds _ _ _ _ f2
          have f3' : ρ a' k = some q2 := f3
          rw [e1'] at f3'
          obtain rfl := Option.some.inj f3'
          cases rw1 with
          | true => exact absurd (.inl ⟨(a', k), List.mem_of_getElem? hj, gs1, q, f2, e1', rfl⟩) (e4 h)
          | false => exact f4 rfl
        · obtain ⟨q, fz, e1, e2, e3, e4⟩ := c.mem.holds a' k rw_ gs f1
          have hno := hother a' k rw_ gs q hmem f1 e1
          exact ⟨q, fz, hle _ _ _ e1, (e2.world (hkept.same _ (hlt e1) (fun h => hno (.inl h)))).mono hle, e3, e4⟩
      · rcases kinds a1 k1 true g1 x1 with ⟨gs1, rfl, f1, _⟩ | ⟨j1, gs1, hne1, hj1, f1, _⟩ | ⟨hne1, hmem1, f1⟩ <;>
          rcases kinds a2 k2 true g2 x2 with ⟨gs2, rfl, f2, _⟩ | ⟨j2, gs2, hne2, hj2, f2, _⟩ | ⟨hne2, hmem2, f2⟩
        · simp [ρ2] at y1 y2
          exact ⟨rfl, (hM'.apart 1 k1 1 k2 gs1 gs2 p1 p2 (by simpa [getOut] using f1) (by simpa [getOut] using f2) y1 y2 e).2⟩
        · simp [ρ2] at y1
          rw [hrho2 _ _ hne2, ← hrhoF j2 a2 k2 hj2] at y2
          have := (hM'.apart 1 k1 0 j2 gs1 gs2 p1 p2 (by simpa [getOut] using f1) (by simpa [getOut] using f2) y1 y2 e).1
          omega
        · simp [ρ2] at y1
          rw [hrho2 _ _ hne2] at y2
          obtain ⟨q, fz, e1, e2, e3, e4⟩ := hM'.holds 1 k1 true gs1 (by simpa [getOut] using f1)
          rw [y1] at e1
          obtain rfl := Option.some.inj e1
          exact absurd (e ▸ (e3 rfl).2) (hother _ _ _ _ _ hmem2 f2 y2)
        · simp [ρ2] at y2
          rw [hrho2 _ _ hne1, ← hrhoF j1 a1 k1 hj1] at y1
          have := (hM'.apart 0 j1 1 k2 gs1 gs2 p1 p2 (by simpa [getOut] using f1) (by simpa [getOut] using f2) y1 y2 e).1
          omega
        · rw [hrho2 _ _ hne1, ← hrhoF j1 a1 k1 hj1] at y1
          rw [hrho2 _ _ hne2, ← hrhoF j2 a2 k2 hj2] at y2
          have := (hM'.apart 0 j1 0 j2 gs1 gs2 p1 p2 (by simpa [getOut] using f1) (by simpa [getOut] using f2) y1 y2 e).2
          subst this
          rw [hj1] at hj2
          simp at hj2
          exact hj2
        · rw [hrho2 _ _ hne1, ← hrhoF j1 a1 k1 hj1] at y1
          rw [hrho2 _ _ hne2] at y2
          obtain ⟨q, fz, e1, e2, e3, e4⟩ := hM'.holds 0 j1 true gs1 (by simpa [getOut] using f1)
          rw [y1] at e1
          obtain rfl := Option.some.inj e1
          exact absurd (e ▸ (e3 rfl).2) (hother _ _ _ _ _ hmem2 f2 y2)
        · simp [ρ2] at y2
          rw [hrho2 _ _ hne1] at y1
          obtain ⟨q, fz, e1, e2, e3, e4⟩ := hM'.holds 1 k2 true gs2 (by simpa [getOut] using f2)
          rw [y2] at e1
          obtain rfl := Option.some.inj e1
          exact absurd (e.symm ▸ (e3 rfl).2) (hother _ _ _ _ _ hmem1 f1 y1)
        · rw [hrho2 _ _ hne1] at y1
          rw [hrho2 _ _ hne2, ← hrhoF j2 a2 k2 hj2] at y2
          obtain ⟨q, fz, e1, e2, e3, e4⟩ := hM'.holds 0 j2 true gs2 (by simpa [getOut] using f2)
          rw [y2] at e1
          obtain rfl := Option.some.inj e1
          exact absurd (e.symm ▸ (e3 rfl).2) (hother _ _ _ _ _ hmem1 f1 y1)
        · rw [hrho2 _ _ hne1] at y1
          rw [hrho2 _ _ hne2] at y2
          exact c.mem.apart _ _ _ _ _ _ _ _ f1 f2 y1 y2 e
      · simp only [ρ2] at hp
        split at hp
        · exact hM'.there 1 k p hp
        · obtain ⟨arr, T, fz, e1, e2⟩ := c.mem.there a' k p hp
          obtain ⟨arr', T', fz', e3, e4⟩ := hkept.sizes _ _ _ _ e1
          exact ⟨arr', T', fz', e3, e4.trans e2⟩
      · rcases kinds a' k rw_ gs hg with ⟨gs0, rfl, f1, _⟩ | ⟨j, gs0, hne, hj, f1, _⟩ | ⟨hne, hmem, f1⟩
        · exact hM'.rws 1 k rw_ gs0 (by omega) (by simpa [getOut] using f1)
        · cases rw_ with
          | true => rfl
          | false =>
            obtain ⟨q, fz, e1, e2, e3, e4⟩ := hM'.holds 0 j false gs0 (by simpa [getOut] using f1)
            rw [hrhoF j a' k hj] at e1
            obtain ⟨rw1, gs1, f2⟩ := hFlive _ (List.mem_of_getElem? hj)
            have hr1 : rw1 = true := c.mem.rws a' k rw1 gs1 ha f2
            subst hr1
            exact absurd (.inl ⟨(a', k), List.mem_of_getElem? hj, gs1, q, f2, e1, rfl⟩) (e4 rfl)
        · exact c.mem.rws a' k rw_ gs ha f1
    refine hn _ _ _ val w' ρ2 hR ?_ ⟨hle, hrho2, RelV.ren hto hr, hMem, hkept.mono (fun b _ h => hownc b h)⟩
    intro x hx hx0
    rcases List.mem_append.1 hx with hx | hx
    · have : ∀ {F : List Id} {as : List Blk}, x ∈ zipUps (renOut m.next F) F as → True := fun _ => trivial
      have hz : ∀ (G : List Id) (bs : List Blk), x ∈ zipUps (renOut m.next F) G bs → x.1 ∈ G := by
        intro G
        induction G with
        | nil => intro bs h; cases bs <;> simp [zipUps] at h
        | cons p r ih =>
          intro bs h
          cases bs with
          | nil => simp [zipUps] at h
          | cons b bs =>
            simp only [zipUps, List.mem_cons] at h
            rcases h with rfl | h
            · exact List.mem_cons_self ..
            · exact List.mem_cons_of_mem _ (ih bs h)
      obtain ⟨rw_, gs, hg⟩ := hFlive _ (hz F as hx)
      rw [hx0] at hg
      exact Mem.live_lt hg
    · have hz : ∀ (bs : List Blk) (j : Nat), x ∈ newUps (renOut m.next F) m.next j bs → x.1.1 = m.next := by
        intro bs
        induction bs with
        | nil => intro j h; simp [newUps] at h
        | cons b bs ih =>
          intro j h
          simp only [newUps, List.mem_cons] at h
          rcases h with rfl | h
          · rfl
          · exact ih _ h
      have := hz ns 0 hx
      rw [hx0] at this
      exact absurd this.symm c.nz

end
end Go.Abs

/-
All operations under one law; the outcome of an operation is one, and hangs on its operands and on the memory that it reads alone.
-/
namespace Go.Abs
open Go
set_option linter.unusedVariables false
set_option linter.unusedSectionVars false
set_option linter.unusedSimpArgs false
set_option linter.defProp false

section
variable {P : Program} {ρ : Rho} {own : Nat → Prop} {env : Env} {m : Mem} {a : Act} {w : World}

theorem capsOf_sound (c : RelE ρ env a) : ∀ {xs : List Operand} {l : List (Nat × Nat × Nat × Nat)}, capsOf env xs = some l → RelCaps ρ l (xs.map a.eval)
  | [], l, h => by simp [capsOf] at h; subst h; rfl
  | x :: r, l, h => by
    simp only [capsOf] at h
    split at h
    · rename_i a' k st off l' e1 e2
      simp at h
      subst h
      have hx := aev_sound c x
      rw [e1] at hx
      simp only [RelV, RelAt] at hx
      obtain ⟨p, hp, hv⟩ := hx
      exact ⟨p, r.map a.eval, hp, by simp [hv], capsOf_sound c e2⟩
    · simp at h

theorem run_call {o : Oper} {cl : Call} {f : Operand} {fid : FuncId} {cs : Array Value} (ho : o.op = .call cl) (hf : cl.callee = .value f) (hv : a.eval f = .func (.func fid) #[] cs) (hok : Okf P fid) :
    (execOp a.eval o).run P w = .ok (.enter fid (cl.args.map a.eval ++ cs)) w := by
  obtain ⟨fn, body, h1, h2, h3⟩ := hok
  have h4 : (fn.name == "runtime.NumGoroutine") = false := h3
  simp only [execOp, ho, resolve, hf, hv, Deferred.ofValue, Sem.run_bind, Sem.run_pure, Result.andThen_ok, invoke, callFunc, Array.empty_append]
  simp only [program, Sem.run, Result.andThen_ok, h1, h4, Bool.false_eq_true, if_false, h2, Option.isNone_some]
  rfl

theorem two_args {env : Env} {args : Array Operand} {u v : AV} (h : args.toList.map (aev env) = [u, v]) : ∃ p q, args = #[p, q] ∧ aev env p = u ∧ aev env q = v := by
  cases hl : args.toList with
  | nil => simp [hl] at h
  | cons p l =>
    cases l with
    | nil => simp [hl] at h
    | cons q l =>
      cases l with
      | nil => rw [hl] at h; simp at h; exact ⟨p, q, by apply Array.toList_inj.1; simpa using hl, h.1, h.2⟩
      | cons u l => simp [hl] at h

theorem aop_sound {o : Oper} {K : AV → Ups → List Id → Prop} (c : Ctx ρ own env m a w) (hk : aop P o.op env m K) : OpK P ρ own m a w o K := by
  cases ho : o.op with
  | move x => rw [ho] at hk; exact (OpOk.pure (val := a.eval x) c (by simp [execOp, ho]) (aev_sound c.env x)).toK hk
  | assign x => rw [ho] at hk; exact (OpOk.pure (val := a.eval x) c (by simp [execOp, ho]) (aev_sound c.env x)).toK hk
  | pick c' x y =>
    rw [ho] at hk
    simp only [aop] at hk
    split at hk
    · rename_i g e; exact (ok_pick c ho e).toK hk
    · exact hk.elim
  | alloc t =>
    rw [ho] at hk
    simp only [aop] at hk
    split at hk
    · rename_i gs e; exact (ok_alloc c ho e).toK hk
    · exact hk.elim
  | box t x =>
    rw [ho] at hk
    simp only [aop] at hk
    split at hk
    · rename_i gs e; exact (ok_box c ho e).toK hk
    · exact hk.elim
  | build t parts =>
    rw [ho] at hk
    simp only [aop] at hk
    obtain ⟨gs, h1, h2⟩ := ok_build c ho hk
    exact h2.toK h1
  | buildSlice t len parts =>
    rw [ho] at hk
    simp only [aop] at hk
    obtain ⟨gs, esz, h1, h2⟩ := ok_buildSlice c ho hk
    exact h2.toK h1
  | load t x =>
    rw [ho] at hk
    simp only [aop] at hk
    obtain ⟨v, rd, h1, h2, _⟩ := ok_load c ho hk
    exact h2.toK h1
  | store t x y =>
    rw [ho] at hk
    simp only [aop] at hk
    obtain ⟨ups, rd, h1, h2⟩ := ok_store c ho hk
    exact h2.toK h1
  | nilCheck x =>
    rw [ho] at hk
    simp only [aop] at hk
    have hx := aev_sound c.env x
    split at hk
    · rename_i a' k st off e
      rw [e] at hx
      simp only [RelV, RelAt] at hx
      obtain ⟨p, hp, hv⟩ := hx
      exact (OpOk.pure (val := a.eval x) c (by simp [execOp, ho, hv]) (by simp only [RelV, RelAt]; exact ⟨p, hp, hv⟩)).toK hk
    · rename_i f cs e
      rw [e] at hx
      simp only [RelV, RelAt] at hx
      obtain ⟨l, hv, hr⟩ := hx
      exact (OpOk.pure (val := a.eval x) c (by simp [execOp, ho, hv]) (by simp only [RelV, RelAt]; exact ⟨l, hv, hr⟩)).toK hk
    · exact hk.elim
  | binOp op t x y t' =>
    rw [ho] at hk
    simp only [aop] at hk
    obtain ⟨v, h1, h2⟩ := ok_binOp c ho hk
    exact h2.toK h1
  | unOp op t x =>
    rw [ho] at hk
    simp only [aop] at hk
    obtain ⟨v, h1, h2⟩ := ok_unOp c ho hk
    exact h2.toK h1
  | convert s d x =>
    rw [ho] at hk
    simp only [aop] at hk
    obtain ⟨v, h1, h2⟩ := ok_convert c ho hk
    exact h2.toK h1
  | makeFunc fn first caps =>
    rw [ho] at hk
    cases fn with
    | func f =>
      simp only [aop] at hk
      split at hk
      · rename_i hf
        split at hk
        · rename_i l e
          have h2 := capsOf_sound c.env e
          have hf' : first = #[] := by simpa using hf
          exact (OpOk.pure (val := .func (.func f) #[] (caps.map a.eval)) c (by simp [execOp, ho, hf', Instr.makeFunc])
            (by simp only [RelV, RelAt]; exact ⟨caps.toList.map a.eval, by congr 1; apply Array.toList_inj.1; simp, h2⟩)).toK hk
        · exact hk.elim
      · exact hk.elim
    | _ => simp only [aop] at hk
  | makeSlice t x y =>
    rw [ho] at hk
    simp only [aop] at hk
    obtain ⟨v, ups, rd, h1, h2⟩ := ok_makeSlice c ho hk
    exact h2.toK h1
  | slice t x lo hi mx =>
    rw [ho] at hk
    cases mx with
    | none =>
      simp only [aop, asliceV] at hk
      split at hk
      · rename_i e
        obtain ⟨v, h1, h2⟩ := ok_sliceP c ho e hk
        exact h2.toK h1
      · obtain ⟨v, h1, h2⟩ := ok_slice c ho hk
        exact h2.toK h1
    | some _ => simp only [aop] at hk
  | fieldAddr t x f =>
    rw [ho] at hk
    simp only [aop] at hk
    obtain ⟨v, h1, h2⟩ := ok_fieldAddr c ho hk
    exact h2.toK h1
  | indexAddr t x i =>
    rw [ho] at hk
    simp only [aop] at hk
    obtain ⟨v, h1, h2⟩ := ok_indexAddr c ho hk
    exact h2.toK h1
  | index t x i =>
    rw [ho] at hk
    simp only [aop] at hk
    obtain ⟨v, h1, h2⟩ := ok_index c ho hk
    exact h2.toK h1
  | extract x j =>
    rw [ho] at hk
    simp only [aop] at hk
    split at hk
    · rename_i vs e
      split at hk
      · rename_i v e2; exact (ok_extract c ho e e2).toK hk
      · exact hk.elim
    · exact hk.elim
  | call cl =>
    rw [ho] at hk
    simp only [aop] at hk
    split at hk
    · rename_i f hf
      unfold acallee at hk
      split at hk
      · rename_i fid caps e
        have hx := aev_sound c.env f
        rw [e] at hx
        simp only [RelV, RelAt] at hx
        obtain ⟨cs, hv, hr⟩ := hx
        refine ok_calls (vals := cl.args.toList.map a.eval ++ cs) c ((RelVs.args c.env _).append hr.vals) (fun hok => ?_) hk
        rw [run_call ho hf hv hok]
        congr 2
        apply Array.toList_inj.1
        simp
      · exact hk.elim
    · rename_i b hb
      unfold abuiltin at hk
      obtain ⟨callee, args, ats⟩ := cl
      simp only at hb hk
      subst hb
      split at hk
      · rename_i t x e1 e2
        have e1' : ats = #[t] := by apply Array.toList_inj.1; simpa using e1
        subst e1'
        obtain ⟨y, l, hy⟩ : ∃ y l, args.toList = y :: l := by
          cases hl : args.toList with
          | nil => simp [hl] at e2
          | cons y l => exact ⟨y, l, rfl⟩
        have hl0 : l = [] := by rw [hy] at e2; simpa using (List.cons.inj e2).2
        subst hl0
        have hargs : args = #[y] := by apply Array.toList_inj.1; simpa using hy
        subst hargs
        have : aev env y = x := by simpa using e2
        subst this
        obtain ⟨v, h1, h2⟩ := ok_len (args := #[y]) c ho hk
        exact h2.toK h1
      · rename_i t t' s x e1 e2
        obtain ⟨rfl, hk⟩ := hk
        have e1' : ats = #[t, t] := by apply Array.toList_inj.1; simpa using e1
        subst e1'
        obtain ⟨y, z, hy⟩ : ∃ y z, args.toList = [y, z] := by
          cases hl : args.toList with
          | nil => simp [hl] at e2
          | cons y l =>
            cases l with
            | nil => simp [hl] at e2
            | cons z l =>
              cases l with
              | nil => exact ⟨y, z, rfl⟩
              | cons u l => simp [hl] at e2
        have hargs : args = #[y, z] := by apply Array.toList_inj.1; simpa using hy
        subst hargs
        simp at e2
        obtain ⟨rfl, rfl⟩ := e2
        obtain ⟨v, ups, rd, h1, h2⟩ := ok_append c ho hk
        exact h2.toK h1
      · rename_i t t' k x k' y e1 e2
        obtain ⟨rfl, hk⟩ := hk
        obtain ⟨p, q, rfl, ep, eq⟩ := two_args e2
        have hx := aev_sound c.env p
        have hy := aev_sound c.env q
        rw [ep] at hx
        rw [eq] at hy
        simp only [RelV] at hx hy
        refine (OpOk.pure (val := .int k (max x y)) c ?_ (by simp [RelV])).toK hk
        simp only [execOp, ho, resolve, Sem.run_bind, Sem.run_pure, Result.andThen_ok, invoke, builtin, List.map_toArray, List.map_cons, List.map_nil, hx, hy]
        simp [Builtin.max_, Builtin.max2, Int.max_def]
        split <;> split <;> omega
      · rename_i t t' k x k' y e1 e2
        obtain ⟨rfl, hk⟩ := hk
        obtain ⟨p, q, rfl, ep, eq⟩ := two_args e2
        have hx := aev_sound c.env p
        have hy := aev_sound c.env q
        rw [ep] at hx
        rw [eq] at hy
        simp only [RelV] at hx hy
        refine (OpOk.pure (val := .int k (min x y)) c ?_ (by simp [RelV])).toK hk
        simp only [execOp, ho, resolve, Sem.run_bind, Sem.run_pure, Result.andThen_ok, invoke, builtin, List.map_toArray, List.map_cons, List.map_nil, hx, hy]
        simp [Builtin.min_, Builtin.min2, Int.min_def]
        split <;> split <;> omega
      · rename_i t t' x y e1 e2
        have e1' : ats = #[t, t'] := by apply Array.toList_inj.1; simpa using e1
        subst e1'
        obtain ⟨p, q, rfl, ep, eq⟩ := two_args e2
        subst ep
        subst eq
        obtain ⟨v, ups, rd, h1, h2⟩ := ok_copy c ho hk
        exact h2.toK h1
      · exact hk.elim
    · exact hk.elim
  | _ => rw [ho] at hk; simp only [aop] at hk

end
end Go.Abs

/-
One outcome: each operation of the abstract words comes to one value and one list of changes, which hang on its operands and on the memory that it reads alone.
-/
namespace Go.Abs
open Go
set_option linter.unusedVariables false
set_option linter.unusedSectionVars false
set_option linter.unusedSimpArgs false
set_option linter.defProp false

abbrev X3 (v : AV) (ups : Ups) (rd : List Id) : AV → Ups → List Id → Prop := fun v' ups' rd' => v' = v ∧ ups' = ups ∧ rd' = rd

theorem ldSc_det {gs : Segs} {st off : Nat} {K : AV → Prop} (h : ldSc gs st off K) : ∃ v, K v ∧ ldSc gs st off (· = v) := by
  unfold ldSc at h ⊢
  split at h
  · exact ⟨_, h.2, h.1, rfl⟩
  · exact ⟨_, h.2, h.1, rfl⟩
  · exact ⟨_, h.2, h.1, rfl⟩
  · exact h.elim

theorem ldMulti_det {gs : Segs} {st off sz : Nat} {K : AV → Prop} (h : ldMulti gs st off sz K) : ∃ v, K v ∧ ldMulti gs st off sz (· = v) := by
  unfold ldMulti at h ⊢
  split at h
  · exact ⟨_, h, rfl⟩
  · exact h.elim

theorem ldAg_det {gs : Segs} {st off sz : Nat} {K : AV → Prop} (h : ldAg gs st off sz K) : ∃ v, K v ∧ ldAg gs st off sz (· = v) := by
  unfold ldAg at h ⊢
  split at h
  · split at h
    · rename_i hc; exact ⟨_, h.2, by rw [if_pos hc]; exact ⟨h.1, rfl⟩⟩
    · rename_i hc
      split at h
      · rename_i hd; exact ⟨_, h.2, by rw [if_neg hc, if_pos hd]; exact ⟨h.1, rfl⟩⟩
      · rename_i hd
        obtain ⟨v, h1, h2⟩ := ldMulti_det h
        exact ⟨v, h1, by rw [if_neg hc, if_neg hd]; exact h2⟩
  · split at h
    · rename_i hc; exact ⟨_, h.2, by rw [if_pos hc]; exact ⟨h.1, rfl⟩⟩
    · rename_i hc
      split at h
      · rename_i hd; exact ⟨_, h.2, by rw [if_neg hc, if_pos hd]; exact ⟨h.1, rfl⟩⟩
      · rename_i hd
        obtain ⟨v, h1, h2⟩ := ldMulti_det h
        exact ⟨v, h1, by rw [if_neg hc, if_neg hd]; exact h2⟩
  · exact ldMulti_det h
  · exact h.elim

theorem splice_mono {g g' : Sg} {off : Nat} {K K' : Sg → Prop} (hk : ∀ x, K x → K' x) (h : splice g off g' K) : splice g off g' K' := by
  unfold splice at h ⊢
  split at h
  · obtain ⟨h0, h⟩ := h
    refine ⟨h0, ?_⟩
    split at h
    · rename_i hc; rw [if_pos hc]; exact ⟨h.1, hk _ h.2⟩
    · rename_i hc; rw [if_neg hc]; exact ⟨h.1, hk _ h.2⟩
  · split at h
    · rename_i hc; rw [if_pos hc]; exact ⟨h.1, hk _ h.2⟩
    · rename_i hc; rw [if_neg hc]; exact ⟨h.1, hk _ h.2⟩
  · split at h
    · rename_i hc; rw [if_pos hc]; exact ⟨h.1, hk _ h.2⟩
    · rename_i hc; rw [if_neg hc]; exact ⟨h.1, hk _ h.2⟩
  · exact h.elim

theorem splice_det {g g' : Sg} {off : Nat} {K : Sg → Prop} (h : splice g off g' K) : ∃ g2, K g2 ∧ splice g off g' (· = g2) := by
  unfold splice at h ⊢
  split at h
  · obtain ⟨h0, h⟩ := h
    split at h
    · rename_i hc; exact ⟨_, h.2, h0, by rw [if_pos hc]; exact ⟨h.1, rfl⟩⟩
    · rename_i hc; exact ⟨_, h.2, h0, by rw [if_neg hc]; exact ⟨h.1, rfl⟩⟩
  · split at h
    · rename_i hc; exact ⟨_, h.2, by rw [if_pos hc]; exact ⟨h.1, rfl⟩⟩
    · rename_i hc; exact ⟨_, h.2, by rw [if_neg hc]; exact ⟨h.1, rfl⟩⟩
  · split at h
    · rename_i hc; exact ⟨_, h.2, by rw [if_pos hc]; exact ⟨h.1, rfl⟩⟩
    · rename_i hc; exact ⟨_, h.2, by rw [if_neg hc]; exact ⟨h.1, rfl⟩⟩
  · exact h.elim

theorem stMulti_det {st : Nat} : ∀ {vs : Segs} {gs : Segs} {K : Segs → Prop}, stMulti gs st vs K → ∃ x, K x ∧ stMulti gs st vs (· = x)
  | [], gs, K, h => ⟨gs, h, rfl⟩
  | (s, g') :: r, gs, K, h => by
    simp only [stMulti] at h ⊢
    split at h
    · obtain ⟨h0, h⟩ := h
      obtain ⟨g2, h1, h2⟩ := splice_det h
      obtain ⟨x, hx, h3⟩ := stMulti_det h1
      exact ⟨x, hx, h0, splice_mono (fun y hy => by subst hy; exact h3) h2⟩
    · exact h.elim

theorem stSegs_det {gs : Segs} {st off : Nat} {vs : Segs} {K : Segs → Prop} (h : stSegs gs st off vs K) : ∃ x, K x ∧ stSegs gs st off vs (· = x) := by
  unfold stSegs at h ⊢
  split at h
  · split at h
    · obtain ⟨g2, h1, h2⟩ := splice_det h
      exact ⟨_, h1, splice_mono (fun y hy => by subst hy; rfl) h2⟩
    · exact h.elim
  · obtain ⟨h0, h1, h⟩ := h
    obtain ⟨x, hx, h3⟩ := stMulti_det h
    exact ⟨x, hx, h0, h1, h3⟩

theorem stMulti_mono {st : Nat} {K K' : Segs → Prop} (hk : ∀ x, K x → K' x) : ∀ {vs : Segs} {gs : Segs}, stMulti gs st vs K → stMulti gs st vs K'
  | [], gs, h => hk _ h
  | (s, g') :: r, gs, h => by
    simp only [stMulti] at h ⊢
    split at h
    · exact ⟨h.1, splice_mono (fun y hy => stMulti_mono hk hy) h.2⟩
    · exact h.elim

theorem stSegs_mono {gs : Segs} {st off : Nat} {vs : Segs} {K K' : Segs → Prop} (hk : ∀ x, K x → K' x) (h : stSegs gs st off vs K) : stSegs gs st off vs K' := by
  unfold stSegs at h ⊢
  split at h
  · split at h
    · exact splice_mono (fun y hy => hk _ hy) h
    · exact h.elim
  · exact ⟨h.1, h.2.1, stMulti_mono hk h.2.2⟩

theorem aparts_det {P : Program} {pl : Nat → Option (Nat × Nat × Nat)} {env : Env} : ∀ {l : List (Nat × Operand)} {gs : Segs} {K : Segs → Prop}, aparts P pl env l gs K → ∃ x, K x ∧ aparts P pl env l gs (· = x)
  | [], gs, K, h => ⟨gs, h, rfl⟩
  | (j, x) :: r, gs, K, h => by
    simp only [aparts] at h ⊢
    split at h
    · obtain ⟨h0, h⟩ := h
      obtain ⟨g2, h1, h2⟩ := stSegs_det h
      obtain ⟨y, hy, h3⟩ := aparts_det h1
      exact ⟨y, hy, h0, stSegs_mono (fun z hz => by subst hz; exact h3) h2⟩
    · exact h.elim

theorem alo_det {lo : Option AV} {hi : Nat} {K : Nat → Prop} (h : asliceLo lo hi K) : ∃ x, K x ∧ asliceLo lo hi (· = x) := by
  unfold asliceLo at h ⊢
  split at h
  · exact ⟨_, h, rfl⟩
  · exact ⟨_, h.2.2, h.1, h.2.1, rfl⟩
  · exact h.elim

theorem ahi_det {lo : Option AV} {hi : Nat} {K : Nat → Prop} (h : asliceHi lo hi K) : ∃ x, K x ∧ asliceHi lo hi (· = x) := by
  unfold asliceHi at h ⊢
  split at h
  · exact ⟨_, h, rfl⟩
  · exact ⟨_, h.2.2, h.1, h.2.1, rfl⟩
  · exact h.elim

theorem alo_mono {lo : Option AV} {hi : Nat} {K K' : Nat → Prop} (hk : ∀ x, K x → K' x) (h : asliceLo lo hi K) : asliceLo lo hi K' := by
  unfold asliceLo at h ⊢
  split at h
  · exact hk _ h
  · exact ⟨h.1, h.2.1, hk _ h.2.2⟩
  · exact h.elim

theorem ahi_mono {lo : Option AV} {hi : Nat} {K K' : Nat → Prop} (hk : ∀ x, K x → K' x) (h : asliceHi lo hi K) : asliceHi lo hi K' := by
  unfold asliceHi at h ⊢
  split at h
  · exact hk _ h
  · exact ⟨h.1, h.2.1, hk _ h.2.2⟩
  · exact h.elim

theorem aslice_det {P : Program} {t : TypeId} {x : AV} {lo hi : Option AV} {K : AV → Prop} (h : aslice P t x lo hi K) : ∃ v, K v ∧ aslice P t x lo hi (· = v) := by
  unfold aslice at h ⊢
  split at h
  · obtain ⟨h0, h1, h⟩ := h
    obtain ⟨a, h2, h3⟩ := ahi_det h
    obtain ⟨b, h4, h5⟩ := alo_det h2
    exact ⟨_, h4, h0, h1, ahi_mono (fun y hy => by subst hy; exact alo_mono (fun z hz => by subst hz; rfl) h5) h3⟩
  · obtain ⟨a, h2, h3⟩ := ahi_det h
    obtain ⟨b, h4, h5⟩ := alo_det h2
    exact ⟨_, h4, ahi_mono (fun y hy => by subst hy; exact alo_mono (fun z hz => by subst hz; rfl) h5) h3⟩
  · exact h.elim

theorem intBin_det {op : BinOp} {k : IntKind} {x y : Int} {K : AV → Prop} (h : intBin op k x y K) : ∃ v, K v ∧ intBin op k x y (· = v) := by
  cases op <;> simp only [intBin] at h ⊢ <;> first
    | exact ⟨_, h, rfl⟩
    | exact ⟨_, h.2, h.1, rfl⟩

theorem intShift_det {op : BinOp} {k : IntKind} {x y : Int} {K : AV → Prop} (h : intShift op k x y K) : ∃ v, K v ∧ intShift op k x y (· = v) := by
  cases op <;> simp only [intShift] at h ⊢ <;> exact ⟨_, h.2, h.1, rfl⟩

theorem abin_det {P : Program} {op : BinOp} {t : TypeId} {x y : AV} {K : AV → Prop} (h : abin P op t x y K) : ∃ v, K v ∧ abin P op t x y (· = v) := by
  unfold abin at h ⊢
  split at h
  · split at h
    · rename_i hc
      obtain ⟨v, h1, h2⟩ := intShift_det h
      exact ⟨v, h1, by rw [if_pos hc]; exact h2⟩
    · rename_i hc
      obtain ⟨h0, h⟩ := h
      obtain ⟨v, h1, h2⟩ := intBin_det h
      exact ⟨v, h1, by rw [if_neg hc]; exact ⟨h0, h2⟩⟩
  · split at h
    · exact ⟨_, h.2, h.1, rfl⟩
    · exact ⟨_, h.2, h.1, rfl⟩
    · exact h.elim
  · split at h
    · rename_i hr
      exact ⟨_, h.2, h.1, rfl⟩
    · rename_i hr
      exact ⟨_, h.2, h.1, rfl⟩
    · exact h.elim
  · exact h.elim

theorem aun_det {op : UnOp} {x : AV} {K : AV → Prop} (h : aun op x K) : ∃ v, K v ∧ aun op x (· = v) := by
  unfold aun at h ⊢
  split at h
  · exact ⟨_, h, rfl⟩
  · exact ⟨_, h, rfl⟩
  · exact h.elim

theorem aconvert_det {P : Program} {s d : TypeId} {x : AV} {K : AV → Prop} (h : aconvert P s d x K) : ∃ v, K v ∧ aconvert P s d x (· = v) := by
  unfold aconvert at h ⊢
  split at h
  · exact ⟨_, h, rfl⟩
  · exact h.elim

theorem afieldAddr_det {P : Program} {t : TypeId} {x : AV} {f : Nat} {K : AV → Prop} (h : afieldAddr P t x f K) : ∃ v, K v ∧ afieldAddr P t x f (· = v) := by
  unfold afieldAddr at h ⊢
  split at h
  · split at h
    · exact ⟨_, h.2, h.1, rfl⟩
    · exact h.elim
  · exact h.elim

theorem aindexAddr_det {P : Program} {t : TypeId} {x i : AV} {K : AV → Prop} (h : aindexAddr P t x i K) : ∃ v, K v ∧ aindexAddr P t x i (· = v) := by
  unfold aindexAddr at h ⊢
  split at h
  · split at h
    · exact ⟨_, h.2.2.2, h.1, h.2.1, h.2.2.1, rfl⟩
    · exact h.elim
  · split at h
    · exact ⟨_, h.2.2.2.2, h.1, h.2.1, h.2.2.1, h.2.2.2.1, rfl⟩
    · exact h.elim
  · exact h.elim

theorem aindex_det {P : Program} {t : TypeId} {x i : AV} {K : AV → Prop} (h : aindex P t x i K) : ∃ v, K v ∧ aindex P t x i (· = v) := by
  unfold aindex at h ⊢
  split at h
  · split at h
    · obtain ⟨h0, h1, h2, h⟩ := h
      split at h
      · obtain ⟨v, h3, h4⟩ := ldAg_det h; exact ⟨v, h3, h0, h1, h2, h4⟩
      · obtain ⟨v, h3, h4⟩ := ldAg_det h; exact ⟨v, h3, h0, h1, h2, h4⟩
      · exact h.elim
      · rename_i e1 e2 e3
        obtain ⟨v, h3, h4⟩ := ldSc_det h.2
        exact ⟨v, h3, h0, h1, h2, h.1, h4⟩
    · exact h.elim
  · split at h
    · exact ⟨_, h.2.2, h.1, h.2.1, rfl⟩
    · exact h.elim
  · exact h.elim

theorem alen_det {P : Program} {t : TypeId} {x : AV} {K : AV → Prop} (h : alen P t x K) : ∃ v, K v ∧ alen P t x (· = v) := by
  unfold alen at h ⊢
  split at h
  · exact ⟨_, h, rfl⟩
  · exact ⟨_, h, rfl⟩
  · exact ⟨_, h, rfl⟩
  · exact ⟨_, h, rfl⟩
  · exact ⟨_, h, rfl⟩
  · exact h.elim

theorem aload_det {P : Program} {t : TypeId} {env : Env} {m : Mem} {x : Operand} {K : AV → Ups → List Id → Prop} (h : aload P t env m x K) : ∃ v ups rd, K v ups rd ∧ aload P t env m x (X3 v ups rd) := by
  unfold aload at h ⊢
  split at h
  · split at h
    · split at h
      · obtain ⟨h0, h⟩ := h; obtain ⟨v, h1, h2⟩ := ldAg_det h; exact ⟨v, _, _, h1, h0, by simpa [X3] using h2⟩
      · obtain ⟨h0, h⟩ := h; obtain ⟨v, h1, h2⟩ := ldAg_det h; exact ⟨v, _, _, h1, h0, by simpa [X3] using h2⟩
      · exact h.elim
      · rename_i e1 e2 e3
        obtain ⟨v, h1, h2⟩ := ldSc_det h
        exact ⟨v, _, _, h1, by simpa [X3] using h2⟩
    · exact h.elim
  · exact h.elim

theorem astore_det {P : Program} {t : TypeId} {env : Env} {m : Mem} {x y : Operand} {K : AV → Ups → List Id → Prop} (h : astore P t env m x y K) : ∃ v ups rd, K v ups rd ∧ astore P t env m x y (X3 v ups rd) := by
  unfold astore at h ⊢
  split at h
  · split at h
    · obtain ⟨h0, h1, h⟩ := h
      obtain ⟨g, h2, h3⟩ := stSegs_det h
      exact ⟨_, _, _, h2, h0, h1, stSegs_mono (fun z hz => by subst hz; exact ⟨rfl, rfl, rfl⟩) h3⟩
    · exact h.elim
  · exact h.elim

theorem slCells_det {m : Mem} {x : AV} {esz : Nat} {z : Zk} {K : Sg → Nat → List Id → Prop} (h : slCells m x esz z K) : ∃ g n rd, K g n rd ∧ slCells m x esz z (fun g' n' rd' => g' = g ∧ n' = n ∧ rd' = rd) := by
  unfold slCells at h ⊢
  split at h
  · exact ⟨_, _, _, h, rfl, rfl, rfl⟩
  · split at h
    · split at h
      · exact ⟨_, _, _, h.2.2, h.1, h.2.1, rfl, rfl, rfl⟩
      · exact h.elim
    · exact h.elim
  · exact h.elim

theorem slCells_mono {m : Mem} {x : AV} {esz : Nat} {z : Zk} {K K' : Sg → Nat → List Id → Prop} (hk : ∀ a b c, K a b c → K' a b c) (h : slCells m x esz z K) : slCells m x esz z K' := by
  unfold slCells at h ⊢
  split at h
  · exact hk _ _ _ h
  · split at h
    · split at h
      · exact ⟨h.1, h.2.1, hk _ _ _ h.2.2⟩
      · exact h.elim
    · exact h.elim
  · exact h.elim

theorem killed_det {m : Mem} {x : AV} {K : Ups → Prop} (h : killed m x K) : ∃ u, K u ∧ killed m x (· = u) := by
  unfold killed at h ⊢
  split at h
  · exact ⟨_, h, rfl⟩
  · split at h
    · exact ⟨_, h, rfl⟩
    · exact h.elim
  · exact h.elim

theorem killed_mono {m : Mem} {x : AV} {K K' : Ups → Prop} (hk : ∀ u, K u → K' u) (h : killed m x K) : killed m x K' := by
  unfold killed at h ⊢
  split at h
  · exact hk _ h
  · split at h
    · exact hk _ h
    · exact h.elim
  · exact h.elim

theorem catSg_det {g h : Sg} {K : Sg → Prop} (e : catSg g h K) : ∃ x, K x ∧ catSg g h (· = x) := by
  unfold catSg at e ⊢
  split at e
  · exact ⟨_, e.2, e.1, rfl⟩
  · exact ⟨_, e, rfl⟩
  · exact ⟨_, e, rfl⟩
  · exact e.elim

theorem catSg_mono {g h : Sg} {K K' : Sg → Prop} (hk : ∀ x, K x → K' x) (e : catSg g h K) : catSg g h K' := by
  unfold catSg at e ⊢
  split at e
  · exact ⟨e.1, hk _ e.2⟩
  · exact hk _ e
  · exact hk _ e
  · exact e.elim

theorem slSegs_det {m : Mem} {x : AV} {esz : Nat} {K : Segs → Nat → List Id → Prop} (h : slSegs m x esz K) : ∃ g n rd, K g n rd ∧ slSegs m x esz (fun g' n' rd' => g' = g ∧ n' = n ∧ rd' = rd) := by
  unfold slSegs at h ⊢
  split at h
  · split at h
    · exact ⟨_, _, _, h.2.2.2.2, h.1, h.2.1, h.2.2.1, h.2.2.2.1, rfl, rfl, rfl⟩
    · exact h.elim
  · exact h.elim

theorem slSegs_mono {m : Mem} {x : AV} {esz : Nat} {K K' : Segs → Nat → List Id → Prop} (hk : ∀ a b c, K a b c → K' a b c) (h : slSegs m x esz K) : slSegs m x esz K' := by
  unfold slSegs at h ⊢
  split at h
  · split at h
    · exact ⟨h.1, h.2.1, h.2.2.1, h.2.2.2.1, hk _ _ _ h.2.2.2.2⟩
    · exact h.elim
  · exact h.elim

theorem aappend_det {P : Program} {t : TypeId} {m : Mem} {s x : AV} {K : AV → Ups → List Id → Prop} (h : aappend P t m s x K) : ∃ v ups rd, K v ups rd ∧ aappend P t m s x (X3 v ups rd) := by
  unfold aappend at h ⊢
  split at h
  · obtain ⟨h0, h1, h2, h3, h⟩ := h
    obtain ⟨g, n, rd, h, e1⟩ := slCells_det h
    obtain ⟨g', n', rd', h, e2⟩ := slCells_det h
    obtain ⟨h4, h5, h⟩ := h
    obtain ⟨ks, h, e3⟩ := killed_det h
    obtain ⟨g2, h, e4⟩ := catSg_det h
    refine ⟨_, _, _, h, h0, h1, h2, h3, slCells_mono (fun a b c ⟨r1, r2, r3⟩ => ?_) e1⟩
    subst r1; subst r2; subst r3
    refine slCells_mono (fun a b c ⟨r1, r2, r3⟩ => ?_) e2
    subst r1; subst r2; subst r3
    refine ⟨h4, h5, killed_mono (fun u hu => ?_) e3⟩
    subst hu
    exact catSg_mono (fun u hu => by subst hu; exact ⟨rfl, rfl, rfl⟩) e4
  · split at h
    · obtain ⟨h0, h1, h2, h⟩ := h
      obtain ⟨g, n, rd, h, e1⟩ := slSegs_det h
      obtain ⟨g', n', rd', h, e2⟩ := slSegs_det h
      obtain ⟨h4, h⟩ := h
      obtain ⟨ks, h, e3⟩ := killed_det h
      refine ⟨_, _, _, h, h0, h1, h2, slSegs_mono (fun a b c ⟨r1, r2, r3⟩ => ?_) e1⟩
      subst r1; subst r2; subst r3
      refine slSegs_mono (fun a b c ⟨r1, r2, r3⟩ => ?_) e2
      subst r1; subst r2; subst r3
      exact ⟨h4, killed_mono (fun u hu => by subst hu; exact ⟨rfl, rfl, rfl⟩) e3⟩
    · exact h.elim
  · exact h.elim

theorem amakeSlice_det {P : Program} {t : TypeId} {m : Mem} {s x : AV} {K : AV → Ups → List Id → Prop} (h : amakeSlice P t m s x K) : ∃ v ups rd, K v ups rd ∧ amakeSlice P t m s x (X3 v ups rd) := by
  unfold amakeSlice at h ⊢
  split at h
  · exact ⟨_, _, _, h.2.2.2.2.2.2, h.1, h.2.1, h.2.2.1, h.2.2.2.1, h.2.2.2.2.1, h.2.2.2.2.2.1, rfl, rfl, rfl⟩
  · exact h.elim

def isCall : Op → Bool
  | .call { callee := .value _, .. } => true
  | _ => false

theorem asliceP_det {P : Program} {t : TypeId} {m : Mem} {a k st off : Nat} {lo hi : Option AV} {K : AV → Prop} (h : asliceP P t m a k st off lo hi K) : ∃ v, K v ∧ asliceP P t m a k st off lo hi (· = v) := by
  unfold asliceP at h ⊢
  split at h
  · obtain ⟨h0, h1, h⟩ := h
    obtain ⟨a, h2, h3⟩ := ahi_det h
    obtain ⟨b, h4, h5⟩ := alo_det h2
    exact ⟨_, h4, h0, h1, ahi_mono (fun y hy => by subst hy; exact alo_mono (fun z hz => by subst hz; rfl) h5) h3⟩
  · exact h.elim

theorem asliceP_mono {P : Program} {t : TypeId} {m : Mem} {a k st off : Nat} {lo hi : Option AV} {K K' : AV → Prop} (hk : ∀ v, K v → K' v) (h : asliceP P t m a k st off lo hi K) : asliceP P t m a k st off lo hi K' := by
  unfold asliceP at h ⊢
  split at h
  · exact ⟨h.1, h.2.1, ahi_mono (fun y hy => alo_mono (fun z hz => hk _ hz) hy) h.2.2⟩
  · exact h.elim

theorem acopy_det {P : Program} {t : TypeId} {m : Mem} {s x : AV} {K : AV → Ups → List Id → Prop} (h : acopy P t m s x K) : ∃ v ups rd, K v ups rd ∧ acopy P t m s x (X3 v ups rd) := by
  unfold acopy at h ⊢
  split at h
  · obtain ⟨h0, h1, h⟩ := h
    obtain ⟨g, n, rd, h, e1⟩ := slCells_det h
    obtain ⟨h2, h⟩ := h
    split at h
    · rename_i gs e2
      obtain ⟨g2, h, e3⟩ := stSegs_det h
      refine ⟨_, _, _, h, h0, h1, slCells_mono (fun x1 x2 x3 ⟨r1, r2, r3⟩ => ?_) e1⟩
      subst r1; subst r2; subst r3
      exact ⟨h2, stSegs_mono (fun y hy => by subst hy; exact ⟨rfl, rfl, rfl⟩) e3⟩
    · exact h.elim
  · exact h.elim

theorem aop_det {P : Program} {op : Op} {env : Env} {m : Mem} {K : AV → Ups → List Id → Prop} (hc : isCall op = false) (h : aop P op env m K) : ∃ v ups rd, K v ups rd ∧ aop P op env m (X3 v ups rd) := by
  have pure1 : ∀ {T : (AV → Prop) → Prop}, (∀ {K}, T K → ∃ v, K v ∧ T (· = v)) → T (fun v => K v [] []) → ∃ v ups rd, K v ups rd ∧ T (fun v' => X3 v ups rd v' [] []) := by
    intro T hT h
    obtain ⟨v, h1, h2⟩ := hT h
    exact ⟨v, [], [], h1, by simpa [X3] using h2⟩
  cases op with
  | move x => exact ⟨_, _, _, h, rfl, rfl, rfl⟩
  | assign x => exact ⟨_, _, _, h, rfl, rfl, rfl⟩
  | pick a b c =>
    simp only [aop] at h ⊢
    split at h
    · exact ⟨_, _, _, h, rfl, rfl, rfl⟩
    · exact h.elim
  | alloc t =>
    simp only [aop] at h ⊢
    split at h
    · exact ⟨_, _, _, h, rfl, rfl, rfl⟩
    · exact h.elim
  | box t x =>
    simp only [aop] at h ⊢
    split at h
    · exact ⟨_, _, _, h, rfl, rfl, rfl⟩
    · exact h.elim
  | build t parts =>
    simp only [aop, abuild] at h ⊢
    split at h
    · obtain ⟨h0, h⟩ := h
      obtain ⟨g, h1, h2⟩ := aparts_det h
      have mono : ∀ {pl env l gs} {K K' : Segs → Prop}, (∀ x, K x → K' x) → aparts P pl env l gs K → aparts P pl env l gs K' := by
        intro pl env l
        induction l with
        | nil => intro gs K K' hk h; exact hk _ h
        | cons x r ih =>
          intro gs K K' hk h
          obtain ⟨j, x⟩ := x
          simp only [aparts] at h ⊢
          split at h
          · exact ⟨h.1, stSegs_mono (fun y hy => ih hk hy) h.2⟩
          · exact h.elim
      exact ⟨_, _, _, h1, h0, mono (fun y hy => by subst hy; exact ⟨rfl, rfl, rfl⟩) h2⟩
    · obtain ⟨h0, h⟩ := h
      obtain ⟨g, h1, h2⟩ := aparts_det h
      have mono : ∀ {pl env l gs} {K K' : Segs → Prop}, (∀ x, K x → K' x) → aparts P pl env l gs K → aparts P pl env l gs K' := by
        intro pl env l
        induction l with
        | nil => intro gs K K' hk h; exact hk _ h
        | cons x r ih =>
          intro gs K K' hk h
          obtain ⟨j, x⟩ := x
          simp only [aparts] at h ⊢
          split at h
          · exact ⟨h.1, stSegs_mono (fun y hy => ih hk hy) h.2⟩
          · exact h.elim
      exact ⟨_, _, _, h1, h0, mono (fun y hy => by subst hy; exact ⟨rfl, rfl, rfl⟩) h2⟩
    · exact h.elim
  | buildSlice t len parts =>
    simp only [aop, abuildSlice] at h ⊢
    split at h
    · obtain ⟨h0, h1, h2, h⟩ := h
      obtain ⟨g, h3, h4⟩ := aparts_det h
      have mono : ∀ {pl env l gs} {K K' : Segs → Prop}, (∀ x, K x → K' x) → aparts P pl env l gs K → aparts P pl env l gs K' := by
        intro pl env l
        induction l with
        | nil => intro gs K K' hk h; exact hk _ h
        | cons x r ih =>
          intro gs K K' hk h
          obtain ⟨j, x⟩ := x
          simp only [aparts] at h ⊢
          split at h
          · exact ⟨h.1, stSegs_mono (fun y hy => ih hk hy) h.2⟩
          · exact h.elim
      exact ⟨_, _, _, h3, h0, h1, h2, mono (fun y hy => by subst hy; exact ⟨rfl, rfl, rfl⟩) h4⟩
    · split at h
      · obtain ⟨h0, h1, h2, h⟩ := h
        obtain ⟨g, h3, h4⟩ := aparts_det h
        have mono : ∀ {pl env l gs} {K K' : Segs → Prop}, (∀ x, K x → K' x) → aparts P pl env l gs K → aparts P pl env l gs K' := by
          intro pl env l
          induction l with
          | nil => intro gs K K' hk h; exact hk _ h
          | cons x r ih =>
            intro gs K K' hk h
            obtain ⟨j, x⟩ := x
            simp only [aparts] at h ⊢
            split at h
            · exact ⟨h.1, stSegs_mono (fun y hy => ih hk hy) h.2⟩
            · exact h.elim
        exact ⟨_, _, _, h3, h0, h1, h2, mono (fun y hy => by subst hy; exact ⟨rfl, rfl, rfl⟩) h4⟩
      · exact h.elim
    · exact h.elim
  | load t x => exact aload_det h
  | store t x y => exact astore_det h
  | nilCheck x =>
    simp only [aop] at h ⊢
    split at h
    · exact ⟨_, _, _, h, rfl, rfl, rfl⟩
    · exact ⟨_, _, _, h, rfl, rfl, rfl⟩
    · exact h.elim
  | binOp op t x y t' => exact pure1 (T := abin P op t (aev env x) (aev env y)) abin_det h
  | unOp op t x => exact pure1 (T := aun op (aev env x)) aun_det h
  | convert s d x => exact pure1 (T := aconvert P s d (aev env x)) aconvert_det h
  | makeFunc fn first caps =>
    cases fn with
    | func f =>
      simp only [aop] at h ⊢
      split at h
      · rename_i hf
        simp only [hf, if_true]
        split at h
        · exact ⟨_, _, _, h, rfl, rfl, rfl⟩
        · exact h.elim
      · exact h.elim
    | _ => simp only [aop] at h
  | makeSlice t x y => exact amakeSlice_det h
  | slice t x lo hi mx =>
    cases mx with
    | none =>
      simp only [aop, asliceV] at h ⊢
      split at h
      · obtain ⟨v, h1, h2⟩ := asliceP_det h
        exact ⟨v, [], _, h1, asliceP_mono (fun v' hv => by subst hv; exact ⟨rfl, rfl, rfl⟩) h2⟩
      · exact pure1 (T := aslice P t (aev env x) (lo.map (aev env)) (hi.map (aev env))) aslice_det h
    | some _ => simp only [aop] at h
  | fieldAddr t x f => exact pure1 (T := afieldAddr P t (aev env x) f) afieldAddr_det h
  | indexAddr t x i => exact pure1 (T := aindexAddr P t (aev env x) (aev env i)) aindexAddr_det h
  | index t x i => exact pure1 (T := aindex P t (aev env x) (aev env i)) aindex_det h
  | extract x j =>
    simp only [aop] at h ⊢
    split at h
    · split at h
      · exact ⟨_, _, _, h, rfl, rfl, rfl⟩
      · exact h.elim
    · exact h.elim
  | call c =>
    obtain ⟨callee, args, ats⟩ := c
    cases callee with
    | value f => simp [isCall] at hc
    | invoke r n => simp only [aop] at h
    | builtin b =>
      simp only [aop, abuiltin] at h ⊢
      split at h
      · rename_i t x e1 e2
        exact pure1 (T := alen P t x) alen_det h
      · obtain ⟨h0, h⟩ := h
        obtain ⟨v, ups, rd, h1, h2⟩ := aappend_det h
        exact ⟨v, ups, rd, h1, h0, h2⟩
      · exact ⟨_, _, _, h.2, h.1, rfl, rfl, rfl⟩
      · exact ⟨_, _, _, h.2, h.1, rfl, rfl, rfl⟩
      · exact acopy_det h
      · exact h.elim
  | _ => simp only [aop] at h

/-! ### locality -/

/-- An outcome. -/
def Out (P : Program) (op : Op) (env : Env) (m : Mem) (v : AV) (ups : Ups) (rd : List Id) : Prop :=
  match op with
  | .call { callee := .value f, args, .. } => acallee env f (args.toList.map (aev env)) fun f vs => CallsF P f vs m rd (fun v' ups' => v' = v ∧ ups' = ups)
  | op => aop P op env m (X3 v ups rd)

theorem CallsF.mono {P : Program} {f : FuncId} {vs : List AV} {m : Mem} {F : List Id} {K K' : AV → Ups → Prop} (hk : ∀ a b, K a b → K' a b) (h : CallsF P f vs m F K) : CallsF P f vs m F K' := by
  obtain ⟨h1, h2, h3, h4⟩ := h
  refine ⟨h1, h2, h3, fun ρ own w vals a b c d => (h4 ρ own w vals a b c d).mono ?_⟩
  rintro e w' ⟨r, as, ns, val, ρ', e1, e2, e3⟩
  exact ⟨r, as, ns, val, ρ', e1, hk _ _ e2, e3⟩

theorem Out.aop {P : Program} {op : Op} {env : Env} {m : Mem} {v : AV} {ups : Ups} {rd : List Id} (h : Out P op env m v ups rd) : aop P op env m (X3 v ups rd) := by
  unfold Out at h
  split at h
  · simp only [Abs.aop]
    unfold acallee at h ⊢
    split at h
    · exact ⟨rd, CallsF.mono (fun a b hab => ⟨hab.1, hab.2, rfl⟩) h⟩
    · exact h.elim
  · exact h

theorem aopX_out {P : Program} {op : Op} {env : Env} {m : Mem} {K : AV → Ups → List Id → Prop} (h : aopX P true op env m K) : ∃ v ups rd, K v ups rd ∧ Out P op env m v ups rd := by
  unfold aopX at h
  simp only [if_true] at h
  split at h
  · unfold acallee at h
    unfold Out acallee
    split at h
    · rename_i e
      obtain ⟨F, v, ups, h1, h2⟩ := h
      exact ⟨v, ups, F, h2, by simp only [e]; exact h1⟩
    · exact h.elim
  · rename_i hne
    have hc : isCall op = false := by
      unfold isCall
      split
      · exact absurd rfl (hne _ _ _)
      · rfl
    obtain ⟨v, ups, rd, h1, h2⟩ := aop_det hc h
    refine ⟨v, ups, rd, h1, ?_⟩
    unfold Out
    split
    · exact absurd rfl (hne _ _ _)
    · exact h2

end Go.Abs
