/-
What the operations that make, read and write memory do, in the abstract words.
-/
import Derived.Test.YtopkdpgbjpjgjaaAbsE
namespace Go.Abs
open Go
set_option linter.unusedVariables false
set_option linter.unusedSectionVars false
set_option linter.unusedSimpArgs false
set_option linter.defProp false

section
variable {P : Program} {ρ : Rho} {own : Nat → Prop} {env : Env} {m : Mem} {a : Act} {w : World}

theorem more_only {n : Nat} {p : Nat × Nat × Nat} : ∀ a' k, a' ≠ n → more ρ n 0 p a' k = ρ a' k := by
  intro a' k h
  simp only [more]
  rw [if_neg]
  rintro ⟨rfl, _⟩
  exact h rfl

/-- A new block under the fresh name. -/
theorem After.new {gs : Segs} {arr : Array Value} {T : TypeId} {l post : List Value} {v : AV} {val : Value} (c : Ctx ρ own env m a w) (harr : arr.toList = l ++ post) (hr : RelSegs ρ 0 gs l)
    (hv : RelV (more ρ m.next 0 (w.heap.size, 0, arr.size)) v val) : After ρ own m [((m.next, 0), .lv true gs)] v w val (w.alloc (.cells arr T (0, 0))) (more ρ m.next 0 (w.heap.size, 0, arr.size)) :=
  ⟨Le.more (c.fresh 0), fun a' k h => more_only a' k h, hv, c.mem.new (c.fresh 0) c.nz (c.own _ (Nat.le_refl _)) harr hr, Kept.alloc own w _ _⟩

theorem new_ups {gs : Segs} (c : Ctx ρ own env m a w) : ∀ x ∈ [(((m.next, 0) : Id), Blk.lv true gs)], x.1.1 = 0 → x.1.2 < m.args.length := by
  intro x hx h
  simp only [List.mem_cons, List.not_mem_nil, or_false] at hx
  subst hx
  exact absurd h c.nz

theorem rel_new_ptr {b : Nat} {p : Nat × Nat × Nat} (hp : p.1 = b) (h0 : p.2.1 = 0) : RelV (more ρ m.next 0 p) (.ref (.ptr m.next 0 0 0)) (.pointer (some ⟨b, 0, none⟩)) := by
  simp only [RelV, RelAt]
  exact ⟨p, by simp [more], by simp [hp, h0]⟩

theorem ok_alloc {o : Oper} {t : TypeId} {gs : Segs} (c : Ctx ρ own env m a w) (ho : o.op = .alloc t) (hz : zeroOf P t = some gs) :
    OpOk P ρ own m a w o (.ref (.ptr m.next 0 0 0)) [((m.next, 0), .lv true gs)] := by
  obtain ⟨z, h1, h2⟩ := zeroOf_sound hz
  refine OpOk.value (new_ups c) (val := .pointer (some ⟨w.heap.size, 0, none⟩)) ?_ (After.new (T := t) (arr := z.cells) (l := z.cells.toList) (post := []) c (by simp) (h2 ρ) (rel_new_ptr rfl rfl))
  simp only [execOp, ho]
  exact run_v (by simp [Instr.alloc, run_zeroValue h1, run_newVar])

theorem ok_box {o : Oper} {t : TypeId} {x : Operand} {gs : Segs} (c : Ctx ρ own env m a w) (ho : o.op = .box t x) (hz : segsOfAV (aev env x) = some gs) :
    OpOk P ρ own m a w o (.ref (.ptr m.next 0 0 0)) [((m.next, 0), .lv true gs)] := by
  have h2 := segsOfAV_sound (aev_sound c.env x) hz
  refine OpOk.value (new_ups c) (val := .pointer (some ⟨w.heap.size, 0, none⟩)) ?_ (After.new (T := t) (arr := (a.eval x).cells) (l := (a.eval x).cells.toList) (post := []) c (by simp) h2 (rel_new_ptr rfl rfl))
  simp only [execOp, ho]
  exact run_v (by simp [Instr.box, run_newVar])

theorem foldl_set_over : ∀ (vs : List Value) (j : Nat) (cs : Array Value), j + vs.length ≤ cs.size →
    ((vs.zipIdx j).foldl (fun (cs : Array Value) (x : Value × Nat) => cs.setIfInBounds x.2 x.1) cs).toList = over cs.toList j vs
  | [], j, cs, h => by simp [over]
  | v :: r, j, cs, h => by
    simp only [List.zipIdx_cons, List.foldl_cons]
    rw [foldl_set_over r (j + 1) _ (by simp at h ⊢; omega)]
    have h1 : (cs.setIfInBounds j v).toList = over cs.toList j [v] := by
      have hlt : j < cs.toList.length := by simp at h ⊢; omega
      rw [Array.toList_setIfInBounds, List.set_eq_take_append_cons_drop, if_pos hlt]
      simp [over]
    rw [h1]
    have := over_over cs.toList j [v] r (by simp at h ⊢; omega)
    simpa using this

theorem fill_step (off : Nat) (v : Value) (cells : Array Value) (h : off + v.cells.size ≤ cells.size) :
    (v.cells.zipIdx.foldl (fun cs (c, j) => cs.setIfInBounds (off + j) c) cells).toList = over cells.toList off v.cells.toList := by
  rw [← foldl_set_over v.cells.toList off cells (by simpa using h)]
  congr 1
  rw [← Array.foldl_toList, Array.toList_zipIdx]
  have : ∀ (l : List Value) (k : Nat) (cs : Array Value), List.foldl (fun (cs : Array Value) (x : Value × Nat) => match x with | (c, j) => cs.setIfInBounds (off + j) c) cs (l.zipIdx k) = List.foldl (fun (cs : Array Value) (x : Value × Nat) => cs.setIfInBounds x.2 x.1) cs (l.zipIdx (off + k)) := by
    intro l
    induction l with
    | nil => intro k cs; rfl
    | cons v r ih => intro k cs; simp only [List.zipIdx_cons, List.foldl_cons]; rw [ih (k + 1)]; rfl
  simpa using this v.cells.toList 0 cells

theorem aparts_sound {pl : Nat → Option (Nat × Nat × Nat)} {place : Nat → Option (Nat × Nat)} (c : Ctx ρ own env m a w) (hpl : ∀ j st off sz, pl j = some (st, off, sz) → place j = some (st + off, sz)) :
    ∀ {parts : List (Nat × Operand)} {gs : Segs} {K : Segs → Prop} {cells : Array Value}, RelSegs ρ 0 gs cells.toList → aparts P pl env parts gs K →
      ∃ gs' out, K gs' ∧ Instr.fill place cells (parts.map fun x => (x.1, a.eval x.2)) = some out ∧ RelSegs ρ 0 gs' out.toList ∧ out.size = cells.size
  | [], gs, K, cells, h, hk => ⟨gs, cells, hk, rfl, h, rfl⟩
  | (j, x) :: r, gs, K, cells, h, hk => by
    simp only [aparts] at hk
    split at hk
    · rename_i st off sz vs e1 e2
      obtain ⟨hlen, hk⟩ := hk
      have hv := segsOfAV_sound (aev_sound c.env x) e2
      obtain ⟨gs', hK, hb, hr⟩ := stSegs_sound h hv hk
      have hsz : (a.eval x).cells.size = sz := by rw [← Array.length_toList, hv.length, hlen]
      simp only [Array.length_toList] at hb
      have hfill := fill_step (st + off) (a.eval x) cells hb
      rw [← hfill] at hr
      have hs2 : (((a.eval x).cells.zipIdx.foldl (fun cs (c, j) => cs.setIfInBounds (st + off + j) c) cells)).size = cells.size := by
        rw [← Array.length_toList, hfill, over_length _ _ _ (by simpa using hb)]
        simp
      obtain ⟨gs2, out, h1, h2, h3, h4⟩ := aparts_sound c hpl hr hK
      refine ⟨gs2, out, h1, ?_, h3, h4.trans hs2⟩
      have hn1 : ¬ ((a.eval x).cells.size ≠ sz || decide (st + off + (a.eval x).cells.size > cells.size)) = true := by
        simp [hsz]; omega
      simp only [List.map_cons, Instr.fill, hpl j st off sz e1]
      rw [if_neg (by simpa using hn1)]
      exact h2
    · exact hk.elim

/-- The places of a struct's fields, where every field has a size. -/
theorem places_ok : ∀ (l : List Field), (∀ f ∈ l, 0 < szOf P f.type) → (l.mapM fun f => Prod.mk f.offset <$> sizeOf f.type : Sem (List (Nat × Nat))).run P w = .ok (l.map fun f => (f.offset, szOf P f.type)) w := by
  intro l
  induction l with
  | nil => intro _; rfl
  | cons f r ih =>
    intro h
    have h2 := ih (fun g hg => h g (by simp [hg]))
    simp [List.mapM_cons, run_sizeOf (isSome_of_pos (h f (by simp))), h2]

theorem ok_build {o : Oper} {t : TypeId} {parts : Array (Nat × Operand)} {K : Segs → Prop} (c : Ctx ρ own env m a w) (ho : o.op = .build t parts) (hk : abuild P t env parts.toList K) :
    ∃ gs, K gs ∧ OpOk P ρ own m a w o (.agg gs) [] := by
  unfold abuild at hk
  split at hk
  · rename_i gs offs sz e1 e2
    obtain ⟨z, h1, h2⟩ := zeroOf_sound e1
    obtain ⟨fs, hu, ho2, _⟩ := tyOf_st e2
    subst ho2
    obtain ⟨hall, hk⟩ := hk
    have hall' : ∀ f ∈ fs.toList, 0 < szOf P f.type := fun f hf => by
      have := List.all_eq_true.1 hall (f.offset, szOf P f.type) (List.mem_map.2 ⟨f, hf, rfl⟩)
      simpa using this
    have hrun : (fs.mapM fun f => Prod.mk f.offset <$> sizeOf f.type : Sem (Array (Nat × Nat))).run P w = .ok (fs.toList.map fun f => (f.offset, szOf P f.type)).toArray w := by
      rw [Array.mapM_eq_mapM_toList]
      simp [places_ok (P := P) (w := w) fs.toList hall']
    obtain ⟨gs', out, hK, hfill, hr, _⟩ := aparts_sound (place := fun j => (fs.toList.map fun f => (f.offset, szOf P f.type)).toArray[j]?) c (fun j st off s h => by
      cases hf : fs.toList[j]? with
      | none => simp [hf] at h
      | some f =>
        simp only [List.getElem?_map, hf, Option.map_some, Option.some.injEq, Prod.mk.injEq] at h
        obtain ⟨rfl, rfl, rfl⟩ := h
        simp [hf]) (h2 ρ) hk
    refine ⟨gs', hK, OpOk.pure (val := .agg out) c ?_ (by simp only [RelV]; exact ⟨out.toList, by simp, hr⟩)⟩
    simp only [execOp, ho]
    refine run_v ?_
    simp only [Instr.build, Sem.run_bind, run_zeroValue h1, Result.andThen_ok, run_underlying hu, bind_pure_comp, hrun, Array.toList_map, hfill]
    rfl
  · rename_i gs n esz sz e1 e2
    obtain ⟨z, h1, h2⟩ := zeroOf_sound e1
    obtain ⟨e, hu, he, _⟩ := tyOf_arr e2
    subst he
    obtain ⟨h0, hk⟩ := hk
    obtain ⟨gs', out, hK, hfill, hr, _⟩ := aparts_sound (place := fun i => some (i * szOf P e, szOf P e)) c (fun j st off s h => by simp at h ⊢; omega) (h2 ρ) hk
    refine ⟨gs', hK, OpOk.pure (val := .agg out) c ?_ (by simp only [RelV]; exact ⟨out.toList, by simp, hr⟩)⟩
    simp only [execOp, ho]
    refine run_v ?_
    simp [Instr.build, run_zeroValue h1, run_underlying hu, run_sizeOf (isSome_of_pos h0), hfill]
  · exact hk.elim

/-! ### loads and stores -/

theorem ok_load {o : Oper} {t : TypeId} {x : Operand} {K : AV → Ups → List Id → Prop} (c : Ctx ρ own env m a w) (ho : o.op = .load t x) (hk : aload P t env m x K) :
    ∃ v rd, K v [] rd ∧ OpOk P ρ own m a w o v [] ∧ ∃ ad val, a.eval x = .pointer (some ad) ∧ (loadVar t ad).run P w = .ok val w ∧ RelV ρ v val := by
  have hx := aev_sound c.env x
  unfold aload at hk
  split at hk
  · rename_i a' k st off e1
    rw [e1] at hx
    simp only [RelV, RelAt] at hx
    obtain ⟨p, hp, hv⟩ := hx
    split at hk
    · rename_i rw_ gs e2
      obtain ⟨p', fz, hp', hH, _⟩ := c.mem.holds a' k rw_ gs e2
      rw [hp] at hp'
      obtain rfl := Option.some.inj hp'
      obtain ⟨arr, T, l, hh, hr, hsz, hcell⟩ := holds_cell hH
      have agg : (match tyOf P t with | .arr .. | .st .. => True | _ => False) → ∀ sz, sz = szOf P t → 0 < sz → ldAg gs st off sz (fun v => K v [] [(a', k)]) → ∃ v rd, K v [] rd ∧ OpOk P ρ own m a w o v [] ∧ ∃ ad val, a.eval x = .pointer (some ad) ∧ (loadVar t ad).run P w = .ok val w ∧ RelV ρ v val := by
        rintro hag sz rfl h0 hk
        obtain ⟨v, l1, l2, l3, hK, hl, hl1, hl2, hrv⟩ := ldAg_sound hr hk
        have hrun : (loadVar t ⟨p.1, p.2.1 + st + off, none⟩).run P w = .ok (.agg l2.toArray) w := by
          refine run_loadVar_agg hag h0 hl2 (fun j u hu => ?_)
          have := hcell (st + off + j) u (by
            rw [hl, List.append_assoc, List.getElem?_append_right (by omega)]
            have hj : j < l2.length := (List.getElem?_eq_some_iff.1 hu).1
            rw [List.getElem?_append_left (by omega), ← hu]
            congr 1
            omega)
          rw [← this]
          simp [Nat.add_assoc]
        exact ⟨v, _, hK, OpOk.pure c (by simp only [execOp, ho, hv]; exact run_v (by simp [Instr.loadAt, Instr.sureAddr, hrun])) hrv, _, _, hv, hrun, hrv⟩
      split at hk
      · rename_i n esz sz e3
        obtain ⟨_, _, _, hs⟩ := tyOf_arr e3
        exact agg (by rw [e3]; trivial) sz hs hk.1 hk.2
      · rename_i offs sz e3
        obtain ⟨_, _, _, hs⟩ := tyOf_st e3
        exact agg (by rw [e3]; trivial) sz hs hk.1 hk.2
      · exact hk.elim
      · rename_i q1 q2 q3
        obtain ⟨v, val, hK, hc, hrv, _⟩ := ldSc_sound hr hk
        have hag : (match tyOf P t with | .arr .. | .st .. | .other => False | _ => True) := by
          split <;> simp_all
        have hrun : (loadVar t ⟨p.1, p.2.1 + st + off, none⟩).run P w = .ok val w := by
          refine run_loadVar_one hag ?_
          have := hcell _ _ hc
          rw [← this]
          simp [Nat.add_assoc]
        exact ⟨v, _, hK, OpOk.pure c (by simp only [execOp, ho, hv]; exact run_v (by simp [Instr.loadAt, Instr.sureAddr, hrun])) hrv, _, _, hv, hrun, hrv⟩
    · exact hk.elim
  · exact hk.elim

theorem ok_store {o : Oper} {t : TypeId} {x y : Operand} {K : AV → Ups → List Id → Prop} (c : Ctx ρ own env m a w) (ho : o.op = .store t x y) (hk : astore P t env m x y K) :
    ∃ ups rd, K .top ups rd ∧ OpOk P ρ own m a w o .top ups := by
  have hx := aev_sound c.env x
  have hy := aev_sound c.env y
  unfold astore at hk
  split at hk
  · rename_i a' k st off vs e1 e2
    rw [e1] at hx
    simp only [RelV, RelAt] at hx
    obtain ⟨p, hp, hv⟩ := hx
    split at hk
    · rename_i gs e3
      obtain ⟨hlen, hi, hk⟩ := hk
      obtain ⟨p', fz, hp', hH, hrw, _⟩ := c.mem.holds a' k true gs e3
      rw [hp] at hp'
      obtain rfl := Option.some.inj hp'
      obtain ⟨rfl, hown⟩ := hrw rfl
      have hvs := segsOfAV_sound hy e2
      obtain ⟨gs', old, T, cs, hK, hh, hb, rfl, hsz, hH'⟩ := holds_over (K := fun gs' => K .top [((a', k), .lv true gs')] []) hH (fun l hl => stSegs_sound hl hvs hk)
      refine ⟨_, _, hK, ?_⟩
      have hcs : (a.eval y).cells.size = szOf P t := by rw [← Array.length_toList, hvs.length, hlen]
      refine OpOk.skip (w' := w.setRow p.1 (old.toList.take (p.2.1 + (st + off)) ++ (a.eval y).cells.toList ++ old.toList.drop (p.2.1 + (st + off) + (a.eval y).cells.toList.length)).toArray) (ρ' := ρ) ?_ ?_ ?_
      · intro x hx h0
        simp only [List.mem_cons, List.not_mem_nil, or_false] at hx
        subst hx
        simp only at h0 ⊢
        subst h0
        exact Mem.live_lt e3
      · simp only [execOp, ho, hv]
        refine run_u ?_
        have hrun := run_storeVar_at (P := P) (w := w) (b := p.1) (o := p.2.1 + (st + off)) (v := a.eval y) (t := t) hi hcs hh (by simpa using hb) hvs.one
        simp only [Instr.storeAt, Instr.sureAddr, Sem.run_bind, Sem.run_pure, Result.andThen_ok, Nat.add_assoc] at hrun ⊢
        exact hrun
      · exact ⟨Le.refl ρ, fun _ _ _ => rfl, by simp [RelV], c.mem.write e3 hp hh hsz hH', Kept.setRow hh hsz hown⟩
    · exact hk.elim
  · exact hk.elim


/-! ### slices -/

theorem zeroEl_sound {t : TypeId} {z : Zk} (h : zeroEl P t = some z) : ∃ zv c, (P.info? t).bind (·.zero) = some zv ∧ zv.cells.toList = List.replicate z.len c ∧ (∀ (ρ : Rho) n, RelSg ρ (zeroArr n z) (List.replicate (n * z.len) c)) ∧ (∀ n, (zeroArr n z).len = n * z.len) := by
  unfold zeroEl at h
  split at h
  · rename_i st k n xs e
    obtain ⟨zv, h1, h2⟩ := zeroOf_sound e
    split at h
    · rename_i hall
      simp only [Option.some.injEq] at h
      subst h
      obtain ⟨_, l1, l2, h3, ⟨h4, h5⟩, h6⟩ := h2 (fun _ _ => none)
      have : l2 = [] := h6
      subst this
      have hxs : xs = List.replicate n 0 := by
        rw [← h4]
        exact List.eq_replicate_iff.2 ⟨rfl, fun x hx => by simpa using List.all_eq_true.1 hall x hx⟩
      subst hxs
      refine ⟨zv, .int k 0, h1, by rw [h3, h5]; simp [Zk.len], fun ρ j => ⟨by simp, by simp [Zk.len]⟩, fun j => rfl⟩
    · simp at h
  · rename_i st n xs e
    obtain ⟨zv, h1, h2⟩ := zeroOf_sound e
    split at h
    · rename_i hall
      simp only [Option.some.injEq] at h
      subst h
      obtain ⟨_, l1, l2, h3, ⟨h4, h5⟩, h6⟩ := h2 (fun _ _ => none)
      have : l2 = [] := h6
      subst this
      have hxs : xs = List.replicate n false := by
        rw [← h4]
        exact List.eq_replicate_iff.2 ⟨rfl, fun x hx => by simpa using List.all_eq_true.1 hall x hx⟩
      subst hxs
      refine ⟨zv, .bool false, h1, by rw [h3, h5]; simp [Zk.len], fun ρ j => ⟨by simp, by simp [Zk.len]⟩, fun j => rfl⟩
    · simp at h
  · rename_i st b e
    obtain ⟨zv, h1, h2⟩ := zeroOf_sound e
    simp only [Option.some.injEq] at h
    subst h
    obtain ⟨_, l1, l2, h3, ⟨h4, v, l', rfl, hv, h7⟩, h6⟩ := h2 (fun _ _ => none)
    have e2 : l2 = [] := h6
    have e3 : l' = [] := h7
    subst e2
    subst e3
    refine ⟨zv, v, h1, by rw [h3]; rfl, fun ρ j => ?_, fun j => by simp [zeroArr, Sg.len, Zk.len]⟩
    have hv2 : RelAt ρ b v := by
      obtain ⟨_, l1, l2, h3', ⟨h4, v', l', rfl, hv', h7⟩, h6⟩ := h2 ρ
      have e2 : l2 = [] := h6
      have e3 : l' = [] := h7
      subst e2
      subst e3
      rw [h3] at h3'
      simp at h3'
      subst h3'
      exact hv'
    refine ⟨by simp, ?_⟩
    simp only [Zk.len, Nat.mul_one]
    induction j with
    | zero => rfl
    | succ j ih => exact ⟨v, _, rfl, hv2, ih⟩
  · simp at h

theorem zeros_eq {zv : Value} {c : Value} {k n : Nat} (h : zv.cells.toList = List.replicate k c) (hk : 0 < k) : ((Array.range n).map (zv.cells[· % zv.cells.size]!)).toList = List.replicate n c := by
  have hs : zv.cells.size = k := by rw [← Array.length_toList, h]; simp
  refine List.eq_replicate_iff.2 ⟨by simp, fun x hx => ?_⟩
  simp only [Array.toList_map, List.mem_map] at hx
  obtain ⟨j, _, rfl⟩ := hx
  have hlt : j % zv.cells.size < zv.cells.size := Nat.mod_lt _ (by omega)
  rw [getElem!_pos zv.cells _ hlt]
  have : zv.cells[j % zv.cells.size] ∈ zv.cells.toList := by simp
  rw [h] at this
  exact List.eq_of_mem_replicate this

theorem rel_one {g : Sg} {l : List Value} (h : RelSg ρ g l) : RelSegs ρ 0 [(0, g)] l := ⟨rfl, l, [], by simp, h, rfl⟩

theorem rel_new_sl {b len cap esz : Nat} {p : Nat × Nat × Nat} (hp : p.1 = b) (h0 : p.2.1 = 0) (hl : len ≤ cap) (hc : cap * esz ≤ p.2.2) : RelV (more ρ m.next 0 p) (.ref (.sl m.next 0 0 0 len esz)) (.slice (some ⟨b, 0, none⟩) len cap) := by
  simp only [RelV, RelAt]
  exact ⟨p, cap, by simp [more], hl, .inl ⟨by simp [hp, h0], by omega⟩⟩

theorem ok_buildSlice {o : Oper} {t : TypeId} {len : Nat} {parts : Array (Nat × Operand)} {K : Segs → Nat → Prop} (c : Ctx ρ own env m a w) (ho : o.op = .buildSlice t len parts) (hk : abuildSlice P t len env parts.toList K) :
    ∃ gs esz, K gs esz ∧ OpOk P ρ own m a w o (.ref (.sl m.next 0 0 0 len esz)) [((m.next, 0), .lv true gs)] := by
  unfold abuildSlice at hk
  split at hk
  · rename_i esz bytes z e1 e2
    obtain ⟨h0, hz, hmax, hk⟩ := hk
    obtain ⟨e, hu, he, _, hel⟩ := tyOf_sl e1
    rw [hel] at e2
    obtain ⟨zv, cc, h1, h2, h3, h4⟩ := zeroEl_sound e2
    subst he
    have hzl : 0 < z.len := by omega
    have hmade : ∃ cells : Array Value, cells.toList = List.replicate (len * szOf P e) cc ∧
        (if len * szOf P e = 0 then pure #[] else do pure (← zeroValue e).cells : Sem (Array Value)).run P w = .ok (if len * szOf P e = 0 then #[] else zv.cells) w ∧
        (Array.range (len * szOf P e)).map ((if len * szOf P e = 0 then #[] else zv.cells)[· % (if len * szOf P e = 0 then (#[] : Array Value) else zv.cells).size]!) = cells := by
      by_cases hn : len * szOf P e = 0
      · exact ⟨#[], by simp [hn], by simp [hn], by simp [hn]⟩
      · refine ⟨_, zeros_eq h2 hzl, by simp [hn, run_zeroValue h1], by simp [hn]⟩
    obtain ⟨cells, hc1, hc2, hc3⟩ := hmade
    have hrel : RelSegs ρ 0 [(0, zeroArr len z)] cells.toList := by rw [hc1, ← hz]; exact rel_one (h3 ρ len)
    obtain ⟨gs', out, hK, hfill, hr, hsz⟩ := aparts_sound (place := fun i => some (i * szOf P e, szOf P e)) c (fun j st off s h => by simp at h ⊢; omega) hrel hk
    have hcs : cells.size = len * szOf P e := by rw [← Array.length_toList, hc1]; simp
    refine ⟨gs', szOf P e, hK, OpOk.value (new_ups c) (val := .slice (some ⟨w.heap.size, 0, none⟩) len len) ?_ (After.new (T := e) (arr := out) (l := out.toList) (post := []) c (by simp) hr (rel_new_sl rfl rfl (Nat.le_refl _) (by simp [hsz, hcs])))⟩
    simp only [execOp, ho]
    refine run_v ?_
    have hno : ¬ (16777216 < len * szOf P e) := by omega
    simp only [Instr.buildSlice, Sem.run_bind, run_underlying hu, Result.andThen_ok, run_sizeOf (isSome_of_pos h0)]
    rw [if_neg (by simpa using hno)]
    by_cases hn : len * szOf P e = 0
    · rw [if_pos hn]
      simp only [if_pos hn] at hc3
      simp only [Sem.run_pure, Result.andThen_ok, Sem.run_bind, hc3, Array.toList_map, hfill]
      rfl
    · rw [if_neg hn]
      simp only [if_neg hn] at hc3
      simp only [Sem.run_pure, Result.andThen_ok, Sem.run_bind, run_zeroValue h1, hc3, Array.toList_map, hfill]
      rfl
  · exact hk.elim

theorem ok_makeSlice {o : Oper} {t : TypeId} {x y : Operand} {K : AV → Ups → List Id → Prop} (c : Ctx ρ own env m a w) (ho : o.op = .makeSlice t x y) (hk : amakeSlice P t m (aev env x) (aev env y) K) :
    ∃ v ups rd, K v ups rd ∧ OpOk P ρ own m a w o v ups := by
  have hx := aev_sound c.env x
  have hy := aev_sound c.env y
  unfold amakeSlice at hk
  split at hk
  · rename_i esz bytes z n n' e1 e2 e3 e4
    rw [e3] at hx
    rw [e4] at hy
    simp only [RelV] at hx hy
    obtain ⟨h0, hb0, hz, hn, rfl, hmax, hk⟩ := hk
    obtain ⟨e, hu, he, hby, hel⟩ := tyOf_sl e1
    rw [hel] at e2
    obtain ⟨zv, cc, h1, h2, h3, h4⟩ := zeroEl_sound e2
    subst he
    subst hby
    have hzl : 0 < z.len := by omega
    obtain ⟨i, hi, his⟩ := szOf_pos h0
    have hib : i.bytes = bytesOf P e := by simp [bytesOf, hi]
    have hz2 : i.zero = some zv := by simpa [hi] using h1
    have hn63 : n ≤ 9223372036854775807 := by
      have : n * 1 ≤ n * (bytesOf P e : Int) := Int.mul_le_mul_of_nonneg_left (by omega) hn
      omega
    have hrun := run_make (P := P) w t e i zv hu hi hz2 .i64 .i64 n n hn (Int.le_refl _) (by rw [hib, Int.mul_comm]; omega) hn63
    refine ⟨_, _, _, hk, OpOk.value (new_ups c) ?_ (After.new (T := e) (arr := madeCells zv.cells (n.toNat * i.size)) (l := (madeCells zv.cells (n.toNat * i.size)).toList) (post := []) c (by simp) ?_ (rel_new_sl (cap := n.toNat) rfl rfl (Nat.le_refl _) (by simp [size_madeCells, his])))⟩
    · simp only [execOp, ho, hx, hy]
      exact run_v hrun
    · unfold madeCells
      rw [zeros_eq h2 hzl, his, ← hz]
      exact rel_one (h3 ρ n.toNat)
  · exact hk.elim

theorem ok_len {o : Oper} {args : Array Operand} {t : TypeId} {x : Operand} {K : AV → Prop} (c : Ctx ρ own env m a w) (ho : o.op = .call { callee := .builtin .len, args := #[x], argTypes := #[t] }) (hk : alen P t (aev env x) K) :
    ∃ v, K v ∧ OpOk P ρ own m a w o v [] := by
  have hx := aev_sound c.env x
  have fin : ∀ n : Int, K (.i .i64 n) → (Builtin.len_ #[t] o.type #[a.eval x]).run P w = .ok (.int .i64 n) w → ∃ v, K v ∧ OpOk P ρ own m a w o v [] := by
    intro n hK hr
    refine ⟨_, hK, OpOk.pure (val := .int .i64 n) c ?_ (by simp [RelV])⟩
    simp only [execOp, ho, resolve, Sem.run_bind, Sem.run_pure, Result.andThen_ok, invoke, builtin, List.map_toArray, List.map_cons, List.map_nil, hr]
  unfold alen at hk
  split at hk
  · rename_i esz bytes a' k st off n esz' e1 e2
    rw [e2] at hx
    simp only [RelV, RelAt] at hx
    obtain ⟨p, cap, hp, hc, hv⟩ := hx
    obtain ⟨e, hu, _⟩ := tyOf_sl e1
    rcases hv with ⟨hv, _⟩ | ⟨hz, ad, hv⟩
    · exact fin _ hk (by simp [Builtin.len_, run_underlying hu, hv, goInt])
    · exact fin _ hk (by simp [Builtin.len_, run_underlying hu, hv, goInt, hz])
  · rename_i esz bytes e1 e2
    rw [e2] at hx
    simp only [RelV, RelAt] at hx
    obtain ⟨e, hu, _⟩ := tyOf_sl e1
    exact fin _ hk (by simp [Builtin.len_, run_underlying hu, hx, goInt])
  · rename_i esz bytes e1 e2
    rw [e2] at hx
    simp only [RelV, RelAt] at hx
    obtain ⟨ad, cap, hx⟩ := hx
    obtain ⟨e, hu, _⟩ := tyOf_sl e1
    exact fin _ hk (by simp [Builtin.len_, run_underlying hu, hx, goInt])
  · rename_i n esz sz e1
    obtain ⟨e, hu, _⟩ := tyOf_arr e1
    exact fin _ hk (by cases hv : a.eval x <;> simp [Builtin.len_, run_underlying hu, goInt])
  · rename_i s e1 e2
    rw [e2] at hx
    simp only [RelV, RelAt] at hx
    have hu := tyOf_str e1
    exact fin _ hk (by simp [Builtin.len_, run_underlying hu, hx, goInt])
  · exact hk.elim

end
end Go.Abs
