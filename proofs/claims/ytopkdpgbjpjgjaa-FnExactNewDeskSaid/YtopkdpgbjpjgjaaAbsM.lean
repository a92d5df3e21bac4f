/-
A region that draws its order; then bodies and whole functions: the abstract walk is sound.
-/
import Derived.Test.YtopkdpgbjpjgjaaAbsL
namespace Go.Abs
open Go
set_option linter.unusedVariables false
set_option linter.unusedSectionVars false
set_option linter.unusedSimpArgs false
set_option linter.defProp false

theorem disj_false {a b : List Id} {p : Id} (h1 : p ∈ a) (h2 : p ∈ b) : disj a b = false := by
  unfold disj
  cases h : a.all fun p => !b.contains p with
  | false => rfl
  | true =>
    have := List.all_eq_true.1 h p h1
    simp [h2] at this

section
variable {P : Program} {own : Nat → Prop} {N n0 : Nat} {ρ0 : Rho} {w0 : World}

structure DI (all : List Oper) (outs : List Out3) (E0 : Env) (m0 : Mem) (own : Nat → Prop) (N : Nat) (ρ0 : Rho) (w0 : World) (listed : Array Bool) (ρ : Rho) (a : Act) (w : World) : Prop where
  len : listed.size = all.length
  closed : Closed all (fun i => listed.getD i false)
  env : RelE ρ (envS all outs E0 (fun i => listed.getD i false) all.length) a
  mem : MemRel ρ own (memS outs m0 (fun i => listed.getD i false) all.length).get w
  names : ∀ x k, m0.next ≤ x → (∀ i, i < all.length → x = m0.next + i → listed.getD i false = false) → ρ x k = none
  ownf : ∀ b, w.heap.size ≤ b → own b
  size : a.tmps.size = N
  defers : a.defers = []
  base : ∀ k, ρ 0 k = ρ0 0 k
  kept : Kept own w0 w

theorem ready_ne {all : List Oper} (he : edgesOk all = true) {listed : Array Bool} (hl : listed.size = all.length) :
    ∀ j, j < all.length → listed.getD j false = false → Region.ready .any all.toArray listed ≠ [] := by
  intro j
  induction j using Nat.strongRecOn with
  | _ j ih =>
    intro hj hf
    by_cases hex : ∃ i, i < j ∧ listed.getD i false = false
    · obtain ⟨i, hi, hfi⟩ := hex
      exact ih i hi (by omega) hfi
    · have hmem : j ∈ Region.ready .any all.toArray listed := by
        refine mem_ready.2 ⟨?_, all[j], by simp [hj], fun e hem hb => ?_⟩
        · simp only [Array.getD_eq_getD_getElem?] at hf ⊢
          have : j < listed.size := by omega
          simp [this] at hf ⊢
          exact hf
        · have hon : e.on < j := by
            unfold edgesOk at he
            have := List.all_eq_true.1 he j (List.mem_range.2 hj)
            simp only [List.getElem?_eq_getElem hj] at this
            have := List.all_eq_true.1 this e (by simpa using hem)
            simpa [hb] using this
          cases hq : listed.getD e.on false with
          | true => rfl
          | false => exact absurd ⟨e.on, hon, hq⟩ hex
      intro h0
      rw [h0] at hmem
      cases hmem

theorem slotsOk_spec {all : List Oper} (h : slotsOk all = true) {i j : Nat} {oi oj : Oper} (hi : all[i]? = some oi) (hj : all[j]? = some oj) (hne : i ≠ j) {t : Nat} (hd : oi.dst = some t) (hl : t ∈ looks all oj ∨ oj.dst = some t) :
    if i < j then ordB all i j = true else ordB all j i = true := by
  have hi' := (List.getElem?_eq_some_iff.1 hi).1
  have hj' := (List.getElem?_eq_some_iff.1 hj).1
  unfold slotsOk at h
  have h1 := List.all_eq_true.1 h j (List.mem_range.2 hj')
  have h2 := List.all_eq_true.1 h1 i (List.mem_range.2 hi')
  simp only [hi, hj, hd] at h2
  simp only [Bool.or_eq_true, beq_iff_eq] at h2
  rcases h2 with (h2 | h2) | h2
  · exact absurd h2 hne
  · exfalso
    simp only [Bool.not_eq_true', Bool.or_eq_false_iff, List.contains_eq_mem, decide_eq_false_iff_not, beq_eq_false_iff_ne, ne_eq] at h2
    rcases hl with hl | hl
    · exact h2.1 hl
    · exact h2.2 hl
  · unfold ordB
    split at h2
    · rename_i hc; rw [if_pos hc]; exact h2
    · rename_i hc; rw [if_neg hc]; exact h2

theorem getD_set (listed : Array Bool) (i j : Nat) (h : i < listed.size) : (listed.setIfInBounds i true).getD j false = (if j = i then true else listed.getD j false) := by
  simp only [Array.getD_eq_getD_getElem?]
  by_cases hc : j = i
  · subst hc; simp [h]
  · rw [if_neg hc, Array.getElem?_setIfInBounds_ne (Ne.symm hc)]

theorem draw_any {Q : Exit → Act → World → Prop} {all : List Oper} {K : Env → Mem → Prop} {outs : List Out3} {E0 : Env} {m0 : Mem} (hd : dstsOk N all = true) (hs : slotsOk all = true) (he : edgesOk all = true) (hnz : 0 < m0.next) (ha0 : m0.args.length = n0)
    (hfin : ∃ mf, mf.next = m0.next + all.length ∧ mf.args.length = m0.args.length ∧ (∀ p : Id, mf.get p.1 p.2 = (memS outs m0 (fun _ => true) all.length).get p.1 p.2) ∧ K (envS all outs E0 (fun _ => true) all.length) mf)
    (hfacts : ∀ i, i < all.length → ∃ o x mi, all[i]? = some o ∧ outs[i]? = some x ∧ mi.next = m0.next + i ∧ mi.args.length = m0.args.length ∧ (∀ p : Id, mi.get p.1 p.2 = (memS outs m0 (fun _ => true) i).get p.1 p.2) ∧
      Stepped P all o (envS all outs E0 (fun _ => true) i) mi x ∧ (∀ i' y, i' < i → outs[i']? = some y → Cond all y (idsU x.2.1) x.2.2 i' i))
    (hQ : ∀ ρ env m a w, St ρ own N n0 ρ0 w0 env m a w → K env m → Q .normal a w) :
    ∀ (fuel : Nat) (listed : Array Bool) (ρ : Rho) (a : Act) (w : World), DI all outs E0 m0 own N ρ0 w0 listed ρ a w → wpAny P .any all.toArray Q fuel listed a w ∨ fuel < (listed.toList.countP (· == false)) := by
  have final : ∀ (listed : Array Bool) (ρ : Rho) (a : Act) (w : World), DI all outs E0 m0 own N ρ0 w0 listed ρ a w → Region.ready .any all.toArray listed = [] → Q .normal a w := by
    intro listed ρ a w d hr
    have hall : ∀ i, i < all.length → listed.getD i false = true := by
      intro i hi
      cases hq : listed.getD i false with
      | true => rfl
      | false => exact absurd hr (ready_ne he d.len i hi hq)
    obtain ⟨mf, h1, h2, h3, h4⟩ := hfin
    have e1 : envS all outs E0 (fun i => listed.getD i false) all.length = envS all outs E0 (fun _ => true) all.length := envS_ext _ hall
    have e2 : memS outs m0 (fun i => listed.getD i false) all.length = memS outs m0 (fun _ => true) all.length := memS_ext _ hall
    have e3 : mf.get = (memS outs m0 (fun i => listed.getD i false) all.length).get := by
      funext x k
      rw [e2]
      exact h3 (x, k)
    refine hQ ρ _ mf a w ⟨by rw [← e1]; exact d.env, by rw [e3]; exact d.mem, fun x k hx => d.names x k (by omega) (fun i hi hxi => by omega), by omega, d.ownf, d.size, d.defers, d.base, by rw [h2, ha0], d.kept⟩ h4
  intro fuel
  induction fuel with
  | zero =>
    intro listed ρ a w d
    by_cases hc : listed.toList.countP (· == false) = 0
    · left
      have hr : Region.ready .any all.toArray listed = [] := by
        cases hq : Region.ready .any all.toArray listed with
        | nil => rfl
        | cons x r =>
          have hx : x ∈ Region.ready .any all.toArray listed := by rw [hq]; simp
          obtain ⟨h1, o, h2, _⟩ := mem_ready.1 hx
          have hlt : x < listed.size := by
            rw [d.len]
            have := (Array.getElem?_eq_some_iff.1 h2).1
            simpa using this
          have hfalse : listed[x] = false := by simpa [Array.getD, hlt] using h1
          have hz := List.countP_eq_zero.1 hc listed[x] (by simp)
          rw [hfalse] at hz
          simp at hz
      exact ⟨hr, final listed ρ a w d hr⟩
    · right; omega
  | succ fuel ih =>
    intro listed ρ a w d
    by_cases hcnt : fuel + 1 < listed.toList.countP (· == false)
    · exact .inr hcnt
    · left
      refine ⟨final listed ρ a w d, fun i hi => ?_⟩
      obtain ⟨hun, o', ho', hedges⟩ := mem_ready.1 hi
      have hin : i < all.length := by
        have := (Array.getElem?_eq_some_iff.1 ho').1
        simpa using this
      have hil : i < listed.size := by rw [d.len]; exact hin
      obtain ⟨o, x, mi, ho, hx, hmn, hma, hmg, hst, hcond⟩ := hfacts i hin
      have hoo : o' = o := by
        have : all[i]? = some o' := by simpa using ho'
        rw [ho] at this
        exact (Option.some.inj this).symm
      subst hoo
      have hSi : listed.getD i false = false := by
        simpa [Array.getD, hil] using hun
      have hclosed' : Closed all (fun k => (listed.setIfInBounds i true).getD k false) := by
        intro j oj hj hoj e hem hb
        simp only [getD_set listed i _ hil] at hj ⊢
        split
        · rfl
        · by_cases hji : j = i
          · subst hji
            rw [ho] at hoj
            obtain rfl := Option.some.inj hoj
            exact hedges e (by simpa using hem) hb
          · rw [if_neg hji] at hj
            exact d.closed j oj hj hoj e hem hb
      have hbefore : ∀ k, k ≠ i → ordB all k i = true → listed.getD k false = true := by
        intro k hk ho
        have := hclosed'.ord i k ho (by simp only [getD_set listed i _ hil, if_true])
        simpa only [getD_set listed i _ hil, if_neg hk] using this
      have hafter : ∀ k, ordB all i k = true → listed.getD k false = false := by
        intro k ho
        cases hq : listed.getD k false with
        | false => rfl
        | true =>
          have := d.closed.ord k i ho hq
          rw [hSi] at this
          cases this
      have hslot : ∀ t, (t ∈ looks all o' ∨ o'.dst = some t) → ∀ k, k < all.length → k ≠ i → dstA all k = some t → listed.getD k false = decide (k < i) := by
        intro t ht k hk hki hdk
        unfold dstA at hdk
        cases hok : all[k]? with
        | none => simp [hok] at hdk
        | some ok =>
          simp only [hok, Option.bind_some] at hdk
          have := slotsOk_spec hs hok ho hki hdk ht
          split at this
          · rename_i hlt; rw [hbefore k hki this]; simp [hlt]
          · rename_i hlt; rw [hafter k this]; simp [hlt]
      have hmemc : ∀ p, (p ∈ x.2.2 ∨ p ∈ idsU x.2.1) → ∀ k, k < all.length → k ≠ i → p ∈ idsU (outU outs k) → listed.getD k false = decide (k < i) := by
        intro p hp k hk hki hpk
        obtain ⟨ok, xk, mk, hok, hxk, _, _, _, _, hck⟩ := hfacts k hk
        have hu : outU outs k = xk.2.1 := by simp [outU, hxk]
        rw [hu] at hpk
        by_cases hlt : k < i
        · have hc := hcond k xk hlt hxk
          unfold Cond at hc
          have hf : (disj (idsU xk.2.1) x.2.2 && disj (idsU xk.2.1) (idsU x.2.1) && disj xk.2.2 (idsU x.2.1)) = false := by
            rcases hp with hp | hp
            · simp [disj_false hpk hp]
            · simp [disj_false hpk hp]
          rw [hf] at hc
          rw [hbefore k hki (by simpa using hc)]
          simp [hlt]
        · have hc := hck i x (by omega) hx
          unfold Cond at hc
          have hf : (disj (idsU x.2.1) xk.2.2 && disj (idsU x.2.1) (idsU xk.2.1) && disj x.2.2 (idsU xk.2.1)) = false := by
            rcases hp with hp | hp
            · simp [disj_false hp hpk]
            · simp [disj_false hp hpk]
          rw [hf] at hc
          rw [hafter k (by simpa using hc)]
          simp [hlt]
      -- the state of the text at i
      have etext : ∀ t, lk (envS all outs E0 (fun _ => true) i) t = lk (envS all outs E0 (fun k => decide (k < i)) all.length) t := by
        intro t
        rw [envS_ext (S' := fun k => decide (k < i)) i (fun k hk => by simp [hk])]
        obtain ⟨d', hd'⟩ : ∃ d', all.length = i + d' := ⟨all.length - i, by omega⟩
        rw [hd', envS_stop d' (fun k h1 h2 => by simp; omega)]
      have mtext : ∀ p : Id, (memS outs m0 (fun _ => true) i).get p.1 p.2 = (memS outs m0 (fun k => decide (k < i)) all.length).get p.1 p.2 := by
        intro p
        rw [memS_ext (S' := fun k => decide (k < i)) i (fun k hk => by simp [hk])]
        obtain ⟨d', hd'⟩ : ∃ d', all.length = i + d' := ⟨all.length - i, by omega⟩
        rw [hd', memS_stop d' (fun k h1 h2 => by simp; omega)]
      have hagree : ∀ t, t ∈ looks all o' → lk (envS all outs E0 (fun k => listed.getD k false) all.length) t = lk (envS all outs E0 (fun _ => true) i) t := by
        intro t ht
        rw [etext]
        refine envS_congr _ fun k hk hdk => ?_
        by_cases hki : k = i
        · subst hki; simp only [hSi]; simp
        · exact hslot t (.inl ht) k hk hki hdk
      let mL : Mem := { memS outs m0 (fun k => listed.getD k false) all.length with next := m0.next + i }
      have hmL : ∀ p : Id, (p ∈ x.2.2 ∨ p ∈ idsU x.2.1) → mL.get p.1 p.2 = mi.get p.1 p.2 := by
        intro p hp
        rw [hmg, mtext]
        show (memS outs m0 (fun k => listed.getD k false) all.length).get p.1 p.2 = _
        refine memS_congr _ fun k hk hpk => ?_
        by_cases hki : k = i
        · subst hki; simp only [hSi]; simp
        · exact hmemc p hp k hk hki hpk
      have hdst : ∀ dd, o'.dst = some dd → dd < N := by
        intro dd hdd
        unfold dstsOk at hd
        have := List.all_eq_true.1 hd o' (List.mem_of_getElem? ho)
        rw [hdd] at this
        simpa using this
      have hfresh : ∀ k, ρ (m0.next + i) k = none := by
        intro k
        refine d.names _ k (by omega) (fun j hj hxj => ?_)
        have : j = i := by omega
        rw [this]
        exact hSi
      have hctx : Ctx ρ own (envS all outs E0 (fun k => listed.getD k false) all.length) mL a w :=
        ⟨d.env, d.mem, hfresh, by show m0.next + i ≠ 0; omega, d.ownf⟩
      -- behind the operation
      have next : ∀ val w' ρ', (∀ y ∈ x.2.1, y.1.1 = 0 → y.1.2 < mL.args.length) → After ρ own mL x.2.1 x.1 w val w' ρ' → wpAny P .any all.toArray Q fuel (listed.setIfInBounds i true) (a.put o'.dst val) w' := by
        intro val w' ρ' hup h
        have hcnt' : (listed.setIfInBounds i true).toList.countP (· == false) = listed.toList.countP (· == false) - 1 := by
          rw [Array.toList_setIfInBounds, List.countP_set]
          · have h5 : listed.toList[i]'(by simpa using hil) = false := by simpa [Array.getD, hil] using hun
            rw [h5]
            simp
          · simpa using hil
        have hpos : 0 < listed.toList.countP (· == false) := by
          refine List.countP_pos_iff.2 ⟨false, ?_, by simp⟩
          have : listed[i] = false := by simpa [Array.getD, hil] using hun
          rw [← this]
          simp
        refine (ih (listed.setIfInBounds i true) ρ' (a.put o'.dst val) w' ?_).resolve_right (by omega)
        refine ⟨by simpa using d.len, hclosed', ?_, ?_, fun y k hy hfree => ?_, fun b hb => d.ownf b (Nat.le_trans h.kept.grows hb), by rw [put_size]; exact d.size, by rw [put_defers]; exact d.defers, fun k => ?_, d.kept.trans h.kept⟩
        · have hput : RelE ρ' (setD (envS all outs E0 (fun k => listed.getD k false) all.length) o'.dst x.1) (a.put o'.dst val) :=
            d.env.put h.le (fun dd hdd => by rw [d.size]; exact hdst dd hdd) h.val
          intro t
          have : lk (envS all outs E0 (fun k => (listed.setIfInBounds i true).getD k false) all.length) t = lk (setD (envS all outs E0 (fun k => listed.getD k false) all.length) o'.dst x.1) t := by
            rw [lk_setD]
            by_cases hdt : o'.dst = some t
            · rw [if_pos hdt]
              rw [envS_congr (S' := fun k => decide (k < i + 1)) all.length (fun k hk hdk => by
                simp only [getD_set listed i k hil]
                by_cases hki : k = i
                · subst hki; simp
                · rw [if_neg hki, hslot t (.inr hdt) k hk hki hdk]
                  have : (k < i) ↔ (k < i + 1) := by omega
                  simp [this])]
              obtain ⟨d', hd'⟩ : ∃ d', all.length = i + 1 + d' := ⟨all.length - (i + 1), by omega⟩
              rw [hd', envS_stop d' (fun k h1 h2 => by simp; omega)]
              simp only [envS]
              rw [if_pos (by simp)]
              have hda : dstA all i = some t := by simp [dstA, ho, hdt]
              rw [lk_setD, if_pos hda]
              simp [outV, hx]
            · rw [if_neg hdt]
              refine envS_congr _ fun k hk hdk => ?_
              simp only [getD_set listed i k hil]
              rw [if_neg]
              rintro rfl
              apply hdt
              simpa [dstA, ho] using hdk
          rw [this]
          exact hput t
        · have hge : (memS outs m0 (fun k => (listed.setIfInBounds i true).getD k false) all.length).get = fupds mL.get x.2.1 := by
            rw [← Mem.get_upd _ _ hup]
            funext b k
            have key : ∀ p : Id, (memS outs m0 (fun k => (listed.setIfInBounds i true).getD k false) all.length).get p.1 p.2 = (mL.upd x.2.1).get p.1 p.2 := by
              intro p
              by_cases hp : p ∈ idsU x.2.1
              · rw [memS_congr (S' := fun k => decide (k < i + 1)) all.length (fun k hk hpk => by
                  simp only [getD_set listed i k hil]
                  by_cases hki : k = i
                  · subst hki; simp
                  · rw [if_neg hki, hmemc p (.inr hp) k hk hki hpk]
                    have : (k < i) ↔ (k < i + 1) := by omega
                    simp [this])]
                obtain ⟨d', hd'⟩ : ∃ d', all.length = i + 1 + d' := ⟨all.length - (i + 1), by omega⟩
                rw [hd', memS_stop d' (fun k h1 h2 => by simp; omega)]
                simp only [memS]
                rw [if_pos (by simp)]
                have hu : outU outs i = x.2.1 := by simp [outU, hx]
                rw [hu]
                exact upd_get_same _ _ _ _ (by rw [memS_args]; exact (memS_args _).symm) (.inl hp)
              · rw [upd_get_ne _ _ _ hp]
                show _ = (memS outs m0 (fun k => listed.getD k false) all.length).get p.1 p.2
                refine memS_congr _ fun k hk hpk => ?_
                simp only [getD_set listed i k hil]
                rw [if_neg]
                rintro rfl
                apply hp
                simpa [outU, hx] using hpk
            exact key (b, k)
          rw [hge]
          exact h.mem
        · have hyi : y ≠ m0.next + i := by
            intro e
            have := hfree i hin e
            rw [getD_set listed i i hil, if_pos rfl] at this
            cases this
          rw [h.only y k hyi]
          refine d.names y k hy fun j hj hyj => ?_
          have := hfree j hj hyj
          rw [getD_set listed i j hil] at this
          split at this
          · cases this
          · exact this
        · rw [h.only 0 k (by show 0 ≠ m0.next + i; omega)]
          exact d.base k
      have hout : Out P o'.op (envS all outs E0 (fun _ => true) i) mi x.1 x.2.1 x.2.2 → o'.wp P a w (wpAny P .any all.toArray Q fuel (listed.setIfInBounds i true)) Q := by
        intro h
        have h2 := Out_mem (m' := mL) hmL (by show m0.next + i = mi.next; rw [hmn]) h
        have h3 := Out_env (env' := envS all outs E0 (fun k => listed.getD k false) all.length) (fun t ht => hagree t (by
          unfold looks
          exact List.mem_append_left _ (List.mem_filterMap.2 ⟨.tmp t, by simpa using ht, rfl⟩))) h2
        refine aop_sound hctx h3.aop _ _ fun v ups rd val w' ρ' hX hup hA => ?_
        obtain ⟨rfl, rfl, rfl⟩ := hX
        exact next val w' ρ' hup hA
      unfold wpOp
      rw [ho']
      simp only
      unfold Stepped at hst
      cases hg : o'.guard with
      | none =>
        rw [hg] at hst
        rw [if_pos (by simp [Region.wanted, hg])]
        exact .inl (hout hst)
      | some gw =>
        obtain ⟨g, want⟩ := gw
        rw [hg] at hst
        obtain ⟨t, h1, h2⟩ := hst
        have hl : t ∈ looks all o' := by
          unfold looks
          rw [hg]
          exact List.mem_append_right _ (by simp [h1])
        rcases h2 with ⟨b, h2, h3⟩ | ⟨h2, h3⟩
        · have hy := yielded_of d.env h1 (x := b) (by rw [hagree t hl]; exact h2)
          by_cases hc : b = want
          · rw [if_pos hc] at h3
            rw [if_pos (by simp [Region.wanted, hg, hy, hc])]
            exact .inl (hout h3)
          · rw [if_neg hc] at h3
            rw [if_neg (by simp [Region.wanted, hg, hy, hc])]
            subst h3
            exact next undef w ρ (by simp) ⟨Le.refl ρ, fun _ _ _ => rfl, by simp [RelV, RelVs, undef], d.mem, Kept.refl own w⟩
        · have hy := yielded_none d.env h1 (by rw [hagree t hl]; exact h2)
          rw [if_neg (by simp [Region.wanted, hg, hy])]
          subst h3
          exact next undef w ρ (by simp) ⟨Le.refl ρ, fun _ _ _ => rfl, by simp [RelV, RelVs, undef], d.mem, Kept.refl own w⟩

theorem aops_draw {Q : Exit → Act → World → Prop} {all : List Oper} {K : Env → Mem → Prop} {ρ : Rho} {env : Env} {m : Mem} {a : Act} {w : World} (hd : dstsOk N all = true) (hs : slotsOk all = true) (he : edgesOk all = true)
    (hQ : ∀ ρ env m a w, St ρ own N n0 ρ0 w0 env m a w → K env m → Q .normal a w) (s : St ρ own N n0 ρ0 w0 env m a w) (hk : aops P true all all 0 [] env m K) :
    wpAny P .any all.toArray Q all.toArray.size (Array.replicate all.toArray.size false) a w := by
  obtain ⟨outs, _, hlen, hdf⟩ := drun all [] env m [] (fun j wr rd _ i y hy => by simp at hy) (by simpa using hk)
  have hf := DF_facts (m0 := m) (E0 := env) (outs := outs) all 0 m (fun k o h => by simpa using h) (by simp) rfl (fun p => rfl) (show DF P all K all 0 outs env m by simpa using hdf)
  obtain ⟨hfin, hfacts⟩ := hf
  simp only [Nat.zero_add] at hfin hfacts
  have hstart : ∀ i, (Array.replicate all.toArray.size false).getD i false = false := by
    intro i
    simp only [Array.getD_eq_getD_getElem?, Array.getElem?_replicate]
    split <;> rfl
  have hS : (fun i => (Array.replicate all.toArray.size false).getD i false) = fun _ => false := funext hstart
  have henv : envS all outs env (fun _ => false) all.length = env := by
    have : ∀ k, envS all outs env (fun _ => false) k = env := by
      intro k
      induction k with
      | zero => rfl
      | succ k ih => simp [envS, ih]
    exact this _
  have hmem : memS outs m (fun _ => false) all.length = m := by
    have : ∀ k, memS outs m (fun _ => false) k = m := by
      intro k
      induction k with
      | zero => rfl
      | succ k ih => simp [memS, ih]
    exact this _
  have hdi : DI all outs env m own N ρ0 w0 (Array.replicate all.toArray.size false) ρ a w := by
    refine ⟨by simp, ?_, ?_, ?_, fun x k hx _ => s.fresh x k hx, s.ownf, s.size, s.defers, s.base, s.kept⟩
    · intro j o hj
      have hj' : (Array.replicate all.toArray.size false).getD j false = true := hj
      rw [hstart] at hj'
      cases hj'
    · rw [hS, henv]; exact s.env
    · rw [hS, hmem]; exact s.mem
  refine (draw_any hd hs he s.nz s.args hfin (fun i hi => hfacts i (Nat.zero_le _) hi) hQ _ _ ρ a w hdi).resolve_right ?_
  have : (Array.replicate all.toArray.size false).toList.countP (· == false) ≤ all.toArray.size := by
    refine Nat.le_trans List.countP_le_length ?_
    simp
  omega
end
end Go.Abs
