/- A symbolic walk, part nine: the whole is sound. -/
import Derived.Test.YtgoilclgehipmaaSXw
namespace Go.Proofs.Ytgoilclgehipmaa.SX
set_option linter.unusedVariables false
set_option linter.unusedSimpArgs false
open Go Go.RowKit
variable {P : Program}
theorem least {p : Nat → Prop} : ∀ n, p n → ∃ m, p m ∧ ∀ j, j < m → ¬ p j := by
  intro n
  induction n using Nat.strongRecOn with
  | _ n ih =>
    intro h
    by_cases e : ∃ j, j < n ∧ p j
    · obtain ⟨j, hj, hp⟩ := e
      exact ih j hj hp
    · exact ⟨n, h, fun j hj hp => e ⟨j, hj, hp⟩⟩
/-- A loop, round by round, with a bound on the rounds. -/
theorem loop_iter {F : Fence} {b : Code} {Q : Exit → Act → World → Prop} (G : Nat → Act → World → Prop) (h0 : ∀ a w, ¬ G 0 a w) (hs : ∀ n a w, G (n + 1) a w → b.wpIn F 0 P (Exit.then (G n) Q) a w) {n : Nat} {a : Act} {w : World} (h : G n a w) : (Code.loop b).wpIn F 0 P Q a w := by
  classical
  let μ : Act → World → Nat := fun a w => if h : ∃ n, G n a w then Classical.choose (least (p := fun n => G n a w) h.choose h.choose_spec) else 0
  have hμ : ∀ a w, (∃ n, G n a w) → G (μ a w) a w ∧ ∀ j, j < μ a w → ¬ G j a w := by
    intro a w h
    have := Classical.choose_spec (least (p := fun n => G n a w) h.choose h.choose_spec)
    simp only [μ, dif_pos h]
    exact this
  refine wpIn_loop (fun a w => ∃ n, G n a w) μ ⟨n, h⟩ fun a w hI => ?_
  obtain ⟨h1, h2⟩ := hμ a w hI
  cases hm : μ a w with
  | zero => rw [hm] at h1; exact absurd h1 (h0 a w)
  | succ m =>
    rw [hm] at h1
    refine wpIn_mono (hs m a w h1) ?_
    intro e a' w' hq
    cases e with
    | normal =>
      refine ⟨⟨m, hq⟩, ?_⟩
      obtain ⟨g1, g2⟩ := hμ a' w' ⟨m, hq⟩
      rcases Nat.lt_or_ge m (μ a' w') with hlt | hle
      · exact absurd hq (g2 m hlt)
      · omega
    | _ => exact hq
theorem step_ok {ct : CTab} {lt : LTab} {self : Self} (hN : Named P) (hm : P.follows .mixedOrders = true) (hct : CtOK P ct) (hlt : LtOK P lt) (hself : SelfOK P self) : SelfOK P (step P ct lt self) := by
  intro φ r rn c st k Q w0 m0 ρ a w h hrr hrel hk
  unfold step at h
  cases c with
  | skip => exact wpIn_skip (hk .normal st ρ a w h (Ext.refl _) hrel)
  | label l => exact wpIn_label (hk .normal st ρ a w h (Ext.refl _) hrel)
  | exit id => exact wpIn_exit (hk (.exit id) st ρ a w h (Ext.refl _) hrel)
  | goto l => exact wpIn_goto (hk (.goto l) st ρ a w h (Ext.refl _) hrel)
  | ret => exact wpIn_ret (hk .ret st ρ a w h (Ext.refl _) hrel)
  | seq x y =>
    refine wpIn_seq (hself φ r rn x st _ _ w0 m0 ρ a w h hrr hrel ?_)
    intro e st' ρ' a' w' hd hext hrel'
    cases e with
    | normal =>
      refine hself φ r rn y st' k Q w0 m0 ρ' a' w' hd (hrr.mono hext) hrel' ?_
      intro e2 st2 ρ2 a2 w2 hd2 hext2 hrel2
      exact hk e2 st2 ρ2 a2 w2 hd2 (hext.trans hext2) hrel2
    | exit id => exact hk (.exit id) st' ρ' a' w' hd hext hrel'
    | goto l => exact hk (.goto l) st' ρ' a' w' hd hext hrel'
    | ret => exact hk .ret st' ρ' a' w' hd hext hrel'
  | cond c x y =>
    obtain ⟨av, h, hv⟩ := ev_ok h
    obtain ⟨v, hvr, e⟩ := hv ρ a hrel.slots
    have hdec : ∀ b, a.eval c = .bool b → Rel w0 m0 ρ (decided st c b) a w := by
      intro b hb
      cases c with
      | tmp t =>
        by_cases hlt : t < a.tmps.size
        · refine know_rel hrel ?_
          rw [Array.getElem?_eq_getElem hlt]
          simpa [Act.eval, Array.getD, hlt] using hb
        · simp [Act.eval, Array.getD, hlt, undef] at hb
      | const _ => exact hrel
      | global _ => exact hrel
      | func _ => exact hrel
    split at h
    · rename_i q
      rw [show v = .bool q.v from hvr] at e
      rcases iteSB_den h with ⟨hq, h⟩ | ⟨hq, h⟩ <;> rw [hq] at e
      · exact wpIn_cond_true e (hself φ r rn x _ k Q w0 m0 ρ a w h hrr (hdec true e) hk)
      · exact wpIn_cond_false e (hself φ r rn y _ k Q w0 m0 ρ a w h hrr (hdec false e) hk)
    · exact h.elim
  | block id b =>
    refine wpIn_block ?_
    dsimp only at h
    split at h
    · refine hself φ r rn b st _ _ w0 m0 ρ a w h hrr hrel ?_
      intro e st' ρ' a' w' hd hext hrel'
      cases e with
      | normal => exact hk .normal st' ρ' a' w' hd hext hrel'
      | goto l => exact hk (.goto l) st' ρ' a' w' hd hext hrel'
      | ret => exact hk .ret st' ρ' a' w' hd hext hrel'
      | exit id' =>
        show (if id' = id then Q .normal a' w' else Q (.exit id') a' w')
        dsimp only at hd
        split at hd
        · rename_i e
          rw [if_pos (Nat.eq_of_beq_eq_true e)]
          exact hk .normal st' ρ' a' w' hd hext hrel'
        · rename_i e
          rw [if_neg (fun e2 => by rw [e2] at e; simp at e)]
          exact hk (.exit id') st' ρ' a' w' hd hext hrel'
    · rename_i L hL
      split at h
      · rename_i cc hcc
        obtain ⟨q, hq, h⟩ := h
        obtain ⟨hbc, hq2⟩ := guardEq_some hq
        rw [hbc]
        unfold knownLoop at hL
        cases r with
        | some _ => cases hL
        | none =>
          cases rn with
          | some _ => exact hrr.elim
          | none =>
            refine wpIn_mono (hlt _ _ L st cc q hL hcc hq2 w0 m0 ρ a w hrel) ?_
            rintro e a' w' ⟨ρ', hext, hq3⟩
            cases q with
            | inl x =>
              obtain ⟨he, hrel'⟩ := hq3
              have hfin := hk .normal _ ρ' a' w' h hext hrel'
              rcases he with rfl | rfl
              · exact hfin
              · show (if id = id then Q .normal a' w' else Q (.exit id) a' w')
                rw [if_pos rfl]
                exact hfin
            | inr y =>
              obtain ⟨rfl, hrel'⟩ := hq3
              exact hk .ret _ ρ' a' w' h hext hrel'
      · exact h.elim
  | loop b =>
    refine loop_iter (fun n a w => ∃ st' ρ', (iter (self r b) k n st').den φ ∧ Ext ρ ρ' ∧ Rel w0 m0 ρ' st' a w) (fun a w ⟨_, _, h, _⟩ => h.elim) ?_ (n := 1000000) ⟨st, ρ, h, Ext.refl _, hrel⟩
    rintro n a w ⟨st', ρ', h, hext, hrel'⟩
    refine hself φ r rn b st' _ _ w0 m0 ρ' a w h (hrr.mono hext) hrel' ?_
    intro e st2 ρ2 a2 w2 hd hext2 hrel2
    cases e with
    | normal => exact ⟨st2, ρ2, hd, hext.trans hext2, hrel2⟩
    | exit id => exact hk (.exit id) st2 ρ2 a2 w2 hd (hext.trans hext2) hrel2
    | goto l => exact hk (.goto l) st2 ρ2 a2 w2 hd (hext.trans hext2) hrel2
    | ret => exact hk .ret st2 ρ2 a2 w2 hd (hext.trans hext2) hrel2
  | region id ops draw =>
    cases draw with
    | false =>
      refine wpIn_region_list ?_
      exact opsGo_ok (fun h hrel hk => oper_ok hN hself hct h hrel hk) ops.toList h hrel (fun st' ρ' a' w' hd hext hrel' => hk .normal st' ρ' a' w' hd hext hrel')
    | true =>
      dsimp only at h
      split at h
      · rename_i hq
        unfold quietly at hq
        cases r with
        | some l => cases hq
        | none =>
          cases rn with
          | some n => exact hrr.elim
          | none =>
            have hdr : ∀ {ρ : Pl} {H : Heap} {hn : Nat} {w : World}, HRel ρ H hn w → Inv w0 m0 ρ w → Cls w0 m0 ρ H hn { w with drawn := w.drawn + 1 } := fun hr hi =>
              ⟨⟨hr.len, hr.inj, hr.lt, hr.ro, hr.obj⟩, ⟨hi.os, hi.tape, hi.output, hi.size, hi.keep, hi.fresh⟩⟩
            have hC := hdr hrel.heap hrel.inv
            dsimp only at hq
            split at h
            · rename_i hn0
              rw [hn0] at hq
              refine wpIn_wide.2 (wp_region_quiet (C := Cls w0 m0 ρ st.H st.hn) hm hq hC ?_)
              refine opsQ_ok hN hself hct hC ops.toList h rfl rfl ⟨hrel.slots, hrel.defers, hC.1, hC.2⟩ ?_
              intro st' a' hd e1 e2 hrel' w' hw'
              exact hk .normal st' ρ a' w' hd (Ext.refl _) ⟨hrel'.slots, hrel'.defers, by rw [e1, e2]; exact hw'.1, hw'.2⟩
            · rename_i n hn0
              rw [hn0] at hq
              have hb := hq
              simp only [Bool.and_eq_true] at hb
              refine wpIn_wide.2 (region_quiet_tail (C := Cls w0 m0 ρ st.H st.hn) n hm hb.1 hC ?_)
              refine opsQ_ok hN hself hct hC (ops.toList.take n) h rfl rfl ⟨hrel.slots, hrel.defers, hC.1, hC.2⟩ ?_
              intro st' a' hd e1 e2 hrel' w' hw'
              refine wpList_of_in _ _ _ hb.2 ?_
              refine opsGo_ok (rn := none) (w0 := w0) (m0 := m0) (fun h hrel hk => oper_ok hN hself hct h hrel hk) (ops.toList.drop n) hd ⟨hrel'.slots, hrel'.defers, by rw [e1, e2]; exact hw'.1, hw'.2⟩ ?_
              intro st2 ρ2 a2 w2 hd2 hext2 hrel2
              exact hk .normal st2 ρ2 a2 w2 hd2 hext2 hrel2
      · exact regD_ok hN hm hself hct h hrel fun st' ρ' a' w' hd hext hrel' => hk .normal st' ρ' a' w' hd hext hrel'
  | scope b =>
    dsimp only at h
    split at h
    · cases rn with
      | some n => exact hrr.elim
      | none =>
        refine wpIn_wide.2 (wp_scope_straight ((wpIn_wide (n := 0)).1 ?_))
        refine hself φ none none b st _ _ w0 m0 ρ a w h trivial hrel ?_
        intro e st' ρ' a' w' hd hext hrel'
        cases e with
        | normal => exact hk .normal st' ρ' a' w' hd hext hrel'
        | goto l => exact hd.elim
        | ret => exact hk .ret st' ρ' a' w' hd hext hrel'
        | exit id => exact hk (.exit id) st' ρ' a' w' hd hext hrel'
    · exact h.elim
  | refuse why => exact h.elim
  | rangeFunc g ps assign body =>
    dsimp only at h
    unfold rangeFn at h
    obtain ⟨vg, h, hg⟩ := ev_ok h
    obtain ⟨x, hx, e⟩ := hg ρ a hrel.slots
    split at h
    · rename_i f first capt
      dsimp only at h
      obtain ⟨us, vs, hus, hvs, ex⟩ := hx
      -- what the end of the statement does
      have fin : ∀ (l : Nat) (st1 : AS) (ρ1 : Pl) (a1 : Act) (ln : Nat) (v : AV) (H : Heap) (hn : Nat) (ρ2 : Pl) (w2 : World), ρ1 l = some ln → Ext ρ ρ1 → SRel ρ1 st1.sz st1.slots a1.tmps → DRel ρ1 st1.defers a1.defers →
          Tree.den φ (match look H l with
            | some (.loop fid s pe sz slots ps assign body d) => match s with
              | .busy => .fail "busy"
              | _ => match pe with
                | none => k .normal (st1.heap ((l, .loop fid .exhausted pe sz slots ps assign body d) :: H) hn)
                | some c => self r c (st1.heap ((l, .loop fid .exhausted pe sz slots ps assign body d) :: H) hn) k
            | _ => .fail "record") → Ext ρ1 ρ2 → HRel ρ2 H hn w2 → Inv w0 m0 ρ2 w2 →
          ∃ jump w₄, (Instr.endLoop ln).run P w2 = .ok jump w₄ ∧ (match jump with | none => Q .normal a1 w₄ | some c => c.wpIn (FR rn) 0 P Q a1 w₄) := by
        intro l st1 ρ1 a1 ln v H hn ρ2 w2 hl1 hext1 hs1 hd1 hd hext2 hr2 hi2
        split at hd
        · rename_i fid s pe sz slots ps2 assign2 body2 d2 hl
          obtain ⟨ln', o, hln', ho, fn, tmps, dn, hdn, hs, rfl⟩ := hr2.obj _ _ hl
          have := hext2.at _ _ hl1
          rw [hln'] at this
          cases this
          have hlt : ln < w2.heap.size := (Array.getElem?_eq_some_iff.1 ho).1
          obtain ⟨g1, g2⟩ := held_set (b := .loop fid .exhausted pe sz slots ps2 assign2 body2 d2) (w' := w2.putObj ln _) hr2 hi2 hln' (World.putObj_heap_same hlt) (fun k hk => World.putObj_heap_other hk) (by simp [World.putObj]) rfl rfl rfl
            ⟨fn, tmps, dn, hdn, hs, rfl⟩
          have hrel2 : Rel w0 m0 ρ2 (st1.heap ((l, .loop fid .exhausted pe sz slots ps2 assign2 body2 d2) :: H) hn) a1 _ := ⟨hs1.mono hext2, hd1.mono hext2, g1, g2⟩
          have hkey : s ≠ .busy → Tree.den φ (match pe with
                | none => k .normal (st1.heap ((l, .loop fid .exhausted pe sz slots ps2 assign2 body2 d2) :: H) hn)
                | some c => self r c (st1.heap ((l, .loop fid .exhausted pe sz slots ps2 assign2 body2 d2) :: H) hn) k) → ∃ jump w₄, (Instr.endLoop ln).run P w2 = .ok jump w₄ ∧ (match jump with | none => Q .normal a1 w₄ | some c => c.wpIn (FR rn) 0 P Q a1 w₄) := by
            intro hnb hd
            refine ⟨pe, _, run_endLoop (P := P) ho hnb, ?_⟩
            cases pe with
            | none => exact hk .normal _ ρ2 a1 _ hd (hext1.trans hext2) hrel2
            | some c =>
              refine hself φ r rn c _ k Q w0 m0 ρ2 a1 _ hd (hrr.mono (hext1.trans hext2)) hrel2 ?_
              intro e3 st3 ρ3 a3 w3 hd3 hext3 hrel3
              exact hk e3 st3 ρ3 a3 w3 hd3 ((hext1.trans hext2).trans hext3) hrel3
          cases s with
          | busy => exact hd.elim
          | ready => cases pe <;> exact hkey (by simp) hd
          | done => cases pe <;> exact hkey (by simp) hd
          | exhausted => cases pe <;> exact hkey (by simp) hd
        · exact hd.elim
      have hres : ∀ (ln : Nat) (w1 : World), (resolve a.eval (rangeCall g ln) 0).run P w1 = .ok { target := .fn (.func f) vs.toArray, args := us.toArray ++ #[.func (.yield ln) #[] #[]] } w1 := by
        intro ln w1
        simp only [resolve, rangeCall]
        rw [e, ex]
        simp only [Deferred.ofValue, Sem.run_pure, List.map_toArray, List.map_cons, List.map_nil]
        rfl
      have hxs : ∀ {ρ1 : Pl} {l ln : Nat}, Ext ρ ρ1 → ρ1 l = some ln → AV.relL ρ1 (first ++ [AV.yld l] ++ capt) (us ++ [Value.func (.yield ln) #[] #[]] ++ vs) := fun hext hl =>
        relL_append (relL_append (AV.relL_mono hext _ hus) (relL_one (a := .yld _) ⟨_, hl, rfl⟩)) (AV.relL_mono hext _ hvs)
      have hinv : ∀ {fn : Func} {c : Code} (ln : Nat) (w1 : World), P.funcs[f]? = some fn → fn.body = some c →
          (invoke (.fn (.func f) vs.toArray) (us.toArray ++ #[Value.func (.yield ln) #[] #[]])).run P w1 = .ok (.enter f (us ++ [Value.func (.yield ln) #[] #[]] ++ vs).toArray) w1 := by
        intro fn c ln w1 hf hb
        simp only [invoke]
        rw [enters hN hf hb]
        simp
      refine wpIn_rangeFunc fun fn0 _ => ?_
      cases r with
      | none =>
        cases rn with
        | some n => exact hrr.elim
        | none =>
          dsimp only at h
          obtain ⟨a1, a2⟩ := held_new (w' := w.alloc (.deferred (some []))) (b := .mark) (o := .deferred (some [])) hrel.heap hrel.inv rfl rfl rfl rfl rfl
          have hn1 : ρ.top = st.hn := hrel.heap.len
          have hn2 : (ρ.put st.hn w.heap.size).top = st.hn + 1 := a1.len
          have hd1 : ρ.put st.hn w.heap.size st.hn = some w.heap.size := Pl.at _ _ _
          have hs1 : (w.alloc (.deferred (some []))).heap.size = w.heap.size + 1 := World.size_alloc _ _
          obtain ⟨b1, b2⟩ := held_new (w' := (w.alloc (.deferred (some []))).alloc (.loop { state := .ready, pending := none, fn := fn0, tmps := a.tmps, params := ps, assign := assign, body := body, defers := w.heap.size }))
            (b := .loop st.fn .ready none st.sz st.slots ps assign body st.hn) (o := .loop { state := .ready, pending := none, fn := fn0, tmps := a.tmps, params := ps, assign := assign, body := body, defers := w.heap.size }) a1 a2 rfl rfl rfl rfl
            ⟨fn0, a.tmps, w.heap.size, (Ext.snoc _ hn2).at _ _ hd1, hrel.slots.mono ((Ext.snoc _ hn1).trans (Ext.snoc _ hn2)), rfl⟩
          have hext1 : Ext ρ ((ρ.put st.hn w.heap.size).put (st.hn + 1) (w.alloc (.deferred (some []))).heap.size) := (Ext.snoc _ hn1).trans (Ext.snoc _ hn2)
          have hl1 : (ρ.put st.hn w.heap.size).put (st.hn + 1) (w.alloc (.deferred (some []))).heap.size (st.hn + 1) = some (w.heap.size + 1) := by
            rw [Pl.at, hs1]
          obtain ⟨⟨fn, c, hf, hb⟩, hcall⟩ := callF_ok hself hct h (hxs hext1 hl1) b1 b2 (R := rangePost (FR none) 0 P (w.heap.size + 1) Q { a with defers := [{ target := .collected w.heap.size, args := #[] }] ++ a.defers }) (by
            intro v H' hn' ρ' x w' hd hext hv hr hi
            exact fin (st.hn + 1) { st with defers := st.hn :: st.defers } _ { a with defers := [{ target := .collected w.heap.size, args := #[] }] ++ a.defers } (w.heap.size + 1) v H' hn' ρ' w' hl1 hext1 (hrel.slots.mono hext1)
              ⟨w.heap.size, a.defers, (Ext.snoc _ hn2).at _ _ hd1, hrel.defers.mono hext1, rfl⟩ hd hext hr hi)
          exact ⟨w.heap.size + 1, [{ target := .collected w.heap.size, args := #[] }], _, _, _, f, _, _, run_enterLoop_outer _ _ _ _ _, hres _ _, fun _ _ => trivial, hinv _ _ hf hb, fun hh => (by cases hh), hcall⟩
      | some l0 =>
        cases rn with
        | none => exact hrr.elim
        | some n0 =>
          dsimp only at h
          split at h
          · rename_i fid0 s0 pe0 sz0 slots0 ps0 assign0 body0 d0 hl0
            obtain ⟨n0', o0, hn0', ho0, fn1, tmps1, dn1, hdn1, hs1, rfl⟩ := hrel.heap.obj _ _ hl0
            rw [show ρ l0 = some n0 from hrr] at hn0'
            cases hn0'
            have hn1 : ρ.top = st.hn := hrel.heap.len
            obtain ⟨b1, b2⟩ := held_new (w' := w.alloc (.loop { state := .ready, pending := none, fn := fn0, tmps := a.tmps, params := ps, assign := assign, body := body, defers := dn1 }))
              (b := .loop st.fn .ready none st.sz st.slots ps assign body d0) (o := .loop { state := .ready, pending := none, fn := fn0, tmps := a.tmps, params := ps, assign := assign, body := body, defers := dn1 }) hrel.heap hrel.inv rfl rfl rfl rfl
              ⟨fn0, a.tmps, dn1, (Ext.snoc _ hn1).at _ _ hdn1, hrel.slots.mono (Ext.snoc _ hn1), rfl⟩
            have hl1 : ρ.put st.hn w.heap.size st.hn = some w.heap.size := Pl.at _ _ _
            obtain ⟨⟨fn, c, hf, hb⟩, hcall⟩ := callF_ok hself hct h (hxs (Ext.snoc _ hn1) hl1) b1 b2 (R := rangePost (FR (some n0)) 0 P w.heap.size Q { a with defers := [] ++ a.defers }) (by
              intro v H' hn' ρ' x w' hd hext hv hr hi
              exact fin st.hn st _ { a with defers := [] ++ a.defers } w.heap.size v H' hn' ρ' w' hl1 (Ext.snoc _ hn1) (hrel.slots.mono (Ext.snoc _ hn1)) (hrel.defers.mono (Ext.snoc _ hn1)) hd hext hr hi)
            exact ⟨w.heap.size, [], _, _, _, f, _, _, run_enterLoop_inner ho0 _ _ _ _ _, hres _ _, fun _ _ => trivial, hinv _ _ hf hb, fun hh => (by cases hh), hcall⟩
          · exact h.elim
    · exact h.elim
theorem run_ok {ct : CTab} {lt : LTab} (hN : Named P) (hm : P.follows .mixedOrders = true) (hct : CtOK P ct) (hlt : LtOK P lt) : ∀ n, SelfOK P (run P ct lt n)
  | 0 => fun _ _ _ _ _ _ _ _ _ _ _ _ h => h.elim
  | n + 1 => step_ok hN hm hct hlt (run_ok hN hm hct hlt n)
/-- A function's contract, by its walk. -/
theorem walk_ok {ct : CTab} {lt : LTab} (hN : Named P) (hm : P.follows .mixedOrders = true) (hct : CtOK P ct) (hlt : LtOK P lt) {n : Nat} {f : FuncId} {args : List AV} {H : Heap} {hn : Nat} {φ : AV → Heap → Nat → Prop} (h : (walk P ct lt n f args H hn).den φ)
    {ρ : Pl} {w : World} {xs : List Value} (hx : AV.relL ρ args xs) (hr : HRel ρ H hn w) :
    Calls P f xs.toArray w fun e w' => ∃ v H' hn' ρ' x, e = .returned x ∧ φ v H' hn' ∧ Ext ρ ρ' ∧ v.rel ρ' x ∧ HRel ρ' H' hn' w' ∧ Inv w (fun k => ∃ i, ρ i = some k) ρ' w' := by
  unfold walk at h
  split at h
  · rename_i fn hf
    split at h
    · rename_i c hb
      split at h
      · rename_i hle
        have hle := Nat.le_of_ble_eq_true hle
        have hv : Inv w (fun k => ∃ i, ρ i = some k) ρ w := ⟨rfl, rfl, rfl, Nat.le_refl _, fun _ _ _ => rfl, fun i n hi => .inl ⟨i, hi⟩⟩
        refine (callsIn_wide (n := 0)).1 (callsIn_of_wp_marks (nth_funcs hf) hb trivial ?_ rfl)
        refine run_ok hN hm hct hlt n φ none none c _ _ _ w _ ρ _ w h trivial ⟨SRel.params hx hle, rfl, hr, hv⟩ ?_
        intro e st' ρ' a' w' hd hext hrel
        cases e with
        | normal => exact leave_ok hd hrel fun v H' hn' x w' hd hx hr hv => ⟨v, H', hn', ρ', x, rfl, hd, hext, hx, hr, hv⟩
        | ret => exact leave_ok hd hrel fun v H' hn' x w' hd hx hr hv => ⟨v, H', hn', ρ', x, rfl, hd, hext, hx, hr, hv⟩
        | exit id => exact hd.elim
        | goto l => exact hd.elim
      · exact h.elim
    · exact h.elim
  · exact h.elim
theorem HRel.empty (w : World) : HRel (Pl.none 0) [] 0 w := ⟨rfl, fun i j n h => (by cases h), fun i n h => (by cases h), fun n o h => (by cases h), fun i b h => by simp [look] at h⟩
/-- .. of one that holds nothing ahead. -/
theorem walk_pure {ct : CTab} {lt : LTab} (hN : Named P) (hm : P.follows .mixedOrders = true) (hct : CtOK P ct) (hlt : LtOK P lt) {n : Nat} {f : FuncId} {args : List AV} {φ : AV → Heap → Nat → Prop} (h : (walk P ct lt n f args [] 0).den φ)
    (w : World) {xs : List Value} (hx : AV.relL (Pl.none 0) args xs) :
    Calls P f xs.toArray w fun e w' => ∃ v H' hn' ρ' x, e = .returned x ∧ φ v H' hn' ∧ v.rel ρ' x ∧ Below w.heap.size w w' := by
  refine (walk_ok hN hm hct hlt h hx (HRel.empty w)).mono ?_
  rintro e w' ⟨v, H', hn', ρ', x, he, hd, _, hv, _, hi⟩
  exact ⟨v, H', hn', ρ', x, he, hd, hv, ⟨hi.os, hi.tape, hi.output, hi.size, fun k hk => hi.keep k hk (fun ⟨_, h⟩ => by cases h)⟩⟩
end Go.Proofs.Ytgoilclgehipmaa.SX
