/- A symbolic walk, part nine: the whole is sound. -/
import Derived.Test.YtaoplfmaiclfkaaSXw
namespace Go.Proofs.Ytaoplfmaiclfkaa.SX
set_option linter.unusedVariables false
set_option linter.unusedSimpArgs false
open Go Go.RowKit
variable {P : Program}
theorem least {p : Nat → Prop} : ∀ n, p n → ∃ m, p m ∧ ∀ j, j < m → ¬ p j := by
  intro n
  induction n using Nat.strongRecOn with
  | _ n ih =>
    intro h
    by_cases e : ∃ j, j < n ∧ p j
    · obtain ⟨j, hj, hp⟩ := e
      exact ih j hj hp
    · exact ⟨n, h, fun j hj hp => e ⟨j, hj, hp⟩⟩
/-- A loop, round by round, with a bound on the rounds. -/
theorem loop_iter {F : Fence} {b : Code} {Q : Exit → Act → World → Prop} (G : Nat → Act → World → Prop) (h0 : ∀ a w, ¬ G 0 a w) (hs : ∀ n a w, G (n + 1) a w → b.wpIn F 0 P (Exit.then (G n) Q) a w) {n : Nat} {a : Act} {w : World} (h : G n a w) : (Code.loop b).wpIn F 0 P Q a w := by
  classical
  let μ : Act → World → Nat := fun a w => if h : ∃ n, G n a w then Classical.choose (least (p := fun n => G n a w) h.choose h.choose_spec) else 0
  have hμ : ∀ a w, (∃ n, G n a w) → G (μ a w) a w ∧ ∀ j, j < μ a w → ¬ G j a w := by
    intro a w h
    have := Classical.choose_spec (least (p := fun n => G n a w) h.choose h.choose_spec)
    simp only [μ, dif_pos h]
    exact this
  refine wpIn_loop (fun a w => ∃ n, G n a w) μ ⟨n, h⟩ fun a w hI => ?_
  obtain ⟨h1, h2⟩ := hμ a w hI
  cases hm : μ a w with
  | zero => rw [hm] at h1; exact absurd h1 (h0 a w)
  | succ m =>
    rw [hm] at h1
    refine wpIn_mono (hs m a w h1) ?_
    intro e a' w' hq
    cases e with
    | normal =>
      refine ⟨⟨m, hq⟩, ?_⟩
      obtain ⟨g1, g2⟩ := hμ a' w' ⟨m, hq⟩
      rcases Nat.lt_or_ge m (μ a' w') with hlt | hle
      · exact absurd hq (g2 m hlt)
      · omega
    | _ => exact hq
theorem doneAll_spec {done : List Nat} : ∀ {l : List Nat}, doneAll done l = true ↔ ∀ d ∈ l, d ∈ done
  | [] => by simp [doneAll]
  | x :: l => by
    unfold doneAll
    split
    · rename_i hx
      rw [doneAll_spec]
      simp [isIn_spec.1 hx]
    · rename_i hx
      simp only [Bool.false_eq_true, false_iff, List.mem_cons, forall_eq_or_imp, not_and]
      intro h
      rw [isIn_spec.2 h] at hx
      cases hx
theorem nexts_spec {done : List Nat} : ∀ {l : List Oper} {i j : Nat} {o : Oper}, l[j]? = some o → (i + j) ∉ done → (∀ d ∈ depsOf o.after.toList, d ∈ done) → (i + j) ∈ nexts done i l
  | [], i, j, o, h, _, _ => by simp at h
  | x :: l, i, j, o, h, hn, hd => by
    unfold nexts
    cases j with
    | zero =>
      simp at h
      subst h
      split
      · rename_i hi
        exact absurd (isIn_spec.1 hi) hn
      · rw [doneAll_spec.2 hd]
        exact List.mem_cons_self
    | succ j =>
      have := nexts_spec (l := l) (i := i + 1) (j := j) (by simpa using h) (by rw [show i + 1 + j = i + (j + 1) by omega]; exact hn) hd
      rw [show i + 1 + j = i + (j + 1) by omega] at this
      split
      · exact this
      · split
        · exact .tail _ this
        · exact this
theorem eachOf_spec {φ : AV → Heap → Nat → Prop} {f : Nat → Tree} : ∀ {l : List Nat}, (eachOf f l).den φ → ∀ i ∈ l, (f i).den φ
  | [], _, i, h => by cases h
  | [x], h, i, hi => by
    rcases List.mem_cons.1 hi with rfl | hi
    · exact h
    · cases hi
  | x :: y :: r, h, i, hi => by
    rcases List.mem_cons.1 hi with rfl | hi
    · exact h.1
    · exact eachOf_spec (l := y :: r) h.2 i hi
section
variable {φ : AV → Heap → Nat → Prop} {w0 : World} {m0 : MS}
theorem oneOp_ok {ct : CTab} {self : Self} (hN : Named P) (hself : SelfOK P self) (hct : CtOK P ct) {ops : Array Oper} {i : Nat} {o : Oper} (ho : ops[i]? = some o) {st : AS} {k : AS → Tree} {ρ : Pl} {a : Act} {w : World} {rn : Option Nat} {Q : Exit → Act → World → Prop} {K : Act → World → Prop}
    (h : (oneOp P ct self ops.toList o st k).den φ) (hrel : Rel w0 m0 ρ st a w) (hk : ∀ st' ρ' a' w', (k st').den φ → Ext ρ ρ' → Rel w0 m0 ρ' st' a' w' → K a' w') : wpOpIn (FR rn) 0 P ops Q i K a w := by
  unfold wpOpIn
  rw [ho]
  dsimp only
  have go : Region.wanted o (yielded ops a.tmps) = true → (oper P ct self o st k).den φ → (if Region.wanted o (yielded ops a.tmps) = true then o.wpIn (FR rn) 0 P a w K Q else (∀ f, o.about P w a.eval = some f → (FR rn).fn f) ∧ K (a.put o.dst undef) w) := fun hw h => by
    rw [if_pos hw]
    exact oper_ok hN hself hct h hrel hk
  have no : Region.wanted o (yielded ops a.tmps) = false → (k (st.put o.dst (.tup []))).den φ → (if Region.wanted o (yielded ops a.tmps) = true then o.wpIn (FR rn) 0 P a w K Q else (∀ f, o.about P w a.eval = some f → (FR rn).fn f) ∧ K (a.put o.dst undef) w) := fun hw h => by
    rw [if_neg (by rw [hw]; decide)]
    exact ⟨fun _ _ => trivial, hk _ ρ _ w h (Ext.refl _) (put_rel hrel o.dst (v := .tup []) (x := undef) ⟨[], rfl, rfl⟩)⟩
  unfold oneOp at h
  split at h
  · rename_i hg
    exact go (by simp [Region.wanted, hg]) h
  · rename_i j want hg
    split at h
    · rename_i oj hj
      split at h
      · rename_i d hd
        split at h
        · rename_i b hb
          have hy : a.tmps[d]? = some (.bool b) := by
            obtain ⟨x, hx, hx2⟩ := hrel.slots.2 d _ hb
            rw [hx2, show x = _ from hx]
            rfl
          have hwe := wanted_eq hg ⟨hj, hd, hy⟩
          split at h
          · rename_i e
            exact go (by rw [hwe]; exact e) h
          · rename_i e
            exact no (by rw [hwe]; exact e) h
        · rename_i l hq
          obtain ⟨x, ⟨xs, hxs, hx⟩, hx2⟩ := hrel.slots.2 d _ hq
          exact no (unwanted hg hj hd (by rw [hx2, hx])) h
        · exact h.elim
      · exact h.elim
    · exact h.elim
theorem regAll_ok {ct : CTab} {self : Self} (hN : Named P) (hself : SelfOK P self) (hct : CtOK P ct) {ops : Array Oper} {kk : AS → Tree} {rn : Option Nat} {Q : Exit → Act → World → Prop} :
    ∀ (n : Nat) (done : List Nat) (listed : Array Bool) (st : AS) (ρ : Pl) (a : Act) (w : World), (∀ i, i ∈ done ↔ listed[i]? = some true) → listed.size = ops.size → (regAll P ct self ops.toList kk n done st).den φ → Rel w0 m0 ρ st a w →
      (∀ st' ρ' a' w', (kk st').den φ → Ext ρ ρ' → Rel w0 m0 ρ' st' a' w' → Q .normal a' w') → wpAnyIn (FR rn) 0 P .any ops Q n listed a w := by
  have hready : ∀ (done : List Nat) (listed : Array Bool), (∀ i, i ∈ done ↔ listed[i]? = some true) → listed.size = ops.size → ∀ i ∈ Region.ready .any ops listed, i ∈ nexts done 0 ops.toList := by
    intro done listed hd hsz i hi
    obtain ⟨h0, o, ho, hall⟩ := mem_ready.1 hi
    have := nexts_spec (done := done) (l := ops.toList) (i := 0) (j := i) (o := o) (by simpa using ho) (fun hin => by
      rw [Nat.zero_add, hd i] at hin
      rw [Array.getD_eq_getD_getElem?, hin] at h0
      cases h0) (fun d hdm => by
      obtain ⟨e, he, hbd, rfl⟩ := depsOf_spec.1 hdm
      have := hall e (by simpa using he) hbd
      rw [Array.getD_eq_getD_getElem?] at this
      rw [hd]
      cases hc : listed[e.on]? with
      | none => rw [hc] at this; cases this
      | some b =>
        rw [hc] at this
        exact congrArg some this)
    rwa [Nat.zero_add] at this
  have hnil : ∀ (done : List Nat) (listed : Array Bool), (∀ i, i ∈ done ↔ listed[i]? = some true) → listed.size = ops.size → nexts done 0 ops.toList = [] → Region.ready .any ops listed = [] := by
    intro done listed hd hsz h
    rw [List.eq_nil_iff_forall_not_mem]
    intro i hi
    have := hready done listed hd hsz i hi
    rw [h] at this
    cases this
  intro n
  induction n with
  | zero =>
    intro done listed st ρ a w hd hsz h hrel hk
    unfold regAll at h
    split at h
    · rename_i hn
      exact ⟨hnil done listed hd hsz hn, hk st ρ a w h (Ext.refl _) hrel⟩
    · exact h.elim
  | succ n ih =>
    intro done listed st ρ a w hd hsz h hrel hk
    unfold regAll at h
    split at h
    · rename_i hn
      exact wpAnyIn_done (hnil done listed hd hsz hn) (hk st ρ a w h (Ext.refl _) hrel) _
    · rename_i is hne
      have hmore : ∀ i ∈ Region.ready .any ops listed, wpOpIn (FR rn) 0 P ops Q i (wpAnyIn (FR rn) 0 P .any ops Q n (listed.setIfInBounds i true)) a w := by
        intro i hi
        have hin := hready done listed hd hsz i hi
        have hf := eachOf_spec h i hin
        obtain ⟨h0, o, ho, _⟩ := mem_ready.1 hi
        have hno : nth ops.toList i = some o := by rw [nth_eq]; simpa using ho
        rw [hno] at hf
        have hilt : i < listed.size := by rw [hsz]; exact (Array.getElem?_eq_some_iff.1 ho).1
        refine oneOp_ok hN hself hct ho hf hrel fun st' ρ' a' w' hd' hext hrel' => ?_
        refine ih (i :: done) _ st' ρ' a' w' (fun j => ?_) (by simp [hsz]) hd' hrel' (fun st2 ρ2 a2 w2 h2 e2 r2 => hk st2 ρ2 a2 w2 h2 (hext.trans e2) r2)
        rw [List.mem_cons, hd j]
        by_cases e : i = j
        · subst e
          simp [hilt]
        · rw [Array.getElem?_setIfInBounds_ne e]
          exact ⟨fun x => x.resolve_left (fun x => e x.symm), .inr⟩
      refine ⟨fun hr => ?_, hmore⟩
      -- nothing is ready, so nothing is next
      exfalso
      refine hne ?_
      rw [List.eq_nil_iff_forall_not_mem]
      intro i hi
      have hspec : ∀ (l : List Oper) (k i : Nat), i ∈ nexts done k l → ∃ j o, i = k + j ∧ l[j]? = some o ∧ i ∉ done ∧ ∀ d ∈ depsOf o.after.toList, d ∈ done := by
        intro l
        induction l with
        | nil => intro k i h; cases h
        | cons x l ih2 =>
          intro k i h
          unfold nexts at h
          split at h
          · obtain ⟨j, o, e, h1, h2⟩ := ih2 (k + 1) i h
            exact ⟨j + 1, o, by omega, by simpa using h1, h2⟩
          · rename_i hk2
            split at h
            · rename_i hda
              rcases List.mem_cons.1 h with rfl | h
              · refine ⟨0, x, rfl, rfl, fun hin => ?_, doneAll_spec.1 hda⟩
                rw [isIn_spec.2 hin] at hk2
                cases hk2
              · obtain ⟨j, o, e, h1, h2⟩ := ih2 (k + 1) i h
                exact ⟨j + 1, o, by omega, by simpa using h1, h2⟩
            · obtain ⟨j, o, e, h1, h2⟩ := ih2 (k + 1) i h
              exact ⟨j + 1, o, by omega, by simpa using h1, h2⟩
      obtain ⟨j, o, e, h1, h2, h3⟩ := hspec _ 0 i hi
      rw [Nat.zero_add] at e
      subst e
      have hilt : i < listed.size := by rw [hsz]; have := (List.getElem?_eq_some_iff.1 h1).1; simpa using this
      have : i ∈ Region.ready .any ops listed := by
        rw [mem_ready]
        refine ⟨?_, o, by simpa using h1, fun e he hb => ?_⟩
        · rw [Array.getD_eq_getD_getElem?]
          cases hc : listed[i]? with
          | none => rw [Array.getElem?_eq_none_iff] at hc; omega
          | some b =>
            cases b with
            | true => exact absurd ((hd i).2 hc) h2
            | false => rfl
        · have := (hd e.on).1 (h3 e.on (depsOf_spec.2 ⟨e, by simpa using he, hb, rfl⟩))
          rw [Array.getD_eq_getD_getElem?, this]
          rfl
      rw [hr] at this
      cases this
end
theorem step_ok {ct : CTab} {lt : LTab} {self : Self} (hN : Named P) (hm : P.follows .mixedOrders = true) (hct : CtOK P ct) (hlt : LtOK P lt) (hself : SelfOK P self) : SelfOK P (step P ct lt self) := by
  intro φ r rn c st k Q w0 m0 ρ a w h hrr hrel hk
  unfold step at h
  cases c with
  | skip => exact wpIn_skip (hk .normal st ρ a w h (Ext.refl _) hrel)
  | label l => exact wpIn_label (hk .normal st ρ a w h (Ext.refl _) hrel)
  | exit id => exact wpIn_exit (hk (.exit id) st ρ a w h (Ext.refl _) hrel)
  | goto l => exact wpIn_goto (hk (.goto l) st ρ a w h (Ext.refl _) hrel)
  | ret => exact wpIn_ret (hk .ret st ρ a w h (Ext.refl _) hrel)
  | seq x y =>
    refine wpIn_seq (hself φ r rn x st _ _ w0 m0 ρ a w h hrr hrel ?_)
    intro e st' ρ' a' w' hd hext hrel'
    cases e with
    | normal =>
      refine hself φ r rn y st' k Q w0 m0 ρ' a' w' hd (hrr.mono hext) hrel' ?_
      intro e2 st2 ρ2 a2 w2 hd2 hext2 hrel2
      exact hk e2 st2 ρ2 a2 w2 hd2 (hext.trans hext2) hrel2
    | exit id => exact hk (.exit id) st' ρ' a' w' hd hext hrel'
    | goto l => exact hk (.goto l) st' ρ' a' w' hd hext hrel'
    | ret => exact hk .ret st' ρ' a' w' hd hext hrel'
  | cond c x y =>
    obtain ⟨av, h, hv⟩ := ev_ok h
    obtain ⟨v, hvr, e⟩ := hv ρ a hrel.slots
    have hdec : ∀ b, a.eval c = .bool b → Rel w0 m0 ρ (decided st c b) a w := by
      intro b hb
      cases c with
      | tmp t =>
        by_cases hlt : t < a.tmps.size
        · refine know_rel hrel ?_
          rw [Array.getElem?_eq_getElem hlt]
          simpa [Act.eval, Array.getD, hlt] using hb
        · simp [Act.eval, Array.getD, hlt, undef] at hb
      | const _ => exact hrel
      | global _ => exact hrel
      | func _ => exact hrel
    split at h
    · rename_i q
      rw [show v = .bool q.v from hvr] at e
      rcases iteSB_den h with ⟨hq, h⟩ | ⟨hq, h⟩ <;> rw [hq] at e
      · exact wpIn_cond_true e (hself φ r rn x _ k Q w0 m0 ρ a w h hrr (hdec true e) hk)
      · exact wpIn_cond_false e (hself φ r rn y _ k Q w0 m0 ρ a w h hrr (hdec false e) hk)
    · exact h.elim
  | block id b =>
    refine wpIn_block ?_
    dsimp only at h
    split at h
    · refine hself φ r rn b st _ _ w0 m0 ρ a w h hrr hrel ?_
      intro e st' ρ' a' w' hd hext hrel'
      cases e with
      | normal => exact hk .normal st' ρ' a' w' hd hext hrel'
      | goto l => exact hk (.goto l) st' ρ' a' w' hd hext hrel'
      | ret => exact hk .ret st' ρ' a' w' hd hext hrel'
      | exit id' =>
        show (if id' = id then Q .normal a' w' else Q (.exit id') a' w')
        dsimp only at hd
        split at hd
        · rename_i e
          rw [if_pos (Nat.eq_of_beq_eq_true e)]
          exact hk .normal st' ρ' a' w' hd hext hrel'
        · rename_i e
          rw [if_neg (fun e2 => by rw [e2] at e; simp at e)]
          exact hk (.exit id') st' ρ' a' w' hd hext hrel'
    · rename_i L hL
      split at h
      · rename_i cc hcc
        obtain ⟨heq, h⟩ := sameIf_den h
        obtain ⟨q, hq, h⟩ := h
        obtain ⟨hbc, hq2⟩ := guardEq_some hq
        rw [hbc]
        have hLt := hlt _ _ L r st cc q hL hcc heq hq2 rn w0 m0 ρ a w hrr hrel
        refine wpIn_mono hLt.1 ?_
        rintro e a' w' ⟨ρ', hext, hq3⟩
        cases q with
        | inl x =>
          obtain ⟨he, hrel'⟩ := hq3
          have h : (forceS (cc.sx x) fun st => k .normal st).den φ := h
          rw [forceS_eq] at h
          have hfin := hk .normal _ ρ' a' w' h hext hrel'
          rcases he with rfl | rfl
          · exact hfin
          · show (if id = id then Q .normal a' w' else Q (.exit id) a' w')
            rw [if_pos rfl]
            exact hfin
        | inr y =>
          obtain ⟨rfl, hrel'⟩ := hq3
          have h := hLt.2 _ _ _ h
          rw [forceS_eq] at h
          exact hk .ret _ ρ' a' w' h hext hrel'
      · refine hself φ r rn b st _ _ w0 m0 ρ a w h hrr hrel ?_
        intro e st' ρ' a' w' hd hext hrel'
        cases e with
        | normal => exact hk .normal st' ρ' a' w' hd hext hrel'
        | goto l => exact hk (.goto l) st' ρ' a' w' hd hext hrel'
        | ret => exact hk .ret st' ρ' a' w' hd hext hrel'
        | exit id' =>
          show (if id' = id then Q .normal a' w' else Q (.exit id') a' w')
          dsimp only at hd
          split at hd
          · rename_i e
            rw [if_pos (Nat.eq_of_beq_eq_true e)]
            exact hk .normal st' ρ' a' w' hd hext hrel'
          · rename_i e
            rw [if_neg (fun e2 => by rw [e2] at e; simp at e)]
            exact hk (.exit id') st' ρ' a' w' hd hext hrel'
  | loop b =>
    refine loop_iter (fun n a w => ∃ st' ρ', (iter (self r b) k n st').den φ ∧ Ext ρ ρ' ∧ Rel w0 m0 ρ' st' a w) (fun a w ⟨_, _, h, _⟩ => h.elim) ?_ (n := 1000000) ⟨st, ρ, h, Ext.refl _, hrel⟩
    rintro n a w ⟨st', ρ', h, hext, hrel'⟩
    refine hself φ r rn b st' _ _ w0 m0 ρ' a w h (hrr.mono hext) hrel' ?_
    intro e st2 ρ2 a2 w2 hd hext2 hrel2
    cases e with
    | normal => exact ⟨st2, ρ2, hd, hext.trans hext2, hrel2⟩
    | exit id => exact hk (.exit id) st2 ρ2 a2 w2 hd (hext.trans hext2) hrel2
    | goto l => exact hk (.goto l) st2 ρ2 a2 w2 hd (hext.trans hext2) hrel2
    | ret => exact hk .ret st2 ρ2 a2 w2 hd (hext.trans hext2) hrel2
  | region id ops draw =>
    cases draw with
    | false =>
      refine wpIn_region_list ?_
      exact opsGo_ok (fun h hrel hk => oper_ok hN hself hct h hrel hk) ops.toList h hrel (fun st' ρ' a' w' hd hext hrel' => hk .normal st' ρ' a' w' hd hext hrel')
    | true =>
      dsimp only at h
      split at h
      · rename_i hq0
        have hq := (Bool.and_eq_true _ _ ▸ hq0 : _ ∧ _).1
        unfold quietly at hq
        cases r with
        | some l => cases hq
        | none =>
          cases rn with
          | some n => exact hrr.elim
          | none =>
            have hdr : ∀ {ρ : Pl} {H : Heap} {hn : Nat} {w : World}, HRel ρ H hn w → Inv w0 m0 ρ w → Cls w0 m0 ρ H hn { w with drawn := w.drawn + 1 } := fun hr hi =>
              ⟨⟨hr.len, hr.inj, hr.lt, hr.ro, hr.obj⟩, ⟨hi.os, hi.tape, hi.output, hi.size, hi.keep, hi.fresh, hi.roF⟩⟩
            have hC := hdr hrel.heap hrel.inv
            dsimp only at hq
            split at h
            · rename_i hn0
              rw [hn0] at hq
              refine wpIn_wide.2 (wp_region_quiet (C := Cls w0 m0 ρ st.H st.hn) hm hq hC ?_)
              refine opsQ_ok hN hself hct hC ops.toList h rfl rfl ⟨hrel.slots, hrel.defers, hC.1, hC.2⟩ ?_
              intro st' a' hd e1 e2 hrel' w' hw'
              exact hk .normal st' ρ a' w' hd (Ext.refl _) ⟨hrel'.slots, hrel'.defers, by rw [e1, e2]; exact hw'.1, hw'.2⟩
            · rename_i n hn0
              rw [hn0] at hq
              have hb := hq
              simp only [Bool.and_eq_true] at hb
              refine wpIn_wide.2 (region_quiet_tail (C := Cls w0 m0 ρ st.H st.hn) n hm hb.1 hC ?_)
              refine opsQ_ok hN hself hct hC (ops.toList.take n) h rfl rfl ⟨hrel.slots, hrel.defers, hC.1, hC.2⟩ ?_
              intro st' a' hd e1 e2 hrel' w' hw'
              refine wpList_of_in _ _ _ hb.2 ?_
              refine opsGo_ok (rn := none) (w0 := w0) (m0 := m0) (fun h hrel hk => oper_ok hN hself hct h hrel hk) (ops.toList.drop n) hd ⟨hrel'.slots, hrel'.defers, by rw [e1, e2]; exact hw'.1, hw'.2⟩ ?_
              intro st2 ρ2 a2 w2 hd2 hext2 hrel2
              exact hk .normal st2 ρ2 a2 w2 hd2 hext2 hrel2
      · split at h
        · refine wpIn_region_any hm (regAll_ok (w0 := w0) (m0 := m0) hN hself hct ops.size [] _ st ρ a _ (fun i => ⟨fun h => (by cases h), fun hj => ?_⟩) (by simp) h ⟨hrel.slots, hrel.defers, ⟨hrel.heap.len, hrel.heap.inj, hrel.heap.lt, hrel.heap.ro, hrel.heap.obj⟩, ⟨hrel.inv.os, hrel.inv.tape, hrel.inv.output, hrel.inv.size, hrel.inv.keep, hrel.inv.fresh, hrel.inv.roF⟩⟩ fun st' ρ' a' w' hd hext hrel' => hk .normal st' ρ' a' w' hd hext hrel')
          obtain ⟨h1, h2⟩ := Array.getElem?_eq_some_iff.1 hj
          simp at h2
        · exact regD_ok hN hm hself hct h hrel fun st' ρ' a' w' hd hext hrel' => hk .normal st' ρ' a' w' hd hext hrel'
  | scope b =>
    dsimp only at h
    split at h
    · cases rn with
      | some n => exact hrr.elim
      | none =>
        refine wpIn_wide.2 (wp_scope_straight ((wpIn_wide (n := 0)).1 ?_))
        refine hself φ none none b st _ _ w0 m0 ρ a w h trivial hrel ?_
        intro e st' ρ' a' w' hd hext hrel'
        cases e with
        | normal => exact hk .normal st' ρ' a' w' hd hext hrel'
        | goto l => exact hd.elim
        | ret => exact hk .ret st' ρ' a' w' hd hext hrel'
        | exit id => exact hk (.exit id) st' ρ' a' w' hd hext hrel'
    · exact h.elim
  | refuse why => exact h.elim
  | rangeFunc g ps assign body =>
    dsimp only at h
    unfold rangeFn at h
    obtain ⟨vg, h, hg⟩ := ev_ok h
    obtain ⟨x, hx, e⟩ := hg ρ a hrel.slots
    split at h
    · rename_i f first capt
      dsimp only at h
      obtain ⟨us, vs, hus, hvs, ex⟩ := hx
      -- what the end of the statement does
      have fin : ∀ (l : Nat) (st1 : AS) (ρ1 : Pl) (a1 : Act) (ln : Nat) (v : AV) (H : Heap) (hn : Nat) (ρ2 : Pl) (w2 : World), ρ1.pin l = some ln → Ext ρ ρ1 → SRel ρ1 st1.sz st1.slots a1.tmps → DRel ρ1 st1.defers a1.defers →
          Tree.den φ (match look H l with
            | some (.loop fid s pe sz slots ps assign body d) => match s with
              | .busy => .fail "busy"
              | _ => match pe with
                | none => k .normal (st1.heap ((l, .loop fid .exhausted pe sz slots ps assign body d) :: H) hn)
                | some c => self r c (st1.heap ((l, .loop fid .exhausted pe sz slots ps assign body d) :: H) hn) k
            | _ => .fail "record") → Ext ρ1 ρ2 → HRel ρ2 H hn w2 → Inv w0 m0 ρ2 w2 →
          ∃ jump w₄, (Instr.endLoop ln).run P w2 = .ok jump w₄ ∧ (match jump with | none => Q .normal a1 w₄ | some c => c.wpIn (FR rn) 0 P Q a1 w₄) := by
        intro l st1 ρ1 a1 ln v H hn ρ2 w2 hl1 hext1 hs1 hd1 hd hext2 hr2 hi2
        split at hd
        · rename_i fid s pe sz slots ps2 assign2 body2 d2 hl
          obtain ⟨ln', o, hln', ho, fn, tmps, dn, hdn, hs, rfl⟩ := hr2.obj _ _ hl
          have := (Pl.pin_f (hext2.at _ _ hl1)).1
          rw [hln'] at this
          cases this
          have hlt : ln < w2.heap.size := (Array.getElem?_eq_some_iff.1 ho).1
          obtain ⟨g1, g2⟩ := held_set (b := .loop fid .exhausted pe sz slots ps2 assign2 body2 d2) (w' := w2.putObj ln _) hr2 hi2 hln' (World.putObj_heap_same hlt) (fun k hk => World.putObj_heap_other hk) (by simp [World.putObj]) rfl rfl rfl
            ⟨fn, tmps, dn, hdn, hs, rfl⟩
          have hrel2 : Rel w0 m0 ρ2 (st1.heap ((l, .loop fid .exhausted pe sz slots ps2 assign2 body2 d2) :: H) hn) a1 _ := ⟨hs1.mono hext2, hd1.mono hext2, g1, g2⟩
          have hkey : s ≠ .busy → Tree.den φ (match pe with
                | none => k .normal (st1.heap ((l, .loop fid .exhausted pe sz slots ps2 assign2 body2 d2) :: H) hn)
                | some c => self r c (st1.heap ((l, .loop fid .exhausted pe sz slots ps2 assign2 body2 d2) :: H) hn) k) → ∃ jump w₄, (Instr.endLoop ln).run P w2 = .ok jump w₄ ∧ (match jump with | none => Q .normal a1 w₄ | some c => c.wpIn (FR rn) 0 P Q a1 w₄) := by
            intro hnb hd
            refine ⟨pe, _, run_endLoop (P := P) ho hnb, ?_⟩
            cases pe with
            | none => exact hk .normal _ ρ2 a1 _ hd (hext1.trans hext2) hrel2
            | some c =>
              refine hself φ r rn c _ k Q w0 m0 ρ2 a1 _ hd (hrr.mono (hext1.trans hext2)) hrel2 ?_
              intro e3 st3 ρ3 a3 w3 hd3 hext3 hrel3
              exact hk e3 st3 ρ3 a3 w3 hd3 ((hext1.trans hext2).trans hext3) hrel3
          cases s with
          | busy => exact hd.elim
          | ready => cases pe <;> exact hkey (by simp) hd
          | done => cases pe <;> exact hkey (by simp) hd
          | exhausted => cases pe <;> exact hkey (by simp) hd
        · exact hd.elim
      have hres : ∀ (ln : Nat) (w1 : World), (resolve a.eval (rangeCall g ln) 0).run P w1 = .ok { target := .fn (.func f) vs.toArray, args := us.toArray ++ #[.func (.yield ln) #[] #[]] } w1 := by
        intro ln w1
        simp only [resolve, rangeCall]
        rw [e, ex]
        simp only [Deferred.ofValue, Sem.run_pure, List.map_toArray, List.map_cons, List.map_nil]
        rfl
      have hxs : ∀ {ρ1 : Pl} {l ln : Nat}, Ext ρ ρ1 → ρ1.pin l = some ln → AV.relL ρ1 (first ++ [AV.yld l] ++ capt) (us ++ [Value.func (.yield ln) #[] #[]] ++ vs) := fun hext hl =>
        relL_append (relL_append (AV.relL_mono hext _ hus) (relL_one (a := .yld _) ⟨_, hl, rfl⟩)) (AV.relL_mono hext _ hvs)
      have hinv : ∀ {fn : Func} {c : Code} (ln : Nat) (w1 : World), P.funcs[f]? = some fn → fn.body = some c →
          (invoke (.fn (.func f) vs.toArray) (us.toArray ++ #[Value.func (.yield ln) #[] #[]])).run P w1 = .ok (.enter f (us ++ [Value.func (.yield ln) #[] #[]] ++ vs).toArray) w1 := by
        intro fn c ln w1 hf hb
        simp only [invoke]
        rw [enters hN hf hb]
        simp
      refine wpIn_rangeFunc fun fn0 _ => ?_
      cases r with
      | none =>
        cases rn with
        | some n => exact hrr.elim
        | none =>
          dsimp only at h
          obtain ⟨a1, a2⟩ := held_new (w' := w.alloc (.deferred (some []))) (b := .mark) (o := .deferred (some [])) hrel.heap hrel.inv rfl rfl rfl rfl rfl
          have hn1 : ρ.top = st.hn := hrel.heap.len
          have hn2 : (ρ.put st.hn w.heap.size).top = st.hn + 1 := a1.len
          have hd1 : (ρ.put st.hn w.heap.size).pin st.hn = some w.heap.size := Pl.at_pin _ _ hn1
          have hs1 : (w.alloc (.deferred (some []))).heap.size = w.heap.size + 1 := World.size_alloc _ _
          obtain ⟨b1, b2⟩ := held_new (w' := (w.alloc (.deferred (some []))).alloc (.loop { state := .ready, pending := none, fn := fn0, tmps := a.tmps, params := ps, assign := assign, body := body, defers := w.heap.size }))
            (b := .loop st.fn .ready none st.sz st.slots ps assign body st.hn) (o := .loop { state := .ready, pending := none, fn := fn0, tmps := a.tmps, params := ps, assign := assign, body := body, defers := w.heap.size }) a1 a2 rfl rfl rfl rfl
            ⟨fn0, a.tmps, w.heap.size, (Ext.snoc _ hn2).at _ _ hd1, hrel.slots.mono ((Ext.snoc _ hn1).trans (Ext.snoc _ hn2)), rfl⟩
          have hext1 : Ext ρ ((ρ.put st.hn w.heap.size).put (st.hn + 1) (w.alloc (.deferred (some []))).heap.size) := (Ext.snoc _ hn1).trans (Ext.snoc _ hn2)
          have hl1 : ((ρ.put st.hn w.heap.size).put (st.hn + 1) (w.alloc (.deferred (some []))).heap.size).pin (st.hn + 1) = some (w.heap.size + 1) := by
            rw [Pl.at_pin _ _ hn2, hs1]
          obtain ⟨⟨fn, c, hf, hb⟩, hcall⟩ := callF_ok hself hct h (hxs hext1 hl1) b1 b2 (R := rangePost (FR none) 0 P (w.heap.size + 1) Q { a with defers := [{ target := .collected w.heap.size, args := #[] }] ++ a.defers }) (by
            intro v H' hn' ρ' x w' hd hext hv hr hi
            exact fin (st.hn + 1) { st with defers := st.hn :: st.defers } _ { a with defers := [{ target := .collected w.heap.size, args := #[] }] ++ a.defers } (w.heap.size + 1) v H' hn' ρ' w' hl1 hext1 (hrel.slots.mono hext1)
              ⟨w.heap.size, a.defers, (Ext.snoc _ hn2).at _ _ hd1, hrel.defers.mono hext1, rfl⟩ hd hext hr hi)
          exact ⟨w.heap.size + 1, [{ target := .collected w.heap.size, args := #[] }], _, _, _, f, _, _, run_enterLoop_outer _ _ _ _ _, hres _ _, fun _ _ => trivial, hinv _ _ hf hb, fun hh => (by cases hh), hcall⟩
      | some l0 =>
        cases rn with
        | none => exact hrr.elim
        | some n0 =>
          dsimp only at h
          split at h
          · rename_i fid0 s0 pe0 sz0 slots0 ps0 assign0 body0 d0 hl0
            obtain ⟨n0', o0, hn0', ho0, fn1, tmps1, dn1, hdn1, hs1, rfl⟩ := hrel.heap.obj _ _ hl0
            rw [(Pl.pin_f (show ρ.pin l0 = some n0 from hrr)).1] at hn0'
            cases hn0'
            have hn1 : ρ.top = st.hn := hrel.heap.len
            obtain ⟨b1, b2⟩ := held_new (w' := w.alloc (.loop { state := .ready, pending := none, fn := fn0, tmps := a.tmps, params := ps, assign := assign, body := body, defers := dn1 }))
              (b := .loop st.fn .ready none st.sz st.slots ps assign body d0) (o := .loop { state := .ready, pending := none, fn := fn0, tmps := a.tmps, params := ps, assign := assign, body := body, defers := dn1 }) hrel.heap hrel.inv rfl rfl rfl rfl
              ⟨fn0, a.tmps, dn1, (Ext.snoc _ hn1).at _ _ hdn1, hrel.slots.mono (Ext.snoc _ hn1), rfl⟩
            have hl1 : (ρ.put st.hn w.heap.size).pin st.hn = some w.heap.size := Pl.at_pin _ _ hn1
            obtain ⟨⟨fn, c, hf, hb⟩, hcall⟩ := callF_ok hself hct h (hxs (Ext.snoc _ hn1) hl1) b1 b2 (R := rangePost (FR (some n0)) 0 P w.heap.size Q { a with defers := [] ++ a.defers }) (by
              intro v H' hn' ρ' x w' hd hext hv hr hi
              exact fin st.hn st _ { a with defers := [] ++ a.defers } w.heap.size v H' hn' ρ' w' hl1 (Ext.snoc _ hn1) (hrel.slots.mono (Ext.snoc _ hn1)) (hrel.defers.mono (Ext.snoc _ hn1)) hd hext hr hi)
            exact ⟨w.heap.size, [], _, _, _, f, _, _, run_enterLoop_inner ho0 _ _ _ _ _, hres _ _, fun _ _ => trivial, hinv _ _ hf hb, fun hh => (by cases hh), hcall⟩
          · exact h.elim
    · exact h.elim
theorem run_ok {ct : CTab} {lt : LTab} (hN : Named P) (hm : P.follows .mixedOrders = true) (hct : CtOK P ct) (hlt : LtOK P lt) : ∀ n, SelfOK P (run P ct lt n)
  | 0 => fun _ _ _ _ _ _ _ _ _ _ _ _ h => h.elim
  | n + 1 => step_ok hN hm hct hlt (run_ok hN hm hct hlt n)
/-- A function's contract, by its walk. -/
theorem walk_ok {ct : CTab} {lt : LTab} (hN : Named P) (hm : P.follows .mixedOrders = true) (hct : CtOK P ct) (hlt : LtOK P lt) {n : Nat} {f : FuncId} {args : List AV} {H : Heap} {hn : Nat} {φ : AV → Heap → Nat → Prop} (h : (walk P ct lt n f args H hn).den φ)
    {ρ : Pl} {w : World} {xs : List Value} (hx : AV.relL ρ args xs) (hr : HRel ρ H hn w) :
    Calls P f xs.toArray w fun e w' => ∃ v H' hn' ρ' x, e = .returned x ∧ φ v H' hn' ∧ Ext ρ ρ' ∧ v.rel ρ' x ∧ HRel ρ' H' hn' w' ∧ Inv w ρ.ms ρ' w' := by
  unfold walk at h
  split at h
  · rename_i fn hf
    split at h
    · rename_i c hb
      split at h
      · rename_i hle
        have hle := Nat.le_of_ble_eq_true hle
        have hv : Inv w ρ.ms ρ w := ⟨rfl, rfl, rfl, Nat.le_refl _, fun _ _ _ => rfl, fun i n hi => .inl ⟨i, hi⟩, fun n o h => .inl ⟨o, h⟩⟩
        refine (callsIn_wide (n := 0)).1 (callsIn_of_wp_marks (nth_funcs hf) hb trivial ?_ rfl)
        rw [forceS_eq] at h
        refine run_ok hN hm hct hlt n φ none none c _ _ _ w _ ρ _ w h trivial ⟨SRel.params hx hle, rfl, hr, hv⟩ ?_
        intro e st' ρ' a' w' hd hext hrel
        cases e with
        | normal => exact leave_ok hd hrel fun v H' hn' x w' hd hx hr hv => ⟨v, H', hn', ρ', x, rfl, hd, hext, hx, hr, hv⟩
        | ret => exact leave_ok hd hrel fun v H' hn' x w' hd hx hr hv => ⟨v, H', hn', ρ', x, rfl, hd, hext, hx, hr, hv⟩
        | exit id => exact hd.elim
        | goto l => exact hd.elim
      · exact h.elim
    · exact h.elim
  · exact h.elim
theorem HRel.empty (w : World) : HRel (Pl.none 0) [] 0 w := ⟨rfl, fun i j n h => (by cases h), fun i n h => (by cases h), fun n o h => (by cases h), fun i b h => by simp [look] at h⟩
/-- .. of one that holds nothing ahead. -/
theorem walk_pure {ct : CTab} {lt : LTab} (hN : Named P) (hm : P.follows .mixedOrders = true) (hct : CtOK P ct) (hlt : LtOK P lt) {n : Nat} {f : FuncId} {args : List AV} {φ : AV → Heap → Nat → Prop} (h : (walk P ct lt n f args [] 0).den φ)
    (w : World) {xs : List Value} (hx : AV.relL (Pl.none 0) args xs) :
    Calls P f xs.toArray w fun e w' => ∃ v H' hn' ρ' x, e = .returned x ∧ φ v H' hn' ∧ v.rel ρ' x ∧ Below w.heap.size w w' := by
  refine (walk_ok hN hm hct hlt h hx (HRel.empty w)).mono ?_
  rintro e w' ⟨v, H', hn', ρ', x, he, hd, _, hv, _, hi⟩
  exact ⟨v, H', hn', ρ', x, he, hd, hv, ⟨hi.os, hi.tape, hi.output, hi.size, fun k hk => hi.keep k hk (fun ⟨_, h⟩ => by cases h)⟩⟩
end Go.Proofs.Ytaoplfmaiclfkaa.SX
