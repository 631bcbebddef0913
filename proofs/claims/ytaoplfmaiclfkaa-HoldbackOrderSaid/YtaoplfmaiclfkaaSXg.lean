/- A symbolic walk, part seven: calls, rounds, leaving. -/
import Derived.Test.YtaoplfmaiclfkaaSXf
namespace Go.Proofs.Ytaoplfmaiclfkaa.SX
set_option linter.unusedVariables false
set_option linter.unusedSimpArgs false
open Go Go.RowKit
variable {P : Program} {φ : AV → Heap → Nat → Prop}
def FR (r : Option Nat) : Fence := { Fence.wide with round := r }
def RR (ρ : Pl) : Option Nat → Option Nat → Prop
  | none, none => True
  | some l, some n => ρ.pin l = some n
  | _, _ => False
theorem RR.mono {ρ ρ' : Pl} (h : Ext ρ ρ') : ∀ {r rn : Option Nat}, RR ρ r rn → RR ρ' r rn
  | none, none, x => x
  | some _, some _, x => h.at _ _ x
def DRel (ρ : Pl) : List Nat → List Deferred → Prop
  | [], ds => ds = []
  | i :: r, ds => ∃ n t, ρ.pin i = some n ∧ DRel ρ r t ∧ ds = { target := .collected n, args := #[] } :: t
theorem DRel.mono {ρ ρ' : Pl} (h : Ext ρ ρ') : ∀ {l : List Nat} {ds : List Deferred}, DRel ρ l ds → DRel ρ' l ds
  | [], _, x => x
  | _ :: _, _, ⟨n, t, hn, ht, e⟩ => ⟨n, t, h.at _ _ hn, DRel.mono h ht, e⟩
structure Rel (w0 : World) (m0 : MS) (ρ : Pl) (st : AS) (a : Act) (w : World) : Prop where
  slots : SRel ρ st.sz st.slots a.tmps
  defers : DRel ρ st.defers a.defers
  heap : HRel ρ st.H st.hn w
  inv : Inv w0 m0 ρ w
def AExit.out : AExit → Exit
  | .normal => .normal
  | .exit id => .exit id
  | .goto l => .goto l
  | .ret => .ret
/-- The walk of code is sound. -/
def SelfOK (P : Program) (self : Self) : Prop :=
  ∀ (φ : AV → Heap → Nat → Prop) (r rn : Option Nat) (c : Code) (st : AS) (k : AExit → AS → Tree) (Q : Exit → Act → World → Prop) (w0 : World) (m0 : MS) (ρ : Pl) (a : Act) (w : World),
    (self r c st k).den φ → RR ρ r rn → Rel w0 m0 ρ st a w →
    (∀ e st' ρ' a' w', (k e st').den φ → Ext ρ ρ' → Rel w0 m0 ρ' st' a' w' → Q e.out a' w') → c.wpIn (FR rn) 0 P Q a w
structure Eff (ρ ρ' : Pl) (w w' : World) : Prop where
  os : w'.os = w.os
  tape : w'.tape = w.tape
  output : w'.output = w.output
  size : w.heap.size ≤ w'.heap.size
  keep : ∀ k : Nat, k < w.heap.size → (∀ i, ρ i ≠ some k) → w'.heap[k]? = w.heap[k]?
  fresh : ∀ i n, ρ' i = some n → (∃ j, ρ j = some n) ∨ w.heap.size ≤ n
  roF : ∀ (n : Nat) (o : Obj), ρ'.ro.obj n = some o → (∃ o', ρ.ro.obj n = some o') ∨ (∃ j, ρ j = some n) ∨ w.heap.size ≤ n
theorem Eff.of_below {ρ : Pl} {w w' : World} (h : Below w.heap.size w w') : Eff ρ ρ w w' := ⟨h.os, h.tape, h.output, h.size, fun k hk _ => h.block k hk, fun i n hi => .inl ⟨i, hi⟩, fun n o h => .inl ⟨o, h⟩⟩
theorem HRel.below {ρ : Pl} {H : Heap} {hn : Nat} {w w' : World} (hr : HRel ρ H hn w) (h : Below w.heap.size w w') : HRel ρ H hn w' :=
  ⟨hr.len, hr.inj, fun i n hi => Nat.lt_of_lt_of_le (hr.lt i n hi) h.size, fun n o hn => ⟨(h.block n (Array.getElem?_eq_some_iff.1 (hr.ro n o hn).1).1).trans (hr.ro n o hn).1, (hr.ro n o hn).2⟩, fun i b hb => (hr.obj i b hb).mono (Ext.refl _) (fun _ h => h) fun n hn => h.block n (hr.lt i n hn)⟩
theorem Inv.eff {w0 w w' : World} {m0 : MS} {ρ ρ' : Pl} (h : Inv w0 m0 ρ w) (e : Eff ρ ρ' w w') : Inv w0 m0 ρ' w' :=
  ⟨e.os.trans h.os, e.tape.trans h.tape, e.output.trans h.output, Nat.le_trans h.size e.size, fun k hk hm => by
    rw [e.keep k (Nat.lt_of_lt_of_le hk h.size) (fun i hi => h.not_old hi hk hm rfl)]
    exact h.keep k hk hm, fun i n hi => by
    rcases e.fresh i n hi with ⟨j, hj⟩ | hn
    · exact h.fresh j n hj
    · exact .inr (Nat.le_trans h.size hn), fun n o hn => by
    rcases e.roF n o hn with ⟨o', ho⟩ | ⟨j, hj⟩ | hs
    · exact h.roF n o' ho
    · rcases h.fresh j n hj with h | h
      · exact .inr (.inl h)
      · exact .inr (.inr h)
    · exact .inr (.inr (Nat.le_trans h.size hs))⟩
/-- What it made, if it made memory alone. -/
def FrPost (c : Con) (r : c.R) (hn : Nat) (v : Value) (w w' : World) : Prop := ∀ g, c.fr = some g → ∃ ρ2, Ext (Pl.none hn) ρ2 ∧ (c.enc r).rel ρ2 v ∧ HRel ρ2 (g r).1 (g r).2 w' ∧ Inv w MS.no ρ2 w'
/-- Contracts that are known. -/
def CtOK (P : Program) (ct : CTab) : Prop :=
  ∀ f args H hn c, ct f args H hn = some c → (∀ p ∈ c.eqs, p.1 = p.2) → ∀ r, c.o = some r → ∀ (ρ : Pl) (w : World) (xs : List Value), AV.relL ρ args xs → HRel ρ H hn w →
    Calls P f xs.toArray w fun e w' => ∃ v ρ', e = .returned v ∧ (c.enc r).rel ρ' v ∧ (match c.hp with | none => ρ' = ρ ∧ HRel ρ H hn w' | some h => Ext ρ ρ' ∧ HRel ρ' (h r).1 (h r).2 w') ∧ Eff ρ ρ' w w' ∧ FrPost c r hn v w w'
/-- A loop's end. -/
def LPost {X Y : Type} (w0 : World) (m0 : MS) (ρ : Pl) (id : Nat) (sx : X → AS) (sy : Y → AS) (q : X ⊕ Y) (e : Exit) (a' : Act) (w' : World) : Prop :=
  ∃ ρ', Ext ρ ρ' ∧ match q with
    | .inl x => (e = .normal ∨ e = .exit id) ∧ Rel w0 m0 ρ' (sx x) a' w'
    | .inr y => e = .ret ∧ Rel w0 m0 ρ' (sy y) a' w'
/-- Loops that are known. -/
def LtOK (P : Program) (lt : LTab) : Prop :=
  ∀ fn id L r st c q, lt fn id = some L → L.sum r st = some c → (∀ p ∈ c.eqs, p.1 = p.2) → c.o = some q → ∀ (rn : Option Nat) (w0 : World) (m0 : MS) (ρ : Pl) (a : Act) (w : World), RR ρ r rn → Rel w0 m0 ρ st a w →
    L.code.wpIn (FR rn) 0 P (LPost w0 m0 ρ id c.sx c.sy q) a w ∧ ∀ (k : AS → Tree) (y : c.Y) (φ : AV → Heap → Nat → Prop), (c.ty k y).den φ → (k (c.sy y)).den φ
/-- No function is the one that counts goroutines. -/
def Named (P : Program) : Prop := ∀ (f : FuncId) (fn : Func), P.funcs[f]? = some fn → (fn.name == "runtime.NumGoroutine") = false
theorem enters {f : FuncId} {fn : Func} {c : Code} (hN : Named P) (hf : P.funcs[f]? = some fn) (hb : fn.body = some c) (args : Array Value) (w : World) : (callFunc f args).run P w = .ok (.enter f args) w := by
  have h1 : fn.name ≠ "runtime.NumGoroutine" := by simpa using hN f fn hf
  simp [callFunc, hf, h1, hb, mark]
theorem nth_funcs {f : FuncId} {fn : Func} (h : nth P.funcs.toList f = some fn) : P.funcs[f]? = some fn := by rw [nth_eq] at h; simpa using h
theorem relL_inj_len {ρ : Pl} {l : List AV} {xs : List Value} (h : AV.relL ρ l xs) : xs.length = l.length := relL_len h
theorem look_params : ∀ (l : List AV) (i t : Nat) (v : AV), look (paramSlots l i) t = some v → i ≤ t ∧ nth l (t - i) = some v
  | [], i, t, v, h => by simp [paramSlots, look] at h
  | a :: l, i, t, v, h => by
    unfold paramSlots at h
    rw [look_cons] at h
    by_cases e : i = t
    · subst e
      rw [if_pos rfl] at h
      exact ⟨Nat.le_refl _, by simp [nth, h]⟩
    · rw [if_neg e] at h
      obtain ⟨h1, h2⟩ := look_params l (i + 1) t v h
      refine ⟨by omega, ?_⟩
      rw [show t - i = (t - (i + 1)) + 1 from by omega]
      exact h2
theorem SRel.params {ρ : Pl} {args : List AV} {xs : List Value} {sz : Nat} (hx : AV.relL ρ args xs) (hle : args.length ≤ sz) : SRel ρ sz (paramSlots args 0) (xs.toArray ++ Array.replicate (sz - xs.toArray.size) undef) := by
  have hl := relL_len hx
  refine ⟨by simp; omega, fun t v hv => ?_⟩
  obtain ⟨_, h2⟩ := look_params args 0 t v hv
  obtain ⟨x, hx1, hx2⟩ := relL_nth _ hx h2
  simp only [Nat.sub_zero] at hx1
  have hlt : t < xs.length := (List.getElem?_eq_some_iff.1 hx1).1
  exact ⟨x, hx2, by rw [Array.getElem?_append_left (by simpa using hlt)]; simpa using hx1⟩
/- leaving -/
def resF (tmps : Array Value) : ResultVar → Sem Value
  | .tmp t => pure (tmps.getD t undef)
  | .cell a t => do loadVar t (← asAddr (tmps.getD a undef))
theorem results_eq (fn : Func) (tmps : Array Value) (w : World) (vs : List Value) (h : (fn.results.toList.mapM (resF tmps)).run P w = .ok vs w) :
    (results fn tmps).run P w = .ok (if h : vs.toArray.size = 1 then vs.toArray[0] else .tuple vs.toArray) w := by
  have e : results fn tmps = (do
      let vs ← fn.results.mapM (resF tmps)
      pure (if h : vs.size = 1 then vs[0] else .tuple vs)) := by
    unfold results
    congr 1
  rw [e, Array.mapM_eq_mapM_toList]
  simp only [Sem.run_bind, Sem.run_map, h, Result.andThen_ok, Sem.run_pure]
theorem resL_ok {st : AS} {H : Heap} : ∀ {l : List ResultVar} {k : List AV → Tree}, (resL P st H l k).den φ → ∃ as, (k as).den φ ∧
    ∀ (ρ : Pl) (hn : Nat) (w : World) (tmps : Array Value), SRel ρ st.sz st.slots tmps → HRel ρ H hn w → ∃ xs, AV.relL ρ as xs ∧ (l.mapM (resF tmps)).run P w = .ok xs w
  | [], k, h => ⟨[], h, fun _ _ _ _ _ _ => ⟨[], rfl, rfl⟩⟩
  | .tmp t :: r, k, h => by
    unfold resL at h
    split at h
    · rename_i v hv
      obtain ⟨as, h, ha⟩ := resL_ok h
      refine ⟨_, h, fun ρ hn w tmps hs hr => ?_⟩
      obtain ⟨xs, hx, e⟩ := ha ρ hn w tmps hs hr
      obtain ⟨x, hx1, hx2⟩ := hs.2 t v hv
      refine ⟨_, ⟨x, xs, hx1, hx, rfl⟩, ?_⟩
      rw [List.mapM_cons]
      simp only [Sem.run_bind, resF, Sem.run_pure, Result.andThen_ok, e, Array.getD_eq_getD_getElem?, hx2, Option.getD_some]
    · exact h.elim
  | .cell a t :: r, k, h => by
    unfold resL at h
    split at h
    · rename_i i o hv
      obtain ⟨bv, h, hb⟩ := loadAt_ok h
      obtain ⟨as, h, ha⟩ := resL_ok h
      refine ⟨_, h, fun ρ hn w tmps hs hr => ?_⟩
      obtain ⟨xs, hx, e⟩ := ha ρ hn w tmps hs hr
      obtain ⟨x, ⟨n, hn1, hx1⟩, hx2⟩ := hs.2 a _ hv
      obtain ⟨y, m, hy, hm, hl⟩ := hb ρ hn w hr
      rw [(Pl.pin_f hn1).1] at hm
      cases hm
      refine ⟨_, ⟨y, xs, hy, hx, rfl⟩, ?_⟩
      rw [List.mapM_cons]
      simp only [Sem.run_bind, resF, Array.getD_eq_getD_getElem?, hx2, Option.getD_some, hx1, asAddr, Sem.run_pure, Result.andThen_ok, hl, e]
    · exact h.elim
theorem resV_ok {ρ : Pl} {as : List AV} {xs : List Value} (h : AV.relL ρ as xs) : (resV as).rel ρ (if h : xs.toArray.size = 1 then xs.toArray[0] else .tuple xs.toArray) := by
  match as, h with
  | [], h => rw [show xs = [] from h]; exact ⟨[], rfl, rfl⟩
  | [a], ⟨x, xs', hx, hxs, e⟩ => rw [e, show xs' = [] from hxs]; exact hx
  | a :: b :: l, ⟨x, xs', hx, ⟨y, ys, hy, hys, e2⟩, e⟩ =>
    subst e2 e
    rw [dif_neg (by simp)]
    exact ⟨_, ⟨x, _, hx, ⟨y, ys, hy, hys, rfl⟩, rfl⟩, rfl⟩
theorem shut_ok {fn : Func} {R : Ending → World → Prop} {tmps : Array Value} {w0 : World} {m0 : MS} {ρ : Pl} {hn : Nat} {H' : Heap} : ∀ {ds : List Nat} {H : Heap} {dl : List Deferred} {w : World}, shutAll ds H = some H' → DRel ρ ds dl → HRel ρ H hn w → Inv w0 m0 ρ w →
    (∀ w', HRel ρ H' hn w' → Inv w0 m0 ρ w' → ∃ v, (results fn tmps).run P w' = .ok v w' ∧ R (.returned v) w') → LeavesInM (FR none) 0 P fn tmps R dl .returning w
  | [], H, dl, w, h, hd, hr, hv, hk => by
    cases h
    rw [show dl = [] from hd]
    exact hk w hr hv
  | d :: ds, H, dl, w, h, ⟨n, t, hn, ht, e⟩, hr, hv, hk => by
    subst e
    unfold shutAll at h
    split at h
    · rename_i hm
      obtain ⟨n', o, hn', ho, hm'⟩ := hr.obj _ _ hm
      have hn := (Pl.pin_f hn).1
      rw [hn] at hn'
      cases hn'
      have ho : w.heap[n]? = some (.deferred (some [])) := by rw [ho, show o = _ from hm']
      have htake := run_takeDeferred (P := P) ho
      have hlt : n < w.heap.size := (Array.getElem?_eq_some_iff.1 ho).1
      obtain ⟨h1, h2⟩ := held_set (b := .dead) (w' := w.putObj n (.deferred none)) hr hv hn (World.putObj_heap_same hlt) (fun k hk => World.putObj_heap_other hk) (by simp [World.putObj]) rfl rfl rfl trivial
      exact ⟨by simp, .inl ⟨n, _, rfl, htake, shut_ok h ht h1 h2 hk⟩⟩
    · cases h
theorem leave_ok {fn : Func} {st : AS} {k : AV → Heap → Nat → Tree} {w0 : World} {m0 : MS} {ρ : Pl} {a : Act} {w : World} {R : Ending → World → Prop} (h : (leave P fn st k).den φ) (hrel : Rel w0 m0 ρ st a w)
    (hk : ∀ v H' hn' x w', (k v H' hn').den φ → v.rel ρ x → HRel ρ H' hn' w' → Inv w0 m0 ρ w' → R (.returned x) w') : LeavesInM (FR none) 0 P fn a.tmps R a.defers .returning w := by
  unfold leave at h
  split at h
  · rename_i H hH
    obtain ⟨as, h, ha⟩ := resL_ok h
    refine shut_ok hH hrel.defers hrel.heap hrel.inv fun w' hr hv => ?_
    obtain ⟨xs, hx, e⟩ := ha ρ _ w' a.tmps hrel.slots hr
    exact ⟨_, results_eq fn a.tmps w' xs e, hk _ _ _ _ w' h (resV_ok hx) hr hv⟩
  · exact h.elim
/- calls -/
theorem callF_ok {ct : CTab} {self : Self} (hself : SelfOK P self) (hct : CtOK P ct) {f : FuncId} {args : List AV} {H : Heap} {hn : Nat} {k : AV → Heap → Nat → Tree} (h : (callF P ct self f args H hn k).den φ)
    {w0 : World} {m0 : MS} {ρ : Pl} {w : World} {xs : List Value} (hx : AV.relL ρ args xs) (hr : HRel ρ H hn w) (hv : Inv w0 m0 ρ w) {R : Ending → World → Prop}
    (hk : ∀ v H' hn' ρ' x w', (k v H' hn').den φ → Ext ρ ρ' → v.rel ρ' x → HRel ρ' H' hn' w' → Inv w0 m0 ρ' w' → R (.returned x) w') :
    (∃ fn c, P.funcs[f]? = some fn ∧ fn.body = some c) ∧ CallsIn (FR none) 0 P f xs.toArray w R := by
  unfold callF at h
  split at h
  · rename_i fn hf
    split at h
    · rename_i c hb
      refine ⟨⟨fn, c, nth_funcs hf, hb⟩, ?_⟩
      split at h
      · rename_i cc hcc
        obtain ⟨heq, h⟩ := sameIf_den h
        split at h
        · rename_i hhp
          obtain ⟨r, hr1, h⟩ := h
          dsimp only at h
          rw [forceA_eq] at h
          refine (callsIn_wide.2 (hct f args H hn cc hcc heq r hr1 ρ w xs hx hr)).mono ?_
          rintro e w' ⟨v, ρ', rfl, hv1, hh, he, _⟩
          rw [hhp] at hh
          obtain ⟨rfl, hh⟩ := hh
          exact hk _ _ _ _ v w' h (Ext.refl _) hv1 hh (hv.eff he)
        · rename_i hp hhp
          obtain ⟨r, hr1, h⟩ := h
          dsimp only at h
          rw [forceA_eq, forceH_eq, forceN_eq] at h
          refine (callsIn_wide.2 (hct f args H hn cc hcc heq r hr1 ρ w xs hx hr)).mono ?_
          rintro e w' ⟨v, ρ', rfl, hv1, hh, he, _⟩
          rw [hhp] at hh
          exact hk _ _ _ ρ' v w' h hh.1 hv1 hh.2 (hv.eff he)
      · split at h
        · rename_i hle
          have hle := Nat.le_of_ble_eq_true hle
          refine callsIn_of_wp_marks (nth_funcs hf) hb trivial ?_ rfl
          refine hself φ none none c _ _ _ w0 m0 ρ _ w h trivial ⟨SRel.params hx hle, rfl, hr, hv⟩ ?_
          intro e st' ρ' a' w' hd hext hrel
          cases e with
          | normal => exact leave_ok hd hrel fun v H' hn' x w' hd hx hr hv => hk v H' hn' ρ' x w' hd hext hx hr hv
          | ret => exact leave_ok hd hrel fun v H' hn' x w' hd hx hr hv => hk v H' hn' ρ' x w' hd hext hx hr hv
          | exit id => exact hd.elim
          | goto l => exact hd.elim
        · exact h.elim
    · exact h.elim
  · exact h.elim
theorem SRel.putAll {ρ : Pl} {sz : Nat} : ∀ {ts : List Tmp} {vs : List AV} {slots : List (Nat × AV)} {xs : List Value} {tmps : Array Value}, SRel ρ sz slots tmps → AV.relL ρ vs xs → ts.length = vs.length →
    SRel ρ sz (SX.putAll sz ts vs slots) ((ts.zip xs).foldl (fun t (p : Tmp × Value) => t.setIfInBounds p.1 p.2) tmps)
  | [], [], slots, xs, tmps, h, hx, _ => by rw [show xs = [] from hx]; exact h
  | t :: ts, v :: vs, slots, _, tmps, h, ⟨x, xs, hx, hxs, e⟩, hl => by
    subst e
    unfold SX.putAll
    simp only [List.zip_cons_cons, List.foldl_cons]
    split
    · rename_i hlt
      exact SRel.putAll (h.put (Nat.lt_of_lt_of_le (Nat.lt_succ_self t) (Nat.le_of_ble_eq_true hlt)) hx) hxs (by simpa using hl)
    · rename_i hlt
      have : ¬ t < sz := fun hh => by
        have := Nat.ble_eq_true_of_le (show t + 1 ≤ sz from hh)
        rw [show Nat.blt t sz = Nat.ble (t + 1) sz from rfl, this] at hlt
        cases hlt
      rw [h.skip this]
      exact SRel.putAll h hxs (by simpa using hl)
  | [], _ :: _, _, _, _, _, _, hl => by simp at hl
  | _ :: _, [], _, _, _, _, _, hl => by simp at hl
theorem round_ok {self : Self} (hself : SelfOK P self) {i : Nat} {args : List AV} {H : Heap} {hn : Nat} {k : AV → Heap → Nat → Tree} (h : (round self i args H hn k).den φ)
    {w0 : World} {m0 : MS} {ρ : Pl} {w : World} {xs : List Value} {n : Nat} (hi : ρ.pin i = some n) (hx : AV.relL ρ args xs) (hr : HRel ρ H hn w) (hv : Inv w0 m0 ρ w) {R : Ending → World → Prop} {rn : Option Nat}
    (hk : ∀ v H' hn' ρ' x w', (k v H' hn').den φ → Ext ρ ρ' → v.rel ρ' x → HRel ρ' H' hn' w' → Inv w0 m0 ρ' w' → R (.returned x) w') :
    ∃ l f tmps assign body, (Instr.yield n xs.toArray).run P w = .ok (.round l f tmps assign body) w ∧ RoundIn (FR rn) 0 P l f tmps assign body w R := by
  unfold SX.round at h
  split at h
  · rename_i fid pe sz slots ps assign body d hl
    obtain ⟨n', o, hn', ho, fn, tmps, dn, hdn, hs, rfl⟩ := hr.obj _ _ hl
    rw [(Pl.pin_f hi).1] at hn'
    cases hn'
    split at h
    · rename_i hps
      have hps := Nat.eq_of_beq_eq_true hps
      have hxl := relL_len hx
      have hps' : ps.size = args.length := by simpa using hps
      refine ⟨_, _, _, _, _, run_yield (P := P) ho (by simp [hxl, hps']), ?_⟩
      refine roundIn_of_wpIn trivial ?_
      have hs' := SRel.putAll hs hx hps
      have ht : ((ps.zip xs.toArray).foldl (fun tmps (p : Tmp × Value) => tmps.setIfInBounds p.1 p.2) tmps) = ((ps.toList.zip xs).foldl (fun t (p : Tmp × Value) => t.setIfInBounds p.1 p.2) tmps) := by
        rw [← Array.foldl_toList]
        simp
      refine hself φ (some i) (some n) assign _ _ _ w0 m0 ρ _ w h hi ⟨by rw [ht]; exact hs', rfl, hr, hv⟩ ?_
      intro e st1 ρ1 a1 w1 hd hext hrel
      cases e with
      | normal =>
        dsimp only at hd
        split at hd
        · rename_i fid' pe' sz' slots' ps' assign' body' d' hl1
          obtain ⟨n1, o1, hn1, ho1, fn1, tmps1, dn1, hdn1, hs1, rfl⟩ := hrel.heap.obj _ _ hl1
          have hp1 := hext.at _ _ hi
          have := (Pl.pin_f hp1).1
          rw [hn1] at this
          cases this
          refine ⟨_, run_beginRound (P := P) ho1 rfl, ?_⟩
          have hlt1 : n < w1.heap.size := (Array.getElem?_eq_some_iff.1 ho1).1
          obtain ⟨g1, g2⟩ := held_set (b := .loop fid' .busy pe' sz' slots' ps' assign' body' d') (w' := w1.putObj n _) hrel.heap hrel.inv hn1 (World.putObj_heap_same hlt1) (fun k hk => World.putObj_heap_other hk) (by simp [World.putObj]) rfl rfl rfl
            ⟨fn1, tmps1, dn1, hdn1, hs1, rfl⟩
          refine hself φ (some i) (some n) body _ _ _ w0 m0 ρ1 _ _ hd hp1 ⟨hrel.slots, hrel.defers, g1, g2⟩ ?_
          intro e st2 ρ2 a2 w2 hd2 hext2 hrel2
          split at hd2
          · rename_i fid2 s2 pe2 sz2 slots2 ps2 assign2 body2 d2 hl2
            obtain ⟨n2, o2, hn2, ho2, fn2, tmps2, dn2, hdn2, hs2, rfl⟩ := hrel2.heap.obj _ _ hl2
            have := (Pl.pin_f (hext2.at _ _ hp1)).1
            rw [hn2] at this
            cases this
            have hlt2 : n < w2.heap.size := (Array.getElem?_eq_some_iff.1 ho2).1
            have fin : ∀ (jump : Option Code), (k (.bool (.c jump.isNone)) ((i, .loop fid2 (if jump.isNone then .ready else .done) jump sz2 slots2 ps2 assign2 body2 d2) :: st2.H) st2.hn).den φ →
                ∃ v w', (Instr.endRound n jump).run P w2 = .ok v w' ∧ R (.returned v) w' := by
              intro jump hj
              obtain ⟨g1, g2⟩ := held_set (b := .loop fid2 (if jump.isNone then .ready else .done) jump sz2 slots2 ps2 assign2 body2 d2) (w' := w2.putObj n _) hrel2.heap hrel2.inv hn2 (World.putObj_heap_same hlt2) (fun k hk => World.putObj_heap_other hk) (by simp [World.putObj]) rfl rfl rfl
                ⟨fn2, tmps2, dn2, hdn2, hs2, rfl⟩
              exact ⟨_, _, run_endRound (P := P) jump ho2, hk _ _ _ ρ2 _ _ hj (hext.trans hext2) rfl g1 g2⟩
            split at hd2
            · cases e with
              | normal => exact fin none hd2
              | ret => exact fin (some .ret) hd2
              | exit id => exact fin (some (.exit id)) hd2
              | goto l => exact fin (some (.goto l)) hd2
            · exact hd2.elim
          · exact hd2.elim
        · exact hd.elim
      | ret => exact hd.elim
      | exit id => exact hd.elim
      | goto l => exact hd.elim
    · exact h.elim
  · exact h.elim
end Go.Proofs.Ytaoplfmaiclfkaa.SX
