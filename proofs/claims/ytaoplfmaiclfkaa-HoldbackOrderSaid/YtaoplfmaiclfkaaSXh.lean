/- A symbolic walk, part eight: code, and functions. -/
import Derived.Test.YtaoplfmaiclfkaaSXg
import Derived.TacticsIn
namespace Go.Proofs.Ytaoplfmaiclfkaa.SX
set_option linter.unusedVariables false
set_option linter.unusedSimpArgs false
open Go Go.RowKit
variable {P : Program} {φ : AV → Heap → Nat → Prop} {w0 : World} {m0 : MS}
theorem put_rel {ρ : Pl} {st : AS} {a : Act} {w : World} {v : AV} {x : Value} (h : Rel w0 m0 ρ st a w) (d : Option Tmp) (hx : v.rel ρ x) : Rel w0 m0 ρ (st.put d v) (a.put d x) w := by
  cases d with
  | none => exact h
  | some t =>
    unfold AS.put Act.put
    dsimp only
    split
    · rename_i hlt
      exact ⟨h.slots.put (Nat.lt_of_lt_of_le (Nat.lt_succ_self t) (Nat.le_of_ble_eq_true hlt)) hx, h.defers, h.heap, h.inv⟩
    · rename_i hlt
      have : ¬ t < st.sz := fun hh => by
        have := Nat.ble_eq_true_of_le (show t + 1 ≤ st.sz from hh)
        rw [show Nat.blt t st.sz = Nat.ble (t + 1) st.sz from rfl, this] at hlt
        cases hlt
      rw [h.slots.skip this]
      exact h
theorem know_rel {ρ : Pl} {st : AS} {a : Act} {w : World} {d : Tmp} {b : Bool} (h : Rel w0 m0 ρ st a w) (hd : a.tmps[d]? = some (.bool b)) : Rel w0 m0 ρ (st.put (some d) (.bool (.c b))) a w := by
  have := put_rel h (some d) (v := .bool (.c b)) (x := .bool b) rfl
  have e : a.put (some d) (.bool b) = a := by
    unfold Act.put
    obtain ⟨hlt, hv⟩ := Array.getElem?_eq_some_iff.1 hd
    cases a with
    | mk tmps defers =>
      dsimp only at hv hlt
      have e : tmps.setIfInBounds d (Value.bool b) = tmps := by
        simp only [Array.setIfInBounds, hlt, dite_true]
        apply Array.ext
        · simp
        · intro i h1 h2
          rw [Array.getElem_set]
          split
          · rename_i e
            subst e
            exact hv.symm
          · rfl
      simp only [e]
  rwa [e] at this
theorem semAt_of {o : Oper} (h : ∀ c, o.op ≠ .defer c) (rn : Option Nat) (ρ : Operand → Value) : o.semAt rn ρ = execOp ρ o := Oper.semAt_eq rn ρ o h
theorem methodIn_find {name : String} : ∀ {l : List Method} {m : Method}, methodIn name l = some m → l.find? (·.name == name) = some m
  | [], m, h => by cases h
  | a :: l, m, h => by
    unfold methodIn at h
    split at h
    · rename_i hn
      cases h
      simp [List.find?_cons, hn]
    · rename_i hn
      have := methodIn_find h
      simp [List.find?_cons, hn, this]
theorem recvOf_ok {t : TypeId} {name : String} {v rv : AV} {g : FuncId} (h : recvOf P t name v = some (g, rv)) {ρ : Pl} {x : Value} (hx : v.rel ρ x) (w : World) : ∃ y, rv.rel ρ y ∧ ∀ n, (method (n + 1) t x name).run P w = .ok (g, y) w := by
  unfold recvOf at h
  split at h
  · rename_i i o
    split at h
    · rename_i inf hinf
      split at h
      · rename_i m hm
        have hfind : inf.methods.find? (·.name == name) = some m := by
          rw [← Array.find?_toList]
          exact methodIn_find hm
        obtain ⟨n0, hn0, ex⟩ := hx
        split at h
        · rename_i f hfunc hpath
          split at h
          · rename_i e hu
            cases h
            refine ⟨x, ⟨n0, hn0, ex⟩, fun n => ?_⟩
            unfold method
            simp [run_typeInfo hinf, hfind, hpath, follow, hfunc, receiverAt, run_underlying hu, Place.get]
          · cases h
        · rename_i f s hfunc hpath
          split at h
          · rename_i fs hderef hfs
            split at h
            · rename_i fd hfd
              split at h
              · rename_i us fi hud hfi
                split at h
                · rename_i hz
                  cases h
                  have hz' : ¬ fi.size = 0 := fun e => by rw [e] at hz; cases hz
                  have hfd' : fs[s.index]? = some fd := by rw [nth_eq] at hfd; simpa using hfd
                  refine ⟨.pointer (some ⟨n0, o + fd.offset, none⟩), ⟨n0, hn0, rfl⟩, fun n => ?_⟩
                  have hne : m.path.isEmpty = false := by
                    cases hp : m.path.isEmpty with
                    | false => rfl
                    | true =>
                      have := Array.isEmpty_iff.1 hp
                      rw [this] at hpath
                      cases hpath
                  unfold method
                  simp [run_typeInfo hinf, hfind, hpath, follow, hfunc, receiverAt, run_underlying hfs, run_underlying hud, hfd', hderef, Place.get, ex, asAddr, fieldPlace, run_sizeOf hfi, hz', addr_add]
                · cases h
              · cases h
            · cases h
          · cases h
        · cases h
      · cases h
    · cases h
  · cases h
theorem oper_ok {ct : CTab} {self : Self} (hN : Named P) (hself : SelfOK P self) (hct : CtOK P ct) {o : Oper} {st : AS} {k : AS → Tree} (h : (oper P ct self o st k).den φ) {ρ : Pl} {a : Act} {w : World} (hrel : Rel w0 m0 ρ st a w) {rn : Option Nat}
    {next : Act → World → Prop} {Q : Exit → Act → World → Prop} (hk : ∀ st' ρ' a' w', (k st').den φ → Ext ρ ρ' → Rel w0 m0 ρ' st' a' w' → next a' w') : o.wpIn (FR rn) 0 P a w next Q := by
  refine ⟨fun _ _ => trivial, ?_⟩
  unfold oper at h
  have hval : ∀ {op : Op}, o.op = op → (∀ c, op ≠ .defer c) → (vop P st op fun v => k (st.put o.dst v)).den φ → o.uponIn (FR rn) 0 P a next Q ((o.semAt (FR rn).round a.eval).run P w) := by
    intro op ho hnd h
    obtain ⟨av, h, hy⟩ := vop_ok h
    obtain ⟨v, hv, hrun⟩ := hy ρ a w o ho hrel.slots hrel.heap
    rw [semAt_of (by rw [ho]; exact hnd), hrun, Oper.uponIn_value]
    exact hk _ ρ _ _ h (Ext.refl _) (put_rel hrel o.dst hv)
  split at h
  · rename_i c hop
    split at h
    · rename_i r name hcal
      obtain ⟨vr, h1, hf⟩ := ev_ok h
      clear h
      have h := h1
      clear h1
      obtain ⟨x, hx, e⟩ := hf ρ a hrel.slots
      split at h
      · rename_i t v
        obtain ⟨y, hy, ex⟩ := hx
        split at h
        · rename_i g rv hrv
          obtain ⟨l, h, hl⟩ := evL_ok h
          have hxs := hl ρ a hrel.slots
          have hargs := relL_map hxs
          obtain ⟨z, hz, hmeth⟩ := recvOf_ok hrv hy w
          rw [semAt_of (by rw [hop]; intro c hc; cases hc)]
          have hx2 : AV.relL ρ (rv :: l) (z :: c.args.toList.map a.eval) := ⟨z, _, hz, hxs, rfl⟩
          obtain ⟨⟨fn, cd, hfn, hbd⟩, hcall⟩ := callF_ok hself hct h hx2 hrel.heap hrel.inv (R := fun e w' => match e with
            | .returned v => next (a.put o.dst v) w'
            | .panicked chain => Q (.panic chain) a w'
            | .outgrown => LetsOut Q) (fun v H' hn' ρ' x w' hd hext hv hr hi =>
              hk _ ρ' _ w' hd hext (put_rel (st := st.heap H' hn') ⟨hrel.slots.mono hext, hrel.defers.mono hext, hr, hi⟩ o.dst hv))
          have hpos : 0 < P.types.size + Made.depth := Nat.lt_of_lt_of_le (by decide : 0 < Made.depth) (Nat.le_add_left _ _)
          obtain ⟨k0, hk0⟩ : ∃ k0, P.types.size + Made.depth = k0 + 1 := ⟨_, (Nat.succ_pred_eq_of_pos hpos).symm⟩
          have hrun : (execOp a.eval o).run P w = .ok (.enter g (z :: c.args.toList.map a.eval).toArray) w := by
            have he : a.eval r = .iface t y := e.trans ex
            simp only [execOp, hop, resolve, hcal, Sem.run_bind, he, Sem.run_pure, Result.andThen_ok, invoke, hargs]
            have hm2 : (method (P.types.size + Made.depth) t y name).run P w = .ok (g, z) w := by rw [hk0]; exact hmeth k0
            have htk : List.take c.args.size (c.args.toList.map a.eval) = c.args.toList.map a.eval := List.take_of_length_le (by simp)
            simp [callMethod, Sem.run_bind, run_program, Result.andThen_ok, hm2, htk, enters hN hfn hbd]
          rw [hrun, Oper.uponIn_enter]
          exact ⟨fun hh => (by cases hh), CallsIn.mono (R := _) hcall fun e w' h => by cases e <;> exact h⟩
        · exact h.elim
      · exact h.elim
    · rename_i f hcal
      obtain ⟨vf, h1, hf⟩ := ev_ok h
      obtain ⟨l, h2, hl⟩ := evL_ok h1
      clear h h1
      have h := h2
      clear h2
      obtain ⟨x, hx, e⟩ := hf ρ a hrel.slots
      have hxs := hl ρ a hrel.slots
      have hargs := relL_map hxs
      rw [semAt_of (by rw [hop]; intro c hc; cases hc)]
      unfold callV at h
      split at h
      · rename_i g first capt
        obtain ⟨us, vs, hus, hvs, ex⟩ := hx
        have hx2 : AV.relL ρ (first ++ l ++ capt) (us ++ c.args.toList.map a.eval ++ vs) := relL_append (relL_append hus hxs) hvs
        obtain ⟨⟨fn, cd, hfn, hbd⟩, hcall⟩ := callF_ok hself hct h hx2 hrel.heap hrel.inv (R := fun e w' => match e with
          | .returned v => next (a.put o.dst v) w'
          | .panicked chain => Q (.panic chain) a w'
          | .outgrown => LetsOut Q) (fun v H' hn' ρ' x w' hd hext hv hr hi =>
            hk _ ρ' _ w' hd hext (put_rel (st := st.heap H' hn') ⟨hrel.slots.mono hext, hrel.defers.mono hext, hr, hi⟩ o.dst hv))
        have hrun : (execOp a.eval o).run P w = .ok (.enter g (us ++ c.args.toList.map a.eval ++ vs).toArray) w := by
          simp only [execOp, hop, resolve, hcal, Sem.run_bind, e, ex, Deferred.ofValue, Sem.run_pure, Result.andThen_ok, invoke, hargs]
          rw [enters hN hfn hbd]
          simp
        rw [hrun, Oper.uponIn_enter]
        exact ⟨fun hh => (by cases hh), CallsIn.mono (R := _) hcall fun e w' h => by cases e <;> exact h⟩
      · rename_i i
        obtain ⟨n, hn, ex⟩ := hx
        obtain ⟨l', f', tm, as, bd, hyield, hround⟩ := round_ok (rn := rn) hself h hn hxs hrel.heap hrel.inv (R := fun e w' => match e with
          | .returned v => next (a.put o.dst v) w'
          | .panicked chain => Q (.panic chain) a w'
          | .outgrown => LetsOut Q) (fun v H' hn' ρ' x w' hd hext hv hr hi =>
            hk _ ρ' _ w' hd hext (put_rel (st := st.heap H' hn') ⟨hrel.slots.mono hext, hrel.defers.mono hext, hr, hi⟩ o.dst hv))
        have hrun : (execOp a.eval o).run P w = .ok (.round l' f' tm as bd) w := by
          simp only [execOp, hop, resolve, hcal, Sem.run_bind, e, ex, Deferred.ofValue, Sem.run_pure, Result.andThen_ok, invoke, hargs]
          have : (#[] ++ (c.args.toList.map a.eval).toArray : Array Value) = (c.args.toList.map a.eval).toArray := by simp
          rw [this, hyield]
        rw [hrun, Oper.uponIn_round]
        exact ⟨fun hh => (by cases hh), RoundIn.mono (R := _) hround fun e w' h => by cases e <;> exact h⟩
      · exact h.elim
    · split at h
      · obtain ⟨av, H', hn', h, he⟩ := eop_ok h
        rw [forceH_eq] at h
        obtain ⟨v, nx, ρ', w', hrun, hnx, hext, hv, hr, hi, _, _⟩ := he w0 m0 ρ a w o rfl hrel.slots hrel.heap hrel.inv
        have hnd : ∀ c, o.op ≠ .defer c := by rw [hop]; intro c hc; cases hc
        rw [semAt_of hnd, hrun]
        have hfin := hk _ ρ' _ w' h hext (put_rel (st := st.heap H' hn') ⟨hrel.slots.mono hext, hrel.defers.mono hext, hr, hi⟩ o.dst hv)
        rcases hnx with rfl | ⟨rfl, rfl⟩
        · exact hfin
        · exact hfin
      · exact hval hop (by intro c hc; cases hc) (by rw [← hop]; exact h)
  · rename_i op hnc
    split at h
    · rename_i hE
      obtain ⟨av, H', hn', h, he⟩ := eop_ok h
      rw [forceH_eq] at h
      obtain ⟨v, nx, ρ', w', hrun, hnx, hext, hv, hr, hi, _, _⟩ := he w0 m0 ρ a w o rfl hrel.slots hrel.heap hrel.inv
      have hnd : ∀ c, o.op ≠ .defer c := by
        intro c hc
        rw [hc] at hE
        cases hE
      rw [semAt_of hnd, hrun]
      have hfin := hk _ ρ' _ w' h hext (put_rel (st := st.heap H' hn') ⟨hrel.slots.mono hext, hrel.defers.mono hext, hr, hi⟩ o.dst hv)
      rcases hnx with rfl | ⟨rfl, rfl⟩
      · exact hfin
      · exact hfin
    · rename_i hE
      have hnd : ∀ c, o.op ≠ .defer c := by
        intro c hc
        rw [hc] at h
        exact h.elim
      split at h
      · rename_i x q hnil
        obtain ⟨av, h, hx⟩ := ev_ok h
        split at h
        · exact hval rfl hnd h
        · split at h
          · rename_i hsl
            obtain ⟨v, hv, e⟩ := hx ρ a hrel.slots
            obtain ⟨b, len, cap, rfl⟩ := isSl_ok hsl hv
            rw [semAt_of hnd, nilOp_ok hnil a w o b len cap rfl e, Oper.uponIn_value]
            have both : ((k (st.put o.dst (.bool (.c true)))).den φ ∧ (k (st.put o.dst (.bool (.c false)))).den φ) → next (a.put o.dst (.bool (b.isNone == q))) w := by
              intro h
              cases hb : (b.isNone == q) with
              | true => exact hk _ ρ _ _ h.1 (Ext.refl _) (put_rel hrel o.dst rfl)
              | false => exact hk _ ρ _ _ h.2 (Ext.refl _) (put_rel hrel o.dst rfl)
            split at h
            · rename_i n hn
              rcases iteSB_den h with ⟨hb, h⟩ | ⟨_, h⟩
              · rw [leB_v] at hb
                have hbn := lenK_ok hn hrel.heap hv (of_decide_eq_true hb)
                have hq : nilWant P o.op = (b.isNone == q) := by
                  unfold nilWant
                  rw [hnil, hbn]
                  cases q <;> rfl
                rw [hq] at h
                exact hk _ ρ _ _ h (Ext.refl _) (put_rel hrel o.dst rfl)
              · exact both h
            · exact both h
          · exact h.elim
      · exact hval rfl hnd h
/- operations, one behind the other -/
def yieldedB (ops : List Oper) (tmps : Array Value) (j : Nat) (oj : Oper) (d : Tmp) (b : Bool) : Prop := nth ops j = some oj ∧ oj.dst = some d ∧ tmps[d]? = some (.bool b)
theorem wanted_eq {ops : Array Oper} {o : Oper} {tmps : Array Value} {j : Nat} {want : Bool} {oj : Oper} {d : Tmp} {b : Bool} (hg : o.guard = some (j, want)) (h : yieldedB ops.toList tmps j oj d b) : Region.wanted o (yielded ops tmps) = (b == want) := by
  obtain ⟨h1, h2, h3⟩ := h
  rw [nth_eq] at h1
  have h1 : ops[j]? = some oj := by simpa using h1
  simp only [Region.wanted, hg, yielded, h1, Option.bind_some, h2, h3]
  cases b <;> cases want <;> rfl
theorem unwanted {ops : Array Oper} {o : Oper} {tmps : Array Value} {j : Nat} {want : Bool} {oj : Oper} {d : Tmp} {vs : Array Value} (hg : o.guard = some (j, want)) (h1 : nth ops.toList j = some oj) (h2 : oj.dst = some d) (h3 : tmps[d]? = some (.tuple vs)) : Region.wanted o (yielded ops tmps) = false := by
  rw [nth_eq] at h1
  have h1 : ops[j]? = some oj := by simpa using h1
  simp only [Region.wanted, hg, yielded, h1, Option.bind_some, h2, h3]
  rfl
theorem opsGo_ok {f : Oper → AS → (AS → Tree) → Tree} {ops : Array Oper} {kk : AS → Tree} {Q : Exit → Act → World → Prop} {rn : Option Nat}
    (hf : ∀ {o : Oper} {st : AS} {k : AS → Tree} {ρ : Pl} {a : Act} {w : World} {next : Act → World → Prop}, (f o st k).den φ → Rel w0 m0 ρ st a w → (∀ st' ρ' a' w', (k st').den φ → Ext ρ ρ' → Rel w0 m0 ρ' st' a' w' → next a' w') → o.wpIn (FR rn) 0 P a w next Q) :
    ∀ (l : List Oper) {st : AS} {ρ : Pl} {a : Act} {w : World}, (opsGo f ops.toList kk l st).den φ → Rel w0 m0 ρ st a w → (∀ st' ρ' a' w', (kk st').den φ → Ext ρ ρ' → Rel w0 m0 ρ' st' a' w' → Q .normal a' w') → wpListIn (FR rn) 0 P ops Q l a w
  | [], st, ρ, a, w, h, hrel, hk => hk st ρ a w h (Ext.refl _) hrel
  | o :: rest, st, ρ, a, w, h, hrel, hk => by
    have go : ∀ {st : AS} {ρ : Pl} {a : Act} {w : World}, Region.wanted o (yielded ops a.tmps) = true → (f o st fun st' => opsGo f ops.toList kk rest st').den φ → Rel w0 m0 ρ st a w → (∀ st' ρ' a' w', (kk st').den φ → Ext ρ ρ' → Rel w0 m0 ρ' st' a' w' → Q .normal a' w') → wpListIn (FR rn) 0 P ops Q (o :: rest) a w := by
      intro st ρ a w hw h hrel hk
      unfold wpListIn
      rw [if_pos hw]
      refine hf h hrel fun st' ρ' a' w' hd hext hrel' => ?_
      exact opsGo_ok hf rest hd hrel' fun st2 ρ2 a2 w2 hd2 hext2 hrel2 => hk st2 ρ2 a2 w2 hd2 (hext.trans hext2) hrel2
    have no : ∀ {st : AS} {ρ : Pl} {a : Act} {w : World}, Region.wanted o (yielded ops a.tmps) = false → (opsGo f ops.toList kk rest (st.put o.dst (.tup []))).den φ → Rel w0 m0 ρ st a w → (∀ st' ρ' a' w', (kk st').den φ → Ext ρ ρ' → Rel w0 m0 ρ' st' a' w' → Q .normal a' w') → wpListIn (FR rn) 0 P ops Q (o :: rest) a w := by
      intro st ρ a w hw h hrel hk
      unfold wpListIn
      rw [if_neg (by rw [hw]; decide)]
      exact ⟨fun _ _ => trivial, opsGo_ok hf rest h (put_rel hrel o.dst (v := .tup []) (x := undef) ⟨[], rfl, rfl⟩) hk⟩
    unfold opsGo at h
    split at h
    · rename_i hg
      exact go (by simp [Region.wanted, hg]) h hrel hk
    · rename_i j want hg
      split at h
      · rename_i oj hj
        split at h
        · rename_i d hd
          have hlook : ∀ {q : SB}, look st.slots d = some (.bool q) → a.tmps[d]? = some (.bool q.v) := by
            intro q hq
            obtain ⟨x, hx, hx2⟩ := hrel.slots.2 d _ hq
            rw [hx2, show x = _ from hx]
          split at h
          · rename_i b hb
            have hy : yieldedB ops.toList a.tmps j oj d b := ⟨hj, hd, hlook hb⟩
            have hwe := wanted_eq hg hy
            split at h
            · rename_i e
              exact go (by rw [hwe]; exact e) h hrel hk
            · rename_i e
              exact no (by rw [hwe]; exact e) h hrel hk
          · rename_i q _ hq
            have hq' := hlook hq
            have hwe : Region.wanted o (yielded ops a.tmps) = (q.v == want) := wanted_eq hg ⟨hj, hd, hq'⟩
            cases want with
            | true =>
              rcases iteSB_den h with ⟨hv, h⟩ | ⟨hv, h⟩ <;> rw [hv] at hq' hwe
              · exact go (by rw [hwe]; rfl) h (know_rel hrel hq') hk
              · exact no (by rw [hwe]; rfl) h (know_rel hrel hq') hk
            | false =>
              rcases iteSB_den h with ⟨hv, h⟩ | ⟨hv, h⟩ <;> rw [hv] at hq' hwe
              · exact no (by rw [hwe]; rfl) h (know_rel hrel hq') hk
              · exact go (by rw [hwe]; rfl) h (know_rel hrel hq') hk
          · rename_i l _ hq
            obtain ⟨x, ⟨xs, hxs, hx⟩, hx2⟩ := hrel.slots.2 d _ hq
            exact no (unwanted hg hj hd (by rw [hx2, hx])) h hrel hk
          · exact h.elim
        · exact h.elim
      · exact h.elim
/- drawn regions: every operation is quiet -/
def Cls (w0 : World) (m0 : MS) (ρ : Pl) (H : Heap) (hn : Nat) (w : World) : Prop := HRel ρ H hn w ∧ Inv w0 m0 ρ w
theorem AV.rel_back {ρ ρ' : Pl} (h : Ext ρ ρ') (a : AV) {v v' : Value} (hq : a.uq = true) (hx : a.rel ρ v) (hy : a.rel ρ' v') : a.rel ρ v' := by
  rw [← AV.rel_uniq a hq (AV.rel_mono h a hx) hy]
  exact hx
theorem AV.relL_back {ρ ρ' : Pl} (h : Ext ρ ρ') (l : List AV) {vs vs' : List Value} (hq : AV.uqL l = true) (hx : AV.relL ρ l vs) (hy : AV.relL ρ' l vs') : AV.relL ρ l vs' := by
  rw [← AV.relL_uniq l hq (AV.relL_mono h l hx) hy]
  exact hx
theorem slotsUq_look : ∀ {l : List (Nat × AV)} {t : Nat} {v : AV}, slotsUq l = true → look l t = some v → v.uq = true
  | [], t, v, _, h => by simp [look] at h
  | (u, x) :: l, t, v, hq, h => by
    unfold slotsUq at hq
    split at hq
    · rename_i hx
      rw [look_cons] at h
      by_cases e : u = t
      · rw [if_pos e] at h
        cases h
        exact hx
      · rw [if_neg e] at h
        exact slotsUq_look hq h
    · cases hq
theorem uqH_look : ∀ {H : Heap} {i : Nat} {b : AB}, uqH H = true → look H i = some b → b.uq = true
  | [], t, v, _, h => by simp [look] at h
  | (u, x) :: l, t, v, hq, h => by
    unfold uqH at hq
    split at hq
    · rename_i hx
      rw [look_cons] at h
      by_cases e : u = t
      · rw [if_pos e] at h
        cases h
        exact hx
      · rw [if_neg e] at h
        exact uqH_look hq h
    · cases hq
theorem AB.rel_back {ρ ρ' : Pl} (h : Ext ρ ρ') : ∀ {b : AB} {o o' : Obj}, b.uq = true → b.rel ρ o → b.rel ρ' o' → b.rel ρ o'
  | .cells t l, o, o', hq, ⟨xs, hx, e⟩, ⟨ys, hy, e'⟩ => ⟨ys, AV.relL_back h _ hq hx hy, e'⟩
  | .loop .., o, o', hq, ⟨fn, tmps, dn, hd, hs, e⟩, ⟨fn', tmps', dn', hd', hs', e'⟩ => by
    have := h.at _ _ hd
    rw [hd'] at this
    cases this
    refine ⟨fn', tmps', _, hd, ⟨hs'.1, fun t v hv => ?_⟩, e'⟩
    obtain ⟨x, hx, hx2⟩ := hs'.2 t v hv
    obtain ⟨y, hy, _⟩ := hs.2 t v hv
    exact ⟨x, AV.rel_back h _ (slotsUq_look hq hv) hy hx, hx2⟩
  | .mark, _, _, _, _, e => e
  | .dead, _, _, _, _, _ => trivial
  | .vec .., _, _, _, h, _ => h.elim
theorem Held.back {ρ ρ' : Pl} {w w' : World} {i : Nat} (h : Ext ρ ρ') (hf : ∀ n, ρ' i = some n → ρ i = some n) : ∀ {b : AB}, b.uq = true → Held ρ w i b → Held ρ' w' i b → Held ρ w' i b
  | .cells .., hq, ⟨n, o, h1, h2, h3⟩, ⟨m, o', k1, k2, k3⟩ => ⟨m, o', hf m k1, k2, AB.rel_back h hq h3 k3⟩
  | .loop .., hq, ⟨n, o, h1, h2, h3⟩, ⟨m, o', k1, k2, k3⟩ => ⟨m, o', hf m k1, k2, AB.rel_back h hq h3 k3⟩
  | .mark, hq, ⟨n, o, h1, h2, h3⟩, ⟨m, o', k1, k2, k3⟩ => ⟨m, o', hf m k1, k2, AB.rel_back h hq h3 k3⟩
  | .dead, hq, ⟨n, o, h1, h2, h3⟩, ⟨m, o', k1, k2, k3⟩ => ⟨m, o', hf m k1, k2, AB.rel_back h hq h3 k3⟩
  | .vec e t z n l, hq, ⟨hn, hh⟩, ⟨hn', hh'⟩ => by
    refine ⟨hn, ?_⟩
    rcases hh with ⟨h1, h2⟩ | ⟨g, off, cap, cur, xs, h1, h2, h3, h4, h5, h6, h7, h8, h9⟩
    · exact .inl ⟨h1, h2⟩
    · have ht := h.tvAt h2
      rcases hh' with ⟨k1, k2⟩ | ⟨g', off', cap', cur', xs', k1, k2, k3, k4, k5, k6, k7, k8, k9⟩
      · rw [k1] at ht; cases ht
      · rw [k2] at ht
        cases ht
        exact .inr ⟨_, _, _, cur', xs', h1, h2, k3, k4, k5, k6, AllR.imp (fun x vs r => RelT.any t x vs hq r) k7, k8, k9⟩
theorem look_mem.{u} {α : Type u} : ∀ {l : List (Nat × α)} {i : Nat} {b : α}, look l i = some b → ∃ p ∈ l, p.1 = i
  | [], i, b, h => by simp [look] at h
  | (t, v) :: l, i, b, h => by
    rw [look_cons] at h
    by_cases e : t = i
    · exact ⟨_, List.mem_cons_self, e⟩
    · rw [if_neg e] at h
      obtain ⟨p, hp, e2⟩ := look_mem h
      exact ⟨p, List.mem_cons_of_mem _ hp, e2⟩
theorem keysOf_eq {H H1 : Heap} (h : keysOf H H1 = keysOf H H) {i : Nat} {b : AB} (hb : look H i = some b) : look H1 i = some b := by
  obtain ⟨p, hp, rfl⟩ := look_mem hb
  unfold keysOf at h
  rw [List.map_inj_left.1 h p hp, hb]
theorem HRel.back {ρ ρ' : Pl} {H H1 : Heap} {hn hn1 : Nat} {w w' : World} (hr : HRel ρ H hn w) (hr1 : HRel ρ' H1 hn1 w') (h : Ext ρ ρ') (hsz : w.heap.size ≤ w'.heap.size) (hk : keysOf H H1 = keysOf H H) (hq : uqH H = true) : HRel ρ H hn w' := by
  refine ⟨hr.len, hr.inj, fun i n hi => Nat.lt_of_lt_of_le (hr.lt i n hi) hsz, fun n o hn => ⟨(hr1.ro n o (h.1.ro.obj _ _ hn)).1, (hr.ro n o hn).2⟩, fun i b hb => ?_⟩
  have hlt : ∀ n, ρ' i = some n → ρ i = some n := fun n hn => by
    rcases Nat.lt_or_ge i ρ.top with hi | hi
    · exact h.back hi hn
    · exfalso
      have hob := hr.obj i b hb
      have : ρ i = none := Pl.over hi
      have htv : ρ.tv i = none := Pl.tv_over hi
      cases b with
      | vec e t z m l =>
        rcases hob.2 with ⟨h1, _⟩ | ⟨g, off, cap, cur, xs, h1, _⟩
        · rw [htv] at h1; cases h1
        · rw [this] at h1; cases h1
      | _ =>
        obtain ⟨m, o, h1, _⟩ := hob
        rw [this] at h1
        cases h1
  exact Held.back h hlt (uqH_look hq hb) (hr.obj i b hb) (hr1.obj i b (keysOf_eq hk hb))
theorem qper_ok {ct : CTab} {self : Self} (hN : Named P) (hself : SelfOK P self) (hct : CtOK P ct) {o : Oper} {st : AS} {k : AS → Tree} (h : (qper P ct self o st k).den φ) {ρ : Pl} {a : Act} (hs : SRel ρ st.sz st.slots a.tmps) (hne : ∃ w, Cls w0 m0 ρ st.H st.hn w) {next : Act → Prop}
    (hk : ∀ av v, (k (st.put o.dst av)).den φ → av.rel ρ v → next (a.put o.dst v)) : o.quiet P a (Cls w0 m0 ρ st.H st.hn) next := by
  have hval : ∀ {op : Op}, o.op = op → (vop P st op fun v => match v.uq with
      | true => k (st.put o.dst v)
      | false => .fail "a slice in a drawn region").den φ → o.quiet P a (Cls w0 m0 ρ st.H st.hn) next := by
    intro op ho h
    obtain ⟨av, h, hy⟩ := vop_ok h
    split at h
    · rename_i huq
      obtain ⟨w1, hw1⟩ := hne
      obtain ⟨v, hv, _⟩ := hy ρ a w1 o ho hs hw1.1
      refine ⟨v, fun w hw => ?_, hk av v h hv⟩
      obtain ⟨v', hv', hrun⟩ := hy ρ a w o ho hs hw.1
      obtain rfl := AV.rel_uniq _ huq hv hv'
      unfold Oper.quietAt
      rw [hrun]
      exact ⟨rfl, rfl⟩
    · exact h.elim
  unfold qper at h
  split at h
  · rename_i c hop
    split at h
    · rename_i f hcal
      obtain ⟨vf, h1, hf⟩ := ev_ok h
      obtain ⟨l, h2, hl⟩ := evL_ok h1
      clear h h1
      have h := h2
      clear h2
      obtain ⟨x, hx, e⟩ := hf ρ a hs
      have hxs := hl ρ a hs
      have hargs := relL_map hxs
      split at h
      · rename_i g first capt
        obtain ⟨us, vs, hus, hvs, ex⟩ := hx
        have hx2 : AV.relL ρ (first ++ l ++ capt) (us ++ c.args.toList.map a.eval ++ vs) := relL_append (relL_append hus hxs) hvs
        split at h
        · rename_i cc hb hcc
          split at h
          · rename_i hhp heqs
            obtain ⟨r, hr1, h⟩ := h
            dsimp only at h
            split at h
            · rename_i huq
              unfold hasBody at hb
              split at hb
              · rename_i fn hfn
                split at hb
                · rename_i cd hbd
                  have hcall : ∀ w, Cls w0 m0 ρ st.H st.hn w → Calls P g (us ++ c.args.toList.map a.eval ++ vs).toArray w fun e w' => ∃ v, e = .returned v ∧ (cc.enc r).rel ρ v ∧ Cls w0 m0 ρ st.H st.hn w' := by
                    intro w hw
                    refine (hct g _ _ _ cc hcc (fun p hp => by rw [heqs] at hp; cases hp) r hr1 ρ w _ hx2 hw.1).mono ?_
                    rintro e w' ⟨v, ρ', he, hv, hr, heff, _⟩
                    rw [hhp] at hr
                    obtain ⟨rfl, hr⟩ := hr
                    exact ⟨v, he, hv, hr, hw.2.eff heff⟩
                  obtain ⟨w1, hw1⟩ := hne
                  obtain ⟨e1, w2, fr, ⟨v, rfl, hv, _⟩, _⟩ := hcall w1 hw1 []
                  refine ⟨v, fun w hw => ?_, hk _ v h hv⟩
                  have hrun : (execOp a.eval o).run P w = .ok (.enter g (us ++ c.args.toList.map a.eval ++ vs).toArray) w := by
                    simp only [execOp, hop, resolve, hcal, Sem.run_bind, e, ex, Deferred.ofValue, Sem.run_pure, Result.andThen_ok, invoke, hargs]
                    rw [enters hN (nth_funcs hfn) hbd]
                    simp
                  unfold Oper.quietAt
                  rw [hrun]
                  refine ⟨rfl, (hcall w hw).mono ?_⟩
                  rintro e3 w3 ⟨v3, he3, hv3, hc3⟩
                  obtain rfl := AV.rel_uniq _ huq hv hv3
                  exact ⟨he3, hc3⟩
                · cases hb
              · cases hb
            · exact h.elim
          · exact h.elim
        · rename_i hb hcc
          split at h
          · rename_i hfl
            obtain ⟨v, H1, hn1, h, hleaf⟩ := Tree.den_seq_leaf h
            split at h
            · rename_i hvf
              unfold hasBody at hb
              split at hb
              · rename_i fn hfn
                split at hb
                · rename_i cd hbd
                  have hxe : us ++ c.args.toList.map a.eval ++ vs = AV.toVL (first ++ l ++ capt) := AV.relL_uniq _ (AV.flatL_uq _ hfl) hx2 (AV.flatL_rel _ hfl)
                  refine ⟨v.toV, fun w hw => ?_, hk _ _ h (AV.flat_rel v hvf)⟩
                  have hrun : (execOp a.eval o).run P w = .ok (.enter g (us ++ c.args.toList.map a.eval ++ vs).toArray) w := by
                    simp only [execOp, hop, resolve, hcal, Sem.run_bind, e, ex, Deferred.ofValue, Sem.run_pure, Result.andThen_ok, invoke, hargs]
                    rw [enters hN (nth_funcs hfn) hbd]
                    simp
                  unfold Oper.quietAt
                  rw [hrun]
                  refine ⟨rfl, ?_⟩
                  have hbel : ∀ w' ρ', Inv w MS.no ρ' w' → Below w.heap.size w w' := fun w' ρ' hi => ⟨hi.os, hi.tape, hi.output, hi.size, fun k hk => hi.keep k hk (fun h => h)⟩
                  have := (callF_ok hself hct (φ := fun v' H' hn' => v' = v ∧ H' = H1 ∧ hn' = hn1) (w0 := w) (m0 := MS.no) (ρ := Pl.none 0) (H := []) (hn := 0) (k := Tree.ret) hleaf (AV.flatL_rel _ hfl) ⟨rfl, fun i j n h => (by cases h), fun i n h => (by cases h), fun n o h => (by cases h), fun i b h => by simp [look] at h⟩
                    ⟨rfl, rfl, rfl, Nat.le_refl _, fun _ _ _ => rfl, fun i n h => (by cases h), fun n o h => (by cases h)⟩ (R := fun e w' => e = .returned v.toV ∧ Cls w0 m0 ρ st.H st.hn w')
                    (fun v' H' hn' ρ' x w' hd _ hxr _ hi => by
                      obtain ⟨rfl, _, _⟩ := hd
                      refine ⟨congrArg Ending.returned (AV.rel_uniq _ (AV.flat_uq _ hvf) hxr (AV.flat_rel _ hvf)), ?_⟩
                      have hb2 := hbel w' ρ' hi
                      exact ⟨hw.1.below hb2, hw.2.eff (Eff.of_below hb2)⟩)).2
                  rw [hxe]
                  exact callsIn_wide.1 this
                · cases hb
              · cases hb
            · exact h.elim
          · rename_i hfl
            obtain ⟨v, H1, hn1, h, hleaf⟩ := Tree.den_seq_leaf h
            split at h
            · rename_i hvf
              simp only [Bool.and_eq_true] at hvf
              obtain ⟨hsame, h⟩ := h
              unfold hasBody at hb
              split at hb
              · rename_i fn hfn
                split at hb
                · rename_i cd hbd
                  refine ⟨v.toV, fun w hw => ?_, hk _ _ h (AV.flat_rel v hvf.1)⟩
                  have hrun : (execOp a.eval o).run P w = .ok (.enter g (us ++ c.args.toList.map a.eval ++ vs).toArray) w := by
                    simp only [execOp, hop, resolve, hcal, Sem.run_bind, e, ex, Deferred.ofValue, Sem.run_pure, Result.andThen_ok, invoke, hargs]
                    rw [enters hN (nth_funcs hfn) hbd]
                    simp
                  unfold Oper.quietAt
                  rw [hrun]
                  refine ⟨rfl, ?_⟩
                  have := (callF_ok hself hct (φ := fun v' H' hn' => v' = v ∧ H' = H1 ∧ hn' = hn1) (w0 := w) (m0 := ρ.ms) (ρ := ρ) (H := st.H) (hn := st.hn) (k := Tree.ret) hleaf hx2 hw.1
                    ⟨rfl, rfl, rfl, Nat.le_refl _, fun _ _ _ => rfl, fun i n hi => .inl ⟨i, hi⟩, fun n o h => .inl ⟨o, h⟩⟩ (R := fun e w' => e = .returned v.toV ∧ Cls w0 m0 ρ st.H st.hn w')
                    (fun v' H' hn' ρ' x w' hd hext hxr hr hi => by
                      obtain ⟨rfl, rfl, _⟩ := hd
                      refine ⟨congrArg Ending.returned (AV.rel_uniq _ (AV.flat_uq _ hvf.1) hxr (AV.flat_rel _ hvf.1)), ?_⟩
                      exact ⟨HRel.back hw.1 hr hext hi.size hsame hvf.2, hw.2.eff ⟨hi.os, hi.tape, hi.output, hi.size, fun k hk hm => hi.keep k hk (fun ⟨j, hj⟩ => hm j hj), fun i n hi => .inl ⟨i, hi⟩, fun n o h => .inl ⟨o, h⟩⟩⟩)).2
                  exact callsIn_wide.1 this
                · cases hb
              · cases hb
            · exact h.elim
        · exact h.elim
      · exact h.elim
    · exact hval hop (by rw [← hop]; exact h)
    · exact h.elim
  · split at h
    · exact h.elim
    · exact hval rfl h
theorem opsQ_ok {ct : CTab} {self : Self} (hN : Named P) (hself : SelfOK P self) (hct : CtOK P ct) {ops : Array Oper} {kk : AS → Tree} {ρ : Pl} {H : Heap} {hn : Nat} {K : Act → Prop} {w : World} (hcw : Cls w0 m0 ρ H hn w) :
    ∀ (l : List Oper) {st : AS} {a : Act}, (opsGo (qper P ct self) ops.toList kk l st).den φ → st.H = H → st.hn = hn → Rel w0 m0 ρ st a w → (∀ st' a', (kk st').den φ → st'.H = H → st'.hn = hn → Rel w0 m0 ρ st' a' w → K a') → wpQuiet P ops (Cls w0 m0 ρ H hn) K l a
  | [], st, a, h, e1, e2, hrel, hk => hk st a h e1 e2 hrel
  | o :: rest, st, a, h, e1, e2, hrel, hk => by
    have keepH : ∀ (st : AS) (d : Option Tmp) (v : AV), (st.put d v).H = st.H ∧ (st.put d v).hn = st.hn := by
      intro st d v
      unfold AS.put
      cases d with
      | none => exact ⟨rfl, rfl⟩
      | some t => dsimp only; split <;> exact ⟨rfl, rfl⟩
    have go : ∀ {st : AS}, Region.wanted o (yielded ops a.tmps) = true → (qper P ct self o st fun st' => opsGo (qper P ct self) ops.toList kk rest st').den φ → st.H = H → st.hn = hn → Rel w0 m0 ρ st a w → wpQuiet P ops (Cls w0 m0 ρ H hn) K (o :: rest) a := by
      intro st hw h e1 e2 hrel
      unfold wpQuiet
      rw [if_pos hw]
      subst e1 e2
      refine qper_ok hN hself hct h hrel.slots ⟨w, hcw⟩ fun av v hd hv => ?_
      exact opsQ_ok hN hself hct hcw rest hd (keepH _ _ _).1 (keepH _ _ _).2 (put_rel hrel o.dst hv) hk
    have no : ∀ {st : AS}, Region.wanted o (yielded ops a.tmps) = false → (opsGo (qper P ct self) ops.toList kk rest (st.put o.dst (.tup []))).den φ → st.H = H → st.hn = hn → Rel w0 m0 ρ st a w → wpQuiet P ops (Cls w0 m0 ρ H hn) K (o :: rest) a := by
      intro st hw h e1 e2 hrel
      unfold wpQuiet
      rw [if_neg (by rw [hw]; decide)]
      exact opsQ_ok hN hself hct hcw rest h ((keepH _ _ _).1.trans e1) ((keepH _ _ _).2.trans e2) (put_rel hrel o.dst (v := .tup []) (x := undef) ⟨[], rfl, rfl⟩) hk
    unfold opsGo at h
    split at h
    · rename_i hg
      exact go (by simp [Region.wanted, hg]) h e1 e2 hrel
    · rename_i j want hg
      split at h
      · rename_i oj hj
        split at h
        · rename_i d hd
          have hlook : ∀ {q : SB}, look st.slots d = some (.bool q) → a.tmps[d]? = some (.bool q.v) := by
            intro q hq
            obtain ⟨x, hx, hx2⟩ := hrel.slots.2 d _ hq
            rw [hx2, show x = _ from hx]
          split at h
          · rename_i b hb
            have hwe := wanted_eq hg ⟨hj, hd, hlook hb⟩
            split at h
            · rename_i e
              exact go (by rw [hwe]; exact e) h e1 e2 hrel
            · rename_i e
              exact no (by rw [hwe]; exact e) h e1 e2 hrel
          · rename_i q _ hq
            have hq' := hlook hq
            have hwe : Region.wanted o (yielded ops a.tmps) = (q.v == want) := wanted_eq hg ⟨hj, hd, hq'⟩
            cases want with
            | true =>
              rcases iteSB_den h with ⟨hv, h⟩ | ⟨hv, h⟩ <;> rw [hv] at hq' hwe
              · exact go (by rw [hwe]; rfl) h ((keepH _ _ _).1.trans e1) ((keepH _ _ _).2.trans e2) (know_rel hrel hq')
              · exact no (by rw [hwe]; rfl) h ((keepH _ _ _).1.trans e1) ((keepH _ _ _).2.trans e2) (know_rel hrel hq')
            | false =>
              rcases iteSB_den h with ⟨hv, h⟩ | ⟨hv, h⟩ <;> rw [hv] at hq' hwe
              · exact no (by rw [hwe]; rfl) h ((keepH _ _ _).1.trans e1) ((keepH _ _ _).2.trans e2) (know_rel hrel hq')
              · exact go (by rw [hwe]; rfl) h ((keepH _ _ _).1.trans e1) ((keepH _ _ _).2.trans e2) (know_rel hrel hq')
          · rename_i l _ hq
            obtain ⟨x, ⟨xs, hxs, hx⟩, hx2⟩ := hrel.slots.2 d _ hq
            exact no (unwanted hg hj hd (by rw [hx2, hx])) h e1 e2 hrel
          · exact h.elim
        · exact h.elim
      · exact h.elim
end Go.Proofs.Ytaoplfmaiclfkaa.SX
