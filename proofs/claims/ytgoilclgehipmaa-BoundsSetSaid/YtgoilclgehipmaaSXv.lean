/- A symbolic walk: drawn regions, each operation. -/
import Derived.Test.YtgoilclgehipmaaSXu
namespace Go.Proofs.Ytgoilclgehipmaa.SX
set_option linter.unusedVariables false
set_option linter.unusedSimpArgs false
open Go Go.RowKit
variable {P : Program} {φ : AV → Heap → Nat → Prop}
theorem Pre.env {ops : List Oper} {st : AS} {T : List Rec} {j : Nat} {o : Oper} {r : Rec} {ρ : Pl} {a : Act} {w : World} (h : Pre ops st (ancTab ops []) T j o r ρ a w) {s : RS} (hs : KInv st (ancTab ops []) T s) : SRel ρ st.sz (envOf ops (ancTab ops []) st j o s.acc).slots a.tmps := by
  refine ⟨h.size, fun t v hv => ?_⟩
  rcases depVals_look hv with ⟨d, hd, od, ho, hod, hlt, hav⟩ | hv
  · obtain ⟨rd, hrd, hx⟩ := hs.acc d v hav
    obtain ⟨x, hx1, hx2⟩ := h.deps d rd od t hrd hd ho hod hlt
    exact ⟨x, hx _ _ hx1, hx2⟩
  · obtain ⟨hnot, hv⟩ := without_look hv
    exact h.rest t v hv hnot
theorem new_addr {ρ ρ' : Pl} {w w' : World} (hext : Ext ρ ρ') (hinj : ∀ (i j n : Nat), ρ' i = some n → ρ' j = some n → i = j) (hi : Inv w (fun k => ∃ i, ρ i = some k) ρ' w') (n k : Nat) (hn : ρ.top ≤ n) (h : ρ' n = some k) : w.heap.size ≤ k := by
  rcases hi.fresh n k h with ⟨i, hi⟩ | h
  · have h1 := ρ.wf i k hi
    have := hinj i n k (hext.at i k hi) h
    omega
  · exact h
theorem Inv.self (ρ : Pl) (w : World) : Inv w (fun k => ∃ i, ρ i = some k) ρ w := ⟨rfl, rfl, rfl, Nat.le_refl _, fun _ _ _ => rfl, fun i n hi => .inl ⟨i, hi⟩⟩
theorem Post.of {ρ ρ' : Pl} {w w' : World} {v : AV} {H : Heap} {hi : Nat} {e : Eft} {lo : Nat} (hext : Ext ρ ρ') (hr : HRel ρ' H hi w') (hv : Inv w (fun k => ∃ i, ρ i = some k) ρ' w') (he : e.turns ∨ ∀ k : Nat, k < w.heap.size → w'.heap[k]? = w.heap[k]?) (ho : ∀ H', e.out H' → H' = H) : Post ⟨v, lo, hi, e⟩ ρ ρ' w w' :=
  ⟨hext, hr.len, ⟨hr.inj, hr.lt, hr.ro⟩, hv.os, hv.tape, hv.output, hv.size, fun k hk hn => by
    rcases he with he | he
    · exact hv.keep k hk (fun ⟨i, hi⟩ => hn he i hi)
    · exact he k hk, fun n k hn h => new_addr hext hr.inj hv n k hn h, fun H' h => by rw [ho H' h]; exact hr.obj⟩
/-- Nothing turns, and nothing is made that is spoken of. -/
theorem Post.quiet {ρ : Pl} {w w' : World} {v : AV} {lo : Nat} {e : Eft} (ht : ρ.top = lo) (hp : Placed ρ w) (hb : Below w.heap.size w w') (ho : ∀ H', ¬ e.out H') : Post ⟨v, lo, lo, e⟩ ρ ρ w w' :=
  ⟨Ext.refl _, ht, ⟨hp.inj, fun i n hi => Nat.lt_of_lt_of_le (hp.lt i n hi) hb.size, fun n o hn => ⟨(hb.block n (Array.getElem?_eq_some_iff.1 (hp.ro n o hn).1).1).trans (hp.ro n o hn).1, (hp.ro n o hn).2⟩⟩, hb.os, hb.tape, hb.output, hb.size, fun k hk _ => hb.block k hk, fun n k hn h => (by
    rw [Pl.over hn] at h
    cases h), fun H' h => absurd h (ho H')⟩
def Pl.over2 (ρ ρ' : Pl) (lo : Nat) (hle : lo ≤ ρ'.top) : Pl := ⟨fun n => if n < lo then ρ n else ρ' n, ρ'.top, fun i m h => by
  split at h
  · omega
  · exact ρ'.wf i m h, ρ.ro⟩
theorem Pl.over2_lt {ρ ρ' : Pl} {lo : Nat} (hle : lo ≤ ρ'.top) {n : Nat} (h : n < lo) : Pl.over2 ρ ρ' lo hle n = ρ n := if_pos h
theorem Pl.over2_ge {ρ ρ' : Pl} {lo : Nat} (hle : lo ≤ ρ'.top) {n : Nat} (h : lo ≤ n) : Pl.over2 ρ ρ' lo hle n = ρ' n := if_neg (by omega)
theorem Post.made {ρ ρ' : Pl} {w w' : World} {v : AV} {lo hi : Nat} {H : Heap} (ht : ρ.top = lo) (hp : Placed ρ w) (hext : Ext (Pl.none lo) ρ') (hle : lo ≤ ρ'.top) (hr : HRel ρ' H hi w') (hv : Inv w (fun _ => False) ρ' w') :
    Post ⟨v, lo, hi, .fresh H⟩ ρ (Pl.over2 ρ ρ' lo hle) w w' ∧ Mono ρ' (Pl.over2 ρ ρ' lo hle) := by
  have hnone : ∀ n, n < lo → ρ' n = Option.none := fun n hn => hext.2 n hn
  have hnew : ∀ n k, ρ' n = some k → w.heap.size ≤ k ∧ lo ≤ n := fun n k h => by
    refine ⟨(hv.fresh n k h).resolve_left (fun h => h), ?_⟩
    rcases Nat.lt_or_ge n lo with hlt | hge
    · rw [hnone n hlt] at h
      cases h
    · exact hge
  have hcase : ∀ {n k : Nat}, Pl.over2 ρ ρ' lo hle n = some k → (n < lo ∧ ρ n = some k) ∨ (lo ≤ n ∧ ρ' n = some k) := fun {n k} h => by
    rcases Nat.lt_or_ge n lo with hlt | hge
    · rw [Pl.over2_lt _ hlt] at h
      exact .inl ⟨hlt, h⟩
    · rw [Pl.over2_ge _ hge] at h
      exact .inr ⟨hge, h⟩
  have hro : ρ'.ro = RO.none := hext.1.2
  have hm : Mono ρ' (Pl.over2 ρ ρ' lo hle) := ⟨fun n k h => by rw [Pl.over2_ge _ (hnew n k h).2]; exact h, fun i v x => (by rw [hro] at x; cases x), fun n o x => (by rw [hro] at x; cases x)⟩
  refine ⟨⟨⟨⟨by rw [ht]; exact hle, rfl⟩, fun n hn => Pl.over2_lt _ (by omega)⟩, hr.len, ⟨fun i j n h1 h2 => ?_, fun i n h => ?_, fun n o hn => ?_⟩, hv.os, hv.tape, hv.output, hv.size, fun k hk _ => hv.keep k hk (fun h => h), fun n k hn h => ?_, fun H' h => ?_⟩, hm⟩
  · rcases hcase h1 with ⟨h1, g1⟩ | ⟨h1, g1⟩ <;> rcases hcase h2 with ⟨h2, g2⟩ | ⟨h2, g2⟩
    · exact hp.inj i j n g1 g2
    · have := hp.lt i n g1
      have := (hnew j n g2).1
      omega
    · have := hp.lt j n g2
      have := (hnew i n g1).1
      omega
    · exact hr.inj i j n g1 g2
  · rcases hcase h with ⟨_, g⟩ | ⟨_, g⟩
    · exact Nat.lt_of_lt_of_le (hp.lt i n g) hv.size
    · exact hr.lt i n g
  · have hn : ρ.ro.obj n = some o := hn
    obtain ⟨g1, g2⟩ := hp.ro n o hn
    have hlt : n < w.heap.size := (Array.getElem?_eq_some_iff.1 g1).1
    refine ⟨(hv.keep n hlt (fun h => h)).trans g1, fun j hj => ?_⟩
    rcases hcase hj with ⟨_, g⟩ | ⟨_, g⟩
    · exact g2 j g
    · have := (hnew j n g).1
      omega
  · rcases hcase h with ⟨h1, _⟩ | ⟨_, g⟩
    · omega
    · exact (hnew n k g).1
  · rcases h with h | h
    · cases h
      exact HObj.more (w := w') hr.obj hm (fun _ _ _ => rfl)
    · cases h
theorem HRel.nil {ρ : Pl} {w : World} (h : Placed ρ w) {hn : Nat} (ht : ρ.top = hn) : HRel ρ [] hn w := ⟨ht, h.inj, h.lt, h.ro, fun i b hb => by simp [look] at hb⟩
theorem Below.same (w : World) : Below w.heap.size w w := ⟨rfl, rfl, rfl, Nat.le_refl _, fun _ _ => rfl⟩
theorem rper_ok {ct : CTab} {self : Self} (hN : Named P) (hself : SelfOK P self) (hct : CtOK P ct) {ops : List Oper} {st : AS} {T : List Rec} {s : RS} (hs : KInv st (ancTab ops []) T s) {i : Nat} {o : Oper} {k : AV → Nat → Eft → Tree}
    (h : (rper P ct self (rowM (ancTab ops []) i) (envOf ops (ancTab ops []) st i o s.acc) o s k).den φ) (rn : Option Nat) (Q : Exit → Act → World → Prop) :
    ∃ v hi e, (k v hi e).den φ ∧ s.hn ≤ hi ∧ (e.touch → allM (rowM (ancTab ops []) i) s.muts = true) ∧ (e.turns → allM (rowM (ancTab ops []) i) s.mems = true) ∧ (∀ H, e = .fresh H → ∀ n b, look H n = some b → s.hn ≤ n ∧ n < hi) ∧
      ∀ (ρ : Pl) (a : Act) (w : World) (next : Act → World → Prop), Pre ops st (ancTab ops []) T i o ⟨v, s.hn, hi, e⟩ ρ a w →
        (∀ ρ' x w', Post ⟨v, s.hn, hi, e⟩ ρ ρ' w w' → v.rel ρ' x → next (a.put o.dst x) w') → o.wpIn (FR rn) 0 P a w next Q := by
  have hout : ∀ {e : Eft}, (e = .none ∨ e = .read) → ∀ H', ¬ e.out H' := by
    rintro e (rfl | rfl) H' (h | h) <;> cases h
  have hval : ∀ {op : Op} {H : Heap} {e : Eft}, o.op = op → (∀ c, op ≠ .defer c) → (e = .none ∨ e = .read) → (e.touch → allM (rowM (ancTab ops []) i) s.muts = true) → (∀ (ρ : Pl) (a : Act) (w : World) (v : AV), Pre ops st (ancTab ops []) T i o ⟨v, s.hn, s.hn, e⟩ ρ a w → HRel ρ H s.hn w) →
      (vop P { envOf ops (ancTab ops []) st i o s.acc with H := H, hn := s.hn } op fun v => k v s.hn e).den φ →
      ∃ v hi e, (k v hi e).den φ ∧ s.hn ≤ hi ∧ (e.touch → allM (rowM (ancTab ops []) i) s.muts = true) ∧ (e.turns → allM (rowM (ancTab ops []) i) s.mems = true) ∧ (∀ H, e = .fresh H → ∀ n b, look H n = some b → s.hn ≤ n ∧ n < hi) ∧
      ∀ (ρ : Pl) (a : Act) (w : World) (next : Act → World → Prop), Pre ops st (ancTab ops []) T i o ⟨v, s.hn, hi, e⟩ ρ a w →
        (∀ ρ' x w', Post ⟨v, s.hn, hi, e⟩ ρ ρ' w w' → v.rel ρ' x → next (a.put o.dst x) w') → o.wpIn (FR rn) 0 P a w next Q := by
    intro op H e hop hnd he htouch hH h
    obtain ⟨av, h, hy⟩ := vop_ok h
    refine ⟨av, s.hn, e, h, Nat.le_refl _, htouch, fun ⟨H', ht⟩ => ?_, fun H' hf => ?_, fun ρ a w next hpre hk => ⟨fun _ _ => trivial, ?_⟩⟩
    · rcases he with rfl | rfl <;> cases ht
    · rcases he with rfl | rfl <;> cases hf
    · obtain ⟨v, hv, hrun⟩ := hy ρ a w o hop (hpre.env hs) (hH ρ a w av hpre)
      rw [semAt_of (by rw [hop]; exact hnd), hrun, Oper.uponIn_value]
      exact hk ρ v w (Post.quiet hpre.top hpre.placed (Below.same w) (hout he)) hv
  have hmem : ∀ {op : Op} {H : Heap} {e : Heap → Eft} {g : Nat → Heap → Bool}, o.op = op → (∀ c, op ≠ .defer c) → ((freshOp op = true ∧ H = [] ∧ e = Eft.fresh ∧ g = keysIn s.hn) ∨ (allM (rowM (ancTab ops []) i) s.muts = true ∧ allM (rowM (ancTab ops []) i) s.mems = true ∧ H = seen (rowM (ancTab ops []) i) s.fr s.cur ∧ e = Eft.chg ∧ g = fun hn _ => Nat.ble s.hn hn)) →
      (eop P { envOf ops (ancTab ops []) st i o s.acc with H := H, hn := s.hn } op fun v H hn => match g hn H with
        | true => k v hn (e H)
        | false => .fail "numbers").den φ →
      ∃ v hi e, (k v hi e).den φ ∧ s.hn ≤ hi ∧ (e.touch → allM (rowM (ancTab ops []) i) s.muts = true) ∧ (e.turns → allM (rowM (ancTab ops []) i) s.mems = true) ∧ (∀ H, e = .fresh H → ∀ n b, look H n = some b → s.hn ≤ n ∧ n < hi) ∧
      ∀ (ρ : Pl) (a : Act) (w : World) (next : Act → World → Prop), Pre ops st (ancTab ops []) T i o ⟨v, s.hn, hi, e⟩ ρ a w →
        (∀ ρ' x w', Post ⟨v, s.hn, hi, e⟩ ρ ρ' w w' → v.rel ρ' x → next (a.put o.dst x) w') → o.wpIn (FR rn) 0 P a w next Q := by
    intro op H e g hop hnd hcase h0
    obtain ⟨av, H', hn', h, he⟩ := eop_ok h0
    clear h0
    split at h
    · rename_i hg
      rcases hcase with ⟨hf, rfl, rfl, rfl⟩ | ⟨hm1, hm2, rfl, rfl, rfl⟩
      · obtain ⟨hle, hkeys⟩ := keysIn_spec hg
        refine ⟨av, hn', _, h, hle, fun ht => ht.elim, fun ⟨_, ht⟩ => (by cases ht), fun H2 h2 => (by cases h2; exact hkeys), fun ρ a w next hpre hk => ⟨fun _ _ => trivial, ?_⟩⟩
        obtain ⟨v, nx, ρ', w', hrun, hnx, hext, hv, hr, hi, hpush⟩ := he w _ ρ a w o hop (hpre.env hs) (HRel.nil hpre.placed hpre.top) (Inv.self ρ w)
        obtain ⟨o', ho'⟩ := hpush hf
        rw [semAt_of (by rw [hop]; exact hnd), hrun]
        have hfin := hk ρ' v w' (Post.of hext hr hi (.inr fun k hk => by rw [ho', Array.getElem?_push, if_neg (by omega)]) (fun H2 h2 => by
          rcases h2 with h2 | h2
          · cases h2; rfl
          · cases h2)) hv
        rcases hnx with rfl | ⟨rfl, rfl⟩
        · exact hfin
        · exact hfin
      · refine ⟨av, hn', _, h, Nat.le_of_ble_eq_true hg, fun _ => hm1, fun _ => hm2, fun H2 h2 => (by cases h2), fun ρ a w next hpre hk => ⟨fun _ _ => trivial, ?_⟩⟩
        obtain ⟨v, nx, ρ', w', hrun, hnx, hext, hv, hr, hi, _⟩ := he w _ ρ a w o hop (hpre.env hs) (HRel.of hpre.placed hpre.top (hs.seen hm1 (hpre.heap trivial))) (Inv.self ρ w)
        rw [semAt_of (by rw [hop]; exact hnd), hrun]
        have hfin := hk ρ' v w' (Post.of hext hr hi (.inl ⟨_, rfl⟩) (fun H2 h2 => by
          rcases h2 with h2 | h2
          · cases h2
          · cases h2; rfl)) hv
        rcases hnx with rfl | ⟨rfl, rfl⟩
        · exact hfin
        · exact hfin
    · exact h.elim
  unfold rper at h
  split at h
  · rename_i t x hop
    split at h
    · rename_i hm
      exact hval hop (by intro c hc; cases hc) (.inr rfl) (fun _ => hm) (fun ρ a w v hpre => HRel.of hpre.placed hpre.top (hs.seen hm (hpre.heap trivial))) (by rw [← hop]; exact h)
    · exact h.elim
  · rename_i t x y hop
    split at h
    · rename_i hm
      simp only [Bool.and_eq_true] at hm
      exact hmem (e := Eft.chg) (g := fun hn _ => Nat.ble s.hn hn) hop (by intro c hc; cases hc) (.inr ⟨hm.1, hm.2, rfl, rfl, rfl⟩) (by rw [← hop]; exact h)
    · exact h.elim
  · rename_i c hop
    split at h
    · rename_i f hcal
      obtain ⟨vf, h1, hf⟩ := ev_ok h
      obtain ⟨l, h2, hl⟩ := evL_ok h1
      clear h h1
      have h := h2
      clear h2
      split at h
      · rename_i g first capt
        have hargs : ∀ (ρ : Pl) (a : Act), SRel ρ st.sz (envOf ops (ancTab ops []) st i o s.acc).slots a.tmps → ∃ us vs, AV.relL ρ (first ++ l ++ capt) (us ++ c.args.toList.map a.eval ++ vs) ∧
            ∀ {fn : Func} {cd : Code} (w : World), P.funcs[g]? = some fn → fn.body = some cd → (execOp a.eval o).run P w = .ok (.enter g (us ++ c.args.toList.map a.eval ++ vs).toArray) w := by
          intro ρ a henv
          obtain ⟨x, hx, e⟩ := hf ρ a henv
          have hxs := hl ρ a henv
          have hargs := relL_map hxs
          obtain ⟨us, vs, hus, hvs, ex⟩ := hx
          refine ⟨us, vs, relL_append (relL_append hus hxs) hvs, fun w hfn hbd => ?_⟩
          simp only [execOp, hop, resolve, hcal, Sem.run_bind, e, ex, Deferred.ofValue, Sem.run_pure, Result.andThen_ok, invoke, hargs]
          rw [enters hN hfn hbd]
          simp
        have hnd : ∀ c, o.op ≠ .defer c := by rw [hop]; intro c hc; cases hc
        split at h
        · rename_i hfl
          obtain ⟨v, H1, hn1, h, hleaf⟩ := Tree.den_leaf (Tree.den_seq h)
          have hcall : ∀ (ρ : Pl) (a : Act) (w : World) (R : Ending → World → Prop), SRel ρ st.sz (envOf ops (ancTab ops []) st i o s.acc).slots a.tmps →
              (∀ ρ' x w', Ext (Pl.none s.hn) ρ' → v.rel ρ' x → HRel ρ' H1 hn1 w' → Inv w (fun _ => False) ρ' w' → R (.returned x) w') →
              ∃ xs, (execOp a.eval o).run P w = .ok (.enter g xs) w ∧ CallsIn (FR none) 0 P g xs w R := by
            intro ρ a w R henv hR
            obtain ⟨us, vs, hrel, hrun⟩ := hargs ρ a henv
            have hxe : us ++ c.args.toList.map a.eval ++ vs = AV.toVL (first ++ l ++ capt) := AV.relL_uniq _ hrel (AV.flatL_rel _ hfl)
            obtain ⟨⟨fn, cd, hfn, hbd⟩, hc⟩ := callF_ok hself hct (φ := fun v' H' hn' => v' = v ∧ H' = H1 ∧ hn' = hn1) (w0 := w) (m0 := fun _ => False) (ρ := Pl.none s.hn) (H := []) (hn := s.hn) (k := Tree.ret) hleaf (AV.flatL_rel _ hfl) ⟨rfl, fun i j n h => (by cases h), fun i n h => (by cases h), fun n o h => (by cases h), fun i b h => by simp [look] at h⟩
              ⟨rfl, rfl, rfl, Nat.le_refl _, fun _ _ _ => rfl, fun i n h => (by cases h)⟩ (R := R)
              (fun v' H' hn' ρ' x w' hd hext hxr hr hi => by
                obtain ⟨rfl, rfl, rfl⟩ := hd
                exact hR ρ' x w' hext hxr hr hi)
            exact ⟨_, hrun w hfn hbd, by rw [hxe]; exact hc⟩
          split at h
          · rename_i hvf
            refine ⟨v, s.hn, .none, h, Nat.le_refl _, fun ht => ht.elim, fun ⟨_, ht⟩ => (by cases ht), fun H2 h2 => (by cases h2), fun ρ a w next hpre hk => ⟨fun _ _ => trivial, ?_⟩⟩
            obtain ⟨xs, hrun, hc⟩ := hcall ρ a w (fun e w' => match e with
              | .returned x => next (a.put o.dst x) w'
              | .panicked chain => Q (.panic chain) a w'
              | .outgrown => LetsOut Q) (hpre.env hs) (fun ρ' x w' hext hxr hr hi => by
                obtain rfl := AV.rel_uniq _ hxr (AV.flat_rel v hvf)
                exact hk ρ _ w' (Post.quiet hpre.top hpre.placed ⟨hi.os, hi.tape, hi.output, hi.size, fun k hk => hi.keep k hk (fun h => h)⟩ (hout (.inl rfl))) (AV.flat_rel v hvf))
            rw [semAt_of hnd, hrun, Oper.uponIn_enter]
            exact ⟨fun hh => (by cases hh), CallsIn.mono hc fun e w' h => by cases e <;> exact h⟩
          · split at h
            · rename_i hky
              obtain ⟨hle, hkeys⟩ := keysIn_spec hky
              refine ⟨v, hn1, _, h, hle, fun ht => ht.elim, fun ⟨_, ht⟩ => (by cases ht), fun H2 h2 => (by cases h2; exact hkeys), fun ρ a w next hpre hk => ⟨fun _ _ => trivial, ?_⟩⟩
              obtain ⟨xs, hrun, hc⟩ := hcall ρ a w (fun e w' => match e with
                | .returned x => next (a.put o.dst x) w'
                | .panicked chain => Q (.panic chain) a w'
                | .outgrown => LetsOut Q) (hpre.env hs) (fun ρ' x w' hext hxr hr hi => by
                  obtain ⟨hp, hm⟩ := Post.made (v := v) hpre.top hpre.placed hext hext.1.1 hr hi
                  exact hk _ _ w' hp (AV.rel_more hm v hxr))
              rw [semAt_of hnd, hrun, Oper.uponIn_enter]
              exact ⟨fun hh => (by cases hh), CallsIn.mono hc fun e w' h => by cases e <;> exact h⟩
            · exact h.elim
        · split at h
          · rename_i hm
            simp only [Bool.and_eq_true] at hm
            obtain ⟨v, H1, hn1, h, hleaf⟩ := Tree.den_leaf (Tree.den_seq h)
            split at h
            · rename_i hle
              refine ⟨v, hn1, .chg H1, h, Nat.le_of_ble_eq_true hle, fun _ => hm.1, fun _ => hm.2, fun H2 h2 => (by cases h2), fun ρ a w next hpre hk => ⟨fun _ _ => trivial, ?_⟩⟩
              obtain ⟨us, vs, hrel, hrun⟩ := hargs ρ a (hpre.env hs)
              obtain ⟨⟨fn, cd, hfn, hbd⟩, hc⟩ := callF_ok hself hct (φ := fun v' H' hn' => v' = v ∧ H' = H1 ∧ hn' = hn1) (w0 := w) (m0 := fun k => ∃ i, ρ i = some k) (k := Tree.ret) hleaf hrel (HRel.of hpre.placed hpre.top (hs.seen hm.1 (hpre.heap trivial))) (Inv.self ρ w)
                (R := fun e w' => match e with
                | .returned x => next (a.put o.dst x) w'
                | .panicked chain => Q (.panic chain) a w'
                | .outgrown => LetsOut Q)
                (fun v' H' hn' ρ' x w' hd hext hxr hr hi => by
                  obtain ⟨rfl, rfl, rfl⟩ := hd
                  exact hk ρ' x w' (Post.of hext hr hi (.inl ⟨_, rfl⟩) (fun H2 h2 => by
                    rcases h2 with h2 | h2
                    · cases h2
                    · cases h2; rfl)) hxr)
              rw [semAt_of hnd, hrun w hfn hbd, Oper.uponIn_enter]
              exact ⟨fun hh => (by cases hh), CallsIn.mono hc fun e w' h => by cases e <;> exact h⟩
            · exact h.elim
          · exact h.elim
      · exact h.elim
    · exact hval hop (by intro c hc; cases hc) (.inl rfl) (fun ht => ht.elim) (fun ρ a w v hpre => HRel.nil hpre.placed hpre.top) (by rw [← hop]; exact h)
    · exact h.elim
  · have hnd : ∀ c, o.op ≠ .defer c := by
      intro c hc
      rw [hc] at h
      exact h.elim
    split at h
    · rename_i hf
      exact hmem (e := Eft.fresh) (g := keysIn s.hn) rfl hnd (.inl ⟨hf, rfl, rfl, rfl⟩) h
    · split at h
      · exact h.elim
      · exact hval rfl hnd (.inl rfl) (fun ht => ht.elim) (fun ρ a w v hpre => HRel.nil hpre.placed hpre.top) h
end Go.Proofs.Ytgoilclgehipmaa.SX
