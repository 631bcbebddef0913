/- A symbolic walk, part two: what its values and blocks stand for; operations that read. -/
import Derived.Test.YtlekjgjhbanimaaSXa
import Derived.Laws.CopyRow
import Derived.Laws.Tables
import Derived.RangeFuncRecord
import Derived.RangeFuncNested
import Derived.RangeFuncCalls
import Derived.Scope
namespace Go.Proofs.Ytlekjgjhbanimaa.SX
set_option linter.unusedVariables false
set_option linter.unusedSimpArgs false
open Go
structure ExtB (ρ ρ' : Pl) : Prop where
  top : ρ.top ≤ ρ'.top
  ro : ρ'.ro = ρ.ro
  tv : ∀ i, i < ρ.top → ρ'.tv i = ρ.tv i
/-- What is placed stays, but for slices that are no more. -/
def Ext (ρ ρ' : Pl) : Prop := ExtB ρ ρ' ∧ ∀ i, i < ρ.top → ρ' i = ρ i ∨ (ρ' i = Option.none ∧ ∃ v, ρ.tv i = some v)
theorem Pl.pin_f {ρ : Pl} {i n : Nat} (h : ρ.pin i = some n) : ρ i = some n ∧ ρ.tv i = Option.none := by
  unfold Pl.pin at h
  split at h
  · cases h
  · rename_i e
    exact ⟨h, e⟩
theorem Pl.pin_of {ρ : Pl} {i n : Nat} (h : ρ i = some n) (ht : ρ.tv i = Option.none) : ρ.pin i = some n := by
  unfold Pl.pin
  rw [ht]
  exact h
theorem Pl.tv_over {ρ : Pl} {i : Nat} (h : ρ.top ≤ i) : ρ.tv i = Option.none := by
  cases e : ρ.tv i with
  | none => rfl
  | some v => exact absurd (ρ.twf i v e) (by omega)
theorem Ext.at {ρ ρ' : Pl} (h : Ext ρ ρ') (i n : Nat) (hi : ρ.pin i = some n) : ρ'.pin i = some n := by
  obtain ⟨h1, h2⟩ := Pl.pin_f hi
  have hlt := ρ.wf i n h1
  refine Pl.pin_of ?_ ((h.1.tv i hlt).trans h2)
  rcases h.2 i hlt with e | ⟨_, v, e⟩
  · rw [e]; exact h1
  · rw [h2] at e; cases e
theorem Ext.tvAt {ρ ρ' : Pl} (h : Ext ρ ρ') {i : Nat} {v : Value} (hi : ρ.tv i = some v) : ρ'.tv i = some v := (h.1.tv i (ρ.twf i v hi)).trans hi
theorem Ext.back {ρ ρ' : Pl} (h : Ext ρ ρ') {i n : Nat} (hi : i < ρ.top) (hn : ρ' i = some n) : ρ i = some n := by
  rcases h.2 i hi with e | ⟨e, _⟩
  · rw [← e]; exact hn
  · rw [e] at hn; cases hn
theorem Ext.refl (ρ : Pl) : Ext ρ ρ := ⟨⟨Nat.le_refl _, rfl, fun _ _ => rfl⟩, fun _ _ => .inl rfl⟩
theorem Ext.trans {a b c : Pl} (h : Ext a b) (k : Ext b c) : Ext a c := ⟨⟨Nat.le_trans h.1.top k.1.top, k.1.ro.trans h.1.ro, fun i hi => (k.1.tv i (Nat.lt_of_lt_of_le hi h.1.top)).trans (h.1.tv i hi)⟩, fun i hi => by
  have hi2 := Nat.lt_of_lt_of_le hi h.1.top
  rcases k.2 i hi2 with e | ⟨e, v, e2⟩
  · rcases h.2 i hi with e3 | ⟨e3, v, e4⟩
    · exact .inl (e.trans e3)
    · exact .inr ⟨e.trans e3, v, e4⟩
  · exact .inr ⟨e, v, (h.1.tv i hi).symm.trans e2⟩⟩
theorem Pl.at (ρ : Pl) (i n : Nat) : ρ.put i n i = some n := if_pos rfl
theorem Pl.off (ρ : Pl) {i j : Nat} (n : Nat) (h : j ≠ i) : ρ.put i n j = ρ j := if_neg h
theorem Pl.over {ρ : Pl} {i : Nat} (h : ρ.top ≤ i) : ρ i = Option.none := by
  cases e : ρ i with
  | none => rfl
  | some n => exact absurd (ρ.wf i n e) (by omega)
theorem Pl.at_pin (ρ : Pl) {i : Nat} (n : Nat) (h : ρ.top = i) : (ρ.put i n).pin i = some n := Pl.pin_of (Pl.at _ _ _) (Pl.tv_over (ρ := ρ) (by omega))
theorem Ext.snoc {ρ : Pl} {i : Nat} (n : Nat) (h : ρ.top = i) : Ext ρ (ρ.put i n) := ⟨⟨by show ρ.top ≤ max ρ.top (i + 1); omega, rfl, fun _ _ => rfl⟩, fun j hj => .inl (Pl.off _ _ (by omega))⟩
mutual
theorem AV.rel_mono {ρ ρ' : Pl} (h : Ext ρ ρ') : ∀ (a : AV) {v : Value}, a.rel ρ v → a.rel ρ' v
  | .bool _, _, x => x
  | .int _ _, _, x => x
  | .str _, _, x => x
  | .ptr _ _, _, ⟨n, hn, e⟩ => ⟨n, h.at _ _ hn, e⟩
  | .nilPtr, _, x => x
  | .sl _ _ _ _, _, ⟨n, hn, e⟩ => ⟨n, h.at _ _ hn, e⟩
  | .nilSl, _, x => x
  | .fn _ first capt, _, ⟨xs, ys, hx, hy, e⟩ => ⟨xs, ys, AV.relL_mono h first hx, AV.relL_mono h capt hy, e⟩
  | .yld _, _, ⟨n, hn, e⟩ => ⟨n, h.at _ _ hn, e⟩
  | .nilFn, _, x => x
  | .iface _ a, _, ⟨x, hx, e⟩ => ⟨x, AV.rel_mono h a hx, e⟩
  | .nilIface, _, x => x
  | .agg l, _, ⟨xs, hx, e⟩ => ⟨xs, AV.relL_mono h l hx, e⟩
  | .tup l, _, ⟨xs, hx, e⟩ => ⟨xs, AV.relL_mono h l hx, e⟩
  | .lst _ _ _, _, x => by unfold AV.rel at x ⊢; rw [h.1.ro]; exact x
  | .lpt _ _ _ _, _, x => by unfold AV.rel at x ⊢; rw [h.1.ro]; exact x
  | .own _, _, ⟨x, y⟩ => ⟨h.tvAt x, y⟩
  | .vpt _ _, _, ⟨n, len, cap, x, y⟩ => ⟨n, len, cap, h.tvAt x, y⟩
theorem AV.relL_mono {ρ ρ' : Pl} (h : Ext ρ ρ') : ∀ (l : List AV) {vs : List Value}, AV.relL ρ l vs → AV.relL ρ' l vs
  | [], _, x => x
  | a :: l, _, ⟨x, xs, hx, hl, e⟩ => ⟨x, xs, AV.rel_mono h a hx, AV.relL_mono h l hl, e⟩
end
mutual
theorem AV.rel_uniq {ρ : Pl} : ∀ (a : AV) {v v' : Value}, a.rel ρ v → a.rel ρ v' → v = v'
  | .bool _, _, _, x, y => x.trans y.symm
  | .int _ _, _, _, x, y => x.trans y.symm
  | .str _, _, _, x, y => x.trans y.symm
  | .ptr _ _, _, _, ⟨n, hn, e⟩, ⟨m, hm, f⟩ => by rw [hn] at hm; cases hm; rw [e, f]
  | .nilPtr, _, _, x, y => x.trans y.symm
  | .sl _ _ _ _, _, _, ⟨n, hn, e⟩, ⟨m, hm, f⟩ => by rw [hn] at hm; cases hm; rw [e, f]
  | .nilSl, _, _, x, y => x.trans y.symm
  | .fn _ first capt, _, _, ⟨xs, ys, hx, hy, e⟩, ⟨xs', ys', hx', hy', f⟩ => by rw [e, f, AV.relL_uniq first hx hx', AV.relL_uniq capt hy hy']
  | .yld _, _, _, ⟨n, hn, e⟩, ⟨m, hm, f⟩ => by rw [hn] at hm; cases hm; rw [e, f]
  | .nilFn, _, _, x, y => x.trans y.symm
  | .iface _ a, _, _, ⟨x, hx, e⟩, ⟨y, hy, f⟩ => by rw [e, f, AV.rel_uniq a hx hy]
  | .nilIface, _, _, x, y => x.trans y.symm
  | .agg l, _, _, ⟨xs, hx, e⟩, ⟨ys, hy, f⟩ => by rw [e, f, AV.relL_uniq l hx hy]
  | .tup l, _, _, ⟨xs, hx, e⟩, ⟨ys, hy, f⟩ => by rw [e, f, AV.relL_uniq l hx hy]
  | .lst _ _ _, _, _, ⟨x, _⟩, ⟨y, _⟩ => by rw [x] at y; cases y; rfl
  | .lpt _ _ _ _, _, _, ⟨_, n, o, len, cap, cs, t, fz, x, e, _⟩, ⟨_, n', o', len', cap', cs', t', fz', y, f, _⟩ => by rw [x] at y; cases y; rw [e, f]
  | .own _, _, _, ⟨x, _⟩, ⟨y, _⟩ => by rw [x] at y; cases y; rfl
  | .vpt _ _, _, _, ⟨n, len, cap, x, e⟩, ⟨n', len', cap', y, f⟩ => by rw [x] at y; cases y; rw [e, f]
theorem AV.relL_uniq {ρ : Pl} : ∀ (l : List AV) {vs vs' : List Value}, AV.relL ρ l vs → AV.relL ρ l vs' → vs = vs'
  | [], _, _, x, y => x.trans y.symm
  | a :: l, _, _, ⟨x, xs, hx, hl, e⟩, ⟨y, ys, hy, hm, f⟩ => by rw [e, f, AV.rel_uniq a hx hy, AV.relL_uniq l hl hm]
end
mutual
theorem AV.flat_rel {ρ : Pl} : ∀ (a : AV), a.flat = true → a.rel ρ a.toV
  | .bool _, _ => rfl
  | .int _ _, _ => rfl
  | .str _, _ => rfl
  | .nilPtr, _ => rfl
  | .nilSl, _ => rfl
  | .nilFn, _ => rfl
  | .nilIface, _ => rfl
  | .agg l, h => ⟨_, AV.flatL_rel l h, rfl⟩
  | .tup l, h => ⟨_, AV.flatL_rel l h, rfl⟩
  | .ptr _ _, h => by cases h
  | .sl _ _ _ _, h => by cases h
  | .fn _ _ _, h => by cases h
  | .yld _, h => by cases h
  | .iface _ _, h => by cases h
  | .lst _ _ _, h => by cases h
  | .lpt _ _ _ _, h => by cases h
  | .own _, h => by cases h
  | .vpt _ _, h => by cases h
theorem AV.flatL_rel {ρ : Pl} : ∀ (l : List AV), AV.flatL l = true → AV.relL ρ l (AV.toVL l)
  | [], _ => rfl
  | a :: l, h => by
    simp only [AV.flatL, Bool.and_eq_true] at h
    exact ⟨_, _, AV.flat_rel a h.1, AV.flatL_rel l h.2, rfl⟩
end
theorem nth_eq {α : Type} : ∀ (l : List α) (i : Nat), nth l i = l[i]?
  | [], i => by simp [nth]
  | a :: l, 0 => rfl
  | a :: l, i + 1 => by simp [nth, nth_eq l i]
theorem relL_len {ρ : Pl} : ∀ {l : List AV} {vs : List Value}, AV.relL ρ l vs → vs.length = l.length
  | [], _, h => by rw [show _ = [] from h]; rfl
  | a :: l, _, ⟨x, xs, _, hl, e⟩ => by rw [e]; simp [relL_len hl]
theorem relL_nth {ρ : Pl} : ∀ {l : List AV} {vs : List Value} (i : Nat) {a : AV}, AV.relL ρ l vs → nth l i = some a → ∃ v, vs[i]? = some v ∧ a.rel ρ v
  | a :: l, _, 0, _, ⟨x, xs, hx, _, e⟩, h => by
    cases h
    exact ⟨x, by rw [e]; rfl, hx⟩
  | a :: l, _, i + 1, _, ⟨x, xs, _, hl, e⟩, h => by
    obtain ⟨v, hv, hr⟩ := relL_nth i hl h
    exact ⟨v, by rw [e]; simpa using hv, hr⟩
theorem relL_drop {ρ : Pl} : ∀ (o : Nat) {l : List AV} {vs : List Value}, AV.relL ρ l vs → AV.relL ρ (l.drop o) (vs.drop o)
  | 0, _, _, h => h
  | o + 1, [], _, h => by rw [show _ = [] from h]; exact rfl
  | o + 1, a :: l, _, ⟨x, xs, _, hl, e⟩ => by rw [e]; exact relL_drop o hl
theorem relL_take {ρ : Pl} : ∀ (o : Nat) {l : List AV} {vs : List Value}, AV.relL ρ l vs → AV.relL ρ (l.take o) (vs.take o)
  | 0, _, _, _ => rfl
  | o + 1, [], _, h => by rw [show _ = [] from h]; exact rfl
  | o + 1, a :: l, _, ⟨x, xs, hx, hl, e⟩ => by rw [e]; exact ⟨x, _, hx, relL_take o hl, rfl⟩
theorem relL_append {ρ : Pl} : ∀ {l m : List AV} {vs ws : List Value}, AV.relL ρ l vs → AV.relL ρ m ws → AV.relL ρ (l ++ m) (vs ++ ws)
  | [], _, _, _, h, k => by rw [show _ = [] from h]; exact k
  | a :: l, _, _, _, ⟨x, xs, hx, hl, e⟩, k => by rw [e]; exact ⟨x, _, hx, relL_append hl k, rfl⟩
theorem relL_one {ρ : Pl} {a : AV} {v : Value} (h : a.rel ρ v) : AV.relL ρ [a] [v] := ⟨v, [], h, rfl, rfl⟩
theorem relL_rep {ρ : Pl} {l : List AV} {vs : List Value} (h : AV.relL ρ l vs) : ∀ n, AV.relL ρ (rep l n) (rep vs n)
  | 0 => rfl
  | n + 1 => relL_append h (relL_rep h n)
/-- What is put at o. -/
theorem relL_putAt {ρ : Pl} : ∀ (l : List AV) (o : Nat) (as : List AV) {vs xs : List Value}, AV.relL ρ l vs → AV.relL ρ as xs → o + as.length ≤ l.length →
    AV.relL ρ (putAt l o as) (vs.take o ++ xs ++ vs.drop (o + xs.length))
  | l, o, [], vs, xs, h, hx, _ => by
    rw [show xs = [] from hx]
    cases l <;> simpa [putAt] using h
  | [], o, a :: as, vs, xs, h, hx, hl => by simp at hl
  | b :: l, o + 1, a :: as, vs, xs, ⟨y, ys, hy, hl, e⟩, hx, hle => by
    subst e
    have h1 : xs.length = as.length + 1 := by rw [relL_len hx]; rfl
    have := relL_putAt l o (a :: as) hl hx (by simp at hle ⊢; omega)
    refine ⟨y, _, hy, this, ?_⟩
    rw [show o + 1 + xs.length = (o + xs.length) + 1 from by omega]
    simp
  | b :: l, 0, a :: as, vs, xs, ⟨y, ys, hy, hl, e⟩, ⟨x, xs', hx, hxs, e'⟩, hle => by
    subst e e'
    have := relL_putAt l 0 as hl hxs (by simp at hle ⊢; omega)
    refine ⟨x, _, hx, this, ?_⟩
    simp
theorem ofV1_ok {ρ : Pl} {v : Value} {a : AV} (h : ofV1 v = some a) : a.rel ρ v := by
  unfold ofV1 at h
  split at h <;> first | (cases h; rfl) | (cases h; done) | skip
  split at h <;> first | (cases h; rfl) | cases h
theorem ofVL_ok {ρ : Pl} : ∀ {vs : List Value} {l : List AV}, ofVL vs = some l → AV.relL ρ l vs
  | [], _, h => by cases h; rfl
  | v :: vs, _, h => by
    unfold ofVL at h
    split at h
    · cases h
      exact ⟨v, vs, ofV1_ok ‹_›, ofVL_ok ‹_›, rfl⟩
    · cases h
theorem ofV_ok {ρ : Pl} {v : Value} {a : AV} (h : ofV v = some a) : a.rel ρ v := by
  unfold ofV at h
  split at h
  · split at h
    · cases h
      exact ⟨_, ofVL_ok ‹_›, by simp⟩
    · cases h
  · split at h
    · cases h
      exact ⟨_, ofVL_ok ‹_›, by simp⟩
    · cases h
  · exact ofV1_ok h
/-- A frame's slots. -/
def SRel (ρ : Pl) (sz : Nat) (slots : List (Nat × AV)) (tmps : Array Value) : Prop :=
  tmps.size = sz ∧ ∀ t v, look slots t = some v → ∃ x, v.rel ρ x ∧ tmps[t]? = some x
theorem SRel.mono {ρ ρ' : Pl} {sz : Nat} {slots : List (Nat × AV)} {tmps : Array Value} (h : SRel ρ sz slots tmps) (k : Ext ρ ρ') : SRel ρ' sz slots tmps :=
  ⟨h.1, fun t v hv => let ⟨x, hx, e⟩ := h.2 t v hv; ⟨x, AV.rel_mono k v hx, e⟩⟩

theorem look_cons.{u} {α : Type u} (t u : Nat) (v : α) (l : List (Nat × α)) : look ((t, v) :: l) u = if t = u then some v else look l u := by
  by_cases h : t = u
  · subst h; simp [look]
  · rw [if_neg h]
    have : Nat.beq t u = false := by
      cases hb : Nat.beq t u
      · rfl
      · exact absurd (Nat.eq_of_beq_eq_true hb) h
    show (match Nat.beq t u with | true => some v | false => look l u) = look l u
    rw [this]
theorem SRel.put {ρ : Pl} {sz : Nat} {slots : List (Nat × AV)} {tmps : Array Value} (h : SRel ρ sz slots tmps) {t : Nat} {v : AV} {x : Value} (ht : t < sz) (hx : v.rel ρ x) : SRel ρ sz ((t, v) :: slots) (tmps.setIfInBounds t x) := by
  refine ⟨by simp [h.1], fun u y hy => ?_⟩
  rw [look_cons] at hy
  by_cases e : t = u
  · subst e
    rw [if_pos rfl] at hy
    cases hy
    exact ⟨x, hx, by simp [h.1, ht]⟩
  · rw [if_neg e] at hy
    obtain ⟨z, hz, hz'⟩ := h.2 u y hy
    exact ⟨z, hz, by rw [Array.getElem?_setIfInBounds_ne e]; exact hz'⟩
/-- A slot that is out of bounds is not written. -/
theorem SRel.skip {ρ : Pl} {sz : Nat} {slots : List (Nat × AV)} {tmps : Array Value} (h : SRel ρ sz slots tmps) {t : Nat} {x : Value} (ht : ¬ t < sz) : tmps.setIfInBounds t x = tmps := by
  unfold Array.setIfInBounds
  rw [dif_neg (by rw [h.1]; exact ht)]
def AB.rel (ρ : Pl) : AB → Obj → Prop
  | .cells t l, o => ∃ xs, AV.relL ρ l xs ∧ o = .cells xs.toArray t (0, 0)
  | .vec i e size n l, o => ∃ g cap cur xs, ρ i = some g ∧ ρ.tv i = some (.slice (some ⟨g, 0, none⟩) n cap) ∧ o = .cells cur e (0, 0) ∧ n ≤ cap ∧ cap ≤ maxLen ∧ cur.size = cap * size ∧ AV.relL ρ l xs ∧ xs.length = n * size ∧ cur.toList.take (n * size) = xs
  | .loop _ st pe sz slots ps assign body d, o => ∃ fn tmps dn, ρ.pin d = some dn ∧ SRel ρ sz slots tmps ∧ o = .loop { state := st, pending := pe, fn := fn, tmps := tmps, params := ps, assign := assign, body := body, defers := dn }
  | .mark, o => o = .deferred (some [])
  | .dead, _ => True
theorem AB.rel_mono {ρ ρ' : Pl} (h : Ext ρ ρ') : ∀ {b : AB} {o : Obj}, (∀ i n, ρ i = some n → i < ρ.top → (∃ e size m l, b = .vec i e size m l) → ρ' i = some n) → b.rel ρ o → b.rel ρ' o
  | .cells t l, _, _, ⟨xs, hx, e⟩ => ⟨xs, AV.relL_mono h l hx, e⟩
  | .loop .., _, _, ⟨fn, tmps, dn, hd, hs, e⟩ => ⟨fn, tmps, dn, h.at _ _ hd, hs.mono h, e⟩
  | .mark, _, _, e => e
  | .dead, _, _, _ => trivial
  | .vec i e size n l, _, hk, ⟨g, cap, cur, xs, h1, h2, h3, h4, h5, h6, h7, h8, h9⟩ => ⟨g, cap, cur, xs, hk i g h1 (ρ.wf i g h1) ⟨e, size, n, l, rfl⟩, h.tvAt h2, h3, h4, h5, h6, AV.relL_mono h l h7, h8, h9⟩
structure HRel (ρ : Pl) (H : Heap) (hn : Nat) (w : World) : Prop where
  len : ρ.top = hn
  inj : ∀ (i j n : Nat), ρ i = some n → ρ j = some n → i = j
  lt : ∀ (i n : Nat), ρ i = some n → n < w.heap.size
  ro : ∀ n o, ρ.ro.obj n = some o → w.heap[n]? = some o ∧ ∀ j, ρ j ≠ some n
  obj : ∀ i b, look H i = some b → ∃ n o, ρ i = some n ∧ w.heap[n]? = some o ∧ b.rel ρ o
/- operands -/
theorem ev_ok {φ : AV → Heap → Nat → Prop} {st : AS} {x : Operand} {k : AV → Tree} (h : (ev st x k).den φ) :
    ∃ av, (k av).den φ ∧ ∀ (ρ : Pl) (a : Act), SRel ρ st.sz st.slots a.tmps → ∃ v, av.rel ρ v ∧ a.eval x = v := by
  unfold ev at h
  split at h
  · split at h
    · rename_i t _ v hv
      refine ⟨_, h, fun ρ a hs => ?_⟩
      obtain ⟨x, hx, e⟩ := hs.2 _ _ hv
      exact ⟨x, hx, by simp [Act.eval, Array.getD_eq_getD_getElem?, e]⟩
    · exact h.elim
  · split at h
    · exact ⟨_, h, fun ρ a _ => ⟨_, ofV_ok ‹_›, rfl⟩⟩
    · exact h.elim
  · exact ⟨_, h, fun ρ a _ => ⟨_, ⟨[], [], rfl, rfl, rfl⟩, rfl⟩⟩
  · exact h.elim
theorem evL_ok {φ : AV → Heap → Nat → Prop} {st : AS} : ∀ {l : List Operand} {k : List AV → Tree}, (evL st l k).den φ →
    ∃ as, (k as).den φ ∧ ∀ (ρ : Pl) (a : Act), SRel ρ st.sz st.slots a.tmps → AV.relL ρ as (l.map a.eval)
  | [], k, h => ⟨[], h, fun _ _ _ => rfl⟩
  | x :: r, k, h => by
    obtain ⟨av, h, h1⟩ := ev_ok h
    obtain ⟨as, h, h2⟩ := evL_ok h
    refine ⟨av :: as, h, fun ρ a hs => ?_⟩
    obtain ⟨v, hv, e⟩ := h1 ρ a hs
    exact ⟨v, _, hv, h2 ρ a hs, by simp [e]⟩
theorem evP_ok {φ : AV → Heap → Nat → Prop} {st : AS} : ∀ {l : List (Nat × Operand)} {k : List (Nat × AV) → Tree}, (evP st l k).den φ →
    ∃ as, (k as).den φ ∧ ∀ (ρ : Pl) (a : Act), SRel ρ st.sz st.slots a.tmps → as.map (·.1) = l.map (·.1) ∧ AV.relL ρ (as.map (·.2)) (l.map fun p => a.eval p.2)
  | [], k, h => ⟨[], h, fun _ _ _ => ⟨rfl, rfl⟩⟩
  | (i, x) :: r, k, h => by
    obtain ⟨av, h, h1⟩ := ev_ok h
    obtain ⟨as, h, h2⟩ := evP_ok h
    refine ⟨(i, av) :: as, h, fun ρ a hs => ?_⟩
    obtain ⟨v, hv, e⟩ := h1 ρ a hs
    exact ⟨by simp [(h2 ρ a hs).1], v, _, hv, (h2 ρ a hs).2, by simp [e]⟩
theorem cellsOf_rel {ρ : Pl} : ∀ {a : AV} {v : Value}, a.rel ρ v → AV.relL ρ (cellsOf a) v.cells.toList
  | .agg l, _, ⟨xs, hx, e⟩ => by rw [e]; simpa [cellsOf, Value.cells] using hx
  | .bool _, _, e => by rw [show _ = _ from e]; exact relL_one (a := .bool _) rfl
  | .int _ _, _, e => by rw [show _ = _ from e]; exact relL_one (a := .int _ _) rfl
  | .str _, _, e => by rw [show _ = _ from e]; exact relL_one (a := .str _) rfl
  | .ptr _ _, _, ⟨n, hn, e⟩ => by rw [e]; exact relL_one (a := .ptr _ _) ⟨n, hn, rfl⟩
  | .nilPtr, _, e => by rw [show _ = _ from e]; exact relL_one (a := .nilPtr) rfl
  | .sl _ _ _ _, _, ⟨n, hn, e⟩ => by rw [e]; exact relL_one (a := .sl _ _ _ _) ⟨n, hn, rfl⟩
  | .nilSl, _, e => by rw [show _ = _ from e]; exact relL_one (a := .nilSl) rfl
  | .fn _ _ _, _, ⟨xs, ys, hx, hy, e⟩ => by rw [e]; exact relL_one (a := .fn _ _ _) ⟨xs, ys, hx, hy, rfl⟩
  | .yld _, _, ⟨n, hn, e⟩ => by rw [e]; exact relL_one (a := .yld _) ⟨n, hn, rfl⟩
  | .nilFn, _, e => by rw [show _ = _ from e]; exact relL_one (a := .nilFn) rfl
  | .iface _ _, _, ⟨x, hx, e⟩ => by rw [e]; exact relL_one (a := .iface _ _) ⟨x, hx, rfl⟩
  | .nilIface, _, e => by rw [show _ = _ from e]; exact relL_one (a := .nilIface) rfl
  | .tup _, _, ⟨xs, hx, e⟩ => by rw [e]; exact relL_one (a := .tup _) ⟨xs, hx, rfl⟩
  | .lst i k l, _, x => by
    obtain ⟨h, a, cap, rfl, g⟩ := x
    exact relL_one (a := .lst i k l) ⟨h, a, cap, rfl, g⟩
  | .lpt i k l j, _, x => by
    obtain ⟨h, n, o, len, cap, cs, t, fz, h1, rfl, g⟩ := x
    exact relL_one (a := .lpt i k l j) ⟨h, n, o, len, cap, cs, t, fz, h1, rfl, g⟩
  | .own i, _, x => by
    obtain ⟨h, a, len, cap, rfl⟩ := x
    exact relL_one (a := .own i) ⟨h, a, len, cap, rfl⟩
  | .vpt i o, _, x => by
    obtain ⟨n, len, cap, h, rfl⟩ := x
    exact relL_one (a := .vpt i o) ⟨n, len, cap, h, rfl⟩
theorem one_rel {ρ : Pl} : ∀ {a : AV} {v : Value}, a.rel ρ v → one a = true → v.oneCell' = true
  | .agg l, _, _, h => by cases h
  | .tup _, _, _, h => by cases h
  | .bool _, _, e, _ => by rw [show _ = _ from e]; rfl
  | .int _ _, _, e, _ => by rw [show _ = _ from e]; rfl
  | .str _, _, e, _ => by rw [show _ = _ from e]; rfl
  | .ptr _ _, _, ⟨n, hn, e⟩, _ => by rw [e]; rfl
  | .nilPtr, _, e, _ => by rw [show _ = _ from e]; rfl
  | .sl _ _ _ _, _, ⟨n, hn, e⟩, _ => by rw [e]; rfl
  | .nilSl, _, e, _ => by rw [show _ = _ from e]; rfl
  | .fn _ _ _, _, ⟨xs, ys, hx, hy, e⟩, _ => by rw [e]; rfl
  | .yld _, _, ⟨n, hn, e⟩, _ => by rw [e]; rfl
  | .nilFn, _, e, _ => by rw [show _ = _ from e]; rfl
  | .iface _ _, _, ⟨x, hx, e⟩, _ => by rw [e]; rfl
  | .nilIface, _, e, _ => by rw [show _ = _ from e]; rfl
  | .lst _ _ _, _, ⟨_, a, cap, e, _⟩, _ => by rw [e]; rfl
  | .lpt _ _ _ _, _, ⟨_, n, o, len, cap, cs, t, fz, h1, e, _⟩, _ => by rw [e]; rfl
  | .own _, _, ⟨_, a, len, cap, e⟩, _ => by rw [e]; rfl
  | .vpt _ _, _, ⟨n, len, cap, _, e⟩, _ => by rw [e]; rfl
theorem allOne_rel {ρ : Pl} : ∀ {l : List AV} {vs : List Value}, AV.relL ρ l vs → allOne l = true → ∀ v ∈ vs, v.oneCell' = true
  | [], _, e, _, v, hv => by rw [show _ = [] from e] at hv; cases hv
  | a :: l, _, ⟨x, xs, hx, hl, e⟩, h, v, hv => by
    simp only [allOne, Bool.and_eq_true] at h
    rw [e] at hv
    rcases List.mem_cons.1 hv with rfl | hv
    · exact one_rel hx h.1
    · exact allOne_rel hl h.2 v hv
end Go.Proofs.Ytlekjgjhbanimaa.SX
