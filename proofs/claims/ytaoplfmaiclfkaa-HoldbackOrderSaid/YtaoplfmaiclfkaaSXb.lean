/- A symbolic walk, part two: what its values and blocks stand for; operations that read. -/
import Derived.Test.YtaoplfmaiclfkaaSXa
import Derived.Laws.CopyRow
import Derived.Laws.Tables
import Derived.RangeFuncRecord
import Derived.RangeFuncNested
import Derived.RangeFuncCalls
import Derived.Scope
namespace Go.Proofs.Ytaoplfmaiclfkaa.SX
set_option linter.unusedVariables false
set_option linter.unusedSimpArgs false
open Go
/-- What came in, or is frozen, is for ever. -/
structure RO.Le (r r' : RO) : Prop where
  hd : r'.hd = r.hd
  obj : ∀ n o, r.obj n = some o → r'.obj n = some o
theorem RO.Le.refl (r : RO) : RO.Le r r := ⟨rfl, fun _ _ h => h⟩
theorem RO.Le.trans {a b c : RO} (h : RO.Le a b) (k : RO.Le b c) : RO.Le a c := ⟨k.hd.trans h.hd, fun n o x => k.obj n o (h.obj n o x)⟩
theorem AllR.imp {α : Type} {R R' : α → List Value → Prop} (h : ∀ x vs, R x vs → R' x vs) : ∀ {l : List α} {xs : List Value}, AllR R l xs → AllR R' l xs
  | [], _, x => x
  | a :: l, _, ⟨u, w, h1, h2, e⟩ => ⟨u, w, h a u h1, AllR.imp h h2, e⟩
theorem SlR.imp {α : Type} {R R' : α → List Value → Prop} {ob ob' : Nat → Option Obj} (h : ∀ x vs, R x vs → R' x vs) (ho : ∀ n o, ob n = some o → ob' n = some o) {size : Nat} {l : List α} {v : Value} (x : SlR R ob size l v) : SlR R' ob' size l v :=
  x.elim .inl fun ⟨n, o, cap, cs, ty, fz, xs, e, h0, h1, h2, h3⟩ => .inr ⟨n, o, cap, cs, ty, fz, xs, e, h0, ho _ _ h1, AllR.imp h h2, h3⟩
theorem RelT.mono {ob ob' : Nat → Option Obj} (ho : ∀ n o, ob n = some o → ob' n = some o) : ∀ (t : Ty) (x : t.El) (vs : List Value), RelT ob t x vs → RelT ob' t x vs
  | .int _, _, _, h => h
  | .bool, _, _, h => h
  | .str, _, _, h => h
  | .unit, _, _, h => h
  | .pair a b, x, _, ⟨u, w, h1, h2, e⟩ => ⟨u, w, RelT.mono ho a _ _ h1, RelT.mono ho b _ _ h2, e⟩
  | .sl t, l, _, ⟨v, e, h⟩ => ⟨v, e, SlR.imp (RelT.mono ho t) ho h⟩
theorem RelT.any {ob ob' : Nat → Option Obj} : ∀ (t : Ty) (x : t.El) (vs : List Value), t.noSl = true → RelT ob t x vs → RelT ob' t x vs
  | .int _, _, _, _, h => h
  | .bool, _, _, _, h => h
  | .str, _, _, _, h => h
  | .unit, _, _, _, h => h
  | .pair a b, x, _, hs, ⟨u, w, h1, h2, e⟩ => by
    simp only [Ty.noSl, Bool.and_eq_true] at hs
    exact ⟨u, w, RelT.any a _ _ hs.1 h1, RelT.any b _ _ hs.2 h2, e⟩
  | .sl _, _, _, hs, _ => by cases hs
structure ExtB (ρ ρ' : Pl) : Prop where
  top : ρ.top ≤ ρ'.top
  ro : RO.Le ρ.ro ρ'.ro
  tv : ∀ i, i < ρ.top → ρ'.tv i = ρ.tv i
/-- What is placed stays, but for slices that are no more. -/
def Ext (ρ ρ' : Pl) : Prop := ExtB ρ ρ' ∧ ∀ i, i < ρ.top → ρ' i = ρ i ∨ (ρ' i = Option.none ∧ ∃ v, ρ.tv i = some v)
theorem Pl.pin_f {ρ : Pl} {i n : Nat} (h : ρ.pin i = some n) : ρ i = some n ∧ ρ.tv i = Option.none := by
  unfold Pl.pin at h
  split at h
  · cases h
  · rename_i e
    exact ⟨h, e⟩
theorem Pl.pin_of {ρ : Pl} {i n : Nat} (h : ρ i = some n) (ht : ρ.tv i = Option.none) : ρ.pin i = some n := by
  unfold Pl.pin
  rw [ht]
  exact h
theorem Pl.tv_over {ρ : Pl} {i : Nat} (h : ρ.top ≤ i) : ρ.tv i = Option.none := by
  cases e : ρ.tv i with
  | none => rfl
  | some v => exact absurd (ρ.twf i v e) (by omega)
theorem Ext.at {ρ ρ' : Pl} (h : Ext ρ ρ') (i n : Nat) (hi : ρ.pin i = some n) : ρ'.pin i = some n := by
  obtain ⟨h1, h2⟩ := Pl.pin_f hi
  have hlt := ρ.wf i n h1
  refine Pl.pin_of ?_ ((h.1.tv i hlt).trans h2)
  rcases h.2 i hlt with e | ⟨_, v, e⟩
  · rw [e]; exact h1
  · rw [h2] at e; cases e
theorem Ext.tvAt {ρ ρ' : Pl} (h : Ext ρ ρ') {i : Nat} {v : Value} (hi : ρ.tv i = some v) : ρ'.tv i = some v := (h.1.tv i (ρ.twf i v hi)).trans hi
theorem Ext.back {ρ ρ' : Pl} (h : Ext ρ ρ') {i n : Nat} (hi : i < ρ.top) (hn : ρ' i = some n) : ρ i = some n := by
  rcases h.2 i hi with e | ⟨e, _⟩
  · rw [← e]; exact hn
  · rw [e] at hn; cases hn
theorem Ext.refl (ρ : Pl) : Ext ρ ρ := ⟨⟨Nat.le_refl _, RO.Le.refl _, fun _ _ => rfl⟩, fun _ _ => .inl rfl⟩
theorem Ext.trans {a b c : Pl} (h : Ext a b) (k : Ext b c) : Ext a c := ⟨⟨Nat.le_trans h.1.top k.1.top, h.1.ro.trans k.1.ro, fun i hi => (k.1.tv i (Nat.lt_of_lt_of_le hi h.1.top)).trans (h.1.tv i hi)⟩, fun i hi => by
  have hi2 := Nat.lt_of_lt_of_le hi h.1.top
  rcases k.2 i hi2 with e | ⟨e, v, e2⟩
  · rcases h.2 i hi with e3 | ⟨e3, v, e4⟩
    · exact .inl (e.trans e3)
    · exact .inr ⟨e.trans e3, v, e4⟩
  · exact .inr ⟨e, v, (h.1.tv i hi).symm.trans e2⟩⟩
theorem Pl.at (ρ : Pl) (i n : Nat) : ρ.put i n i = some n := if_pos rfl
theorem Pl.off (ρ : Pl) {i j : Nat} (n : Nat) (h : j ≠ i) : ρ.put i n j = ρ j := if_neg h
theorem Pl.over {ρ : Pl} {i : Nat} (h : ρ.top ≤ i) : ρ i = Option.none := by
  cases e : ρ i with
  | none => rfl
  | some n => exact absurd (ρ.wf i n e) (by omega)
theorem Pl.at_pin (ρ : Pl) {i : Nat} (n : Nat) (h : ρ.top = i) : (ρ.put i n).pin i = some n := Pl.pin_of (Pl.at _ _ _) (Pl.tv_over (ρ := ρ) (by omega))
theorem Ext.snoc {ρ : Pl} {i : Nat} (n : Nat) (h : ρ.top = i) : Ext ρ (ρ.put i n) := ⟨⟨by show ρ.top ≤ max ρ.top (i + 1); omega, RO.Le.refl _, fun _ _ => rfl⟩, fun j hj => .inl (Pl.off _ _ (by omega))⟩
mutual
theorem AV.rel_mono {ρ ρ' : Pl} (h : Ext ρ ρ') : ∀ (a : AV) {v : Value}, a.rel ρ v → a.rel ρ' v
  | .bool _, _, x => x
  | .int _ _, _, x => x
  | .str _, _, x => x
  | .ptr _ _, _, ⟨n, hn, e⟩ => ⟨n, h.at _ _ hn, e⟩
  | .nilPtr, _, x => x
  | .sl _ _ _ _, _, ⟨n, hn, e⟩ => ⟨n, h.at _ _ hn, e⟩
  | .nilSl, _, x => x
  | .fn _ first capt, _, ⟨xs, ys, hx, hy, e⟩ => ⟨xs, ys, AV.relL_mono h first hx, AV.relL_mono h capt hy, e⟩
  | .yld _, _, ⟨n, hn, e⟩ => ⟨n, h.at _ _ hn, e⟩
  | .nilFn, _, x => x
  | .iface _ a, _, ⟨x, hx, e⟩ => ⟨x, AV.rel_mono h a hx, e⟩
  | .nilIface, _, x => x
  | .agg l, _, ⟨xs, hx, e⟩ => ⟨xs, AV.relL_mono h l hx, e⟩
  | .tup l, _, ⟨xs, hx, e⟩ => ⟨xs, AV.relL_mono h l hx, e⟩
  | .lst i t l lo, _, x => by
    unfold AV.rel at x ⊢
    rcases x with ⟨a, h1, h2⟩ | ⟨n, o, len, cap, cs, ty, fz, xs, h1, h2, h3, h4, h5, h6, h7, h8⟩
    · exact .inl ⟨a, (by rw [h.1.ro.hd]; exact h1), h2⟩
    · exact .inr ⟨n, o, len, cap, cs, ty, fz, xs, (by rw [h.1.ro.hd]; exact h1), h2, h3, h4, h5, h.1.ro.obj _ _ h6, AllR.imp (RelT.mono h.1.ro.obj t) h7, h8⟩
  | .lpt i t l lo j f, _, x => by
    unfold AV.rel at x ⊢
    obtain ⟨h0, n, o, len, cap, cs, ty, fz, xs, h1, h2, h3, h4, h5⟩ := x
    exact ⟨h0, n, o, len, cap, cs, ty, fz, xs, (by rw [h.1.ro.hd]; exact h1), h2, h.1.ro.obj _ _ h3, AllR.imp (RelT.mono h.1.ro.obj t) h4, h5⟩
  | .rpt t l j f, _, x => by
    unfold AV.rel at x ⊢
    obtain ⟨h0, n, o, cs, ty, fz, xs, h2, h3, h4, h5⟩ := x
    exact ⟨h0, n, o, cs, ty, fz, xs, h2, h.1.ro.obj _ _ h3, AllR.imp (RelT.mono h.1.ro.obj t) h4, h5⟩
  | .ro t l, _, x => by
    unfold AV.rel at x ⊢
    exact SlR.imp (RelT.mono h.1.ro.obj t) h.1.ro.obj x
  | .own _, _, ⟨x, y⟩ => ⟨h.tvAt x, y⟩
  | .pre _ _, _, ⟨x, y⟩ => ⟨x, y.elim (fun ⟨a, b⟩ => .inl ⟨h.tvAt a, b⟩) (fun ⟨n, o, len, cap, a, b⟩ => .inr ⟨n, o, len, cap, h.tvAt a, b⟩)⟩
  | .vw _ _ _ _, _, ⟨x, x2, y⟩ => ⟨x, x2, y.elim (fun ⟨a, b⟩ => .inl ⟨h.tvAt a, b⟩) (fun ⟨n, o, len, cap, a, b⟩ => .inr ⟨n, o, len, cap, h.tvAt a, b⟩)⟩
  | .ept _ _ _ _, _, ⟨n, o, len, cap, x, y⟩ => ⟨n, o, len, cap, h.tvAt x, y⟩
theorem AV.relL_mono {ρ ρ' : Pl} (h : Ext ρ ρ') : ∀ (l : List AV) {vs : List Value}, AV.relL ρ l vs → AV.relL ρ' l vs
  | [], _, x => x
  | a :: l, _, ⟨x, xs, hx, hl, e⟩ => ⟨x, xs, AV.rel_mono h a hx, AV.relL_mono h l hl, e⟩
end
mutual
theorem AV.rel_uniq {ρ : Pl} : ∀ (a : AV) {v v' : Value}, a.uq = true → a.rel ρ v → a.rel ρ v' → v = v'
  | .bool _, _, _, _, x, y => x.trans y.symm
  | .int _ _, _, _, _, x, y => x.trans y.symm
  | .str _, _, _, _, x, y => x.trans y.symm
  | .ptr _ _, _, _, _, ⟨n, hn, e⟩, ⟨m, hm, f⟩ => by rw [hn] at hm; cases hm; rw [e, f]
  | .nilPtr, _, _, _, x, y => x.trans y.symm
  | .sl _ _ _ _, _, _, _, ⟨n, hn, e⟩, ⟨m, hm, f⟩ => by rw [hn] at hm; cases hm; rw [e, f]
  | .nilSl, _, _, _, x, y => x.trans y.symm
  | .fn _ first capt, _, _, hq, ⟨xs, ys, hx, hy, e⟩, ⟨xs', ys', hx', hy', f⟩ => by
    simp only [AV.uq, Bool.and_eq_true] at hq
    rw [e, f, AV.relL_uniq first hq.1 hx hx', AV.relL_uniq capt hq.2 hy hy']
  | .yld _, _, _, _, ⟨n, hn, e⟩, ⟨m, hm, f⟩ => by rw [hn] at hm; cases hm; rw [e, f]
  | .nilFn, _, _, _, x, y => x.trans y.symm
  | .iface _ a, _, _, hq, ⟨x, hx, e⟩, ⟨y, hy, f⟩ => by rw [e, f, AV.rel_uniq a hq hx hy]
  | .nilIface, _, _, _, x, y => x.trans y.symm
  | .agg l, _, _, hq, ⟨xs, hx, e⟩, ⟨ys, hy, f⟩ => by rw [e, f, AV.relL_uniq l hq hx hy]
  | .tup l, _, _, hq, ⟨xs, hx, e⟩, ⟨ys, hy, f⟩ => by rw [e, f, AV.relL_uniq l hq hx hy]
  | .lst _ _ _ lo, _, _, _, x, y => by
    unfold AV.rel at x y
    have mix : ∀ {a : Option Addr} {n o len cap k s : Nat} {v v' : Value}, (some (Value.slice a 0 0) = some (.slice (some ⟨n, o, none⟩) len cap)) → v = .slice a 0 0 → v' = subV n o s k cap lo → lo.getD 0 + k ≤ len → v = v' := by
      intro a n o len cap k s v v' e h1 h2 h3
      cases e
      have hk : k = 0 := by omega
      subst hk
      rw [h1, h2]
      cases lo with
      | none => rfl
      | some j =>
        simp only [Option.getD_some] at h3
        have : j = 0 := by omega
        subst this
        rfl
    rcases x with ⟨a, x1, _, x2⟩ | ⟨n, o, len, cap, cs, ty, fz, xs, x1, x2, x3, _⟩ <;> rcases y with ⟨b, y1, _, y2⟩ | ⟨n', o', len', cap', cs', ty', fz', xs', y1, y2, y3, _⟩
    · rw [x1] at y1
      cases y1
      rw [x2, y2]
    · rw [x1] at y1
      exact mix y1 x2 y2 y3
    · rw [y1] at x1
      exact (mix x1 y2 x2 x3).symm
    · rw [x1] at y1
      cases y1
      rw [x2, y2]
  | .lpt _ _ _ _ _ _, _, _, _, x, y => by
    unfold AV.rel at x y
    obtain ⟨_, n, o, len, cap, cs, ty, fz, xs, x1, x2, _⟩ := x
    obtain ⟨_, n', o', len', cap', cs', ty', fz', xs', y1, y2, _⟩ := y
    rw [x1] at y1
    cases y1
    rw [x2, y2]
  | .rpt _ _ _ _, _, _, hq, _, _ => by cases hq
  | .ro _ _, _, _, hq, _, _ => by cases hq
  | .own _, _, _, _, ⟨x, _⟩, ⟨y, _⟩ => by rw [x] at y; cases y; rfl
  | .pre _ _, _, _, _, x, y => by
    unfold AV.rel at x y
    rcases x with ⟨_, ⟨x1, _, x2⟩ | ⟨n, o, len, cap, x1, _, _, x2⟩⟩ <;> rcases y with ⟨_, ⟨y1, _, y2⟩ | ⟨n', o', len', cap', y1, _, _, y2⟩⟩ <;> rw [x1] at y1 <;> cases y1 <;> rw [x2, y2]
  | .vw _ _ _ _, _, _, _, x, y => by
    unfold AV.rel at x y
    rcases x with ⟨_, _, ⟨x1, _, x2⟩ | ⟨n, o, len, cap, x1, _, _, x2⟩⟩ <;> rcases y with ⟨_, _, ⟨y1, _, y2⟩ | ⟨n', o', len', cap', y1, _, _, y2⟩⟩ <;> rw [x1] at y1 <;> cases y1 <;> rw [x2, y2]
  | .ept _ _ _ _, _, _, _, x, y => by
    unfold AV.rel at x y
    obtain ⟨n, o, len, cap, x1, _, x2⟩ := x
    obtain ⟨n', o', len', cap', y1, _, y2⟩ := y
    rw [x1] at y1
    cases y1
    rw [x2, y2]
theorem AV.relL_uniq {ρ : Pl} : ∀ (l : List AV) {vs vs' : List Value}, AV.uqL l = true → AV.relL ρ l vs → AV.relL ρ l vs' → vs = vs'
  | [], _, _, _, x, y => x.trans y.symm
  | a :: l, _, _, hq, ⟨x, xs, hx, hl, e⟩, ⟨y, ys, hy, hm, f⟩ => by
    simp only [AV.uqL, Bool.and_eq_true] at hq
    rw [e, f, AV.rel_uniq a hq.1 hx hy, AV.relL_uniq l hq.2 hl hm]
end
mutual
theorem AV.flat_uq : ∀ (a : AV), a.flat = true → a.uq = true
  | .bool _, _ => rfl
  | .int _ _, _ => rfl
  | .str _, _ => rfl
  | .nilPtr, _ => rfl
  | .nilSl, _ => rfl
  | .nilFn, _ => rfl
  | .nilIface, _ => rfl
  | .agg l, h => AV.flatL_uq l h
  | .tup l, h => AV.flatL_uq l h
  | .ptr _ _, h => by cases h
  | .sl _ _ _ _, h => by cases h
  | .fn _ _ _, h => by cases h
  | .yld _, h => by cases h
  | .iface _ _, h => by cases h
  | .lst _ _ _ _, h => by cases h
  | .lpt _ _ _ _ _ _, h => by cases h
  | .rpt _ _ _ _, h => by cases h
  | .ro _ _, h => by cases h
  | .own _, h => by cases h
  | .pre _ _, h => by cases h
  | .vw _ _ _ _, h => by cases h
  | .ept _ _ _ _, h => by cases h
theorem AV.flatL_uq : ∀ (l : List AV), AV.flatL l = true → AV.uqL l = true
  | [], _ => rfl
  | a :: l, h => by
    simp only [AV.flatL, Bool.and_eq_true] at h
    simp only [AV.uqL, Bool.and_eq_true]
    exact ⟨AV.flat_uq a h.1, AV.flatL_uq l h.2⟩
end
mutual
theorem AV.flat_rel {ρ : Pl} : ∀ (a : AV), a.flat = true → a.rel ρ a.toV
  | .bool _, _ => rfl
  | .int _ _, _ => rfl
  | .str _, _ => rfl
  | .nilPtr, _ => rfl
  | .nilSl, _ => rfl
  | .nilFn, _ => rfl
  | .nilIface, _ => rfl
  | .agg l, h => ⟨_, AV.flatL_rel l h, rfl⟩
  | .tup l, h => ⟨_, AV.flatL_rel l h, rfl⟩
  | .ptr _ _, h => by cases h
  | .sl _ _ _ _, h => by cases h
  | .fn _ _ _, h => by cases h
  | .yld _, h => by cases h
  | .iface _ _, h => by cases h
  | .lst _ _ _ _, h => by cases h
  | .lpt _ _ _ _ _ _, h => by cases h
  | .rpt _ _ _ _, h => by cases h
  | .ro _ _, h => by cases h
  | .own _, h => by cases h
  | .pre _ _, h => by cases h
  | .vw _ _ _ _, h => by cases h
  | .ept _ _ _ _, h => by cases h
theorem AV.flatL_rel {ρ : Pl} : ∀ (l : List AV), AV.flatL l = true → AV.relL ρ l (AV.toVL l)
  | [], _ => rfl
  | a :: l, h => by
    simp only [AV.flatL, Bool.and_eq_true] at h
    exact ⟨_, _, AV.flat_rel a h.1, AV.flatL_rel l h.2, rfl⟩
end
theorem nth_eq {α : Type} : ∀ (l : List α) (i : Nat), nth l i = l[i]?
  | [], i => by simp [nth]
  | a :: l, 0 => rfl
  | a :: l, i + 1 => by simp [nth, nth_eq l i]
theorem relL_len {ρ : Pl} : ∀ {l : List AV} {vs : List Value}, AV.relL ρ l vs → vs.length = l.length
  | [], _, h => by rw [show _ = [] from h]; rfl
  | a :: l, _, ⟨x, xs, _, hl, e⟩ => by rw [e]; simp [relL_len hl]
theorem relL_nth {ρ : Pl} : ∀ {l : List AV} {vs : List Value} (i : Nat) {a : AV}, AV.relL ρ l vs → nth l i = some a → ∃ v, vs[i]? = some v ∧ a.rel ρ v
  | a :: l, _, 0, _, ⟨x, xs, hx, _, e⟩, h => by
    cases h
    exact ⟨x, by rw [e]; rfl, hx⟩
  | a :: l, _, i + 1, _, ⟨x, xs, _, hl, e⟩, h => by
    obtain ⟨v, hv, hr⟩ := relL_nth i hl h
    exact ⟨v, by rw [e]; simpa using hv, hr⟩
theorem relL_drop {ρ : Pl} : ∀ (o : Nat) {l : List AV} {vs : List Value}, AV.relL ρ l vs → AV.relL ρ (l.drop o) (vs.drop o)
  | 0, _, _, h => h
  | o + 1, [], _, h => by rw [show _ = [] from h]; exact rfl
  | o + 1, a :: l, _, ⟨x, xs, _, hl, e⟩ => by rw [e]; exact relL_drop o hl
theorem relL_take {ρ : Pl} : ∀ (o : Nat) {l : List AV} {vs : List Value}, AV.relL ρ l vs → AV.relL ρ (l.take o) (vs.take o)
  | 0, _, _, _ => rfl
  | o + 1, [], _, h => by rw [show _ = [] from h]; exact rfl
  | o + 1, a :: l, _, ⟨x, xs, hx, hl, e⟩ => by rw [e]; exact ⟨x, _, hx, relL_take o hl, rfl⟩
theorem relL_append {ρ : Pl} : ∀ {l m : List AV} {vs ws : List Value}, AV.relL ρ l vs → AV.relL ρ m ws → AV.relL ρ (l ++ m) (vs ++ ws)
  | [], _, _, _, h, k => by rw [show _ = [] from h]; exact k
  | a :: l, _, _, _, ⟨x, xs, hx, hl, e⟩, k => by rw [e]; exact ⟨x, _, hx, relL_append hl k, rfl⟩
theorem relL_one {ρ : Pl} {a : AV} {v : Value} (h : a.rel ρ v) : AV.relL ρ [a] [v] := ⟨v, [], h, rfl, rfl⟩
theorem relL_rep {ρ : Pl} {l : List AV} {vs : List Value} (h : AV.relL ρ l vs) : ∀ n, AV.relL ρ (rep l n) (rep vs n)
  | 0 => rfl
  | n + 1 => relL_append h (relL_rep h n)
/-- What is put at o. -/
theorem relL_putAt {ρ : Pl} : ∀ (l : List AV) (o : Nat) (as : List AV) {vs xs : List Value}, AV.relL ρ l vs → AV.relL ρ as xs → o + as.length ≤ l.length →
    AV.relL ρ (putAt l o as) (vs.take o ++ xs ++ vs.drop (o + xs.length))
  | l, o, [], vs, xs, h, hx, _ => by
    rw [show xs = [] from hx]
    cases l <;> simpa [putAt] using h
  | [], o, a :: as, vs, xs, h, hx, hl => by simp at hl
  | b :: l, o + 1, a :: as, vs, xs, ⟨y, ys, hy, hl, e⟩, hx, hle => by
    subst e
    have h1 : xs.length = as.length + 1 := by rw [relL_len hx]; rfl
    have := relL_putAt l o (a :: as) hl hx (by simp at hle ⊢; omega)
    refine ⟨y, _, hy, this, ?_⟩
    rw [show o + 1 + xs.length = (o + xs.length) + 1 from by omega]
    simp
  | b :: l, 0, a :: as, vs, xs, ⟨y, ys, hy, hl, e⟩, ⟨x, xs', hx, hxs, e'⟩, hle => by
    subst e e'
    have := relL_putAt l 0 as hl hxs (by simp at hle ⊢; omega)
    refine ⟨x, _, hx, this, ?_⟩
    simp
theorem ofV1_ok {ρ : Pl} {v : Value} {a : AV} (h : ofV1 v = some a) : a.rel ρ v := by
  unfold ofV1 at h
  split at h <;> first | (cases h; rfl) | (cases h; done) | skip
  split at h <;> first | (cases h; rfl) | cases h
theorem ofVL_ok {ρ : Pl} : ∀ {vs : List Value} {l : List AV}, ofVL vs = some l → AV.relL ρ l vs
  | [], _, h => by cases h; rfl
  | v :: vs, _, h => by
    unfold ofVL at h
    split at h
    · cases h
      exact ⟨v, vs, ofV1_ok ‹_›, ofVL_ok ‹_›, rfl⟩
    · cases h
theorem ofV_ok {ρ : Pl} {v : Value} {a : AV} (h : ofV v = some a) : a.rel ρ v := by
  unfold ofV at h
  split at h
  · split at h
    · cases h
      exact ⟨_, ofVL_ok ‹_›, by simp⟩
    · cases h
  · split at h
    · cases h
      exact ⟨_, ofVL_ok ‹_›, by simp⟩
    · cases h
  · exact ofV1_ok h
/-- A frame's slots. -/
def SRel (ρ : Pl) (sz : Nat) (slots : List (Nat × AV)) (tmps : Array Value) : Prop :=
  tmps.size = sz ∧ ∀ t v, look slots t = some v → ∃ x, v.rel ρ x ∧ tmps[t]? = some x
theorem SRel.mono {ρ ρ' : Pl} {sz : Nat} {slots : List (Nat × AV)} {tmps : Array Value} (h : SRel ρ sz slots tmps) (k : Ext ρ ρ') : SRel ρ' sz slots tmps :=
  ⟨h.1, fun t v hv => let ⟨x, hx, e⟩ := h.2 t v hv; ⟨x, AV.rel_mono k v hx, e⟩⟩

theorem look_cons.{u} {α : Type u} (t u : Nat) (v : α) (l : List (Nat × α)) : look ((t, v) :: l) u = if t = u then some v else look l u := by
  by_cases h : t = u
  · subst h; simp [look]
  · rw [if_neg h]
    have : Nat.beq t u = false := by
      cases hb : Nat.beq t u
      · rfl
      · exact absurd (Nat.eq_of_beq_eq_true hb) h
    show (match Nat.beq t u with | true => some v | false => look l u) = look l u
    rw [this]
theorem SRel.put {ρ : Pl} {sz : Nat} {slots : List (Nat × AV)} {tmps : Array Value} (h : SRel ρ sz slots tmps) {t : Nat} {v : AV} {x : Value} (ht : t < sz) (hx : v.rel ρ x) : SRel ρ sz ((t, v) :: slots) (tmps.setIfInBounds t x) := by
  refine ⟨by simp [h.1], fun u y hy => ?_⟩
  rw [look_cons] at hy
  by_cases e : t = u
  · subst e
    rw [if_pos rfl] at hy
    cases hy
    exact ⟨x, hx, by simp [h.1, ht]⟩
  · rw [if_neg e] at hy
    obtain ⟨z, hz, hz'⟩ := h.2 u y hy
    exact ⟨z, hz, by rw [Array.getElem?_setIfInBounds_ne e]; exact hz'⟩
/-- A slot that is out of bounds is not written. -/
theorem SRel.skip {ρ : Pl} {sz : Nat} {slots : List (Nat × AV)} {tmps : Array Value} (h : SRel ρ sz slots tmps) {t : Nat} {x : Value} (ht : ¬ t < sz) : tmps.setIfInBounds t x = tmps := by
  unfold Array.setIfInBounds
  rw [dif_neg (by rw [h.1]; exact ht)]
def AB.rel (ρ : Pl) : AB → Obj → Prop
  | .cells t l, o => ∃ xs, AV.relL ρ l xs ∧ o = .cells xs.toArray t (0, 0)
  | .vec _ _ _ _ _, _ => False
  | .loop _ st pe sz slots ps assign body d, o => ∃ fn tmps dn, ρ.pin d = some dn ∧ SRel ρ sz slots tmps ∧ o = .loop { state := st, pending := pe, fn := fn, tmps := tmps, params := ps, assign := assign, body := body, defers := dn }
  | .mark, o => o = .deferred (some [])
  | .dead, _ => True
theorem AB.rel_mono {ρ ρ' : Pl} (h : Ext ρ ρ') : ∀ {b : AB} {o : Obj}, b.rel ρ o → b.rel ρ' o
  | .cells t l, _, ⟨xs, hx, e⟩ => ⟨xs, AV.relL_mono h l hx, e⟩
  | .loop .., _, ⟨fn, tmps, dn, hd, hs, e⟩ => ⟨fn, tmps, dn, h.at _ _ hd, hs.mono h, e⟩
  | .mark, _, e => e
  | .dead, _, _ => trivial
  | .vec .., _, h => h.elim
/-- What a block's number stands for: a block; or a slice's row, if it has one. -/
def Held (ρ : Pl) (w : World) (i : Nat) : AB → Prop
  | .vec e t z n l => n.v = (l.length : Int) ∧ ((ρ.tv i = some (.slice none 0 0) ∧ l = []) ∨ ∃ g off cap cur xs, ρ i = some g ∧ ρ.tv i = some (.slice (some ⟨g, off, none⟩) l.length cap) ∧ w.heap[g]? = some (.cells cur e (0, 0)) ∧ (z = true → off = 0 ∧ cur.size = cap * t.size) ∧
      l.length ≤ cap ∧ cap ≤ maxLen ∧ AllR (RelT ρ.ro.obj t) l xs ∧ xs.length = l.length * t.size ∧ (cur.toList.drop off).take (l.length * t.size) = xs)
  | b => ∃ n o, ρ i = some n ∧ w.heap[n]? = some o ∧ b.rel ρ o
theorem Held.of {ρ : Pl} {w : World} {i n : Nat} {o : Obj} : ∀ {b : AB}, ρ i = some n → w.heap[n]? = some o → b.rel ρ o → Held ρ w i b
  | .cells .., h1, h2, h3 => ⟨n, o, h1, h2, h3⟩
  | .loop .., h1, h2, h3 => ⟨n, o, h1, h2, h3⟩
  | .mark, h1, h2, h3 => ⟨n, o, h1, h2, h3⟩
  | .dead, h1, h2, h3 => ⟨n, o, h1, h2, h3⟩
  | .vec .., _, _, h => h.elim
/-- .. elsewhere, where its place is the same and its block. -/
theorem Held.move {ρ ρ' : Pl} {w w' : World} {i : Nat} {b : AB} (h : Held ρ w i b) (hr : ∀ o, b.rel ρ o → b.rel ρ' o) (ht : ∀ v, ρ.tv i = some v → ρ'.tv i = some v) (hro : ∀ n o, ρ.ro.obj n = some o → ρ'.ro.obj n = some o) (hRT : ∀ (t : Ty) x vs, RelT ρ.ro.obj t x vs → RelT ρ'.ro.obj t x vs)
    (hf : ∀ n, ρ i = some n → ρ' i = some n) (hw : ∀ n, ρ i = some n → w'.heap[n]? = w.heap[n]?) : Held ρ' w' i b := by
  have hall : ∀ {t : Ty} {l : List t.El} {xs : List Value}, AllR (RelT ρ.ro.obj t) l xs → AllR (RelT ρ'.ro.obj t) l xs := by
    intro t l
    induction l with
    | nil => intro xs h; exact h
    | cons x l ih =>
      rintro xs ⟨u, v, h1, h2, e⟩
      exact ⟨u, v, hRT t x u h1, ih h2, e⟩
  cases b with
  | vec e t z n l =>
    obtain ⟨hn, h⟩ := h
    refine ⟨hn, ?_⟩
    rcases h with ⟨h1, h2⟩ | ⟨g, off, cap, cur, xs, h1, h2, h3, h4, h5, h6, h7, h8, h9⟩
    · exact .inl ⟨ht _ h1, h2⟩
    · exact .inr ⟨g, off, cap, cur, xs, hf _ h1, ht _ h2, (hw g h1).trans h3, h4, h5, h6, hall h7, h8, h9⟩
  | _ =>
    obtain ⟨n, o, h1, h2, h3⟩ := h
    exact ⟨n, o, hf _ h1, (hw n h1).trans h2, hr o h3⟩
theorem Held.mono {ρ ρ' : Pl} {w w' : World} {i : Nat} {b : AB} (h : Held ρ w i b) (he : Ext ρ ρ') (hf : ∀ n, ρ i = some n → ρ' i = some n) (hw : ∀ n, ρ i = some n → w'.heap[n]? = w.heap[n]?) : Held ρ' w' i b :=
  h.move (fun o => AB.rel_mono he) (fun v => he.tvAt) he.1.ro.obj (RelT.mono he.1.ro.obj) hf hw
structure HRel (ρ : Pl) (H : Heap) (hn : Nat) (w : World) : Prop where
  len : ρ.top = hn
  inj : ∀ (i j n : Nat), ρ i = some n → ρ j = some n → i = j
  lt : ∀ (i n : Nat), ρ i = some n → n < w.heap.size
  ro : ∀ n o, ρ.ro.obj n = some o → w.heap[n]? = some o ∧ ∀ j, ρ j ≠ some n
  obj : ∀ i b, look H i = some b → Held ρ w i b
/- elements -/
theorem AllR.append {α : Type} {R : α → List Value → Prop} : ∀ {l m : List α} {xs ys : List Value}, AllR R l xs → AllR R m ys → AllR R (l ++ m) (xs ++ ys)
  | [], _, _, _, h, k => by rw [show _ = [] from h]; exact k
  | x :: l, m, _, _, ⟨u, w, h1, h2, e⟩, k => ⟨u, _, h1, AllR.append h2 k, by rw [e, List.append_assoc]⟩
theorem AllR.len {α : Type} {R : α → List Value → Prop} {s : Nat} (hs : ∀ x vs, R x vs → vs.length = s) : ∀ {l : List α} {xs : List Value}, AllR R l xs → xs.length = l.length * s
  | [], _, h => by rw [show _ = [] from h]; simp
  | x :: l, _, ⟨u, w, h1, h2, e⟩ => by
    rw [e, List.length_append, hs x u h1, AllR.len hs h2, List.length_cons, Nat.add_mul]
    omega
theorem AllR.take {α : Type} {R : α → List Value → Prop} {s : Nat} (hs : ∀ x vs, R x vs → vs.length = s) : ∀ (n : Nat) {l : List α} {xs : List Value}, AllR R l xs → AllR R (l.take n) (xs.take (n * s))
  | 0, _, _, _ => by simp [AllR]
  | n + 1, [], _, h => by rw [show _ = [] from h]; simp [AllR]
  | n + 1, x :: l, _, ⟨u, w, h1, h2, e⟩ => by
    refine ⟨u, w.take (n * s), h1, AllR.take hs n h2, ?_⟩
    have hu := hs x u h1
    rw [e, List.take_append, hu, Nat.add_mul, Nat.one_mul, List.take_of_length_le (by omega), Nat.add_sub_cancel]
theorem AllR.drop {α : Type} {R : α → List Value → Prop} {s : Nat} (hs : ∀ x vs, R x vs → vs.length = s) : ∀ (n : Nat) {l : List α} {xs : List Value}, AllR R l xs → AllR R (l.drop n) (xs.drop (n * s))
  | 0, _, _, h => by simpa using h
  | n + 1, [], _, h => by rw [show _ = [] from h]; simp [AllR]
  | n + 1, x :: l, _, ⟨u, w, h1, h2, e⟩ => by
    have hu := hs x u h1
    have h3 := AllR.drop hs n h2
    rw [e, List.drop_append, hu, Nat.add_mul, Nat.one_mul, show u.drop (n * s + s) = [] from List.drop_of_length_le (by omega), Nat.add_sub_cancel, List.nil_append]
    exact h3
theorem AllR.get {α : Type} {R : α → List Value → Prop} {s : Nat} (hs : ∀ x vs, R x vs → vs.length = s) : ∀ {l : List α} {xs : List Value} {j : Nat} (hj : j < l.length), AllR R l xs → R l[j] ((xs.drop (j * s)).take s)
  | [], _, j, hj, _ => by simp at hj
  | x :: l, _, 0, _, ⟨u, w, h1, h2, e⟩ => by
    have hu := hs x u h1
    rw [e, Nat.zero_mul, List.drop_zero, List.take_append, hu, Nat.sub_self, List.take_zero, List.append_nil, List.take_of_length_le (by omega)]
    exact h1
  | x :: l, _, j + 1, hj, ⟨u, w, h1, h2, e⟩ => by
    have hu := hs x u h1
    have := AllR.get hs (j := j) (by simpa using hj) h2
    rw [e, List.drop_append, hu, Nat.add_mul, Nat.one_mul, List.drop_of_length_le (by omega), Nat.add_sub_cancel, List.nil_append]
    exact this
theorem AllR.set {α : Type} {R : α → List Value → Prop} {s : Nat} (hs : ∀ x vs, R x vs → vs.length = s) {y : α} {ys : List Value} (hy : R y ys) : ∀ {l : List α} {xs : List Value} {j : Nat}, j < l.length → AllR R l xs → AllR R (l.set j y) (xs.take (j * s) ++ ys ++ xs.drop (j * s + s))
  | [], _, j, hj, _ => by simp at hj
  | x :: l, _, 0, _, ⟨u, w, h1, h2, e⟩ => by
    have hu := hs x u h1
    refine ⟨ys, w, hy, h2, ?_⟩
    rw [e, Nat.zero_mul, Nat.zero_add, List.take_zero, List.nil_append, List.drop_append, hu, Nat.sub_self, List.drop_of_length_le (by omega)]
    simp
  | x :: l, _, j + 1, hj, ⟨u, w, h1, h2, e⟩ => by
    have hu := hs x u h1
    refine ⟨u, _, h1, AllR.set hs hy (j := j) (by simpa using hj) h2, ?_⟩
    rw [e, Nat.add_mul, Nat.one_mul, List.take_append, hu, List.take_of_length_le (by omega), Nat.add_sub_cancel, List.drop_append, hu, List.drop_of_length_le (by omega), List.nil_append, show j * s + s + s - s = j * s + s from by omega]
    simp
theorem RelT.len {ob : Nat → Option Obj} : ∀ (t : Ty) (x : t.El) (vs : List Value), RelT ob t x vs → vs.length = t.size
  | .int _, _, _, h => by rw [show _ = _ from h]; rfl
  | .bool, _, _, h => by rw [show _ = _ from h]; rfl
  | .str, _, _, h => by rw [show _ = _ from h]; rfl
  | .unit, _, _, h => by rw [show _ = _ from h]; rfl
  | .pair a b, x, _, ⟨u, w, h1, h2, e⟩ => by rw [e, List.length_append, RelT.len a _ _ h1, RelT.len b _ _ h2]; rfl
  | .sl t, _, _, ⟨v, e, _⟩ => by rw [e]; rfl
theorem relT_avs {ρ : Pl} : ∀ (t : Ty) (x : t.El) (vs : List Value), RelT ρ.ro.obj t x vs → AV.relL ρ (t.avs x) vs
  | .int _, _, _, h => by rw [show _ = _ from h]; exact relL_one (a := .int _ _) rfl
  | .bool, _, _, h => by rw [show _ = _ from h]; exact relL_one (a := .bool _) rfl
  | .str, _, _, h => by rw [show _ = _ from h]; exact relL_one (a := .str _) rfl
  | .unit, _, _, h => h
  | .pair a b, x, _, ⟨u, w, h1, h2, e⟩ => by rw [e]; exact relL_append (relT_avs a _ _ h1) (relT_avs b _ _ h2)
  | .sl t, l, _, ⟨v, e, h⟩ => by rw [e]; exact relL_one (a := .ro t l) h
theorem avs_relT {ρ : Pl} : ∀ (t : Ty) {l r : List AV} {x : t.El} {vs : List Value}, t.ofA l = some (x, r) → AV.relL ρ l vs → ∃ u w, RelT ρ.ro.obj t x u ∧ AV.relL ρ r w ∧ vs = u ++ w
  | .int k, l, r, x, vs, h, hr => by
    unfold Ty.ofA at h
    split at h
    · rename_i k' n r'
      split at h
      · rename_i hk
        have hk := of_decide_eq_true hk
        subst hk
        cases h
        obtain ⟨v, xs, hv, hx, e⟩ := hr
        exact ⟨[v], xs, congrArg (fun z => [z]) (show v = _ from hv), hx, e⟩
      · cases h
    · cases h
  | .bool, l, r, x, vs, h, hr => by
    unfold Ty.ofA at h
    split at h
    · cases h
      obtain ⟨v, xs, hv, hx, e⟩ := hr
      exact ⟨[v], xs, congrArg (fun z => [z]) (show v = _ from hv), hx, e⟩
    · cases h
  | .str, l, r, x, vs, h, hr => by
    unfold Ty.ofA at h
    split at h
    · cases h
      obtain ⟨v, xs, hv, hx, e⟩ := hr
      exact ⟨[v], xs, congrArg (fun z => [z]) (show v = _ from hv), hx, e⟩
    · cases h
  | .unit, l, r, x, vs, h, hr => by
    unfold Ty.ofA at h
    cases h
    exact ⟨[], vs, rfl, hr, rfl⟩
  | .pair a b, l, r, x, vs, h, hr => by
    unfold Ty.ofA at h
    split at h
    · rename_i y r1 h1
      split at h
      · rename_i z r2 h2
        cases h
        obtain ⟨u, w, g1, g2, e⟩ := avs_relT a h1 hr
        obtain ⟨u2, w2, g3, g4, e2⟩ := avs_relT b h2 g2
        exact ⟨u ++ u2, w2, ⟨u, u2, g1, g3, rfl⟩, g4, by rw [e, e2, List.append_assoc]⟩
      · cases h
    · cases h
  | .sl t, l, r, x, vs, h, hr => by
    unfold Ty.ofA at h
    split at h
    · rename_i t' l' r'
      split at h
      · rename_i m hm
        cases h
        obtain ⟨e, rfl⟩ := Ty.castL_eq hm
        subst e
        obtain ⟨v, xs, hv, hx, e⟩ := hr
        exact ⟨[v], xs, ⟨v, rfl, hv⟩, hx, e⟩
      · cases h
    · cases h
      obtain ⟨v, xs, hv, hx, e⟩ := hr
      exact ⟨[v], xs, ⟨v, rfl, .inl ⟨none, hv, rfl⟩⟩, hx, e⟩
    · cases h
theorem ofAs_ok {ρ : Pl} {t : Ty} {l : List AV} {x : t.El} {vs : List Value} (h : t.ofAs l = some x) (hr : AV.relL ρ l vs) : RelT ρ.ro.obj t x vs := by
  unfold Ty.ofAs at h
  split at h
  · cases h
    obtain ⟨u, w, h1, h2, e⟩ := avs_relT t ‹_› hr
    rw [e, show w = [] from h2, List.append_nil]
    exact h1
  · cases h
theorem rows_ok {ρ : Pl} {t : Ty} : ∀ {n : Nat} {l : List AV} {m : List t.El} {vs : List Value}, t.rows n l = some m → AV.relL ρ l vs → AllR (RelT ρ.ro.obj t) m vs ∧ m.length = n
  | 0, [], m, vs, h, hr => by
    cases h
    exact ⟨hr, rfl⟩
  | 0, _ :: _, m, vs, h, hr => by cases h
  | n + 1, l, m, vs, h, hr => by
    unfold Ty.rows at h
    split at h
    · rename_i x r hx
      split at h
      · rename_i ys hy
        cases h
        obtain ⟨u, w, h1, h2, e⟩ := avs_relT t hx hr
        obtain ⟨h3, h4⟩ := rows_ok hy h2
        exact ⟨⟨u, w, h1, h3, e⟩, by simp [h4]⟩
      · cases h
    · cases h
theorem RelT.one {ob : Nat → Option Obj} : ∀ (t : Ty) (x : t.El) (vs : List Value), RelT ob t x vs → ∀ v ∈ vs, v.oneCell' = true
  | .int _, _, _, h, v, hv => by rw [show _ = _ from h] at hv; simp at hv; rw [hv]; rfl
  | .bool, _, _, h, v, hv => by rw [show _ = _ from h] at hv; simp at hv; rw [hv]; rfl
  | .str, _, _, h, v, hv => by rw [show _ = _ from h] at hv; simp at hv; rw [hv]; rfl
  | .unit, _, _, h, v, hv => by rw [show _ = _ from h] at hv; cases hv
  | .pair a b, x, _, ⟨u, w, h1, h2, e⟩, v, hv => by
    rw [e, List.mem_append] at hv
    exact hv.elim (RelT.one a _ _ h1 v) (RelT.one b _ _ h2 v)
  | .sl t, _, _, ⟨y, e, h⟩, v, hv => by
    rw [e] at hv
    simp at hv
    rw [hv]
    rcases h with ⟨_, e, _⟩ | ⟨n, o, cap, cs, ty, fz, xs, e, _⟩ <;> rw [e] <;> rfl
theorem AllR.one {ob : Nat → Option Obj} {t : Ty} : ∀ {l : List t.El} {xs : List Value}, AllR (RelT ob t) l xs → ∀ v ∈ xs, v.oneCell' = true
  | [], _, h, v, hv => by rw [show _ = [] from h] at hv; cases hv
  | x :: l, _, ⟨u, w, h1, h2, e⟩, v, hv => by
    rw [e, List.mem_append] at hv
    exact hv.elim (RelT.one t _ _ h1 v) (AllR.one h2 v)
theorem subV_sl (n o sz len cap : Nat) (lo : Option Nat) : ∃ a c, subV n o sz len cap lo = .slice (some a) len c := by
  cases lo <;> exact ⟨_, _, rfl⟩
/- operands -/
theorem ev_ok {φ : AV → Heap → Nat → Prop} {st : AS} {x : Operand} {k : AV → Tree} (h : (ev st x k).den φ) :
    ∃ av, (k av).den φ ∧ ∀ (ρ : Pl) (a : Act), SRel ρ st.sz st.slots a.tmps → ∃ v, av.rel ρ v ∧ a.eval x = v := by
  unfold ev at h
  split at h
  · split at h
    · rename_i t _ v hv
      refine ⟨_, h, fun ρ a hs => ?_⟩
      obtain ⟨x, hx, e⟩ := hs.2 _ _ hv
      exact ⟨x, hx, by simp [Act.eval, Array.getD_eq_getD_getElem?, e]⟩
    · exact h.elim
  · split at h
    · exact ⟨_, h, fun ρ a _ => ⟨_, ofV_ok ‹_›, rfl⟩⟩
    · exact h.elim
  · exact ⟨_, h, fun ρ a _ => ⟨_, ⟨[], [], rfl, rfl, rfl⟩, rfl⟩⟩
  · exact h.elim
theorem evL_ok {φ : AV → Heap → Nat → Prop} {st : AS} : ∀ {l : List Operand} {k : List AV → Tree}, (evL st l k).den φ →
    ∃ as, (k as).den φ ∧ ∀ (ρ : Pl) (a : Act), SRel ρ st.sz st.slots a.tmps → AV.relL ρ as (l.map a.eval)
  | [], k, h => ⟨[], h, fun _ _ _ => rfl⟩
  | x :: r, k, h => by
    obtain ⟨av, h, h1⟩ := ev_ok h
    obtain ⟨as, h, h2⟩ := evL_ok h
    refine ⟨av :: as, h, fun ρ a hs => ?_⟩
    obtain ⟨v, hv, e⟩ := h1 ρ a hs
    exact ⟨v, _, hv, h2 ρ a hs, by simp [e]⟩
theorem evP_ok {φ : AV → Heap → Nat → Prop} {st : AS} : ∀ {l : List (Nat × Operand)} {k : List (Nat × AV) → Tree}, (evP st l k).den φ →
    ∃ as, (k as).den φ ∧ ∀ (ρ : Pl) (a : Act), SRel ρ st.sz st.slots a.tmps → as.map (·.1) = l.map (·.1) ∧ AV.relL ρ (as.map (·.2)) (l.map fun p => a.eval p.2)
  | [], k, h => ⟨[], h, fun _ _ _ => ⟨rfl, rfl⟩⟩
  | (i, x) :: r, k, h => by
    obtain ⟨av, h, h1⟩ := ev_ok h
    obtain ⟨as, h, h2⟩ := evP_ok h
    refine ⟨(i, av) :: as, h, fun ρ a hs => ?_⟩
    obtain ⟨v, hv, e⟩ := h1 ρ a hs
    exact ⟨by simp [(h2 ρ a hs).1], v, _, hv, (h2 ρ a hs).2, by simp [e]⟩
theorem cellsOf_rel {ρ : Pl} : ∀ {a : AV} {v : Value}, a.rel ρ v → AV.relL ρ (cellsOf a) v.cells.toList
  | .agg l, _, ⟨xs, hx, e⟩ => by rw [e]; simpa [cellsOf, Value.cells] using hx
  | .bool _, _, e => by rw [show _ = _ from e]; exact relL_one (a := .bool _) rfl
  | .int _ _, _, e => by rw [show _ = _ from e]; exact relL_one (a := .int _ _) rfl
  | .str _, _, e => by rw [show _ = _ from e]; exact relL_one (a := .str _) rfl
  | .ptr _ _, _, ⟨n, hn, e⟩ => by rw [e]; exact relL_one (a := .ptr _ _) ⟨n, hn, rfl⟩
  | .nilPtr, _, e => by rw [show _ = _ from e]; exact relL_one (a := .nilPtr) rfl
  | .sl _ _ _ _, _, ⟨n, hn, e⟩ => by rw [e]; exact relL_one (a := .sl _ _ _ _) ⟨n, hn, rfl⟩
  | .nilSl, _, e => by rw [show _ = _ from e]; exact relL_one (a := .nilSl) rfl
  | .fn _ _ _, _, ⟨xs, ys, hx, hy, e⟩ => by rw [e]; exact relL_one (a := .fn _ _ _) ⟨xs, ys, hx, hy, rfl⟩
  | .yld _, _, ⟨n, hn, e⟩ => by rw [e]; exact relL_one (a := .yld _) ⟨n, hn, rfl⟩
  | .nilFn, _, e => by rw [show _ = _ from e]; exact relL_one (a := .nilFn) rfl
  | .iface _ _, _, ⟨x, hx, e⟩ => by rw [e]; exact relL_one (a := .iface _ _) ⟨x, hx, rfl⟩
  | .nilIface, _, e => by rw [show _ = _ from e]; exact relL_one (a := .nilIface) rfl
  | .tup _, _, ⟨xs, hx, e⟩ => by rw [e]; exact relL_one (a := .tup _) ⟨xs, hx, rfl⟩
  | .lst i t l lo, _, x => by
    obtain ⟨a, m, c, e⟩ : ∃ a m c, _ = Value.slice a m c := by
      unfold AV.rel at x
      rcases x with ⟨_, _, _, e⟩ | ⟨n, o, len, cap, cs, ty, fz, xs, _, e, _⟩
      · exact ⟨_, _, _, e⟩
      · obtain ⟨a, c, h⟩ := subV_sl n o t.size l.length cap lo
        exact ⟨_, _, _, e.trans h⟩
    subst e
    exact relL_one x
  | .rpt t l j f, _, x => by
    obtain ⟨a, e⟩ : ∃ a, _ = Value.pointer a := by
      unfold AV.rel at x
      obtain ⟨_, n, o, cs, ty, fz, xs, e, _⟩ := x
      exact ⟨_, e⟩
    subst e
    exact relL_one x
  | .lpt i t l lo j f, _, x => by
    obtain ⟨a, e⟩ : ∃ a, _ = Value.pointer a := by
      unfold AV.rel at x
      obtain ⟨_, n, o, len, cap, cs, ty, fz, xs, _, e, _⟩ := x
      exact ⟨_, e⟩
    subst e
    exact relL_one x
  | .ro t l, _, x => by
    obtain ⟨a, m, c, e⟩ : ∃ a m c, _ = Value.slice a m c := by
      unfold AV.rel at x
      rcases x with ⟨_, e, _⟩ | ⟨n, o, cap, cs, ty, fz, xs, e, _⟩ <;> exact ⟨_, _, _, e⟩
    subst e
    exact relL_one x
  | .own i, _, x => by
    obtain ⟨h, a, len, cap, rfl⟩ := x
    exact relL_one (a := .own i) ⟨h, a, len, cap, rfl⟩
  | .pre i hi, _, x => by
    obtain ⟨a, m, c, e⟩ : ∃ a m c, _ = Value.slice a m c := by
      unfold AV.rel at x
      rcases x with ⟨_, ⟨_, _, e⟩ | ⟨n, o, len, cap, _, _, _, e⟩⟩ <;> exact ⟨_, _, _, e⟩
    subst e
    exact relL_one x
  | .vw i sz lo hi, _, x => by
    obtain ⟨a, m, c, e⟩ : ∃ a m c, _ = Value.slice a m c := by
      unfold AV.rel at x
      rcases x with ⟨_, _, ⟨_, _, e⟩ | ⟨n, o, len, cap, _, _, _, e⟩⟩ <;> exact ⟨_, _, _, e⟩
    subst e
    exact relL_one x
  | .ept i sz j f, _, x => by
    obtain ⟨n, o, len, cap, h, hj, rfl⟩ := x
    exact relL_one (a := .ept i sz j f) ⟨n, o, len, cap, h, hj, rfl⟩
theorem one_rel {ρ : Pl} : ∀ {a : AV} {v : Value}, a.rel ρ v → one a = true → v.oneCell' = true
  | .agg l, _, _, h => by cases h
  | .tup _, _, _, h => by cases h
  | .bool _, _, e, _ => by rw [show _ = _ from e]; rfl
  | .int _ _, _, e, _ => by rw [show _ = _ from e]; rfl
  | .str _, _, e, _ => by rw [show _ = _ from e]; rfl
  | .ptr _ _, _, ⟨n, hn, e⟩, _ => by rw [e]; rfl
  | .nilPtr, _, e, _ => by rw [show _ = _ from e]; rfl
  | .sl _ _ _ _, _, ⟨n, hn, e⟩, _ => by rw [e]; rfl
  | .nilSl, _, e, _ => by rw [show _ = _ from e]; rfl
  | .fn _ _ _, _, ⟨xs, ys, hx, hy, e⟩, _ => by rw [e]; rfl
  | .yld _, _, ⟨n, hn, e⟩, _ => by rw [e]; rfl
  | .nilFn, _, e, _ => by rw [show _ = _ from e]; rfl
  | .iface _ _, _, ⟨x, hx, e⟩, _ => by rw [e]; rfl
  | .nilIface, _, e, _ => by rw [show _ = _ from e]; rfl
  | .lst _ t l lo, _, x, _ => by
    unfold AV.rel at x
    rcases x with ⟨_, _, _, e⟩ | ⟨n, o, len, cap, cs, ty, fz, xs, _, e, _⟩
    · rw [e]; rfl
    · obtain ⟨a, c, h⟩ := subV_sl n o t.size l.length cap lo
      rw [e, h]; rfl
  | .lpt _ _ _ _ _ _, _, ⟨_, n, o, len, cap, cs, ty, fz, xs, _, e, _⟩, _ => by rw [e]; rfl
  | .rpt _ _ _ _, _, ⟨_, n, o, cs, ty, fz, xs, e, _⟩, _ => by rw [e]; rfl
  | .ro _ _, _, x, _ => by
    unfold AV.rel at x
    rcases x with ⟨_, e, _⟩ | ⟨n, o, cap, cs, ty, fz, xs, e, _⟩ <;> rw [e] <;> rfl
  | .own _, _, ⟨_, a, len, cap, e⟩, _ => by rw [e]; rfl
  | .pre _ _, _, x, _ => by
    unfold AV.rel at x
    rcases x with ⟨_, ⟨_, _, e⟩ | ⟨n, o, len, cap, _, _, _, e⟩⟩ <;> rw [e] <;> rfl
  | .vw _ _ _ _, _, x, _ => by
    unfold AV.rel at x
    rcases x with ⟨_, _, ⟨_, _, e⟩ | ⟨n, o, len, cap, _, _, _, e⟩⟩ <;> rw [e] <;> rfl
  | .ept _ _ _ _, _, ⟨n, o, len, cap, _, _, e⟩, _ => by rw [e]; rfl
theorem allOne_rel {ρ : Pl} : ∀ {l : List AV} {vs : List Value}, AV.relL ρ l vs → allOne l = true → ∀ v ∈ vs, v.oneCell' = true
  | [], _, e, _, v, hv => by rw [show _ = [] from e] at hv; cases hv
  | a :: l, _, ⟨x, xs, hx, hl, e⟩, h, v, hv => by
    simp only [allOne, Bool.and_eq_true] at h
    rw [e] at hv
    rcases List.mem_cons.1 hv with rfl | hv
    · exact one_rel hx h.1
    · exact allOne_rel hl h.2 v hv
end Go.Proofs.Ytaoplfmaiclfkaa.SX
