/- A symbolic walk: states seen through templates, and back. -/
import Derived.Test.YtaoplfmaiclfkaaSXk
namespace Go.Proofs.Ytaoplfmaiclfkaa.SX
set_option linter.unusedVariables false
set_option linter.unusedSimpArgs false
open Go Go.RowKit
variable {P : Program}
structure Templ where
  keys : List Nat := []
  roots : List TV
  ylds : List Nat := []
  H : List (Nat × HB)
  n : Nat
  stay : List Nat
def imgs : Asg → List Nat
  | [] => []
  | (_, some (i, _)) :: r => i :: imgs r
  | (_, none) :: r => imgs r
def keysLt (n : Nat) : Asg → Bool
  | [] => true
  | (j, _) :: r => match Nat.blt j n with
    | true => keysLt n r
    | false => false
theorem imgs_mem {A : Asg} {j i : Nat} {c : Option AV} (h : look A j = some (some (i, c))) : i ∈ imgs A := by
  induction A with
  | nil => simp [look] at h
  | cons p A ih =>
    obtain ⟨t, x⟩ := p
    rw [look_cons] at h
    by_cases e : t = j
    · rw [if_pos e] at h
      cases h
      exact List.mem_cons_self
    · rw [if_neg e] at h
      cases x with
      | none => exact ih h
      | some y => obtain ⟨y, d⟩ := y; exact .tail _ (ih h)
theorem imgs_inj {A : Asg} (ha : apartB (imgs A) = true) {j j' i : Nat} {c c' : Option AV} (h : look A j = some (some (i, c))) (h' : look A j' = some (some (i, c'))) : j = j' := by
  induction A with
  | nil => simp [look] at h
  | cons p A ih =>
    obtain ⟨t, x⟩ := p
    have htail : apartB (imgs A) = true ∧ ∀ y d, x = some (y, d) → y ∉ imgs A := by
      cases x with
      | none => exact ⟨ha, fun y d h => by cases h⟩
      | some y =>
        obtain ⟨y, d⟩ := y
        unfold imgs at ha
        unfold apartB at ha
        split at ha
        · cases ha
        · rename_i hn
          exact ⟨ha, fun z d hz hm => by cases hz; rw [isIn_spec.2 hm] at hn; cases hn⟩
    rw [look_cons] at h h'
    by_cases e : t = j <;> by_cases e' : t = j'
    · exact e.symm.trans e'
    · rw [if_pos e] at h
      rw [if_neg e'] at h'
      cases h
      exact absurd (imgs_mem h') (htail.2 i _ rfl)
    · rw [if_neg e] at h
      rw [if_pos e'] at h'
      cases h'
      exact absurd (imgs_mem h) (htail.2 i _ rfl)
    · rw [if_neg e] at h
      rw [if_neg e'] at h'
      exact ih htail.1 h h'
theorem keysLt_spec {n : Nat} {A : Asg} (h : keysLt n A = true) {j : Nat} {x : Option (Nat × Option AV)} (hj : look A j = some x) : j < n := by
  induction A with
  | nil => simp [look] at hj
  | cons p A ih =>
    obtain ⟨t, y⟩ := p
    unfold keysLt at h
    split at h
    · rename_i ht
      rw [look_cons] at hj
      by_cases e : t = j
      · subst e
        exact Nat.le_of_ble_eq_true ht
      · rw [if_neg e] at hj
        exact ih h hj
    · cases h
def Templ.get (tm : Templ) (A : Asg) (vs : List AV) (is : List Nat) (H : Heap) : Option (Asg × List AV) :=
  match TV.getL A tm.roots vs with
  | some (A, a) => match putL A tm.ylds is with
    | some A => match getH A H tm.H with
      | some (A, b) => match apartB (imgs A) && keysLt tm.n A with
        | true => some (A, a ++ b)
        | false => none
      | none => none
    | none => none
  | none => none
def Templ.vals (tm : Templ) (zs : List AV) : List AV := (TV.fillL tm.roots zs).1
def Templ.heap (tm : Templ) (zs : List AV) : Heap := match TV.fillL tm.roots zs with
  | (_, r) => (fillH tm.H r).1
/-- A part's header. -/
noncomputable def Pl.hdr (ρ : Pl) (u : AV) : Option Value := by
  classical
  exact if h : ∃ x, u.rel ρ x then some h.choose else Option.none
theorem Pl.hdr_eq {ρ : Pl} {u : AV} (hq : u.uq = true) {x : Value} (h : u.rel ρ x) : ρ.hdr u = some x := by
  classical
  have he : ∃ x, u.rel ρ x := ⟨x, h⟩
  unfold Pl.hdr
  rw [dif_pos he]
  exact congrArg some (AV.rel_uniq u hq he.choose_spec h)
/-- A state's placement, by a template's numbers. -/
noncomputable def Pl.pull (ρ : Pl) (A : Asg) (n : Nat) : Pl := ⟨fun j => if j < n then (match look A j with
  | some (some (i, _)) => ρ i
  | _ => Option.none) else Option.none, n, fun i m h => (by
  split at h
  · assumption
  · cases h), ρ.ro, fun j => if j < n then (match look A j with
  | some (some (i, Option.none)) => ρ.tv i
  | some (some (_, some u)) => ρ.hdr u
  | some Option.none => some (.slice Option.none 0 0)
  | Option.none => Option.none) else Option.none, fun i m h => by
  split at h
  · assumption
  · cases h⟩
theorem Pl.pull_at {ρ : Pl} {A : Asg} {n j i : Nat} {c : Option AV} (hj : j < n) (h : look A j = some (some (i, c))) : ρ.pull A n j = ρ i := by
  show (if j < n then (match look A j with
  | some (some (i, _)) => ρ i
  | _ => Option.none) else Option.none) = ρ i
  rw [if_pos hj, h]
theorem Pl.pull_tv0 {ρ : Pl} {A : Asg} {n j : Nat} (hj : j < n) : (ρ.pull A n).tv j = match look A j with
  | some (some (i, Option.none)) => ρ.tv i
  | some (some (_, some u)) => ρ.hdr u
  | some Option.none => some (.slice Option.none 0 0)
  | Option.none => Option.none := if_pos hj
theorem Pl.pull_tv {ρ : Pl} {A : Asg} {n j i : Nat} (hj : j < n) (h : look A j = some (some (i, Option.none))) : (ρ.pull A n).tv j = ρ.tv i := by
  rw [Pl.pull_tv0 hj, h]
theorem Pl.pull_some {ρ : Pl} {A : Asg} {n j k : Nat} (h : ρ.pull A n j = some k) : j < n ∧ ∃ i c, look A j = some (some (i, c)) ∧ ρ i = some k := by
  have h : (if j < n then (match look A j with
  | some (some (i, _)) => ρ i
  | _ => Option.none) else Option.none) = some k := h
  split at h
  · rename_i hj
    refine ⟨hj, ?_⟩
    split at h
    · exact ⟨_, _, ‹_›, h⟩
    · cases h
  · cases h
theorem Pl.pull_fit {ρ : Pl} {A : Asg} {n : Nat} (hk : keysLt n A = true) : Fit A ρ (ρ.pull A n) := by
  refine ⟨rfl, fun j i hj m hm => ?_, fun j i hj v hv => ?_, fun j i u hj hu x hx => ?_, fun j hj => ?_⟩
  · obtain ⟨h1, h2⟩ := Pl.pin_f hm
    have hlt := keysLt_spec hk hj
    exact Pl.pin_of ((Pl.pull_at hlt hj).trans h1) ((Pl.pull_tv hlt hj).trans h2)
  · exact (Pl.pull_tv (keysLt_spec hk hj) hj).trans hv
  · rw [Pl.pull_tv0 (keysLt_spec hk hj), hj]
    exact Pl.hdr_eq hu.uq hx
  · rw [Pl.pull_tv0 (keysLt_spec hk hj), hj]
theorem Placed.pull {ρ : Pl} {w : World} (h : Placed ρ w) {A : Asg} (ha : apartB (imgs A) = true) (n : Nat) : Placed (ρ.pull A n) w := by
  refine ⟨fun i j k h1 h2 => ?_, fun i k h1 => ?_, fun m o hm => ⟨(h.ro m o hm).1, fun j hj => ?_⟩⟩
  · obtain ⟨_, i', _, g1, g2⟩ := Pl.pull_some h1
    obtain ⟨_, j', _, g3, g4⟩ := Pl.pull_some h2
    have := h.inj i' j' k g2 g4
    subst this
    exact imgs_inj ha g1 g3
  · obtain ⟨_, i', _, g1, g2⟩ := Pl.pull_some h1
    exact h.lt i' k g2
  · obtain ⟨_, j', _, g3, g4⟩ := Pl.pull_some hj
    exact (h.ro m o hm).2 j' g4
theorem Templ.get_ok {tm : Templ} {A A' : Asg} {vs : List AV} {is : List Nat} {H : Heap} {ys zs : List AV} (h : tm.get A vs is H = some (A', ys)) (hp : Ptw ys zs) :
    A.Le A' ∧ apartB (imgs A') = true ∧ keysLt tm.n A' = true ∧ tm.ylds.length = is.length ∧ (∀ (k j i : Nat), tm.ylds[k]? = some j → is[k]? = some i → look A' j = some (some (i, none))) ∧
    ∀ {ρ : Pl} {w : World} {xs : List Value}, AV.relL ρ vs xs → Placed ρ w → HObj ρ H w → (∀ p ∈ eqsH A' H tm.H, p.1 = p.2) → Parts A ρ → AV.relL (ρ.pull A' tm.n) (tm.vals zs) xs ∧ HRel (ρ.pull A' tm.n) (tm.heap zs) tm.n w := by
  unfold Templ.get at h
  split at h
  · rename_i A1 a ha
    split at h
    · rename_i A2 hA2
      split at h
      · rename_i A3 b hb
        split at h
        · rename_i hc
          simp only [Bool.and_eq_true] at hc
          cases h
          obtain ⟨h1, p1, h2⟩ := TV.getL_ok tm.roots ha
          obtain ⟨h3, h4, h5⟩ := putL_ok tm.ylds hA2
          obtain ⟨h6, p6, h7⟩ := getH_ok tm.H hb
          refine ⟨h1.trans (h3.trans h6), hc.1, hc.2, h4, fun k j i hj hi => h6 _ _ (h5 k j i hj hi), fun {ρ w xs} hx hpl ho he hP => ?_⟩
          have hf := Pl.pull_fit (ρ := ρ) hc.2
          obtain ⟨u, v, rfl, hu, hv⟩ := hp.split
          obtain ⟨g1, g2⟩ := h2 (rest := v) (hf.le (h3.trans h6)) hu hx
          obtain ⟨g3, g4⟩ := h7 (rest := []) hf (p6 ho (putL_parts tm.ylds hA2 (p1 hx hP))) (fun j i c hj n hn => (Pl.pull_at (keysLt_spec hc.2 hj) hj).trans hn) hv he ho
          rw [List.append_nil] at g3
          have hh : tm.heap (u ++ v) = (fillH tm.H (TV.fillL tm.roots (u ++ v)).2).1 := rfl
          rw [hh]
          unfold Templ.vals
          rw [g2]
          exact ⟨g1, HRel.of (hpl.pull hc.1 tm.n) rfl g3⟩
        · cases h
      · cases h
    · cases h
  · cases h
/-- Numbers that stay where they are. -/
def Keep (S : List Nat) (ρ ρ' : Pl) : Prop := ∀ j ∈ S, (ρ' j = ρ j ∨ (ρ' j = none ∧ ∃ v, ρ.tv j = some v)) ∧ ρ'.tv j = ρ.tv j
theorem Keep.refl (S : List Nat) (ρ : Pl) : Keep S ρ ρ := fun j _ => ⟨.inl rfl, rfl⟩
theorem Keep.trans {S : List Nat} {a b c : Pl} (h : Keep S a b) (k : Keep S b c) : Keep S a c := fun j hj => by
  obtain ⟨h1, h2⟩ := h j hj
  obtain ⟨k1, k2⟩ := k j hj
  refine ⟨?_, k2.trans h2⟩
  rcases k1 with k1 | ⟨k1, v, hv⟩
  · rcases h1 with h1 | ⟨h1, hv⟩
    · exact .inl (k1.trans h1)
    · exact .inr ⟨k1.trans h1, hv⟩
  · exact .inr ⟨k1, v, by rw [← h2]; exact hv⟩
theorem Keep.of {S : List Nat} {ρ ρ2 : Pl} {A : Asg} {n : Nat} (h : Ext ρ ρ2) (hS : ∀ j ∈ S, look A j = some (some (j, none))) (hlt : ∀ j ∈ S, j < ρ.top) (hk : keysLt n A = true) : Keep S ρ (ρ2.pull A n) := fun j hj => by
  have hn := keysLt_spec hk (hS j hj)
  rw [Pl.pull_at hn (hS j hj), Pl.pull_tv hn (hS j hj)]
  exact ⟨h.2 j (hlt j hj), h.1.tv j (hlt j hj)⟩
/- renaming -/
mutual
def AV.ren (B : Nat → Nat) : AV → AV
  | .ptr i o => .ptr (B i) o
  | .sl i o len cap => .sl (B i) o len cap
  | .fn f a b => .fn f (AV.renL B a) (AV.renL B b)
  | .yld i => .yld (B i)
  | .iface t v => .iface t (v.ren B)
  | .agg l => .agg (AV.renL B l)
  | .tup l => .tup (AV.renL B l)
  | .own i => .own (B i)
  | .pre i hi => .pre (B i) hi
  | .vw i sz lo hi => .vw (B i) sz lo hi
  | .ept i sz j f => .ept (B i) sz j f
  | .bool b => .bool b
  | .int k n => .int k n
  | .str s => .str s
  | .nilPtr => .nilPtr
  | .nilSl => .nilSl
  | .nilFn => .nilFn
  | .nilIface => .nilIface
  | .lst i t l lo => .lst i t l lo
  | .lpt i t l lo j f => .lpt i t l lo j f
  | .rpt t l j f => .rpt t l j f
  | .ro t l => .ro t l
def AV.renL (B : Nat → Nat) : List AV → List AV
  | [] => []
  | a :: l => a.ren B :: AV.renL B l
end
def renS (B : Nat → Nat) : List (Nat × AV) → List (Nat × AV)
  | [] => []
  | (t, v) :: l => (t, v.ren B) :: renS B l
def AB.ren (B : Nat → Nat) : AB → AB
  | .cells t l => .cells t (AV.renL B l)
  | .loop fid s pe sz slots ps as bd d => .loop fid s pe sz (renS B slots) ps as bd (B d)
  | .mark => .mark
  | .dead => .dead
  | .vec e t z n l => .vec e t z n l
def renH (B : Nat → Nat) : Heap → Heap
  | [] => []
  | (j, b) :: l => (B j, b.ren B) :: renH B l
structure Ren (B : Nat → Nat) (ρ ρ' : Pl) : Prop where
  pin : ∀ j n, ρ.pin j = some n → ρ'.pin (B j) = some n
  tv : ∀ j v, ρ.tv j = some v → ρ'.tv (B j) = some v
  ro : ρ'.ro = ρ.ro
mutual
theorem AV.ren_ok {B : Nat → Nat} {ρ ρ' : Pl} (h : Ren B ρ ρ') : ∀ (a : AV) {v : Value}, a.rel ρ v → (a.ren B).rel ρ' v
  | .bool _, _, x => x
  | .int _ _, _, x => x
  | .str _, _, x => x
  | .ptr _ _, _, ⟨n, hn, e⟩ => ⟨n, h.pin _ _ hn, e⟩
  | .nilPtr, _, x => x
  | .sl _ _ _ _, _, ⟨n, hn, e⟩ => ⟨n, h.pin _ _ hn, e⟩
  | .nilSl, _, x => x
  | .fn _ first capt, _, ⟨xs, ys, hx, hy, e⟩ => ⟨xs, ys, AV.renL_ok h first hx, AV.renL_ok h capt hy, e⟩
  | .yld _, _, ⟨n, hn, e⟩ => ⟨n, h.pin _ _ hn, e⟩
  | .nilFn, _, x => x
  | .iface _ a, _, ⟨x, hx, e⟩ => ⟨x, AV.ren_ok h a hx, e⟩
  | .nilIface, _, x => x
  | .agg l, _, ⟨xs, hx, e⟩ => ⟨xs, AV.renL_ok h l hx, e⟩
  | .tup l, _, ⟨xs, hx, e⟩ => ⟨xs, AV.renL_ok h l hx, e⟩
  | .lst _ _ _ _, _, x => by unfold AV.ren; unfold AV.rel at x ⊢; rw [h.ro]; exact x
  | .lpt _ _ _ _ _ _, _, x => by unfold AV.ren; unfold AV.rel at x ⊢; rw [h.ro]; exact x
  | .rpt _ _ _ _, _, x => by unfold AV.ren; unfold AV.rel at x ⊢; rw [h.ro]; exact x
  | .ro _ _, _, x => by unfold AV.ren; unfold AV.rel at x ⊢; rw [h.ro]; exact x
  | .own _, _, ⟨x, y⟩ => ⟨h.tv _ _ x, y⟩
  | .pre _ _, _, ⟨x, y⟩ => ⟨x, y.elim (fun ⟨a, b⟩ => .inl ⟨h.tv _ _ a, b⟩) (fun ⟨n, o, len, cap, a, b⟩ => .inr ⟨n, o, len, cap, h.tv _ _ a, b⟩)⟩
  | .vw _ _ _ _, _, ⟨x, x2, y⟩ => ⟨x, x2, y.elim (fun ⟨a, b⟩ => .inl ⟨h.tv _ _ a, b⟩) (fun ⟨n, o, len, cap, a, b⟩ => .inr ⟨n, o, len, cap, h.tv _ _ a, b⟩)⟩
  | .ept _ _ _ _, _, ⟨n, o, len, cap, x, y⟩ => ⟨n, o, len, cap, h.tv _ _ x, y⟩
theorem AV.renL_ok {B : Nat → Nat} {ρ ρ' : Pl} (h : Ren B ρ ρ') : ∀ (l : List AV) {vs : List Value}, AV.relL ρ l vs → AV.relL ρ' (AV.renL B l) vs
  | [], _, x => x
  | a :: l, _, ⟨x, xs, hx, hl, e⟩ => ⟨x, xs, AV.ren_ok h a hx, AV.renL_ok h l hl, e⟩
end
theorem renS_look {B : Nat → Nat} : ∀ {l : List (Nat × AV)} {t : Nat} {v : AV}, look (renS B l) t = some v → ∃ u, look l t = some u ∧ v = u.ren B
  | [], t, v, h => by simp [renS, look] at h
  | (t', u) :: l, t, v, h => by
    unfold renS at h
    rw [look_cons] at h ⊢
    by_cases e : t' = t
    · rw [if_pos e] at h ⊢
      cases h
      exact ⟨u, rfl, rfl⟩
    · rw [if_neg e] at h ⊢
      exact renS_look h
theorem SRel.ren {B : Nat → Nat} {ρ ρ' : Pl} (h : Ren B ρ ρ') {sz : Nat} {slots : List (Nat × AV)} {tmps : Array Value} (hs : SRel ρ sz slots tmps) : SRel ρ' sz (renS B slots) tmps := ⟨hs.1, fun t v hv => by
  obtain ⟨u, hu, rfl⟩ := renS_look hv
  obtain ⟨x, hx, hx2⟩ := hs.2 t u hu
  exact ⟨x, AV.ren_ok h u hx, hx2⟩⟩
theorem AB.ren_ok {B : Nat → Nat} {ρ ρ' : Pl} (h : Ren B ρ ρ') : ∀ {b : AB} {o : Obj}, b.rel ρ o → (b.ren B).rel ρ' o
  | .cells t l, _, ⟨xs, hx, e⟩ => ⟨xs, AV.renL_ok h l hx, e⟩
  | .loop .., _, ⟨fn, tmps, dn, hd, hs, e⟩ => ⟨fn, tmps, dn, h.pin _ _ hd, hs.ren h, e⟩
  | .mark, _, e => e
  | .dead, _, _ => trivial
  | .vec .., _, h => h.elim
theorem Held.ren {B : Nat → Nat} {ρ ρ' : Pl} {w : World} {j : Nat} (h : Ren B ρ ρ') (hf : ∀ n, ρ j = some n → ρ' (B j) = some n) : ∀ {b : AB}, Held ρ w j b → Held ρ' w (B j) (b.ren B)
  | .cells .., ⟨n, o, h1, h2, h3⟩ => ⟨n, o, hf n h1, h2, AB.ren_ok h h3⟩
  | .loop .., ⟨n, o, h1, h2, h3⟩ => ⟨n, o, hf n h1, h2, AB.ren_ok h h3⟩
  | .mark, ⟨n, o, h1, h2, h3⟩ => ⟨n, o, hf n h1, h2, h3⟩
  | .dead, ⟨n, o, h1, h2, h3⟩ => ⟨n, o, hf n h1, h2, trivial⟩
  | .vec e t z n l, ⟨hn, hh⟩ => ⟨hn, hh.elim (fun ⟨h1, h2⟩ => .inl ⟨h.tv _ _ h1, h2⟩) (fun ⟨g, off, cap, cur, xs, h1, h2, h3, h4, h5, h6, h7, h8, h9⟩ => .inr ⟨g, off, cap, cur, xs, hf _ h1, h.tv _ _ h2, h3, h4, h5, h6, by rw [h.ro]; exact h7, h8, h9⟩)⟩
theorem renH_look {B : Nat → Nat} : ∀ {H : Heap} {i : Nat} {c : AB}, look (renH B H) i = some c → ∃ j b, look H j = some b ∧ B j = i ∧ c = b.ren B
  | [], i, c, h => by simp [renH, look] at h
  | (j, b) :: l, i, c, h => by
    unfold renH at h
    rw [look_cons] at h
    by_cases e : B j = i
    · rw [if_pos e] at h
      cases h
      exact ⟨j, b, by rw [look_cons, if_pos rfl], e, rfl⟩
    · rw [if_neg e] at h
      obtain ⟨j', b', h1, h2, h3⟩ := renH_look h
      refine ⟨j', b', ?_, h2, h3⟩
      rw [look_cons, if_neg (fun e2 => e (by rw [e2]; exact h2))]
      exact h1
/- back -/
def dropKeys : List Nat → Heap → Heap
  | l, [] => []
  | l, (j, b) :: r => match isIn j l with
    | true => dropKeys l r
    | false => (j, b) :: dropKeys l r
theorem dropKeys_look {l : List Nat} : ∀ {H : Heap} {i : Nat} {b : AB}, look (dropKeys l H) i = some b → look H i = some b ∧ i ∉ l
  | [], i, b, h => by simp [dropKeys, look] at h
  | (j, c) :: r, i, b, h => by
    unfold dropKeys at h
    split at h
    · rename_i hj
      obtain ⟨h1, h2⟩ := dropKeys_look h
      refine ⟨?_, h2⟩
      rw [look_cons, if_neg (fun e => h2 (by rw [← e]; exact isIn_spec.1 hj))]
      exact h1
    · rename_i hj
      rw [look_cons] at h ⊢
      by_cases e : j = i
      · subst e
        rw [if_pos rfl] at h ⊢
        exact ⟨h, fun hm => by rw [isIn_spec.2 hm] at hj; cases hj⟩
      · rw [if_neg e] at h ⊢
        exact dropKeys_look h
/-- Where a template's numbers are, behind. -/
def backAt (A : Asg) (S : List Nat) (hn j : Nat) : Nat :=
  match isIn j S with
  | true => match look A j with
    | some (some (i, _)) => i
    | _ => hn + j
  | false => hn + j
noncomputable def Pl.push (ρ ρr : Pl) (A : Asg) (S : List Nat) : Pl := by
  classical
  exact ⟨fun i => if i < ρ.top then (if h : ∃ j c, look A j = some (some (i, c)) then (if h.choose ∈ S then ρr h.choose else Option.none) else ρ i) else if i - ρ.top ∈ S then Option.none else ρr (i - ρ.top), ρ.top + ρr.top, fun i n h => (by
    split at h
    · omega
    · split at h
      · cases h
      · have := ρr.wf _ _ h
        omega), ρr.ro, fun i => if i < ρ.top then ρ.tv i else if i - ρ.top ∈ S then Option.none else ρr.tv (i - ρ.top), fun i v h => by
    split at h
    · omega
    · split at h
      · cases h
      · have := ρr.twf _ _ h
        omega⟩
section
variable {ρ ρr : Pl} {A : Asg} {S : List Nat} {i j : Nat} {c : Option AV}
theorem Pl.push_lt (ha : apartB (imgs A) = true) (hi : i < ρ.top) (hj : look A j = some (some (i, c))) (hS : j ∈ S) : Pl.push ρ ρr A S i = ρr j := by
  classical
  have he : ∃ j c, look A j = some (some (i, c)) := ⟨j, c, hj⟩
  have hc : he.choose = j := imgs_inj ha he.choose_spec.choose_spec hj
  show (if i < ρ.top then (if h : ∃ j c, look A j = some (some (i, c)) then (if h.choose ∈ S then ρr h.choose else Option.none) else ρ i) else if i - ρ.top ∈ S then Option.none else ρr (i - ρ.top)) = ρr j
  rw [if_pos hi, dif_pos he, hc, if_pos hS]
theorem Pl.push_gone (ha : apartB (imgs A) = true) (hi : i < ρ.top) (hj : look A j = some (some (i, c))) (hS : j ∉ S) : Pl.push ρ ρr A S i = Option.none := by
  classical
  have he : ∃ j c, look A j = some (some (i, c)) := ⟨j, c, hj⟩
  have hc : he.choose = j := imgs_inj ha he.choose_spec.choose_spec hj
  show (if i < ρ.top then (if h : ∃ j c, look A j = some (some (i, c)) then (if h.choose ∈ S then ρr h.choose else Option.none) else ρ i) else if i - ρ.top ∈ S then Option.none else ρr (i - ρ.top)) = Option.none
  rw [if_pos hi, dif_pos he, hc, if_neg hS]
theorem Pl.push_frame (hi : i < ρ.top) (hj : ∀ j c, look A j ≠ some (some (i, c))) : Pl.push ρ ρr A S i = ρ i := by
  classical
  have he : ¬ ∃ j c, look A j = some (some (i, c)) := fun ⟨j, c, h⟩ => hj j c h
  show (if i < ρ.top then (if h : ∃ j c, look A j = some (some (i, c)) then (if h.choose ∈ S then ρr h.choose else Option.none) else ρ i) else if i - ρ.top ∈ S then Option.none else ρr (i - ρ.top)) = ρ i
  rw [if_pos hi, dif_neg he]
theorem Pl.push_new (hS : j ∉ S) : Pl.push ρ ρr A S (ρ.top + j) = ρr j := by
  classical
  show (if ρ.top + j < ρ.top then (if h : ∃ j' c, look A j' = some (some (ρ.top + j, c)) then (if h.choose ∈ S then ρr h.choose else Option.none) else ρ (ρ.top + j)) else if ρ.top + j - ρ.top ∈ S then Option.none else ρr (ρ.top + j - ρ.top)) = ρr j
  rw [if_neg (by omega), Nat.add_sub_cancel_left, if_neg hS]
theorem Pl.push_ge (hi : ρ.top ≤ i) : Pl.push ρ ρr A S i = if i - ρ.top ∈ S then Option.none else ρr (i - ρ.top) := by
  classical
  show (if i < ρ.top then (if h : ∃ j' c, look A j' = some (some (i, c)) then (if h.choose ∈ S then ρr h.choose else Option.none) else ρ i) else if i - ρ.top ∈ S then Option.none else ρr (i - ρ.top)) = _
  rw [if_neg (by omega)]
theorem Pl.push_tlt (hi : i < ρ.top) : (Pl.push ρ ρr A S).tv i = ρ.tv i := by
  classical
  show (if i < ρ.top then ρ.tv i else if i - ρ.top ∈ S then Option.none else ρr.tv (i - ρ.top)) = _
  rw [if_pos hi]
theorem Pl.push_tnew (hS : j ∉ S) : (Pl.push ρ ρr A S).tv (ρ.top + j) = ρr.tv j := by
  classical
  show (if ρ.top + j < ρ.top then ρ.tv (ρ.top + j) else if ρ.top + j - ρ.top ∈ S then Option.none else ρr.tv (ρ.top + j - ρ.top)) = _
  rw [if_neg (by omega), Nat.add_sub_cancel_left, if_neg hS]
end
/-- Back from a template. -/
theorem push_ok {ρ ρr : Pl} {A : Asg} {S : List Nat} {n0 n1 hn : Nat} {H HT : Heap} {w w' : World} (hr : HRel ρ H hn w) (ha : apartB (imgs A) = true) (hk : keysLt n0 A = true) (hlt : ∀ j i c, look A j = some (some (i, c)) → i < hn) (hS : ∀ j ∈ S, ∃ i, look A j = some (some (i, none)))
    (hmove : ∀ j i c, look A j = some (some (i, c)) → j ∈ S ∨ ∃ v, ρ.tv i = some v) (hro : RO.Le ρ.ro ρr.ro) (hkeep : Keep S (ρ.pull A n0) ρr) (hinv : Inv w (ρ.pull A n0).ms ρr w') (hT : HRel ρr HT n1 w') :
    Ext ρ (Pl.push ρ ρr A S) ∧ Ren (backAt A S hn) ρr (Pl.push ρ ρr A S) ∧ HRel (Pl.push ρ ρr A S) (renH (backAt A S hn) HT ++ dropKeys (imgs A) H) (hn + n1) w' ∧ Eff ρ (Pl.push ρ ρr A S) w w' := by
  have htop := hr.len
  have back_in : ∀ {j i : Nat} {c : Option AV}, j ∈ S → look A j = some (some (i, c)) → backAt A S hn j = i := fun {j i c} hj hi => by
    unfold backAt
    rw [isIn_spec.2 hj, hi]
  have back_out : ∀ {j : Nat}, j ∉ S → backAt A S hn j = ρ.top + j := fun {j} hj => by
    unfold backAt
    cases e : isIn j S with
    | true => exact absurd (isIn_spec.1 e) hj
    | false => rw [htop]
  have hpull : ∀ {j i : Nat}, look A j = some (some (i, none)) → ρ.pull A n0 j = ρ i ∧ (ρ.pull A n0).tv j = ρ.tv i := fun {j i} h => ⟨Pl.pull_at (keysLt_spec hk h) h, Pl.pull_tv (keysLt_spec hk h) h⟩
  -- a number's place, behind
  have hfl : ∀ j n, ρr j = some n → Pl.push ρ ρr A S (backAt A S hn j) = some n := fun j n hj => by
    by_cases hs : j ∈ S
    · obtain ⟨i, hi⟩ := hS j hs
      rw [back_in hs hi, Pl.push_lt ha (by rw [htop]; exact hlt j i _ hi) hi hs]
      exact hj
    · rw [back_out hs, Pl.push_new hs]
      exact hj
  have htv : ∀ j, (∃ n, ρr j = some n) ∨ (∃ v, ρr.tv j = some v) → (Pl.push ρ ρr A S).tv (backAt A S hn j) = ρr.tv j := fun j _ => by
    by_cases hs : j ∈ S
    · obtain ⟨i, hi⟩ := hS j hs
      rw [back_in hs hi, Pl.push_tlt (by rw [htop]; exact hlt j i _ hi), (hkeep j hs).2, (hpull hi).2]
    · rw [back_out hs, Pl.push_tnew hs]
  have hren : Ren (backAt A S hn) ρr (Pl.push ρ ρr A S) := ⟨fun j n hj => by
    obtain ⟨h1, h2⟩ := Pl.pin_f hj
    exact Pl.pin_of (hfl j n h1) ((htv j (.inl ⟨n, h1⟩)).trans h2), fun j v hj => (htv j (.inr ⟨v, hj⟩)).trans hj, rfl⟩
  have hcase : ∀ {i n : Nat}, Pl.push ρ ρr A S i = some n → (i < ρ.top ∧ (∀ j c, look A j ≠ some (some (i, c))) ∧ ρ i = some n) ∨ ∃ j, ρr j = some n ∧ i = backAt A S hn j := by
    intro i n hi
    rcases Nat.lt_or_ge i ρ.top with hl | hl
    · by_cases he : ∃ j c, look A j = some (some (i, c))
      · obtain ⟨j, c, hj⟩ := he
        by_cases hs : j ∈ S
        · rw [Pl.push_lt ha hl hj hs] at hi
          exact .inr ⟨j, hi, (back_in hs hj).symm⟩
        · rw [Pl.push_gone ha hl hj hs] at hi
          cases hi
      · have hne : ∀ j c, look A j ≠ some (some (i, c)) := fun j c hj => he ⟨j, c, hj⟩
        rw [Pl.push_frame hl hne] at hi
        exact .inl ⟨hl, hne, hi⟩
    · rw [Pl.push_ge hl] at hi
      split at hi
      · cases hi
      · rename_i hs
        exact .inr ⟨i - ρ.top, hi, by rw [back_out hs]; omega⟩
  -- what is not spoken of lies apart
  have happart : ∀ {i j n : Nat}, (∀ j c, look A j ≠ some (some (i, c))) → ρ i = some n → ρr j = some n → False := by
    intro i j n hne hi hj
    rcases hinv.fresh j n hj with ⟨j', hj'⟩ | h
    · obtain ⟨_, i', c', h1, h2⟩ := Pl.pull_some hj'
      have := hr.inj i i' n hi h2
      subst this
      exact hne j' c' h1
    · have := hr.lt i n hi
      omega
  have hkeepW : ∀ {i n : Nat}, (∀ j c, look A j ≠ some (some (i, c))) → ρ i = some n → w'.heap[n]? = w.heap[n]? := by
    intro i n hne hi
    refine hinv.keep n (hr.lt i n hi) fun ⟨j, hj⟩ => ?_
    obtain ⟨_, i', c', h1, h2⟩ := Pl.pull_some hj
    have := hr.inj i i' n hi h2
    subst this
    exact hne j c' h1
  have hext : Ext ρ (Pl.push ρ ρr A S) := by
    refine ⟨⟨Nat.le_add_right _ _, hro, fun i hi => Pl.push_tlt hi⟩, fun i hi => ?_⟩
    by_cases he : ∃ j c, look A j = some (some (i, c))
    · obtain ⟨j, c, hj⟩ := he
      by_cases hs : j ∈ S
      · obtain ⟨i2, hi2⟩ := hS j hs
        rw [hj] at hi2
        cases hi2
        rw [Pl.push_lt ha hi hj hs]
        rcases (hkeep j hs).1 with e | ⟨e, v, hv⟩
        · exact .inl (e.trans (hpull hj).1)
        · exact .inr ⟨e, v, by rw [← (hpull hj).2]; exact hv⟩
      · rw [Pl.push_gone ha hi hj hs]
        exact .inr ⟨rfl, (hmove j i c hj).resolve_left hs⟩
    · exact .inl (Pl.push_frame hi fun j c hj => he ⟨j, c, hj⟩)
  have hbinj : ∀ {j j' n : Nat}, ρr j = some n → ρr j' = some n → j = j' := fun {j j' n} h1 h2 => hT.inj j j' n h1 h2
  refine ⟨hext, hren, ⟨by show ρ.top + ρr.top = hn + n1; rw [htop, hT.len], fun i i' n h1 h2 => ?_, fun i n h1 => ?_, fun n o hn' => ?_, fun i c hc => ?_⟩, ⟨hinv.os, hinv.tape, hinv.output, hinv.size, fun k hk' hm => hinv.keep k hk' fun ⟨j, hj⟩ => ?_, fun i n hi => ?_, fun n o hn' => ?_⟩⟩
  · rcases hcase h1 with ⟨_, g1, g2⟩ | ⟨j, g1, g2⟩ <;> rcases hcase h2 with ⟨_, g3, g4⟩ | ⟨j', g3, g4⟩
    · exact hr.inj i i' n g2 g4
    · exact (happart g1 g2 g3).elim
    · exact (happart g3 g4 g1).elim
    · rw [g2, g4, hbinj g1 g3]
  · rcases hcase h1 with ⟨_, g1, g2⟩ | ⟨j, g1, g2⟩
    · exact Nat.lt_of_lt_of_le (hr.lt i n g2) hinv.size
    · exact hT.lt j n g1
  · have hn'' : ρr.ro.obj n = some o := hn'
    obtain ⟨k3, k4⟩ := hT.ro n o hn''
    refine ⟨k3, fun i hi => ?_⟩
    rcases hcase hi with ⟨_, g1, g2⟩ | ⟨j, g1, g2⟩
    · rcases hinv.roF n o hn'' with ⟨o', ho⟩ | ⟨j, hj⟩ | hs
      · exact (hr.ro n o' ho).2 i g2
      · obtain ⟨_, i', c', h1, h2⟩ := Pl.pull_some hj
        have := hr.inj i i' n g2 h2
        subst this
        exact g1 j c' h1
      · have := hr.lt i n g2
        omega
    · exact k4 j g1
  · have hframe : HObj (Pl.push ρ ρr A S) (dropKeys (imgs A) H) w' := fun i b hb => by
      obtain ⟨h1, h2⟩ := dropKeys_look hb
      have hne : ∀ j c, look A j ≠ some (some (i, c)) := fun j c hj => h2 (imgs_mem hj)
      refine (hr.obj i b h1).mono hext (fun n hn' => ?_) fun n hn' => hkeepW hne hn'
      rw [Pl.push_frame (ρ.wf i n hn') hne]
      exact hn'
    have hren2 : HObj (Pl.push ρ ρr A S) (renH (backAt A S hn) HT) w' := fun i b hb => by
      obtain ⟨j, b', h1, h2, rfl⟩ := renH_look hb
      subst h2
      exact Held.ren hren (hfl j) (hT.obj j b' h1)
    exact hren2.append hframe i c hc
  · obtain ⟨_, i', c', h1, h2⟩ := Pl.pull_some hj
    exact hm i' h2
  · rcases hcase hi with ⟨_, g1, g2⟩ | ⟨j, g1, g2⟩
    · exact .inl ⟨i, g2⟩
    · rcases hinv.fresh j n g1 with ⟨j', hj'⟩ | h
      · obtain ⟨_, i', c', h1, h2⟩ := Pl.pull_some hj'
        exact .inl ⟨i', h2⟩
      · exact .inr h
  · rcases hinv.roF n o hn' with h | ⟨j, hj⟩ | hs
    · exact .inl h
    · obtain ⟨_, i', c', h1, h2⟩ := Pl.pull_some hj
      exact .inr (.inl ⟨i', h2⟩)
    · exact .inr (.inr hs)
end Go.Proofs.Ytaoplfmaiclfkaa.SX
