/- A symbolic walk: loops of a count that is not known. -/
import Derived.Test.YtlekjgjhbanimaaSXj
namespace Go.Proofs.Ytlekjgjhbanimaa.SX
set_option linter.unusedVariables false
set_option linter.unusedSimpArgs false
open Go Go.RowKit
variable {P : Program}
/- rounds, until there is an answer -/
def roundsN {X Q : Type} (step : X → Option (X ⊕ Q)) : Nat → X → Option Q
  | 0, _ => none
  | n + 1, x => match step x with
    | some (.inl y) => roundsN step n y
    | some (.inr q) => some q
    | none => none
open Classical in
/-- The answer of rounds. -/
noncomputable def rounds {X Q : Type} (step : X → Option (X ⊕ Q)) (x : X) : Option Q := if h : ∃ q n, roundsN step n x = some q then some (Classical.choose h) else none
theorem roundsN_mono {X Q : Type} {step : X → Option (X ⊕ Q)} {q : Q} : ∀ (n : Nat) (x : X), roundsN step n x = some q → ∀ m, n ≤ m → roundsN step m x = some q
  | 0, x, h, _, _ => by cases h
  | n + 1, x, h, m, hm => by
    obtain ⟨m, rfl⟩ : ∃ k, m = k + 1 := ⟨m - 1, by omega⟩
    unfold roundsN at h ⊢
    split at h
    · exact roundsN_mono n _ h m (by omega)
    · exact h
    · cases h
theorem rounds_some {X Q : Type} {step : X → Option (X ⊕ Q)} {x : X} {q : Q} : rounds step x = some q ↔ ∃ n, roundsN step n x = some q := by
  classical
  unfold rounds
  constructor
  · intro h
    split at h
    · rename_i h2
      cases h
      exact Classical.choose_spec h2
    · cases h
  · rintro ⟨n, h⟩
    have h2 : ∃ q n, roundsN step n x = some q := ⟨q, n, h⟩
    rw [dif_pos h2]
    obtain ⟨m, hm⟩ := Classical.choose_spec h2
    have a := roundsN_mono n x h (max n m) (by omega)
    have b := roundsN_mono m x hm (max n m) (by omega)
    rw [a] at b
    cases b
    congr
theorem rounds_next {X Q : Type} {step : X → Option (X ⊕ Q)} {x y : X} (h : step x = some (.inl y)) : rounds step x = rounds step y := by
  apply Option.ext
  intro q
  rw [rounds_some, rounds_some]
  constructor
  · rintro ⟨n, hn⟩
    cases n with
    | zero => cases hn
    | succ n => exact ⟨n, by unfold roundsN at hn; rw [h] at hn; exact hn⟩
  · rintro ⟨n, hn⟩
    exact ⟨n + 1, by unfold roundsN; rw [h]; exact hn⟩
theorem rounds_end {X Q : Type} {step : X → Option (X ⊕ Q)} {x : X} {q : Q} (h : step x = some (.inr q)) : rounds step x = some q :=
  rounds_some.2 ⟨1, by unfold roundsN; rw [h]⟩
/- templates -/
/-- Values that no block's place is part of. -/
def AV.still : AV → Bool
  | .lst _ _ _ => true
  | v => v.flat
inductive TV where
  | hole
  | int (k : IntKind) (n : Int)
  | bool (b : Bool)
  | ptr (i o : Nat)
  | agg (l : List TV)
mutual
def TV.get (hn : Nat) : TV → AV → Option (List AV)
  | .hole, v => match v.still with
    | true => some [v]
    | false => none
  | .int k n, .int k' (.c m) => match decide (k' = k) && decide (m = n) with
    | true => some []
    | false => none
  | .bool b, .bool (.c b') => match b' == b with
    | true => some []
    | false => none
  | .ptr i o, .ptr i' o' => match Nat.beq i' i && Nat.beq o' o && Nat.blt i hn with
    | true => some []
    | false => none
  | .agg l, .agg l' => TV.getL hn l l'
  | _, _ => none
def TV.getL (hn : Nat) : List TV → List AV → Option (List AV)
  | [], [] => some []
  | t :: l, v :: r => match t.get hn v, TV.getL hn l r with
    | some a, some b => some (a ++ b)
    | _, _ => none
  | _, _ => none
end
mutual
def TV.fill : TV → List AV → AV × List AV
  | .hole, v :: r => (v, r)
  | .hole, [] => (.nilFn, [])
  | .int k n, r => (.int k (.c n), r)
  | .bool b, r => (.bool (.c b), r)
  | .ptr i o, r => (.ptr i o, r)
  | .agg l, r => (.agg (TV.fillL l r).1, (TV.fillL l r).2)
def TV.fillL : List TV → List AV → List AV × List AV
  | [], r => ([], r)
  | t :: l, r => ((t.fill r).1 :: (TV.fillL l (t.fill r).2).1, (TV.fillL l (t.fill r).2).2)
end
def Ptw : List AV → List AV → Prop
  | [], [] => True
  | y :: ys, z :: zs => (∀ (ρ : Pl) x, y.rel ρ x → z.rel ρ x) ∧ Ptw ys zs
  | _, _ => False
theorem Ptw.split : ∀ {a b zs : List AV}, Ptw (a ++ b) zs → ∃ u v, zs = u ++ v ∧ Ptw a u ∧ Ptw b v
  | [], b, zs, h => ⟨[], zs, rfl, trivial, h⟩
  | y :: a, b, [], h => h.elim
  | y :: a, b, z :: zs, h => by
    obtain ⟨u, v, rfl, hu, hv⟩ := Ptw.split h.2
    exact ⟨z :: u, v, rfl, ⟨h.1, hu⟩, hv⟩
theorem flat_any {a : AV} (h : a.flat = true) {ρ ρ' : Pl} {x : Value} (hx : a.rel ρ x) : a.rel ρ' x := by
  obtain rfl := AV.rel_uniq a hx (AV.flat_rel a h)
  exact AV.flat_rel a h
theorem still_any {a : AV} (h : a.still = true) {ρ ρ' : Pl} (hro : ρ'.ro = ρ.ro) {x : Value} (hx : a.rel ρ' x) : a.rel ρ x := by
  by_cases hl : ∃ i k l, a = .lst i k l
  · obtain ⟨i, k, l, rfl⟩ := hl
    unfold AV.rel at hx ⊢
    rw [← hro]
    exact hx
  · refine flat_any ?_ hx
    cases a <;> first | exact h | exact absurd ⟨_, _, _, rfl⟩ hl
/-- A placement's numbers below one. -/
def Pl.cut (ρ : Pl) (m : Nat) : Pl := ⟨fun i => if i < m then ρ i else Option.none, m, fun i n h => (by
  split at h
  · assumption
  · cases h), ρ.ro, fun i => if i < m then ρ.tv i else Option.none, fun i v h => by
  split at h
  · assumption
  · cases h⟩
theorem Pl.cut_at {ρ : Pl} {m i : Nat} (h : i < m) : ρ.cut m i = ρ i := if_pos h
theorem Pl.cut_tv {ρ : Pl} {m i : Nat} (h : i < m) : (ρ.cut m).tv i = ρ.tv i := if_pos h
theorem Pl.cut_sub {ρ : Pl} {m i n : Nat} (h : ρ.cut m i = some n) : ρ i = some n := by
  by_cases hi : i < m
  · rw [Pl.cut_at hi] at h; exact h
  · have : ρ.cut m i = Option.none := if_neg hi
    rw [this] at h
    cases h
theorem Pl.cut_pin {ρ : Pl} {m i n : Nat} (hi : i < m) (h : ρ.pin i = some n) : (ρ.cut m).pin i = some n := by
  obtain ⟨h1, h2⟩ := Pl.pin_f h
  exact Pl.pin_of ((Pl.cut_at hi).trans h1) ((Pl.cut_tv hi).trans h2)
theorem Ext.cut {ρ ρ' : Pl} (h : Ext ρ ρ') : Ext ρ (ρ'.cut ρ.top) := ⟨⟨Nat.le_refl _, h.1.ro, fun i hi => (Pl.cut_tv hi).trans (h.1.tv i hi)⟩, fun i hi => by rw [Pl.cut_at hi]; exact h.2 i hi⟩
mutual
theorem TV.get_ok {hn : Nat} {ρ ρ' : Pl} (hc0 : ∀ i n, i < hn → ρ'.pin i = some n → ρ.pin i = some n) (hro : ρ'.ro = ρ.ro) : ∀ (t : TV) {v : AV} {ys zs rest : List AV} {x : Value}, t.get hn v = some ys → Ptw ys zs → v.rel ρ' x → (t.fill (zs ++ rest)).1.rel ρ x ∧ (t.fill (zs ++ rest)).2 = rest
  | .hole, v, ys, zs, rest, x, h, hp, hx => by
    unfold TV.get at h
    split at h
    · rename_i hf
      cases h
      match zs, hp with
      | [z], hp => exact ⟨hp.1 ρ x (still_any hf hro hx), rfl⟩
      | [], hp => exact hp.elim
      | z :: z2 :: zs, hp => exact hp.2.elim
    · cases h
  | .int k n, v, ys, zs, rest, x, h, hp, hx => by
    cases v with
    | int k' m =>
      cases m with
      | c m =>
        simp only [TV.get] at h
        split at h
        · rename_i hc
          simp only [Bool.and_eq_true, decide_eq_true_eq] at hc
          obtain ⟨rfl, rfl⟩ := hc
          cases h
          match zs, hp with
          | [], _ => exact ⟨hx, rfl⟩
        · cases h
      | s m => simp [TV.get] at h
    | _ => simp [TV.get] at h
  | .bool b, v, ys, zs, rest, x, h, hp, hx => by
    cases v with
    | bool m =>
      cases m with
      | c m =>
        simp only [TV.get] at h
        split at h
        · rename_i hc
          have hc := beq_iff_eq.1 hc
          subst hc
          cases h
          match zs, hp with
          | [], _ => exact ⟨hx, rfl⟩
        · cases h
      | s m => simp [TV.get] at h
      | p m d => simp [TV.get] at h
    | _ => simp [TV.get] at h
  | .ptr i o, v, ys, zs, rest, x, h, hp, hx => by
    cases v with
    | ptr i' o' =>
      simp only [TV.get] at h
      split at h
      · rename_i hc
        simp only [Bool.and_eq_true] at hc
        have h1 := Nat.eq_of_beq_eq_true hc.1.1
        have h2 := Nat.eq_of_beq_eq_true hc.1.2
        have h3 : i < hn := Nat.le_of_ble_eq_true hc.2
        subst h1 h2
        cases h
        match zs, hp with
        | [], _ =>
          obtain ⟨n, hn, e⟩ := hx
          exact ⟨⟨n, hc0 _ _ h3 hn, e⟩, rfl⟩
      · cases h
    | _ => simp [TV.get] at h
  | .agg l, v, ys, zs, rest, x, h, hp, hx => by
    cases v with
    | agg l' =>
      simp only [TV.get] at h
      obtain ⟨xs, hxs, e⟩ := hx
      obtain ⟨h1, h2⟩ := TV.getL_ok hc0 hro l (rest := rest) h hp hxs
      exact ⟨⟨xs, h1, e⟩, h2⟩
    | _ => simp [TV.get] at h
theorem TV.getL_ok {hn : Nat} {ρ ρ' : Pl} (hc0 : ∀ i n, i < hn → ρ'.pin i = some n → ρ.pin i = some n) (hro : ρ'.ro = ρ.ro) : ∀ (l : List TV) {vs : List AV} {ys zs rest : List AV} {xs : List Value}, TV.getL hn l vs = some ys → Ptw ys zs → AV.relL ρ' vs xs → AV.relL ρ (TV.fillL l (zs ++ rest)).1 xs ∧ (TV.fillL l (zs ++ rest)).2 = rest
  | [], vs, ys, zs, rest, xs, h, hp, hx => by
    cases vs with
    | nil =>
      simp only [TV.getL] at h
      cases h
      match zs, hp with
      | [], _ => exact ⟨hx, rfl⟩
    | cons v r => simp [TV.getL] at h
  | t :: l, vs, ys, zs, rest, xs, h, hp, hx => by
    cases vs with
    | nil => simp [TV.getL] at h
    | cons v r =>
      simp only [TV.getL] at h
      split at h
      · rename_i a b ha hb
        cases h
        obtain ⟨u, w, rfl, hu, hw⟩ := hp.split
        obtain ⟨x, xs', hx1, hx2, rfl⟩ := hx
        rw [List.append_assoc]
        obtain ⟨g1, g2⟩ := TV.get_ok hc0 hro t (rest := w ++ rest) ha hu hx1
        obtain ⟨g3, g4⟩ := TV.getL_ok hc0 hro l (rest := rest) hb hw hx2
        unfold TV.fillL
        rw [g2]
        exact ⟨⟨x, xs', g1, g3, rfl⟩, g4⟩
      · cases h
end
structure Templ where
  fn : FuncId
  sz : Nat
  hn : Nat
  slots : List (Nat × TV)
  H : List (Nat × TypeId × List TV)
def getS (hn : Nat) (st : List (Nat × AV)) : List (Nat × TV) → Option (List AV)
  | [] => some []
  | (t, tv) :: r => match look st t with
    | some v => match tv.get hn v, getS hn st r with
      | some a, some b => some (a ++ b)
      | _, _ => none
    | none => none
def getH (hn : Nat) (H : Heap) : List (Nat × TypeId × List TV) → Option (List AV)
  | [] => some []
  | (i, t, l) :: r => match look H i with
    | some (.cells t' vs) => match Nat.beq t' t && Nat.blt i hn, TV.getL hn l vs, getH hn H r with
      | true, some a, some b => some (a ++ b)
      | _, _, _ => none
    | _ => none
def fillS : List (Nat × TV) → List AV → List (Nat × AV) × List AV
  | [], r => ([], r)
  | (t, tv) :: l, r => ((t, (tv.fill r).1) :: (fillS l (tv.fill r).2).1, (fillS l (tv.fill r).2).2)
def fillH : List (Nat × TypeId × List TV) → List AV → Heap × List AV
  | [], r => ([], r)
  | (i, t, l) :: m, r => ((i, .cells t (TV.fillL l r).1) :: (fillH m (TV.fillL l r).2).1, (fillH m (TV.fillL l r).2).2)
def Templ.get (tm : Templ) (st : AS) : Option (List AV) :=
  match Nat.beq st.sz tm.sz, st.defers, getS tm.hn st.slots tm.slots, getH tm.hn st.H tm.H with
  | true, [], some a, some b => some (a ++ b)
  | _, _, _, _ => none
def Templ.fill (tm : Templ) (l : List AV) : AS :=
  { fn := tm.fn, sz := tm.sz, slots := (fillS tm.slots l).1, defers := [], H := (fillH tm.H (fillS tm.slots l).2).1, hn := tm.hn }
theorem getS_ok {hn sz : Nat} {ρ ρ' : Pl} (hc0 : ∀ i n, i < hn → ρ'.pin i = some n → ρ.pin i = some n) (hro : ρ'.ro = ρ.ro) {st : List (Nat × AV)} {tmps : Array Value} (hs : SRel ρ' sz st tmps) : ∀ (l : List (Nat × TV)) {ys zs rest : List AV}, getS hn st l = some ys → Ptw ys zs → SRel ρ sz (fillS l (zs ++ rest)).1 tmps ∧ (fillS l (zs ++ rest)).2 = rest
  | [], ys, zs, rest, h, hp => by
    cases h
    match zs, hp with
    | [], _ => exact ⟨⟨hs.1, fun t v hv => by simp [fillS, look] at hv⟩, rfl⟩
  | (t, tv) :: l, ys, zs, rest, h, hp => by
    unfold getS at h
    split at h
    · rename_i v hv
      split at h
      · rename_i a b ha hb
        cases h
        obtain ⟨u, w, rfl, hu, hw⟩ := hp.split
        rw [List.append_assoc]
        obtain ⟨x, hx1, hx2⟩ := hs.2 t v hv
        obtain ⟨g1, g2⟩ := TV.get_ok hc0 hro tv (rest := w ++ rest) ha hu hx1
        obtain ⟨g3, g4⟩ := getS_ok hc0 hro hs l (rest := rest) hb hw
        unfold fillS
        rw [g2]
        refine ⟨⟨hs.1, fun t' v' hv' => ?_⟩, g4⟩
        rw [look_cons] at hv'
        by_cases e : t = t'
        · subst e
          rw [if_pos rfl] at hv'
          cases hv'
          exact ⟨x, g1, hx2⟩
        · rw [if_neg e] at hv'
          exact g3.2 t' v' hv'
      · cases h
    · cases h
theorem getH_ok {hn : Nat} {ρ ρ' : Pl} (hc0 : ∀ i n, i < hn → ρ'.pin i = some n → ρ.pin i = some n) (hro : ρ'.ro = ρ.ro) (hf0 : ∀ i, i < hn → ρ i = ρ' i) {H : Heap} {w : World} (hs : ∀ i b, look H i = some b → ∃ n o, ρ' i = some n ∧ w.heap[n]? = some o ∧ b.rel ρ' o) : ∀ (l : List (Nat × TypeId × List TV)) {ys zs rest : List AV}, getH hn H l = some ys → Ptw ys zs →
    (∀ i b, look (fillH l (zs ++ rest)).1 i = some b → ∃ n o, ρ i = some n ∧ w.heap[n]? = some o ∧ b.rel ρ o) ∧ (fillH l (zs ++ rest)).2 = rest
  | [], ys, zs, rest, h, hp => by
    cases h
    match zs, hp with
    | [], _ => exact ⟨fun i b hb => by simp [fillH, look] at hb, rfl⟩
  | (i, t, tl) :: l, ys, zs, rest, h, hp => by
    unfold getH at h
    split at h
    · rename_i t' vs hv
      split at h
      · rename_i a b hc ha hb
        cases h
        simp only [Bool.and_eq_true] at hc
        have hc1 := Nat.eq_of_beq_eq_true hc.1
        have hc2 : i < hn := Nat.le_of_ble_eq_true hc.2
        subst hc1
        obtain ⟨u, w2, rfl, hu, hw⟩ := hp.split
        rw [List.append_assoc]
        obtain ⟨n, o, hn1, ho, xs, hxs, e⟩ := hs i _ hv
        obtain ⟨g1, g2⟩ := TV.getL_ok hc0 hro tl (rest := w2 ++ rest) ha hu hxs
        obtain ⟨g3, g4⟩ := getH_ok hc0 hro hf0 hs l (rest := rest) hb hw
        unfold fillH
        rw [g2]
        refine ⟨fun i' b' hb' => ?_, g4⟩
        rw [look_cons] at hb'
        by_cases e2 : i = i'
        · subst e2
          rw [if_pos rfl] at hb'
          cases hb'
          exact ⟨n, o, by rw [hf0 _ hc2]; exact hn1, ho, xs, g1, e⟩
        · rw [if_neg e2] at hb'
          exact g3 i' b' hb'
      · cases h
    · cases h
/-- A state, seen through a template. -/
theorem Templ.get_ok {tm : Templ} {w0 : World} {m0 : Nat → Prop} {ρ ρ' : Pl} (hext : Ext ρ ρ') (ht : ρ.top = tm.hn) {st : AS} {a : Act} {w : World} (h : Rel w0 m0 ρ' st a w) {ys zs : List AV} (hg : tm.get st = some ys) (hp : Ptw ys zs) : ∃ ρ2, Ext ρ ρ2 ∧ ρ2.top = tm.hn ∧ Rel w0 m0 ρ2 (tm.fill zs) a w := by
  unfold Templ.get at hg
  split at hg
  · rename_i a1 b1 hsz hdf ha hb
    cases hg
    have hsz := Nat.eq_of_beq_eq_true hsz
    obtain ⟨u, v, rfl, hu, hv⟩ := hp.split
    have hd := h.defers
    rw [hdf] at hd
    have hc0 : ∀ i n, i < tm.hn → ρ'.pin i = some n → (ρ'.cut tm.hn).pin i = some n := fun i n hi hn => Pl.cut_pin hi hn
    have hro : ρ'.ro = (ρ'.cut tm.hn).ro := rfl
    have hf0 : ∀ i, i < tm.hn → ρ'.cut tm.hn i = ρ' i := fun i hi => Pl.cut_at hi
    obtain ⟨g1, g2⟩ := getS_ok hc0 hro h.slots tm.slots (rest := v) ha hu
    obtain ⟨g3, g4⟩ := getH_ok hc0 hro hf0 h.heap.obj tm.H (rest := []) hb hv
    rw [List.append_nil] at g3
    refine ⟨ρ'.cut tm.hn, by rw [← ht]; exact hext.cut, rfl, ?_⟩
    unfold Templ.fill
    rw [g2]
    refine ⟨by rw [← hsz]; exact g1, hd, ⟨rfl, fun i j n hi hj => ?_, fun i n hi => ?_, fun n o hn => ⟨(h.heap.ro n o hn).1, fun j hj => (h.heap.ro n o hn).2 j (Pl.cut_sub hj)⟩, g3⟩, ⟨h.inv.os, h.inv.tape, h.inv.output, h.inv.size, h.inv.keep, fun i n hi => ?_⟩⟩
    · exact h.heap.inj i j n (Pl.cut_sub hi) (Pl.cut_sub hj)
    · exact h.heap.lt i n (Pl.cut_sub hi)
    · exact h.inv.fresh i n (Pl.cut_sub hi)
  · cases hg
/-- What comes of one round: where it ends, and what is seen of its state through that end's template. -/
def leafK (tm tmR : Templ) (id : Nat) (e : AExit) (st : AS) : Tree :=
  match e with
  | .normal => match tm.get st with
    | some ys => .ret (.tup [.int .i64 (.c 0), .agg ys]) [] 0
    | none => .fail "round"
  | .exit id' => match Nat.beq id' id with
    | true => match tm.get st with
      | some ys => .ret (.tup [.int .i64 (.c 1), .agg ys]) [] 0
      | none => .fail "exit"
    | false => .fail "exit"
  | .ret => match tmR.get st with
    | some ys => .ret (.tup [.int .i64 (.c 2), .agg ys]) [] 0
    | none => .fail "return"
  | .goto _ => .fail "goto"
def leafD {X Y : Type} (decX : List AV → Option X) (decY : List AV → Option Y) (v : AV) (_ : Heap) (_ : Nat) : Option (X ⊕ (X ⊕ Y)) :=
  match v with
  | .tup [.int _ (.c (.ofNat 0)), .agg ys] => match decX ys with
    | some x => some (.inl x)
    | none => none
  | .tup [.int _ (.c (.ofNat 1)), .agg ys] => match decX ys with
    | some x => some (.inr (.inl x))
    | none => none
  | .tup [.int _ (.c (.ofNat 2)), .agg ys] => match decY ys with
    | some x => some (.inr (.inr x))
    | none => none
  | _ => none
/-- One round's tree. -/
noncomputable def roundT (P : Program) (ct : CTab) (lt : LTab) (n : Nat) (tm tmR : Templ) (id : Nat) (b : Code) (l : List AV) : Tree := run P ct lt n none b (tm.fill l) (leafK tm tmR id)
/-- A loop's kind: what its state is, and its end's. -/
structure LK (X Y : Type) where
  tm : Templ
  tmR : Templ
  decX : List AV → Option X
  encX : X → List AV
  decY : List AV → Option Y
  encY : Y → List AV
structure LK.OK {X Y : Type} (K : LK X Y) : Prop where
  x : ∀ ys x, K.decX ys = some x → Ptw ys (K.encX x)
  y : ∀ ys x, K.decY ys = some x → Ptw ys (K.encY x)
theorem leafD_ok {X Y : Type} {K : LK X Y} {id : Nat} {e : AExit} {st : AS} {r : X ⊕ (X ⊕ Y)} (h : (leafK K.tm K.tmR id e st).den fun v H hn => leafD K.decX K.decY v H hn = some r) :
    (e = .normal ∧ ∃ ys x, K.tm.get st = some ys ∧ K.decX ys = some x ∧ r = .inl x) ∨ (e = .exit id ∧ ∃ ys x, K.tm.get st = some ys ∧ K.decX ys = some x ∧ r = .inr (.inl x)) ∨ (e = .ret ∧ ∃ ys y, K.tmR.get st = some ys ∧ K.decY ys = some y ∧ r = .inr (.inr y)) := by
  unfold leafK at h
  split at h
  · split at h
    · rename_i ys hg
      have h : (match K.decX ys with
        | some x => some (.inl x)
        | none => none) = some r := h
      split at h
      · rename_i x hx
        cases h
        exact .inl ⟨rfl, ys, x, hg, hx, rfl⟩
      · cases h
    · exact h.elim
  · rename_i id'
    split at h
    · rename_i hid
      have hid := Nat.eq_of_beq_eq_true hid
      subst hid
      split at h
      · rename_i ys hg
        have h : (match K.decX ys with
        | some x => some (.inr (.inl x))
        | none => none) = some r := h
        split at h
        · rename_i x hx
          cases h
          exact .inr (.inl ⟨rfl, ys, x, hg, hx, rfl⟩)
        · cases h
      · exact h.elim
    · exact h.elim
  · split at h
    · rename_i ys hg
      have h : (match K.decY ys with
        | some x => some (.inr (.inr x))
        | none => none) = some r := h
      split at h
      · rename_i x hx
        cases h
        exact .inr (.inr ⟨rfl, ys, x, hg, hx, rfl⟩)
      · cases h
    · exact h.elim
  · exact h.elim
/-- A loop, by its round. -/
theorem loop_ok {ct : CTab} {lt : LTab} (hN : Named P) (hm : P.follows .mixedOrders = true) (hct : CtOK P ct) (hlt : LtOK P lt) {X Y : Type} {K : LK X Y} (hK : K.OK) (htm : K.tmR.hn = K.tm.hn) {step : X → Option (X ⊕ (X ⊕ Y))} {n id : Nat} {b : Code}
    (hstep : ∀ x, (roundT P ct lt n K.tm K.tmR id b (K.encX x)).opt (leafD K.decX K.decY) = step x) {x : X} {q : X ⊕ Y} (hq : rounds step x = some q) {w0 : World} {m0 : Nat → Prop} {ρ : Pl} {a : Act} {w : World} (hrel : Rel w0 m0 ρ (K.tm.fill (K.encX x)) a w) :
    (Code.loop b).wpIn (FR none) 0 P (LPost w0 m0 ρ id (fun x => K.tm.fill (K.encX x)) (fun y => K.tmR.fill (K.encY y)) q) a w := by
  obtain ⟨m, hm2⟩ := rounds_some.1 hq
  have htop : ρ.top = K.tm.hn := hrel.heap.len
  refine loop_iter (fun n a w => ∃ x ρ1, roundsN step n x = some q ∧ Ext ρ ρ1 ∧ ρ1.top = K.tm.hn ∧ Rel w0 m0 ρ1 (K.tm.fill (K.encX x)) a w) (fun a w ⟨x, ρ1, h, _⟩ => by cases h) ?_ (n := m) ⟨x, ρ, hm2, Ext.refl _, htop, hrel⟩
  rintro j a w ⟨x, ρ1, hx, hext1, htop1, hrel⟩
  cases hst : step x with
  | none => unfold roundsN at hx; rw [hst] at hx; cases hx
  | some r =>
    refine run_ok hN hm hct hlt n (fun v H hn => leafD K.decX K.decY v H hn = some r) none none b _ _ _ w0 m0 ρ1 a w (Tree.den_of_opt ((hstep x).trans hst)) trivial hrel ?_
    intro e st' ρ' a' w' hd hext hrel'
    unfold roundsN at hx
    rw [hst] at hx
    rcases leafD_ok hd with ⟨rfl, ys, y, hg, hy, rfl⟩ | ⟨rfl, ys, y, hg, hy, rfl⟩ | ⟨rfl, ys, y, hg, hy, rfl⟩
    · obtain ⟨ρ2, e2, t2, r2⟩ := Templ.get_ok hext htop1 hrel' hg (hK.x ys y hy)
      exact ⟨y, ρ2, hx, hext1.trans e2, t2, r2⟩
    · cases hx
      obtain ⟨ρ2, e2, t2, r2⟩ := Templ.get_ok hext htop1 hrel' hg (hK.x ys y hy)
      exact ⟨ρ2, hext1.trans e2, .inr rfl, r2⟩
    · cases hx
      obtain ⟨ρ2, e2, t2, r2⟩ := Templ.get_ok hext (by rw [htm]; exact htop1) hrel' hg (hK.y ys y hy)
      exact ⟨ρ2, hext1.trans e2, rfl, r2⟩
/-- The body of a block's loop. -/
def loopIn (id : Nat) : Code → Option Code
  | .block i b => match b with
    | .loop c => match Nat.beq i id with
      | true => some c
      | false => loopIn id b
    | _ => loopIn id b
  | .loop b => loopIn id b
  | .seq a b => match loopIn id a with
    | some c => some c
    | none => loopIn id b
  | .cond _ a b => match loopIn id a with
    | some c => some c
    | none => loopIn id b
  | .scope b => loopIn id b
  | _ => none
def loopOf (P : Program) (f id : Nat) : Code :=
  match nth P.funcs.toList f with
  | some fn => match fn.body with
    | some c => match loopIn id c with
      | some b => b
      | none => .skip
    | none => .skip
  | none => .skip
def szOf (P : Program) (f : Nat) : Nat :=
  match nth P.funcs.toList f with
  | some fn => fn.ntmps
  | none => 0
/-- A loop that is known, for the table. -/
noncomputable def LK.lc {X Y : Type} (K : LK X Y) (step : X → Option (X ⊕ (X ⊕ Y))) (b : Code) : LC where
  code := .loop b
  sum st := match Nat.beq st.hn K.tm.hn, K.tm.get st with
    | true, some ys => match K.decX ys with
      | some x => some { o := rounds step x, sx := fun x => K.tm.fill (K.encX x), sy := fun y => K.tmR.fill (K.encY y) }
      | none => none
    | _, _ => none
def ltOf (l : List (Nat × Nat × LC)) : LTab := fun f id =>
  match l with
  | [] => none
  | (f', id', L) :: r => match Nat.beq f' f && Nat.beq id' id with
    | true => some L
    | false => ltOf r f id
theorem ltOf_nil : LtOK P (ltOf []) := fun _ _ _ _ _ _ h => by cases h
theorem ltOf_cons {ct : CTab} {lt : LTab} (hN : Named P) (hm : P.follows .mixedOrders = true) (hct : CtOK P ct) (hlt : LtOK P lt) {X Y : Type} {K : LK X Y} (hK : K.OK) (htm : K.tmR.hn = K.tm.hn) {step : X → Option (X ⊕ (X ⊕ Y))} {n f id : Nat} {b : Code} {r : List (Nat × Nat × LC)}
    (hstep : ∀ x, (roundT P ct lt n K.tm K.tmR id b (K.encX x)).opt (leafD K.decX K.decY) = step x) (hr : LtOK P (ltOf r)) : LtOK P (ltOf ((f, id, K.lc step b) :: r)) := by
  intro fn id' L st c q hL hc hq w0 m0 ρ a w hrel
  unfold ltOf at hL
  split at hL
  · rename_i he
    simp only [Bool.and_eq_true] at he
    have h1 := Nat.eq_of_beq_eq_true he.1
    have h2 := Nat.eq_of_beq_eq_true he.2
    subst h1 h2
    cases hL
    unfold LK.lc at hc
    dsimp only at hc
    split at hc
    · rename_i ys hhn hg
      have hhn := Nat.eq_of_beq_eq_true hhn
      split at hc
      · rename_i x hx
        cases hc
        obtain ⟨ρ2, e2, t2, r2⟩ := Templ.get_ok (Ext.refl _) (by rw [hrel.heap.len, hhn]) hrel hg (hK.x ys x hx)
        refine wpIn_mono (loop_ok hN hm hct hlt hK htm hstep hq r2) ?_
        rintro e a' w' ⟨ρ', hext, h2⟩
        exact ⟨ρ', e2.trans hext, h2⟩
      · cases hc
    · cases hc
  · exact hr fn id' L st c q hL hc hq w0 m0 ρ a w hrel
/- slices that came in -/
def IntsAt (w : World) (k : IntKind) (v : Value) (l : List Int) : Prop :=
  ∃ a cap, v = .slice a l.length cap ∧ ∀ j, j < l.length → ∃ n o cs t fz, a = some ⟨n, o, none⟩ ∧ w.heap[n]? = some (.cells cs t fz) ∧ cs[o + j]? = some (.int k (l.getD j 0))
def roOf (w : World) (vs : List Value) : RO := ⟨fun i => vs[i]?, fun n => w.heap[n]?⟩
theorem rel_lst {w : World} {vs : List Value} {i : Nat} {k : IntKind} {v : Value} {l : List Int} (h : IntsAt w k v l) (hi : vs[i]? = some v) : (AV.lst i k l).rel (Pl.none 0 (roOf w vs)) v := by
  obtain ⟨a, cap, e, g⟩ := h
  exact ⟨hi, a, cap, e, g⟩
theorem relL_cons {ρ : Pl} {a : AV} {x : Value} {l : List AV} {xs : List Value} (h : a.rel ρ x) (t : AV.relL ρ l xs) : AV.relL ρ (a :: l) (x :: xs) := ⟨x, xs, h, t, rfl⟩
theorem flatV {ρ : Pl} {a : AV} {x : Value} (hf : a.flat = true) (h : a.toV = x) : a.rel ρ x := h ▸ AV.flat_rel a hf
/-- A contract out of a walk, of a function that is handed slices. -/
theorem calls_ro {ct : CTab} {lt : LTab} (hN : Named P) (hm : P.follows .mixedOrders = true) (hct : CtOK P ct) (hlt : LtOK P lt) {n : Nat} {f : FuncId} {args : List AV} {R : Type} {dec : AV → Heap → Nat → Option R} {F : Option R} {r : R}
    (ht : (walk P ct lt n f args [] 0).opt dec = F) (h : F = some r) (w : World) (vs : List Value) {xs : List Value} (hx : AV.relL (Pl.none 0 (roOf w vs)) args xs) {val : Value}
    (hv : ∀ v H hn ρ x, dec v H hn = some r → v.rel ρ x → x = val) : Calls P f xs.toArray w fun e w' => e = .returned val ∧ Below w.heap.size w w' := by
  refine (walk_ok hN hm hct hlt (Tree.den_of_opt (ht.trans h)) hx ⟨rfl, fun i j n h => (by cases h), fun i n h => (by cases h), fun n o h => ⟨h, fun j hj => (by cases hj)⟩, fun i b h => by simp [look] at h⟩).mono ?_
  rintro e w' ⟨v, H', hn', ρ', x, rfl, hd, _, hxr, _, hi⟩
  exact ⟨congrArg Ending.returned (hv v H' hn' ρ' x hd hxr), ⟨hi.os, hi.tape, hi.output, hi.size, fun k hk => hi.keep k hk (fun ⟨_, h⟩ => by cases h)⟩⟩
def dL (i : Nat) (k : IntKind) : AV → Option (List Int)
  | .lst i' k' l => match Nat.beq i' i && decide (k' = k) with
    | true => some l
    | false => none
  | _ => none
theorem dL_ok {i : Nat} {k : IntKind} {v : AV} {l : List Int} {ρ : Pl} {x : Value} (h : dL i k v = some l) (hx : v.rel ρ x) : (AV.lst i k l).rel ρ x := by
  unfold dL at h
  split at h
  · split at h
    · rename_i hc
      simp only [Bool.and_eq_true, decide_eq_true_eq] at hc
      have h1 := Nat.eq_of_beq_eq_true hc.1
      obtain ⟨_, rfl⟩ := hc
      subst h1
      cases h
      exact hx
    · cases h
  · cases h
/-- A closed law's answer. -/
def isT : AV → Bool
  | .bool q => q.v
  | _ => false
theorem calls_holds {ct : CTab} {lt : LTab} (hN : Named P) (hm : P.follows .mixedOrders = true) (hct : CtOK P ct) (hlt : LtOK P lt) {n : Nat} {f : FuncId} (ht : (walk P ct lt n f [] [] 0).holds isT = true) (w : World) :
    Calls P f #[] w fun e w' => e = .returned (.bool true) ∧ Below w.heap.size w w' := by
  refine (walk_pure hN hm hct hlt (Tree.den_of_holds ht) w (xs := []) rfl).mono ?_
  rintro e w' ⟨v, H', hn', ρ', x, rfl, hd, hx, hb⟩
  refine ⟨?_, hb⟩
  unfold isT at hd
  split at hd
  · rw [show x = _ from hx, hd]
  · cases hd
theorem calls_holds' {ct : CTab} {lt : LTab} (hN : Named P) (hm : P.follows .mixedOrders = true) (hct : CtOK P ct) (hlt : LtOK P lt) {n : Nat} {f : FuncId} (hs : (walk P ct lt n f [] [] 0).fixed = walk P ct lt n f [] [] 0) (ht : (walk P ct lt n f [] [] 0).strip.holds isT = true) (w : World) :
    Calls P f #[] w fun e w' => e = .returned (.bool true) ∧ Below w.heap.size w w' := by
  refine (walk_pure hN hm hct hlt (Tree.den_of_strip (Tree.den_of_holds ht) hs) w (xs := []) rfl).mono ?_
  rintro e w' ⟨v, H', hn', ρ', x, rfl, hd, hx, hb⟩
  refine ⟨?_, hb⟩
  unfold isT at hd
  split at hd
  · rw [show x = _ from hx, hd]
  · cases hd
end Go.Proofs.Ytlekjgjhbanimaa.SX
