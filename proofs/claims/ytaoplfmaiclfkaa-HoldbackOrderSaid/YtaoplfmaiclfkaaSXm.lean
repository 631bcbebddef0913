/- A symbolic walk: loops of a count that is not known, and contracts, by templates. -/
import Derived.Test.YtaoplfmaiclfkaaSXl
namespace Go.Proofs.Ytaoplfmaiclfkaa.SX
set_option linter.unusedVariables false
set_option linter.unusedSimpArgs false
open Go Go.RowKit
variable {P : Program}
/- rounds, until there is an answer -/
def roundsN {X Q : Type} (step : X → Option (X ⊕ Q)) : Nat → X → Option Q
  | 0, _ => none
  | n + 1, x => match step x with
    | some (.inl y) => roundsN step n y
    | some (.inr q) => some q
    | none => none
open Classical in
/-- The answer of rounds. -/
noncomputable def rounds {X Q : Type} (step : X → Option (X ⊕ Q)) (x : X) : Option Q := if h : ∃ q n, roundsN step n x = some q then some (Classical.choose h) else none
theorem roundsN_mono {X Q : Type} {step : X → Option (X ⊕ Q)} {q : Q} : ∀ (n : Nat) (x : X), roundsN step n x = some q → ∀ m, n ≤ m → roundsN step m x = some q
  | 0, x, h, _, _ => by cases h
  | n + 1, x, h, m, hm => by
    obtain ⟨m, rfl⟩ : ∃ k, m = k + 1 := ⟨m - 1, by omega⟩
    unfold roundsN at h ⊢
    split at h
    · exact roundsN_mono n _ h m (by omega)
    · exact h
    · cases h
theorem rounds_some {X Q : Type} {step : X → Option (X ⊕ Q)} {x : X} {q : Q} : rounds step x = some q ↔ ∃ n, roundsN step n x = some q := by
  classical
  unfold rounds
  constructor
  · intro h
    split at h
    · rename_i h2
      cases h
      exact Classical.choose_spec h2
    · cases h
  · rintro ⟨n, h⟩
    have h2 : ∃ q n, roundsN step n x = some q := ⟨q, n, h⟩
    rw [dif_pos h2]
    obtain ⟨m, hm⟩ := Classical.choose_spec h2
    have a := roundsN_mono n x h (max n m) (by omega)
    have b := roundsN_mono m x hm (max n m) (by omega)
    rw [a] at b
    cases b
    congr
theorem rounds_next {X Q : Type} {step : X → Option (X ⊕ Q)} {x y : X} (h : step x = some (.inl y)) : rounds step x = rounds step y := by
  apply Option.ext
  intro q
  rw [rounds_some, rounds_some]
  constructor
  · rintro ⟨n, hn⟩
    cases n with
    | zero => cases hn
    | succ n => exact ⟨n, by unfold roundsN at hn; rw [h] at hn; exact hn⟩
  · rintro ⟨n, hn⟩
    exact ⟨n + 1, by unfold roundsN; rw [h]; exact hn⟩
theorem rounds_end {X Q : Type} {step : X → Option (X ⊕ Q)} {x : X} {q : Q} (h : step x = some (.inr q)) : rounds step x = some q :=
  rounds_some.2 ⟨1, by unfold roundsN; rw [h]⟩
/- at the head of a loop -/
/-- A loop's kind: what its state is, and its end's. -/
structure LK (X Y : Type) where
  fn : Nat
  sz : Nat
  r : Bool := false
  tm : Templ
  decX : List AV → Option X
  encX : X → List AV
  rets : List (Templ × (List AV → Option Y))
  tmY : Y → Templ
  encY : Y → List AV
  ty : (Y → Tree) → Y → Tree
def mapO {A B : Type} (f : A → B) : Option A → Option B
  | some a => some (f a)
  | none => none
/-- One way to return from within. -/
def LK.one {X Y : Type} (fn sz : Nat) (r : Bool) (tm tmR : Templ) (decX : List AV → Option X) (encX : X → List AV) (decY : List AV → Option Y) (encY : Y → List AV) : LK X Y := ⟨fn, sz, r, tm, decX, encX, [(tmR, decY)], fun _ => tmR, encY, fun f y => f y⟩
/-- Two ways. -/
def LK.two {X Y Z : Type} (fn sz : Nat) (r : Bool) (tm tmR tmS : Templ) (decX : List AV → Option X) (encX : X → List AV) (decY : List AV → Option Y) (encY : Y → List AV) (decZ : List AV → Option Z) (encZ : Z → List AV) : LK X (Y ⊕ Z) :=
  ⟨fn, sz, r, tm, decX, encX, [(tmR, fun l => mapO .inl (decY l)), (tmS, fun l => mapO .inr (decZ l))], fun | .inl _ => tmR | .inr _ => tmS, fun | .inl y => encY y | .inr z => encZ z, fun f y => .sum y (fun y => f (.inl y)) (fun z => f (.inr z))⟩
def rOf : Bool → List Nat → Option Nat
  | true, j :: _ => some j
  | _, _ => none
def dOf : Bool → List Nat → List Nat
  | true, _ :: l => l
  | true, [] => []
  | false, l => l
def yldsOf (r : Option Nat) (st : AS) : List Nat :=
  match r with
  | some l => l :: st.defers
  | none => st.defers
def someB (r : Option Nat) : Bool :=
  match r with
  | some _ => true
  | none => false
def sameB : Bool → Bool → Bool
  | true, true => true
  | false, false => true
  | _, _ => false
theorem sameB_eq {a b : Bool} (h : sameB a b = true) : a = b := by cases a <;> cases b <;> first | rfl | cases h
def stayA : List Nat → Asg
  | [] => []
  | j :: l => (j, some (j, none)) :: stayA l
theorem stayA_look : ∀ {l : List Nat} {j : Nat}, j ∈ l → look (stayA l) j = some (some (j, none))
  | [], j, h => by cases h
  | k :: l, j, h => by
    unfold stayA
    rw [look_cons]
    by_cases e : k = j
    · rw [if_pos e, e]
    · rw [if_neg e]
      exact stayA_look ((List.mem_cons.1 h).resolve_left (fun h => e h.symm))
theorem stayA_parts (l : List Nat) (ρ : Pl) : Parts (stayA l) ρ := by
  induction l with
  | nil => exact fun j i v h => by simp [stayA, look] at h
  | cons k l ih =>
    intro j i v h
    unfold stayA at h
    rw [look_cons] at h
    split at h
    · cases h
    · exact ih j i v h
theorem nil_parts (ρ : Pl) : Parts [] ρ := fun j i v h => by simp [look] at h
section
variable {X Y : Type} (K : LK X Y)
def LK.see (tm : Templ) (A : Asg) (r : Option Nat) (st : AS) : Option (Asg × List AV) :=
  match Nat.beq st.fn K.fn && Nat.beq st.sz K.sz && sameB (someB r) K.r, lookL st.slots tm.keys with
  | true, some vs => tm.get A vs (yldsOf r st) st.H
  | _, _ => none
def LK.st (tm : Templ) (zs : List AV) : AS := { fn := K.fn, sz := K.sz, slots := zipS tm.keys (tm.vals zs), defers := dOf K.r tm.ylds, H := tm.heap zs, hn := tm.n }
def LK.back (tm : Templ) (A : Asg) (st : AS) (zs : List AV) : AS := { fn := st.fn, sz := st.sz, slots := renS (backAt A K.tm.stay st.hn) (zipS tm.keys (tm.vals zs)), defers := st.defers, H := renH (backAt A K.tm.stay st.hn) (tm.heap zs) ++ dropKeys (imgs A) st.H, hn := st.hn + tm.n }
end
theorem DRel.via {ρ ρr : Pl} : ∀ {is js : List Nat} {ds : List Deferred}, js.length = is.length → (∀ (k j i : Nat), js[k]? = some j → is[k]? = some i → ∀ n, ρ.pin i = some n → ρr.pin j = some n) → DRel ρ is ds → DRel ρr js ds
  | [], [], ds, _, _, h => h
  | i :: is, j :: js, ds, hl, hk, ⟨n, t, hn, ht, e⟩ => ⟨n, t, hk 0 j i rfl rfl n hn, DRel.via (by simpa using hl) (fun k j' i' hj hi => hk (k + 1) j' i' (by simpa using hj) (by simpa using hi)) ht, e⟩
  | [], _ :: _, _, hl, _, _ => by simp at hl
  | _ :: _, [], _, hl, _, _ => by simp at hl
theorem LK.see_ok {X Y : Type} {K : LK X Y} {tm : Templ} {A A' : Asg} {r : Option Nat} {st : AS} {ys zs : List AV} (h : K.see tm A r st = some (A', ys)) (hp : Ptw ys zs) :
    A.Le A' ∧ apartB (imgs A') = true ∧ keysLt tm.n A' = true ∧ st.fn = K.fn ∧ st.sz = K.sz ∧ someB r = K.r ∧ tm.ylds.length = (yldsOf r st).length ∧ (∀ (k j i : Nat), tm.ylds[k]? = some j → (yldsOf r st)[k]? = some i → look A' j = some (some (i, none))) ∧
    ∀ {w0 : World} {m0 : MS} {ρ : Pl} {a : Act} {w : World} {rn : Option Nat}, Rel w0 m0 ρ st a w → RR ρ r rn → (∀ p ∈ eqsH A' st.H tm.H, p.1 = p.2) → Parts A ρ → Rel w0 m0 (ρ.pull A' tm.n) (K.st tm zs) a w ∧ RR (ρ.pull A' tm.n) (rOf K.r tm.ylds) rn := by
  unfold LK.see at h
  split at h
  · rename_i vs hc hvs
    simp only [Bool.and_eq_true] at hc
    have hfn := Nat.eq_of_beq_eq_true hc.1.1
    have hsz := Nat.eq_of_beq_eq_true hc.1.2
    have hr := sameB_eq hc.2
    obtain ⟨h1, h2, h3, h4, h5, h6⟩ := tm.get_ok h hp
    refine ⟨h1, h2, h3, hfn, hsz, hr, h4, h5, fun {w0 m0 ρ a w rn} hrel hrr he hP => ?_⟩
    obtain ⟨xs, k1, k2, k3⟩ := lookL_rel hrel.slots hvs
    obtain ⟨g1, g2⟩ := h6 k1 ⟨hrel.heap.inj, hrel.heap.lt, hrel.heap.ro⟩ hrel.heap.obj he hP
    have hpin : ∀ (k j i : Nat), tm.ylds[k]? = some j → (yldsOf r st)[k]? = some i → ∀ n, ρ.pin i = some n → (ρ.pull A' tm.n).pin j = some n := fun k j i hj hi n hn => (Pl.pull_fit h3).pin j i (h5 k j i hj hi) n hn
    have hslots : SRel (ρ.pull A' tm.n) K.sz (zipS tm.keys (tm.vals zs)) a.tmps := ⟨by rw [← hsz]; exact hrel.slots.1, zipS_rel g1 k2 k3⟩
    have hinv : Inv w0 m0 (ρ.pull A' tm.n) w := ⟨hrel.inv.os, hrel.inv.tape, hrel.inv.output, hrel.inv.size, hrel.inv.keep, fun j n hj => by
      obtain ⟨_, i, _, _, hi⟩ := Pl.pull_some hj
      exact hrel.inv.fresh i n hi, hrel.inv.roF⟩
    cases r with
    | none =>
      have hr : K.r = false := hr.symm
      unfold LK.st
      rw [hr]
      cases rn with
      | some _ => exact hrr.elim
      | none => exact ⟨⟨hslots, DRel.via h4 hpin hrel.defers, g2, hinv⟩, trivial⟩
    | some l =>
      have hr : K.r = true := hr.symm
      unfold LK.st
      rw [hr]
      cases rn with
      | none => exact hrr.elim
      | some n =>
        cases hy : tm.ylds with
        | nil => rw [hy] at h4; simp [yldsOf] at h4
        | cons j js =>
          rw [hy] at h4 hpin
          refine ⟨⟨hslots, DRel.via (js := js) (is := st.defers) (by simpa [yldsOf] using h4) (fun k j' i' hj hi => hpin (k + 1) j' i' (by simpa using hj) (by simpa [yldsOf] using hi)) hrel.defers, g2, hinv⟩, ?_⟩
          exact hpin 0 j l rfl rfl n hrr
  · cases h
/-- What comes of one round: where it ends, and what is seen of its state through that end's template. -/
def leafAt {X Y : Type} (K : LK X Y) (tm : Templ) (tag : Nat) (st : AS) : Tree :=
  match K.see tm (stayA K.tm.stay) (rOf K.r K.tm.ylds) st with
  | some (A, ys) => sameIf (eqsH A st.H tm.H) (.ret (.tup [.int .i64 (.c (.ofNat tag)), .agg ys]) [] 0)
  | none => .fail "round"
def leafR {X Y : Type} (K : LK X Y) (st : AS) : Nat → List (Templ × (List AV → Option Y)) → Tree
  | _, [] => .fail "return"
  | tag, (tm, _) :: r => match K.see tm (stayA K.tm.stay) (rOf K.r K.tm.ylds) st with
    | some (A, ys) => sameIf (eqsH A st.H tm.H) (.ret (.tup [.int .i64 (.c (.ofNat tag)), .agg ys]) [] 0)
    | none => leafR K st (tag + 1) r
def leafK {X Y : Type} (K : LK X Y) (id : Nat) (e : AExit) (st : AS) : Tree :=
  match e with
  | .normal => leafAt K K.tm 0 st
  | .exit id' => match Nat.beq id' id with
    | true => leafAt K K.tm 1 st
    | false => .fail "exit"
  | .ret => leafR K st 2 K.rets
  | .goto _ => .fail "goto"
def leafD {X Y : Type} (decX : List AV → Option X) (rets : List (Templ × (List AV → Option Y))) (v : AV) (_ : Heap) (_ : Nat) : Option (X ⊕ (X ⊕ Y)) :=
  match v with
  | .tup [.int _ (.c (.ofNat 0)), .agg ys] => match decX ys with
    | some x => some (.inl x)
    | none => none
  | .tup [.int _ (.c (.ofNat 1)), .agg ys] => match decX ys with
    | some x => some (.inr (.inl x))
    | none => none
  | .tup [.int _ (.c (.ofNat (n + 2))), .agg ys] => match nth rets n with
    | some (_, d) => match d ys with
      | some x => some (.inr (.inr x))
      | none => none
    | none => none
  | _ => none
/-- One round's tree. -/
noncomputable def roundT {X Y : Type} (P : Program) (ct : CTab) (lt : LTab) (n : Nat) (K : LK X Y) (id : Nat) (b : Code) (l : List AV) : Tree := run P ct lt n (rOf K.r K.tm.ylds) b (K.st K.tm l) (leafK K id)
structure LK.OK {X Y : Type} (K : LK X Y) : Prop where
  x : ∀ ys x, K.decX ys = some x → Ptw ys (K.encX x)
  y : ∀ p ∈ K.rets, ∀ ys y, p.2 ys = some y → K.tmY y = p.1 ∧ Ptw ys (K.encY y)
  stay : ∀ j ∈ K.tm.stay, j < K.tm.n
  ylds : ∀ j ∈ K.tm.ylds, j ∈ K.tm.stay
  yldsR : ∀ y, (K.tmY y).ylds = K.tm.ylds
  ty : ∀ (f : Y → Tree) y φ, (K.ty f y).den φ → (f y).den φ
theorem LK.one_ok {X Y : Type} {fn sz : Nat} {r : Bool} {tm tmR : Templ} {decX : List AV → Option X} {encX : X → List AV} {decY : List AV → Option Y} {encY : Y → List AV} (hx : ∀ ys x, decX ys = some x → Ptw ys (encX x)) (hy : ∀ ys y, decY ys = some y → Ptw ys (encY y)) (hs : ∀ j ∈ tm.stay, j < tm.n) (hyl : ∀ j ∈ tm.ylds, j ∈ tm.stay) (he : tmR.ylds = tm.ylds) : (LK.one fn sz r tm tmR decX encX decY encY).OK :=
  { x := hx, stay := hs, ylds := hyl, yldsR := fun _ => he, ty := fun _ _ _ h => h, y := fun p hp ys y h => by
      rcases List.mem_cons.1 hp with rfl | hp
      · exact ⟨rfl, hy ys y h⟩
      · cases hp }
theorem mapO_some {A B : Type} {f : A → B} {o : Option A} {b : B} (h : mapO f o = some b) : ∃ a, o = some a ∧ f a = b := by
  cases o with
  | none => cases h
  | some a => exact ⟨a, rfl, Option.some.inj h⟩
theorem LK.two_ok {X Y Z : Type} {fn sz : Nat} {r : Bool} {tm tmR tmS : Templ} {decX : List AV → Option X} {encX : X → List AV} {decY : List AV → Option Y} {encY : Y → List AV} {decZ : List AV → Option Z} {encZ : Z → List AV} (hx : ∀ ys x, decX ys = some x → Ptw ys (encX x)) (hy : ∀ ys y, decY ys = some y → Ptw ys (encY y)) (hz : ∀ ys y, decZ ys = some y → Ptw ys (encZ y)) (hs : ∀ j ∈ tm.stay, j < tm.n) (hyl : ∀ j ∈ tm.ylds, j ∈ tm.stay) (he : tmR.ylds = tm.ylds) (hf : tmS.ylds = tm.ylds) : (LK.two fn sz r tm tmR tmS decX encX decY encY decZ encZ).OK :=
  { x := hx, stay := hs, ylds := hyl, yldsR := fun y => (by cases y <;> assumption), ty := fun f y φ h => (by cases y <;> exact h), y := fun p hp ys y h => by
      rcases List.mem_cons.1 hp with rfl | hp
      · obtain ⟨a, ha, rfl⟩ := mapO_some h
        exact ⟨rfl, hy ys a ha⟩
      · rcases List.mem_cons.1 hp with rfl | hp
        · obtain ⟨a, ha, rfl⟩ := mapO_some h
          exact ⟨rfl, hz ys a ha⟩
        · cases hp }
theorem leafAt_ok {X Y : Type} {K : LK X Y} {tm : Templ} {tag : Nat} {st : AS} {φ : AV → Heap → Nat → Prop} (h : (leafAt K tm tag st).den φ) : ∃ A ys, K.see tm (stayA K.tm.stay) (rOf K.r K.tm.ylds) st = some (A, ys) ∧ (∀ p ∈ eqsH A st.H tm.H, p.1 = p.2) ∧ φ (.tup [.int .i64 (.c (.ofNat tag)), .agg ys]) [] 0 := by
  unfold leafAt at h
  split at h
  · rename_i A ys hs
    obtain ⟨h1, h2⟩ := sameIf_den h
    exact ⟨A, ys, hs, h1, h2⟩
  · exact h.elim
theorem leafR_ok {X Y : Type} {K : LK X Y} {st : AS} {φ : AV → Heap → Nat → Prop} : ∀ {l : List (Templ × (List AV → Option Y))} {tag : Nat}, (leafR K st tag l).den φ → ∃ n p A ys, nth l n = some p ∧ K.see p.1 (stayA K.tm.stay) (rOf K.r K.tm.ylds) st = some (A, ys) ∧ (∀ q ∈ eqsH A st.H p.1.H, q.1 = q.2) ∧ φ (.tup [.int .i64 (.c (.ofNat (tag + n))), .agg ys]) [] 0
  | [], _, h => h.elim
  | (tm, d) :: r, tag, h => by
    unfold leafR at h
    split at h
    · rename_i A ys hs
      obtain ⟨h1, h2⟩ := sameIf_den h
      exact ⟨0, (tm, d), A, ys, rfl, hs, h1, h2⟩
    · obtain ⟨n, p, A, ys, h1, h2, h3, h4⟩ := leafR_ok h
      exact ⟨n + 1, p, A, ys, h1, h2, h3, by rw [show tag + (n + 1) = tag + 1 + n by omega]; exact h4⟩
theorem leafD_ok {X Y : Type} {K : LK X Y} {id : Nat} {e : AExit} {st : AS} {r : X ⊕ (X ⊕ Y)} (h : (leafK K id e st).den fun v H hn => leafD K.decX K.rets v H hn = some r) :
    (e = .normal ∧ ∃ A ys x, K.see K.tm (stayA K.tm.stay) (rOf K.r K.tm.ylds) st = some (A, ys) ∧ (∀ p ∈ eqsH A st.H K.tm.H, p.1 = p.2) ∧ K.decX ys = some x ∧ r = .inl x) ∨
    (e = .exit id ∧ ∃ A ys x, K.see K.tm (stayA K.tm.stay) (rOf K.r K.tm.ylds) st = some (A, ys) ∧ (∀ p ∈ eqsH A st.H K.tm.H, p.1 = p.2) ∧ K.decX ys = some x ∧ r = .inr (.inl x)) ∨
    (e = .ret ∧ ∃ p ∈ K.rets, ∃ A ys y, K.see p.1 (stayA K.tm.stay) (rOf K.r K.tm.ylds) st = some (A, ys) ∧ (∀ q ∈ eqsH A st.H p.1.H, q.1 = q.2) ∧ p.2 ys = some y ∧ r = .inr (.inr y)) := by
  unfold leafK at h
  split at h
  · obtain ⟨A, ys, h1, h2, h3⟩ := leafAt_ok h
    have h3 : (match K.decX ys with
      | some x => some (.inl x)
      | none => none) = some r := h3
    split at h3
    · rename_i x hx
      cases h3
      exact .inl ⟨rfl, A, ys, x, h1, h2, hx, rfl⟩
    · cases h3
  · rename_i id'
    split at h
    · rename_i hid
      obtain rfl := Nat.eq_of_beq_eq_true hid
      obtain ⟨A, ys, h1, h2, h3⟩ := leafAt_ok h
      have h3 : (match K.decX ys with
        | some x => some (.inr (.inl x))
        | none => none) = some r := h3
      split at h3
      · rename_i x hx
        cases h3
        exact .inr (.inl ⟨rfl, A, ys, x, h1, h2, hx, rfl⟩)
      · cases h3
    · exact h.elim
  · obtain ⟨n, p, A, ys, hp, h1, h2, h3⟩ := leafR_ok h
    rw [show 2 + n = n + 2 by omega] at h3
    have h3 : (match nth K.rets n with
      | some (_, d) => match d ys with
        | some x => some (.inr (.inr x))
        | none => none
      | none => none) = some r := h3
    rw [hp] at h3
    dsimp only at h3
    split at h3
    · rename_i x hx
      cases h3
      exact .inr (.inr ⟨rfl, p, List.mem_of_getElem? (by rw [← nth_eq]; exact hp), A, ys, x, h1, h2, hx, rfl⟩)
    · cases h3
  · exact h.elim
/-- A loop, by its round. -/
theorem loop_ok {ct : CTab} {lt : LTab} (hN : Named P) (hm : P.follows .mixedOrders = true) (hct : CtOK P ct) (hlt : LtOK P lt) {X Y : Type} {K : LK X Y} (hK : K.OK) {step : X → Option (X ⊕ (X ⊕ Y))} {n id : Nat} {b : Code}
    (hfix : ∀ x, (roundT P ct lt n K id b (K.encX x)).fixed = roundT P ct lt n K id b (K.encX x)) (hstep : ∀ x, (roundT P ct lt n K id b (K.encX x)).strip.opt (leafD K.decX K.rets) = step x) {x : X} {q : X ⊕ Y} (hq : rounds step x = some q) {w0 : World} {m0 : MS} {ρ : Pl} {a : Act} {w : World} {rn : Option Nat} (hrel : Rel w0 m0 ρ (K.st K.tm (K.encX x)) a w) (hrr : RR ρ (rOf K.r K.tm.ylds) rn) :
    (Code.loop b).wpIn (FR rn) 0 P (fun e a' w' => ∃ ρ', Keep K.tm.stay ρ ρ' ∧ RO.Le ρ.ro ρ'.ro ∧ match q with
      | .inl x => (e = .normal ∨ e = .exit id) ∧ Rel w0 m0 ρ' (K.st K.tm (K.encX x)) a' w'
      | .inr y => e = .ret ∧ Rel w0 m0 ρ' (K.st (K.tmY y) (K.encY y)) a' w') a w := by
  obtain ⟨m, hm2⟩ := rounds_some.1 hq
  refine loop_iter (fun n a w => ∃ x ρ1, roundsN step n x = some q ∧ Keep K.tm.stay ρ ρ1 ∧ RO.Le ρ.ro ρ1.ro ∧ Rel w0 m0 ρ1 (K.st K.tm (K.encX x)) a w ∧ RR ρ1 (rOf K.r K.tm.ylds) rn) (fun a w ⟨x, ρ1, h, _⟩ => by cases h) ?_ (n := m) ⟨x, ρ, hm2, Keep.refl _ _, RO.Le.refl _, hrel, hrr⟩
  rintro j a w ⟨x, ρ1, hx, hk1, hro1, hrel, hrr⟩
  have htop1 : ρ1.top = K.tm.n := hrel.heap.len
  cases hst : step x with
  | none => unfold roundsN at hx; rw [hst] at hx; cases hx
  | some r =>
    refine run_ok hN hm hct hlt n (fun v H hn => leafD K.decX K.rets v H hn = some r) (rOf K.r K.tm.ylds) rn b _ _ _ w0 m0 ρ1 a w (Tree.den_of_strip (Tree.den_of_opt ((hstep x).trans hst)) (hfix x)) hrr hrel ?_
    intro e st' ρ' a' w' hd hext hrel'
    unfold roundsN at hx
    rw [hst] at hx
    have hrr' := hrr.mono hext
    have keep : ∀ {tm : Templ} {A : Asg} {ys : List AV}, K.see tm (stayA K.tm.stay) (rOf K.r K.tm.ylds) st' = some (A, ys) → ∀ {zs : List AV}, Ptw ys zs → Keep K.tm.stay ρ (ρ'.pull A tm.n) := fun {tm A ys} hs {zs} hp => by
      obtain ⟨h1, h2, h3, _⟩ := LK.see_ok hs hp
      exact hk1.trans (Keep.of hext (fun j hj => h1 _ _ (stayA_look hj)) (fun j hj => by rw [htop1]; exact hK.stay j hj) h3)
    rcases leafD_ok hd with ⟨rfl, A, ys, y, hg, he, hy, rfl⟩ | ⟨rfl, A, ys, y, hg, he, hy, rfl⟩ | ⟨rfl, p, hp, A, ys, y, hg, he, hy, rfl⟩
    · obtain ⟨_, _, _, _, _, _, _, _, h9⟩ := LK.see_ok hg (hK.x ys y hy)
      obtain ⟨g1, g2⟩ := h9 hrel' hrr' he (stayA_parts _ _)
      exact ⟨y, _, hx, keep hg (hK.x ys y hy), hro1.trans hext.1.ro, g1, g2⟩
    · cases hx
      obtain ⟨_, _, _, _, _, _, _, _, h9⟩ := LK.see_ok hg (hK.x ys y hy)
      obtain ⟨g1, g2⟩ := h9 hrel' hrr' he (stayA_parts _ _)
      exact ⟨_, keep hg (hK.x ys y hy), hro1.trans hext.1.ro, .inr rfl, g1⟩
    · cases hx
      obtain ⟨hty, hpy⟩ := hK.y p hp ys y hy
      obtain ⟨_, _, _, _, _, _, _, _, h9⟩ := LK.see_ok hg hpy
      obtain ⟨g1, g2⟩ := h9 hrel' hrr' he (stayA_parts _ _)
      exact ⟨_, keep hg hpy, hro1.trans hext.1.ro, rfl, by rw [hty]; exact g1⟩
/-- May a template's numbers go, and be put back? -/
def entryB (hn : Nat) (S : List Nat) (H : Heap) : Asg → Bool
  | [] => true
  | (j, some (i, _)) :: r => match Nat.blt i hn with
    | true => match isIn j S with
      | true => entryB hn S H r
      | false => match look H i with
        | some (.vec _ _ _ _ _) => entryB hn S H r
        | _ => false
    | false => false
  | (_, none) :: r => entryB hn S H r
theorem entryB_spec {hn : Nat} {S : List Nat} {H : Heap} : ∀ {A : Asg}, entryB hn S H A = true → ∀ j i c, look A j = some (some (i, c)) → i < hn ∧ (j ∈ S ∨ ∃ e t z n l, look H i = some (.vec e t z n l))
  | [], _, j, i, c, h => by simp [look] at h
  | (t, none) :: r, hb, j, i, c, h => by
    rw [look_cons] at h
    by_cases e : t = j
    · rw [if_pos e] at h; cases h
    · rw [if_neg e] at h
      exact entryB_spec (A := r) hb j i c h
  | (t, some (y, d)) :: r, hb, j, i, c, h => by
    unfold entryB at hb
    split at hb
    · rename_i hlt
      have htail : entryB hn S H r = true ∧ (t ∈ S ∨ ∃ e t z n l, look H y = some (.vec e t z n l)) := by
        split at hb
        · rename_i hs
          exact ⟨hb, .inl (isIn_spec.1 hs)⟩
        · split at hb
          · exact ⟨hb, .inr ⟨_, _, _, _, _, ‹_›⟩⟩
          · cases hb
      rw [look_cons] at h
      by_cases e : t = j
      · rw [if_pos e] at h
        cases h
        subst e
        exact ⟨Nat.le_of_ble_eq_true hlt, htail.2⟩
      · rw [if_neg e] at h
        exact entryB_spec (A := r) htail.1 j i c h
    · cases hb
def stayB (A : Asg) : List Nat → Bool
  | [] => true
  | j :: l => match look A j with
    | some (some (_, none)) => stayB A l
    | _ => false
theorem stayB_spec {A : Asg} : ∀ {l : List Nat}, stayB A l = true → ∀ j ∈ l, ∃ i, look A j = some (some (i, none))
  | [], _, j, h => by cases h
  | k :: l, hb, j, h => by
    unfold stayB at hb
    split at hb
    · rename_i i hi
      rcases List.mem_cons.1 h with rfl | h
      · exact ⟨i, hi⟩
      · exact stayB_spec hb j h
    · cases hb
theorem entry_move {hn : Nat} {S : List Nat} {H : Heap} {A : Asg} (hb : entryB hn S H A = true) {ρ : Pl} {w : World} (ho : HObj ρ H w) : ∀ j i c, look A j = some (some (i, c)) → j ∈ S ∨ ∃ v, ρ.tv i = some v := fun j i c hj => by
  rcases (entryB_spec hb j i c hj).2 with h | ⟨e, t, z, n, l, h⟩
  · exact .inl h
  · obtain ⟨_, hh⟩ := ho i _ h
    rcases hh with ⟨h1, _⟩ | ⟨g, off, cap, cur, xs, _, h2, _⟩
    · exact .inr ⟨_, h1⟩
    · exact .inr ⟨_, h2⟩
/-- The body of a block's loop. -/
def loopIn (id : Nat) : Code → Option Code
  | .block i b => match b with
    | .loop c => match Nat.beq i id with
      | true => some c
      | false => loopIn id b
    | _ => loopIn id b
  | .loop b => loopIn id b
  | .seq a b => match loopIn id a with
    | some c => some c
    | none => loopIn id b
  | .cond _ a b => match loopIn id a with
    | some c => some c
    | none => loopIn id b
  | .scope b => loopIn id b
  | .rangeFunc _ _ a b => match loopIn id a with
    | some c => some c
    | none => loopIn id b
  | _ => none
def loopOf (P : Program) (f id : Nat) : Code :=
  match nth P.funcs.toList f with
  | some fn => match fn.body with
    | some c => match loopIn id c with
      | some b => b
      | none => .skip
    | none => .skip
  | none => .skip
def szOf (P : Program) (f : Nat) : Nat :=
  match nth P.funcs.toList f with
  | some fn => fn.ntmps
  | none => 0
/-- The statements of a function that range over functions: their parameters, what they assign, and their bodies. -/
def rangesIn : Code → List (Array Tmp × Code × Code)
  | .block _ b => rangesIn b
  | .loop b => rangesIn b
  | .seq a b => rangesIn a ++ rangesIn b
  | .cond _ a b => rangesIn a ++ rangesIn b
  | .scope b => rangesIn b
  | .rangeFunc _ ps a b => (ps, a, b) :: (rangesIn a ++ rangesIn b)
  | _ => []
def rangeOf (P : Program) (f k : Nat) : Array Tmp × Code × Code :=
  match nth P.funcs.toList f with
  | some fn => match fn.body with
    | some c => match nth (rangesIn c) k with
      | some p => p
      | none => (#[], .skip, .skip)
    | none => (#[], .skip, .skip)
  | none => (#[], .skip, .skip)
/-- A loop that is known, for the table. -/
noncomputable def LK.lc {X Y : Type} (K : LK X Y) (step : X → Option (X ⊕ (X ⊕ Y))) (b : Code) : LC where
  code := .loop b
  sum r st := match K.see K.tm [] r st with
    | some (A, ys) => match entryB st.hn K.tm.stay st.H A && stayB A K.tm.stay, K.decX ys with
      | true, some x => some { o := rounds step x, sx := fun x => K.back K.tm A st (K.encX x), sy := fun y => K.back (K.tmY y) A st (K.encY y), ty := fun k y => K.ty (fun y => k (K.back (K.tmY y) A st (K.encY y))) y, eqs := eqsH A st.H K.tm.H }
      | _, _ => none
    | none => none
def ltOf (l : List (Nat × Nat × LC)) : LTab := fun f id =>
  match l with
  | [] => none
  | (f', id', L) :: r => match Nat.beq f' f && Nat.beq id' id with
    | true => some L
    | false => ltOf r f id
theorem ltOf_nil : LtOK P (ltOf []) := fun _ _ _ _ _ _ _ h => by cases h
theorem DRel.back {ρ ρ' : Pl} {B : Nat → Nat} (h : Ren B ρ ρ') : ∀ {js is : List Nat} {ds : List Deferred}, js.length = is.length → (∀ (k j i : Nat), js[k]? = some j → is[k]? = some i → B j = i) → DRel ρ js ds → DRel ρ' is ds
  | [], [], ds, _, _, h => h
  | j :: js, i :: is, ds, hl, hk, ⟨n, t, hn, ht, e⟩ => by
    have e1 : B j = i := hk 0 j i rfl rfl
    exact ⟨n, t, by rw [← e1]; exact h.pin j n hn, DRel.back h (by simpa using hl) (fun k j' i' hj hi => hk (k + 1) j' i' (by simpa using hj) (by simpa using hi)) ht, e⟩
  | [], _ :: _, _, hl, _, _ => by simp at hl
  | _ :: _, [], _, hl, _, _ => by simp at hl
theorem ltOf_cons {ct : CTab} {lt : LTab} (hN : Named P) (hm : P.follows .mixedOrders = true) (hct : CtOK P ct) (hlt : LtOK P lt) {X Y : Type} {K : LK X Y} (hK : K.OK) {step : X → Option (X ⊕ (X ⊕ Y))} {n f id : Nat} {b : Code} {r : List (Nat × Nat × LC)}
    (hfix : ∀ x, (roundT P ct lt n K id b (K.encX x)).fixed = roundT P ct lt n K id b (K.encX x)) (hstep : ∀ x, (roundT P ct lt n K id b (K.encX x)).strip.opt (leafD K.decX K.rets) = step x) (hr : LtOK P (ltOf r)) : LtOK P (ltOf ((f, id, K.lc step b) :: r)) := by
  intro fn id' L rr st c q hL hc heq hq rn w0 m0 ρ a w hrr hrel
  unfold ltOf at hL
  split at hL
  · rename_i he
    simp only [Bool.and_eq_true] at he
    have h1 := Nat.eq_of_beq_eq_true he.1
    have h2 := Nat.eq_of_beq_eq_true he.2
    subst h1 h2
    cases hL
    unfold LK.lc at hc
    dsimp only at hc
    split at hc
    · rename_i A ys hg
      split at hc
      · rename_i x hb hx
        simp only [Bool.and_eq_true] at hb
        cases hc
        obtain ⟨_, s2, s3, s4, s5, s6, s7, s8, s9⟩ := LK.see_ok hg (hK.x ys x hx)
        obtain ⟨g1, g2⟩ := s9 (w0 := w0) (m0 := m0) hrel hrr heq (nil_parts _)
        have g1' : Rel w (ρ.pull A K.tm.n).ms (ρ.pull A K.tm.n) (K.st K.tm (K.encX x)) a w := ⟨g1.slots, g1.defers, g1.heap, Inv.self _ w⟩
        refine ⟨?_, fun k y φ h => hK.ty _ y φ h⟩
        refine wpIn_mono (loop_ok hN hm hct hlt hK hfix hstep hq g1' g2) ?_
        rintro e a' w' ⟨ρr, hkeep, hro, hfin⟩
        have hlt2 : ∀ j i c, look A j = some (some (i, c)) → i < st.hn := fun j i c hj => (entryB_spec hb.1 j i c hj).1
        have hmove := entry_move (ρ := ρ) (w := w) hb.1 hrel.heap.obj
        have hS := stayB_spec hb.2
        have key : ∀ {tm : Templ} {zs : List AV}, tm.ylds = K.tm.ylds → Rel w (ρ.pull A K.tm.n).ms ρr (K.st tm zs) a' w' → ∃ ρ', Ext ρ ρ' ∧ Rel w0 m0 ρ' (K.back tm A st zs) a' w' := by
          intro tm zs hyl hr2
          obtain ⟨p1, p2, p3, p4⟩ := push_ok hrel.heap s2 s3 hlt2 hS hmove hro hkeep hr2.inv hr2.heap
          refine ⟨_, p1, ⟨?_, ?_, p3, hrel.inv.eff p4⟩⟩
          · have := hr2.slots.ren p2
            unfold LK.back
            dsimp only
            rw [s5]
            exact this
          · have hd : DRel ρr (dOf K.r K.tm.ylds) a'.defers := by
              have := hr2.defers
              unfold LK.st at this
              rw [hyl] at this
              exact this
            have hback : ∀ (k j i : Nat), K.tm.ylds[k]? = some j → (yldsOf rr st)[k]? = some i → backAt A K.tm.stay st.hn j = i := fun k j i hj hi => by
              unfold backAt
              rw [isIn_spec.2 (hK.ylds j (List.mem_of_getElem? hj)), s8 k j i hj hi]
            cases hrc : rr with
            | none =>
              rw [hrc] at s6 s7 hback
              have hKr : K.r = false := s6.symm
              rw [hKr] at hd
              exact DRel.back p2 s7 hback hd
            | some l =>
              rw [hrc] at s6 s7 hback
              have hKr : K.r = true := s6.symm
              rw [hKr] at hd
              cases hy : K.tm.ylds with
              | nil => rw [hy] at s7; simp [yldsOf] at s7
              | cons j js =>
                rw [hy] at hd s7 hback
                exact DRel.back (js := js) (is := st.defers) p2 (by simpa [yldsOf] using s7) (fun k j' i' hj hi => hback (k + 1) j' i' (by simpa using hj) (by simpa [yldsOf] using hi)) hd
        cases q with
        | inl x' =>
          obtain ⟨he2, hr2⟩ := hfin
          obtain ⟨ρ', p1, p2⟩ := key rfl hr2
          exact ⟨ρ', p1, he2, p2⟩
        | inr y =>
          obtain ⟨he2, hr2⟩ := hfin
          obtain ⟨ρ', p1, p2⟩ := key (hK.yldsR y) hr2
          exact ⟨ρ', p1, he2, p2⟩
      · cases hc
    · cases hc
  · exact hr fn id' L rr st c q hL hc heq hq rn w0 m0 ρ a w hrr hrel
end Go.Proofs.Ytaoplfmaiclfkaa.SX
