/- A symbolic walk: templates of what a state holds, with numbers of their own. -/
import Derived.Test.YtaoplfmaiclfkaaSXj
namespace Go.Proofs.Ytaoplfmaiclfkaa.SX
set_option linter.unusedVariables false
set_option linter.unusedSimpArgs false
open Go Go.RowKit
/- which number of a state a template's number is; or nil -/
/-- A number, or a part of what it owns; or nil. -/
abbrev Asg := List (Nat × Option (Nat × Option AV))
def putA (A : Asg) (j : Nat) (i : Option (Nat × Option AV)) : Option Asg :=
  match look A j, i with
  | none, i => some ((j, i) :: A)
  | some (some (a, none)), some (b, none) => match Nat.beq a b with
    | true => some A
    | false => none
  | some none, none => some A
  | _, _ => none
def Asg.Le (A B : Asg) : Prop := ∀ j x, look A j = some x → look B j = some x
theorem Asg.Le.refl (A : Asg) : A.Le A := fun _ _ h => h
theorem Asg.Le.trans {A B C : Asg} (h : A.Le B) (k : B.Le C) : A.Le C := fun j x e => k j x (h j x e)
theorem putA_ok {A A' : Asg} {j : Nat} {i : Option (Nat × Option AV)} (h : putA A j i = some A') : A.Le A' ∧ look A' j = some i := by
  unfold putA at h
  split at h
  · rename_i hl
    cases h
    refine ⟨fun k x hk => ?_, by rw [look_cons, if_pos rfl]⟩
    rw [look_cons]
    by_cases e : j = k
    · subst e
      rw [hl] at hk
      cases hk
    · rw [if_neg e]
      exact hk
  · rename_i a b hl
    split at h
    · rename_i hab
      cases h
      obtain rfl := Nat.eq_of_beq_eq_true hab
      exact ⟨Asg.Le.refl _, hl⟩
    · cases h
  · rename_i hl
    cases h
    exact ⟨Asg.Le.refl _, hl⟩
  · cases h
/-- Parts of what a number owns. -/
def IsPart (i : Nat) (v : AV) : Prop := (∃ hi, v = .pre i hi) ∨ ∃ sz lo hi, v = .vw i sz lo hi
theorem IsPart.uq {i : Nat} {v : AV} (h : IsPart i v) : v.uq = true := by
  rcases h with ⟨hi, rfl⟩ | ⟨sz, lo, hi, rfl⟩ <;> rfl
def Parts (A : Asg) (ρ : Pl) : Prop := ∀ j i v, look A j = some (some (i, some v)) → IsPart i v ∧ ∃ x, v.rel ρ x
theorem putA_parts {A A' : Asg} {j : Nat} {i : Option (Nat × Option AV)} (h : putA A j i = some A') {ρ : Pl} (hA : Parts A ρ) (hn : ∀ k v, i = some (k, some v) → IsPart k v ∧ ∃ x, v.rel ρ x) : Parts A' ρ := by
  unfold putA at h
  split at h
  · rename_i hl
    cases h
    intro j' i' v hv
    rw [look_cons] at hv
    by_cases e : j = j'
    · rw [if_pos e] at hv
      cases hv
      exact hn _ _ rfl
    · rw [if_neg e] at hv
      exact hA j' i' v hv
  · split at h
    · cases h
      exact hA
    · cases h
  · cases h
    exact hA
  · cases h
/-- A placement of a template's numbers, by a state's. -/
structure Fit (A : Asg) (ρ ρT : Pl) : Prop where
  ro : ρT.ro = ρ.ro
  pin : ∀ j i, look A j = some (some (i, none)) → ∀ n, ρ.pin i = some n → ρT.pin j = some n
  tv : ∀ j i, look A j = some (some (i, none)) → ∀ v, ρ.tv i = some v → ρT.tv j = some v
  part : ∀ j i u, look A j = some (some (i, some u)) → IsPart i u → ∀ x, u.rel ρ x → ρT.tv j = some x
  nil : ∀ j, look A j = some none → ρT.tv j = some (.slice none 0 0)
theorem Fit.le {A B : Asg} {ρ ρT : Pl} (h : Fit B ρ ρT) (k : A.Le B) : Fit A ρ ρT := ⟨h.ro, fun j i hj => h.pin j i (k _ _ hj), fun j i hj => h.tv j i (k _ _ hj), fun j i u hj => h.part j i u (k _ _ hj), fun j hj => h.nil j (k _ _ hj)⟩
/-- Values that no block's place is part of. -/
def AV.still : AV → Bool
  | .lst _ _ _ _ => true
  | .ro _ _ => true
  | v => v.flat
theorem flat_any {a : AV} (h : a.flat = true) {ρ ρ' : Pl} {x : Value} (hx : a.rel ρ x) : a.rel ρ' x := by
  obtain rfl := AV.rel_uniq a (AV.flat_uq a h) hx (AV.flat_rel a h)
  exact AV.flat_rel a h
theorem still_any {a : AV} (h : a.still = true) {ρ ρ' : Pl} (hro : ρ'.ro = ρ.ro) {x : Value} (hx : a.rel ρ x) : a.rel ρ' x := by
  cases a with
  | lst i t l lo =>
    unfold AV.rel at hx ⊢
    rw [hro]
    exact hx
  | ro t l =>
    unfold AV.rel at hx ⊢
    rw [hro]
    exact hx
  | _ => exact flat_any h hx
inductive TV where
  | hole
  | int (k : IntKind) (n : Int)
  | bool (b : Bool)
  | nilPtr
  | nilSl
  | nilFn
  | nilIface
  | ptr (j o : Nat)
  | sl (j o n c : Nat)
  | own (j : Nat)
  | yld (j : Nat)
  | fn (f : FuncId) (first capt : List TV)
  | iface (t : TypeId) (v : TV)
  | agg (l : List TV)
  | tup (l : List TV)
/- what stands in the holes; and which numbers the template's are -/
mutual
def TV.get (A : Asg) : TV → AV → Option (Asg × List AV)
  | .hole, v => match v.still with
    | true => some (A, [v])
    | false => none
  | .int k n, .int k' (.c m) => match decide (k' = k) && decide (m = n) with
    | true => some (A, [])
    | false => none
  | .bool b, .bool (.c b') => match b' == b with
    | true => some (A, [])
    | false => none
  | .nilPtr, .nilPtr => some (A, [])
  | .nilSl, .nilSl => some (A, [])
  | .nilFn, .nilFn => some (A, [])
  | .nilIface, .nilIface => some (A, [])
  | .ptr j o, .ptr i o' => match Nat.beq o' o with
    | true => match putA A j (some (i, none)) with
      | some A => some (A, [])
      | none => none
    | false => none
  | .sl j o n c, .sl i o' n' c' => match Nat.beq o' o && Nat.beq n' n && Nat.beq c' c with
    | true => match putA A j (some (i, none)) with
      | some A => some (A, [])
      | none => none
    | false => none
  | .own j, .own i => match putA A j (some (i, none)) with
    | some A => some (A, [])
    | none => none
  | .own j, .pre i hi => match putA A j (some (i, some (.pre i hi))) with
    | some A => some (A, [])
    | none => none
  | .own j, .vw i sz lo hi => match putA A j (some (i, some (.vw i sz lo hi))) with
    | some A => some (A, [])
    | none => none
  | .own j, .nilSl => match putA A j none with
    | some A => some (A, [])
    | none => none
  | .yld j, .yld i => match putA A j (some (i, none)) with
    | some A => some (A, [])
    | none => none
  | .fn f a b, .fn f' a' b' => match Nat.beq f' f, TV.getL A a a' with
    | true, some (A, x) => match TV.getL A b b' with
      | some (A, y) => some (A, x ++ y)
      | none => none
    | _, _ => none
  | .iface t v, .iface t' v' => match Nat.beq t' t with
    | true => v.get A v'
    | false => none
  | .agg l, .agg l' => TV.getL A l l'
  | .tup l, .tup l' => TV.getL A l l'
  | _, _ => none
def TV.getL (A : Asg) : List TV → List AV → Option (Asg × List AV)
  | [], [] => some (A, [])
  | t :: l, v :: r => match t.get A v with
    | some (A, a) => match TV.getL A l r with
      | some (A, b) => some (A, a ++ b)
      | none => none
    | none => none
  | _, _ => none
end
mutual
def TV.fill : TV → List AV → AV × List AV
  | .hole, v :: r => (v, r)
  | .hole, [] => (.nilFn, [])
  | .int k n, r => (.int k (.c n), r)
  | .bool b, r => (.bool (.c b), r)
  | .nilPtr, r => (.nilPtr, r)
  | .nilSl, r => (.nilSl, r)
  | .nilFn, r => (.nilFn, r)
  | .nilIface, r => (.nilIface, r)
  | .ptr j o, r => (.ptr j o, r)
  | .sl j o n c, r => (.sl j o n c, r)
  | .own j, r => (.own j, r)
  | .yld j, r => (.yld j, r)
  | .fn f a b, r => match TV.fillL a r with
    | (x, r1) => match TV.fillL b r1 with
      | (y, r2) => (.fn f x y, r2)
  | .iface t v, r => match v.fill r with
    | (x, r1) => (.iface t x, r1)
  | .agg l, r => match TV.fillL l r with
    | (x, r1) => (.agg x, r1)
  | .tup l, r => match TV.fillL l r with
    | (x, r1) => (.tup x, r1)
def TV.fillL : List TV → List AV → List AV × List AV
  | [], r => ([], r)
  | t :: l, r => match t.fill r with
    | (x, r1) => match TV.fillL l r1 with
      | (y, r2) => (x :: y, r2)
end
theorem TV.fill_fn (f : FuncId) (a b : List TV) (r : List AV) : TV.fill (.fn f a b) r = (.fn f (TV.fillL a r).1 (TV.fillL b (TV.fillL a r).2).1, (TV.fillL b (TV.fillL a r).2).2) := by rw [TV.fill]
theorem TV.fill_iface (t : TypeId) (v : TV) (r : List AV) : TV.fill (.iface t v) r = (.iface t (v.fill r).1, (v.fill r).2) := by rw [TV.fill]
theorem TV.fill_agg (l : List TV) (r : List AV) : TV.fill (.agg l) r = (.agg (TV.fillL l r).1, (TV.fillL l r).2) := by rw [TV.fill]
theorem TV.fill_tup (l : List TV) (r : List AV) : TV.fill (.tup l) r = (.tup (TV.fillL l r).1, (TV.fillL l r).2) := by rw [TV.fill]
theorem TV.fillL_cons (t : TV) (l : List TV) (r : List AV) : TV.fillL (t :: l) r = ((t.fill r).1 :: (TV.fillL l (t.fill r).2).1, (TV.fillL l (t.fill r).2).2) := by rw [TV.fillL]
/-- What may stand for a hole's value. -/
def Ptw1 (y z : AV) : Prop := (∀ (ρ : Pl) x, y.rel ρ x → z.rel ρ x) ∧ ∀ t l, y = .ro t l → z = .ro t l
def Ptw : List AV → List AV → Prop
  | [], [] => True
  | y :: ys, z :: zs => Ptw1 y z ∧ Ptw ys zs
  | _, _ => False
theorem Ptw.split : ∀ {a b zs : List AV}, Ptw (a ++ b) zs → ∃ u v, zs = u ++ v ∧ Ptw a u ∧ Ptw b v
  | [], b, zs, h => ⟨[], zs, rfl, trivial, h⟩
  | y :: a, b, [], h => h.elim
  | y :: a, b, z :: zs, h => by
    obtain ⟨u, v, rfl, hu, hv⟩ := Ptw.split h.2
    exact ⟨z :: u, v, rfl, ⟨h.1, hu⟩, hv⟩
theorem Ptw.nil {zs : List AV} (h : Ptw [] zs) : zs = [] := by
  cases zs with
  | nil => rfl
  | cons z zs => exact h.elim
mutual
theorem TV.get_ok : ∀ (t : TV) {A A' : Asg} {v : AV} {ys : List AV}, t.get A v = some (A', ys) → A.Le A' ∧ (∀ {ρ : Pl} {x : Value}, v.rel ρ x → Parts A ρ → Parts A' ρ) ∧ ∀ {ρ ρT : Pl} {zs rest : List AV} {x : Value}, Fit A' ρ ρT → Ptw ys zs → v.rel ρ x → (t.fill (zs ++ rest)).1.rel ρT x ∧ (t.fill (zs ++ rest)).2 = rest
  | .hole, A, A', v, ys, h => by
    unfold TV.get at h
    split at h
    · rename_i hs
      cases h
      refine ⟨Asg.Le.refl _, fun _ h => h, fun {ρ ρT zs rest x} hf hp hx => ?_⟩
      match zs, hp with
      | [z], hp => exact ⟨hp.1.1 ρT x (still_any hs hf.ro hx), rfl⟩
      | [], hp => exact hp.elim
      | z :: z2 :: zs, hp => exact hp.2.elim
    · cases h
  | .int k n, A, A', v, ys, h => by
    unfold TV.get at h
    split at h <;> first | contradiction | skip
    all_goals try (rename_i e; cases e)
    all_goals try contradiction
    rename_i k' m
    split at h
    · rename_i hc
      simp only [Bool.and_eq_true, decide_eq_true_eq] at hc
      obtain ⟨rfl, rfl⟩ := hc
      cases h
      refine ⟨Asg.Le.refl _, fun _ h => h, fun {ρ ρT zs rest x} hf hp hx => ?_⟩
      rw [hp.nil]
      exact ⟨hx, rfl⟩
    · cases h
  | .bool b, A, A', v, ys, h => by
    unfold TV.get at h
    split at h <;> first | contradiction | skip
    all_goals try (rename_i e; cases e)
    all_goals try contradiction
    rename_i b'
    split at h
    · rename_i hc
      have hc := beq_iff_eq.1 hc
      subst hc
      cases h
      refine ⟨Asg.Le.refl _, fun _ h => h, fun {ρ ρT zs rest x} hf hp hx => ?_⟩
      rw [hp.nil]
      exact ⟨hx, rfl⟩
    · cases h
  | .nilPtr, A, A', v, ys, h => by
    cases v <;> first | (simp [TV.get] at h; done) | skip
    cases h
    exact ⟨Asg.Le.refl _, fun _ h => h, fun {ρ ρT zs rest x} hf hp hx => by rw [hp.nil]; exact ⟨hx, rfl⟩⟩
  | .nilSl, A, A', v, ys, h => by
    cases v <;> first | (simp [TV.get] at h; done) | skip
    cases h
    exact ⟨Asg.Le.refl _, fun _ h => h, fun {ρ ρT zs rest x} hf hp hx => by rw [hp.nil]; exact ⟨hx, rfl⟩⟩
  | .nilFn, A, A', v, ys, h => by
    cases v <;> first | (simp [TV.get] at h; done) | skip
    cases h
    exact ⟨Asg.Le.refl _, fun _ h => h, fun {ρ ρT zs rest x} hf hp hx => by rw [hp.nil]; exact ⟨hx, rfl⟩⟩
  | .nilIface, A, A', v, ys, h => by
    cases v <;> first | (simp [TV.get] at h; done) | skip
    cases h
    exact ⟨Asg.Le.refl _, fun _ h => h, fun {ρ ρT zs rest x} hf hp hx => by rw [hp.nil]; exact ⟨hx, rfl⟩⟩
  | .ptr j o, A, A', v, ys, h => by
    cases v <;> first | (simp [TV.get] at h; done) | skip
    rename_i i o'
    simp only [TV.get] at h
    split at h
    · rename_i ho
      obtain rfl := Nat.eq_of_beq_eq_true ho
      split at h
      · rename_i A1 hA
        cases h
        obtain ⟨h1, h2⟩ := putA_ok hA
        refine ⟨h1, fun _ hP => putA_parts hA hP (fun k v e => by cases e), fun {ρ ρT zs rest x} hf hp hx => ?_⟩
        rw [hp.nil]
        obtain ⟨n, hn, e⟩ := hx
        exact ⟨⟨n, hf.pin _ _ h2 _ hn, e⟩, rfl⟩
      · cases h
    · cases h
  | .sl j o n c, A, A', v, ys, h => by
    cases v <;> first | (simp [TV.get] at h; done) | skip
    rename_i i o' n' c'
    simp only [TV.get] at h
    split at h
    · rename_i ho
      simp only [Bool.and_eq_true] at ho
      obtain rfl := Nat.eq_of_beq_eq_true ho.1.1
      obtain rfl := Nat.eq_of_beq_eq_true ho.1.2
      obtain rfl := Nat.eq_of_beq_eq_true ho.2
      split at h
      · rename_i A1 hA
        cases h
        obtain ⟨h1, h2⟩ := putA_ok hA
        refine ⟨h1, fun _ hP => putA_parts hA hP (fun k v e => by cases e), fun {ρ ρT zs rest x} hf hp hx => ?_⟩
        rw [hp.nil]
        obtain ⟨n, hn, e⟩ := hx
        exact ⟨⟨n, hf.pin _ _ h2 _ hn, e⟩, rfl⟩
      · cases h
    · cases h
  | .own j, A, A', v, ys, h => by
    cases v <;> first | (simp [TV.get] at h; done) | skip
    · simp only [TV.get] at h
      split at h
      · rename_i A1 hA
        cases h
        obtain ⟨h1, h2⟩ := putA_ok hA
        refine ⟨h1, fun _ hP => putA_parts hA hP (fun k v e => by cases e), fun {ρ ρT zs rest x} hf hp hx => ?_⟩
        rw [hp.nil]
        exact ⟨⟨hf.nil _ h2 ▸ congrArg some (show x = _ from hx).symm, none, 0, 0, hx⟩, rfl⟩
      · cases h
    · simp only [TV.get] at h
      split at h
      · rename_i A1 hA
        cases h
        obtain ⟨h1, h2⟩ := putA_ok hA
        refine ⟨h1, fun _ hP => putA_parts hA hP (fun k v e => by cases e), fun {ρ ρT zs rest x} hf hp hx => ?_⟩
        rw [hp.nil]
        obtain ⟨e1, e2⟩ := hx
        exact ⟨⟨hf.tv _ _ h2 _ e1, e2⟩, rfl⟩
      · cases h
    · rename_i i hi
      simp only [TV.get] at h
      split at h
      · rename_i A1 hA
        cases h
        obtain ⟨h1, h2⟩ := putA_ok hA
        refine ⟨h1, fun hx hP => putA_parts hA hP (fun k v e => by cases e; exact ⟨.inl ⟨hi, rfl⟩, _, hx⟩), fun {ρ ρT zs rest x} hf hp hx => ?_⟩
        rw [hp.nil]
        refine ⟨⟨hf.part _ _ _ h2 (.inl ⟨hi, rfl⟩) x hx, ?_⟩, rfl⟩
        rcases hx with ⟨_, ⟨_, _, e⟩ | ⟨n, o, len, cap, _, _, _, e⟩⟩ <;> exact ⟨_, _, _, e⟩
      · cases h
    · rename_i i sz lo hi
      simp only [TV.get] at h
      split at h
      · rename_i A1 hA
        cases h
        obtain ⟨h1, h2⟩ := putA_ok hA
        refine ⟨h1, fun hx hP => putA_parts hA hP (fun k v e => by cases e; exact ⟨.inr ⟨sz, lo, hi, rfl⟩, _, hx⟩), fun {ρ ρT zs rest x} hf hp hx => ?_⟩
        rw [hp.nil]
        refine ⟨⟨hf.part _ _ _ h2 (.inr ⟨sz, lo, hi, rfl⟩) x hx, ?_⟩, rfl⟩
        rcases hx with ⟨_, _, ⟨_, _, e⟩ | ⟨n, o, len, cap, _, _, _, e⟩⟩ <;> exact ⟨_, _, _, e⟩
      · cases h
  | .yld j, A, A', v, ys, h => by
    cases v <;> first | (simp [TV.get] at h; done) | skip
    simp only [TV.get] at h
    split at h
    · rename_i A1 hA
      cases h
      obtain ⟨h1, h2⟩ := putA_ok hA
      refine ⟨h1, fun _ hP => putA_parts hA hP (fun k v e => by cases e), fun {ρ ρT zs rest x} hf hp hx => ?_⟩
      rw [hp.nil]
      obtain ⟨n, hn, e⟩ := hx
      exact ⟨⟨n, hf.pin _ _ h2 _ hn, e⟩, rfl⟩
    · cases h
  | .fn f a b, A, A', v, ys, h => by
    cases v <;> first | (simp [TV.get] at h; done) | skip
    rename_i f' a' b'
    simp only [TV.get] at h
    split at h
    · rename_i A1 x1 hfe ha
      obtain rfl := Nat.eq_of_beq_eq_true hfe
      split at h
      · rename_i A2 y1 hb
        cases h
        obtain ⟨h1, p1, h2⟩ := TV.getL_ok a ha
        obtain ⟨h3, p2, h4⟩ := TV.getL_ok b hb
        refine ⟨h1.trans h3, fun ⟨xs, ys, hxs, hys, e⟩ hP => p2 hys (p1 hxs hP), fun {ρ ρT zs rest x} hf hp hx => ?_⟩
        obtain ⟨u, w, rfl, hu, hw⟩ := hp.split
        obtain ⟨xs, ys, hxs, hys, e⟩ := hx
        rw [List.append_assoc]
        obtain ⟨g1, g2⟩ := h2 (rest := w ++ rest) (hf.le h3) hu hxs
        obtain ⟨g3, g4⟩ := h4 (rest := rest) hf hw hys
        rw [TV.fill_fn, g2]
        exact ⟨⟨xs, ys, g1, g3, e⟩, g4⟩
      · cases h
    · cases h
  | .iface t u, A, A', v, ys, h => by
    cases v <;> first | (simp [TV.get] at h; done) | skip
    rename_i t' u'
    simp only [TV.get] at h
    split at h
    · rename_i ht
      obtain rfl := Nat.eq_of_beq_eq_true ht
      obtain ⟨h1, p1, h2⟩ := TV.get_ok u h
      refine ⟨h1, fun ⟨y, hy, e⟩ hP => p1 hy hP, fun {ρ ρT zs rest x} hf hp hx => ?_⟩
      obtain ⟨y, hy, e⟩ := hx
      obtain ⟨g1, g2⟩ := h2 (rest := rest) hf hp hy
      rw [TV.fill_iface]
      exact ⟨⟨y, g1, e⟩, g2⟩
    · cases h
  | .agg l, A, A', v, ys, h => by
    cases v <;> first | (simp [TV.get] at h; done) | skip
    rename_i l'
    simp only [TV.get] at h
    obtain ⟨h1, p1, h2⟩ := TV.getL_ok l h
    refine ⟨h1, fun ⟨xs, hxs, e⟩ hP => p1 hxs hP, fun {ρ ρT zs rest x} hf hp hx => ?_⟩
    obtain ⟨xs, hxs, e⟩ := hx
    obtain ⟨g1, g2⟩ := h2 (rest := rest) hf hp hxs
    rw [TV.fill_agg]
    exact ⟨⟨xs, g1, e⟩, g2⟩
  | .tup l, A, A', v, ys, h => by
    cases v <;> first | (simp [TV.get] at h; done) | skip
    rename_i l'
    simp only [TV.get] at h
    obtain ⟨h1, p1, h2⟩ := TV.getL_ok l h
    refine ⟨h1, fun ⟨xs, hxs, e⟩ hP => p1 hxs hP, fun {ρ ρT zs rest x} hf hp hx => ?_⟩
    obtain ⟨xs, hxs, e⟩ := hx
    obtain ⟨g1, g2⟩ := h2 (rest := rest) hf hp hxs
    rw [TV.fill_tup]
    exact ⟨⟨xs, g1, e⟩, g2⟩
theorem TV.getL_ok : ∀ (l : List TV) {A A' : Asg} {vs ys : List AV}, TV.getL A l vs = some (A', ys) → A.Le A' ∧ (∀ {ρ : Pl} {xs : List Value}, AV.relL ρ vs xs → Parts A ρ → Parts A' ρ) ∧ ∀ {ρ ρT : Pl} {zs rest : List AV} {xs : List Value}, Fit A' ρ ρT → Ptw ys zs → AV.relL ρ vs xs → AV.relL ρT (TV.fillL l (zs ++ rest)).1 xs ∧ (TV.fillL l (zs ++ rest)).2 = rest
  | [], A, A', vs, ys, h => by
    cases vs with
    | nil =>
      cases h
      exact ⟨Asg.Le.refl _, fun _ h => h, fun {ρ ρT zs rest xs} hf hp hx => by rw [hp.nil]; exact ⟨hx, rfl⟩⟩
    | cons v vs => simp [TV.getL] at h
  | t :: l, A, A', vs, ys, h => by
    cases vs with
    | nil => simp [TV.getL] at h
    | cons v vs =>
      simp only [TV.getL] at h
      split at h
      · rename_i A1 a ha
        split at h
        · rename_i A2 b hb
          cases h
          obtain ⟨h1, p1, h2⟩ := TV.get_ok t ha
          obtain ⟨h3, p2, h4⟩ := TV.getL_ok l hb
          refine ⟨h1.trans h3, fun ⟨x, xs', hx1, hx2, e⟩ hP => p2 hx2 (p1 hx1 hP), fun {ρ ρT zs rest xs} hf hp hx => ?_⟩
          obtain ⟨u, w, rfl, hu, hw⟩ := hp.split
          obtain ⟨x, xs', hx1, hx2, e⟩ := hx
          rw [List.append_assoc]
          obtain ⟨g1, g2⟩ := h2 (rest := w ++ rest) (hf.le h3) hu hx1
          obtain ⟨g3, g4⟩ := h4 (rest := rest) hf hw hx2
          rw [TV.fillL_cons, g2]
          exact ⟨⟨x, xs', g1, g3, e⟩, g4⟩
        · cases h
      · cases h
end
/- pins, one by one -/
def putL (A : Asg) : List Nat → List Nat → Option Asg
  | [], [] => some A
  | j :: l, i :: r => match putA A j (some (i, none)) with
    | some A => putL A l r
    | none => none
  | _, _ => none
theorem putL_ok : ∀ (l : List Nat) {A A' : Asg} {r : List Nat}, putL A l r = some A' → A.Le A' ∧ l.length = r.length ∧ ∀ (k j i : Nat), l[k]? = some j → r[k]? = some i → look A' j = some (some (i, none))
  | [], A, A', r, h => by
    cases r with
    | nil =>
      cases h
      exact ⟨Asg.Le.refl _, rfl, fun k j i hj => by simp at hj⟩
    | cons i r => simp [putL] at h
  | j :: l, A, A', r, h => by
    cases r with
    | nil => simp [putL] at h
    | cons i r =>
      unfold putL at h
      split at h
      · rename_i A1 hA
        obtain ⟨h1, h2⟩ := putA_ok hA
        obtain ⟨h3, h4, h5⟩ := putL_ok l h
        refine ⟨h1.trans h3, by simp [h4], fun k j' i' hj hi => ?_⟩
        cases k with
        | zero =>
          simp at hj hi
          subst hj hi
          exact h3 _ _ h2
        | succ k => exact h5 k j' i' (by simpa using hj) (by simpa using hi)
      · cases h
theorem putL_parts : ∀ (l : List Nat) {A A' : Asg} {r : List Nat}, putL A l r = some A' → ∀ {ρ : Pl}, Parts A ρ → Parts A' ρ
  | [], A, A', r, h, ρ, hP => by
    cases r with
    | nil =>
      cases h
      exact hP
    | cons i r => simp [putL] at h
  | j :: l, A, A', r, h, ρ, hP => by
    cases r with
    | nil => simp [putL] at h
    | cons i r =>
      unfold putL at h
      split at h
      · rename_i A1 hA
        exact putL_parts l h (putA_parts hA hP (fun k v e => by cases e))
      · cases h
/- blocks -/
inductive HB where
  | cells (t : TypeId) (l : List TV)
  | vec (e : TypeId) (t : Ty) (z : Bool)
  | loop (fid : FuncId) (st : LoopState) (pe : Option (Option Nat)) (sz : Nat) (keys : List Nat) (slots : List TV) (ps : Array Tmp) (assign body : Code) (d : Nat)
  | mark
def lookL (slots : List (Nat × AV)) : List Nat → Option (List AV)
  | [] => some []
  | k :: l => match look slots k, lookL slots l with
    | some v, some r => some (v :: r)
    | _, _ => none
def zipS : List Nat → List AV → List (Nat × AV)
  | k :: l, v :: r => (k, v) :: zipS l r
  | _, _ => []
/-- What a loop's record has pending: nothing, a return, or an exit. -/
def peOf : Option (Option Nat) → Option Code
  | none => none
  | some none => some .ret
  | some (some i) => some (.exit i)
def samePE : Option Code → Option (Option Nat) → Bool
  | none, none => true
  | some .ret, some none => true
  | some (.exit i), some (some j) => Nat.beq i j
  | _, _ => false
theorem samePE_eq {a : Option Code} {b : Option (Option Nat)} (h : samePE a b = true) : a = peOf b := by
  unfold samePE at h
  split at h
  · rfl
  · rfl
  · rw [Nat.eq_of_beq_eq_true h]
    rfl
  · cases h
def sameSt : LoopState → LoopState → Bool
  | .ready, .ready => true
  | .busy, .busy => true
  | .done, .done => true
  | .exhausted, .exhausted => true
  | _, _ => false
theorem sameSt_eq {a b : LoopState} (h : sameSt a b = true) : a = b := by cases a <;> cases b <;> first | rfl | cases h
def sameL : List Nat → List Nat → Bool
  | [], [] => true
  | a :: l, b :: r => match Nat.beq a b with
    | true => sameL l r
    | false => false
  | _, _ => false
theorem sameL_eq : ∀ {l r : List Nat}, sameL l r = true → l = r
  | [], [], _ => rfl
  | a :: l, b :: r, h => by
    unfold sameL at h
    split at h
    · rename_i hab
      rw [Nat.eq_of_beq_eq_true hab, sameL_eq h]
    · cases h
  | [], _ :: _, h => by simp [sameL] at h
  | _ :: _, [], h => by simp [sameL] at h
def HB.get (A : Asg) : HB → AB → Option (Asg × List AV)
  | .cells t l, .cells t' l' => match Nat.beq t' t with
    | true => TV.getL A l l'
    | false => none
  | .vec e t z, .vec e' t' z' n l => match Nat.beq e' e && (z' || !z), Ty.castL t' t l with
    | true, some l => some (A, [.ro t l])
    | _, _ => none
  | .loop fid s pe sz keys tl ps as bd d, .loop fid' s' pe' sz' slots ps' as' bd' d' => match Nat.beq fid' fid && sameSt s' s && Nat.beq sz' sz && sameL ps'.toList ps.toList && samePE pe' pe, lookL slots keys with
    | true, some vs => match TV.getL A tl vs with
      | some (A, x) => match putA A d (some (d', none)) with
        | some A => some (A, x)
        | none => none
      | none => none
    | _, _ => none
  | .mark, .mark => some (A, [])
  | _, _ => none
def roOf (v : AV) (t : Ty) : List t.El :=
  match v with
  | .ro t' l => match Ty.castL t' t l with
    | some l => l
    | none => []
  | _ => []
def HB.fill : HB → List AV → AB × List AV
  | .cells t l, r => match TV.fillL l r with
    | (x, r1) => (.cells t x, r1)
  | .vec e t z, v :: r => (.vec e t z (.s (roOf v t).length) (roOf v t), r)
  | .vec e t z, [] => (.dead, [])
  | .loop fid s pe sz keys tl ps as bd d, r => match TV.fillL tl r with
    | (x, r1) => (.loop fid s (peOf pe) sz (zipS keys x) ps as bd d, r1)
  | .mark, r => (.mark, r)
/-- Codes that have to be alike. -/
def HB.eqs : HB → AB → List (Code × Code)
  | .loop _ _ _ _ _ _ _ as bd _, .loop _ _ _ _ _ _ as' bd' _ => [(as', as), (bd', bd)]
  | _, _ => []
theorem castL_self (t : Ty) (l : List t.El) : Ty.castL t t l = some l := by
  unfold Ty.castL
  split
  · rfl
  · rename_i h
    exfalso
    have : ∀ t : Ty, t.eq t = true := by
      intro t
      induction t with
      | int k => simp [Ty.eq]
      | bool => rfl
      | str => rfl
      | unit => rfl
      | pair a b ha hb => simp [Ty.eq, ha, hb]
      | sl t ht => simpa [Ty.eq] using ht
    rw [this] at h
    cases h
theorem lookL_rel {ρ : Pl} {sz : Nat} {slots : List (Nat × AV)} {tmps : Array Value} (h : SRel ρ sz slots tmps) : ∀ {keys : List Nat} {vs : List AV}, lookL slots keys = some vs → ∃ xs, AV.relL ρ vs xs ∧ xs.length = keys.length ∧ ∀ (i : Nat) k x, keys[i]? = some k → xs[i]? = some x → tmps[k]? = some x
  | [], vs, hv => by
    cases hv
    exact ⟨[], rfl, rfl, fun i k x hk => by simp at hk⟩
  | k :: l, vs, hv => by
    unfold lookL at hv
    split at hv
    · rename_i v r hk hl
      cases hv
      obtain ⟨x, hx1, hx2⟩ := h.2 k v hk
      obtain ⟨xs, h1, h2, h3⟩ := lookL_rel h hl
      refine ⟨x :: xs, ⟨x, xs, hx1, h1, rfl⟩, by simp [h2], fun i k' x' hk' hx' => ?_⟩
      cases i with
      | zero =>
        simp at hk' hx'
        subst hk' hx'
        exact hx2
      | succ i => exact h3 i k' x' (by simpa using hk') (by simpa using hx')
    · cases hv
theorem zipS_rel {ρ : Pl} {tmps : Array Value} : ∀ {keys : List Nat} {vs : List AV} {xs : List Value}, AV.relL ρ vs xs → xs.length = keys.length → (∀ (i : Nat) k x, keys[i]? = some k → xs[i]? = some x → tmps[k]? = some x) → ∀ t v, look (zipS keys vs) t = some v → ∃ x, v.rel ρ x ∧ tmps[t]? = some x
  | [], vs, xs, h, hl, hk, t, v, hv => by simp [zipS, look] at hv
  | k :: l, [], xs, h, hl, hk, t, v, hv => by simp [zipS, look] at hv
  | k :: l, a :: vs, _, ⟨x, xs, hx, hxs, e⟩, hl, hk, t, v, hv => by
    subst e
    unfold zipS at hv
    rw [look_cons] at hv
    by_cases e : k = t
    · subst e
      rw [if_pos rfl] at hv
      cases hv
      exact ⟨x, hx, hk 0 k x rfl rfl⟩
    · rw [if_neg e] at hv
      exact zipS_rel hxs (by simpa using hl) (fun i k' x' hk' hx' => hk (i + 1) k' x' (by simpa using hk') (by simpa using hx')) t v hv
theorem HB.get_ok (hb : HB) {A A' : Asg} {b : AB} {ys : List AV} (h : hb.get A b = some (A', ys)) : A.Le A' ∧ (∀ {ρ : Pl} {w : World} {i : Nat}, Held ρ w i b → Parts A ρ → Parts A' ρ) ∧ ∀ {ρ ρT : Pl} {w : World} {i j : Nat} {zs rest : List AV}, Fit A' ρ ρT → look A' j = some (some (i, none)) → (∀ n, ρ i = some n → ρT j = some n) → Ptw ys zs → (∀ p ∈ hb.eqs b, p.1 = p.2) → Held ρ w i b →
    Held ρT w j (hb.fill (zs ++ rest)).1 ∧ (hb.fill (zs ++ rest)).2 = rest := by
  cases hb with
  | cells t l =>
    cases b with
    | cells t' l' =>
      simp only [HB.get] at h
      split at h
      · rename_i ht
        obtain rfl := Nat.eq_of_beq_eq_true ht
        obtain ⟨h1, p1, h2⟩ := TV.getL_ok l h
        refine ⟨h1, fun ⟨n, o, hn, ho, xs, hxs, e⟩ hP => p1 hxs hP, fun {ρ ρT w i j zs rest} hf hj hfl hp he hh => ?_⟩
        obtain ⟨n, o, hn, ho, xs, hxs, e⟩ := hh
        obtain ⟨g1, g2⟩ := h2 (rest := rest) hf hp hxs
        exact ⟨⟨n, o, hfl n hn, ho, xs, g1, e⟩, g2⟩
      · cases h
    | _ => simp [HB.get] at h
  | vec e t z =>
    cases b with
    | vec e' t' z' n l =>
      simp only [HB.get] at h
      split at h
      · rename_i l2 hc hcl
        simp only [Bool.and_eq_true, Bool.or_eq_true] at hc
        obtain rfl := Nat.eq_of_beq_eq_true hc.1
        obtain ⟨e1, rfl⟩ := Ty.castL_eq hcl
        subst e1
        cases h
        refine ⟨Asg.Le.refl _, fun _ h => h, fun {ρ ρT w i j zs rest} hf hj hfl hp he hh => ?_⟩
        match zs, hp with
        | [y], hp =>
          have hy := hp.1.2 t' l rfl
          subst hy
          refine ⟨?_, rfl⟩
          show Held ρT w j (.vec e' t' z (.s (roOf (.ro t' l) t').length) (roOf (.ro t' l) t'))
          have er : roOf (.ro t' l) t' = l := by
            unfold roOf
            dsimp only
            rw [castL_self]
          rw [er]
          obtain ⟨_, hh⟩ := hh
          refine ⟨rfl, ?_⟩
          rcases hh with ⟨h1, h2⟩ | ⟨g, off, cap, cur, xs, h1, h2, h3, h4, h5, h6, h7, h8, h9⟩
          · exact .inl ⟨hf.tv _ _ hj _ h1, h2⟩
          · exact .inr ⟨g, off, cap, cur, xs, hfl _ h1, hf.tv _ _ hj _ h2, h3, fun hz => h4 (by
              rcases hc.2 with hc2 | hc2
              · exact hc2
              · rw [hz] at hc2; cases hc2), h5, h6, by rw [hf.ro]; exact h7, h8, h9⟩
        | [], hp => exact hp.elim
        | y :: y2 :: zs, hp => exact hp.2.elim
      · cases h
    | _ => simp [HB.get] at h
  | loop fid s pe sz keys tl ps as bd d =>
    cases b with
    | loop fid' s' pe' sz' slots ps' as' bd' d' =>
      simp only [HB.get] at h
      split at h
      · rename_i vs hc hvs
        simp only [Bool.and_eq_true] at hc
        obtain ⟨⟨⟨⟨hc1, hc2⟩, hc3⟩, hc4⟩, hc5⟩ := hc
        obtain rfl := samePE_eq hc5
        obtain rfl := Nat.eq_of_beq_eq_true hc1
        obtain rfl := sameSt_eq hc2
        obtain rfl := Nat.eq_of_beq_eq_true hc3
        have hps : ps' = ps := Array.toList_inj.1 (sameL_eq hc4)
        subst hps
        split at h
        · rename_i A1 x hx
          split at h
          · rename_i A2 hA2
            cases h
            obtain ⟨h1, p1, h2⟩ := TV.getL_ok tl hx
            obtain ⟨h3, h4⟩ := putA_ok hA2
            refine ⟨h1.trans h3, fun ⟨n, o, hn, ho, fn, tmps, dn, hdn, hs, e⟩ hP => (by
              obtain ⟨xs, k1, _, _⟩ := lookL_rel hs hvs
              exact putA_parts hA2 (p1 k1 hP) (fun k v e => by cases e)), fun {ρ ρT w i j zs rest} hf hj hfl hp he hh => ?_⟩
            obtain ⟨n, o, hn, ho, fn, tmps, dn, hdn, hs, e⟩ := hh
            obtain ⟨xs, k1, k2, k3⟩ := lookL_rel hs hvs
            obtain ⟨g1, g2⟩ := h2 (rest := rest) (hf.le h3) hp k1
            have e1 : as' = as := he (as', as) (.head _)
            have e2 : bd' = bd := he (bd', bd) (.tail _ (.head _))
            subst e1 e2
            exact ⟨⟨n, o, hfl n hn, ho, fn, tmps, dn, hf.pin _ _ h4 _ hdn, ⟨hs.1, zipS_rel g1 k2 k3⟩, e⟩, g2⟩
          · cases h
        · cases h
      · cases h
    | _ => simp [HB.get] at h
  | mark =>
    cases b with
    | mark =>
      cases h
      refine ⟨Asg.Le.refl _, fun _ h => h, fun {ρ ρT w i j zs rest} hf hj hfl hp he hh => ?_⟩
      rw [hp.nil]
      obtain ⟨n, o, hn, ho, e⟩ := hh
      exact ⟨⟨n, o, hfl n hn, ho, e⟩, rfl⟩
    | _ => simp [HB.get] at h
/-- A part of a slice, as a slice. -/
def HB.part (u : AV) : HB → AB → Option (List AV)
  | .vec e t z, .vec e' t' z' n l => match Nat.beq e' e, Ty.castL t' t l with
    | true, some l => match u with
      | .pre _ hi => match z' || !z with
        | true => some [.ro t (l.take hi.nat)]
        | false => none
      | .vw _ sz lo hi => match Nat.beq sz t.size && !z with
        | true => some [.ro t ((l.take hi.nat).drop lo.nat)]
        | false => none
      | _ => none
    | _, _ => none
  | _, _ => none
theorem roOf_self (t : Ty) (l : List t.El) : roOf (.ro t l) t = l := by
  unfold roOf
  dsimp only
  rw [castL_self]
theorem HB.part_ok (hb : HB) {u : AV} {b : AB} {ys : List AV} (h : hb.part u b = some ys) {ρ ρT : Pl} {w : World} {i j : Nat} {x : Value} {zs rest : List AV} (hu : IsPart i u) (hx : u.rel ρ x) (htv : ρT.tv j = some x) (hro : ρT.ro = ρ.ro) (hfl : ∀ n, ρ i = some n → ρT j = some n) (hp : Ptw ys zs) (hh : Held ρ w i b) :
    Held ρT w j (hb.fill (zs ++ rest)).1 ∧ (hb.fill (zs ++ rest)).2 = rest := by
  unfold HB.part at h
  split at h
  · rename_i e t z e' t' z' n l
    split at h
    · rename_i l2 he hcl
      obtain rfl := Nat.eq_of_beq_eq_true he
      obtain ⟨e1, rfl⟩ := Ty.castL_eq hcl
      subst e1
      obtain ⟨_, hh⟩ := hh
      have fin : ∀ {l' : List t'.El}, ys = [.ro t' l'] → Held ρT w j (.vec e' t' z (.s l'.length) l') → Held ρT w j ((HB.vec e' t' z).fill (zs ++ rest)).1 ∧ ((HB.vec e' t' z).fill (zs ++ rest)).2 = rest := by
        intro l' e hl
        subst e
        match zs, hp with
        | [y], hp =>
          have hy := hp.1.2 t' l' rfl
          subst hy
          refine ⟨?_, rfl⟩
          show Held ρT w j (.vec e' t' z (.s (roOf (.ro t' l') t').length) (roOf (.ro t' l') t'))
          rw [roOf_self]
          exact hl
        | [], hp => exact hp.elim
        | y :: y2 :: zs, hp => exact hp.2.elim
      split at h
      · rename_i i2 hi
        have e2 : i2 = i := by
          rcases hu with ⟨hi', e⟩ | ⟨sz, lo, hi', e⟩ <;> cases e
          rfl
        subst e2
        split at h
        · rename_i hz
          simp only [Bool.or_eq_true] at hz
          cases h
          obtain ⟨h0, hx⟩ := hx
          refine fin rfl ?_
          rw [SI.nat_eq]
          rcases hh with ⟨h1, h2⟩ | ⟨g, off, cap, cur, xs, h1, h2, h3, h4, h5, h6, h7, h8, h9⟩
          · rcases hx with ⟨k1, k2, k3⟩ | ⟨n2, o2, len, cap, k1, _⟩
            · refine ⟨rfl, .inl ⟨by rw [htv, k3], by simp [h2]⟩⟩
            · rw [h1] at k1; cases k1
          · rcases hx with ⟨k1, k2, k3⟩ | ⟨n2, o2, len, cap2, k1, k2, k3, k4⟩
            · rw [h2] at k1; cases k1
            · rw [h2] at k1
              cases k1
              have hle : hi.v.toNat ≤ l.length := by omega
              have hlen : (l.take hi.v.toNat).length = hi.v.toNat := by simp; omega
              have hks := Nat.mul_le_mul_right t'.size hle
              refine ⟨rfl, .inr ⟨g, off, cap, cur, xs.take (hi.v.toNat * t'.size), hfl _ h1, by rw [htv, k4, hlen], h3, fun hz2 => h4 (by
                rcases hz with hz | hz
                · exact hz
                · rw [hz2] at hz; cases hz), by rw [hlen]; omega, h6, by rw [hro]; exact AllR.take (RelT.len t') _ h7, by rw [hlen, List.length_take, h8]; omega, ?_⟩⟩
              rw [hlen, ← h9, List.take_take, Nat.min_eq_left hks]
        · cases h
      · rename_i i2 sz lo hi
        have e2 : i2 = i := by
          rcases hu with ⟨hi', e⟩ | ⟨sz', lo', hi', e⟩ <;> cases e
          rfl
        subst e2
        split at h
        · rename_i hz
          simp only [Bool.and_eq_true] at hz
          have hsz := Nat.eq_of_beq_eq_true hz.1
          have hzf : z = false := by cases z <;> simp_all
          cases h
          obtain ⟨h0, h01, hx⟩ := hx
          refine fin rfl ?_
          rw [SI.nat_eq, SI.nat_eq]
          rcases hh with ⟨h1, h2⟩ | ⟨g, off, cap, cur, xs, h1, h2, h3, h4, h5, h6, h7, h8, h9⟩
          · rcases hx with ⟨k1, k2, k3⟩ | ⟨n2, o2, len, cap, k1, _⟩
            · refine ⟨rfl, .inl ⟨by rw [htv, k3], by simp [h2]⟩⟩
            · rw [h1] at k1; cases k1
          · rcases hx with ⟨k1, k2, k3⟩ | ⟨n2, o2, len, cap2, k1, k2, k3, k4⟩
            · rw [h2] at k1; cases k1
            · rw [h2] at k1
              cases k1
              have hle : hi.v.toNat ≤ l.length := by omega
              have hlen : ((l.take hi.v.toNat).drop lo.v.toNat).length = (hi.v - lo.v).toNat := by simp; omega
              have hall := AllR.drop (RelT.len t') lo.v.toNat (AllR.take (RelT.len t') hi.v.toNat h7)
              have hxl := AllR.len (RelT.len t') hall
              have hw := window h9 hle (j := lo.v.toNat)
              have hsub : hi.v.toNat - lo.v.toNat = (hi.v - lo.v).toNat := by omega
              rw [hsub] at hw
              by_cases hc : cap = lo.v.toNat
              · have hz0 : (hi.v - lo.v).toNat = 0 := by omega
                refine ⟨rfl, .inr ⟨g, off, cap - lo.v.toNat, cur, _, hfl _ h1, ?_, h3, (fun hz2 => by rw [hzf] at hz2; cases hz2), (by rw [hlen]; omega), by omega, by rw [hro]; exact hall, hxl, ?_⟩⟩
                · rw [htv, k4, hlen]
                  show some (Value.slice (some ⟨g, if cap = lo.v.toNat then off else off + lo.v.toNat * sz, none⟩) (hi.v - lo.v).toNat (cap - lo.v.toNat)) = _
                  rw [if_pos hc]
                · rw [hlen, hz0, Nat.zero_mul, List.take_zero]
                  rw [hlen, hz0, Nat.zero_mul] at hxl
                  exact (List.length_eq_zero_iff.1 hxl).symm
              · refine ⟨rfl, .inr ⟨g, off + lo.v.toNat * t'.size, cap - lo.v.toNat, cur, _, hfl _ h1, ?_, h3, (fun hz2 => by rw [hzf] at hz2; cases hz2), (by rw [hlen]; omega), by omega, by rw [hro]; exact hall, hxl, ?_⟩⟩
                · rw [htv, k4, hlen]
                  show some (Value.slice (some ⟨g, if cap = lo.v.toNat then off else off + lo.v.toNat * sz, none⟩) (hi.v - lo.v).toNat (cap - lo.v.toNat)) = _
                  rw [if_neg hc, hsz]
                · rw [hlen]
                  exact hw
        · cases h
      · cases h
    · cases h
  · cases h
/- a memory -/
def getH (A : Asg) (H : Heap) : List (Nat × HB) → Option (Asg × List AV)
  | [] => some (A, [])
  | (j, hb) :: l => match look A j with
    | some (some (i, none)) => match look H i with
      | some b => match hb.get A b with
        | some (A, x) => match getH A H l with
          | some (A, y) => some (A, x ++ y)
          | none => none
        | none => none
      | none => none
    | some (some (i, some u)) => match look H i with
      | some b => match hb.part u b with
        | some x => match getH A H l with
          | some (A, y) => some (A, x ++ y)
          | none => none
        | none => none
      | none => none
    | some none => match hb with
      | .vec e t z => match getH A H l with
        | some (A, y) => some (A, .ro t [] :: y)
        | none => none
      | _ => none
    | none => none
def eqsH (A : Asg) (H : Heap) : List (Nat × HB) → List (Code × Code)
  | [] => []
  | (j, hb) :: l => match look A j with
    | some (some (i, none)) => match look H i with
      | some b => hb.eqs b ++ eqsH A H l
      | none => eqsH A H l
    | _ => eqsH A H l
def fillH : List (Nat × HB) → List AV → Heap × List AV
  | [], r => ([], r)
  | (j, hb) :: l, r => match hb.fill r with
    | (x, r1) => match fillH l r1 with
      | (y, r2) => ((j, x) :: y, r2)
theorem fillH_cons (j : Nat) (hb : HB) (l : List (Nat × HB)) (r : List AV) : fillH ((j, hb) :: l) r = ((j, (hb.fill r).1) :: (fillH l (hb.fill r).2).1, (fillH l (hb.fill r).2).2) := by rw [fillH]
theorem getH_ok : ∀ (l : List (Nat × HB)) {A A' : Asg} {H : Heap} {ys : List AV}, getH A H l = some (A', ys) → A.Le A' ∧ (∀ {ρ : Pl} {w : World}, HObj ρ H w → Parts A ρ → Parts A' ρ) ∧ ∀ {ρ ρT : Pl} {w : World} {zs rest : List AV}, Fit A' ρ ρT → Parts A' ρ → (∀ j i c, look A' j = some (some (i, c)) → ∀ n, ρ i = some n → ρT j = some n) → Ptw ys zs → (∀ p ∈ eqsH A' H l, p.1 = p.2) → HObj ρ H w →
    HObj ρT (fillH l (zs ++ rest)).1 w ∧ (fillH l (zs ++ rest)).2 = rest
  | [], A, A', H, ys, h => by
    cases h
    exact ⟨Asg.Le.refl _, fun _ h => h, fun {ρ ρT w zs rest} hf hP hfl hp he hh => by rw [hp.nil]; exact ⟨fun i b hb => by simp [fillH, look] at hb, rfl⟩⟩
  | (j, hb) :: l, A, A', H, ys, h => by
    have cons : ∀ {ρT : Pl} {w : World} {b : AB} {H' : Heap}, Held ρT w j b → HObj ρT H' w → HObj ρT ((j, b) :: H') w := fun h1 h2 i c hc => by
      rw [look_cons] at hc
      split at hc
      · rename_i e
        subst e
        cases hc
        exact h1
      · exact h2 i c hc
    unfold getH at h
    split at h
    · rename_i i hj
      split at h
      · rename_i b hbk
        split at h
        · rename_i A1 x hx
          split at h
          · rename_i A2 y hy
            cases h
            obtain ⟨h1, p1, h2⟩ := HB.get_ok hb hx
            obtain ⟨h3, p2, h4⟩ := getH_ok l hy
            refine ⟨h1.trans h3, fun ho hP => p2 ho (p1 (ho i b hbk) hP), fun {ρ ρT w zs rest} hf hP hfl hp he hh => ?_⟩
            have hj1 := h1 _ _ hj
            have hj2 := h3 _ _ hj1
            obtain ⟨u, v, rfl, hu, hv⟩ := hp.split
            rw [List.append_assoc]
            unfold eqsH at he
            rw [hj2] at he
            dsimp only at he
            rw [hbk] at he
            obtain ⟨g1, g2⟩ := h2 (rest := v ++ rest) (hf.le h3) hj1 (hfl j i none hj2) hu (fun p hp => he p (List.mem_append_left _ hp)) (hh i b hbk)
            obtain ⟨g3, g4⟩ := h4 (rest := rest) hf hP hfl hv (fun p hp => he p (List.mem_append_right _ hp)) hh
            rw [fillH_cons, g2]
            exact ⟨cons g1 g3, g4⟩
          · cases h
        · cases h
      · cases h
    · rename_i i u hj
      split at h
      · rename_i b hbk
        split at h
        · rename_i x hx
          split at h
          · rename_i A2 y hy
            cases h
            obtain ⟨h3, p2, h4⟩ := getH_ok l hy
            refine ⟨h3, fun ho hP => p2 ho hP, fun {ρ ρT w zs rest} hf hP hfl hp he hh => ?_⟩
            have hj2 := h3 _ _ hj
            obtain ⟨u', v, rfl, hu, hv⟩ := hp.split
            rw [List.append_assoc]
            unfold eqsH at he
            rw [hj2] at he
            dsimp only at he
            obtain ⟨hpart, x0, hx0⟩ := hP j i u hj2
            obtain ⟨g1, g2⟩ := HB.part_ok hb hx (rest := v ++ rest) hpart hx0 (hf.part j i u hj2 hpart x0 hx0) hf.ro (hfl j i (some u) hj2) hu (hh i b hbk)
            obtain ⟨g3, g4⟩ := h4 (rest := rest) hf hP hfl hv he hh
            rw [fillH_cons, g2]
            exact ⟨cons g1 g3, g4⟩
          · cases h
        · cases h
      · cases h
    · rename_i hj
      split at h
      · rename_i e t z
        split at h
        · rename_i A2 y hy
          cases h
          obtain ⟨h3, p2, h4⟩ := getH_ok l hy
          refine ⟨h3, fun ho hP => p2 ho hP, fun {ρ ρT w zs rest} hf hP hfl hp he hh => ?_⟩
          have hj2 := h3 _ _ hj
          match zs, hp with
          | [], hp => exact hp.elim
          | q :: zs, hp =>
            have hq := hp.1.2 t [] rfl
            subst hq
            unfold eqsH at he
            rw [hj2] at he
            dsimp only at he
            obtain ⟨g3, g4⟩ := h4 (rest := rest) hf hP hfl hp.2 he hh
            have er : roOf (.ro t []) t = [] := by
              unfold roOf
              dsimp only
              rw [castL_self]
            rw [fillH_cons]
            refine ⟨cons ?_ g3, g4⟩
            show Held ρT w j (.vec e t z (.s (roOf (.ro t []) t).length) (roOf (.ro t []) t))
            rw [er]
            exact ⟨rfl, .inl ⟨hf.nil _ hj2, rfl⟩⟩
        · cases h
      · cases h
    · cases h
end Go.Proofs.Ytaoplfmaiclfkaa.SX
