/- A symbolic walk: drawn regions, whatever their order. -/
import Derived.Test.YtaoplfmaiclfkaaSXh
import Derived.OrdersIn
namespace Go.Proofs.Ytaoplfmaiclfkaa.SX
set_option linter.unusedVariables false
set_option linter.unusedSimpArgs false
open Go Go.RowKit
/- marks -/
theorem getM_or : ∀ (a b : List Bool) (i : Nat), getM (orM a b) i = (getM a i || getM b i)
  | [], b, i => by simp [orM, getM]
  | a :: l, [], i => by cases i <;> simp [orM, getM]
  | a :: l, b :: m, 0 => rfl
  | a :: l, b :: m, i + 1 => by simp only [orM, getM]; exact getM_or l m i
theorem getM_mark : ∀ (n i : Nat), getM (markAt n) i = true ↔ i = n
  | 0, 0 => by simp [markAt, getM]
  | 0, i + 1 => by simp [markAt, getM]
  | n + 1, 0 => by simp [markAt, getM]
  | n + 1, i + 1 => by simp only [markAt, getM]; rw [getM_mark n i]; omega
theorem ancOf_spec (tab : List (List Bool)) : ∀ (ds : List Nat) (i : Nat), getM (ancOf tab ds) i = true ↔ ∃ d ∈ ds, i = d ∨ getM (rowM tab d) i = true
  | [], i => by simp [ancOf, getM]
  | d :: r, i => by
    unfold ancOf
    rw [getM_or, getM_or, Bool.or_eq_true, Bool.or_eq_true, getM_mark, ancOf_spec tab r i]
    simp [or_assoc]
theorem allM_spec {m : List Bool} : ∀ {l : List Nat}, allM m l = true → ∀ x ∈ l, getM m x = true
  | [], _, x, hx => by cases hx
  | y :: l, h, x, hx => by
    unfold allM at h
    split at h
    · rcases List.mem_cons.1 hx with rfl | hx
      · assumption
      · exact allM_spec h x hx
    · cases h
theorem isIn_spec {t : Nat} : ∀ {l : List Nat}, isIn t l = true ↔ t ∈ l
  | [] => by simp [isIn]
  | d :: l => by
    unfold isIn
    by_cases h : d = t
    · subst h; simp
    · have : Nat.beq d t = false := by
        cases e : Nat.beq d t
        · rfl
        · exact absurd (Nat.eq_of_beq_eq_true e) h
      rw [this]
      simp only [List.mem_cons]
      rw [isIn_spec]
      exact ⟨.inr, fun x => x.resolve_left (fun e => h e.symm)⟩
theorem depsOf_spec : ∀ {l : List Edge} {d : Nat}, d ∈ depsOf l ↔ ∃ e ∈ l, Region.binds .any e = true ∧ e.on = d
  | [], d => by simp [depsOf]
  | e :: l, d => by
    unfold depsOf
    split
    · rename_i h
      simp only [List.mem_cons, depsOf_spec]
      constructor
      · rintro (rfl | ⟨x, hx, h2⟩)
        · exact ⟨e, .inl rfl, h, rfl⟩
        · exact ⟨x, .inr hx, h2⟩
      · rintro ⟨x, rfl | hx, h2, h3⟩
        · exact .inl h3.symm
        · exact .inr ⟨x, hx, h2, h3⟩
    · rename_i h
      simp only [List.mem_cons, depsOf_spec]
      constructor
      · rintro ⟨x, hx, h2⟩
        exact ⟨x, .inr hx, h2⟩
      · rintro ⟨x, rfl | hx, h2, h3⟩
        · rw [h] at h2; cases h2
        · exact ⟨x, hx, h2, h3⟩
/-- The rows of the table. -/
theorem ancTab_get : ∀ (l : List Oper) (tab : List (List Bool)) (i : Nat), i < l.length → ∃ o, l[i]? = some o ∧ (ancTab l tab)[tab.length + i]? = some (ancOf ((ancTab l tab).take (tab.length + i)) (depsOf o.after.toList)) ∧ (∀ j, j < tab.length → (ancTab l tab)[j]? = tab[j]?)
  | [], tab, i, h => by simp at h
  | o :: l, tab, i, h => by
    have keep : ∀ (l : List Oper) (tab : List (List Bool)) (j : Nat), j < tab.length → (ancTab l tab)[j]? = tab[j]? := by
      intro l
      induction l with
      | nil => intro tab j hj; rfl
      | cons o l ih =>
        intro tab j hj
        unfold ancTab
        rw [ih _ j (by simp; omega), List.getElem?_append_left hj]
    have hlen : ∀ (l : List Oper) (tab : List (List Bool)), (ancTab l tab).length = tab.length + l.length := by
      intro l
      induction l with
      | nil => intro tab; simp [ancTab]
      | cons o l ih => intro tab; unfold ancTab; rw [ih]; simp; omega
    cases i with
    | zero =>
      refine ⟨o, rfl, ?_, keep _ _⟩
      have ht : (ancTab (o :: l) tab).take (tab.length + 0) = tab := by
        apply List.ext_getElem?
        intro j
        by_cases hj : j < tab.length
        · rw [List.getElem?_take_of_lt (by omega), keep _ _ j hj]
        · rw [List.getElem?_eq_none (by simp; omega), List.getElem?_eq_none (by omega)]
      rw [ht]
      unfold ancTab
      rw [keep _ _ _ (by simp)]
      simp
    | succ i =>
      obtain ⟨o', h1, h2, h3⟩ := ancTab_get l (tab ++ [ancOf tab (depsOf o.after.toList)]) i (by simpa using h)
      refine ⟨o', by simpa using h1, ?_, keep _ _⟩
      unfold ancTab
      have e : (tab ++ [ancOf tab (depsOf o.after.toList)]).length + i = tab.length + (i + 1) := by simp; omega
      rw [e] at h2
      exact h2
theorem rowM_get {tab : List (List Bool)} {i : Nat} {m : List Bool} (h : tab[i]? = some m) : rowM tab i = m := by
  unfold rowM
  rw [nth_eq, h]
theorem rowM_none {tab : List (List Bool)} {i : Nat} (h : tab[i]? = none) : rowM tab i = [] := by
  unfold rowM
  rw [nth_eq, h]
/-- Where all that an operation waits for is done, so is all that these wait for. -/
theorem anc_done {ops : List Oper} {D : Nat → Prop} (hD : ∀ j o, ops[j]? = some o → D j → ∀ d ∈ depsOf o.after.toList, D d) :
    ∀ (i : Nat) (o : Oper), ops[i]? = some o → (∀ d ∈ depsOf o.after.toList, D d) → ∀ k, getM (rowM (ancTab ops []) i) k = true → D k := by
  intro i
  induction i using Nat.strongRecOn with
  | ind i ih =>
    intro o ho hd k hk
    have hi : i < ops.length := (List.getElem?_eq_some_iff.1 ho).1
    obtain ⟨o', h1, h2, _⟩ := ancTab_get ops [] i hi
    rw [ho] at h1
    cases h1
    simp only [List.length_nil, Nat.zero_add] at h2
    rw [rowM_get h2, ancOf_spec] at hk
    obtain ⟨d, hdm, rfl | hk⟩ := hk
    · exact hd _ hdm
    · by_cases hlt : d < i
      · have hlt2 : d < ops.length := by omega
        have hrow : rowM ((ancTab ops []).take i) d = rowM (ancTab ops []) d := by
          unfold rowM
          rw [nth_eq, nth_eq, List.getElem?_take_of_lt hlt]
        rw [hrow] at hk
        have ho2 : ops[d]? = some ops[d] := List.getElem?_eq_getElem hlt2
        exact ih d hlt _ ho2 (hD d _ ho2 (hd d hdm)) k hk
      · rw [rowM_none (by rw [List.getElem?_eq_none]; simp; omega)] at hk
        simp [getM] at hk
/-- What is placed stays. -/
structure Mono (ρ ρ' : Pl) : Prop where
  pl : ∀ (i n : Nat), ρ.pin i = some n → ρ'.pin i = some n
  tv : ∀ i v, ρ.tv i = some v → ρ'.tv i = some v
  hd : ∀ i v, ρ.ro.hd i = some v → ρ'.ro.hd i = some v
  obj : ∀ n o, ρ.ro.obj n = some o → ρ'.ro.obj n = some o
structure MonoF (ρ ρ' : Pl) : Prop extends Mono ρ ρ' where
  fl : ∀ (i n : Nat), ρ i = some n → ρ' i = some n
theorem Hdrs.more {ρ ρ' : Pl} {H : Heap} (h : Hdrs ρ H) (hm : Mono ρ ρ') : Hdrs ρ' H := fun i e t z n l hl => by
  rcases h i e t z n l hl with ⟨h1, h2⟩ | ⟨g, off, len, cap, h1, h2⟩
  · exact .inl ⟨hm.tv _ _ h1, h2⟩
  · exact .inr ⟨g, off, len, cap, hm.tv _ _ h1, h2⟩
theorem Ext.mono {ρ ρ' : Pl} (h : Ext ρ ρ') : Mono ρ ρ' := ⟨h.at, fun i v x => h.tvAt x, fun i v x => (by rw [h.1.ro.hd]; exact x), h.1.ro.obj⟩
theorem MonoF.refl (ρ : Pl) : MonoF ρ ρ := ⟨⟨fun _ _ h => h, fun _ _ h => h, fun _ _ h => h, fun _ _ h => h⟩, fun _ _ h => h⟩
mutual
theorem AV.rel_more {ρ ρ' : Pl} (h : Mono ρ ρ') : ∀ (a : AV) {v : Value}, a.rel ρ v → a.rel ρ' v
  | .bool _, _, x => x
  | .int _ _, _, x => x
  | .str _, _, x => x
  | .ptr _ _, _, ⟨n, hn, e⟩ => ⟨n, h.pl _ _ hn, e⟩
  | .nilPtr, _, x => x
  | .sl _ _ _ _, _, ⟨n, hn, e⟩ => ⟨n, h.pl _ _ hn, e⟩
  | .nilSl, _, x => x
  | .fn _ first capt, _, ⟨xs, ys, hx, hy, e⟩ => ⟨xs, ys, AV.relL_more h first hx, AV.relL_more h capt hy, e⟩
  | .yld _, _, ⟨n, hn, e⟩ => ⟨n, h.pl _ _ hn, e⟩
  | .nilFn, _, x => x
  | .iface _ a, _, ⟨x, hx, e⟩ => ⟨x, AV.rel_more h a hx, e⟩
  | .nilIface, _, x => x
  | .agg l, _, ⟨xs, hx, e⟩ => ⟨xs, AV.relL_more h l hx, e⟩
  | .tup l, _, ⟨xs, hx, e⟩ => ⟨xs, AV.relL_more h l hx, e⟩
  | .lst i t l lo, _, x => by
    unfold AV.rel at x ⊢
    rcases x with ⟨a, h1, h2⟩ | ⟨n, o, len, cap, cs, ty, fz, xs, h1, h2, h3, h4, h5, h6, h7, h8⟩
    · exact .inl ⟨a, h.hd _ _ h1, h2⟩
    · exact .inr ⟨n, o, len, cap, cs, ty, fz, xs, h.hd _ _ h1, h2, h3, h4, h5, h.obj _ _ h6, AllR.imp (RelT.mono h.obj t) h7, h8⟩
  | .rpt t l j f, _, x => by
    unfold AV.rel at x ⊢
    obtain ⟨h0, n, o, cs, ty, fz, xs, h2, h3, h4, h5⟩ := x
    exact ⟨h0, n, o, cs, ty, fz, xs, h2, h.obj _ _ h3, AllR.imp (RelT.mono h.obj t) h4, h5⟩
  | .lpt i t l lo j f, _, x => by
    unfold AV.rel at x ⊢
    obtain ⟨h0, n, o, len, cap, cs, ty, fz, xs, h1, h2, h3, h4, h5⟩ := x
    exact ⟨h0, n, o, len, cap, cs, ty, fz, xs, h.hd _ _ h1, h2, h.obj _ _ h3, AllR.imp (RelT.mono h.obj t) h4, h5⟩
  | .ro t l, _, x => by
    unfold AV.rel at x ⊢
    exact SlR.imp (RelT.mono h.obj t) h.obj x
  | .own i, _, ⟨x, y⟩ => ⟨h.tv _ _ x, y⟩
  | .pre _ _, _, ⟨x, y⟩ => ⟨x, y.elim (fun ⟨a, b⟩ => .inl ⟨h.tv _ _ a, b⟩) (fun ⟨n, o, len, cap, a, b⟩ => .inr ⟨n, o, len, cap, h.tv _ _ a, b⟩)⟩
  | .vw _ _ _ _, _, ⟨x, x2, y⟩ => ⟨x, x2, y.elim (fun ⟨a, b⟩ => .inl ⟨h.tv _ _ a, b⟩) (fun ⟨n, o, len, cap, a, b⟩ => .inr ⟨n, o, len, cap, h.tv _ _ a, b⟩)⟩
  | .ept _ _ _ _, _, ⟨n, o, len, cap, x, y⟩ => ⟨n, o, len, cap, h.tv _ _ x, y⟩
theorem AV.relL_more {ρ ρ' : Pl} (h : Mono ρ ρ') : ∀ (l : List AV) {vs : List Value}, AV.relL ρ l vs → AV.relL ρ' l vs
  | [], _, x => x
  | a :: l, _, ⟨x, xs, hx, hl, e⟩ => ⟨x, xs, AV.rel_more h a hx, AV.relL_more h l hl, e⟩
end
theorem AB.rel_more {ρ ρ' : Pl} (h : Mono ρ ρ') : ∀ {b : AB} {o : Obj}, b.rel ρ o → b.rel ρ' o
  | .cells t l, _, ⟨xs, hx, e⟩ => ⟨xs, AV.relL_more h l hx, e⟩
  | .loop .., _, ⟨fn, tmps, dn, hd, hs, e⟩ => ⟨fn, tmps, dn, h.pl _ _ hd, ⟨hs.1, fun t v hv => let ⟨x, hx, e⟩ := hs.2 t v hv; ⟨x, AV.rel_more h v hx, e⟩⟩, e⟩
  | .mark, _, e => e
  | .dead, _, _ => trivial
  | .vec .., _, h => h.elim
theorem Held.more {ρ ρ' : Pl} {w w' : World} {i : Nat} {b : AB} (hh : Held ρ w i b) (h : Mono ρ ρ') (hf : ∀ n, ρ i = some n → ρ' i = some n) (hw : ∀ n, ρ i = some n → w'.heap[n]? = w.heap[n]?) : Held ρ' w' i b :=
  hh.move (fun o => AB.rel_more h) (h.tv i) h.obj (RelT.mono h.obj) hf hw
/-- A placement's numbers of a set, below one. -/
noncomputable def onF (ro : RO) (g : Nat → Option Nat) (θ : Nat → Option Value) (p : Nat → Prop) (top : Nat) : Pl := by
  classical
  exact ⟨fun i => if p i ∧ i < top then g i else Option.none, top, fun i m h => (by
    split at h
    · rename_i e
      exact e.2
    · cases h), ro, fun i => if p i ∧ i < top then θ i else Option.none, fun i m h => by
    split at h
    · rename_i e
      exact e.2
    · cases h⟩
section
variable {ro ro' : RO} {g g' : Nat → Option Nat} {θ θ' : Nat → Option Value} {p q : Nat → Prop} {top t u i m : Nat} {v : Value}
theorem onF_at : onF ro g θ p top i = some m ↔ p i ∧ i < top ∧ g i = some m := by
  classical
  have e : onF ro g θ p top i = if p i ∧ i < top then g i else Option.none := by
    unfold onF
    rfl
  rw [e]
  by_cases h : p i ∧ i < top
  · rw [if_pos h]
    exact ⟨fun x => ⟨h.1, h.2, x⟩, fun x => x.2.2⟩
  · rw [if_neg h]
    exact ⟨fun x => (by cases x), fun x => absurd ⟨x.1, x.2.1⟩ h⟩
theorem onF_tv : (onF ro g θ p top).tv i = some v ↔ p i ∧ i < top ∧ θ i = some v := by
  classical
  have e : (onF ro g θ p top).tv i = if p i ∧ i < top then θ i else Option.none := by
    unfold onF
    rfl
  rw [e]
  by_cases h : p i ∧ i < top
  · rw [if_pos h]
    exact ⟨fun x => ⟨h.1, h.2, x⟩, fun x => x.2.2⟩
  · rw [if_neg h]
    exact ⟨fun x => (by cases x), fun x => absurd ⟨x.1, x.2.1⟩ h⟩
theorem onF_pin : (onF ro g θ p top).pin i = some m ↔ p i ∧ i < top ∧ g i = some m ∧ θ i = Option.none := by
  constructor
  · intro h
    obtain ⟨h1, h2⟩ := Pl.pin_f h
    obtain ⟨h3, h4, h5⟩ := onF_at.1 h1
    refine ⟨h3, h4, h5, ?_⟩
    cases e : θ i with
    | none => rfl
    | some v =>
      rw [onF_tv.2 ⟨h3, h4, e⟩] at h2
      cases h2
  · rintro ⟨h3, h4, h5, h6⟩
    refine Pl.pin_of (onF_at.2 ⟨h3, h4, h5⟩) ?_
    cases e : (onF ro g θ p top).tv i with
    | none => rfl
    | some v =>
      have := (onF_tv.1 e).2.2
      rw [h6] at this
      cases this
theorem onF_mono (hle : RO.Le ro ro') (h : ∀ i, p i → i < t → (∃ n, g i = some n) ∨ (∃ v, θ i = some v) → q i ∧ i < u ∧ g' i = g i ∧ θ' i = θ i) : MonoF (onF ro g θ p t) (onF ro' g' θ' q u) := ⟨⟨fun i k hi => by
  obtain ⟨h1, h2, h3, h4⟩ := onF_pin.1 hi
  obtain ⟨a, b, c, d⟩ := h i h1 h2 (.inl ⟨k, h3⟩)
  exact onF_pin.2 ⟨a, b, c.trans h3, d.trans h4⟩, fun i v hi => by
  obtain ⟨h1, h2, h3⟩ := onF_tv.1 hi
  obtain ⟨a, b, c, d⟩ := h i h1 h2 (.inr ⟨v, h3⟩)
  exact onF_tv.2 ⟨a, b, d.trans h3⟩, fun i v x => (show ro'.hd i = some v by rw [hle.hd]; exact x), hle.obj⟩, fun i k hi => by
  obtain ⟨h1, h2, h3⟩ := onF_at.1 hi
  obtain ⟨a, b, c, d⟩ := h i h1 h2 (.inl ⟨k, h3⟩)
  exact onF_at.2 ⟨a, b, c.trans h3⟩⟩
end
/- slots -/
theorem depVals_look {ops : List Oper} {sz : Nat} {acc base : List (Nat × AV)} {t : Nat} {v : AV} : ∀ {ds : List Nat}, look (depVals ops sz acc ds ++ base) t = some v →
    (∃ d ∈ ds, ∃ o, ops[d]? = some o ∧ o.dst = some t ∧ t < sz ∧ look acc d = some v) ∨ look base t = some v
  | [], h => .inr h
  | d :: r, h => by
    have more : look (depVals ops sz acc r ++ base) t = some v → (∃ d' ∈ d :: r, ∃ o, ops[d']? = some o ∧ o.dst = some t ∧ t < sz ∧ look acc d' = some v) ∨ look base t = some v := fun h => by
      rcases depVals_look h with ⟨x, hx, y⟩ | h
      · exact .inl ⟨x, .tail _ hx, y⟩
      · exact .inr h
    unfold depVals at h
    split at h
    · rename_i o ho
      split at h
      · rename_i u hu
        split at h
        · rename_i hlt
          split at h
          · rename_i x hx
            rw [List.cons_append, look_cons] at h
            by_cases e : u = t
            · subst e
              rw [if_pos rfl] at h
              cases h
              rw [nth_eq] at ho
              exact .inl ⟨d, .head _, o, ho, hu, Nat.lt_of_lt_of_le (Nat.lt_succ_self u) (Nat.le_of_ble_eq_true hlt), hx⟩
            · rw [if_neg e] at h
              exact more h
          · exact more h
        · exact more h
      · exact more h
    · exact more h
theorem without_look {hs : List Nat} {t : Nat} {v : AV} : ∀ {l : List (Nat × AV)}, look (without hs l) t = some v → t ∉ hs ∧ look l t = some v
  | [], h => by simp [without, look] at h
  | (u, x) :: l, h => by
    unfold without at h
    split at h
    · rename_i hu
      obtain ⟨h1, h2⟩ := without_look h
      refine ⟨h1, ?_⟩
      rw [look_cons, if_neg (fun (e : u = t) => h1 (by rw [← e]; exact isIn_spec.1 hu)), h2]
    · rename_i hu
      rw [look_cons] at h ⊢
      by_cases e : u = t
      · subst e
        rw [if_pos rfl] at h ⊢
        exact ⟨fun hin => (by rw [isIn_spec.2 hin] at hu; cases hu), h⟩
      · rw [if_neg e] at h ⊢
        exact without_look h
theorem hidden_spec {tab : List (List Bool)} {i t : Nat} : ∀ {k : Nat} {l : List Oper}, t ∉ hidden tab i k l → ∀ j o, l[j]? = some o → o.dst = some t → getM (rowM tab (k + j)) i = true
  | k, [], _, j, o, h, _ => by simp at h
  | k, x :: l, hn, j, o, h, hd => by
    unfold hidden at hn
    cases j with
    | zero =>
      simp at h
      subst h
      split at hn
      · assumption
      · rw [hd] at hn
        simp at hn
    | succ j =>
      have h' : l[j]? = some o := by simpa using h
      rw [show k + (j + 1) = (k + 1) + j by omega]
      split at hn
      · exact hidden_spec hn j o h' hd
      · split at hn
        · exact hidden_spec (fun hin => hn (.tail _ hin)) j o h' hd
        · exact hidden_spec hn j o h' hd
/- memory -/
def HObj (ρ : Pl) (H : Heap) (w : World) : Prop := ∀ i b, look H i = some b → Held ρ w i b
structure Placed (ρ : Pl) (w : World) : Prop where
  inj : ∀ (i j n : Nat), ρ i = some n → ρ j = some n → i = j
  lt : ∀ (i n : Nat), ρ i = some n → n < w.heap.size
  ro : ∀ n o, ρ.ro.obj n = some o → w.heap[n]? = some o ∧ ∀ j, ρ j ≠ some n
theorem HRel.of {ρ : Pl} {H : Heap} {hn : Nat} {w : World} (h : Placed ρ w) (ht : ρ.top = hn) (ho : HObj ρ H w) : HRel ρ H hn w := ⟨ht, h.inj, h.lt, h.ro, ho⟩
theorem HObj.keep {ρ ρ' : Pl} {H : Heap} {w w' : World} (h : HObj ρ H w) (hm : Mono ρ ρ') (hf : ∀ i b, look H i = some b → ∀ n, ρ i = some n → ρ' i = some n) (hk : ∀ i b n, look H i = some b → ρ i = some n → w'.heap[n]? = w.heap[n]?) : HObj ρ' H w' :=
  fun i b hb => (h i b hb).more hm (hf i b hb) fun n hn => hk i b n hb hn
theorem HObj.more {ρ ρ' : Pl} {H : Heap} {w w' : World} (h : HObj ρ H w) (hm : MonoF ρ ρ') (hk : ∀ i n, ρ i = some n → w'.heap[n]? = w.heap[n]?) : HObj ρ' H w' :=
  h.keep hm.toMono (fun i b _ => hm.fl i) fun i b n _ hn => hk i n hn
theorem HObj.append {ρ : Pl} {H H2 : Heap} {w : World} (h : HObj ρ H w) (h2 : HObj ρ H2 w) : HObj ρ (H ++ H2) w := fun i b hb => by
  induction H with
  | nil => exact h2 i b hb
  | cons p l ih =>
    obtain ⟨t, v⟩ := p
    rw [List.cons_append, look_cons] at hb
    by_cases e : t = i
    · refine h i b ?_
      rw [look_cons, if_pos e]
      rwa [if_pos e] at hb
    · rw [if_neg e] at hb
      by_cases hl : ∃ c, look l i = some c
      · obtain ⟨c, hc⟩ := hl
        have hlk : look (l ++ H2) i = some c := by
          clear ih h hb
          induction l with
          | nil => simp [look] at hc
          | cons q l ih =>
            obtain ⟨u, x⟩ := q
            rw [List.cons_append, look_cons]
            rw [look_cons] at hc
            by_cases e : u = i
            · rw [if_pos e] at hc ⊢; exact hc
            · rw [if_neg e] at hc ⊢; exact ih hc
        rw [hlk] at hb
        cases hb
        exact h i b (by rw [look_cons, if_neg e]; exact hc)
      · have hlk : look (l ++ H2) i = look H2 i := by
          clear ih h hb
          induction l with
          | nil => rfl
          | cons q l ih =>
            obtain ⟨u, x⟩ := q
            rw [look_cons] at hl
            rw [List.cons_append, look_cons]
            by_cases e : u = i
            · rw [if_pos e] at hl; exact absurd ⟨x, rfl⟩ hl
            · rw [if_neg e] at hl ⊢; exact ih hl
        rw [hlk] at hb
        exact h2 i b hb
theorem seen_obj {ρ : Pl} {w : World} {anc : List Bool} {cur : Heap} : ∀ {fr : List (Nat × Heap)}, (∀ e H, (e, H) ∈ fr → getM anc e = true → HObj ρ H w) → HObj ρ cur w → HObj ρ (seen anc fr cur) w
  | [], _, h => h
  | (e, H) :: l, hf, h => by
    have h2 := seen_obj (anc := anc) (fr := l) (fun e' H' hm ha => hf e' H' (.tail _ hm) ha) h
    unfold seen
    split
    · rename_i ha
      exact (hf e H (.head _) ha).append h2
    · exact h2
theorem unseen_mem {anc : List Bool} {p : Nat × Heap} : ∀ {fr : List (Nat × Heap)}, p ∈ unseen anc fr → p ∈ fr ∧ getM anc p.1 = false
  | [], h => by cases h
  | (e, H) :: l, h => by
    unfold unseen at h
    split at h
    · exact ⟨.tail _ (unseen_mem h).1, (unseen_mem h).2⟩
    · rename_i ha
      rcases List.mem_cons.1 h with rfl | h
      · exact ⟨.head _, ha⟩
      · exact ⟨.tail _ (unseen_mem h).1, (unseen_mem h).2⟩
theorem keysIn_spec {lo hi : Nat} : ∀ {H : Heap}, keysIn lo hi H = true → lo ≤ hi ∧ ∀ n b, look H n = some b → lo ≤ n ∧ n < hi
  | [], h => ⟨Nat.le_of_ble_eq_true h, fun n b hb => by simp [look] at hb⟩
  | (m, c) :: l, h => by
    unfold keysIn at h
    split at h
    · rename_i hm
      simp only [Bool.and_eq_true] at hm
      obtain ⟨h1, h2⟩ := keysIn_spec h
      refine ⟨h1, fun n b hb => ?_⟩
      rw [look_cons] at hb
      by_cases e : m = n
      · subst e
        exact ⟨Nat.le_of_ble_eq_true hm.1, Nat.le_of_ble_eq_true hm.2⟩
      · rw [if_neg e] at hb
        exact h2 n b hb
    · cases h
theorem allLt_spec {i : Nat} : ∀ {l : List Nat}, allLt i l = true → ∀ d ∈ l, d < i
  | [], _, d, h => by cases h
  | x :: l, h, d, hd => by
    unfold allLt at h
    split at h
    · rename_i hx
      rcases List.mem_cons.1 hd with rfl | hd
      · exact Nat.le_of_ble_eq_true hx
      · exact allLt_spec h d hd
    · cases h
theorem lowB_spec : ∀ {l : List Oper} {i : Nat}, lowB i l = true → ∀ j o, l[j]? = some o → ∀ d ∈ depsOf o.after.toList, d < i + j
  | [], i, _, j, o, h => by simp at h
  | x :: l, i, h, j, o, ho => by
    unfold lowB at h
    split at h
    · rename_i hx
      cases j with
      | zero =>
        simp at ho
        subst ho
        exact allLt_spec hx
      | succ j =>
        intro d hd
        have := lowB_spec h j o (by simpa using ho) d hd
        omega
    · cases h
theorem dst_in : ∀ (l : List Oper) (j : Nat) (o : Oper) (t : Nat), l[j]? = some o → o.dst = some t → t ∈ dstsOf l := by
  intro l
  induction l with
  | nil => intro j o t h; simp at h
  | cons x l ih =>
    intro j o t ho hd
    unfold dstsOf
    cases j with
    | zero =>
      simp at ho
      subst ho
      rw [hd]
      exact List.mem_cons_self
    | succ j =>
      have := ih j o t (by simpa using ho) hd
      split
      · exact .tail _ this
      · exact this
theorem apartB_spec : ∀ {l : List Oper}, apartB (dstsOf l) = true → ∀ (i j : Nat) (oi oj : Oper) (t : Tmp), l[i]? = some oi → l[j]? = some oj → oi.dst = some t → oj.dst = some t → i = j := by
  have hin := dst_in
  intro l
  induction l with
  | nil => intro _ i j oi oj t h; simp at h
  | cons x l ih =>
    intro h i j oi oj t hi hj hdi hdj
    have htail : apartB (dstsOf l) = true ∧ (∀ t, x.dst = some t → t ∉ dstsOf l) := by
      unfold dstsOf at h
      split at h
      · rename_i d hd
        unfold apartB at h
        split at h
        · cases h
        · rename_i hn
          refine ⟨h, fun t ht hm => ?_⟩
          rw [hd] at ht
          cases ht
          rw [isIn_spec.2 hm] at hn
          cases hn
      · rename_i hd
        exact ⟨h, fun t ht => by rw [hd] at ht; cases ht⟩
    cases i with
    | zero =>
      cases j with
      | zero => rfl
      | succ j =>
        simp at hi
        subst hi
        exact absurd (hin l j oj t (by simpa using hj) hdj) (htail.2 t hdi)
    | succ i =>
      cases j with
      | zero =>
        simp at hj
        subst hj
        exact absurd (hin l i oi t (by simpa using hi) hdi) (htail.2 t hdj)
      | succ j =>
        have := ih htail.1 i j oi oj t (by simpa using hi) (by simpa using hj) hdi hdj
        omega
/-- The rows, where every operation waits for earlier ones alone. -/
theorem row_spec {ops : List Oper} {i : Nat} {o : Oper} (ho : ops[i]? = some o) (hl : ∀ d ∈ depsOf o.after.toList, d < i) (d : Nat) : getM (rowM (ancTab ops []) i) d = true ↔ ∃ e ∈ depsOf o.after.toList, d = e ∨ getM (rowM (ancTab ops []) e) d = true := by
  have hi : i < ops.length := (List.getElem?_eq_some_iff.1 ho).1
  obtain ⟨o', h1, h2, _⟩ := ancTab_get ops [] i hi
  rw [ho] at h1
  cases h1
  simp only [List.length_nil, Nat.zero_add] at h2
  rw [rowM_get h2, ancOf_spec]
  have hrow : ∀ e, e < i → rowM ((ancTab ops []).take i) e = rowM (ancTab ops []) e := fun e he => by
    unfold rowM
    rw [nth_eq, nth_eq, List.getElem?_take_of_lt he]
  constructor
  · rintro ⟨e, he, h⟩
    exact ⟨e, he, h.imp_right (fun h => by rw [hrow e (hl e he)] at h; exact h)⟩
  · rintro ⟨e, he, h⟩
    exact ⟨e, he, h.imp_right (fun h => by rw [hrow e (hl e he)]; exact h)⟩
/-- A region's operations, well formed. -/
structure WF (ops : List Oper) : Prop where
  low : ∀ (i : Nat) (o : Oper), ops[i]? = some o → ∀ d ∈ depsOf o.after.toList, d < i
  apart : ∀ (i j : Nat) (oi oj : Oper) (t : Tmp), ops[i]? = some oi → ops[j]? = some oj → oi.dst = some t → oj.dst = some t → i = j
theorem WF.lt {ops : List Oper} (h : WF ops) {i : Nat} : ∀ {o : Oper} {d : Nat}, ops[i]? = some o → getM (rowM (ancTab ops []) i) d = true → d < i := by
  induction i using Nat.strongRecOn with
  | ind i ih =>
    intro o d ho hd
    obtain ⟨e, he, rfl | h2⟩ := (row_spec ho (h.low i o ho) d).1 hd
    · exact h.low i o ho _ he
    · have hlt := h.low i o ho e he
      have hi : i < ops.length := (List.getElem?_eq_some_iff.1 ho).1
      have := ih e hlt (List.getElem?_eq_getElem (by omega : e < ops.length)) h2
      omega
theorem WF.trans {ops : List Oper} (h : WF ops) {i : Nat} : ∀ {o : Oper} {e d : Nat}, ops[i]? = some o → getM (rowM (ancTab ops []) i) e = true → getM (rowM (ancTab ops []) e) d = true → getM (rowM (ancTab ops []) i) d = true := by
  induction i using Nat.strongRecOn with
  | ind i ih =>
    intro o e d ho he hd
    obtain ⟨f, hf, h2⟩ := (row_spec ho (h.low i o ho) e).1 he
    rw [row_spec ho (h.low i o ho) d]
    refine ⟨f, hf, .inr ?_⟩
    rcases h2 with rfl | h2
    · exact hd
    · have hlt := h.low i o ho f hf
      have hi : i < ops.length := (List.getElem?_eq_some_iff.1 ho).1
      exact ih f hlt (List.getElem?_eq_getElem (by omega : f < ops.length)) h2 hd
/- what is known of each operation -/
structure Rec where
  v : AV
  lo : Nat
  hi : Nat
  e : Eft
def Eft.touch : Eft → Prop
  | .read => True
  | .chg _ => True
  | .both _ => True
  | _ => False
def Eft.made (e : Eft) (H : Heap) : Prop := e = .fresh H ∨ e = .both H
def Eft.out (e : Eft) (H : Heap) : Prop := e.made H ∨ e = .chg H
def Eft.turns (e : Eft) : Prop := ∃ H, e = .chg H
theorem Eft.turns_touch {e : Eft} (h : e.turns) : e.touch := by
  obtain ⟨H, rfl⟩ := h
  trivial
/-- What holds behind an operation. -/
structure Post (r : Rec) (ρ ρ' : Pl) (w w' : World) : Prop where
  ext : Ext ρ ρ'
  same : ¬ r.e.turns → ∀ i, i < ρ.top → ρ' i = ρ i
  top : ρ'.top = r.hi
  placed : Placed ρ' w'
  os : w'.os = w.os
  tape : w'.tape = w.tape
  output : w'.output = w.output
  size : w.heap.size ≤ w'.heap.size
  keep : ∀ k : Nat, k < w.heap.size → (r.e.turns → ∀ n, ρ n ≠ some k) → w'.heap[k]? = w.heap[k]?
  new : ∀ n k, ρ.top ≤ n → ρ' n = some k → w.heap.size ≤ k ∨ (r.e.turns ∧ ∃ j, ρ j = some k)
  obj : ∀ H, r.e.out H → HObj ρ' H w'
  roF : ∀ n o, ρ'.ro.obj n = some o → (∃ o', ρ.ro.obj n = some o') ∨ (r.e.turns ∧ ∃ j, ρ j = some n) ∨ w.heap.size ≤ n
def SeesObj (st : AS) (tab : List (List Bool)) (T : List Rec) (j : Nat) (ρ : Pl) (w : World) : Prop :=
  (∀ (e : Nat) (re : Rec) (H : Heap), T[e]? = some re → getM (rowM tab j) e = true → re.e.out H → (∀ (m : Nat) (rm : Rec), T[m]? = some rm → rm.e.turns → getM (rowM tab m) e = false) → HObj ρ H w) ∧
  ((∀ (m : Nat) (rm : Rec), T[m]? = some rm → ¬ rm.e.turns) → HObj ρ st.H w)
/-- What an operation may take for granted. -/
structure Pre (ops : List Oper) (st : AS) (tab : List (List Bool)) (T : List Rec) (j : Nat) (o : Oper) (r : Rec) (ρ : Pl) (a : Act) (w : World) : Prop where
  top : ρ.top = r.lo
  placed : Placed ρ w
  size : a.tmps.size = st.sz
  deps : ∀ (d : Nat) (rd : Rec) (od : Oper) (t : Nat), T[d]? = some rd → d ∈ depsOf o.after.toList → ops[d]? = some od → od.dst = some t → t < st.sz → ∃ x, rd.v.rel ρ x ∧ a.tmps[t]? = some x
  rest : ∀ t v, look st.slots t = some v → t ∉ hidden tab j 0 ops → ∃ x, v.rel ρ x ∧ a.tmps[t]? = some x
  heap : r.e.touch → SeesObj st tab T j ρ w
  hdrs : Hdrs ρ st.H
def Fact (P : Program) (rn : Option Nat) (Q : Exit → Act → World → Prop) (ops : Array Oper) (st : AS) (T : List Rec) (j : Nat) (o : Oper) (r : Rec) : Prop :=
  ∀ (ρ : Pl) (a : Act) (w : World) (next : Act → World → Prop), Pre ops.toList st (ancTab ops.toList []) T j o r ρ a w →
    (∀ ρ' x w', Post r ρ ρ' w w' → r.v.rel ρ' x → next (a.put o.dst x) w') → wpOpIn (FR rn) 0 P ops Q j next a w
structure Stat (st : AS) (tab : List (List Bool)) (T : List Rec) (j : Nat) (r : Rec) : Prop where
  base : st.hn ≤ r.lo
  le : r.lo ≤ r.hi
  prev : ∀ (i : Nat) (ri : Rec), T[i]? = some ri → ri.hi ≤ r.lo
  turn : r.e.turns → ∀ (i : Nat) (ri : Rec), T[i]? = some ri → ri.e.touch → getM (rowM tab j) i = true
  touch : r.e.touch → ∀ (i : Nat) (ri : Rec), T[i]? = some ri → ri.e.turns → getM (rowM tab j) i = true
  keys : ∀ H, r.e.made H → ∀ n b, look H n = some b → r.lo ≤ n ∧ n < r.hi
def Good (P : Program) (rn : Option Nat) (Q : Exit → Act → World → Prop) (ops : Array Oper) (st : AS) (T : List Rec) : Prop :=
  ∀ (j : Nat) (r : Rec) (o : Oper), T[j]? = some r → ops[j]? = some o → Fact P rn Q ops st (T.take j) j o r ∧ Stat st (ancTab ops.toList []) (T.take j) j r
/-- The walk's own state, by what is known. -/
structure KInv (st : AS) (tab : List (List Bool)) (T : List Rec) (s : RS) : Prop where
  acc : ∀ j v, look s.acc j = some v → ∃ r, T[j]? = some r ∧ ∀ (ρ : Pl) x, r.v.rel ρ x → v.rel ρ x
  muts : ∀ (j : Nat) (r : Rec), T[j]? = some r → r.e.turns → j ∈ s.muts
  mems : ∀ (j : Nat) (r : Rec), T[j]? = some r → r.e.touch → j ∈ s.mems
  fr : ∀ e H, (e, H) ∈ s.fr → ∃ r, T[e]? = some r ∧ r.e.made H ∧ ∀ (m : Nat) (rm : Rec), T[m]? = some rm → rm.e.turns → getM (rowM tab m) e = false
  cur : (s.cur = st.H ∧ ∀ (m : Nat) (rm : Rec), T[m]? = some rm → ¬ rm.e.turns) ∨ ∃ m r, T[m]? = some r ∧ r.e = .chg s.cur ∧ ∀ (m' : Nat) (r' : Rec), T[m']? = some r' → r'.e.turns → getM (rowM tab m') m = false
  hn : st.hn ≤ s.hn
  his : ∀ (j : Nat) (r : Rec), T[j]? = some r → r.hi ≤ s.hn
theorem snoc_get {T : List Rec} {r ri : Rec} {i : Nat} (h : (T ++ [r])[i]? = some ri) : T[i]? = some ri ∨ (i = T.length ∧ ri = r) := by
  by_cases hi : i < T.length
  · rw [List.getElem?_append_left hi] at h
    exact .inl h
  · rw [List.getElem?_append_right (by omega)] at h
    have : i - T.length = 0 := by
      obtain ⟨h1, _⟩ := List.getElem?_eq_some_iff.1 h
      simp at h1
      omega
    rw [this] at h
    simp at h
    exact .inr ⟨by omega, h.symm⟩
theorem get_snoc {T : List Rec} {ri : Rec} {i : Nat} (r : Rec) (h : T[i]? = some ri) : (T ++ [r])[i]? = some ri := by
  rw [List.getElem?_append_left (List.getElem?_eq_some_iff.1 h).1]
  exact h
/-- One operation more. -/
theorem KInv.add {ops : List Oper} {st : AS} {T : List Rec} {s : RS} (h : KInv st (ancTab ops []) T s) (hwf : WF ops) (hlt : T.length < ops.length) {v : AV} {hi : Nat} {e : Eft} (hle : s.hn ≤ hi) (hmuts : e.touch → allM (rowM (ancTab ops []) T.length) s.muts = true) :
    KInv st (ancTab ops []) (T ++ [⟨v, s.hn, hi, e⟩]) (s.add T.length (rowM (ancTab ops []) T.length) v hi e) := by
  have hop : ops[T.length]? = some ops[T.length] := List.getElem?_eq_getElem hlt
  have hself : (T ++ [(⟨v, s.hn, hi, e⟩ : Rec)])[T.length]? = some ⟨v, s.hn, hi, e⟩ := by simp
  have hlow : ∀ k, T.length ≤ k → getM (rowM (ancTab ops []) T.length) k = false := fun k hk => by
    cases hb : getM (rowM (ancTab ops []) T.length) k
    · rfl
    · have := hwf.lt hop hb
      omega
  have hin : ∀ (k : Nat) (rk : Rec), T[k]? = some rk → k < T.length := fun k rk hk => (List.getElem?_eq_some_iff.1 hk).1
  have hacc : ∀ j u, look ((T.length, v) :: s.acc) j = some u → ∃ r, (T ++ [(⟨v, s.hn, hi, e⟩ : Rec)])[j]? = some r ∧ ∀ (ρ : Pl) x, r.v.rel ρ x → u.rel ρ x := by
    intro j u hu
    rw [look_cons] at hu
    by_cases ej : T.length = j
    · subst ej
      rw [if_pos rfl] at hu
      cases hu
      exact ⟨_, hself, fun _ _ hx => hx⟩
    · rw [if_neg ej] at hu
      obtain ⟨r, hr, hx⟩ := h.acc j u hu
      exact ⟨r, get_snoc _ hr, hx⟩
  have hhis : ∀ (j : Nat) (r : Rec), (T ++ [(⟨v, s.hn, hi, e⟩ : Rec)])[j]? = some r → r.hi ≤ hi := by
    intro j r hr
    rcases snoc_get hr with hr | ⟨_, rfl⟩
    · exact Nat.le_trans (h.his j r hr) hle
    · exact Nat.le_refl _
  have hfr : ∀ e' H, (e', H) ∈ s.fr → (e.turns → getM (rowM (ancTab ops []) T.length) e' = false) → ∃ r, (T ++ [(⟨v, s.hn, hi, e⟩ : Rec)])[e']? = some r ∧ r.e.made H ∧ ∀ (m : Nat) (rm : Rec), (T ++ [(⟨v, s.hn, hi, e⟩ : Rec)])[m]? = some rm → rm.e.turns → getM (rowM (ancTab ops []) m) e' = false := by
    intro e' H hm ht
    obtain ⟨r, hr, he, hx⟩ := h.fr e' H hm
    refine ⟨r, get_snoc _ hr, he, fun m rm hrm htm => ?_⟩
    rcases snoc_get hrm with hrm | ⟨rfl, rfl⟩
    · exact hx m rm hrm htm
    · exact ht htm
  have hcur : ¬ e.turns → (s.cur = st.H ∧ ∀ (m : Nat) (rm : Rec), (T ++ [(⟨v, s.hn, hi, e⟩ : Rec)])[m]? = some rm → ¬ rm.e.turns) ∨ ∃ m r, (T ++ [(⟨v, s.hn, hi, e⟩ : Rec)])[m]? = some r ∧ r.e = .chg s.cur ∧ ∀ (m' : Nat) (r' : Rec), (T ++ [(⟨v, s.hn, hi, e⟩ : Rec)])[m']? = some r' → r'.e.turns → getM (rowM (ancTab ops []) m') m = false := by
    intro hnt
    rcases h.cur with ⟨h1, h2⟩ | ⟨m, r, hr, he, hx⟩
    · refine .inl ⟨h1, fun m rm hrm => ?_⟩
      rcases snoc_get hrm with hrm | ⟨rfl, rfl⟩
      · exact h2 m rm hrm
      · exact hnt
    · refine .inr ⟨m, r, get_snoc _ hr, he, fun m' r' hr' ht' => ?_⟩
      rcases snoc_get hr' with hr' | ⟨rfl, rfl⟩
      · exact hx m' r' hr' ht'
      · exact absurd ht' hnt
  have hmuts' : ¬ e.turns → ∀ (j : Nat) (r : Rec), (T ++ [(⟨v, s.hn, hi, e⟩ : Rec)])[j]? = some r → r.e.turns → j ∈ s.muts := by
    intro hnt j r hr ht
    rcases snoc_get hr with hr | ⟨rfl, rfl⟩
    · exact h.muts j r hr ht
    · exact absurd ht hnt
  have hmems' : ¬ e.touch → ∀ (j : Nat) (r : Rec), (T ++ [(⟨v, s.hn, hi, e⟩ : Rec)])[j]? = some r → r.e.touch → j ∈ s.mems := by
    intro hnt j r hr ht
    rcases snoc_get hr with hr | ⟨rfl, rfl⟩
    · exact h.mems j r hr ht
    · exact absurd ht hnt
  have hmems2 : ∀ (j : Nat) (r : Rec), (T ++ [(⟨v, s.hn, hi, e⟩ : Rec)])[j]? = some r → r.e.touch → j ∈ T.length :: s.mems := by
    intro j r hr ht
    rcases snoc_get hr with hr | ⟨rfl, rfl⟩
    · exact .tail _ (h.mems j r hr ht)
    · exact .head _
  cases e with
  | none =>
    have hnt : ¬ Eft.turns .none := fun ⟨_, h⟩ => by cases h
    exact ⟨hacc, hmuts' hnt, hmems' (fun h => h), fun e' H hm => hfr e' H hm (fun h => absurd h hnt), hcur hnt, Nat.le_trans h.hn hle, hhis⟩
  | read =>
    have hnt : ¬ Eft.turns .read := fun ⟨_, h⟩ => by cases h
    exact ⟨hacc, hmuts' hnt, hmems2, fun e' H hm => hfr e' H hm (fun h => absurd h hnt), hcur hnt, Nat.le_trans h.hn hle, hhis⟩
  | fresh H0 =>
    have hnt : ¬ Eft.turns (.fresh H0) := fun ⟨_, h⟩ => by cases h
    refine ⟨hacc, hmuts' hnt, hmems' (fun h => h), fun e' H hm => ?_, hcur hnt, Nat.le_trans h.hn hle, hhis⟩
    rcases List.mem_cons.1 hm with hm | hm
    · cases hm
      refine ⟨_, hself, .inl rfl, fun m rm hrm htm => ?_⟩
      rcases snoc_get hrm with hrm | ⟨rfl, rfl⟩
      · have hmlt := hin m rm hrm
        cases hb : getM (rowM (ancTab ops []) m) T.length
        · rfl
        · have := hwf.lt (List.getElem?_eq_getElem (by omega : m < ops.length)) hb
          omega
      · exact absurd htm hnt
    · exact hfr e' H hm (fun h => absurd h hnt)
  | both H0 =>
    have hnt : ¬ Eft.turns (.both H0) := fun ⟨_, h⟩ => by cases h
    refine ⟨hacc, hmuts' hnt, hmems2, fun e' H hm => ?_, hcur hnt, Nat.le_trans h.hn hle, hhis⟩
    rcases List.mem_cons.1 hm with hm | hm
    · cases hm
      refine ⟨_, hself, .inr rfl, fun m rm hrm htm => ?_⟩
      rcases snoc_get hrm with hrm | ⟨rfl, rfl⟩
      · have hmlt := hin m rm hrm
        cases hb : getM (rowM (ancTab ops []) m) T.length
        · rfl
        · have := hwf.lt (List.getElem?_eq_getElem (by omega : m < ops.length)) hb
          omega
      · exact absurd htm hnt
    · exact hfr e' H hm (fun h => absurd h hnt)
  | chg H0 =>
    refine ⟨hacc, fun j r hr ht => ?_, hmems2, fun e' H hm => ?_, .inr ⟨T.length, _, hself, rfl, fun m' r' hr' ht' => ?_⟩, Nat.le_trans h.hn hle, hhis⟩
    · rcases snoc_get hr with hr | ⟨rfl, rfl⟩
      · exact .tail _ (h.muts j r hr ht)
      · exact .head _
    · obtain ⟨h1, h2⟩ := unseen_mem hm
      exact hfr e' H h1 (fun _ => h2)
    · rcases snoc_get hr' with hr' | ⟨rfl, rfl⟩
      · have hmlt := hin m' r' hr'
        cases hb : getM (rowM (ancTab ops []) m') T.length
        · rfl
        · have := hwf.lt (List.getElem?_eq_getElem (by omega : m' < ops.length)) hb
          omega
      · exact hlow _ (Nat.le_refl _)
/-- The walk's memory, as an operation sees it. -/
theorem KInv.seen {st : AS} {tab : List (List Bool)} {T : List Rec} {s : RS} (h : KInv st tab T s) {j : Nat} {ρ : Pl} {w : World} (hm : allM (rowM tab j) s.muts = true) (hs : SeesObj st tab T j ρ w) : HObj ρ (SX.seen (rowM tab j) s.fr s.cur) w := by
  refine seen_obj (fun e H hin ha => ?_) ?_
  · obtain ⟨r, hr, he, hx⟩ := h.fr e H hin
    exact hs.1 e r H hr ha (.inl he) hx
  · rcases h.cur with ⟨h1, h2⟩ | ⟨m, r, hr, he, hx⟩
    · rw [h1]
      exact hs.2 h2
    · exact hs.1 m r s.cur hr (allM_spec hm m (h.muts m r hr ⟨_, he⟩)) (.inr he) hx
end Go.Proofs.Ytaoplfmaiclfkaa.SX
