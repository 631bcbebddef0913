/- A symbolic walk, part four: what an operation that reads yields. -/
import Derived.Test.YtaoplfmaiclfkaaSXc
import Derived.Laws.Build
import Derived.Laws.Cover3
namespace Go.Proofs.Ytaoplfmaiclfkaa.SX
set_option linter.unusedVariables false
set_option linter.unusedSimpArgs false
open Go
variable {P : Program} {φ : AV → Heap → Nat → Prop}
theorem addr_add (b o k : Nat) : (⟨b, o, none⟩ : Addr).add k = ⟨b, o + k, none⟩ := by unfold Addr.add; split <;> simp_all
theorem run_isAgg {t : TypeId} {d : TypeDesc} (h : P.underlying t = some d) (w : World) : (isAgg t).run P w = .ok (isAggD d) w := by
  unfold isAgg
  rw [Sem.run_bind, run_underlying h]
  cases d <;> rfl
theorem run_sizeOf {t : TypeId} {i : TypeInfo} (h : P.info? t = some i) (w : World) : (sizeOf t).run P w = .ok i.size w := by simp [sizeOf, typeInfo, h]
theorem run_typeInfo {t : TypeId} {i : TypeInfo} (h : P.info? t = some i) (w : World) : (typeInfo t).run P w = .ok i w := by simp [typeInfo, h]
/-- A part of what lies at b. -/
theorem partAt_ok {t : TypeId} {l : List AV} {o : Nat} {k : AV → Tree} (h : (partOf P t l o k).den φ) :
    ∃ av, (k av).den φ ∧ ∀ (ρ : Pl) (vs : List Value) (w : World), AV.relL ρ l vs → ∃ v, av.rel ρ v ∧ (part t vs.toArray o).run P w = .ok v w ∧
      ∀ (n b : Nat) (bt : TypeId) (fz : Nat × Nat) (cur : Array Value), w.heap[n]? = some (.cells cur bt fz) → (∀ (j : Nat) x, vs[j]? = some x → cur[b + j]? = some x) → (loadVar t ⟨n, b + o, none⟩).run P w = .ok v w := by
  unfold partOf at h
  split at h
  · rename_i d i hd hi
    split at h
    · rename_i hagg
      split at h
      · rename_i hle
        have hle := Nat.le_of_ble_eq_true hle
        refine ⟨_, h, fun ρ vs w hv => ⟨.agg ((vs.drop o).take i.size).toArray, ⟨_, relL_take _ (relL_drop _ hv), rfl⟩, ?_, ?_⟩⟩
        · unfold part
          simp [Sem.run_bind, run_isAgg hd, hagg, run_sizeOf hi, List.extract_eq_take_drop]
        · intro n b bt fz cur hg hcur
          have hlen : ((vs.drop o).take i.size).length = i.size := by simp [relL_len hv]; omega
          have := run_loadCells_list (P := P) w ⟨n, b + o, none⟩ ((vs.drop o).take i.size) (fun j v hj => by
            rw [addr_add, cell_of_row w n (b + o + j) _ _ _ hg]
            have hj2 : j < i.size := by
              have := (List.getElem?_eq_some_iff.1 hj).1
              omega
            rw [List.getElem?_take_of_lt hj2, List.getElem?_drop] at hj
            rw [Nat.add_assoc]
            exact hcur _ _ hj)
          rw [hlen] at this
          unfold loadVar
          simp [Sem.run_bind, run_isAgg hd, hagg, run_sizeOf hi, this]
      · exact h.elim
    · rename_i hagg
      split at h
      · rename_i v hv0
        refine ⟨_, h, fun ρ vs w hv => ?_⟩
        obtain ⟨x, hx, hr⟩ := relL_nth o hv hv0
        refine ⟨x, hr, ?_, fun n b bt fz cur hg hcur => ?_⟩
        · unfold part
          simp [Sem.run_bind, run_isAgg hd, hagg, hx]
        · unfold loadVar
          have hc : w.cell? ⟨n, b + o, none⟩ = some x := by rw [cell_of_row w n (b + o) _ _ _ hg]; exact hcur _ _ hx
          simp [Sem.run_bind, run_isAgg hd, hagg, run_load, hc]
      · exact h.elim
  · exact h.elim
theorem partOf_ok {t : TypeId} {l : List AV} {o : Nat} {k : AV → Tree} (h : (partOf P t l o k).den φ) :
    ∃ av, (k av).den φ ∧ ∀ (ρ : Pl) (vs : List Value) (w : World), AV.relL ρ l vs → ∃ v, av.rel ρ v ∧ (part t vs.toArray o).run P w = .ok v w ∧
      ∀ (n : Nat) (bt : TypeId) (fz : Nat × Nat) (cur : Array Value), w.heap[n]? = some (.cells cur bt fz) → (∀ (j : Nat) x, vs[j]? = some x → cur[j]? = some x) → (loadVar t ⟨n, o, none⟩).run P w = .ok v w := by
  obtain ⟨av, h, hp⟩ := partAt_ok h
  refine ⟨av, h, fun ρ vs w hv => ?_⟩
  obtain ⟨v, h1, h2, h3⟩ := hp ρ vs w hv
  refine ⟨v, h1, h2, fun n bt fz cur hg hc => ?_⟩
  have := h3 n 0 bt fz cur hg (fun j x hj => by rw [Nat.zero_add]; exact hc j x hj)
  rwa [Nat.zero_add] at this
theorem loadAt_ok {H : Heap} {t : TypeId} {i o : Nat} {k : AV → Tree} (h : (loadAt P H t i o k).den φ) :
    ∃ av, (k av).den φ ∧ ∀ (ρ : Pl) (hn : Nat) (w : World), HRel ρ H hn w → ∃ v n, av.rel ρ v ∧ ρ i = some n ∧ (loadVar t ⟨n, o, none⟩).run P w = .ok v w := by
  unfold loadAt at h
  split at h
  · rename_i bt l hl
    obtain ⟨av, h, hp⟩ := partOf_ok h
    refine ⟨av, h, fun ρ hn w hr => ?_⟩
    obtain ⟨n, ob, hn, hg, xs, hxs, rfl⟩ := hr.obj _ _ hl
    obtain ⟨v, hv, _, hld⟩ := hp ρ xs w hxs
    exact ⟨v, n, hv, hn, hld n bt _ _ hg (fun j x hj => by simpa using hj)⟩
  · exact h.elim
theorem pre_get {α : Type} {cur : List α} {m : Nat} {xs : List α} (h : cur.take m = xs) (j : Nat) (x : α) (hj : xs[j]? = some x) : cur[j]? = some x := by
  rw [← h, List.getElem?_take] at hj
  split at hj
  · exact hj
  · cases hj
theorem win_get {α : Type} {cur : List α} {o m : Nat} {xs : List α} (h : (cur.drop o).take m = xs) (j : Nat) (x : α) (hj : xs[j]? = some x) : cur[o + j]? = some x := by
  have := pre_get h j x hj
  rwa [List.getElem?_drop] at this
/-- One element of a row. -/
theorem elem_get {ob : Nat → Option Obj} {t : Ty} {l : List t.El} {xs cur : List Value} {o j : Nat} (hall : AllR (RelT ob t) l xs) (hwin : (cur.drop o).take (l.length * t.size) = xs) (hj : j < l.length) :
    ∃ u, RelT ob t (l.getD j t.dflt) u ∧ u.length = t.size ∧ ∀ (i : Nat) x, u[i]? = some x → cur[o + j * t.size + i]? = some x := by
  have h1 := AllR.get (RelT.len t) hj hall
  refine ⟨_, ?_, RelT.len t _ _ h1, fun i x hi => ?_⟩
  · rw [List.getD_eq_getElem?_getD, List.getElem?_eq_getElem hj]
    exact h1
  · have h2 := pre_get rfl i x hi
    rw [List.getElem?_drop] at h2
    rw [Nat.add_assoc]
    exact win_get hwin _ _ h2
theorem loadE_ok {H : Heap} {t : TypeId} {i sz j f : Nat} {k : AV → Tree} (h : (loadE P H t i sz j f k).den φ) :
    ∃ av, (k av).den φ ∧ ∀ (ρ : Pl) (hn : Nat) (w : World) (x : Value), HRel ρ H hn w → (AV.ept i sz j f).rel ρ x → ∃ v a, av.rel ρ v ∧ x = .pointer (some a) ∧ (loadVar t a).run P w = .ok v w := by
  unfold loadE at h
  split at h
  · rename_i e ty z n l hl
    split at h
    · rename_i hi
      have hi := Nat.eq_of_beq_eq_true hi
      subst hi
      obtain ⟨av, h, hp⟩ := partAt_ok h
      refine ⟨av, h, fun ρ hn w x hr ⟨n, o, len, cap, htv, hj, ex⟩ => ?_⟩
      obtain ⟨_, hh⟩ := hr.obj _ _ hl
      rcases hh with ⟨h1, _⟩ | ⟨g, off, cap', cur, xs, h1, h2, h3, h4, h5, h6, h7, h8, h9⟩
      · rw [h1] at htv; cases htv
      · rw [h2] at htv
        cases htv
        obtain ⟨u, hu, hul, hget⟩ := elem_get h7 h9 hj
        obtain ⟨v, hv, _, hld⟩ := hp ρ u w (relT_avs _ _ _ hu)
        exact ⟨v, _, hv, ex, hld _ _ e _ _ h3 (fun i x hi => by simpa using hget i x hi)⟩
    · exact h.elim
  · exact h.elim
def OV : Option Value → Option SI → Prop
  | none, none => True
  | some v, some n => ∃ kd, v = .int kd n.v
  | _, _ => False
theorem evO_ok {st : AS} {x : Option Operand} {k : Option SI → Tree} (h : (evO st x k).den φ) : ∃ n, (k n).den φ ∧ ∀ (ρ : Pl) (a : Act), SRel ρ st.sz st.slots a.tmps → OV (x.map a.eval) n := by
  unfold evO at h
  split at h
  · exact ⟨_, h, fun _ _ _ => trivial⟩
  · obtain ⟨av, h, hv⟩ := ev_ok h
    split at h
    · rw [forceSI_eq] at h
      refine ⟨_, h, fun ρ a hs => ?_⟩
      obtain ⟨v, hr, e⟩ := hv ρ a hs
      exact ⟨_, by rw [e, show v = _ from hr]⟩
    · exact h.elim
theorem nilK_ok {H : Heap} {v : AV} {b : Bool} (h : nilK H v = some b) {ρ : Pl} {hn : Nat} {w : World} {x : Value} (hr : HRel ρ H hn w) (hx : v.rel ρ x) : ∃ a len cap, x = .slice a len cap ∧ a.isNone = b := by
  unfold nilK at h
  split at h
  · cases h
    exact ⟨_, _, _, hx, rfl⟩
  · cases h
    obtain ⟨n, _, e⟩ := hx
    exact ⟨_, _, _, e, rfl⟩
  · rename_i i
    split at h
    · rename_i e t z n l hl
      cases h
      obtain ⟨hn2, hh⟩ := hr.obj _ _ hl
      obtain ⟨htv, a, len, cap, rfl⟩ := hx
      rcases hh with ⟨h1, h2⟩ | ⟨g, off, cap', cur, xs, h1, h2, _⟩
      · rw [h2] at hn2
        simp [SI.v] at hn2
        omega
      · rw [h2] at htv
        cases htv
        exact ⟨_, _, _, rfl, rfl⟩
    · cases h
  · cases h
theorem isSl_ok {v : AV} (h : isSl v = true) {ρ : Pl} {x : Value} (hx : v.rel ρ x) : ∃ a len cap, x = .slice a len cap := by
  cases v with
  | own i => exact ⟨_, _, _, hx.2.choose_spec.choose_spec.choose_spec⟩
  | pre i hi =>
    rcases hx with ⟨_, ⟨_, _, e⟩ | ⟨n, o, len, cap, _, _, _, e⟩⟩ <;> exact ⟨_, _, _, e⟩
  | vw i sz lo hi =>
    rcases hx with ⟨_, _, ⟨_, _, e⟩ | ⟨n, o, len, cap, _, _, _, e⟩⟩ <;> exact ⟨_, _, _, e⟩
  | lst i t l lo =>
    unfold AV.rel at hx
    rcases hx with ⟨_, _, _, e⟩ | ⟨n, o, len, cap, cs, ty, fz, xs, _, e, _⟩
    · exact ⟨_, _, _, e⟩
    · obtain ⟨a, c, h⟩ := subV_sl n o t.size l.length cap lo
      exact ⟨_, _, _, e.trans h⟩
  | ro t l =>
    unfold AV.rel at hx
    rcases hx with ⟨_, e, _⟩ | ⟨n, o, cap, cs, ty, fz, xs, e, _⟩ <;> exact ⟨_, _, _, e⟩
  | _ => cases h
theorem lenK_ok {H : Heap} {v : AV} {n : SI} (h : lenK H v = some n) {ρ : Pl} {hn : Nat} {w : World} {a : Option Addr} {len cap : Nat} (hr : HRel ρ H hn w) (hx : v.rel ρ (.slice a len cap)) (h1 : 1 ≤ n.v) : a.isNone = false := by
  unfold lenK at h
  split at h
  · split at h
    · rename_i i e t z m l hl
      have hm : m = n := by split at h <;> cases h <;> rfl
      subst hm
      obtain ⟨hn, hh⟩ := hr.obj _ _ hl
      obtain ⟨htv, _⟩ := hx
      rcases hh with ⟨h2, h3⟩ | ⟨g, off, c, cur, xs, _, h2, _⟩
      · rw [h3] at hn
        simp at hn
        omega
      · rw [h2] at htv
        cases htv
        rfl
    · cases h
  · rename_i i t l
    cases h
    have h1 : 1 ≤ (l.length : Int) := h1
    rcases hx with ⟨b, _, h3, _⟩ | ⟨q, o, len', cap', cs, ty, fz, xs, _, h3, _⟩
    · rw [h3] at h1
      simp at h1
    · unfold subV at h3
      cases h3
      rfl
  · rename_i t l
    cases h
    have h1 : 1 ≤ (l.length : Int) := h1
    rcases hx with ⟨b, _, h3⟩ | ⟨q, o, cap', cs, ty, fz, xs, h3, _⟩
    · rw [h3] at h1
      simp at h1
    · cases h3
      rfl
  · cases h
theorem nilOp_ok {op : Op} {x : Operand} {q : Bool} (h : nilOp P op = some (x, q)) : ∀ (a : Act) (w : World) (o : Oper) (b : Option Addr) (len cap : Nat), o.op = op → a.eval x = .slice b len cap → (execOp a.eval o).run P w = .ok (.value (.bool (b.isNone == q))) w := by
  intro a w o b len cap ho hx
  unfold nilOp at h
  split at h
  · rename_i bop t x' v yt
    split at h
    · rename_i e hv hu
      cases h
      have hv : v = .slice none 0 0 := ofV_ok (ρ := Pl.none 0) hv
      subst hv
      have hg : (eqGuard .eql t x (.const (.slice none 0 0)) (.slice b len cap) (.slice none 0 0)).run P w = .ok () w := not_eqGuard (fun _ => by intro h; cases h) (by intro h; cases h)
      have hc : a.eval (.const (.slice none 0 0)) = .slice none 0 0 := rfl
      simp [execOp, ho, hx, hc, Sem.run_bind, hg, binOp, run_equal_slice_nil w t e b len cap hu]
    · rename_i e hv hu
      cases h
      have hv : v = .slice none 0 0 := ofV_ok (ρ := Pl.none 0) hv
      subst hv
      have hg : (eqGuard .neq t x (.const (.slice none 0 0)) (.slice b len cap) (.slice none 0 0)).run P w = .ok () w := not_eqGuard (fun _ => by intro h; cases h) (by intro h; cases h)
      have hc : a.eval (.const (.slice none 0 0)) = .slice none 0 0 := rfl
      simp [execOp, ho, hx, hc, Sem.run_bind, hg, run_neq_slice_nil w t e b len cap hu]
    · cases h
  · cases h
/-- A bound, or what stands for none. -/
def BV : Option Value → Nat → Nat → Prop
  | none, d, n => n = d
  | some v, _, n => ∃ k, v = .int k (n : Int)
/-- A part of a slice. -/
theorem run_slice {t e : TypeId} {inf : TypeInfo} (hu : P.underlying t = some (.slice e)) (hi : P.info? e = some inf) (a : Option Addr) (len cap : Nat) (lo hi : Option Value) (l h : Nat) (w : World) (hl : BV lo 0 l) (hh : BV hi len h) (h1 : l ≤ h) (h2 : h ≤ len) (h3 : len ≤ cap) : (Instr.slice t (.slice a len cap) lo hi none).run P w = .ok (.slice (if cap = l then a else a.map (·.add (l * inf.size))) (h - l) (cap - l)) w := by
  have e1 : ¬ (cap : Int) < h := by omega
  have e2 : ¬ (h : Int) < l := by omega
  have e3 : ¬ (len : Int) < l := by omega
  have e4 : (h : Int) ≤ cap := by omega
  have e5 : l ≤ len := by omega
  have e6 : h ≤ cap := by omega
  cases lo with
  | none =>
    have hl : l = 0 := hl
    subst hl
    cases hi with
    | none =>
      have hh : h = len := hh
      subst hh
      simp [Instr.slice, Instr.sliceBounds, run_underlying hu, run_sizeOf hi]
    | some v =>
      obtain ⟨k, rfl⟩ := hh
      simp [Instr.slice, Instr.sliceBounds, Instr.sliceBound, asIntOf, run_underlying hu, run_sizeOf hi, e4, e6]
  | some u =>
    obtain ⟨k, rfl⟩ := hl
    cases hi with
    | none =>
      have hh : h = len := hh
      subst hh
      simp [Instr.slice, Instr.sliceBounds, Instr.sliceBound, asIntOf, run_underlying hu, run_sizeOf hi, h1]
    | some v =>
      obtain ⟨k, rfl⟩ := hh
      simp [Instr.slice, Instr.sliceBounds, Instr.sliceBound, asIntOf, run_underlying hu, run_sizeOf hi, e4, e6, h1]
theorem pick_ok {m : Int} {k : Nat → Tree} : ∀ {n : Nat}, (pick m k n).den φ → ∃ j, j < n ∧ m = (j : Int) ∧ (k j).den φ
  | 0, h => h.elim
  | n + 1, h => by
    by_cases e : m = (n : Int)
    · exact ⟨n, by omega, e, h.1 e⟩
    · obtain ⟨j, hj, e2, hk⟩ := pick_ok (h.2 e)
      exact ⟨j, by omega, e2, hk⟩
theorem byIndex_ok {n : Nat} {ix : SI} {k : Nat → Tree} (h : (byIndex n ix k).den φ) : ∃ j, j < n ∧ ix.v = (j : Int) ∧ (k j).den φ := by
  unfold byIndex at h
  split at h
  · rename_i j
    split at h
    · rename_i hj
      exact ⟨j, Nat.lt_of_lt_of_le (Nat.lt_succ_self j) (Nat.le_of_ble_eq_true hj), rfl, h⟩
    · exact h.elim
  · exact h.elim
  · exact pick_ok h
theorem fold_set (off : Nat) : ∀ (vs : List Value) (j : Nat) (cells : Array Value), off + j + vs.length ≤ cells.size →
    ((vs.zipIdx j).foldl (fun cs (p : Value × Nat) => cs.setIfInBounds (off + p.2) p.1) cells) = (cells.toList.take (off + j) ++ vs ++ cells.toList.drop (off + j + vs.length)).toArray
  | [], j, cells, _ => by simp
  | v :: vs, j, cells, h => by
    simp only [List.zipIdx_cons, List.foldl_cons]
    rw [fold_set off vs (j + 1) _ (by simp at h ⊢; omega)]
    have hlt : off + j < cells.toList.length := by simp at h ⊢; omega
    congr 1
    have hlt' : off + j < cells.size := by simpa using hlt
    rw [Array.toList_setIfInBounds, List.take_set, List.drop_set]
    rw [if_pos (by omega), show off + (j + 1) = (off + j) + 1 from by omega, List.take_succ_eq_append_getElem hlt]
    rw [List.set_append_right _ _ (by simp; omega)]
    have e1 : off + j - (cells.toList.take (off + j)).length = 0 := by simp; omega
    rw [e1]
    simp
    congr 1
    omega
theorem fillG_ok {place : Nat → Option (Nat × Nat)} {ρ : Pl} : ∀ {l : List (Nat × AV)} {cells cs : List AV} {vs : List (Nat × Value)} {xs : List Value}, fillG place l cells = some cs → l.map (·.1) = vs.map (·.1) → AV.relL ρ (l.map (·.2)) (vs.map (·.2)) →
    AV.relL ρ cells xs → ∃ ys, Instr.fill place xs.toArray vs = some ys ∧ AV.relL ρ cs ys.toList
  | [], cells, cs, vs, xs, h, h1, h2, h3 => by
    have : vs = [] := by simpa using h1.symm
    subst this
    cases h
    exact ⟨_, rfl, by simpa using h3⟩
  | (i, v) :: r, cells, cs, vs, xs, h, h1, h2, h3 => by
    cases vs with
    | nil => simp at h1
    | cons q vs =>
      obtain ⟨i', x⟩ := q
      obtain ⟨x', xs', hx, hxs, e⟩ := h2
      simp at h1 e
      obtain ⟨rfl, h1⟩ := h1
      obtain ⟨rfl, rfl⟩ := e
      unfold fillG at h
      split at h
      · rename_i off size hpl
        split at h
        · rename_i hc
          simp only [Bool.and_eq_true] at hc
          have hc1 := Nat.eq_of_beq_eq_true hc.1
          have hc2 := Nat.le_of_ble_eq_true hc.2
          have hcx := cellsOf_rel hx
          have hl1 := relL_len hcx
          have hl2 := relL_len h3
          have hput := relL_putAt cells off (cellsOf v) h3 hcx hc2
          obtain ⟨ys, hy, hr⟩ := fillG_ok h h1 hxs hput
          refine ⟨ys, ?_, hr⟩
          unfold Instr.fill
          rw [hpl]
          have hsz : x.cells.size = size := by rw [← Array.length_toList, hl1, hc1]
          have hle : off + x.cells.size ≤ xs.toArray.size := by
            rw [hsz, ← hc1]; simp; omega
          simp only [hsz]
          rw [if_neg (by simp; rw [hsz] at hle; simpa using hle)]
          rw [← hy]
          congr 1
          have hz := fold_set off x.cells.toList 0 xs.toArray (by simp at hle ⊢; omega)
          simp only [Nat.add_zero] at hz
          rw [← Array.foldl_toList, Array.toList_zipIdx]
          simpa using hz
        · cases h
      · cases h
theorem zeroOf_ok {t : TypeId} {z : AV} (h : zeroOf P t = some z) (ρ : Pl) (w : World) : ∃ v, z.rel ρ v ∧ (zeroValue t).run P w = .ok v w := by
  unfold zeroOf at h
  split at h
  · rename_i i hi
    split at h
    · rename_i v hv
      exact ⟨v, ofV_ok h, by simp [zeroValue, typeInfo, hi, hv]⟩
    · cases h
  · cases h
theorem maxmin_ok {less : Bool} {ρ : Pl} : ∀ {l : List AV} {a : AV} {k : AV → Tree}, (maxmin less l a k).den φ → ∃ av, (k av).den φ ∧ ∀ (ρ : Pl) (w : World) (x : Value) (xs : List Value), a.rel ρ x → AV.relL ρ l xs →
    ∃ v, av.rel ρ v ∧ (xs.foldlM (fun x y => match less with | true => Builtin.min2 x y | false => Builtin.max2 x y) x : Sem Value).run P w = .ok v w
  | [], a, k, h => ⟨a, h, fun ρ w x xs hx hxs => ⟨x, hx, by rw [show xs = [] from hxs]; rfl⟩⟩
  | b :: r, a, k, h => by
    unfold maxmin at h
    split at h
    · cases ‹_ :: _ = []›
    · rename_i k' b' r' k0 a' e
      cases e
      obtain ⟨av, h, hv⟩ := maxmin_ok (ρ := ρ) h
      refine ⟨av, h, fun ρ w x xs hx ⟨y, ys, hy, hys, e⟩ => ?_⟩
      subst e
      obtain ⟨v, hr, hf⟩ := hv ρ w _ ys rfl hys
      refine ⟨v, hr, ?_⟩
      rw [← hf, show x = _ from hx, show y = _ from hy]
      cases less <;> simp [Builtin.min2, Builtin.max2, SI.bin_v]
    · exact h.elim
theorem builtin_ok {b : Builtin} {ts : Array TypeId} {args : List AV} {k : AV → Tree} (h : (builtin P b ts args k).den φ) : ∃ av, (k av).den φ ∧ ∀ (ρ : Pl) (ty : TypeId) (cs : Array Bool) (w : World) (xs : List Value), AV.relL ρ args xs →
    ∃ v, av.rel ρ v ∧ (Go.builtin b ts ty cs xs.toArray).run P w = .ok (.value v) w := by
  unfold builtin at h
  split at h
  · rename_i x
    split at h
    · rename_i t r hts
      have hts0 : ts[0]? = some t := by rw [← Array.getElem?_toList, hts]; rfl
      split at h
      · rename_i e i o n c hu
        refine ⟨_, h, fun ρ ty cs w xs ⟨y, ys, ⟨m, hm, hy⟩, hys, e⟩ => ⟨_, rfl, ?_⟩⟩
        rw [e, show ys = [] from hys, hy]
        simp [Go.builtin, Builtin.len_, hts0, run_underlying hu, goInt, SI.v]
      · rename_i e hu
        refine ⟨_, h, fun ρ ty cs w xs ⟨y, ys, hy, hys, e⟩ => ⟨_, rfl, ?_⟩⟩
        rw [e, show ys = [] from hys, show y = _ from hy]
        simp [Go.builtin, Builtin.len_, hts0, run_underlying hu, goInt, SI.v]
      · rename_i e i t l lo hu
        refine ⟨_, h, fun ρ ty cs w xs ⟨y, ys, hy, hys, e⟩ => ⟨_, rfl, ?_⟩⟩
        obtain ⟨a, c, hy⟩ : ∃ a c, y = .slice a l.length c := by
          unfold AV.rel at hy
          rcases hy with ⟨_, _, e1, e⟩ | ⟨n, o, len, cap, cs, ty, fz, xs, _, e, _⟩
          · exact ⟨_, _, by rw [e1]; exact e⟩
          · obtain ⟨a, c, h⟩ := subV_sl n o t.size l.length cap lo
            exact ⟨_, _, e.trans h⟩
        rw [e, show ys = [] from hys, hy]
        simp [Go.builtin, Builtin.len_, hts0, run_underlying hu, goInt, SI.v]
      · rename_i e t l hu
        refine ⟨_, h, fun ρ ty cs w xs ⟨y, ys, hy, hys, e⟩ => ⟨_, rfl, ?_⟩⟩
        obtain ⟨a, c, hy⟩ : ∃ a c, y = .slice a l.length c := by
          unfold AV.rel at hy
          rcases hy with ⟨_, e, e1⟩ | ⟨n, o, cap, cs, ty, fz, xs, e, _⟩
          · exact ⟨_, _, by rw [e1]; exact e⟩
          · exact ⟨_, _, e⟩
        rw [e, show ys = [] from hys, hy]
        simp [Go.builtin, Builtin.len_, hts0, run_underlying hu, goInt, SI.v]
      · rename_i e i n hu
        refine ⟨_, h, fun ρ ty cs w xs ⟨y, ys, hy, hys, e⟩ => ⟨_, rfl, ?_⟩⟩
        obtain ⟨a, c, hy⟩ : ∃ a c, y = .slice a n.v.toNat c ∧ 0 ≤ n.v := by
          unfold AV.rel at hy
          rcases hy with ⟨h0, ⟨_, e1, e⟩ | ⟨n, o, len, cap, _, _, _, e⟩⟩
          · exact ⟨_, _, by rw [e1]; exact e, h0⟩
          · exact ⟨_, _, e, h0⟩
        rw [e, show ys = [] from hys, hy.1]
        simp [Go.builtin, Builtin.len_, hts0, run_underlying hu, goInt]
        omega
      · rename_i e i sz lo hi hu
        refine ⟨_, h, fun ρ ty cs w xs ⟨y, ys, hy, hys, e⟩ => ⟨_, rfl, ?_⟩⟩
        obtain ⟨a, c, hy⟩ : ∃ a c, y = .slice a (hi.v - lo.v).toNat c ∧ lo.v ≤ hi.v := by
          unfold AV.rel at hy
          rcases hy with ⟨h0, h2, ⟨_, e1, e⟩ | ⟨n, o, len, cap, _, _, _, e⟩⟩
          · exact ⟨_, _, by rw [e, show hi.v - lo.v = 0 by omega]; rfl, h2⟩
          · obtain ⟨a, c, h⟩ := subV_sl n o sz (hi.v - lo.v).toNat cap (some lo.v.toNat)
            exact ⟨_, _, e.trans h, h2⟩
        rw [e, show ys = [] from hys, hy.1]
        simp [Go.builtin, Builtin.len_, hts0, run_underlying hu, goInt, SI.bin_v]
        omega
      · rename_i s hu
        refine ⟨_, h, fun ρ ty cs w xs ⟨y, ys, hy, hys, e⟩ => ⟨_, rfl, ?_⟩⟩
        rw [e, show ys = [] from hys, show y = _ from hy]
        simp [Go.builtin, Builtin.len_, hts0, run_underlying hu, goInt, SI.v]
      · rename_i n e hu
        refine ⟨_, h, fun ρ ty cs w xs ⟨y, ys, hy, hys, e⟩ => ⟨_, rfl, ?_⟩⟩
        rw [e, show ys = [] from hys]
        simp [Go.builtin, Builtin.len_, hts0, run_underlying hu, goInt, SI.v]
      · exact h.elim
    · exact h.elim
  · rename_i x r
    obtain ⟨av, h, hv⟩ := maxmin_ok (P := P) (ρ := Pl.none 0) h
    refine ⟨av, h, fun ρ ty cs w xs ⟨y, ys, hy, hys, e⟩ => ?_⟩
    obtain ⟨v, hr, hf⟩ := hv ρ w y ys hy hys
    refine ⟨v, hr, ?_⟩
    subst e
    simp only [Go.builtin, Builtin.max_, Sem.run_bind]
    rw [hf]
    rfl
  · rename_i x r
    obtain ⟨av, h, hv⟩ := maxmin_ok (P := P) (ρ := Pl.none 0) h
    refine ⟨av, h, fun ρ ty cs w xs ⟨y, ys, hy, hys, e⟩ => ?_⟩
    obtain ⟨v, hr, hf⟩ := hv ρ w y ys hy hys
    refine ⟨v, hr, ?_⟩
    subst e
    simp only [Go.builtin, Builtin.min_, Sem.run_bind]
    rw [hf]
    rfl
  · exact h.elim
theorem lenV_ok {H : Heap} {b : Builtin} {ts : Array TypeId} {i : Nat} {k : AV → Tree} (h : (lenV P H b ts i k).den φ) : ∃ av, (k av).den φ ∧ ∀ (ρ : Pl) (hn : Nat) (ty : TypeId) (cs : Array Bool) (w : World) (xs : List Value), AV.relL ρ [.own i] xs → HRel ρ H hn w →
    ∃ v, av.rel ρ v ∧ (Go.builtin b ts ty cs xs.toArray).run P w = .ok (.value v) w := by
  unfold lenV at h
  split at h
  · rename_i t r hts
    have hts0 : ts[0]? = some t := by rw [← Array.getElem?_toList, hts]; rfl
    split at h
    · rename_i e e' ty' z n l hu hl
      refine ⟨_, h, fun ρ hn ty cs w xs ⟨y, ys, ⟨hy, _⟩, hys, ex⟩ hr => ⟨_, rfl, ?_⟩⟩
      obtain ⟨hn2, hh⟩ := hr.obj _ _ hl
      rw [ex, show ys = [] from hys]
      rcases hh with ⟨h1, h2⟩ | ⟨g, off, cap', cur, xs, h1, h2, _⟩
      · rw [h1] at hy
        cases hy
        rw [h2] at hn2
        simp [Go.builtin, Builtin.len_, hts0, run_underlying hu, goInt, hn2]
      · rw [h2] at hy
        cases hy
        simp [Go.builtin, Builtin.len_, hts0, run_underlying hu, goInt, hn2]
    · exact h.elim
  · exact h.elim
end Go.Proofs.Ytaoplfmaiclfkaa.SX
