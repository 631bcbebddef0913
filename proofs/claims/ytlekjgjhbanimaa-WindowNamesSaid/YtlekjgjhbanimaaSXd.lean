/- A symbolic walk, part four: what an operation that reads yields. -/
import Derived.Test.YtlekjgjhbanimaaSXc
import Derived.Laws.Build
namespace Go.Proofs.Ytlekjgjhbanimaa.SX
set_option linter.unusedVariables false
set_option linter.unusedSimpArgs false
open Go
variable {P : Program} {φ : AV → Heap → Nat → Prop}
theorem addr_add (b o k : Nat) : (⟨b, o, none⟩ : Addr).add k = ⟨b, o + k, none⟩ := by unfold Addr.add; split <;> simp_all
theorem run_isAgg {t : TypeId} {d : TypeDesc} (h : P.underlying t = some d) (w : World) : (isAgg t).run P w = .ok (isAggD d) w := by
  unfold isAgg
  rw [Sem.run_bind, run_underlying h]
  cases d <;> rfl
theorem run_sizeOf {t : TypeId} {i : TypeInfo} (h : P.info? t = some i) (w : World) : (sizeOf t).run P w = .ok i.size w := by simp [sizeOf, typeInfo, h]
theorem run_typeInfo {t : TypeId} {i : TypeInfo} (h : P.info? t = some i) (w : World) : (typeInfo t).run P w = .ok i w := by simp [typeInfo, h]
theorem partOf_ok {t : TypeId} {l : List AV} {o : Nat} {k : AV → Tree} (h : (partOf P t l o k).den φ) :
    ∃ av, (k av).den φ ∧ ∀ (ρ : Pl) (vs : List Value) (w : World), AV.relL ρ l vs → ∃ v, av.rel ρ v ∧ (part t vs.toArray o).run P w = .ok v w ∧
      ∀ (n : Nat) (bt : TypeId) (fz : Nat × Nat) (cur : Array Value), w.heap[n]? = some (.cells cur bt fz) → (∀ (j : Nat) x, vs[j]? = some x → cur[j]? = some x) → (loadVar t ⟨n, o, none⟩).run P w = .ok v w := by
  unfold partOf at h
  split at h
  · rename_i d i hd hi
    split at h
    · rename_i hagg
      split at h
      · rename_i hle
        have hle := Nat.le_of_ble_eq_true hle
        refine ⟨_, h, fun ρ vs w hv => ⟨.agg ((vs.drop o).take i.size).toArray, ⟨_, relL_take _ (relL_drop _ hv), rfl⟩, ?_, ?_⟩⟩
        · unfold part
          simp [Sem.run_bind, run_isAgg hd, hagg, run_sizeOf hi, List.extract_eq_take_drop]
        · intro n bt fz cur hg hcur
          have hlen : ((vs.drop o).take i.size).length = i.size := by simp [relL_len hv]; omega
          have := run_loadCells_list (P := P) w ⟨n, o, none⟩ ((vs.drop o).take i.size) (fun j v hj => by
            rw [addr_add, cell_of_row w n (o + j) _ _ _ hg]
            have hj2 : j < i.size := by
              have := (List.getElem?_eq_some_iff.1 hj).1
              omega
            rw [List.getElem?_take_of_lt hj2, List.getElem?_drop] at hj
            exact hcur _ _ hj)
          rw [hlen] at this
          unfold loadVar
          simp [Sem.run_bind, run_isAgg hd, hagg, run_sizeOf hi, this]
      · exact h.elim
    · rename_i hagg
      split at h
      · rename_i v hv0
        refine ⟨_, h, fun ρ vs w hv => ?_⟩
        obtain ⟨x, hx, hr⟩ := relL_nth o hv hv0
        refine ⟨x, hr, ?_, fun n bt fz cur hg hcur => ?_⟩
        · unfold part
          simp [Sem.run_bind, run_isAgg hd, hagg, hx]
        · unfold loadVar
          have hc : w.cell? ⟨n, o, none⟩ = some x := by rw [cell_of_row w n o _ _ _ hg]; exact hcur _ _ hx
          simp [Sem.run_bind, run_isAgg hd, hagg, run_load, hc]
      · exact h.elim
  · exact h.elim
theorem loadAt_ok {H : Heap} {t : TypeId} {i o : Nat} {k : AV → Tree} (h : (loadAt P H t i o k).den φ) :
    ∃ av, (k av).den φ ∧ ∀ (ρ : Pl) (hn : Nat) (w : World), HRel ρ H hn w → ∃ v n, av.rel ρ v ∧ ρ i = some n ∧ (loadVar t ⟨n, o, none⟩).run P w = .ok v w := by
  unfold loadAt at h
  split at h
  · rename_i bt l hl
    obtain ⟨av, h, hp⟩ := partOf_ok h
    refine ⟨av, h, fun ρ hn w hr => ?_⟩
    obtain ⟨n, ob, hn, hg, xs, hxs, rfl⟩ := hr.obj _ _ hl
    obtain ⟨v, hv, _, hld⟩ := hp ρ xs w hxs
    exact ⟨v, n, hv, hn, hld n bt _ _ hg (fun j x hj => by simpa using hj)⟩
  · exact h.elim
theorem pre_get {α : Type} {cur : List α} {m : Nat} {xs : List α} (h : cur.take m = xs) (j : Nat) (x : α) (hj : xs[j]? = some x) : cur[j]? = some x := by
  rw [← h, List.getElem?_take] at hj
  split at hj
  · exact hj
  · cases hj
theorem loadV_ok {H : Heap} {t : TypeId} {i o : Nat} {k : AV → Tree} (h : (loadV P H t i o k).den φ) :
    ∃ av, (k av).den φ ∧ ∀ (ρ : Pl) (hn : Nat) (w : World), HRel ρ H hn w → ∃ v n len cap, av.rel ρ v ∧ ρ.tv i = some (.slice (some ⟨n, 0, none⟩) len cap) ∧ (loadVar t ⟨n, o, none⟩).run P w = .ok v w := by
  unfold loadV at h
  split at h
  · rename_i i' e size len l hl
    split at h
    · rename_i hi
      have hi := Nat.eq_of_beq_eq_true hi
      subst hi
      obtain ⟨av, h, hp⟩ := partOf_ok h
      refine ⟨av, h, fun ρ hn w hr => ?_⟩
      obtain ⟨n, ob, hn, hg, g, cap, cur, xs, h1, h2, rfl, h3, h4, h5, h6, h7, h8⟩ := hr.obj _ _ hl
      rw [hn] at h1
      cases h1
      obtain ⟨v, hv, _, hld⟩ := hp ρ xs w h6
      exact ⟨v, n, _, _, hv, h2, hld n e _ _ hg (fun j x hj => by have := pre_get h8 j x hj; simpa using this)⟩
    · exact h.elim
  · exact h.elim
theorem pick_ok {m : Int} {k : Nat → Tree} : ∀ {n : Nat}, (pick m k n).den φ → ∃ j, j < n ∧ m = (j : Int) ∧ (k j).den φ
  | 0, h => h.elim
  | n + 1, h => by
    by_cases e : m = (n : Int)
    · exact ⟨n, by omega, e, h.1 e⟩
    · obtain ⟨j, hj, e2, hk⟩ := pick_ok (h.2 e)
      exact ⟨j, by omega, e2, hk⟩
theorem byIndex_ok {n : Nat} {ix : SI} {k : Nat → Tree} (h : (byIndex n ix k).den φ) : ∃ j, j < n ∧ ix.v = (j : Int) ∧ (k j).den φ := by
  unfold byIndex at h
  split at h
  · rename_i j
    split at h
    · rename_i hj
      exact ⟨j, Nat.lt_of_lt_of_le (Nat.lt_succ_self j) (Nat.le_of_ble_eq_true hj), rfl, h⟩
    · exact h.elim
  · exact h.elim
  · exact pick_ok h
theorem fold_set (off : Nat) : ∀ (vs : List Value) (j : Nat) (cells : Array Value), off + j + vs.length ≤ cells.size →
    ((vs.zipIdx j).foldl (fun cs (p : Value × Nat) => cs.setIfInBounds (off + p.2) p.1) cells) = (cells.toList.take (off + j) ++ vs ++ cells.toList.drop (off + j + vs.length)).toArray
  | [], j, cells, _ => by simp
  | v :: vs, j, cells, h => by
    simp only [List.zipIdx_cons, List.foldl_cons]
    rw [fold_set off vs (j + 1) _ (by simp at h ⊢; omega)]
    have hlt : off + j < cells.toList.length := by simp at h ⊢; omega
    congr 1
    have hlt' : off + j < cells.size := by simpa using hlt
    rw [Array.toList_setIfInBounds, List.take_set, List.drop_set]
    rw [if_pos (by omega), show off + (j + 1) = (off + j) + 1 from by omega, List.take_succ_eq_append_getElem hlt]
    rw [List.set_append_right _ _ (by simp; omega)]
    have e1 : off + j - (cells.toList.take (off + j)).length = 0 := by simp; omega
    rw [e1]
    simp
    congr 1
    omega
theorem fillG_ok {place : Nat → Option (Nat × Nat)} {ρ : Pl} : ∀ {l : List (Nat × AV)} {cells cs : List AV} {vs : List (Nat × Value)} {xs : List Value}, fillG place l cells = some cs → l.map (·.1) = vs.map (·.1) → AV.relL ρ (l.map (·.2)) (vs.map (·.2)) →
    AV.relL ρ cells xs → ∃ ys, Instr.fill place xs.toArray vs = some ys ∧ AV.relL ρ cs ys.toList
  | [], cells, cs, vs, xs, h, h1, h2, h3 => by
    have : vs = [] := by simpa using h1.symm
    subst this
    cases h
    exact ⟨_, rfl, by simpa using h3⟩
  | (i, v) :: r, cells, cs, vs, xs, h, h1, h2, h3 => by
    cases vs with
    | nil => simp at h1
    | cons q vs =>
      obtain ⟨i', x⟩ := q
      obtain ⟨x', xs', hx, hxs, e⟩ := h2
      simp at h1 e
      obtain ⟨rfl, h1⟩ := h1
      obtain ⟨rfl, rfl⟩ := e
      unfold fillG at h
      split at h
      · rename_i off size hpl
        split at h
        · rename_i hc
          simp only [Bool.and_eq_true] at hc
          have hc1 := Nat.eq_of_beq_eq_true hc.1
          have hc2 := Nat.le_of_ble_eq_true hc.2
          have hcx := cellsOf_rel hx
          have hl1 := relL_len hcx
          have hl2 := relL_len h3
          have hput := relL_putAt cells off (cellsOf v) h3 hcx hc2
          obtain ⟨ys, hy, hr⟩ := fillG_ok h h1 hxs hput
          refine ⟨ys, ?_, hr⟩
          unfold Instr.fill
          rw [hpl]
          have hsz : x.cells.size = size := by rw [← Array.length_toList, hl1, hc1]
          have hle : off + x.cells.size ≤ xs.toArray.size := by
            rw [hsz, ← hc1]; simp; omega
          simp only [hsz]
          rw [if_neg (by simp; rw [hsz] at hle; simpa using hle)]
          rw [← hy]
          congr 1
          have hz := fold_set off x.cells.toList 0 xs.toArray (by simp at hle ⊢; omega)
          simp only [Nat.add_zero] at hz
          rw [← Array.foldl_toList, Array.toList_zipIdx]
          simpa using hz
        · cases h
      · cases h
theorem zeroOf_ok {t : TypeId} {z : AV} (h : zeroOf P t = some z) (ρ : Pl) (w : World) : ∃ v, z.rel ρ v ∧ (zeroValue t).run P w = .ok v w := by
  unfold zeroOf at h
  split at h
  · rename_i i hi
    split at h
    · rename_i v hv
      exact ⟨v, ofV_ok h, by simp [zeroValue, typeInfo, hi, hv]⟩
    · cases h
  · cases h
theorem maxmin_ok {less : Bool} {ρ : Pl} : ∀ {l : List AV} {a : AV} {k : AV → Tree}, (maxmin less l a k).den φ → ∃ av, (k av).den φ ∧ ∀ (ρ : Pl) (w : World) (x : Value) (xs : List Value), a.rel ρ x → AV.relL ρ l xs →
    ∃ v, av.rel ρ v ∧ (xs.foldlM (fun x y => match less with | true => Builtin.min2 x y | false => Builtin.max2 x y) x : Sem Value).run P w = .ok v w
  | [], a, k, h => ⟨a, h, fun ρ w x xs hx hxs => ⟨x, hx, by rw [show xs = [] from hxs]; rfl⟩⟩
  | b :: r, a, k, h => by
    unfold maxmin at h
    split at h
    · cases ‹_ :: _ = []›
    · rename_i k' b' r' k0 a' e
      cases e
      obtain ⟨av, h, hv⟩ := maxmin_ok (ρ := ρ) h
      refine ⟨av, h, fun ρ w x xs hx ⟨y, ys, hy, hys, e⟩ => ?_⟩
      subst e
      obtain ⟨v, hr, hf⟩ := hv ρ w _ ys rfl hys
      refine ⟨v, hr, ?_⟩
      rw [← hf, show x = _ from hx, show y = _ from hy]
      cases less <;> simp [Builtin.min2, Builtin.max2, SI.bin_v]
    · exact h.elim
theorem builtin_ok {b : Builtin} {ts : Array TypeId} {args : List AV} {k : AV → Tree} (h : (builtin P b ts args k).den φ) : ∃ av, (k av).den φ ∧ ∀ (ρ : Pl) (ty : TypeId) (cs : Array Bool) (w : World) (xs : List Value), AV.relL ρ args xs →
    ∃ v, av.rel ρ v ∧ (Go.builtin b ts ty cs xs.toArray).run P w = .ok (.value v) w := by
  unfold builtin at h
  split at h
  · rename_i x
    split at h
    · rename_i t r hts
      have hts0 : ts[0]? = some t := by rw [← Array.getElem?_toList, hts]; rfl
      split at h
      · rename_i e i o n c hu
        refine ⟨_, h, fun ρ ty cs w xs ⟨y, ys, ⟨m, hm, hy⟩, hys, e⟩ => ⟨_, rfl, ?_⟩⟩
        rw [e, show ys = [] from hys, hy]
        simp [Go.builtin, Builtin.len_, hts0, run_underlying hu, goInt, SI.v]
      · rename_i e hu
        refine ⟨_, h, fun ρ ty cs w xs ⟨y, ys, hy, hys, e⟩ => ⟨_, rfl, ?_⟩⟩
        rw [e, show ys = [] from hys, show y = _ from hy]
        simp [Go.builtin, Builtin.len_, hts0, run_underlying hu, goInt, SI.v]
      · rename_i e i k l hu
        refine ⟨_, h, fun ρ ty cs w xs ⟨y, ys, ⟨_, b, cap, hy, _⟩, hys, e⟩ => ⟨_, rfl, ?_⟩⟩
        rw [e, show ys = [] from hys, hy]
        simp [Go.builtin, Builtin.len_, hts0, run_underlying hu, goInt, SI.v]
      · rename_i s hu
        refine ⟨_, h, fun ρ ty cs w xs ⟨y, ys, hy, hys, e⟩ => ⟨_, rfl, ?_⟩⟩
        rw [e, show ys = [] from hys, show y = _ from hy]
        simp [Go.builtin, Builtin.len_, hts0, run_underlying hu, goInt, SI.v]
      · rename_i n e hu
        refine ⟨_, h, fun ρ ty cs w xs ⟨y, ys, hy, hys, e⟩ => ⟨_, rfl, ?_⟩⟩
        rw [e, show ys = [] from hys]
        simp [Go.builtin, Builtin.len_, hts0, run_underlying hu, goInt, SI.v]
      · exact h.elim
    · exact h.elim
  · rename_i x r
    obtain ⟨av, h, hv⟩ := maxmin_ok (P := P) (ρ := Pl.none 0) h
    refine ⟨av, h, fun ρ ty cs w xs ⟨y, ys, hy, hys, e⟩ => ?_⟩
    obtain ⟨v, hr, hf⟩ := hv ρ w y ys hy hys
    refine ⟨v, hr, ?_⟩
    subst e
    simp only [Go.builtin, Builtin.max_, Sem.run_bind]
    rw [hf]
    rfl
  · rename_i x r
    obtain ⟨av, h, hv⟩ := maxmin_ok (P := P) (ρ := Pl.none 0) h
    refine ⟨av, h, fun ρ ty cs w xs ⟨y, ys, hy, hys, e⟩ => ?_⟩
    obtain ⟨v, hr, hf⟩ := hv ρ w y ys hy hys
    refine ⟨v, hr, ?_⟩
    subst e
    simp only [Go.builtin, Builtin.min_, Sem.run_bind]
    rw [hf]
    rfl
  · exact h.elim
theorem lenV_ok {H : Heap} {b : Builtin} {ts : Array TypeId} {i : Nat} {k : AV → Tree} (h : (lenV P H b ts i k).den φ) : ∃ av, (k av).den φ ∧ ∀ (ρ : Pl) (hn : Nat) (ty : TypeId) (cs : Array Bool) (w : World) (xs : List Value), AV.relL ρ [.own i] xs → HRel ρ H hn w →
    ∃ v, av.rel ρ v ∧ (Go.builtin b ts ty cs xs.toArray).run P w = .ok (.value v) w := by
  unfold lenV at h
  split at h
  · rename_i t r hts
    have hts0 : ts[0]? = some t := by rw [← Array.getElem?_toList, hts]; rfl
    split at h
    · rename_i e i' e' size n l hu hl
      split at h
      · rename_i hi
        have hi := Nat.eq_of_beq_eq_true hi
        subst hi
        refine ⟨_, h, fun ρ hn ty cs w xs ⟨y, ys, ⟨hy, _⟩, hys, ex⟩ hr => ⟨_, rfl, ?_⟩⟩
        obtain ⟨m, ob, hm, hg, g, cap, cur, xs', h1, h2, _⟩ := hr.obj _ _ hl
        rw [hy] at h2
        cases h2
        rw [ex, show ys = [] from hys]
        simp [Go.builtin, Builtin.len_, hts0, run_underlying hu, goInt, SI.v]
      · exact h.elim
    · exact h.elim
  · exact h.elim
end Go.Proofs.Ytlekjgjhbanimaa.SX
