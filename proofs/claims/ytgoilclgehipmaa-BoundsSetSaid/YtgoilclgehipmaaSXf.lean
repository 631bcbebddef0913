/- A symbolic walk, part six: operations that make memory, or write it. -/
import Derived.Test.YtgoilclgehipmaaSXe
namespace Go.Proofs.Ytgoilclgehipmaa.SX
set_option linter.unusedVariables false
set_option linter.unusedSimpArgs false
open Go
variable {P : Program} {φ : AV → Heap → Nat → Prop}
/-- What a walk leaves alone: all that it does not hold. -/
structure Inv (w0 : World) (m0 : Nat → Prop) (ρ : Pl) (w : World) : Prop where
  os : w.os = w0.os
  tape : w.tape = w0.tape
  output : w.output = w0.output
  size : w0.heap.size ≤ w.heap.size
  keep : ∀ k : Nat, k < w0.heap.size → ¬ m0 k → w.heap[k]? = w0.heap[k]?
  fresh : ∀ (i n : Nat), ρ i = some n → m0 n ∨ w0.heap.size ≤ n
theorem Inv.not_old {w0 w : World} {m0 : Nat → Prop} {ρ : Pl} (h : Inv w0 m0 ρ w) {i n k : Nat} (hi : ρ i = some n) (hk : k < w0.heap.size) (hm : ¬ m0 k) : k ≠ n := by
  rintro rfl
  rcases h.fresh i k hi with h | h
  · exact hm h
  · omega
/-- A block that is held is written. -/
theorem held_set {w0 w w' : World} {m0 : Nat → Prop} {ρ : Pl} {H : Heap} {hn i n : Nat} {b : AB} {o' : Obj} (hr : HRel ρ H hn w) (hv : Inv w0 m0 ρ w) (hi : ρ i = some n) (h1 : w'.heap[n]? = some o') (h2 : ∀ k, k ≠ n → w'.heap[k]? = w.heap[k]?)
    (h3 : w'.heap.size = w.heap.size) (h4 : w'.os = w.os) (h5 : w'.tape = w.tape) (h6 : w'.output = w.output) (hb : b.rel ρ o') : HRel ρ ((i, b) :: H) hn w' ∧ Inv w0 m0 ρ w' := by
  refine ⟨⟨hr.len, hr.inj, fun j m hj => by rw [h3]; exact hr.lt j m hj, fun m o hm => ⟨by rw [h2 m (fun e => (hr.ro m o hm).2 i (by rw [e]; exact hi))]; exact (hr.ro m o hm).1, (hr.ro m o hm).2⟩, fun j c hj => ?_⟩, ⟨h4.trans hv.os, h5.trans hv.tape, h6.trans hv.output, by rw [h3]; exact hv.size, fun k hk hm => by rw [h2 k (hv.not_old hi hk hm)]; exact hv.keep k hk hm, hv.fresh⟩⟩
  rw [look_cons] at hj
  by_cases e : i = j
  · subst e
    rw [if_pos rfl] at hj
    cases hj
    exact ⟨n, o', hi, h1, hb⟩
  · rw [if_neg e] at hj
    obtain ⟨m, o, hm, ho, hc⟩ := hr.obj j c hj
    refine ⟨m, o, hm, ?_, hc⟩
    rw [h2 m (fun e2 => e (hr.inj i j n hi (by rw [← e2]; exact hm)))]
    exact ho
/-- A block is made. -/
theorem held_new {w0 w w' : World} {m0 : Nat → Prop} {ρ : Pl} {H : Heap} {hn : Nat} {b : AB} {o : Obj} (hr : HRel ρ H hn w) (hv : Inv w0 m0 ρ w) (h1 : w'.heap = w.heap.push o) (h4 : w'.os = w.os) (h5 : w'.tape = w.tape) (h6 : w'.output = w.output)
    (hb : b.rel (ρ.put hn w.heap.size) o) : HRel (ρ.put hn w.heap.size) ((hn, b) :: H) (hn + 1) w' ∧ Inv w0 m0 (ρ.put hn w.heap.size) w' := by
  have hsz : w'.heap.size = w.heap.size + 1 := by rw [h1]; simp
  have hold : ∀ k : Nat, k < w.heap.size → w'.heap[k]? = w.heap[k]? := fun k hk => by rw [h1, Array.getElem?_push, if_neg (by omega)]
  have hnew : w'.heap[w.heap.size]? = some o := by rw [h1]; simp
  have hnone : ρ.top = hn := hr.len
  have hat : ρ.put hn w.heap.size hn = some w.heap.size := Pl.at _ _ _
  have hcase : ∀ (j m : Nat), ρ.put hn w.heap.size j = some m → ρ j = some m ∨ (j = hn ∧ m = w.heap.size) := by
    intro j m hj
    by_cases e : j = hn
    · subst e
      rw [hat] at hj
      cases hj
      exact .inr ⟨rfl, rfl⟩
    · rw [Pl.off _ _ e] at hj
      exact .inl hj
  refine ⟨⟨by show max ρ.top (hn + 1) = hn + 1; omega, ?_, ?_, fun m o' hm => ?_, ?_⟩, ?_⟩
  · intro i j n h1 h2
    rcases hcase i n h1 with h1 | ⟨h1, e1⟩ <;> rcases hcase j n h2 with h2 | ⟨h2, e2⟩
    · exact hr.inj i j n h1 h2
    · have := hr.lt i n h1; omega
    · have := hr.lt j n h2; omega
    · omega
  · intro i n hi
    rcases hcase i n hi with hi | ⟨_, e⟩
    · have := hr.lt i n hi; omega
    · omega
  · have hm : ρ.ro.obj m = some o' := hm
    obtain ⟨g1, g2⟩ := hr.ro m o' hm
    have hlt : m < w.heap.size := (Array.getElem?_eq_some_iff.1 g1).1
    refine ⟨by rw [hold m hlt]; exact g1, fun j hj => ?_⟩
    rcases hcase j m hj with hj | ⟨_, e⟩
    · exact g2 j hj
    · omega
  · intro j c hj
    rw [look_cons] at hj
    by_cases e : hn = j
    · subst e
      rw [if_pos rfl] at hj
      cases hj
      exact ⟨_, o, hat, hnew, hb⟩
    · rw [if_neg e] at hj
      obtain ⟨m, o', hm, ho, hc⟩ := hr.obj j c hj
      exact ⟨m, o', (Ext.snoc _ hnone).at _ _ hm, by rw [hold m (hr.lt j m hm)]; exact ho, AB.rel_mono (Ext.snoc _ hnone) hc⟩
  · refine ⟨h4.trans hv.os, h5.trans hv.tape, h6.trans hv.output, by have := hv.size; omega, fun k hk hm => by rw [hold k (by have := hv.size; omega)]; exact hv.keep k hk hm, fun i n hn' => ?_⟩
    rcases hcase i n hn' with h | ⟨_, e⟩
    · exact hv.fresh i n h
    · rw [e]; exact .inr hv.size
theorem rep_range (z : Array Value) (hz : 0 < z.size) : ∀ len, ((List.range (len * z.size)).map fun i => z[i % z.size]!) = rep z.toList len
  | 0 => by simp [rep]
  | n + 1 => by
    have e : (n + 1) * z.size = z.size + n * z.size := by rw [Nat.add_mul]; omega
    rw [e, List.range_add, List.map_append, List.map_map]
    unfold rep
    congr 1
    · apply List.ext_getElem?
      intro i
      by_cases hi : i < z.size
      · simp [hi, Nat.mod_eq_of_lt hi]
      · simp [hi]
    · rw [← rep_range z hz n]
      apply List.map_congr_left
      intro i _
      simp
theorem eop_ok {st : AS} {op : Op} {k : AV → Heap → Nat → Tree} (h : (eop P st op k).den φ) : ∃ av H' hn', (k av H' hn').den φ ∧
    ∀ (w0 : World) (m0 : Nat → Prop) (ρ : Pl) (a : Act) (w : World) (o : Oper), o.op = op → SRel ρ st.sz st.slots a.tmps → HRel ρ st.H st.hn w → Inv w0 m0 ρ w →
      ∃ v nx ρ' w', (execOp a.eval o).run P w = .ok nx w' ∧ (nx = .value v ∨ (nx = .skip ∧ v = undef)) ∧ Ext ρ ρ' ∧ av.rel ρ' v ∧ HRel ρ' H' hn' w' ∧ Inv w0 m0 ρ' w' ∧ (freshOp op = true → ∃ o', w'.heap = w.heap.push o') := by
  unfold eop at h
  split at h
  · rename_i t
    split at h
    · rename_i z hz
      refine ⟨_, _, _, h, fun w0 m0 ρ a w o ho hs hr hv => ?_⟩
      obtain ⟨zv, hzr, hzv⟩ := zeroOf_ok hz ρ w
      obtain ⟨h1, h2⟩ := held_new (w' := { w with heap := w.heap.push (.cells zv.cells t) }) (b := .cells t (cellsOf z)) hr hv rfl rfl rfl rfl ⟨_, AV.relL_mono (Ext.snoc _ hr.len) _ (cellsOf_rel hzr), by simp⟩
      refine ⟨_, _, _, _, ?_, .inl rfl, Ext.snoc _ hr.len, ⟨w.heap.size, Pl.at _ _ _, rfl⟩, h1, h2, fun _ => ⟨_, rfl⟩⟩
      simp [execOp, ho, Instr.alloc, hzv, newVar, newRow]
    · exact h.elim
  · rename_i t x
    obtain ⟨av, h, he⟩ := ev_ok h
    refine ⟨_, _, _, h, fun w0 m0 ρ a w o ho hs hr hv => ?_⟩
    obtain ⟨v, hvr, hve⟩ := he ρ a hs
    obtain ⟨h1, h2⟩ := held_new (w' := { w with heap := w.heap.push (.cells v.cells t) }) (b := .cells t (cellsOf av)) hr hv rfl rfl rfl rfl ⟨_, AV.relL_mono (Ext.snoc _ hr.len) _ (cellsOf_rel hvr), by simp⟩
    refine ⟨_, _, _, _, ?_, .inl rfl, Ext.snoc _ hr.len, ⟨w.heap.size, Pl.at _ _ _, rfl⟩, h1, h2, fun _ => ⟨_, rfl⟩⟩
    simp [execOp, ho, Instr.box, hve, newVar, newRow]
  · rename_i t len ps
    obtain ⟨l, h, hl⟩ := evP_ok h
    split at h
    · rename_i e hu
      split at h
      · rename_i inf z hinf hz
        split at h
        · rename_i hc
          simp only [Bool.and_eq_true] at hc
          have hc1 := Nat.le_of_ble_eq_true hc.1.1
          have hc2 := Nat.le_of_ble_eq_true hc.1.2
          have hc3 := Nat.eq_of_beq_eq_true hc.2
          split at h
          · rename_i cs hcs
            refine ⟨_, _, _, h, fun w0 m0 ρ a w o ho hs hr hv => ?_⟩
            obtain ⟨zv, hzr, hzv⟩ := zeroOf_ok hz ρ w
            obtain ⟨e1, e2⟩ := hl ρ a hs
            obtain ⟨ys, hy, hyr⟩ := fillG_ok (vs := ps.toList.map fun p => (p.1, a.eval p.2)) hcs (by simpa [List.map_map, Function.comp_def] using e1) (by simpa [List.map_map, Function.comp_def] using e2) (relL_rep (cellsOf_rel hzr) len)
            have hsz : zv.cells.size = inf.size := by rw [← Array.length_toList, relL_len (cellsOf_rel hzr), hc3]
            have hpos : 0 < zv.cells.size := by
              rw [hsz]
              rcases Nat.eq_zero_or_pos inf.size with h0 | h0
              · rw [h0] at hc1; omega
              · exact h0
            obtain ⟨h1, h2⟩ := held_new (w' := { w with heap := w.heap.push (.cells ys e) }) (b := .cells e cs) hr hv rfl rfl rfl rfl ⟨ys.toList, AV.relL_mono (Ext.snoc _ hr.len) _ hyr, by simp⟩
            refine ⟨_, _, _, _, ?_, .inl rfl, Ext.snoc _ hr.len, ⟨w.heap.size, Pl.at _ _ _, rfl⟩, h1, h2, fun _ => ⟨_, rfl⟩⟩
            have hrr : ((Array.range (len * inf.size)).map fun i => zv.cells[i % zv.cells.size]!) = (rep zv.cells.toList len).toArray := by
              rw [← rep_range zv.cells hpos len, hsz]
              apply Array.toList_inj.1
              simp
            simp only [execOp, ho, Instr.buildSlice, Sem.run_bind, run_underlying hu, Result.andThen_ok, run_sizeOf hinf]
            rw [if_neg (by omega), if_neg (by omega)]
            simp only [Sem.run_bind, hzv, Sem.run_pure, Result.andThen_ok, hrr, Array.toList_map, hy, newRow, run_newObj]
          · exact h.elim
        · exact h.elim
      · exact h.elim
    · exact h.elim
  · rename_i t x y
    obtain ⟨av, h, ha⟩ := ev_ok h
    split at h
    · rename_i i o
      obtain ⟨bv, h, hb⟩ := ev_ok h
      split at h
      · rename_i bt l hl
        split at h
        · rename_i hc
          refine ⟨_, _, _, h, fun w0 m0 ρ a w op ho hs hr hv => ?_⟩
          simp only [Bool.and_eq_true] at hc
          have hc2 := Nat.le_of_ble_eq_true hc.1.2
          obtain ⟨v, ⟨n, hn, ev⟩, e1⟩ := ha ρ a hs
          obtain ⟨u, hu, e2⟩ := hb ρ a hs
          obtain ⟨n', ob, hn', hg, xs, hxs, rfl⟩ := hr.obj _ _ hl
          rw [hn] at hn'
          cases hn'
          have hcx := cellsOf_rel hu
          have hl1 := relL_len hcx
          have hl2 := relL_len hxs
          have hput := relL_putAt l o (cellsOf bv) hxs hcx hc2
          have hone := allOne_rel hcx hc.2
          have hst := run_storeCells_at (P := P) n o bt u.cells.toList 0 xs.toArray w hg (by simp at hl1 ⊢; omega) hone
          simp only [Nat.add_zero] at hst
          have hsz : sizeIs P t (cellsOf bv).length = true := hc.1.1
          unfold sizeIs at hsz
          split at hsz
          · rename_i inf hinf
            have hsz := Nat.eq_of_beq_eq_true hsz
            have hsr : (storeVar t ⟨n, o, none⟩ u).run P w = .ok () (w.setRow n (xs.take o ++ u.cells.toList ++ xs.drop (o + u.cells.toList.length)).toArray) := by
              unfold storeVar
              simp only [Sem.run_bind, run_sizeOf hinf, Result.andThen_ok]
              rw [if_neg (by rw [hsz, ← hl1]; simp)]
              simpa using hst
            have hnlt : n < w.heap.size := (Array.getElem?_eq_some_iff.1 hg).1
            obtain ⟨h1, h2⟩ := held_set (b := .cells bt (putAt l o (cellsOf bv))) (w' := w.setRow n (xs.take o ++ u.cells.toList ++ xs.drop (o + u.cells.toList.length)).toArray) hr hv hn
              (setRow_heap w n xs.toArray _ bt (0, 0) hg) (fun k hk => by simp [World.setRow, Array.getElem?_modify, Ne.symm hk]) (by simp [World.setRow]) rfl rfl rfl ⟨_, hput, rfl⟩
            refine ⟨undef, .skip, ρ, _, ?_, .inr ⟨rfl, rfl⟩, Ext.refl _, ⟨[], rfl, rfl⟩, h1, h2, fun hh => (by cases hh)⟩
            simp [execOp, ho, e1, e2, ev, Instr.storeAt, Instr.sureAddr, hsr]
          · cases hsz
        · exact h.elim
      · exact h.elim
    · exact h.elim
  · exact h.elim
end Go.Proofs.Ytgoilclgehipmaa.SX
