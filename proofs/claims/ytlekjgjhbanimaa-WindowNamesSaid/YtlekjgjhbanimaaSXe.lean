/- A symbolic walk, part five: operations that read, all. -/
import Derived.Test.YtlekjgjhbanimaaSXd
namespace Go.Proofs.Ytlekjgjhbanimaa.SX
set_option linter.unusedVariables false
set_option linter.unusedSimpArgs false
open Go
variable {P : Program} {φ : AV → Heap → Nat → Prop}
/-- What an operation that reads yields, in every world that fits. -/
def Yields (P : Program) (st : AS) (op : Op) (av : AV) : Prop :=
  ∀ (ρ : Pl) (a : Act) (w : World) (o : Oper), o.op = op → SRel ρ st.sz st.slots a.tmps → HRel ρ st.H st.hn w → ∃ v, av.rel ρ v ∧ (execOp a.eval o).run P w = .ok (.value v) w
theorem relL_map {ρ : Pl} {l : List AV} {xs : Array Operand} {a : Act} (h : AV.relL ρ l (xs.toList.map a.eval)) : (xs.map a.eval) = (xs.toList.map a.eval).toArray := by
  apply Array.toList_inj.1
  simp
theorem vop_ok {st : AS} {op : Op} {k : AV → Tree} (h : (vop P st op k).den φ) : ∃ av, (k av).den φ ∧ Yields P st op av := by
  unfold vop at h
  split at h
  · -- move
    obtain ⟨av, h, hv⟩ := ev_ok h
    refine ⟨av, h, fun ρ a w o ho hs hh => ?_⟩
    obtain ⟨v, hr, e⟩ := hv ρ a hs
    exact ⟨v, hr, by simp [execOp, ho, e]⟩
  · -- assign
    obtain ⟨av, h, hv⟩ := ev_ok h
    refine ⟨av, h, fun ρ a w o ho hs hh => ?_⟩
    obtain ⟨v, hr, e⟩ := hv ρ a hs
    exact ⟨v, hr, by simp [execOp, ho, e]⟩
  · -- pick
    rename_i c x y
    obtain ⟨cv, h, hc⟩ := ev_ok h
    have key : ∀ (b : Bool), (∀ ρ, cv.rel ρ (.bool b)) → (ev st (if b then x else y) k).den φ → ∃ av, (k av).den φ ∧ Yields P st (.pick c x y) av := by
      intro b hb h
      obtain ⟨av, h, hv⟩ := ev_ok h
      refine ⟨av, h, fun ρ a w o ho hs hh => ?_⟩
      obtain ⟨v, hr, e⟩ := hv ρ a hs
      obtain ⟨vc, hrc, ec⟩ := hc ρ a hs
      obtain rfl := AV.rel_uniq _ hrc (hb ρ)
      refine ⟨v, hr, ?_⟩
      cases b <;> simp_all [execOp, ho, asBool]
    split at h
    · rename_i q
      rcases iteSB_den h with ⟨hq, h⟩ | ⟨hq, h⟩
      · exact key true (fun _ => by show Value.bool true = Value.bool q.v; rw [hq]) h
      · exact key false (fun _ => by show Value.bool false = Value.bool q.v; rw [hq]) h
    · exact h.elim
  · -- load
    rename_i t x
    obtain ⟨av, h, hv⟩ := ev_ok h
    split at h
    · rename_i i o
      obtain ⟨bv, h, hb⟩ := loadAt_ok h
      refine ⟨bv, h, fun ρ a w op ho hs hh => ?_⟩
      obtain ⟨v, ⟨n, hn, ev⟩, e⟩ := hv ρ a hs
      obtain ⟨y, m, hy, hm, hl⟩ := hb ρ _ w hh
      rw [(Pl.pin_f hn).1] at hm
      cases hm
      exact ⟨y, hy, by simp [execOp, ho, e, ev, Instr.loadAt, Instr.sureAddr, Sem.run_bind, hl]⟩
    · rename_i i o
      obtain ⟨bv, h, hb⟩ := loadV_ok h
      refine ⟨bv, h, fun ρ a w op ho hs hh => ?_⟩
      obtain ⟨v, ⟨n, len, cap, hn, ev⟩, e⟩ := hv ρ a hs
      obtain ⟨y, m, len', cap', hy, hm, hl⟩ := hb ρ _ w hh
      rw [hn] at hm
      cases hm
      exact ⟨y, hy, by simp [execOp, ho, e, ev, Instr.loadAt, Instr.sureAddr, Sem.run_bind, hl]⟩
    · rename_i i kd l j
      split at h
      · rename_i kd2 hd
        refine ⟨_, h, fun ρ a w op ho hs hh => ?_⟩
        obtain ⟨v, ⟨hj, n, o, len, cap, cs, ct, fz, h1, ev, h3, h4⟩, e⟩ := hv ρ a hs
        obtain ⟨hw, _⟩ := hh.ro n _ h3
        have hc : w.cell? ⟨n, o + j, none⟩ = some (.int kd (l.getD j 0)) := by rw [cell_of_row w n (o + j) _ _ _ hw, h4]
        refine ⟨_, rfl, ?_⟩
        simp [execOp, ho, e, ev, Instr.loadAt, Instr.sureAddr, Sem.run_bind, loadVar, run_isAgg hd, isAggD, run_load, hc, SI.v]
      · exact h.elim
    · exact h.elim
  · -- nilCheck
    rename_i x
    obtain ⟨av, h, hv⟩ := ev_ok h
    split at h
    · refine ⟨_, h, fun ρ a w op ho hs hh => ?_⟩
      obtain ⟨v, hr, e⟩ := hv ρ a hs
      obtain ⟨n, hn, ev⟩ := hr
      exact ⟨v, ⟨n, hn, ev⟩, by simp [execOp, ho, e, ev]⟩
    · refine ⟨_, h, fun ρ a w op ho hs hh => ?_⟩
      obtain ⟨v, hr, e⟩ := hv ρ a hs
      have hr' := hr
      obtain ⟨xs, ys, hx, hy, ev⟩ := hr'
      exact ⟨v, hr, by simp [execOp, ho, e, ev]⟩
    · refine ⟨_, h, fun ρ a w op ho hs hh => ?_⟩
      obtain ⟨v, hr, e⟩ := hv ρ a hs
      have hr' := hr
      obtain ⟨n, hn, ev⟩ := hr'
      exact ⟨v, hr, by simp [execOp, ho, e, ev]⟩
    · refine ⟨_, h, fun ρ a w op ho hs hh => ?_⟩
      obtain ⟨v, hr, e⟩ := hv ρ a hs
      have hr' := hr
      obtain ⟨n, hn, ev⟩ := hr'
      exact ⟨v, hr, by simp [execOp, ho, e, ev]⟩
    · exact h.elim
  · -- binOp
    rename_i op t x y yt
    obtain ⟨av, h, hv⟩ := ev_ok h
    obtain ⟨bv, h, hb⟩ := ev_ok h
    obtain ⟨cv, h, hc⟩ := binop_ok h
    refine ⟨cv, h, fun ρ a w o ho hs hh => ?_⟩
    obtain ⟨v, hr, e⟩ := hv ρ a hs
    obtain ⟨u, hu, e2⟩ := hb ρ a hs
    obtain ⟨z, hz, hg, hz2⟩ := hc ρ x y v u w hr hu
    exact ⟨z, hz, by simp [execOp, ho, e, e2, Sem.run_bind, hg, hz2]⟩
  · -- unOp
    rename_i op t x
    obtain ⟨av, h, hv⟩ := ev_ok h
    split at h
    · refine ⟨_, h, fun ρ a w o ho hs hh => ?_⟩
      obtain ⟨v, hr, e⟩ := hv ρ a hs
      rw [show v = _ from hr] at e
      exact ⟨_, rfl, by simp [execOp, ho, e, Op.unary, Op.intArith, SI.bin_v, wr_eq]; simp [SI.v]⟩
    · refine ⟨_, h, fun ρ a w o ho hs hh => ?_⟩
      obtain ⟨v, hr, e⟩ := hv ρ a hs
      rw [show v = _ from hr] at e
      exact ⟨_, rfl, by simp [execOp, ho, e, Op.unary, SB.not_v]⟩
    · exact h.elim
  · -- convert
    rename_i s d x
    obtain ⟨av, h, hv⟩ := ev_ok h
    split at h
    · rename_i ks kd ki n hs0 hd0
      refine ⟨_, h, fun ρ a w o ho hs hh => ?_⟩
      obtain ⟨v, hr, e⟩ := hv ρ a hs
      rw [show v = _ from hr] at e
      exact ⟨_, rfl, by simp [execOp, ho, e, Go.convert, run_underlying hs0, run_underlying hd0, Conv.intToInt, SI.bin_v, wr_eq]⟩
    · exact h.elim
  · -- makeInterface
    rename_i t x
    obtain ⟨av, h, hv⟩ := ev_ok h
    split at h
    · exact h.elim
    · rename_i d hni hd
      refine ⟨_, h, fun ρ a w o ho hs hh => ?_⟩
      obtain ⟨v, hr, e⟩ := hv ρ a hs
      have hc : P.concrete t = true := by
        unfold Program.concrete
        rw [hd]
        cases d <;> first | rfl | exact absurd rfl (hni _ )
      exact ⟨_, ⟨v, hr, rfl⟩, by simp [execOp, ho, e, run_makeInterface w t v hc]⟩
    · exact h.elim
  · -- makeFunc
    rename_i f x y
    obtain ⟨xs, h, hx⟩ := evL_ok h
    obtain ⟨ys, h, hy⟩ := evL_ok h
    refine ⟨_, h, fun ρ a w o ho hs hh => ?_⟩
    have h1 := hx ρ a hs
    have h2 := hy ρ a hs
    exact ⟨_, ⟨_, _, h1, h2, rfl⟩, by simp [execOp, ho, Instr.makeFunc, ← relL_map h1, ← relL_map h2]⟩
  · -- fieldAddr
    rename_i t x f
    obtain ⟨av, h, hv⟩ := ev_ok h
    split at h
    · rename_i i o
      split at h
      · rename_i fd hfd
        split at h
        · rename_i inf hinf
          split at h
          · exact h.elim
          · rename_i hz
            refine ⟨_, h, fun ρ a w op ho hs hh => ?_⟩
            obtain ⟨v, hr, e⟩ := hv ρ a hs
            obtain ⟨n, hn, ev⟩ := hr
            unfold fieldOf at hfd
            split at hfd
            · rename_i fs hu
              rw [nth_eq] at hfd
              have hz' : ¬ inf.size = 0 := by
                intro e
                rw [e] at hz
                cases hz
              refine ⟨_, ⟨n, hn, rfl⟩, ?_⟩
              have hfd' : fs[f]? = some fd := by simpa using hfd
              simp [execOp, ho, e, ev, Instr.fieldAt, run_underlying hu, hfd', Instr.sureAddr, fieldPlace, run_sizeOf hinf, hz', addr_add]
            · cases hfd
        · exact h.elim
      · exact h.elim
    · exact h.elim
  · -- field
    rename_i t x f
    obtain ⟨av, h, hv⟩ := ev_ok h
    split at h
    · rename_i l
      split at h
      · rename_i fd hfd
        obtain ⟨bv, h, hb⟩ := partOf_ok h
        refine ⟨bv, h, fun ρ a w op ho hs hh => ?_⟩
        obtain ⟨v, hr, e⟩ := hv ρ a hs
        obtain ⟨vs, hvs, ev⟩ := hr
        obtain ⟨y, hy, hp, _⟩ := hb ρ vs w hvs
        unfold fieldOf at hfd
        split at hfd
        · rename_i fs hu
          rw [nth_eq] at hfd
          have hfd' : fs[f]? = some fd := by simpa using hfd
          exact ⟨y, hy, by simp [execOp, ho, e, ev, Instr.field, run_underlying hu, hfd', asAgg, hp]⟩
        · cases hfd
      · exact h.elim
    · exact h.elim
  · -- indexAddr
    rename_i t x ix
    obtain ⟨av, h1, hv⟩ := ev_ok h
    obtain ⟨iv, h2, hi⟩ := ev_ok h1
    clear h h1
    have h := h2
    clear h2
    split at h
    · rename_i kd n
      split at h
      · rename_i e i kd2 l hu
        split at h
        · rename_i inf hinf
          split at h
          · rename_i hsz
            have hsz := Nat.eq_of_beq_eq_true hsz
            by_cases hb : 0 ≤ n.v ∧ n.v < l.length
            · refine ⟨_, h.1 hb, fun ρ a w op ho hs hh => ?_⟩
              obtain ⟨v, ⟨h1, b, cap, ev, hel⟩, e1⟩ := hv ρ a hs
              obtain ⟨u, hr, e2⟩ := hi ρ a hs
              obtain ⟨j, hj⟩ : ∃ j : Nat, n.v = (j : Int) := ⟨n.v.toNat, by omega⟩
              have hlt : j < l.length := by omega
              rw [show u = _ from hr, hj] at e2
              obtain ⟨m, o, cs, ct, fz, eb, h3, h4⟩ := hel j hlt
              rw [eb] at ev
              rw [ev] at h1
              rw [hj, Int.toNat_natCast]
              refine ⟨_, ⟨hlt, m, o, _, _, cs, ct, fz, h1, rfl, h3, h4⟩, ?_⟩
              have h5 : ¬ l.length ≤ j := by omega
              simp [execOp, ho, e1, e2, ev, Instr.indexAt, asIntOf, run_underlying hu, run_sizeOf hinf, addr_add, h5, hsz]
            · exact (h.2 hb).elim
          · exact h.elim
        · exact h.elim
      · rename_i e i hu
        split at h
        · rename_i inf i' e' sz len l2 hinf hl
          split at h
          · rename_i hc
            simp only [Bool.and_eq_true] at hc
            have hc1 := Nat.eq_of_beq_eq_true hc.1
            have hc2 := Nat.eq_of_beq_eq_true hc.2
            subst hc1
            obtain ⟨j, hj, hje, h⟩ := byIndex_ok h
            refine ⟨_, h, fun ρ a w op ho hs hh => ?_⟩
            obtain ⟨v, ⟨htv, _⟩, e1⟩ := hv ρ a hs
            obtain ⟨u, hr, e2⟩ := hi ρ a hs
            rw [show u = _ from hr, hje] at e2
            obtain ⟨m, ob, hm, hg, g, cap, cur, xs', h1, h2, _⟩ := hh.obj _ _ hl
            rw [htv] at h2
            cases h2
            refine ⟨_, ⟨g, _, _, htv, rfl⟩, ?_⟩
            have h1 : ¬ len ≤ j := by omega
            simp [execOp, ho, e1, e2, Instr.indexAt, asIntOf, run_underlying hu, run_sizeOf hinf, addr_add, h1]
          · exact h.elim
        · exact h.elim
      · rename_i len e i o hu
        split at h
        · rename_i inf hinf
          obtain ⟨j, hj, hje, h⟩ := byIndex_ok h
          refine ⟨_, h, fun ρ a w op ho hs hh => ?_⟩
          obtain ⟨v, ⟨m, hm, ev⟩, e1⟩ := hv ρ a hs
          obtain ⟨u, hr, e2⟩ := hi ρ a hs
          rw [show u = _ from hr, hje] at e2
          refine ⟨_, ⟨m, hm, rfl⟩, ?_⟩
          have h1 : ¬ len ≤ j := by omega
          simp [execOp, ho, e1, e2, ev, Instr.indexAt, asIntOf, run_underlying hu, Instr.sureAddr, run_sizeOf hinf, addr_add, h1]
        · exact h.elim
      · rename_i e i o len cap hu
        split at h
        · rename_i inf hinf
          obtain ⟨j, hj, hje, h⟩ := byIndex_ok h
          refine ⟨_, h, fun ρ a w op ho hs hh => ?_⟩
          obtain ⟨v, ⟨m, hm, ev⟩, e1⟩ := hv ρ a hs
          obtain ⟨u, hr, e2⟩ := hi ρ a hs
          rw [show u = _ from hr, hje] at e2
          refine ⟨_, ⟨m, hm, rfl⟩, ?_⟩
          have h1 : ¬ len ≤ j := by omega
          simp [execOp, ho, e1, e2, ev, Instr.indexAt, asIntOf, run_underlying hu, run_sizeOf hinf, addr_add, h1]
        · exact h.elim
      · exact h.elim
    · exact h.elim
  · -- index
    rename_i t x ix
    obtain ⟨av, h1, hv⟩ := ev_ok h
    obtain ⟨iv, h2, hi⟩ := ev_ok h1
    clear h h1
    have h := h2
    clear h2
    split at h
    · rename_i kd n l
      split at h
      · rename_i len e hu
        split at h
        · rename_i inf hinf
          obtain ⟨j, hj, hje, h⟩ := byIndex_ok h
          obtain ⟨bv, h, hb⟩ := partOf_ok h
          refine ⟨bv, h, fun ρ a w op ho hs hh => ?_⟩
          obtain ⟨v, ⟨vs, hvs, ev⟩, e1⟩ := hv ρ a hs
          obtain ⟨u, hr, e2⟩ := hi ρ a hs
          rw [show u = _ from hr, hje] at e2
          obtain ⟨y, hy, hp, _⟩ := hb ρ vs w hvs
          have h1 : ¬ len ≤ j := by omega
          exact ⟨y, hy, by simp [execOp, ho, e1, e2, ev, Instr.index, asIntOf, run_underlying hu, run_sizeOf hinf, h1, hp]⟩
        · exact h.elim
      · exact h.elim
    · exact h.elim
  · -- extract
    rename_i x i
    obtain ⟨av, h, hv⟩ := ev_ok h
    split at h
    · rename_i l
      split at h
      · rename_i bv hb
        refine ⟨_, h, fun ρ a w op ho hs hh => ?_⟩
        obtain ⟨v, ⟨vs, hvs, ev⟩, e1⟩ := hv ρ a hs
        obtain ⟨y, hy, hr⟩ := relL_nth i hvs hb
        exact ⟨y, hr, by simp [execOp, ho, e1, ev, Instr.extract, hy]⟩
      · exact h.elim
    · exact h.elim
  · -- build
    rename_i t ps
    obtain ⟨l, h, hl⟩ := evP_ok h
    split at h
    · rename_i z fs hz hu
      split at h
      · rename_i pl hpl
        split at h
        · rename_i cs hcs
          refine ⟨_, h, fun ρ a w op ho hs hh => ?_⟩
          obtain ⟨zv, hzr, hzv⟩ := zeroOf_ok hz ρ w
          obtain ⟨h1, h2⟩ := hl ρ a hs
          obtain ⟨ys, hy, hyr⟩ := fillG_ok (vs := ps.toList.map fun p => (p.1, a.eval p.2)) hcs (by simpa [List.map_map, Function.comp_def] using h1) (by simpa [List.map_map, Function.comp_def] using h2) (cellsOf_rel hzr)
          have hplaces : ∀ (fs : List Field) (pl : List (Nat × Nat)), placesOf P fs = some pl → (List.mapM (fun f => do pure (f.offset, ← sizeOf f.type) : Field → Sem (Nat × Nat)) fs).run P w = .ok pl w := by
            intro fs
            induction fs with
            | nil => intro pl h; cases h; rfl
            | cons f fs ih =>
              intro pl h
              unfold placesOf at h
              split at h
              · rename_i i l hi hl
                cases h
                rw [List.mapM_cons]
                simp only [Sem.run_bind, run_sizeOf hi, Result.andThen_ok, Sem.run_pure]
                have ih' := ih l hl
                rw [ih']
                rfl
              · cases h
          refine ⟨.agg ys, ⟨ys.toList, hyr, by simp⟩, ?_⟩
          have hm := hplaces _ _ hpl
          have hfun : (fun (x : Nat) => pl.toArray[x]?) = nth pl := by
            funext x
            rw [nth_eq]
            simp
          simp only [execOp, ho, Instr.build, Sem.run_bind, hzv, Result.andThen_ok, run_underlying hu, Array.mapM_eq_mapM_toList, Sem.run_map, hm]
          simp only [Array.toList_map]
          rw [hfun]
          have e1 : zv.cells.toList.toArray = zv.cells := by simp
          rw [e1] at hy
          rw [hy]
          rfl
        · exact h.elim
      · exact h.elim
    · rename_i z n e hz hu
      split at h
      · rename_i inf hinf
        split at h
        · rename_i cs hcs
          refine ⟨_, h, fun ρ a w op ho hs hh => ?_⟩
          obtain ⟨zv, hzr, hzv⟩ := zeroOf_ok hz ρ w
          obtain ⟨h1, h2⟩ := hl ρ a hs
          obtain ⟨ys, hy, hyr⟩ := fillG_ok (vs := ps.toList.map fun p => (p.1, a.eval p.2)) hcs (by simpa [List.map_map, Function.comp_def] using h1) (by simpa [List.map_map, Function.comp_def] using h2) (cellsOf_rel hzr)
          refine ⟨.agg ys, ⟨ys.toList, hyr, by simp⟩, ?_⟩
          simp only [execOp, ho, Instr.build, Sem.run_bind, hzv, Result.andThen_ok, run_underlying hu, run_sizeOf hinf]
          simp only [Array.toList_map]
          have e1 : zv.cells.toList.toArray = zv.cells := by simp
          rw [e1] at hy
          rw [hy]
          rfl
        · exact h.elim
      · exact h.elim
    · exact h.elim
  · -- typeAssert
    rename_i x xt asserted ok
    obtain ⟨av, h0, hv⟩ := ev_ok h
    clear h
    have h := h0
    clear h0
    split at h
    · rename_i t bv
      split at h
      · exact h.elim
      · rename_i d hni hd
        split at h
        · have hta : t = asserted := of_decide_eq_true (by assumption)
          subst hta
          refine ⟨_, h, fun ρ a w op ho hs hh => ?_⟩
          obtain ⟨v, ⟨y, hy, ev⟩, e1⟩ := hv ρ a hs
          refine ⟨_, ⟨_, ⟨y, _, hy, ⟨_, [], rfl, rfl, rfl⟩, rfl⟩, rfl⟩, ?_⟩
          cases d <;> first | exact absurd rfl (hni _) | simp [execOp, ho, e1, ev, Instr.typeAssert, run_underlying hd, SB.v]
        · have hta : t = asserted := of_decide_eq_true (by assumption)
          subst hta
          refine ⟨_, h, fun ρ a w op ho hs hh => ?_⟩
          obtain ⟨v, ⟨y, hy, ev⟩, e1⟩ := hv ρ a hs
          refine ⟨y, hy, ?_⟩
          cases d <;> first | exact absurd rfl (hni _) | simp [execOp, ho, e1, ev, Instr.typeAssert, run_underlying hd]
        · exact h.elim
      · exact h.elim
    · exact h.elim
  · -- call
    rename_i c
    split at h
    · rename_i b hcal
      obtain ⟨xs, h, hx⟩ := evL_ok h
      split at h
      · obtain ⟨av, h, hb⟩ := lenV_ok h
        refine ⟨av, h, fun ρ a w o ho hs hh => ?_⟩
        obtain ⟨v, hr, hrun⟩ := hb ρ _ o.type (c.args.map fun | .const _ => true | _ => false) w _ (hx ρ a hs) hh
        refine ⟨v, hr, ?_⟩
        rw [← relL_map (hx ρ a hs)] at hrun
        simp only [execOp, ho, resolve, hcal, Sem.run_bind, Sem.run_pure, Result.andThen_ok, invoke]
        exact hrun
      · obtain ⟨av, h, hb⟩ := builtin_ok h
        refine ⟨av, h, fun ρ a w o ho hs hh => ?_⟩
        obtain ⟨v, hr, hrun⟩ := hb ρ o.type (c.args.map fun | .const _ => true | _ => false) w _ (hx ρ a hs)
        refine ⟨v, hr, ?_⟩
        rw [← relL_map (hx ρ a hs)] at hrun
        simp only [execOp, ho, resolve, hcal, Sem.run_bind, Sem.run_pure, Result.andThen_ok, invoke]
        exact hrun
    · exact h.elim
  · exact h.elim
end Go.Proofs.Ytlekjgjhbanimaa.SX
