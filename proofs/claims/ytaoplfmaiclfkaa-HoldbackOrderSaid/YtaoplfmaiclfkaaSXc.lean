/- A symbolic walk, part three: operations that read, one by one. -/
import Derived.Test.YtaoplfmaiclfkaaSXb
import Derived.Laws.Strings
namespace Go.Proofs.Ytaoplfmaiclfkaa.SX
set_option linter.unusedVariables false
set_option linter.unusedSimpArgs false
open Go
variable {P : Program} {φ : AV → Heap → Nat → Prop}
theorem eqGuard_int (op : BinOp) (t : TypeId) (X Y : Operand) (k k' : IntKind) (a b : Int) (w : World) : (eqGuard op t X Y (.int k a) (.int k' b)).run P w = .ok () w := by
  unfold eqGuard
  split <;> rfl
theorem run_quo (t : TypeId) (k : IntKind) (a b : Int) (w : World) (h : ¬ b = 0) : (binOp .quo t (.int k a) (.int k b)).run P w = .ok (.int k (k.wrap (a.tdiv b))) w := by simp [binOp, Op.intDiv, h]
theorem run_rem (t : TypeId) (k : IntKind) (a b : Int) (w : World) (h : ¬ b = 0) : (binOp .rem t (.int k a) (.int k b)).run P w = .ok (.int k (a.tmod b)) w := by simp [binOp, Op.intDiv, h]
theorem intBin_ok {op : BinOp} {k : IntKind} {a b : SI} {kk : AV → Tree} (h : (intBin op k a b kk).den φ) :
    ∃ av, (kk av).den φ ∧ ∀ (ρ : Pl) (t : TypeId) (w : World), ∃ v, av.rel ρ v ∧ (binOp op t (.int k a.v) (.int k b.v)).run P w = .ok v w := by
  unfold intBin at h
  split at h
  · exact ⟨_, h, fun ρ t w => ⟨_, rfl, by simp [binOp, Op.intArith, SI.bin_v, wr_eq]⟩⟩
  · exact ⟨_, h, fun ρ t w => ⟨_, rfl, by simp [binOp, Op.intArith, SI.bin_v, wr_eq]⟩⟩
  · exact ⟨_, h, fun ρ t w => ⟨_, rfl, by simp [binOp, Op.intArith, SI.bin_v, wr_eq]⟩⟩
  · rcases iteSB_den h with ⟨_, h⟩ | ⟨hz, h⟩
    · exact h.elim
    · rw [SI.zero_v] at hz
      exact ⟨_, h, fun ρ t w => ⟨_, rfl, by rw [SI.bin_v, wr_eq]; exact run_quo t k _ _ w (of_decide_eq_false hz)⟩⟩
  · rcases iteSB_den h with ⟨_, h⟩ | ⟨hz, h⟩
    · exact h.elim
    · rw [SI.zero_v] at hz
      exact ⟨_, h, fun ρ t w => ⟨_, rfl, by rw [SI.bin_v]; exact run_rem t k _ _ w (of_decide_eq_false hz)⟩⟩
  all_goals first | exact h.elim | skip
  split at h
  · rename_i f hf
    refine ⟨_, h, fun ρ t w => ⟨_, rfl, ?_⟩⟩
    cases op <;> simp [cmpOp] at hf <;> subst hf <;> simp [binOp, Op.intCmp, SI.cmp_v] <;> simp [SB.v]
    all_goals (first | exact (Bool.beq_eq_decide_eq _ _) | (rw [bne]; congr 1; exact beq_eq_decide ..) | (simp [BEq.beq, bne]))
  · exact h.elim
theorem run_part_one {t : TypeId} {w : World} {cs : Array Value} {o : Nat} {v : Value} (ht : intType P t = true ∨ boolType P t = true) (h : cs[o]? = some v) : (part t cs o).run P w = .ok v w := by
  have ha : (isAgg t).run P w = .ok false w := by
    unfold isAgg
    cases hq : P.underlying t with
    | none => simp [intType, boolType, hq] at ht
    | some dd => rw [Sem.run_bind, run_underlying hq]; cases dd <;> simp_all [intType, boolType]
  unfold part
  rw [Sem.run_bind, ha]
  simp [h]
theorem eqCells_ok {ρ : Pl} : ∀ {xs ys : List AV} {q : SB} {us vs : List Value} (fs : List Field) (o : Nat) (pre1 pre2 : List Value) (d : Nat) (w : World), eqCells P fs o xs ys = some q → AV.relL ρ xs us → AV.relL ρ ys vs →
    pre1.length = o → pre2.length = o →
    (Op.eqFields (d + 1) (pre1 ++ us).toArray (pre2 ++ vs).toArray fs).run P w = .ok q.v w
  | [], ys, q, us, vs, fs, o, pre1, pre2, d, w, h, hx, hy, h1, h2 => by
    cases fs with
    | nil =>
      cases ys with
      | nil => cases h; rfl
      | cons y ys => simp [eqCells] at h
    | cons f fs => simp [eqCells] at h
  | x :: xs, ys, q, us, vs, fs, o, pre1, pre2, d, w, h, ⟨u, us', hu, hus, e1⟩, hy, h1, h2 => by
    cases fs with
    | nil => simp [eqCells] at h
    | cons f fs =>
      cases ys with
      | nil => simp [eqCells] at h
      | cons y ys =>
        obtain ⟨v, vs', hv, hvs, e2⟩ := hy
        subst e1 e2
        have e3 : pre1 ++ u :: us' = (pre1 ++ [u]) ++ us' := by simp
        have e4 : pre2 ++ v :: vs' = (pre2 ++ [v]) ++ vs' := by simp
        have key : ∀ (b : Bool) (q' : SB), f.name ≠ "_" → f.offset = o → (intType P f.type = true ∨ boolType P f.type = true) → (Op.equalIn (d + 1) f.type u v).run P w = .ok b w → eqCells P fs (o + 1) xs ys = some q' → q.v = (b && q'.v) →
            (Op.eqFields (d + 1) (pre1 ++ u :: us').toArray (pre2 ++ v :: vs').toArray (f :: fs)).run P w = .ok q.v w := by
          intro b q' hname hoff hty hb hq' hqv
          have ih := eqCells_ok fs (o + 1) (pre1 ++ [u]) (pre2 ++ [v]) d w hq' hus hvs (by simp [h1]) (by simp [h2])
          rw [← e3, ← e4] at ih
          have p1 : (part f.type (pre1 ++ u :: us').toArray f.offset).run P w = .ok u w := run_part_one hty (by simp [hoff, ← h1])
          have p2 : (part f.type (pre2 ++ v :: vs').toArray f.offset).run P w = .ok v w := run_part_one hty (by simp [hoff, ← h2])
          simp only [Op.eqFields, if_pos hname, Sem.run_bind, p1, p2, Result.andThen_ok, hb]
          rw [hqv]
          cases b with
          | true => simpa using ih
          | false => simp
        unfold eqCells at h
        split at h
        · cases ‹_ :: _ = []›
        · rename_i f' fs' o' k a l k' b r e5 e6 e7
          cases e5
          cases e6
          cases e7
          split at h
          · rename_i q' hk hq'
            simp only [Bool.and_eq_true, bne_iff_ne, ne_eq, decide_eq_true_eq] at hk
            obtain ⟨⟨⟨hname, hoff⟩, hty⟩, hk⟩ := hk
            subst hk
            cases h
            have hu' : u = .int k a.v := hu
            have hv' : v = .int k b.v := hv
            subst hu' hv'
            refine key (a.v == b.v) q' hname (Nat.eq_of_beq_eq_true hoff) (.inl hty) ?_ hq' (by rw [SB.bin_v, SI.cmp_v]; simp [SB.v, BEq.beq])
            unfold intType at hty
            split at hty
            · rename_i kd hd
              have := run_equalIn_int w d f.type k kd a.v b.v hd
              exact this
            · cases hty
          · cases h
        · rename_i f' fs' o' a l b r e5 e6 e7
          cases e5
          cases e6
          cases e7
          split at h
          · rename_i q' hk hq'
            simp only [Bool.and_eq_true, bne_iff_ne, ne_eq] at hk
            obtain ⟨⟨hname, hoff⟩, hty⟩ := hk
            cases h
            have hu' : u = .bool a.v := hu
            have hv' : v = .bool b.v := hv
            subst hu' hv'
            refine key (a.v == b.v) q' hname (Nat.eq_of_beq_eq_true hoff) (.inr hty) ?_ hq' (by rw [SB.bin_v, SB.bin_v])
            unfold boolType at hty
            split at hty
            · rename_i hd
              exact run_equalIn_bool' w d f.type a.v b.v hd
            · cases hty
          · cases h
        · cases h
theorem not_eqGuard {op : BinOp} {t : TypeId} {X Y : Operand} {x y : Value} {w : World} (hn : ∀ cs, x ≠ .agg cs) (hi : x ≠ .nilIface) : (eqGuard op t X Y x y).run P w = .ok () w := by
  unfold eqGuard
  cases op <;> first | rfl | (cases x <;> first | rfl | exact absurd rfl (hn _) | exact absurd rfl hi)
theorem natsOf_inj {a b : ByteArray} : natsOf a = natsOf b ↔ a.data.toList = b.data.toList := by
  unfold natsOf
  constructor
  · intro h
    have h2 : ∀ (l m : List UInt8), l.map UInt8.toNat = m.map UInt8.toNat → l = m := by
      intro l
      induction l with
      | nil =>
        intro m h
        cases m with
        | nil => rfl
        | cons _ _ => cases h
      | cons x l ih =>
        intro m h
        cases m with
        | nil => cases h
        | cons y m =>
          simp only [List.map_cons, List.cons.injEq] at h
          rw [UInt8.toNat_inj.1 h.1, ih m h.2]
    exact h2 _ _ h
  · intro h
    rw [h]
theorem toList_beq (a b : ByteArray) : (a.toList == b.toList) = decide (natsOf a = natsOf b) := by
  rw [ByteArray.toList_eq, ByteArray.toList_eq]
  by_cases h : a.data.toList = b.data.toList
  · rw [decide_eq_true (natsOf_inj.2 h), h]
    simp
  · rw [decide_eq_false (fun e => h (natsOf_inj.1 e))]
    simpa using h
theorem run_eql_str (t : TypeId) (a b : ByteArray) (w : World) : (binOp .eql t (.string a) (.string b)).run P w = .ok (.bool (decide (natsOf a = natsOf b))) w := by
  rw [binOp_string_eql, toList_beq]
  rfl
theorem run_neq_str (t : TypeId) (a b : ByteArray) (w : World) : (binOp .neq t (.string a) (.string b)).run P w = .ok (.bool (decide (¬ natsOf a = natsOf b))) w := by
  rw [binOp_string_neq, toList_beq, decide_not]
  rfl
theorem binop_ok {op : BinOp} {t : TypeId} {x y : AV} {kk : AV → Tree} (h : (binop P op t x y kk).den φ) :
    ∃ av, (kk av).den φ ∧ ∀ (ρ : Pl) (X Y : Operand) (vx vy : Value) (w : World), x.rel ρ vx → y.rel ρ vy →
      ∃ v, av.rel ρ v ∧ (eqGuard op t X Y vx vy).run P w = .ok () w ∧ (binOp op t vx vy).run P w = .ok v w := by
  unfold binop at h
  split at h
  · rename_i k a k' b
    split at h
    · rename_i hk
      have hk : k = k' := by simpa using hk
      subst hk
      obtain ⟨av, h, hv⟩ := intBin_ok (P := P) h
      refine ⟨av, h, fun ρ X Y vx vy w hx hy => ?_⟩
      obtain ⟨v, hr, e⟩ := hv ρ t w
      rw [show vx = _ from hx, show vy = _ from hy]
      exact ⟨v, hr, eqGuard_int .., e⟩
    · exact h.elim
  · rename_i a b
    split at h
    · rename_i hu
      exact ⟨_, h, fun ρ X Y vx vy w hx hy => by
        rw [show vx = _ from hx, show vy = _ from hy]
        exact ⟨_, rfl, not_eqGuard (by simp) (by simp), by rw [SB.bin_v]; exact run_eql_bool w t a.v b.v hu⟩⟩
    · rename_i hu
      exact ⟨_, h, fun ρ X Y vx vy w hx hy => by
        rw [show vx = _ from hx, show vy = _ from hy]
        exact ⟨_, rfl, not_eqGuard (by simp) (by simp), by rw [SB.bin_v]; exact run_neq_bool w t a.v b.v hu⟩⟩
    · exact h.elim
  · rename_i a b
    split at h
    · exact ⟨_, h, fun ρ X Y vx vy w hx hy => by
        rw [show vx = _ from hx, show vy = _ from hy]
        exact ⟨_, rfl, not_eqGuard (by simp) (by simp), run_eql_str t a b w⟩⟩
    · exact ⟨_, h, fun ρ X Y vx vy w hx hy => by
        rw [show vx = _ from hx, show vy = _ from hy]
        exact ⟨_, rfl, not_eqGuard (by simp) (by simp), run_neq_str t a b w⟩⟩
    · exact h.elim
  · split at h
    · rename_i e hu
      refine ⟨_, h, fun ρ X Y vx vy w hx hy => ?_⟩
      obtain ⟨n, hn, ex⟩ := hx
      rw [ex, show vy = _ from hy]
      refine ⟨_, rfl, not_eqGuard (by simp) (by simp), ?_⟩
      rw [run_eql_pointer_nil w t _ (by simp [Program.pointee, hu])]
      rfl
    · rename_i e hu
      refine ⟨_, h, fun ρ X Y vx vy w hx hy => ?_⟩
      obtain ⟨n, hn, ex⟩ := hx
      rw [ex, show vy = _ from hy]
      refine ⟨_, rfl, not_eqGuard (by simp) (by simp), ?_⟩
      rw [run_neq_pointer_nil w t _ (by simp [Program.pointee, hu])]
      rfl
    · exact h.elim
  · split at h
    · rename_i e hu
      refine ⟨_, h, fun ρ X Y vx vy w hx hy => ?_⟩
      rw [show vx = _ from hx, show vy = _ from hy]
      refine ⟨_, rfl, not_eqGuard (by simp) (by simp), ?_⟩
      rw [run_eql_pointer_nil w t _ (by simp [Program.pointee, hu])]
      rfl
    · rename_i e hu
      refine ⟨_, h, fun ρ X Y vx vy w hx hy => ?_⟩
      rw [show vx = _ from hx, show vy = _ from hy]
      refine ⟨_, rfl, not_eqGuard (by simp) (by simp), ?_⟩
      rw [run_neq_pointer_nil w t _ (by simp [Program.pointee, hu])]
      rfl
    · exact h.elim
  · rename_i xs ys
    split at h
    · rename_i fs hu
      have eqs : ∀ {q : SB} (hq : eqCells P fs.toList 0 xs ys = some q) (hs : (!(P.stoodInHeld t) && !(P.eqGuardType P.depth t)) = true) (ρ : Pl) (X Y : Operand) (op : BinOp) (vx vy : Value) (w : World), (AV.agg xs).rel ρ vx → (AV.agg ys).rel ρ vy →
          ∃ us vs, vx = .agg us ∧ vy = .agg vs ∧ (Op.equalIn 10000 t (.agg us) (.agg vs)).run P w = .ok q.v w ∧ (eqGuard op t X Y (.agg us) (.agg vs)).run P w = .ok () w := by
        intro q hq hs ρ X Y op vx vy w ⟨us, hus, ex⟩ ⟨vs, hvs, ey⟩
        simp only [Bool.and_eq_true, Bool.not_eq_true'] at hs
        have hf : P.underlying t = some (.struct (P.fieldsOf t)) := by simp [Program.fieldsOf, hu]
        have hff : P.fieldsOf t = fs := by simp [Program.fieldsOf, hu]
        refine ⟨us.toArray, vs.toArray, ex, ey, ?_, run_eqGuard_agg w op t X Y _ _ hs.2⟩
        rw [run_equalIn_struct w 9999 t _ _ hf hs.1, hff]
        exact eqCells_ok fs.toList 0 [] [] 9998 w hq hus hvs rfl rfl
      split at h
      · rename_i q hs hq
        refine ⟨_, h, fun ρ X Y vx vy w hx hy => ?_⟩
        obtain ⟨us, vs, e1, e2, he, hg⟩ := eqs hq hs ρ X Y .eql vx vy w hx hy
        subst e1 e2
        exact ⟨_, rfl, hg, by simp [run_eql_struct, he]⟩
      · rename_i q hs hq
        refine ⟨_, h, fun ρ X Y vx vy w hx hy => ?_⟩
        obtain ⟨us, vs, e1, e2, he, hg⟩ := eqs hq hs ρ X Y .neq vx vy w hx hy
        subst e1 e2
        exact ⟨_, rfl, hg, by simp [run_neq_struct, he, SB.not_v]⟩
      · exact h.elim
    · exact h.elim
  · exact h.elim
end Go.Proofs.Ytaoplfmaiclfkaa.SX
