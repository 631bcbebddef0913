/- A symbolic walk, part five: operations that read, all. -/
import Derived.Test.YtaoplfmaiclfkaaSXd
import Derived.Laws.AppendOwn
import Derived.Laws.OwnMore
import Derived.Laws.BytesArg
namespace Go.Proofs.Ytaoplfmaiclfkaa.SX
set_option linter.unusedVariables false
set_option linter.unusedSimpArgs false
open Go
variable {P : Program} {φ : AV → Heap → Nat → Prop}
/-- What an operation that reads yields, in every world that fits. -/
def Yields (P : Program) (st : AS) (op : Op) (av : AV) : Prop :=
  ∀ (ρ : Pl) (a : Act) (w : World) (o : Oper), o.op = op → SRel ρ st.sz st.slots a.tmps → HRel ρ st.H st.hn w → ∃ v, av.rel ρ v ∧ (execOp a.eval o).run P w = .ok (.value v) w
theorem relL_map {ρ : Pl} {l : List AV} {xs : Array Operand} {a : Act} (h : AV.relL ρ l (xs.toList.map a.eval)) : (xs.map a.eval) = (xs.toList.map a.eval).toArray := by
  apply Array.toList_inj.1
  simp
/-- A slice's header, and that of which it is a part. -/
structure Hdr (ρ : Pl) (i : Nat) (n : SI) (x : Value) (a : Option Addr) (len len0 cap : Nat) : Prop where
  x : x = .slice a len cap
  tv : ρ.tv i = some (.slice a len0 cap)
  n : n.v = (len : Int)
  le : len ≤ len0
  le0 : len0 ≤ cap
  nil : a = none → len0 = 0 ∧ cap = 0
  ad : a = none ∨ ∃ g o, a = some ⟨g, o, none⟩
section
variable {ρ : Pl} {i : Nat} {n : SI} {x : Value} {a : Option Addr} {len len0 cap : Nat}
theorem Hdr.pre (h : Hdr ρ i n x a len len0 cap) {m : SI} {k : Nat} (hm : m.v = (k : Int)) (hk : k ≤ len) : (AV.pre i m).rel ρ (.slice a k cap) := by
  refine ⟨by omega, ?_⟩
  rcases h.ad with e | ⟨g, o, e⟩
  · obtain ⟨h1, h2⟩ := h.nil e
    have := h.le
    have : k = 0 := by omega
    subst this
    refine .inl ⟨?_, hm, by rw [e, h2]⟩
    rw [h.tv, e, h1, h2]
  · exact .inr ⟨g, o, len0, cap, by rw [h.tv, e], by have := h.le; omega, h.le0, by rw [e, hm]; rfl⟩
theorem Hdr.vw (h : Hdr ρ i n x a len len0 cap) {l m : SI} {j k : Nat} (sz : Nat) (hl : l.v = (j : Int)) (hm : m.v = (k : Int)) (hj : j ≤ k) (hk : k ≤ len) : (AV.vw i sz l m).rel ρ (.slice (if cap = j then a else a.map (·.add (j * sz))) (k - j) (cap - j)) := by
  refine ⟨by omega, by omega, ?_⟩
  rcases h.ad with e | ⟨g, o, e⟩
  · obtain ⟨h1, h2⟩ := h.nil e
    have := h.le
    have : k = 0 := by omega
    subst this
    have : j = 0 := by omega
    subst this
    refine .inl ⟨?_, hm, by rw [e, h2]; rfl⟩
    rw [h.tv, e, h1, h2]
  · refine .inr ⟨g, o, len0, cap, by rw [h.tv, e], by have := h.le; omega, h.le0, ?_⟩
    have e1 : (m.v - l.v).toNat = k - j := by omega
    have e2 : l.v.toNat = j := by omega
    rw [e, e1, e2]
    show _ = Value.slice (some ⟨g, if cap = j then o else o + j * sz, none⟩) (k - j) (cap - j)
    by_cases hc : cap = j
    · simp only [if_pos hc]
    · simp only [if_neg hc, Option.map_some, addr_add]
end
theorem OV.bv {v : Option Value} {n : SI} {m : Nat} (d : Nat) (h : OV v (some n)) (hm : n.v = (m : Int)) : BV v d m := by
  cases v with
  | none => exact h.elim
  | some v =>
    obtain ⟨kd, rfl⟩ := h
    exact ⟨kd, by rw [hm]⟩
theorem OV.bv0 {v : Option Value} (d : Nat) (h : OV v none) : BV v d d := by
  cases v with
  | none => rfl
  | some v => exact h.elim
theorem slice0 (a : Option Addr) (k cap : Nat) (size : Nat) (ha : a = none ∨ ∃ g o, a = some ⟨g, o, none⟩) : Value.slice (if cap = 0 then a else a.map (·.add (0 * size))) (k - 0) (cap - 0) = .slice a k cap := by
  rcases ha with e | ⟨g, o, e⟩ <;> subst e <;> simp [addr_add]
theorem window {cs xs : List Value} {o L s j k : Nat} (h : (cs.drop o).take (L * s) = xs) (hk : k ≤ L) : (cs.drop (o + j * s)).take ((k - j) * s) = (xs.take (k * s)).drop (j * s) := by
  have : k * s ≤ L * s := Nat.mul_le_mul_right _ hk
  rw [← h, List.take_take, Nat.min_eq_left this, List.drop_take, List.drop_drop, ← Nat.sub_mul]
/-- What a slice's header says, whatever it holds. -/
def HdrAt (ρ : Pl) (i : Nat) (n : SI) : Prop := (ρ.tv i = some (.slice none 0 0) ∧ n.v = 0) ∨ ∃ (g off len cap : Nat), ρ.tv i = some (.slice (some ⟨g, off, none⟩) len cap) ∧ n.v = len ∧ len ≤ cap
def Hdrs (ρ : Pl) (H : Heap) : Prop := ∀ i e t z n l, look H i = some (.vec e t z n l) → HdrAt ρ i n
theorem HRel.hdrs {ρ : Pl} {H : Heap} {hn : Nat} {w : World} (hr : HRel ρ H hn w) : Hdrs ρ H := fun i e t z n l hl => by
  obtain ⟨hn2, hh⟩ := hr.obj _ _ hl
  rcases hh with ⟨h1, h2⟩ | ⟨g, off, cap', cur, xs, h1, h2, h3, h4, h5, _⟩
  · exact .inl ⟨h1, by rw [hn2, h2]; rfl⟩
  · exact .inr ⟨_, _, _, _, h2, hn2, h5⟩
theorem sliceV_ok {H : Heap} {size : Nat} {v : AV} {lo hi : Option SI} {k : AV → Tree} (h : (sliceV H size v lo hi k).den φ) : ∃ av, (k av).den φ ∧ ∀ (ρ : Pl) (w : World) (x : Value), Hdrs ρ H → v.rel ρ x → ∃ y, av.rel ρ y ∧
    ∀ (t e : TypeId) (inf : TypeInfo), P.underlying t = some (.slice e) → P.info? e = some inf → inf.size = size → ∀ (l h : Option Value), OV l lo → OV h hi → (Instr.slice t x l h none).run P w = .ok y w := by
  have onpre : ∀ {i : Nat} {n m : SI} {x : Value} {ρ : Pl} {w : World} {a : Option Addr} {len len0 cap : Nat}, Hdr ρ i n x a len len0 cap → 0 ≤ m.v → m.v ≤ n.v → ∃ y, (AV.pre i m).rel ρ y ∧
      ∀ (t e : TypeId) (inf : TypeInfo), P.underlying t = some (.slice e) → P.info? e = some inf → inf.size = size → ∀ (l h : Option Value), OV l none → OV h (some m) → (Instr.slice t x l h none).run P w = .ok y w := by
    intro i n m x ρ w a len len0 cap hd h0 h1
    obtain ⟨kk, hk⟩ : ∃ kk : Nat, m.v = (kk : Int) := ⟨m.v.toNat, by omega⟩
    have := hd.n
    refine ⟨_, hd.pre hk (by omega), fun t e inf hu hinf hsz l hv hl hh => ?_⟩
    rw [hd.x, run_slice hu hinf a len cap l hv 0 kk w (hl.bv0 0) (hh.bv len hk) (Nat.zero_le _) (by omega) (Nat.le_trans hd.le hd.le0), slice0 a kk cap inf.size hd.ad]
  have onlo : ∀ {i : Nat} {n m : SI} {x : Value} {ρ : Pl} {w : World} {a : Option Addr} {len len0 cap : Nat}, Hdr ρ i n x a len len0 cap → 0 ≤ m.v → m.v ≤ n.v → ∃ y, (AV.vw i size m n).rel ρ y ∧
      ∀ (t e : TypeId) (inf : TypeInfo), P.underlying t = some (.slice e) → P.info? e = some inf → inf.size = size → ∀ (l h : Option Value), OV l (some m) → OV h none → (Instr.slice t x l h none).run P w = .ok y w := by
    intro i n m x ρ w a len len0 cap hd h0 h1
    obtain ⟨kk, hk⟩ : ∃ kk : Nat, m.v = (kk : Int) := ⟨m.v.toNat, by omega⟩
    have := hd.n
    refine ⟨_, hd.vw size hk hd.n (by omega) (Nat.le_refl _), fun t e inf hu hinf hsz l hv hl hh => ?_⟩
    subst hsz
    rw [hd.x, run_slice hu hinf a len cap l hv kk len w (hl.bv 0 hk) (hh.bv0 len) (by omega) (Nat.le_refl _) (Nat.le_trans hd.le hd.le0)]
  have onboth : ∀ {i : Nat} {n m1 m : SI} {x : Value} {ρ : Pl} {w : World} {a : Option Addr} {len len0 cap : Nat}, Hdr ρ i n x a len len0 cap → 0 ≤ m1.v → m1.v ≤ m.v → m.v ≤ n.v → ∃ y, (AV.vw i size m1 m).rel ρ y ∧
      ∀ (t e : TypeId) (inf : TypeInfo), P.underlying t = some (.slice e) → P.info? e = some inf → inf.size = size → ∀ (l h : Option Value), OV l (some m1) → OV h (some m) → (Instr.slice t x l h none).run P w = .ok y w := by
    intro i n m1 m x ρ w a len len0 cap hd h0 h1 h2
    obtain ⟨kk, hk⟩ : ∃ kk : Nat, m.v = (kk : Int) := ⟨m.v.toNat, by omega⟩
    obtain ⟨jj, hj⟩ : ∃ jj : Nat, m1.v = (jj : Int) := ⟨m1.v.toNat, by omega⟩
    have := hd.n
    refine ⟨_, hd.vw size hj hk (by omega) (by omega), fun t e inf hu hinf hsz l hv hl hh => ?_⟩
    subst hsz
    rw [hd.x, run_slice hu hinf a len cap l hv jj kk w (hl.bv 0 hj) (hh.bv len hk) (by omega) (by omega) (Nat.le_trans hd.le hd.le0)]
  have ofpre : ∀ {i : Nat} {n : SI} {ρ : Pl} {x : Value}, (AV.pre i n).rel ρ x → ∃ a len len0 cap, Hdr ρ i n x a len len0 cap := by
    rintro i n ρ x ⟨h0, ⟨h1, h2, h3⟩ | ⟨g, o, len, cap, h1, h2, h3, h4⟩⟩
    · exact ⟨none, 0, 0, 0, h3, h1, h2, Nat.le_refl _, Nat.le_refl _, fun _ => ⟨rfl, rfl⟩, .inl rfl⟩
    · exact ⟨_, _, len, cap, h4, h1, by omega, by omega, h3, fun h => (by cases h), .inr ⟨_, _, rfl⟩⟩
  have ofown : ∀ {i : Nat} {e : TypeId} {t : Ty} {z : Bool} {n : SI} {l : List t.El} {ρ : Pl} {x : Value}, look H i = some (.vec e t z n l) → Hdrs ρ H → (AV.own i).rel ρ x → ∃ a len len0 cap, Hdr ρ i n x a len len0 cap := by
    intro i e t z n l ρ x hl hr hx
    obtain ⟨htv, _⟩ := hx
    rcases hr _ _ _ _ _ _ hl with ⟨h1, h2⟩ | ⟨g, off, len, cap', h2, hn2, h5⟩
    · rw [h1] at htv
      cases htv
      exact ⟨none, 0, 0, 0, rfl, h1, by rw [h2]; rfl, Nat.le_refl _, Nat.le_refl _, fun _ => ⟨rfl, rfl⟩, .inl rfl⟩
    · rw [h2] at htv
      cases htv
      exact ⟨_, _, _, _, rfl, h2, hn2, Nat.le_refl _, h5, fun h => (by cases h), .inr ⟨_, _, rfl⟩⟩
  have le0 : ∀ {a b : SI} {t e : Tree}, (iteSB (leB a b) t e).den φ → (e.den φ → False) → a.v ≤ b.v ∧ t.den φ := by
    intro a b t e h he
    rcases iteSB_den h with ⟨hb, h⟩ | ⟨_, h⟩
    · rw [leB_v] at hb
      exact ⟨of_decide_eq_true hb, h⟩
    · exact (he h).elim
  unfold sliceV at h
  simp only [SI.nat_eq] at h
  split at h
  · rename_i i
    split at h
    · rename_i e t z n l hl
      split at h
      · refine ⟨_, h, fun ρ w x hr hx => ?_⟩
        obtain ⟨a, len, len0, cap, hd⟩ := ofown hl hr hx
        refine ⟨x, hx, fun t e inf hu hinf hsz l hv hl hh => ?_⟩
        rw [hd.x, run_slice hu hinf a len cap l hv 0 len w (hl.bv0 0) (hh.bv0 len) (Nat.zero_le _) (Nat.le_refl _) (Nat.le_trans hd.le hd.le0), slice0 a len cap inf.size hd.ad]
      · obtain ⟨h1, h⟩ := le0 h (fun h => h)
        obtain ⟨h2, h⟩ := le0 h (fun h => h)
        refine ⟨_, h, fun ρ w x hr hx => ?_⟩
        obtain ⟨a, len, len0, cap, hd⟩ := ofown hl hr hx
        exact onpre hd h1 h2
      · obtain ⟨h1, h⟩ := le0 h (fun h => h)
        obtain ⟨h2, h⟩ := le0 h (fun h => h)
        refine ⟨_, h, fun ρ w x hr hx => ?_⟩
        obtain ⟨a, len, len0, cap, hd⟩ := ofown hl hr hx
        exact onlo hd h1 h2
      · obtain ⟨h1, h⟩ := le0 h (fun h => h)
        obtain ⟨h2, h⟩ := le0 h (fun h => h)
        obtain ⟨h3, h⟩ := le0 h (fun h => h)
        refine ⟨_, h, fun ρ w x hr hx => ?_⟩
        obtain ⟨a, len, len0, cap, hd⟩ := ofown hl hr hx
        exact onboth hd h1 h2 h3
      · exact h.elim
    · exact h.elim
  · rename_i i n
    split at h
    · refine ⟨_, h, fun ρ w x hr hx => ?_⟩
      obtain ⟨a, len, len0, cap, hd⟩ := ofpre hx
      refine ⟨x, hx, fun t e inf hu hinf hsz l hv hl hh => ?_⟩
      rw [hd.x, run_slice hu hinf a len cap l hv 0 len w (hl.bv0 0) (hh.bv0 len) (Nat.zero_le _) (Nat.le_refl _) (Nat.le_trans hd.le hd.le0), slice0 a len cap inf.size hd.ad]
    · obtain ⟨h1, h⟩ := le0 h (fun h => h)
      obtain ⟨h2, h⟩ := le0 h (fun h => h)
      refine ⟨_, h, fun ρ w x hr hx => ?_⟩
      obtain ⟨a, len, len0, cap, hd⟩ := ofpre hx
      exact onpre hd h1 h2
    · obtain ⟨h1, h⟩ := le0 h (fun h => h)
      obtain ⟨h2, h⟩ := le0 h (fun h => h)
      refine ⟨_, h, fun ρ w x hr hx => ?_⟩
      obtain ⟨a, len, len0, cap, hd⟩ := ofpre hx
      exact onlo hd h1 h2
    · obtain ⟨h1, h⟩ := le0 h (fun h => h)
      obtain ⟨h2, h⟩ := le0 h (fun h => h)
      obtain ⟨h3, h⟩ := le0 h (fun h => h)
      refine ⟨_, h, fun ρ w x hr hx => ?_⟩
      obtain ⟨a, len, len0, cap, hd⟩ := ofpre hx
      exact onboth hd h1 h2 h3
  · rename_i i t l
    have hlst : ∀ {ρ : Pl} {x : Value}, (AV.lst i t l none).rel ρ x → (∃ a, x = .slice a 0 0 ∧ ρ.ro.hd i = some (.slice a 0 0) ∧ l = []) ∨ ∃ n o cap cs ty fz xs, x = .slice (some ⟨n, o, none⟩) l.length cap ∧ ρ.ro.hd i = some (.slice (some ⟨n, o, none⟩) l.length cap) ∧ l.length ≤ cap ∧
        ρ.ro.obj n = some (.cells cs ty fz) ∧ AllR (RelT ρ.ro.obj t) l xs ∧ (cs.toList.drop o).take (l.length * t.size) = xs := by
      intro ρ x hx
      unfold AV.rel at hx
      rcases hx with ⟨a, h1, h2, h3⟩ | ⟨n, o, len, cap, cs, ty, fz, xs, h1, h2, h3, h3a, h3b, h4, h5, h6⟩
      · exact .inl ⟨a, h3, h1, h2⟩
      · have := h3a rfl
        subst this
        exact .inr ⟨n, o, cap, cs, ty, fz, xs, h2, h1, h3b, h4, h5, by simpa using h6⟩
    -- a part, by its bounds
    have cut : ∀ {ρ : Pl} {w : World} {x : Value} {lo hi : Option SI} {j kk : Nat} {l' : List t.El} (_ : (AV.lst i t l none).rel ρ x) (_ : j ≤ kk) (_ : kk ≤ l.length) (_ : l' = (l.take kk).drop j) (_ : t.size = size)
        (_ : ∀ v, OV v lo → BV v 0 j) (_ : ∀ v, OV v hi → BV v l.length kk), ∃ y, (AV.lst i t l' (some j)).rel ρ y ∧
        ∀ (t e : TypeId) (inf : TypeInfo), P.underlying t = some (.slice e) → P.info? e = some inf → inf.size = size → ∀ (l h : Option Value), OV l lo → OV h hi → (Instr.slice t x l h none).run P w = .ok y w := by
      intro ρ w x lo hi j kk l' hx hj hk el hsize hlo hhi
      have hlen : l'.length = kk - j := by rw [el]; simp; omega
      rcases hlst hx with ⟨a, h1, h2, h3⟩ | ⟨n, o, cap, cs, ty, fz, xs, h1, h2, h3, h4, h5, h6⟩
      · have e0 : l.length = 0 := by rw [h3]; rfl
        have ek : kk = 0 := by omega
        have ej : j = 0 := by omega
        subst ek ej
        refine ⟨.slice a 0 0, .inl ⟨a, h2, by rw [el, h3]; simp, rfl⟩, fun t e inf hu hinf hsz l2 hv hl hh => ?_⟩
        rw [h1, run_slice hu hinf a 0 0 l2 hv 0 0 w (hlo _ hl) (by have := hhi _ hh; rw [e0] at this; exact this) (Nat.le_refl _) (Nat.le_refl _) (Nat.le_refl _)]
        rfl
      · refine ⟨_, .inr ⟨n, o, l.length, cap, cs, ty, fz, (xs.take (kk * t.size)).drop (j * t.size), h2, rfl, by rw [hlen]; simp only [Option.getD_some]; omega, fun h => (by cases h), h3, h4, ?_, ?_⟩, fun t' e inf hu hinf hsz l2 hv hl hh => ?_⟩
        · rw [el]
          exact AllR.drop (RelT.len t) j (AllR.take (RelT.len t) kk h5)
        · rw [hlen]
          exact window h6 hk
        · rw [h1, run_slice hu hinf _ l.length cap l2 hv j kk w (hlo _ hl) (hhi _ hh) hj hk h3, hlen, hsz, ← hsize]
          show _ = Result.ok (Value.slice (some ⟨n, if cap = j then o else o + j * t.size, none⟩) (kk - j) (cap - j)) w
          by_cases hc : cap = j
          · simp only [if_pos hc]
          · simp only [if_neg hc, Option.map_some, addr_add]
    split at h
    · refine ⟨_, h, fun ρ w x hr hx => ⟨x, hx, fun t' e inf hu hinf hsz l2 hv hl hh => ?_⟩⟩
      rcases hlst hx with ⟨a, h1, h2, h3⟩ | ⟨n, o, cap, cs, ty, fz, xs, h1, h2, h3, _⟩
      · rw [h1, run_slice hu hinf a 0 0 l2 hv 0 0 w (hl.bv0 0) (hh.bv0 0) (Nat.le_refl _) (Nat.le_refl _) (Nat.le_refl _)]
        rfl
      · rw [h1, run_slice hu hinf _ l.length cap l2 hv 0 l.length w (hl.bv0 0) (hh.bv0 _) (Nat.zero_le _) (Nat.le_refl _) h3, slice0 _ _ cap inf.size (.inr ⟨_, _, rfl⟩)]
    · rename_i m hsz
      obtain ⟨h1, h⟩ := le0 h (fun h => h)
      obtain ⟨hb, h⟩ := le0 h (fun h => h)
      refine ⟨_, h, fun ρ w x hr hx => ?_⟩
      have h1 : 0 ≤ m.v := h1
      have hb : m.v ≤ l.length := hb
      exact cut (j := 0) (kk := m.v.toNat) hx (Nat.zero_le _) (by omega) (by simp) (Nat.eq_of_beq_eq_true hsz) (fun v hv => (hv.bv0 0)) (fun v hv => hv.bv _ (by omega))
    · rename_i m hsz
      obtain ⟨h1, h⟩ := le0 h (fun h => h)
      obtain ⟨hb, h⟩ := le0 h (fun h => h)
      refine ⟨_, h, fun ρ w x hr hx => ?_⟩
      have h1 : 0 ≤ m.v := h1
      have hb : m.v ≤ l.length := hb
      exact cut (j := m.v.toNat) (kk := l.length) hx (by omega) (Nat.le_refl _) (by simp) (Nat.eq_of_beq_eq_true hsz) (fun v hv => hv.bv 0 (by omega)) (fun v hv => hv.bv0 _)
    · rename_i m1 m hsz
      obtain ⟨h1, h⟩ := le0 h (fun h => h)
      obtain ⟨h2, h⟩ := le0 h (fun h => h)
      obtain ⟨hb, h⟩ := le0 h (fun h => h)
      refine ⟨_, h, fun ρ w x hr hx => ?_⟩
      have h1 : 0 ≤ m1.v := h1
      have hb : m.v ≤ l.length := hb
      exact cut (j := m1.v.toNat) (kk := m.v.toNat) hx (by omega) (by omega) rfl (Nat.eq_of_beq_eq_true hsz) (fun v hv => hv.bv 0 (by omega)) (fun v hv => hv.bv _ (by omega))
    · exact h.elim
  · rename_i t l
    have cut : ∀ {ρ : Pl} {w : World} {x : Value} {lo hi : Option SI} {j kk : Nat} {l' : List t.El} (_ : (AV.ro t l).rel ρ x) (_ : j ≤ kk) (_ : kk ≤ l.length) (_ : l' = (l.take kk).drop j) (_ : t.size = size)
        (_ : ∀ v, OV v lo → BV v 0 j) (_ : ∀ v, OV v hi → BV v l.length kk), ∃ y, (AV.ro t l').rel ρ y ∧
        ∀ (t e : TypeId) (inf : TypeInfo), P.underlying t = some (.slice e) → P.info? e = some inf → inf.size = size → ∀ (l h : Option Value), OV l lo → OV h hi → (Instr.slice t x l h none).run P w = .ok y w := by
      intro ρ w x lo hi j kk l' hx hj hk el hsize hlo hhi
      have hlen : l'.length = kk - j := by rw [el]; simp; omega
      unfold AV.rel at hx
      rcases hx with ⟨a, h1, h3⟩ | ⟨n, o, cap, cs, ty, fz, xs, h1, h3, h4, h5, h6⟩
      · have e0 : l.length = 0 := by rw [h3]; rfl
        have ek : kk = 0 := by omega
        have ej : j = 0 := by omega
        subst ek ej
        refine ⟨.slice a 0 0, .inl ⟨a, rfl, by rw [el, h3]; simp⟩, fun t e inf hu hinf hsz l2 hv hl hh => ?_⟩
        rw [h1, run_slice hu hinf a 0 0 l2 hv 0 0 w (hlo _ hl) (by have := hhi _ hh; rw [e0] at this; exact this) (Nat.le_refl _) (Nat.le_refl _) (Nat.le_refl _)]
        rfl
      · by_cases hc : cap = j
        · refine ⟨.slice (some ⟨n, o, none⟩) 0 0, .inl ⟨_, rfl, List.eq_nil_of_length_eq_zero (by omega)⟩, fun t' e inf hu hinf hsz l2 hv hl hh => ?_⟩
          rw [h1, run_slice hu hinf _ l.length cap l2 hv j kk w (hlo _ hl) (hhi _ hh) hj hk h3, if_pos hc, show kk - j = 0 by omega, show cap - j = 0 by omega]
        · refine ⟨.slice (some ⟨n, o + j * t.size, none⟩) l'.length (cap - j), .inr ⟨n, o + j * t.size, cap - j, cs, ty, fz, (xs.take (kk * t.size)).drop (j * t.size), rfl, by rw [hlen]; omega, h4, ?_, ?_⟩, fun t' e inf hu hinf hsz l2 hv hl hh => ?_⟩
          · rw [el]
            exact AllR.drop (RelT.len t) j (AllR.take (RelT.len t) kk h5)
          · rw [hlen]
            exact window h6 hk
          · rw [h1, run_slice hu hinf _ l.length cap l2 hv j kk w (hlo _ hl) (hhi _ hh) hj hk h3, hlen, hsz, ← hsize, if_neg hc, Option.map_some, addr_add]
    split at h
    · rename_i hsz0
      refine ⟨_, h, fun ρ w x hr hx => ?_⟩
      exact cut (j := 0) (kk := l.length) hx (Nat.zero_le _) (Nat.le_refl _) (by simp) (Nat.eq_of_beq_eq_true hsz0) (fun v hv => hv.bv0 0) (fun v hv => hv.bv0 _)
    · rename_i m hsz
      obtain ⟨h1, h⟩ := le0 h (fun h => h)
      obtain ⟨hb, h⟩ := le0 h (fun h => h)
      refine ⟨_, h, fun ρ w x hr hx => ?_⟩
      have h1 : 0 ≤ m.v := h1
      have hb : m.v ≤ l.length := hb
      exact cut (j := 0) (kk := m.v.toNat) hx (Nat.zero_le _) (by omega) (by simp) (Nat.eq_of_beq_eq_true hsz) (fun v hv => (hv.bv0 0)) (fun v hv => hv.bv _ (by omega))
    · rename_i m hsz
      obtain ⟨h1, h⟩ := le0 h (fun h => h)
      obtain ⟨hb, h⟩ := le0 h (fun h => h)
      refine ⟨_, h, fun ρ w x hr hx => ?_⟩
      have h1 : 0 ≤ m.v := h1
      have hb : m.v ≤ l.length := hb
      exact cut (j := m.v.toNat) (kk := l.length) hx (by omega) (Nat.le_refl _) (by simp) (Nat.eq_of_beq_eq_true hsz) (fun v hv => hv.bv 0 (by omega)) (fun v hv => hv.bv0 _)
    · rename_i m1 m hsz
      obtain ⟨h1, h⟩ := le0 h (fun h => h)
      obtain ⟨h2, h⟩ := le0 h (fun h => h)
      obtain ⟨hb, h⟩ := le0 h (fun h => h)
      refine ⟨_, h, fun ρ w x hr hx => ?_⟩
      have h1 : 0 ≤ m1.v := h1
      have hb : m.v ≤ l.length := hb
      exact cut (j := m1.v.toNat) (kk := m.v.toNat) hx (by omega) (by omega) rfl (Nat.eq_of_beq_eq_true hsz) (fun v hv => hv.bv 0 (by omega)) (fun v hv => hv.bv _ (by omega))
    · exact h.elim
  · exact h.elim
/-- What a slice holds. -/
def Row (w : World) (ob : Nat → Option Obj) (t : Ty) (l : List t.El) (k : Nat) (x : Value) : Prop :=
  ∃ xs, AllR (RelT ob t) l xs ∧ xs.length = k * t.size ∧ l.length = k ∧ ((x = .slice none 0 0 ∧ k = 0) ∨ ∃ a c, x = .slice (some a) k c ∧ ∀ j u, xs[j]? = some u → w.cell? (a.add j) = some u)
theorem Row.empty (w : World) (ob : Nat → Option Obj) (t : Ty) (a : Option Addr) : Row w ob t [] 0 (.slice a 0 0) := ⟨[], rfl, by simp, rfl, by
  cases a with
  | none => exact .inl ⟨rfl, rfl⟩
  | some a => exact .inr ⟨a, 0, rfl, fun j u h => by simp at h⟩⟩
theorem Row.nil (w : World) (ob : Nat → Option Obj) (t : Ty) : Row w ob t [] 0 (.slice none 0 0) := ⟨[], rfl, by simp, rfl, .inl ⟨rfl, rfl⟩⟩
theorem row_win {w : World} {ob : Nat → Option Obj} {t : Ty} {l l' : List t.El} {g off o' c k' : Nat} {cur : Array Value} {ty : TypeId} {fz : Nat × Nat} {xs : List Value} (hg : w.heap[g]? = some (.cells cur ty fz)) (hall : AllR (RelT ob t) l xs)
    (hwin : (cur.toList.drop off).take (l.length * t.size) = xs) {j k : Nat} (hj : j ≤ k) (hk : k ≤ l.length) (ho : k = j ∨ o' = off + j * t.size) (el : l' = (l.take k).drop j) (ek : k' = k - j) : Row w ob t l' k' (.slice (some ⟨g, o', none⟩) k' c) := by
  have hlen := AllR.len (RelT.len t) hall
  have hks : k * t.size ≤ l.length * t.size := Nat.mul_le_mul_right _ hk
  have hxl : ((xs.take (k * t.size)).drop (j * t.size)).length = k' * t.size := by rw [List.length_drop, List.length_take, hlen, ek, Nat.sub_mul]; omega
  refine ⟨(xs.take (k * t.size)).drop (j * t.size), by rw [el]; exact AllR.drop (RelT.len t) j (AllR.take (RelT.len t) k hall), hxl, by rw [el, ek]; simp; omega, .inr ⟨_, _, rfl, fun i u hi => ?_⟩⟩
  rcases ho with e | e
  · have := (List.getElem?_eq_some_iff.1 hi).1
    rw [hxl, ek, e, Nat.sub_self] at this
    omega
  · rw [addr_add, cell_of_row w g (o' + i) _ _ _ hg, e]
    have := win_get (window hwin hk (j := j)) i u hi
    simpa using this
theorem newsOf_ok {H : Heap} {t : Ty} {m : SI} {vx : AV} {news : List t.El} (h : newsOf H t vx = some (m, news)) {ρ : Pl} {hn : Nat} {w : World} {x : Value} (hr : HRel ρ H hn w) (hx : vx.rel ρ x) :
    ∃ k : Nat, m.v = (k : Int) ∧ Row w ρ.ro.obj t news k x := by
  unfold newsOf at h
  simp only [SI.nat_eq] at h
  split at h
  · rename_i i o len cap
    split at h
    · rename_i bt cl hl
      split at h
      · rename_i l hc hrows
        have hc := Nat.le_of_ble_eq_true hc
        cases h
        obtain ⟨n, hn1, ex⟩ := hx
        obtain ⟨n', ob, hn2, hg, vs, hvs, rfl⟩ := hr.obj _ _ hl
        rw [(Pl.pin_f hn1).1] at hn2
        cases hn2
        have hlv := relL_len hvs
        obtain ⟨h1, h2⟩ := rows_ok hrows (relL_take (len * t.size) (relL_drop o hvs))
        refine ⟨len, rfl, _, h1, by rw [List.length_take, List.length_drop, hlv]; omega, h2, .inr ⟨_, _, ex, fun j u hj => ?_⟩⟩
        rw [addr_add, cell_of_row w n (o + j) _ _ _ hg]
        have := win_get rfl j u hj
        simpa using this
      · cases h
    · cases h
  · rename_i i
    split at h
    · rename_i e t' z n l hl
      split at h
      · rename_i l2 hcl
        cases h
        obtain ⟨e1, rfl⟩ := Ty.castL_eq hcl
        subst e1
        obtain ⟨hn2, hh⟩ := hr.obj _ _ hl
        obtain ⟨htv, _⟩ := hx
        rcases hh with ⟨h1, h2⟩ | ⟨g, off, cap, cur, xs, h1, h2, h3, h4, h5, h6, h7, h8, h9⟩
        · rw [h1] at htv
          cases htv
          subst h2
          exact ⟨0, hn2, Row.nil _ _ _⟩
        · rw [h2] at htv
          cases htv
          exact ⟨l.length, hn2, row_win h3 h7 h9 (j := 0) (k := l.length) (Nat.zero_le _) (Nat.le_refl _) (.inr (by simp)) (by simp) (by simp)⟩
      · cases h
    · cases h
  · rename_i i hi
    split at h
    · rename_i e t' z n l hl
      split at h
      · rename_i l2 hcl
        cases h
        obtain ⟨e1, rfl⟩ := Ty.castL_eq hcl
        subst e1
        obtain ⟨hn2, hh⟩ := hr.obj _ _ hl
        obtain ⟨h0, hx⟩ := hx
        rcases hh with ⟨h1, h2⟩ | ⟨g, off, cap, cur, xs, h1, h2, h3, h4, h5, h6, h7, h8, h9⟩
        · rcases hx with ⟨k1, k2, k3⟩ | ⟨n2, o2, len, cap, k1, _⟩
          · rw [k3, h2]
            exact ⟨0, k2, by simpa using Row.nil _ _ _⟩
          · rw [h1] at k1; cases k1
        · rcases hx with ⟨k1, k2, k3⟩ | ⟨n2, o2, len, cap, k1, k2, k3, k4⟩
          · rw [h2] at k1; cases k1
          · rw [h2] at k1
            cases k1
            rw [k4]
            exact ⟨m.v.toNat, by omega, row_win h3 h7 h9 (j := 0) (k := m.v.toNat) (Nat.zero_le _) (by omega) (.inr (by simp)) (by simp) (by simp)⟩
      · cases h
    · cases h
  · rename_i i sz lo hi
    split at h
    · rename_i e t' z n l hl
      split at h
      · rename_i l2 hsz hcl
        have hsz := Nat.eq_of_beq_eq_true hsz
        cases h
        obtain ⟨e1, rfl⟩ := Ty.castL_eq hcl
        subst e1
        obtain ⟨hn2, hh⟩ := hr.obj _ _ hl
        obtain ⟨h0, h01, hx⟩ := hx
        refine ⟨(hi.v - lo.v).toNat, by rw [SI.bin_v]; omega, ?_⟩
        rcases hh with ⟨h1, h2⟩ | ⟨g, off, cap, cur, xs, h1, h2, h3, h4, h5, h6, h7, h8, h9⟩
        · rcases hx with ⟨k1, k2, k3⟩ | ⟨n2, o2, len, cap, k1, _⟩
          · rw [k3, h2, show (hi.v - lo.v).toNat = 0 by omega]
            simpa using Row.nil _ _ _
          · rw [h1] at k1; cases k1
        · rcases hx with ⟨k1, k2, k3⟩ | ⟨n2, o2, len, cap, k1, k2, k3, k4⟩
          · rw [h2] at k1; cases k1
          · rw [h2] at k1
            cases k1
            rw [k4]
            refine row_win h3 h7 h9 (j := lo.v.toNat) (k := hi.v.toNat) (by omega) (by omega) ?_ rfl (by omega)
            by_cases hc : cap = lo.v.toNat
            · exact .inl (by omega)
            · exact .inr (by rw [if_neg hc, hsz])
      · cases h
    · cases h
  · rename_i i t' l lo
    split at h
    · rename_i l2 hcl
      cases h
      obtain ⟨e1, rfl⟩ := Ty.castL_eq hcl
      subst e1
      unfold AV.rel at hx
      refine ⟨l.length, rfl, ?_⟩
      rcases hx with ⟨a, _, rfl, rfl⟩ | ⟨n, o, len, cap, cs, ty, fz, xs, h1, h2, h3, h3a, h3b, h4, h5, h6⟩
      · exact Row.empty _ _ _ a
      · have hw := (hr.ro n _ h4).1
        rw [h2]
        cases lo with
        | none => exact row_win hw h5 (by simpa using h6) (j := 0) (k := l.length) (Nat.zero_le _) (Nat.le_refl _) (.inr (by simp)) (by simp) (by simp)
        | some lo =>
          refine row_win hw h5 h6 (j := 0) (k := l.length) (Nat.zero_le _) (Nat.le_refl _) ?_ (by simp) (by simp)
          simp only [Option.getD_some] at h3
          by_cases hc : cap = lo
          · exact .inl (by omega)
          · exact .inr (by rw [if_neg hc]; simp)
    · cases h
  · rename_i t' l
    split at h
    · rename_i l2 hcl
      cases h
      obtain ⟨e1, rfl⟩ := Ty.castL_eq hcl
      subst e1
      unfold AV.rel at hx
      refine ⟨l.length, rfl, ?_⟩
      rcases hx with ⟨a, rfl, rfl⟩ | ⟨n, o, cap, cs, ty, fz, xs, h1, _, h4, h5, h6⟩
      · exact Row.empty _ _ _ a
      · have hw := (hr.ro n _ h4).1
        rw [h1]
        exact row_win hw h5 h6 (j := 0) (k := l.length) (Nat.zero_le _) (Nat.le_refl _) (.inr (by simp)) (by simp) (by simp)
    · cases h
  · cases h
    rw [show x = _ from hx]
    exact ⟨0, rfl, Row.nil _ _ _⟩
  · cases h
theorem allR_int {ob : Nat → Option Obj} {k : IntKind} : ∀ {l : List Int} {xs : List Value}, AllR (RelT ob (.int k)) l xs → xs = l.map (Value.int k)
  | [], xs, h => h
  | n :: l, xs, h => by
    obtain ⟨u, w, hu, hw, rfl⟩ := h
    rw [show u = [.int k n] from hu, allR_int hw]
    rfl
/-- A row of bytes, as a string. -/
theorem row_str {w : World} {ob : Nat → Option Obj} {l : List Int} {k : Nat} {x : Value} (h : Row w ob (.int .u8) l k x) (s d e : TypeId) (hs : P.underlying s = some (.slice e)) (he : P.underlying e = some (.int .u8)) (hd : P.underlying d = some .string) :
    (Go.convert s d x).run P w = .ok (.string (bsOf l)) w := by
  obtain ⟨xs, hall, hxl, hll, hx⟩ := h
  have hxs := allR_int hall
  rcases hx with ⟨rfl, rfl⟩ | ⟨a, c, rfl, hcell⟩
  · have : l = [] := List.length_eq_zero_iff.1 hll
    subst this
    rw [run_convert_bytes_nil w s e hs he 0 0 d hd]
    rfl
  · rw [run_convert_bytes_string w s d e _ _ _ hs he hd]
    have hlc := run_loadCells_list (P := P) w a (l.map (Value.int .u8)) (fun j v hj => hcell j v (by rw [hxs]; exact hj))
    have hk : (l.map (Value.int .u8)).length = k := (List.length_map ..).trans hll
    rw [hk] at hlc
    rw [run_bytesToString w a k c l hlc, foldl_push_bytes]
    refine congrArg (fun b => Result.ok (Value.string b) w) ?_
    show ByteArray.mk (ByteArray.empty.data ++ _) = bsOf l
    have he0 : ByteArray.empty.data = #[] := rfl
    rw [he0, Array.empty_append]
    rfl
theorem vslice_ok {st : AS} {t : TypeId} {x : Operand} {lo hi mx : Option Operand} {k : AV → Tree} (h : (vop P st (.slice t x lo hi mx) k).den φ) : ∃ av, (k av).den φ ∧ ∀ (ρ : Pl) (a : Act) (w : World) (o : Oper), o.op = .slice t x lo hi mx → SRel ρ st.sz st.slots a.tmps → Hdrs ρ st.H → ∃ z, av.rel ρ z ∧ (execOp a.eval o).run P w = .ok (.value z) w := by
  cases mx with
  | some _ => exact h.elim
  | none =>
    simp only [vop] at h
    split at h
    · rename_i e _ hu
      split at h
      · rename_i inf hinf
        obtain ⟨av, h1, hv⟩ := ev_ok h
        obtain ⟨l, h2, hl⟩ := evO_ok h1
        obtain ⟨hh, h3, hhh⟩ := evO_ok h2
        obtain ⟨cv, h, hc⟩ := sliceV_ok h3
        refine ⟨cv, h, fun ρ a w o ho hs hr => ?_⟩
        obtain ⟨v, hvr, e1⟩ := hv ρ a hs
        obtain ⟨z, hz, hrun⟩ := hc ρ w v hr hvr
        refine ⟨z, hz, ?_⟩
        have := hrun t e inf hu hinf rfl (lo.map a.eval) (hi.map a.eval) (hl ρ a hs) (hhh ρ a hs)
        simp [execOp, ho, e1, Instr.sliceAt, run_underlying hu, this]
      · exact h.elim
    · exact h.elim
theorem vop_ok {st : AS} {op : Op} {k : AV → Tree} (h : (vop P st op k).den φ) : ∃ av, (k av).den φ ∧ Yields P st op av := by
  unfold vop at h
  split at h
  · -- move
    obtain ⟨av, h, hv⟩ := ev_ok h
    refine ⟨av, h, fun ρ a w o ho hs hh => ?_⟩
    obtain ⟨v, hr, e⟩ := hv ρ a hs
    exact ⟨v, hr, by simp [execOp, ho, e]⟩
  · -- assign
    obtain ⟨av, h, hv⟩ := ev_ok h
    refine ⟨av, h, fun ρ a w o ho hs hh => ?_⟩
    obtain ⟨v, hr, e⟩ := hv ρ a hs
    exact ⟨v, hr, by simp [execOp, ho, e]⟩
  · -- pick
    rename_i c x y
    obtain ⟨cv, h, hc⟩ := ev_ok h
    have key : ∀ (b : Bool), (∀ ρ v, cv.rel ρ v → v = .bool b) → (ev st (if b then x else y) k).den φ → ∃ av, (k av).den φ ∧ Yields P st (.pick c x y) av := by
      intro b hb h
      obtain ⟨av, h, hv⟩ := ev_ok h
      refine ⟨av, h, fun ρ a w o ho hs hh => ?_⟩
      obtain ⟨v, hr, e⟩ := hv ρ a hs
      obtain ⟨vc, hrc, ec⟩ := hc ρ a hs
      obtain rfl := hb ρ _ hrc
      refine ⟨v, hr, ?_⟩
      cases b <;> simp_all [execOp, ho, asBool]
    split at h
    · rename_i q
      rcases iteSB_den h with ⟨hq, h⟩ | ⟨hq, h⟩
      · exact key true (fun _ v hv => by rw [show v = .bool q.v from hv, hq]) h
      · exact key false (fun _ v hv => by rw [show v = .bool q.v from hv, hq]) h
    · exact h.elim
  · -- load
    rename_i t x
    obtain ⟨av, h, hv⟩ := ev_ok h
    split at h
    · rename_i i o
      obtain ⟨bv, h, hb⟩ := loadAt_ok h
      refine ⟨bv, h, fun ρ a w op ho hs hh => ?_⟩
      obtain ⟨v, ⟨n, hn, ev⟩, e⟩ := hv ρ a hs
      obtain ⟨y, m, hy, hm, hl⟩ := hb ρ _ w hh
      rw [(Pl.pin_f hn).1] at hm
      cases hm
      exact ⟨y, hy, by simp [execOp, ho, e, ev, Instr.loadAt, Instr.sureAddr, Sem.run_bind, hl]⟩
    · rename_i i sz j f
      obtain ⟨bv, h, hb⟩ := loadE_ok h
      refine ⟨bv, h, fun ρ a w op ho hs hh => ?_⟩
      obtain ⟨v, hr, e⟩ := hv ρ a hs
      obtain ⟨y, ad, hy, ev, hl⟩ := hb ρ _ w _ hh hr
      exact ⟨y, hy, by simp [execOp, ho, e, ev, Instr.loadAt, Instr.sureAddr, Sem.run_bind, hl]⟩
    · rename_i i ty l lo j f
      obtain ⟨bv, h, hb⟩ := partAt_ok h
      refine ⟨bv, h, fun ρ a w op ho hs hh => ?_⟩
      obtain ⟨v, ⟨hj, n, o, len, cap, cs, bt, fz, xs, h1, ev, h3, h4, h5⟩, e⟩ := hv ρ a hs
      obtain ⟨hw, _⟩ := hh.ro n _ h3
      obtain ⟨u, hu, hul, hget⟩ := elem_get h4 h5 hj
      obtain ⟨y, hy, _, hld⟩ := hb ρ u w (relT_avs _ _ _ hu)
      have hl := hld n (o + (lo + j) * ty.size) bt fz _ hw (fun i x hi => by
        have := hget i x hi
        rw [show o + (lo + j) * ty.size + i = o + lo * ty.size + j * ty.size + i from by rw [Nat.add_mul]; omega]
        simpa using this)
      exact ⟨y, hy, by simp [execOp, ho, e, ev, Instr.loadAt, Instr.sureAddr, Sem.run_bind, hl]⟩
    · rename_i ty l j f
      obtain ⟨bv, h, hb⟩ := partAt_ok h
      refine ⟨bv, h, fun ρ a w op ho hs hh => ?_⟩
      obtain ⟨v, ⟨hj, n, o, cs, bt, fz, xs, ev, h3, h4, h5⟩, e⟩ := hv ρ a hs
      obtain ⟨hw, _⟩ := hh.ro n _ h3
      obtain ⟨u, hu, hul, hget⟩ := elem_get h4 h5 hj
      obtain ⟨y, hy, _, hld⟩ := hb ρ u w (relT_avs _ _ _ hu)
      have hl := hld n (o + j * ty.size) bt fz _ hw (fun i x hi => by simpa using hget i x hi)
      exact ⟨y, hy, by simp [execOp, ho, e, ev, Instr.loadAt, Instr.sureAddr, Sem.run_bind, hl]⟩
    · exact h.elim
  · -- nilCheck
    rename_i x
    obtain ⟨av, h, hv⟩ := ev_ok h
    split at h
    · refine ⟨_, h, fun ρ a w op ho hs hh => ?_⟩
      obtain ⟨v, hr, e⟩ := hv ρ a hs
      obtain ⟨n, hn, ev⟩ := hr
      exact ⟨v, ⟨n, hn, ev⟩, by simp [execOp, ho, e, ev]⟩
    · refine ⟨_, h, fun ρ a w op ho hs hh => ?_⟩
      obtain ⟨v, hr, e⟩ := hv ρ a hs
      have hr' := hr
      obtain ⟨xs, ys, hx, hy, ev⟩ := hr'
      exact ⟨v, hr, by simp [execOp, ho, e, ev]⟩
    · refine ⟨_, h, fun ρ a w op ho hs hh => ?_⟩
      obtain ⟨v, hr, e⟩ := hv ρ a hs
      have hr' := hr
      obtain ⟨n, hn, ev⟩ := hr'
      exact ⟨v, hr, by simp [execOp, ho, e, ev]⟩
    · refine ⟨_, h, fun ρ a w op ho hs hh => ?_⟩
      obtain ⟨v, hr, e⟩ := hv ρ a hs
      have hr' := hr
      obtain ⟨n, hn, ev⟩ := hr'
      exact ⟨v, hr, by simp [execOp, ho, e, ev]⟩
    · refine ⟨_, h, fun ρ a w o ho hs hh => ?_⟩
      obtain ⟨v, hr, e⟩ := hv ρ a hs
      have hr' := hr
      obtain ⟨n, o, len, cap, _, _, ev⟩ := hr'
      exact ⟨v, hr, by simp [execOp, ho, e, ev]⟩
    · refine ⟨_, h, fun ρ a w o ho hs hh => ?_⟩
      obtain ⟨v, hr, e⟩ := hv ρ a hs
      have hr' := hr
      obtain ⟨_, n, o, len, cap, cs, bt, fz, xs, _, ev, _⟩ := hr'
      exact ⟨v, hr, by simp [execOp, ho, e, ev]⟩
    · refine ⟨_, h, fun ρ a w op ho hs hh => ?_⟩
      obtain ⟨v, hr, e⟩ := hv ρ a hs
      have hr' := hr
      obtain ⟨_, n, o, cs, bt, fz, xs, ev, _⟩ := hr'
      exact ⟨v, hr, by simp [execOp, ho, e, ev]⟩
    · exact h.elim
  · -- binOp
    rename_i op t x y yt
    split at h
    · rename_i x' q hn
      obtain ⟨av, h, hv⟩ := ev_ok h
      split at h
      · rename_i b hb
        refine ⟨_, h, fun ρ a w o ho hs hh => ?_⟩
        obtain ⟨v, hr, e⟩ := hv ρ a hs
        obtain ⟨ad, len, cap, ev, en⟩ := nilK_ok hb hh hr
        rw [ev] at e
        refine ⟨_, rfl, ?_⟩
        rw [nilOp_ok hn a w o ad len cap ho e, en]
        rfl
      · exact h.elim
    · obtain ⟨av, h1, hv⟩ := ev_ok h
      obtain ⟨bv, h2, hb⟩ := ev_ok h1
      obtain ⟨cv, h, hc⟩ := binop_ok h2
      refine ⟨cv, h, fun ρ a w o ho hs hh => ?_⟩
      obtain ⟨v, hr, e⟩ := hv ρ a hs
      obtain ⟨u, hu, e2⟩ := hb ρ a hs
      obtain ⟨z, hz, hg, hz2⟩ := hc ρ x y v u w hr hu
      exact ⟨z, hz, by simp [execOp, ho, e, e2, Sem.run_bind, hg, hz2]⟩
  · -- slice
    rename_i t x lo hi mx
    cases mx with
    | some _ => exact h.elim
    | none =>
    split at h
    · rename_i e _ hu
      split at h
      · rename_i inf hinf
        obtain ⟨av, h1, hv⟩ := ev_ok h
        obtain ⟨l, h2, hl⟩ := evO_ok h1
        obtain ⟨hh, h3, hhh⟩ := evO_ok h2
        obtain ⟨cv, h, hc⟩ := sliceV_ok h3
        refine ⟨cv, h, fun ρ a w o ho hs hr => ?_⟩
        obtain ⟨v, hvr, e1⟩ := hv ρ a hs
        obtain ⟨z, hz, hrun⟩ := hc ρ w v hr.hdrs hvr
        refine ⟨z, hz, ?_⟩
        have := hrun t e inf hu hinf rfl (lo.map a.eval) (hi.map a.eval) (hl ρ a hs) (hhh ρ a hs)
        simp [execOp, ho, e1, Instr.sliceAt, run_underlying hu, this]
      · exact h.elim
    · exact h.elim
  · -- unOp
    rename_i op t x
    obtain ⟨av, h, hv⟩ := ev_ok h
    split at h
    · refine ⟨_, h, fun ρ a w o ho hs hh => ?_⟩
      obtain ⟨v, hr, e⟩ := hv ρ a hs
      rw [show v = _ from hr] at e
      exact ⟨_, rfl, by simp [execOp, ho, e, Op.unary, Op.intArith, SI.bin_v, wr_eq]; simp [SI.v]⟩
    · refine ⟨_, h, fun ρ a w o ho hs hh => ?_⟩
      obtain ⟨v, hr, e⟩ := hv ρ a hs
      rw [show v = _ from hr] at e
      exact ⟨_, rfl, by simp [execOp, ho, e, Op.unary, SB.not_v]⟩
    · exact h.elim
  · -- convert
    rename_i s d x
    obtain ⟨av, h, hv⟩ := ev_ok h
    split at h
    · rename_i ks kd ki n hs0 hd0
      refine ⟨_, h, fun ρ a w o ho hs hh => ?_⟩
      obtain ⟨v, hr, e⟩ := hv ρ a hs
      rw [show v = _ from hr] at e
      exact ⟨_, rfl, by simp [execOp, ho, e, Go.convert, run_underlying hs0, run_underlying hd0, Conv.intToInt, SI.bin_v, wr_eq]⟩
    · rename_i e0 hs0 hd0
      split at h
      · rename_i m l he0 hl
        refine ⟨_, h, fun ρ a w o ho hs hh => ?_⟩
        obtain ⟨v, hr, e⟩ := hv ρ a hs
        obtain ⟨k, hk, hrow⟩ := newsOf_ok hl hh hr
        refine ⟨_, rfl, ?_⟩
        have hcv := row_str (P := P) hrow s d e0 hs0 he0 hd0
        simp [execOp, ho, e, hcv]
      · exact h.elim
    · exact h.elim
  · -- makeInterface
    rename_i t x
    obtain ⟨av, h, hv⟩ := ev_ok h
    split at h
    · exact h.elim
    · rename_i d hni hd
      refine ⟨_, h, fun ρ a w o ho hs hh => ?_⟩
      obtain ⟨v, hr, e⟩ := hv ρ a hs
      have hc : P.concrete t = true := by
        unfold Program.concrete
        rw [hd]
        cases d <;> first | rfl | exact absurd rfl (hni _ )
      exact ⟨_, ⟨v, hr, rfl⟩, by simp [execOp, ho, e, run_makeInterface w t v hc]⟩
    · exact h.elim
  · -- makeFunc
    rename_i f x y
    obtain ⟨xs, h, hx⟩ := evL_ok h
    obtain ⟨ys, h, hy⟩ := evL_ok h
    refine ⟨_, h, fun ρ a w o ho hs hh => ?_⟩
    have h1 := hx ρ a hs
    have h2 := hy ρ a hs
    exact ⟨_, ⟨_, _, h1, h2, rfl⟩, by simp [execOp, ho, Instr.makeFunc, ← relL_map h1, ← relL_map h2]⟩
  · -- fieldAddr
    rename_i t x f
    obtain ⟨av, h, hv⟩ := ev_ok h
    split at h
    · rename_i fd hfd
      split at h
      · rename_i inf hinf
        split at h
        · exact h.elim
        · rename_i hz
          have hz' : ¬ inf.size = 0 := by
            intro e
            rw [e] at hz
            cases hz
          unfold fieldOf at hfd
          split at hfd
          · rename_i fs hu
            rw [nth_eq] at hfd
            have hfd' : fs[f]? = some fd := by simpa using hfd
            split at h
            · rename_i i o
              refine ⟨_, h, fun ρ a w op ho hs hh => ?_⟩
              obtain ⟨v, hr, e⟩ := hv ρ a hs
              obtain ⟨n, hn, ev⟩ := hr
              refine ⟨_, ⟨n, hn, rfl⟩, ?_⟩
              simp [execOp, ho, e, ev, Instr.fieldAt, run_underlying hu, hfd', Instr.sureAddr, fieldPlace, run_sizeOf hinf, hz', addr_add]
            · rename_i i sz j f0
              refine ⟨_, h, fun ρ a w op ho hs hh => ?_⟩
              obtain ⟨v, hr, e⟩ := hv ρ a hs
              obtain ⟨n, o, len, cap, h1, h2, ev⟩ := hr
              refine ⟨_, ⟨n, o, len, cap, h1, h2, rfl⟩, ?_⟩
              simp [execOp, ho, e, ev, Instr.fieldAt, run_underlying hu, hfd', Instr.sureAddr, fieldPlace, run_sizeOf hinf, hz', addr_add, Nat.add_assoc]
            · rename_i i ty l lo j f0
              refine ⟨_, h, fun ρ a w op ho hs hh => ?_⟩
              obtain ⟨v, hr, e⟩ := hv ρ a hs
              obtain ⟨h0, n, o, len, cap, cs, bt, fz, xs, h1, ev, h2⟩ := hr
              refine ⟨_, ⟨h0, n, o, len, cap, cs, bt, fz, xs, h1, rfl, h2⟩, ?_⟩
              simp [execOp, ho, e, ev, Instr.fieldAt, run_underlying hu, hfd', Instr.sureAddr, fieldPlace, run_sizeOf hinf, hz', addr_add, Nat.add_assoc]
            · rename_i ty l j f0
              refine ⟨_, h, fun ρ a w op ho hs hh => ?_⟩
              obtain ⟨v, hr, e⟩ := hv ρ a hs
              obtain ⟨h0, n, o, cs, bt, fz, xs, ev, h2⟩ := hr
              refine ⟨_, ⟨h0, n, o, cs, bt, fz, xs, rfl, h2⟩, ?_⟩
              simp [execOp, ho, e, ev, Instr.fieldAt, run_underlying hu, hfd', Instr.sureAddr, fieldPlace, run_sizeOf hinf, hz', addr_add, Nat.add_assoc]
            · exact h.elim
          · cases hfd
      · exact h.elim
    · exact h.elim
  · -- field
    rename_i t x f
    obtain ⟨av, h, hv⟩ := ev_ok h
    split at h
    · rename_i l
      split at h
      · rename_i fd hfd
        obtain ⟨bv, h, hb⟩ := partOf_ok h
        refine ⟨bv, h, fun ρ a w op ho hs hh => ?_⟩
        obtain ⟨v, hr, e⟩ := hv ρ a hs
        obtain ⟨vs, hvs, ev⟩ := hr
        obtain ⟨y, hy, hp, _⟩ := hb ρ vs w hvs
        unfold fieldOf at hfd
        split at hfd
        · rename_i fs hu
          rw [nth_eq] at hfd
          have hfd' : fs[f]? = some fd := by simpa using hfd
          exact ⟨y, hy, by simp [execOp, ho, e, ev, Instr.field, run_underlying hu, hfd', asAgg, hp]⟩
        · cases hfd
      · exact h.elim
    · exact h.elim
  · -- indexAddr
    rename_i t x ix
    obtain ⟨av, h1, hv⟩ := ev_ok h
    obtain ⟨iv, h2, hi⟩ := ev_ok h1
    clear h h1
    have h := h2
    clear h2
    split at h
    · rename_i kd n
      rw [forceSI_eq] at h
      simp only [SI.nat_eq] at h
      split at h
      · rename_i e i t l lo hu
        split at h
        · rename_i inf hinf
          split at h
          · rename_i hsz
            have hsz := Nat.eq_of_beq_eq_true hsz
            rcases iteSB_den h with ⟨hb, h⟩ | ⟨_, h⟩
            · rw [inB_v] at hb
              have hb : 0 ≤ n.v ∧ n.v < l.length := of_decide_eq_true hb
              refine ⟨_, h, fun ρ a w op ho hs hh => ?_⟩
              obtain ⟨v, hlr, e1⟩ := hv ρ a hs
              obtain ⟨u, hr, e2⟩ := hi ρ a hs
              obtain ⟨j, hj⟩ : ∃ j : Nat, n.v = (j : Int) := ⟨n.v.toNat, by omega⟩
              have hlt : j < l.length := by omega
              rw [show u = _ from hr, hj] at e2
              rw [hj, Int.toNat_natCast]
              unfold AV.rel at hlr
              rcases hlr with ⟨_, _, e3, _⟩ | ⟨m, o, len, cap, cs, ty, fz, xs, h1, ev, h3, h3a, h3b, h4, h5, h6⟩
              · rw [e3] at hlt; simp at hlt
              · have h5' : ¬ l.length ≤ j := by omega
                cases lo with
                | none =>
                  refine ⟨_, ⟨hlt, m, o, len, cap, cs, ty, fz, xs, h1, rfl, h4, h5, h6⟩, ?_⟩
                  simp [execOp, ho, e1, e2, ev, subV, Instr.indexAt, asIntOf, run_underlying hu, run_sizeOf hinf, addr_add, h5', hsz]
                | some lo =>
                  refine ⟨_, ⟨hlt, m, o, len, cap, cs, ty, fz, xs, h1, rfl, h4, h5, h6⟩, ?_⟩
                  have hne : ¬ cap = lo := by simp only [Option.getD_some] at h3; omega
                  simp [execOp, ho, e1, e2, ev, subV, Instr.indexAt, asIntOf, run_underlying hu, run_sizeOf hinf, addr_add, h5', hsz, hne, Nat.add_mul, Nat.add_assoc]
            · exact h.elim
          · exact h.elim
        · exact h.elim
      · rename_i e t l hu
        split at h
        · rename_i inf hinf
          split at h
          · rename_i hsz
            have hsz := Nat.eq_of_beq_eq_true hsz
            rcases iteSB_den h with ⟨hb, h⟩ | ⟨_, h⟩
            · rw [inB_v] at hb
              have hb : 0 ≤ n.v ∧ n.v < l.length := of_decide_eq_true hb
              refine ⟨_, h, fun ρ a w op ho hs hh => ?_⟩
              obtain ⟨v, hlr, e1⟩ := hv ρ a hs
              obtain ⟨u, hr, e2⟩ := hi ρ a hs
              obtain ⟨j, hj⟩ : ∃ j : Nat, n.v = (j : Int) := ⟨n.v.toNat, by omega⟩
              have hlt : j < l.length := by omega
              rw [show u = _ from hr, hj] at e2
              rw [hj, Int.toNat_natCast]
              unfold AV.rel at hlr
              rcases hlr with ⟨_, _, e3⟩ | ⟨m, o, cap, cs, ty, fz, xs, ev, h0, h4, h5, h6⟩
              · rw [e3] at hlt; simp at hlt
              · have h5' : ¬ l.length ≤ j := by omega
                refine ⟨_, ⟨hlt, m, o, cs, ty, fz, xs, rfl, h4, h5, h6⟩, ?_⟩
                simp [execOp, ho, e1, e2, ev, Instr.indexAt, asIntOf, run_underlying hu, run_sizeOf hinf, addr_add, h5', hsz]
            · exact h.elim
          · exact h.elim
        · exact h.elim
      · rename_i e i hu
        split at h
        · rename_i inf e' ty z len l2 hinf hl
          split at h
          · rename_i hc
            have hsz := Nat.eq_of_beq_eq_true hc
            rcases iteSB_den h with ⟨hb, h⟩ | ⟨_, h⟩
            · rw [inB_v] at hb
              have hb := of_decide_eq_true hb
              refine ⟨_, h, fun ρ a w op ho hs hh => ?_⟩
              obtain ⟨v, ⟨htv, _⟩, e1⟩ := hv ρ a hs
              obtain ⟨u, hr, e2⟩ := hi ρ a hs
              obtain ⟨j, hj⟩ : ∃ j : Nat, n.v = (j : Int) := ⟨n.v.toNat, by omega⟩
              rw [show u = _ from hr, hj] at e2
              rw [hj, Int.toNat_natCast]
              obtain ⟨hn2, hq⟩ := hh.obj _ _ hl
              have hlt : j < l2.length := by omega
              rcases hq with ⟨h1, h2⟩ | ⟨g, off, cap', cur, xs, h1, h2, _⟩
              · rw [h2] at hlt; simp at hlt
              · rw [htv] at h2
                cases h2
                refine ⟨_, ⟨_, _, _, _, htv, hlt, rfl⟩, ?_⟩
                have h1 : ¬ l2.length ≤ j := by omega
                simp [execOp, ho, e1, e2, Instr.indexAt, asIntOf, run_underlying hu, run_sizeOf hinf, addr_add, h1, hsz]
            · exact h.elim
          · exact h.elim
        · exact h.elim
      · rename_i e i nhi hu
        split at h
        · rename_i inf hinf
          rcases iteSB_den h with ⟨hb, h⟩ | ⟨_, h⟩
          · rw [inB_v] at hb
            have hb := of_decide_eq_true hb
            refine ⟨_, h, fun ρ a w op ho hs hh => ?_⟩
            obtain ⟨v, hpr, e1⟩ := hv ρ a hs
            obtain ⟨u, hr, e2⟩ := hi ρ a hs
            obtain ⟨j, hj⟩ : ∃ j : Nat, n.v = (j : Int) := ⟨n.v.toNat, by omega⟩
            rw [show u = _ from hr, hj] at e2
            rw [hj, Int.toNat_natCast]
            unfold AV.rel at hpr
            rcases hpr with ⟨h0, ⟨_, h1, _⟩ | ⟨m, o, len, cap, h1, h2, h3, ev⟩⟩
            · omega
            · refine ⟨_, ⟨m, o, len, cap, h1, by omega, rfl⟩, ?_⟩
              have h1 : ¬ nhi.v.toNat ≤ j := by omega
              have h1' : ¬ nhi.v ≤ (j : Int) := by omega
              simp [execOp, ho, e1, e2, ev, Instr.indexAt, asIntOf, run_underlying hu, run_sizeOf hinf, addr_add, h1, h1']
          · exact h.elim
        · exact h.elim
      · rename_i e i sz nlo nhi hu
        split at h
        · rename_i inf hinf
          split at h
          · rename_i hc
            have hsz := Nat.eq_of_beq_eq_true hc
            rcases iteSB_den h with ⟨hb, h⟩ | ⟨_, h⟩
            · rw [inB_v, SI.bin_v] at hb
              have hb := of_decide_eq_true hb
              refine ⟨_, h, fun ρ a w op ho hs hh => ?_⟩
              obtain ⟨v, hpr, e1⟩ := hv ρ a hs
              obtain ⟨u, hr, e2⟩ := hi ρ a hs
              obtain ⟨j, hj⟩ : ∃ j : Nat, n.v = (j : Int) := ⟨n.v.toNat, by omega⟩
              rw [show u = _ from hr, hj] at e2
              rw [hj, Int.toNat_natCast]
              unfold AV.rel at hpr
              rcases hpr with ⟨h0, h00, ⟨_, h1, _⟩ | ⟨m, o, len, cap, h1, h2, h3, ev⟩⟩
              · omega
              · refine ⟨_, ⟨m, o, len, cap, h1, by omega, rfl⟩, ?_⟩
                have h1 : ¬ (nhi.v - nlo.v).toNat ≤ j := by omega
                have h1' : ¬ nhi.v - nlo.v ≤ (j : Int) := by omega
                have h1'' : ¬ nhi.v ≤ (j : Int) + nlo.v := by omega
                have hne : ¬ cap = nlo.v.toNat := by omega
                simp [execOp, ho, e1, e2, ev, subV, Instr.indexAt, asIntOf, run_underlying hu, run_sizeOf hinf, addr_add, h1, h1', h1'', hsz, hne, Nat.add_mul, Nat.add_assoc]
            · exact h.elim
          · exact h.elim
        · exact h.elim
      · rename_i len e i o hu
        split at h
        · rename_i inf hinf
          obtain ⟨j, hj, hje, h⟩ := byIndex_ok h
          refine ⟨_, h, fun ρ a w op ho hs hh => ?_⟩
          obtain ⟨v, ⟨m, hm, ev⟩, e1⟩ := hv ρ a hs
          obtain ⟨u, hr, e2⟩ := hi ρ a hs
          rw [show u = _ from hr, hje] at e2
          refine ⟨_, ⟨m, hm, rfl⟩, ?_⟩
          have h1 : ¬ len ≤ j := by omega
          simp [execOp, ho, e1, e2, ev, Instr.indexAt, asIntOf, run_underlying hu, Instr.sureAddr, run_sizeOf hinf, addr_add, h1]
        · exact h.elim
      · rename_i e i o len cap hu
        split at h
        · rename_i inf hinf
          obtain ⟨j, hj, hje, h⟩ := byIndex_ok h
          refine ⟨_, h, fun ρ a w op ho hs hh => ?_⟩
          obtain ⟨v, ⟨m, hm, ev⟩, e1⟩ := hv ρ a hs
          obtain ⟨u, hr, e2⟩ := hi ρ a hs
          rw [show u = _ from hr, hje] at e2
          refine ⟨_, ⟨m, hm, rfl⟩, ?_⟩
          have h1 : ¬ len ≤ j := by omega
          simp [execOp, ho, e1, e2, ev, Instr.indexAt, asIntOf, run_underlying hu, run_sizeOf hinf, addr_add, h1]
        · exact h.elim
      · exact h.elim
    · exact h.elim
  · -- index
    rename_i t x ix
    obtain ⟨av, h1, hv⟩ := ev_ok h
    obtain ⟨iv, h2, hi⟩ := ev_ok h1
    clear h h1
    have h := h2
    clear h2
    split at h
    · rename_i kd n l
      split at h
      · rename_i len e hu
        split at h
        · rename_i inf hinf
          obtain ⟨j, hj, hje, h⟩ := byIndex_ok h
          obtain ⟨bv, h, hb⟩ := partOf_ok h
          refine ⟨bv, h, fun ρ a w op ho hs hh => ?_⟩
          obtain ⟨v, ⟨vs, hvs, ev⟩, e1⟩ := hv ρ a hs
          obtain ⟨u, hr, e2⟩ := hi ρ a hs
          rw [show u = _ from hr, hje] at e2
          obtain ⟨y, hy, hp, _⟩ := hb ρ vs w hvs
          have h1 : ¬ len ≤ j := by omega
          exact ⟨y, hy, by simp [execOp, ho, e1, e2, ev, Instr.index, asIntOf, run_underlying hu, run_sizeOf hinf, h1, hp]⟩
        · exact h.elim
      · exact h.elim
    · exact h.elim
  · -- extract
    rename_i x i
    obtain ⟨av, h, hv⟩ := ev_ok h
    split at h
    · rename_i l
      split at h
      · rename_i bv hb
        refine ⟨_, h, fun ρ a w op ho hs hh => ?_⟩
        obtain ⟨v, ⟨vs, hvs, ev⟩, e1⟩ := hv ρ a hs
        obtain ⟨y, hy, hr⟩ := relL_nth i hvs hb
        exact ⟨y, hr, by simp [execOp, ho, e1, ev, Instr.extract, hy]⟩
      · exact h.elim
    · exact h.elim
  · -- build
    rename_i t ps
    obtain ⟨l, h, hl⟩ := evP_ok h
    split at h
    · rename_i z fs hz hu
      split at h
      · rename_i pl hpl
        split at h
        · rename_i cs hcs
          refine ⟨_, h, fun ρ a w op ho hs hh => ?_⟩
          obtain ⟨zv, hzr, hzv⟩ := zeroOf_ok hz ρ w
          obtain ⟨h1, h2⟩ := hl ρ a hs
          obtain ⟨ys, hy, hyr⟩ := fillG_ok (vs := ps.toList.map fun p => (p.1, a.eval p.2)) hcs (by simpa [List.map_map, Function.comp_def] using h1) (by simpa [List.map_map, Function.comp_def] using h2) (cellsOf_rel hzr)
          have hplaces : ∀ (fs : List Field) (pl : List (Nat × Nat)), placesOf P fs = some pl → (List.mapM (fun f => do pure (f.offset, ← sizeOf f.type) : Field → Sem (Nat × Nat)) fs).run P w = .ok pl w := by
            intro fs
            induction fs with
            | nil => intro pl h; cases h; rfl
            | cons f fs ih =>
              intro pl h
              unfold placesOf at h
              split at h
              · rename_i i l hi hl
                cases h
                rw [List.mapM_cons]
                simp only [Sem.run_bind, run_sizeOf hi, Result.andThen_ok, Sem.run_pure]
                have ih' := ih l hl
                rw [ih']
                rfl
              · cases h
          refine ⟨.agg ys, ⟨ys.toList, hyr, by simp⟩, ?_⟩
          have hm := hplaces _ _ hpl
          have hfun : (fun (x : Nat) => pl.toArray[x]?) = nth pl := by
            funext x
            rw [nth_eq]
            simp
          simp only [execOp, ho, Instr.build, Sem.run_bind, hzv, Result.andThen_ok, run_underlying hu, Array.mapM_eq_mapM_toList, Sem.run_map, hm]
          simp only [Array.toList_map]
          rw [hfun]
          have e1 : zv.cells.toList.toArray = zv.cells := by simp
          rw [e1] at hy
          rw [hy]
          rfl
        · exact h.elim
      · exact h.elim
    · rename_i z n e hz hu
      split at h
      · rename_i inf hinf
        split at h
        · rename_i cs hcs
          refine ⟨_, h, fun ρ a w op ho hs hh => ?_⟩
          obtain ⟨zv, hzr, hzv⟩ := zeroOf_ok hz ρ w
          obtain ⟨h1, h2⟩ := hl ρ a hs
          obtain ⟨ys, hy, hyr⟩ := fillG_ok (vs := ps.toList.map fun p => (p.1, a.eval p.2)) hcs (by simpa [List.map_map, Function.comp_def] using h1) (by simpa [List.map_map, Function.comp_def] using h2) (cellsOf_rel hzr)
          refine ⟨.agg ys, ⟨ys.toList, hyr, by simp⟩, ?_⟩
          simp only [execOp, ho, Instr.build, Sem.run_bind, hzv, Result.andThen_ok, run_underlying hu, run_sizeOf hinf]
          simp only [Array.toList_map]
          have e1 : zv.cells.toList.toArray = zv.cells := by simp
          rw [e1] at hy
          rw [hy]
          rfl
        · exact h.elim
      · exact h.elim
    · exact h.elim
  · -- typeAssert
    rename_i x xt asserted ok
    obtain ⟨av, h0, hv⟩ := ev_ok h
    clear h
    have h := h0
    clear h0
    split at h
    · rename_i t bv
      split at h
      · exact h.elim
      · rename_i d hni hd
        split at h
        · have hta : t = asserted := of_decide_eq_true (by assumption)
          subst hta
          refine ⟨_, h, fun ρ a w op ho hs hh => ?_⟩
          obtain ⟨v, ⟨y, hy, ev⟩, e1⟩ := hv ρ a hs
          refine ⟨_, ⟨_, ⟨y, _, hy, ⟨_, [], rfl, rfl, rfl⟩, rfl⟩, rfl⟩, ?_⟩
          cases d <;> first | exact absurd rfl (hni _) | simp [execOp, ho, e1, ev, Instr.typeAssert, run_underlying hd, SB.v]
        · have hta : t = asserted := of_decide_eq_true (by assumption)
          subst hta
          refine ⟨_, h, fun ρ a w op ho hs hh => ?_⟩
          obtain ⟨v, ⟨y, hy, ev⟩, e1⟩ := hv ρ a hs
          refine ⟨y, hy, ?_⟩
          cases d <;> first | exact absurd rfl (hni _) | simp [execOp, ho, e1, ev, Instr.typeAssert, run_underlying hd]
        · exact h.elim
      · exact h.elim
    · exact h.elim
  · -- call
    rename_i c
    split at h
    · rename_i b hcal
      obtain ⟨xs, h, hx⟩ := evL_ok h
      split at h
      · obtain ⟨av, h, hb⟩ := lenV_ok h
        refine ⟨av, h, fun ρ a w o ho hs hh => ?_⟩
        obtain ⟨v, hr, hrun⟩ := hb ρ _ o.type (c.args.map fun | .const _ => true | _ => false) w _ (hx ρ a hs) hh
        refine ⟨v, hr, ?_⟩
        rw [← relL_map (hx ρ a hs)] at hrun
        simp only [execOp, ho, resolve, hcal, Sem.run_bind, Sem.run_pure, Result.andThen_ok, invoke]
        exact hrun
      · obtain ⟨av, h, hb⟩ := builtin_ok h
        refine ⟨av, h, fun ρ a w o ho hs hh => ?_⟩
        obtain ⟨v, hr, hrun⟩ := hb ρ o.type (c.args.map fun | .const _ => true | _ => false) w _ (hx ρ a hs)
        refine ⟨v, hr, ?_⟩
        rw [← relL_map (hx ρ a hs)] at hrun
        simp only [execOp, ho, resolve, hcal, Sem.run_bind, Sem.run_pure, Result.andThen_ok, invoke]
        exact hrun
    · exact h.elim
  · exact h.elim
end Go.Proofs.Ytaoplfmaiclfkaa.SX
