/- A symbolic walk, part six: operations that make memory, or write it. -/
import Derived.Test.YtlekjgjhbanimaaSXe
import Derived.Laws.AppendOwn
namespace Go.Proofs.Ytlekjgjhbanimaa.SX
set_option linter.unusedVariables false
set_option linter.unusedSimpArgs false
open Go
variable {P : Program} {φ : AV → Heap → Nat → Prop}
/-- What a walk leaves alone: all that it does not hold. -/
structure Inv (w0 : World) (m0 : Nat → Prop) (ρ : Pl) (w : World) : Prop where
  os : w.os = w0.os
  tape : w.tape = w0.tape
  output : w.output = w0.output
  size : w0.heap.size ≤ w.heap.size
  keep : ∀ k : Nat, k < w0.heap.size → ¬ m0 k → w.heap[k]? = w0.heap[k]?
  fresh : ∀ (i n : Nat), ρ i = some n → m0 n ∨ w0.heap.size ≤ n
theorem Inv.not_old {w0 w : World} {m0 : Nat → Prop} {ρ : Pl} (h : Inv w0 m0 ρ w) {i n k : Nat} (hi : ρ i = some n) (hk : k < w0.heap.size) (hm : ¬ m0 k) : k ≠ n := by
  rintro rfl
  rcases h.fresh i k hi with h | h
  · exact hm h
  · omega
/-- A block that is held is written. -/
theorem held_set {w0 w w' : World} {m0 : Nat → Prop} {ρ : Pl} {H : Heap} {hn i n : Nat} {b : AB} {o' : Obj} (hr : HRel ρ H hn w) (hv : Inv w0 m0 ρ w) (hi : ρ i = some n) (h1 : w'.heap[n]? = some o') (h2 : ∀ k, k ≠ n → w'.heap[k]? = w.heap[k]?)
    (h3 : w'.heap.size = w.heap.size) (h4 : w'.os = w.os) (h5 : w'.tape = w.tape) (h6 : w'.output = w.output) (hb : b.rel ρ o') : HRel ρ ((i, b) :: H) hn w' ∧ Inv w0 m0 ρ w' := by
  refine ⟨⟨hr.len, hr.inj, fun j m hj => by rw [h3]; exact hr.lt j m hj, fun m o hm => ⟨by rw [h2 m (fun e => (hr.ro m o hm).2 i (by rw [e]; exact hi))]; exact (hr.ro m o hm).1, (hr.ro m o hm).2⟩, fun j c hj => ?_⟩, ⟨h4.trans hv.os, h5.trans hv.tape, h6.trans hv.output, by rw [h3]; exact hv.size, fun k hk hm => by rw [h2 k (hv.not_old hi hk hm)]; exact hv.keep k hk hm, hv.fresh⟩⟩
  rw [look_cons] at hj
  by_cases e : i = j
  · subst e
    rw [if_pos rfl] at hj
    cases hj
    exact ⟨n, o', hi, h1, hb⟩
  · rw [if_neg e] at hj
    obtain ⟨m, o, hm, ho, hc⟩ := hr.obj j c hj
    refine ⟨m, o, hm, ?_, hc⟩
    rw [h2 m (fun e2 => e (hr.inj i j n hi (by rw [← e2]; exact hm)))]
    exact ho
/-- A block is made. -/
theorem held_new {w0 w w' : World} {m0 : Nat → Prop} {ρ : Pl} {H : Heap} {hn : Nat} {b : AB} {o : Obj} (hr : HRel ρ H hn w) (hv : Inv w0 m0 ρ w) (h1 : w'.heap = w.heap.push o) (h4 : w'.os = w.os) (h5 : w'.tape = w.tape) (h6 : w'.output = w.output)
    (hb : b.rel (ρ.put hn w.heap.size) o) : HRel (ρ.put hn w.heap.size) ((hn, b) :: H) (hn + 1) w' ∧ Inv w0 m0 (ρ.put hn w.heap.size) w' := by
  have hsz : w'.heap.size = w.heap.size + 1 := by rw [h1]; simp
  have hold : ∀ k : Nat, k < w.heap.size → w'.heap[k]? = w.heap[k]? := fun k hk => by rw [h1, Array.getElem?_push, if_neg (by omega)]
  have hnew : w'.heap[w.heap.size]? = some o := by rw [h1]; simp
  have hnone : ρ.top = hn := hr.len
  have hat : ρ.put hn w.heap.size hn = some w.heap.size := Pl.at _ _ _
  have hcase : ∀ (j m : Nat), ρ.put hn w.heap.size j = some m → ρ j = some m ∨ (j = hn ∧ m = w.heap.size) := by
    intro j m hj
    by_cases e : j = hn
    · subst e
      rw [hat] at hj
      cases hj
      exact .inr ⟨rfl, rfl⟩
    · rw [Pl.off _ _ e] at hj
      exact .inl hj
  refine ⟨⟨by show max ρ.top (hn + 1) = hn + 1; omega, ?_, ?_, fun m o' hm => ?_, ?_⟩, ?_⟩
  · intro i j n h1 h2
    rcases hcase i n h1 with h1 | ⟨h1, e1⟩ <;> rcases hcase j n h2 with h2 | ⟨h2, e2⟩
    · exact hr.inj i j n h1 h2
    · have := hr.lt i n h1; omega
    · have := hr.lt j n h2; omega
    · omega
  · intro i n hi
    rcases hcase i n hi with hi | ⟨_, e⟩
    · have := hr.lt i n hi; omega
    · omega
  · have hm : ρ.ro.obj m = some o' := hm
    obtain ⟨g1, g2⟩ := hr.ro m o' hm
    have hlt : m < w.heap.size := (Array.getElem?_eq_some_iff.1 g1).1
    refine ⟨by rw [hold m hlt]; exact g1, fun j hj => ?_⟩
    rcases hcase j m hj with hj | ⟨_, e⟩
    · exact g2 j hj
    · omega
  · intro j c hj
    rw [look_cons] at hj
    by_cases e : hn = j
    · subst e
      rw [if_pos rfl] at hj
      cases hj
      exact ⟨_, o, hat, hnew, hb⟩
    · rw [if_neg e] at hj
      obtain ⟨m, o', hm, ho, hc⟩ := hr.obj j c hj
      exact ⟨m, o', by rw [Pl.off _ _ (fun e2 => e e2.symm)]; exact hm, by rw [hold m (hr.lt j m hm)]; exact ho, AB.rel_mono (Ext.snoc _ hnone) (fun i n hi hlt _ => by rw [Pl.off _ _ (by omega)]; exact hi) hc⟩
  · refine ⟨h4.trans hv.os, h5.trans hv.tape, h6.trans hv.output, by have := hv.size; omega, fun k hk hm => by rw [hold k (by have := hv.size; omega)]; exact hv.keep k hk hm, fun i n hn' => ?_⟩
    rcases hcase i n hn' with h | ⟨_, e⟩
    · exact hv.fresh i n h
    · rw [e]; exact .inr hv.size
theorem look_dropKey {i : Nat} : ∀ {H : Heap} {j : Nat} {b : AB}, look (dropKey i H) j = some b → look H j = some b ∧ j ≠ i
  | [], j, b, h => by simp [dropKey, look] at h
  | (u, c) :: l, j, b, h => by
    unfold dropKey at h
    split at h
    · rename_i hu
      obtain ⟨h1, h2⟩ := look_dropKey h
      refine ⟨?_, h2⟩
      rw [look_cons, if_neg (fun e => h2 (e.symm.trans (Nat.eq_of_beq_eq_true hu)))]
      exact h1
    · rename_i hu
      rw [look_cons] at h ⊢
      by_cases e : u = j
      · subst e
        rw [if_pos rfl] at h ⊢
        exact ⟨h, fun e => by subst e; simp at hu⟩
      · rw [if_neg e] at h ⊢
        exact look_dropKey h
theorem noId_spec {i : Nat} : ∀ {H : Heap}, noId i H = true → ∀ j e size n l, look H j ≠ some (.vec i e size n l)
  | [], _, j, e, size, n, l, h => by simp [look] at h
  | (u, c) :: r, hno, j, e, size, n, l, h => by
    rw [look_cons] at h
    by_cases hu : u = j
    · rw [if_pos hu] at h
      cases h
      unfold noId at hno
      simp at hno
    · rw [if_neg hu] at h
      refine noId_spec (H := r) ?_ j e size n l h
      cases c with
      | vec i' _ _ _ _ =>
        unfold noId at hno
        split at hno
        · cases hno
        · exact hno
      | _ => exact hno
/-- A slice is made, or grows. -/
theorem held_vec {w0 w w' : World} {m0 : Nat → Prop} {ρ : Pl} {H H1 : Heap} {hn g n cap size : Nat} {e : TypeId} {cur : Array Value} {l : List AV} {xs : List Value} (hr : HRel ρ H hn w) (hv : Inv w0 m0 ρ w) (kill : Option Nat)
    (hkill : ∀ i, kill = some i → ∃ u, ρ.tv i = some u) (hH : ∀ j b, look H1 j = some b → look H j = some b ∧ kill ≠ some j) (hno : ∀ i, kill = some i → ∀ j e size n l, look H1 j ≠ some (.vec i e size n l))
    (hg : (∃ i, kill = some i ∧ ρ i = some g) ∨ w.heap.size ≤ g) (hs : w.heap.size ≤ w'.heap.size) (hobj : w'.heap[g]? = some (.cells cur e (0, 0))) (hold : ∀ k : Nat, k < w.heap.size → k ≠ g → w'.heap[k]? = w.heap[k]?)
    (h4 : w'.os = w.os) (h5 : w'.tape = w.tape) (h6 : w'.output = w.output) (h7 : n ≤ cap) (h8 : cap ≤ maxLen) (h9 : cur.size = cap * size) (hl : AV.relL ρ l xs) (hlen : xs.length = n * size) (htake : cur.toList.take (n * size) = xs) :
    Ext ρ (ρ.vec hn g (.slice (some ⟨g, 0, none⟩) n cap) kill) ∧ (AV.own hn).rel (ρ.vec hn g (.slice (some ⟨g, 0, none⟩) n cap) kill) (.slice (some ⟨g, 0, none⟩) n cap) ∧
      HRel (ρ.vec hn g (.slice (some ⟨g, 0, none⟩) n cap) kill) ((hn, .vec hn e size n l) :: H1) (hn + 1) w' ∧ Inv w0 m0 (ρ.vec hn g (.slice (some ⟨g, 0, none⟩) n cap) kill) w' := by
  have htop := hr.len
  generalize hv0 : Value.slice (some ⟨g, 0, none⟩) n cap = v0
  have hat : ρ.vec hn g v0 kill hn = some g := if_pos rfl
  have htv : (ρ.vec hn g v0 kill).tv hn = some v0 := if_pos rfl
  have hoff : ∀ j, j ≠ hn → ρ.vec hn g v0 kill j = if kill = some j then Option.none else ρ j := fun j hj => if_neg hj
  have htoff : ∀ j, j ≠ hn → (ρ.vec hn g v0 kill).tv j = ρ.tv j := fun j hj => if_neg hj
  have hcase : ∀ (j m : Nat), ρ.vec hn g v0 kill j = some m → (ρ j = some m ∧ kill ≠ some j) ∨ (j = hn ∧ m = g) := by
    intro j m hj
    by_cases e : j = hn
    · subst e
      rw [hat] at hj
      cases hj
      exact .inr ⟨rfl, rfl⟩
    · rw [hoff j e] at hj
      split at hj
      · cases hj
      · exact .inl ⟨hj, ‹_›⟩
  have hglt : g < w'.heap.size := (Array.getElem?_eq_some_iff.1 hobj).1
  have hne : ∀ (j m : Nat), ρ j = some m → kill ≠ some j → m ≠ g := by
    intro j m hj hk e
    subst e
    rcases hg with ⟨i, hi, hgi⟩ | hg
    · exact hk (by rw [hi, hr.inj i j m hgi hj])
    · have := hr.lt j m hj
      omega
  have hext : Ext ρ (ρ.vec hn g v0 kill) := by
    refine ⟨⟨by show ρ.top ≤ max ρ.top (hn + 1); omega, rfl, fun i hi => htoff i (by omega)⟩, fun i hi => ?_⟩
    rw [hoff i (by omega)]
    split
    · rename_i e
      exact .inr ⟨rfl, hkill i e⟩
    · exact .inl rfl
  refine ⟨hext, ⟨htv, some ⟨g, 0, none⟩, n, cap, hv0.symm⟩, ⟨by show max ρ.top (hn + 1) = hn + 1; omega, ?_, ?_, ?_, ?_⟩, ?_⟩
  · intro i j m h1 h2
    rcases hcase i m h1 with ⟨h1, k1⟩ | ⟨h1, e1⟩ <;> rcases hcase j m h2 with ⟨h2, k2⟩ | ⟨h2, e2⟩
    · exact hr.inj i j m h1 h2
    · exact absurd e2 (hne i m h1 k1)
    · exact absurd e1 (hne j m h2 k2)
    · omega
  · intro i m hi
    rcases hcase i m hi with ⟨hi, _⟩ | ⟨_, e⟩
    · exact Nat.lt_of_lt_of_le (hr.lt i m hi) hs
    · rw [e]; exact hglt
  · intro m o hm
    have hm : ρ.ro.obj m = some o := hm
    obtain ⟨g1, g2⟩ := hr.ro m o hm
    have hlt : m < w.heap.size := (Array.getElem?_eq_some_iff.1 g1).1
    have hmg : m ≠ g := by
      rintro rfl
      rcases hg with ⟨i, hi, hgi⟩ | hg
      · exact g2 i hgi
      · omega
    refine ⟨(hold m hlt hmg).trans g1, fun j hj => ?_⟩
    rcases hcase j m hj with ⟨hj, _⟩ | ⟨_, e⟩
    · exact g2 j hj
    · exact hmg e
  · intro j c hj
    rw [look_cons] at hj
    by_cases e1 : hn = j
    · subst e1
      rw [if_pos rfl] at hj
      cases hj
      exact ⟨g, _, hat, hobj, g, cap, cur, xs, hat, by rw [htv, hv0], rfl, h7, h8, h9, AV.relL_mono hext _ hl, hlen, htake⟩
    · rw [if_neg e1] at hj
      obtain ⟨hj2, hk⟩ := hH j c hj
      obtain ⟨m, o, hm, ho, hc⟩ := hr.obj j c hj2
      refine ⟨m, o, by rw [hoff j (fun e => e1 e.symm), if_neg hk]; exact hm, (hold m (hr.lt j m hm) (hne j m hm hk)).trans ho, AB.rel_mono hext (fun i k hi hlt ⟨e', size', n', l', hc'⟩ => ?_) hc⟩
      rw [hoff i (by omega), if_neg (fun hk2 => hno i hk2 j e' size' n' l' (by rw [← hc']; exact hj))]
      exact hi
  · refine ⟨h4.trans hv.os, h5.trans hv.tape, h6.trans hv.output, Nat.le_trans hv.size hs, fun k hk hm => ?_, fun i m hi => ?_⟩
    · rw [hold k (Nat.lt_of_lt_of_le hk hv.size) (fun e => ?_)]
      · exact hv.keep k hk hm
      · subst e
        rcases hg with ⟨i, hi, hgi⟩ | hg
        · rcases hv.fresh i k hgi with h | h
          · exact hm h
          · omega
        · have := hv.size
          omega
    · rcases hcase i m hi with ⟨hi, _⟩ | ⟨_, e⟩
      · exact hv.fresh i m hi
      · rw [e]
        rcases hg with ⟨i, hi, hgi⟩ | hg
        · exact hv.fresh i g hgi
        · exact .inr (Nat.le_trans hv.size hg)
theorem rep_range (z : Array Value) (hz : 0 < z.size) : ∀ len, ((List.range (len * z.size)).map fun i => z[i % z.size]!) = rep z.toList len
  | 0 => by simp [rep]
  | n + 1 => by
    have e : (n + 1) * z.size = z.size + n * z.size := by rw [Nat.add_mul]; omega
    rw [e, List.range_add, List.map_append, List.map_map]
    unfold rep
    congr 1
    · apply List.ext_getElem?
      intro i
      by_cases hi : i < z.size
      · simp [hi, Nat.mod_eq_of_lt hi]
      · simp [hi]
    · rw [← rep_range z hz n]
      apply List.map_congr_left
      intro i _
      simp
theorem newsOf_ok {H : Heap} {size m : Nat} {vx : AV} {news : List AV} (h : newsOf H size vx = some (m, news)) {ρ : Pl} {hn : Nat} {w : World} {x : Value} (hr : HRel ρ H hn w) (hx : vx.rel ρ x) :
    ∃ a c xs, x = .slice (some a) m c ∧ AV.relL ρ news xs ∧ xs.length = m * size ∧ (∀ j u, xs[j]? = some u → w.cell? (a.add j) = some u) ∧ ∀ u ∈ xs, u.oneCell' = true := by
  unfold newsOf at h
  split at h
  · rename_i i o len cap
    split at h
    · rename_i bt cl hl
      split at h
      · rename_i hc
        simp only [Bool.and_eq_true] at hc
        have hc1 := Nat.le_of_ble_eq_true hc.1
        cases h
        obtain ⟨n, hn1, ex⟩ := hx
        obtain ⟨n', ob, hn2, hg, vs, hvs, rfl⟩ := hr.obj _ _ hl
        rw [(Pl.pin_f hn1).1] at hn2
        cases hn2
        have hrel := relL_take (ρ := ρ) (m * size) (relL_drop o hvs)
        have hlv := relL_len hvs
        refine ⟨_, _, _, ex, hrel, by simp; omega, fun j u hj => ?_, allOne_rel hrel hc.2⟩
        rw [addr_add, cell_of_row w n (o + j) _ _ _ hg]
        rw [List.getElem?_take] at hj
        split at hj
        · rw [List.getElem?_drop] at hj
          simpa using hj
        · cases hj
      · cases h
    · cases h
  · cases h
theorem appendV_ok {st : AS} {ts : Array TypeId} {vs vx : AV} {k : AV → Heap → Nat → Tree} (h : (appendV P st ts vs vx k).den φ) : ∃ av H' hn', (k av H' hn').den φ ∧
    ∀ (w0 : World) (m0 : Nat → Prop) (ρ : Pl) (w : World) (v x : Value) (ty : TypeId), vs.rel ρ v → vx.rel ρ x → HRel ρ st.H st.hn w → Inv w0 m0 ρ w →
      ∃ v' ρ' w', (Go.Builtin.append_ ts ty #[v, x]).run P w = .ok v' w' ∧ Ext ρ ρ' ∧ av.rel ρ' v' ∧ HRel ρ' H' hn' w' ∧ Inv w0 m0 ρ' w' := by
  unfold appendV at h
  split at h
  · rename_i t t' hts
    split at h
    · rename_i e htt hu
      have htt := of_decide_eq_true htt
      subst htt
      have hts : ts = #[t, t] := by apply Array.toList_inj.1; simpa using hts
      subst hts
      split at h
      · rename_i inf z hinf hz
        split at h
        · rename_i m news n l H hnews hbase
          split at h
          · rename_i hc
            simp only [Bool.and_eq_true] at hc
            have c1 := Nat.le_of_ble_eq_true hc.1.1.1.1
            have c2 := Nat.eq_of_beq_eq_true hc.1.1.1.2
            have c3 := Nat.le_of_ble_eq_true hc.1.1.2
            have c4 := Nat.le_of_ble_eq_true hc.1.2
            have c5 := Nat.le_of_ble_eq_true hc.2
            have c6 : n + m ≤ maxLen := by simp only [maxLen]; omega
            refine ⟨_, _, _, h, fun w0 m0 ρ w v x ty hv hx hr hi => ?_⟩
            obtain ⟨a, c, xs, rfl, hxs, hlen, hcell, hone⟩ := newsOf_ok hnews hr hx
            obtain ⟨zi, hzi, hzr⟩ : ∃ zv, inf.zero = some zv ∧ zv.cells.size = inf.size := by
              unfold zeroOf at hz
              rw [hinf] at hz
              dsimp only at hz
              split at hz
              · rename_i zv hzv
                refine ⟨zv, hzv, ?_⟩
                rw [← Array.length_toList, relL_len (cellsOf_rel (ofV_ok (ρ := ρ) hz)), c2]
              · cases hz
            unfold baseOf at hbase
            split at hbase
            · cases hbase
              rw [show v = _ from hv]
              have hb : m * inf.bytes ≤ 281474976710656 := by
                have := c5
                simp only [Nat.zero_add] at this
                omega
              have hrun := run_append_nil (P := P) w t ty e inf zi hu hinf hzi a m c xs hlen hcell (by omega) (by omega) hb
              have hge := grownCap_ge w m 0 e
              have hcm := grownCap_le_maxLen w m 0 e (by simp only [maxLen]; omega)
              obtain ⟨g1, g2, g3, g4⟩ := held_vec (w' := w.drew.alloc (.cells (xs.toArray ++ Builtin.zeroCells zi.cells (grownCap w m 0 e - m)) e)) (cur := xs.toArray ++ Builtin.zeroCells zi.cells (grownCap w m 0 e - m)) (g := w.heap.size) (n := m) (cap := grownCap w m 0 e) (size := inf.size) (e := e) hr hi none (fun i hk => by cases hk) (fun j b hj => ⟨hj, fun hk => by cases hk⟩) (fun i hk => by cases hk)
                (.inr (Nat.le_refl _)) (by rw [World.size_alloc]; exact Nat.le_succ _) (heap_alloc_new w.drew _) (fun k hk _ => by show (w.heap.push _)[k]? = _; rw [Array.getElem?_push, if_neg (by omega)]) rfl rfl rfl hge hcm
                (by simp only [Array.size_append, List.size_toArray, size_zeroCells, hzr, hlen, ← Nat.add_mul]; congr 1; omega) hxs hlen (by simp only [Array.toList_append]; rw [← hlen]; exact List.take_left)
              simp only [Nat.zero_add, List.nil_append]
              exact ⟨_, _, _, hrun, g1, g2, g3, g4⟩
            · rename_i i
              split at hbase
              · rename_i i' e' size' n' l' hl
                split at hbase
                · rename_i hb
                  simp only [Bool.and_eq_true, decide_eq_true_eq] at hb
                  have b1 := Nat.eq_of_beq_eq_true hb.1.1.1
                  have b2 := hb.1.1.2
                  have b3 := Nat.eq_of_beq_eq_true hb.1.2
                  have b4 := hb.2
                  subst b1 b2 b3
                  cases hbase
                  obtain ⟨q, ob, hq, hg, g, cap, cur, ys, h1, h2, rfl, h3, h4, h5, h6, h7, h8⟩ := hr.obj _ _ hl
                  rw [hq] at h1
                  cases h1
                  obtain ⟨htv, _⟩ := hv
                  rw [htv] at h2
                  cases h2
                  have hdrop : ∀ j b, look (dropKey i' st.H) j = some b → look st.H j = some b ∧ some i' ≠ some j := fun j b hj => by
                    obtain ⟨z1, z2⟩ := look_dropKey hj
                    exact ⟨z1, fun e => z2 (by cases e; rfl)⟩
                  have hcells : ∀ j u, ys[j]? = some u → w.cell? ((⟨q, 0, none⟩ : Addr).add j) = some u := fun j u hj => by
                    rw [addr_add, cell_of_row w q (0 + j) _ _ _ hg, Nat.zero_add]
                    have := pre_get h8 j u hj
                    simpa using this
                  have hxy : AV.relL ρ (l ++ news) (ys ++ xs) := relL_append h6 hxs
                  have hxl : (ys ++ xs).length = (n + m) * inf.size := by rw [List.length_append, h7, hlen, Nat.add_mul]
                  by_cases hroom : n + m ≤ cap
                  · have hfit : n * inf.size + xs.length ≤ cur.size := by rw [hlen, h5, ← Nat.add_mul]; exact Nat.mul_le_mul_right _ hroom
                    have hrun := run_append_room (P := P) w t ty e' inf hu hinf q n cap cur hg a m c xs hlen hcell hone hroom hfit
                    obtain ⟨g1, g2, g3, g4⟩ := held_vec (w' := w.setRow q (cur.toList.take (n * inf.size) ++ xs ++ cur.toList.drop (n * inf.size + xs.length)).toArray) (cur := (cur.toList.take (n * inf.size) ++ xs ++ cur.toList.drop (n * inf.size + xs.length)).toArray) (g := q) (n := n + m) (cap := cap) (size := inf.size) (e := e') hr hi (some i') (fun j hk => by cases hk; exact ⟨_, htv⟩) hdrop (fun j hk => by cases hk; exact noId_spec b4)
                      (.inl ⟨i', rfl, hq⟩) (by simp [World.setRow, World.putObj]) (setRow_heap w q cur _ e' _ hg) (fun k _ hk => setRow_other w q k _ hk) rfl rfl rfl hroom h4
                      (by simp only [List.size_toArray, List.length_append, List.length_take, List.length_drop, Array.length_toList]; omega) hxy hxl (by simp only [h8]; rw [← hxl]; exact List.take_left)
                    exact ⟨_, _, _, hrun, g1, g2, g3, g4⟩
                  · have hrun := run_append_grow (P := P) w t ty e' inf zi hu hinf hzi ⟨q, 0, none⟩ n cap ys h7 hcells a m c xs hlen hcell (by omega) (by omega) (growslice_fits (by omega) c5)
                    have hge := grownCap_ge w (n + m) cap e'
                    have hcm := grownCap_le_maxLen w (n + m) cap e' c6
                    obtain ⟨g1, g2, g3, g4⟩ := held_vec (w' := w.drew.alloc (.cells (ys.toArray ++ xs.toArray ++ Builtin.zeroCells zi.cells (grownCap w (n + m) cap e' - (n + m))) e')) (cur := ys.toArray ++ xs.toArray ++ Builtin.zeroCells zi.cells (grownCap w (n + m) cap e' - (n + m))) (g := w.heap.size) (n := n + m) (cap := grownCap w (n + m) cap e') (size := inf.size) (e := e') hr hi (some i') (fun j hk => by cases hk; exact ⟨_, htv⟩) hdrop (fun j hk => by cases hk; exact noId_spec b4)
                      (.inr (Nat.le_refl _)) (by rw [World.size_alloc]; exact Nat.le_succ _) (heap_alloc_new w.drew _) (fun k hk _ => by show (w.heap.push _)[k]? = _; rw [Array.getElem?_push, if_neg (by omega)]) rfl rfl rfl hge hcm
                      (by simp only [Array.size_append, List.size_toArray, size_zeroCells, hzr, h7, hlen, ← Nat.add_mul]; congr 1; omega) hxy hxl (by simp only [Array.toList_append, List.append_assoc]; rw [← List.append_assoc, ← hxl]; exact List.take_left)
                    exact ⟨_, _, _, hrun, g1, g2, g3, g4⟩
                · cases hbase
              · cases hbase
            · cases hbase
          · exact h.elim
        · exact h.elim
      · exact h.elim
    · exact h.elim
  · exact h.elim
theorem eop_ok {st : AS} {op : Op} {k : AV → Heap → Nat → Tree} (h : (eop P st op k).den φ) : ∃ av H' hn', (k av H' hn').den φ ∧
    ∀ (w0 : World) (m0 : Nat → Prop) (ρ : Pl) (a : Act) (w : World) (o : Oper), o.op = op → SRel ρ st.sz st.slots a.tmps → HRel ρ st.H st.hn w → Inv w0 m0 ρ w →
      ∃ v nx ρ' w', (execOp a.eval o).run P w = .ok nx w' ∧ (nx = .value v ∨ (nx = .skip ∧ v = undef)) ∧ Ext ρ ρ' ∧ av.rel ρ' v ∧ HRel ρ' H' hn' w' ∧ Inv w0 m0 ρ' w' ∧ (freshOp op = true → ∃ o', w'.heap = w.heap.push o') ∧ ((∀ c, op ≠ .call c) → ∀ i, i < ρ.top → ρ' i = ρ i) := by
  unfold eop at h
  split at h
  · rename_i t
    split at h
    · rename_i z hz
      refine ⟨_, _, _, h, fun w0 m0 ρ a w o ho hs hr hv => ?_⟩
      obtain ⟨zv, hzr, hzv⟩ := zeroOf_ok hz ρ w
      obtain ⟨h1, h2⟩ := held_new (w' := { w with heap := w.heap.push (.cells zv.cells t) }) (b := .cells t (cellsOf z)) hr hv rfl rfl rfl rfl ⟨_, AV.relL_mono (Ext.snoc _ hr.len) _ (cellsOf_rel hzr), by simp⟩
      refine ⟨_, _, _, _, ?_, .inl rfl, Ext.snoc _ hr.len, ⟨w.heap.size, Pl.at_pin _ _ hr.len, rfl⟩, h1, h2, fun _ => ⟨_, rfl⟩, fun _ i hi => Pl.off _ _ (by have := hr.len; omega)⟩
      simp [execOp, ho, Instr.alloc, hzv, newVar, newRow]
    · exact h.elim
  · rename_i t x
    obtain ⟨av, h, he⟩ := ev_ok h
    refine ⟨_, _, _, h, fun w0 m0 ρ a w o ho hs hr hv => ?_⟩
    obtain ⟨v, hvr, hve⟩ := he ρ a hs
    obtain ⟨h1, h2⟩ := held_new (w' := { w with heap := w.heap.push (.cells v.cells t) }) (b := .cells t (cellsOf av)) hr hv rfl rfl rfl rfl ⟨_, AV.relL_mono (Ext.snoc _ hr.len) _ (cellsOf_rel hvr), by simp⟩
    refine ⟨_, _, _, _, ?_, .inl rfl, Ext.snoc _ hr.len, ⟨w.heap.size, Pl.at_pin _ _ hr.len, rfl⟩, h1, h2, fun _ => ⟨_, rfl⟩, fun _ i hi => Pl.off _ _ (by have := hr.len; omega)⟩
    simp [execOp, ho, Instr.box, hve, newVar, newRow]
  · rename_i t len ps
    obtain ⟨l, h, hl⟩ := evP_ok h
    split at h
    · rename_i e hu
      split at h
      · rename_i inf z hinf hz
        split at h
        · rename_i hc
          simp only [Bool.and_eq_true] at hc
          have hc1 := Nat.le_of_ble_eq_true hc.1.1
          have hc2 := Nat.le_of_ble_eq_true hc.1.2
          have hc3 := Nat.eq_of_beq_eq_true hc.2
          split at h
          · rename_i cs hcs
            refine ⟨_, _, _, h, fun w0 m0 ρ a w o ho hs hr hv => ?_⟩
            obtain ⟨zv, hzr, hzv⟩ := zeroOf_ok hz ρ w
            obtain ⟨e1, e2⟩ := hl ρ a hs
            obtain ⟨ys, hy, hyr⟩ := fillG_ok (vs := ps.toList.map fun p => (p.1, a.eval p.2)) hcs (by simpa [List.map_map, Function.comp_def] using e1) (by simpa [List.map_map, Function.comp_def] using e2) (relL_rep (cellsOf_rel hzr) len)
            have hsz : zv.cells.size = inf.size := by rw [← Array.length_toList, relL_len (cellsOf_rel hzr), hc3]
            have hpos : 0 < zv.cells.size := by
              rw [hsz]
              rcases Nat.eq_zero_or_pos inf.size with h0 | h0
              · rw [h0] at hc1; omega
              · exact h0
            obtain ⟨h1, h2⟩ := held_new (w' := { w with heap := w.heap.push (.cells ys e) }) (b := .cells e cs) hr hv rfl rfl rfl rfl ⟨ys.toList, AV.relL_mono (Ext.snoc _ hr.len) _ hyr, by simp⟩
            refine ⟨_, _, _, _, ?_, .inl rfl, Ext.snoc _ hr.len, ⟨w.heap.size, Pl.at_pin _ _ hr.len, rfl⟩, h1, h2, fun _ => ⟨_, rfl⟩, fun _ i hi => Pl.off _ _ (by have := hr.len; omega)⟩
            have hrr : ((Array.range (len * inf.size)).map fun i => zv.cells[i % zv.cells.size]!) = (rep zv.cells.toList len).toArray := by
              rw [← rep_range zv.cells hpos len, hsz]
              apply Array.toList_inj.1
              simp
            simp only [execOp, ho, Instr.buildSlice, Sem.run_bind, run_underlying hu, Result.andThen_ok, run_sizeOf hinf]
            rw [if_neg (by omega), if_neg (by omega)]
            simp only [Sem.run_bind, hzv, Sem.run_pure, Result.andThen_ok, hrr, Array.toList_map, hy, newRow, run_newObj]
          · exact h.elim
        · exact h.elim
      · exact h.elim
    · exact h.elim
  · rename_i t x y
    obtain ⟨av, h, ha⟩ := ev_ok h
    split at h
    · rename_i i o
      obtain ⟨bv, h, hb⟩ := ev_ok h
      split at h
      · rename_i bt l hl
        split at h
        · rename_i hc
          refine ⟨_, _, _, h, fun w0 m0 ρ a w op ho hs hr hv => ?_⟩
          simp only [Bool.and_eq_true] at hc
          have hc2 := Nat.le_of_ble_eq_true hc.1.2
          obtain ⟨v, ⟨n, hn, ev⟩, e1⟩ := ha ρ a hs
          obtain ⟨u, hu, e2⟩ := hb ρ a hs
          obtain ⟨n', ob, hn', hg, xs, hxs, rfl⟩ := hr.obj _ _ hl
          have hnp := hn
          replace hn := (Pl.pin_f hn).1
          rw [hn] at hn'
          cases hn'
          have hcx := cellsOf_rel hu
          have hl1 := relL_len hcx
          have hl2 := relL_len hxs
          have hput := relL_putAt l o (cellsOf bv) hxs hcx hc2
          have hone := allOne_rel hcx hc.2
          have hst := run_storeCells_at (P := P) n o bt u.cells.toList 0 xs.toArray w hg (by simp at hl1 ⊢; omega) hone
          simp only [Nat.add_zero] at hst
          have hsz : sizeIs P t (cellsOf bv).length = true := hc.1.1
          unfold sizeIs at hsz
          split at hsz
          · rename_i inf hinf
            have hsz := Nat.eq_of_beq_eq_true hsz
            have hsr : (storeVar t ⟨n, o, none⟩ u).run P w = .ok () (w.setRow n (xs.take o ++ u.cells.toList ++ xs.drop (o + u.cells.toList.length)).toArray) := by
              unfold storeVar
              simp only [Sem.run_bind, run_sizeOf hinf, Result.andThen_ok]
              rw [if_neg (by rw [hsz, ← hl1]; simp)]
              simpa using hst
            have hnlt : n < w.heap.size := (Array.getElem?_eq_some_iff.1 hg).1
            obtain ⟨h1, h2⟩ := held_set (b := .cells bt (putAt l o (cellsOf bv))) (w' := w.setRow n (xs.take o ++ u.cells.toList ++ xs.drop (o + u.cells.toList.length)).toArray) hr hv hn
              (setRow_heap w n xs.toArray _ bt (0, 0) hg) (fun k hk => by simp [World.setRow, Array.getElem?_modify, Ne.symm hk]) (by simp [World.setRow]) rfl rfl rfl ⟨_, hput, rfl⟩
            refine ⟨undef, .skip, ρ, _, ?_, .inr ⟨rfl, rfl⟩, Ext.refl _, ⟨[], rfl, rfl⟩, h1, h2, fun hh => (by cases hh), fun _ _ _ => rfl⟩
            simp [execOp, ho, e1, e2, ev, Instr.storeAt, Instr.sureAddr, hsr]
          · cases hsz
        · exact h.elim
      · exact h.elim
    · exact h.elim
  · rename_i c
    split at h
    · rename_i hcal
      obtain ⟨l, h, hl⟩ := evL_ok h
      split at h
      · rename_i vs vx
        obtain ⟨av, H', hn', h, hap⟩ := appendV_ok h
        refine ⟨av, H', hn', h, fun w0 m0 ρ a w o ho hs hr hv => ?_⟩
        have hls := hl ρ a hs
        obtain ⟨v, l1, hv1, ⟨x, l2, hx1, hl2, e2⟩, e1⟩ := id hls
        rw [show l2 = [] from hl2] at e2
        subst e2
        obtain ⟨v', ρ', w', hrun, g1, g2, g3, g4⟩ := hap w0 m0 ρ w v x o.type hv1 hx1 hr hv
        refine ⟨v', .value v', ρ', w', ?_, .inl rfl, g1, g2, g3, g4, fun hf => (by cases hf), fun hc => absurd rfl (hc c)⟩
        have hargs : c.args.map a.eval = #[v, x] := by
          apply Array.toList_inj.1
          rw [Array.toList_map, e1]
        simp only [execOp, ho, resolve, hcal, Sem.run_bind, Sem.run_pure, Result.andThen_ok, invoke, hargs, Go.builtin, hrun]
      · exact h.elim
    · exact h.elim
  · exact h.elim
end Go.Proofs.Ytlekjgjhbanimaa.SX
