/- A symbolic walk: drawn regions, the whole. -/
import Derived.Test.YtaoplfmaiclfkaaSXv
namespace Go.Proofs.Ytaoplfmaiclfkaa.SX
set_option linter.unusedVariables false
set_option linter.unusedSimpArgs false
open Go Go.RowKit
variable {P : Program} {φ : AV → Heap → Nat → Prop}
theorem take_get {T : List Rec} {j d : Nat} {r : Rec} (h : (T.take j)[d]? = some r) : d < j ∧ T[d]? = some r := by
  by_cases hd : d < j
  · rw [List.getElem?_take_of_lt hd] at h
    exact ⟨hd, h⟩
  · rw [List.getElem?_eq_none (by simp; omega)] at h
    cases h
theorem get_take {T : List Rec} {j d : Nat} {r : Rec} (hd : d < j) (h : T[d]? = some r) : (T.take j)[d]? = some r := by
  rw [List.getElem?_take_of_lt hd]
  exact h
theorem Good.snoc {rn : Option Nat} {Q : Exit → Act → World → Prop} {ops : Array Oper} {st : AS} {T : List Rec} {r : Rec} (h : Good P rn Q ops st T) (hr : ∀ o, ops[T.length]? = some o → Fact P rn Q ops st T T.length o r ∧ Stat st (ancTab ops.toList []) T T.length r) : Good P rn Q ops st (T ++ [r]) := by
  intro j rj o hj ho
  rcases snoc_get hj with hj | ⟨rfl, rfl⟩
  · have hlt : j < T.length := (List.getElem?_eq_some_iff.1 hj).1
    rw [List.take_append_of_le_length (by omega)]
    exact h j rj o hj ho
  · rw [List.take_append_of_le_length (by omega), List.take_length]
    exact hr o ho
theorem hasDst_spec {ops : List Oper} {sz j : Nat} (h : hasDst ops sz j = true) : ∃ o d, ops[j]? = some o ∧ o.dst = some d ∧ d < sz := by
  unfold hasDst at h
  split at h
  · rename_i o ho
    split at h
    · rename_i d hd
      rw [nth_eq] at ho
      exact ⟨o, d, ho, hd, Nat.le_of_ble_eq_true h⟩
    · cases h
  · cases h
theorem KInv.know {st : AS} {tab : List (List Bool)} {T : List Rec} {s : RS} (h : KInv st tab T s) {j : Nat} {v : AV} (hv : ∃ u, look s.acc j = some u ∧ ∀ (ρ : Pl) x, u.rel ρ x → v.rel ρ x) : KInv st tab T { s with acc := (j, v) :: s.acc } := by
  refine ⟨fun i u hu => ?_, h.muts, h.mems, h.fr, h.cur, h.hn, h.his⟩
  rw [look_cons] at hu
  by_cases e : j = i
  · subst e
    rw [if_pos rfl] at hu
    cases hu
    obtain ⟨u, hu, hx⟩ := hv
    obtain ⟨r, hr, hx2⟩ := h.acc j u hu
    exact ⟨r, hr, fun ρ x hrel => hx ρ x (hx2 ρ x hrel)⟩
  · rw [if_neg e] at hu
    exact h.acc i u hu
/-- All operations, by number: what is known of each. -/
theorem regGo_ok {ct : CTab} {self : Self} (hN : Named P) (hself : SelfOK P self) (hct : CtOK P ct) {ops : Array Oper} {st : AS} {k : RS → Tree} (hwf : WF ops.toList) (rn : Option Nat) (Q : Exit → Act → World → Prop) :
    ∀ (rest : List Oper) (T : List Rec) (s : RS), (regGo P ct self ops.toList (ancTab ops.toList []) st k T.length rest s).den φ → ops.toList.drop T.length = rest → KInv st (ancTab ops.toList []) T s → Good P rn Q ops st T →
      ∃ T' s', T'.length = T.length + rest.length ∧ (k s').den φ ∧ KInv st (ancTab ops.toList []) T' s' ∧ Good P rn Q ops st T'
  | [], T, s, h, _, hs, hg => ⟨T, s, by simp, h, hs, hg⟩
  | o :: rest, T, s, h, hdrop, hs, hg => by
    have hlt : T.length < ops.toList.length := by
      have := congrArg List.length hdrop
      simp at this
      simp
      omega
    have hol : ops.toList[T.length]? = some o := by
      rw [← List.head?_drop, hdrop]
      rfl
    have ho : ops[T.length]? = some o := by simpa using hol
    have hrest : ∀ r : Rec, ops.toList.drop (T ++ [r]).length = rest := fun r => by
      rw [List.length_append, List.length_singleton, ← List.drop_drop, hdrop]
      rfl
    have next : ∀ (s2 : RS) (v : AV) (hi : Nat) (e : Eft), KInv st (ancTab ops.toList []) T s2 → s2.hn ≤ hi → (e.touch → allM (rowM (ancTab ops.toList []) T.length) s2.muts = true) → (e.turns → allM (rowM (ancTab ops.toList []) T.length) s2.mems = true) →
        (∀ H, e.made H → ∀ n b, look H n = some b → s2.hn ≤ n ∧ n < hi) → Fact P rn Q ops st T T.length o ⟨v, s2.hn, hi, e⟩ →
        (regGo P ct self ops.toList (ancTab ops.toList []) st k (T.length + 1) rest (s2.add T.length (rowM (ancTab ops.toList []) T.length) v hi e)).den φ →
        ∃ T' s', T'.length = T.length + (o :: rest).length ∧ (k s').den φ ∧ KInv st (ancTab ops.toList []) T' s' ∧ Good P rn Q ops st T' := by
      intro s2 v hi e hs2 hle h1 h2 h3 hf h
      obtain ⟨T', s', hl, hk, hs', hg'⟩ := regGo_ok hN hself hct hwf rn Q rest (T ++ [⟨v, s2.hn, hi, e⟩]) (s2.add T.length (rowM (ancTab ops.toList []) T.length) v hi e) (by rw [List.length_append, List.length_singleton]; exact h) (hrest _) (hs2.add hwf hlt hle h1)
        (hg.snoc fun o' ho' => by
          rw [ho] at ho'
          cases ho'
          exact ⟨hf, ⟨hs2.hn, hle, fun i ri hri => hs2.his i ri hri, fun ht i ri hri hti => allM_spec (h2 ht) i (hs2.mems i ri hri hti), fun ht i ri hri hti => allM_spec (h1 ht) i (hs2.muts i ri hri hti), h3⟩⟩)
      exact ⟨T', s', by rw [hl]; simp; omega, hk, hs', hg'⟩
    have go : ∀ (s2 : RS), KInv st (ancTab ops.toList []) T s2 → (∀ (r : Rec) (ρ : Pl) (a : Act) (w : World), Pre ops.toList st (ancTab ops.toList []) T T.length o r ρ a w → Region.wanted o (yielded ops a.tmps) = true) →
        (rper P ct self (rowM (ancTab ops.toList []) T.length) (envOf ops.toList (ancTab ops.toList []) st T.length o s2.acc) o s2 fun v hi e => regGo P ct self ops.toList (ancTab ops.toList []) st k (T.length + 1) rest (s2.add T.length (rowM (ancTab ops.toList []) T.length) v hi e)).den φ →
        ∃ T' s', T'.length = T.length + (o :: rest).length ∧ (k s').den φ ∧ KInv st (ancTab ops.toList []) T' s' ∧ Good P rn Q ops st T' := by
      intro s2 hs2 hw h
      obtain ⟨v, hi, e, h, hle, h1, h2, h3, hf⟩ := rper_ok hN hself hct hs2 h rn Q
      refine next s2 v hi e hs2 hle h1 h2 h3 (fun ρ a w nx hpre hk => ?_) h
      unfold wpOpIn
      rw [ho]
      dsimp only
      rw [if_pos (hw _ ρ a w hpre)]
      exact hf ρ a w nx hpre hk
    have no : ∀ (s2 : RS), KInv st (ancTab ops.toList []) T s2 → (∀ (r : Rec) (ρ : Pl) (a : Act) (w : World), Pre ops.toList st (ancTab ops.toList []) T T.length o r ρ a w → Region.wanted o (yielded ops a.tmps) = false) →
        (regGo P ct self ops.toList (ancTab ops.toList []) st k (T.length + 1) rest (s2.add T.length (rowM (ancTab ops.toList []) T.length) (.tup []) s2.hn .none)).den φ →
        ∃ T' s', T'.length = T.length + (o :: rest).length ∧ (k s').den φ ∧ KInv st (ancTab ops.toList []) T' s' ∧ Good P rn Q ops st T' := by
      intro s2 hs2 hw h
      refine next s2 (.tup []) s2.hn .none hs2 (Nat.le_refl _) (fun ht => ht.elim) (fun ⟨_, ht⟩ => (by cases ht)) (fun H h => by rcases h with h | h <;> cases h) (fun ρ a w nx hpre hk => ?_) h
      unfold wpOpIn
      rw [ho]
      dsimp only
      rw [if_neg (by rw [hw _ ρ a w hpre]; decide)]
      exact ⟨fun _ _ => trivial, hk ρ undef w (Post.quiet hpre.top hpre.placed (Below.same w) (fun H' h => by rcases h with (h | h) | h <;> cases h)) ⟨[], rfl, rfl⟩⟩
    unfold regGo at h
    dsimp only at h
    split at h
    · rename_i hg0
      exact go s hs (fun _ _ _ _ _ => by simp [Region.wanted, hg0]) h
    · rename_i j want hg0
      split at h
      · rename_i hc
        simp only [Bool.and_eq_true] at hc
        obtain ⟨oj, d, hoj, hd, hdlt⟩ := hasDst_spec hc.2
        have hval : ∀ {u : AV}, look s.acc j = some u → ∀ (r : Rec) (ρ : Pl) (a : Act) (w : World), Pre ops.toList st (ancTab ops.toList []) T T.length o r ρ a w → ∃ x, u.rel ρ x ∧ a.tmps[d]? = some x := by
          intro u hu r ρ a w hpre
          obtain ⟨rj, hrj, hx⟩ := hs.acc j u hu
          obtain ⟨x, hx1, hx2⟩ := hpre.deps j rj oj d hrj (isIn_spec.1 hc.1) hoj hd hdlt
          exact ⟨x, hx ρ x hx1, hx2⟩
        have hnj : nth ops.toList j = some oj := by rw [nth_eq]; exact hoj
        have hwant : ∀ {q : SB}, look s.acc j = some (.bool q) → ∀ (r : Rec) (ρ : Pl) (a : Act) (w : World), Pre ops.toList st (ancTab ops.toList []) T T.length o r ρ a w → Region.wanted o (yielded ops a.tmps) = (q.v == want) := by
          intro q hq r ρ a w hpre
          obtain ⟨x, hx1, hx2⟩ := hval hq r ρ a w hpre
          rw [show x = .bool q.v from hx1] at hx2
          exact wanted_eq hg0 ⟨hnj, hd, hx2⟩
        split at h
        · rename_i b hb
          split at h
          · rename_i e
            exact go s hs (fun r ρ a w hpre => by rw [hwant hb r ρ a w hpre]; exact e) h
          · rename_i e
            exact no s hs (fun r ρ a w hpre => by rw [hwant hb r ρ a w hpre]; exact e) h
        · rename_i q _ hq
          have hkn : ∀ {b : Bool}, q.v = b → KInv st (ancTab ops.toList []) T { s with acc := (j, .bool (.c b)) :: s.acc } := fun {b} hb => hs.know ⟨_, hq, fun ρ x hx => by rw [show x = .bool q.v from hx, hb]; rfl⟩
          cases want with
          | true =>
            rcases iteSB_den h with ⟨hv, h⟩ | ⟨hv, h⟩
            · exact go _ (hkn hv) (fun r ρ a w hpre => by rw [hwant hq r ρ a w hpre, hv]; rfl) h
            · exact no _ (hkn hv) (fun r ρ a w hpre => by rw [hwant hq r ρ a w hpre, hv]; rfl) h
          | false =>
            rcases iteSB_den h with ⟨hv, h⟩ | ⟨hv, h⟩
            · exact no _ (hkn hv) (fun r ρ a w hpre => by rw [hwant hq r ρ a w hpre, hv]; rfl) h
            · exact go _ (hkn hv) (fun r ρ a w hpre => by rw [hwant hq r ρ a w hpre, hv]; rfl) h
        · rename_i l _ hq
          refine no s hs (fun r ρ a w hpre => ?_) h
          obtain ⟨x, ⟨xs, hxs, hx⟩, hx2⟩ := hval hq r ρ a w hpre
          exact unwanted hg0 hnj hd (by rw [hx2, hx])
        · exact h.elim
      · exact h.elim
theorem pl_mono {ρ' : Pl} {ro : RO} {g : Nat → Option Nat} {θ : Nat → Option Value} {p : Nat → Prop} {t : Nat} (hro : ρ'.ro = ro) (h : ∀ n, (∃ k, ρ' n = some k) ∨ (∃ v, ρ'.tv n = some v) → p n ∧ n < t ∧ g n = ρ' n ∧ θ n = ρ'.tv n) : MonoF ρ' (onF ro g θ p t) := by
  subst hro
  refine ⟨⟨fun i n hi => ?_, fun i v hi => ?_, fun _ _ x => x, fun _ _ x => x⟩, fun i n hi => ?_⟩
  · obtain ⟨h1, h2⟩ := Pl.pin_f hi
    obtain ⟨a, b, c, d⟩ := h i (.inl ⟨n, h1⟩)
    exact onF_pin.2 ⟨a, b, c.trans h1, d.trans h2⟩
  · obtain ⟨a, b, c, d⟩ := h i (.inr ⟨v, hi⟩)
    exact onF_tv.2 ⟨a, b, d.trans hi⟩
  · obtain ⟨a, b, c, d⟩ := h i (.inl ⟨n, hi⟩)
    exact onF_at.2 ⟨a, b, c.trans hi⟩
/-- Numbers that an operation may know. -/
def vis (st : AS) (tab : List (List Bool)) (T : List Rec) (i : Nat) (n : Nat) : Prop := n < st.hn ∨ ∃ d r, getM (rowM tab i) d = true ∧ T[d]? = some r ∧ r.lo ≤ n ∧ n < r.hi
def ownN (r : Rec) (n : Nat) : Prop := r.lo ≤ n ∧ n < r.hi
/-- Where a drawn region stands when the operations of D are done. -/
structure RT (w0 : World) (m0 : MS) (ops : Array Oper) (st : AS) (ρ0 : Pl) (df : List Deferred) (T : List Rec) (D : Nat → Prop) (g : Nat → Option Nat) (θ : Nat → Option Value) (rr : RO) (a : Act) (w : World) : Prop where
  rle : RO.Le ρ0.ro rr
  roF : ∀ (n : Nat) (o : Obj), rr.obj n = some o → m0.r n ∨ m0 n ∨ w0.heap.size ≤ n
  closed : ∀ (j : Nat) (o : Oper), ops.toList[j]? = some o → D j → ∀ d ∈ depsOf o.after.toList, D d
  inb : ∀ j, D j → j < T.length
  base : ∀ n, n < st.hn → g n = ρ0 n ∨ (g n = Option.none ∧ (∃ v, ρ0.tv n = some v) ∧ ∃ m rm, D m ∧ T[m]? = some rm ∧ rm.e.turns)
  base2 : ∀ n, n < st.hn → θ n = ρ0.tv n
  own : ∀ n k, g n = some k → n < st.hn ∨ ∃ j r, D j ∧ T[j]? = some r ∧ ownN r n
  own2 : ∀ n v, θ n = some v → n < st.hn ∨ ∃ j r, D j ∧ T[j]? = some r ∧ ownN r n
  inj : ∀ i j n, g i = some n → g j = some n → i = j
  lt : ∀ i n, g i = some n → n < w.heap.size
  fresh : ∀ i n, g i = some n → m0 n ∨ w0.heap.size ≤ n
  ro : ∀ n o, rr.obj n = some o → w.heap[n]? = some o ∧ ∀ j, g j ≠ some n
  inv : Inv w0 m0 ρ0 w
  defers : a.defers = df
  size : a.tmps.size = st.sz
  done : ∀ (j : Nat) (r : Rec) (o : Oper) (t : Tmp), D j → T[j]? = some r → ops[j]? = some o → o.dst = some t → t < st.sz → ∃ x, r.v.rel (onF rr g θ (fun n => vis st (ancTab ops.toList []) T j n ∨ ownN r n) r.hi) x ∧ a.tmps[t]? = some x
  rest : ∀ t v, look st.slots t = some v → (∀ (j : Nat) (o : Oper), D j → ops[j]? = some o → o.dst ≠ some t) → ∃ x, v.rel ρ0 x ∧ a.tmps[t]? = some x
  heap : ∀ (e : Nat) (r : Rec) (H : Heap), D e → T[e]? = some r → r.e.out H → (∀ (m : Nat) (rm : Rec), D m → T[m]? = some rm → rm.e.turns → getM (rowM (ancTab ops.toList []) m) e = false) → HObj (onF rr g θ (fun n => vis st (ancTab ops.toList []) T e n ∨ ownN r n) r.hi) H w
  hbase : (∀ (m : Nat) (rm : Rec), D m → T[m]? = some rm → ¬ rm.e.turns) → HObj ρ0 st.H w
  hdrs : Hdrs ρ0 st.H
section
variable {w0 : World} {m0 : MS} {ops : Array Oper} {st : AS} {ρ0 : Pl} {df : List Deferred} {T : List Rec} {D : Nat → Prop} {g : Nat → Option Nat} {θ : Nat → Option Value} {rr : RO} {a : Act} {w : World} {rn : Option Nat} {Q : Exit → Act → World → Prop}
theorem Good.stat (hg : Good P rn Q ops st T) (hl : T.length = ops.size) {j : Nat} {r : Rec} (h : T[j]? = some r) : Stat st (ancTab ops.toList []) (T.take j) j r := by
  have hlt : j < ops.size := by rw [← hl]; exact (List.getElem?_eq_some_iff.1 h).1
  exact (hg j r ops[j] h (by simp [hlt])).2
theorem Good.order (hg : Good P rn Q ops st T) (hl : T.length = ops.size) {i j : Nat} {ri rj : Rec} (hi : T[i]? = some ri) (hj : T[j]? = some rj) (hlt : i < j) : ri.hi ≤ rj.lo :=
  (hg.stat hl hj).prev i ri (get_take hlt hi)
theorem Good.apart (hg : Good P rn Q ops st T) (hl : T.length = ops.size) {i j n : Nat} {ri rj : Rec} (hi : T[i]? = some ri) (hj : T[j]? = some rj) (h1 : ownN ri n) (h2 : ownN rj n) : i = j := by
  rcases Nat.lt_trichotomy i j with h | h | h
  · have := hg.order hl hi hj h
    unfold ownN at h1 h2
    omega
  · exact h
  · have := hg.order hl hj hi h
    unfold ownN at h1 h2
    omega
theorem RT.step (hwf : WF ops.toList) (hg : Good P rn Q ops st T) (hl : T.length = ops.size) (ht : ρ0.top = st.hn) (h : RT w0 m0 ops st ρ0 df T D g θ rr a w) {i : Nat} {o : Oper} (ho : ops[i]? = some o) (hni : ¬ D i) (hdeps : ∀ d ∈ depsOf o.after.toList, D d) {K : Act → World → Prop}
    (hK : ∀ g' θ' ro' a' w', RT w0 m0 ops st ρ0 df T (fun j => D j ∨ j = i) g' θ' ro' a' w' → K a' w') : wpOpIn (FR rn) 0 P ops Q i K a w := by
  have hol : ops.toList[i]? = some o := by simpa using ho
  have hilt : i < ops.size := (Array.getElem?_eq_some_iff.1 ho).1
  obtain ⟨r, hr⟩ : ∃ r, T[i]? = some r := ⟨T[i]'(by omega), List.getElem?_eq_getElem (by omega)⟩
  obtain ⟨hfact, hstat⟩ := hg i r o hr ho
  have hopT : ∀ {j : Nat}, j < T.length → ∃ oj, ops[j]? = some oj ∧ ops.toList[j]? = some oj := fun {j} hj => ⟨ops[j]'(by omega), by simp [show j < ops.size by omega], by simp [show j < ops.size by omega]⟩
  -- who waits for i is not done
  have hnot : ∀ {j : Nat}, D j → getM (rowM (ancTab ops.toList []) j) i = false := fun {j} hj => by
    cases hb : getM (rowM (ancTab ops.toList []) j) i
    · rfl
    · obtain ⟨oj, _, hoj⟩ := hopT (h.inb j hj)
      exact absurd (anc_done (fun j o ho hd => h.closed j o ho hd) j oj hoj (h.closed j oj hoj hj) i hb) hni
  -- whom i waits for is done
  have hanc : ∀ {d : Nat}, getM (rowM (ancTab ops.toList []) i) d = true → D d := fun {d} hd => anc_done (fun j o ho hd => h.closed j o ho hd) i o hol hdeps d hd
  have hvis : ∀ {e : Nat} {re : Rec}, T[e]? = some re → getM (rowM (ancTab ops.toList []) i) e = true → ∀ n, (vis st (ancTab ops.toList []) T e n ∨ ownN re n) → vis st (ancTab ops.toList []) T i n := by
    intro e re hre he n hn
    rcases hn with (hn | ⟨d, rd, hd, hrd, hn⟩) | hn
    · exact .inl hn
    · exact .inr ⟨d, rd, hwf.trans hol he hd, hrd, hn⟩
    · exact .inr ⟨e, re, he, hre, hn⟩
  have hvlo : ∀ n, vis st (ancTab ops.toList []) T i n → n < r.lo := by
    rintro n (hn | ⟨d, rd, hd, hrd, hn⟩)
    · exact Nat.lt_of_lt_of_le hn hstat.base
    · have hdlt := hwf.lt hol hd
      exact Nat.lt_of_lt_of_le hn.2 (hg.order hl hrd hr hdlt)
  have hmono : ∀ {e : Nat} {re : Rec}, T[e]? = some re → getM (rowM (ancTab ops.toList []) i) e = true → MonoF (onF rr g θ (fun n => vis st (ancTab ops.toList []) T e n ∨ ownN re n) re.hi) (onF rr g θ (vis st (ancTab ops.toList []) T i) r.lo) := by
    intro e re hre he
    refine onF_mono (RO.Le.refl _) fun n hn _ _ => ?_
    have := hvis hre he n hn
    exact ⟨this, hvlo n this, rfl, rfl⟩
  have hblt : ∀ n, ((∃ k, ρ0 n = some k) ∨ (∃ v, ρ0.tv n = some v)) → n < st.hn := fun n hn => by
    rw [← ht]
    rcases hn with ⟨k, hk⟩ | ⟨v, hv⟩
    · exact ρ0.wf n k hk
    · exact ρ0.twf n v hv
  have hbmono : Mono ρ0 (onF rr g θ (vis st (ancTab ops.toList []) T i) r.lo) := by
    refine ⟨fun n k hk => ?_, fun n v hv => ?_, fun i v x => (show rr.hd i = some v by rw [h.rle.hd]; exact x), h.rle.obj⟩
    · obtain ⟨h1, h2⟩ := Pl.pin_f hk
      have hlt := hblt n (.inl ⟨k, h1⟩)
      refine onF_pin.2 ⟨.inl hlt, Nat.lt_of_lt_of_le hlt hstat.base, ?_, (h.base2 n hlt).trans h2⟩
      rcases h.base n hlt with e | ⟨_, ⟨v, hv⟩, _⟩
      · exact e.trans h1
      · rw [h2] at hv; cases hv
    · have hlt := hblt n (.inr ⟨v, hv⟩)
      exact onF_tv.2 ⟨.inl hlt, Nat.lt_of_lt_of_le hlt hstat.base, (h.base2 n hlt).trans hv⟩
  have hbmonoF : (∀ (m : Nat) (rm : Rec), D m → T[m]? = some rm → ¬ rm.e.turns) → MonoF ρ0 (onF rr g θ (vis st (ancTab ops.toList []) T i) r.lo) := fun hno => ⟨hbmono, fun n k hk => by
    have hlt := hblt n (.inl ⟨k, hk⟩)
    refine onF_at.2 ⟨.inl hlt, Nat.lt_of_lt_of_le hlt hstat.base, ?_⟩
    rcases h.base n hlt with e | ⟨_, _, m, rm, hm, hrm, htm⟩
    · exact e.trans hk
    · exact absurd htm (hno m rm hm hrm)⟩
  have hgrow : ∀ d ∈ depsOf o.after.toList, getM (rowM (ancTab ops.toList []) i) d = true := fun d hd => (row_spec hol (hwf.low i o hol) d).2 ⟨d, hd, .inl rfl⟩
  -- what is not taken in by an earlier one that turns is not by a later one
  have hlive : r.e.touch → ∀ {e : Nat}, (∀ (m : Nat) (rm : Rec), (T.take i)[m]? = some rm → rm.e.turns → getM (rowM (ancTab ops.toList []) m) e = false) → ∀ (m : Nat) (rm : Rec), D m → T[m]? = some rm → rm.e.turns → getM (rowM (ancTab ops.toList []) m) e = false := by
    intro htouch e he m rm hm hrm htm
    rcases Nat.lt_trichotomy m i with hlt | rfl | hgt
    · exact he m rm (get_take hlt hrm) htm
    · exact absurd hm hni
    · have := (hg.stat hl hrm).turn htm i r (get_take hgt hr) htouch
      rw [hnot hm] at this
      cases this
  refine hfact (onF rr g θ (vis st (ancTab ops.toList []) T i) r.lo) a w K ⟨rfl, ⟨fun x y n hx hy => h.inj x y n (onF_at.1 hx).2.2 (onF_at.1 hy).2.2, fun x n hx => h.lt x n (onF_at.1 hx).2.2, fun n o hn => ⟨(h.ro n o hn).1, fun j hj => (h.ro n o hn).2 j (onF_at.1 hj).2.2⟩⟩, h.size, ?_, ?_, ?_, h.hdrs.more hbmono⟩ ?_
  · intro d rd od t hrd hd hod hodt htlt
    obtain ⟨_, hrd⟩ := take_get hrd
    obtain ⟨x, hx, hx2⟩ := h.done d rd od t (hdeps d hd) hrd (by simpa using hod) hodt htlt
    exact ⟨x, AV.rel_more (hmono hrd (hgrow d hd)).toMono _ hx, hx2⟩
  · intro t v hv hnh
    obtain ⟨x, hx, hx2⟩ := h.rest t v hv (fun j oj hj hoj hdj => by
      have := hidden_spec hnh j oj (by simpa using hoj) hdj
      rw [Nat.zero_add, hnot hj] at this
      cases this)
    exact ⟨x, AV.rel_more hbmono _ hx, hx2⟩
  · intro htouch
    refine ⟨fun e re H hre he hout hl2 => ?_, fun hl2 => ?_⟩
    · obtain ⟨_, hre⟩ := take_get hre
      exact (h.heap e re H (hanc he) hre hout (hlive htouch hl2)).more (hmono hre he) (fun _ _ _ => rfl)
    · have hno : ∀ (m : Nat) (rm : Rec), D m → T[m]? = some rm → ¬ rm.e.turns := by
        intro m rm hm hrm htm
        rcases Nat.lt_trichotomy m i with hlt | rfl | hgt
        · exact hl2 m rm (get_take hlt hrm) htm
        · exact hni hm
        · have := (hg.stat hl hrm).turn htm i r (get_take hgt hr) htouch
          rw [hnot hm] at this
          cases this
      exact (h.hbase hno).more (hbmonoF hno) (fun _ _ _ => rfl)
  · intro ρ' x w' hp hx
    classical
    let q : Nat → Prop := fun n => r.e.turns ∧ vis st (ancTab ops.toList []) T i n
    let g' : Nat → Option Nat := fun n => if ownN r n ∨ q n then ρ' n else g n
    let θ' : Nat → Option Value := fun n => if ownN r n then ρ'.tv n else θ n
    have hqlo : ∀ {n : Nat}, q n → ¬ ownN r n := fun {n} hq e => by have := hvlo n hq.2; unfold ownN at e; omega
    have town : ∀ {n : Nat}, ownN r n → θ' n = ρ'.tv n := fun {n} hn => if_pos hn
    have told : ∀ {n : Nat}, ¬ ownN r n → θ' n = θ n := fun {n} hn => if_neg hn
    have gown : ∀ {n : Nat}, ownN r n → g' n = ρ' n := fun {n} hn => if_pos (.inl hn)
    have gq : ∀ {n : Nat}, q n → g' n = ρ' n := fun {n} hn => if_pos (.inr hn)
    have gold : ∀ {n : Nat}, ¬ ownN r n → ¬ q n → g' n = g n := fun {n} hn hq => if_neg (fun h => h.elim hn hq)
    have onE : ∀ {n : Nat}, vis st (ancTab ops.toList []) T i n → onF rr g θ (vis st (ancTab ops.toList []) T i) r.lo n = g n := fun {n} hv => by
      apply Option.ext
      intro m
      rw [onF_at]
      exact ⟨fun x => x.2.2, fun x => ⟨hv, hvlo n hv, x⟩⟩
    have onT : ∀ {n : Nat}, vis st (ancTab ops.toList []) T i n → (onF rr g θ (vis st (ancTab ops.toList []) T i) r.lo).tv n = θ n := fun {n} hv => by
      apply Option.ext
      intro m
      rw [onF_tv]
      exact ⟨fun x => x.2.2, fun x => ⟨hv, hvlo n hv, x⟩⟩
    -- a number that turns stays, or is no more
    have hq2 : ∀ {n : Nat}, q n → g' n = g n ∨ (g' n = Option.none ∧ ∃ v, θ n = some v) := fun {n} hq => by
      rw [gq hq]
      rcases hp.ext.2 n (hvlo n hq.2) with e | ⟨e, v, hv⟩
      · exact .inl (e.trans (onE hq.2))
      · exact .inr ⟨e, v, by rw [← onT hq.2]; exact hv⟩
    have hgno : ∀ {n k : Nat}, g n = some k → ¬ ownN r n := by
      intro n k hgn hn
      rcases h.own n k hgn with hlt | ⟨j, rj, hj, hrj, hnj⟩
      · have := hstat.base
        unfold ownN at hn
        omega
      · have := hg.apart hl hrj hr hnj hn
        subst this
        exact hni hj
    have htno : ∀ {n : Nat} {v : Value}, θ n = some v → ¬ ownN r n := by
      intro n v hgn hn
      rcases h.own2 n v hgn with hlt | ⟨j, rj, hj, hrj, hnj⟩
      · have := hstat.base
        unfold ownN at hn
        omega
      · have := hg.apart hl hrj hr hnj hn
        subst this
        exact hni hj
    have gcase : ∀ {n k : Nat}, g' n = some k → (ownN r n ∧ ρ' n = some k) ∨ (¬ ownN r n ∧ g n = some k ∧ (q n → ρ' n = some k)) := by
      intro n k hn
      by_cases e : ownN r n
      · rw [gown e] at hn
        exact .inl ⟨e, hn⟩
      · by_cases hq : q n
        · refine .inr ⟨e, ?_, fun _ => by rw [← gq hq]; exact hn⟩
          rcases hq2 hq with e2 | ⟨e2, _⟩
          · rw [← e2]; exact hn
          · rw [e2] at hn; cases hn
        · rw [gold e hq] at hn
          exact .inr ⟨e, hn, fun h => absurd h hq⟩
    have hnew : ∀ {n k : Nat}, ownN r n → ρ' n = some k → w.heap.size ≤ k ∨ ∃ j, q j ∧ g j = some k := by
      intro n k hn hk
      rcases hp.new n k hn.1 hk with h1 | ⟨ht2, j, hj⟩
      · exact .inl h1
      · obtain ⟨h1, _, h3⟩ := onF_at.1 hj
        exact .inr ⟨j, ⟨ht2, h1⟩, h3⟩
    have hpmono : MonoF ρ' (onF ρ'.ro g' θ' (fun n => vis st (ancTab ops.toList []) T i n ∨ ownN r n) r.hi) := by
      refine pl_mono rfl fun n hn => ?_
      have hlt : n < r.hi := by
        rw [← hp.top]
        rcases hn with ⟨k, hk⟩ | ⟨v, hv⟩
        · exact ρ'.wf n k hk
        · exact ρ'.twf n v hv
      by_cases e : n < r.lo
      · have e2 : ρ'.tv n = (onF rr g θ (vis st (ancTab ops.toList []) T i) r.lo).tv n := hp.ext.1.tv n e
        have hv2 : vis st (ancTab ops.toList []) T i n := by
          rcases hn with ⟨k, hk⟩ | ⟨v, hv⟩
          · exact (onF_at.1 (hp.ext.back e hk)).1
          · rw [e2] at hv; exact (onF_tv.1 hv).1
        have no : ¬ ownN r n := fun x => by unfold ownN at x; omega
        refine ⟨.inl hv2, hlt, ?_, by rw [told no, e2, onT hv2]⟩
        by_cases htn : r.e.turns
        · exact gq ⟨htn, hv2⟩
        · rw [gold no (fun x => htn x.1), hp.same htn n e, onE hv2]
      · have : ownN r n := ⟨by omega, hlt⟩
        exact ⟨.inr this, hlt, gown this, town this⟩
    have hput : ∀ {t : Tmp}, o.dst ≠ some t → (a.put o.dst x).tmps[t]? = a.tmps[t]? := by
      intro t hne
      unfold Act.put
      cases hd : o.dst with
      | none => rfl
      | some d =>
        dsimp only
        rw [Array.getElem?_setIfInBounds_ne (fun e => hne (by rw [hd, e]))]
    have hon : ∀ (p : Nat → Prop) (t : Nat), Mono (onF rr g θ p t) (onF ρ'.ro g' θ' p t) := fun p t => by
      refine ⟨fun n k hk => ?_, fun n v hv => ?_, fun i v x => (show ρ'.ro.hd i = some v by rw [hp.ext.1.ro.hd]; exact x), hp.ext.1.ro.obj⟩
      · obtain ⟨h1, h2, h3, h4⟩ := onF_pin.1 hk
        have no := hgno h3
        refine onF_pin.2 ⟨h1, h2, ?_, (told no).trans h4⟩
        by_cases hq : q n
        · rcases hq2 hq with e | ⟨_, v, hv⟩
          · exact e.trans h3
          · rw [h4] at hv; cases hv
        · rw [gold no hq]; exact h3
      · obtain ⟨h1, h2, h3⟩ := onF_tv.1 hv
        exact onF_tv.2 ⟨h1, h2, (told (htno h3)).trans h3⟩
    refine hK g' θ' ρ'.ro _ w' ⟨h.rle.trans hp.ext.1.ro, ?_, ?_, ?_, ?_, ?_, ?_, ?_, ?_, ?_, ?_, ?_, ?_, ?_, ?_, ?_, ?_, ?_, ?_, h.hdrs⟩
    · intro n o hn
      rcases hp.roF n o hn with ⟨o', ho'⟩ | ⟨_, j, hj⟩ | hs
      · exact h.roF n o' ho'
      · rcases h.fresh j n (onF_at.1 hj).2.2 with h1 | h1
        · exact .inr (.inl h1)
        · exact .inr (.inr h1)
      · exact .inr (.inr (Nat.le_trans h.inv.size hs))
    · rintro j oj hoj (hj | rfl) d hd
      · exact .inl (h.closed j oj hoj hj d hd)
      · rw [hol] at hoj
        cases hoj
        exact .inl (hdeps d hd)
    · rintro j (hj | rfl)
      · exact h.inb j hj
      · omega
    · intro n hn
      have no : ¬ ownN r n := fun e => by have := hstat.base; unfold ownN at e; omega
      have hold : g n = ρ0 n ∨ (g n = Option.none ∧ (∃ v, ρ0.tv n = some v) ∧ ∃ m rm, (D m ∨ m = i) ∧ T[m]? = some rm ∧ rm.e.turns) := (h.base n hn).imp_right fun ⟨a, b, m, rm, c, d⟩ => ⟨a, b, m, rm, .inl c, d⟩
      by_cases hq : q n
      · rcases hq2 hq with e | ⟨e, v, hv⟩
        · rw [e]; exact hold
        · exact .inr ⟨e, ⟨v, by rw [← h.base2 n hn]; exact hv⟩, i, r, .inr rfl, hr, hq.1⟩
      · rw [gold no hq]; exact hold
    · intro n hn
      rw [told (fun e => by have := hstat.base; unfold ownN at e; omega)]
      exact h.base2 n hn
    · intro n k hn
      rcases gcase hn with ⟨e, _⟩ | ⟨_, hn, _⟩
      · exact .inr ⟨i, r, .inr rfl, hr, e⟩
      · rcases h.own n k hn with hlt | ⟨j, rj, hj, hrj, hnj⟩
        · exact .inl hlt
        · exact .inr ⟨j, rj, .inl hj, hrj, hnj⟩
    · intro n v hn
      by_cases e : ownN r n
      · exact .inr ⟨i, r, .inr rfl, hr, e⟩
      · rw [told e] at hn
        rcases h.own2 n v hn with hlt | ⟨j, rj, hj, hrj, hnj⟩
        · exact .inl hlt
        · exact .inr ⟨j, rj, .inl hj, hrj, hnj⟩
    · have key : ∀ {x y n : Nat}, ownN r x → ρ' x = some n → ¬ ownN r y → g y = some n → (q y → ρ' y = some n) → x = y := by
        intro x y n ex hx ey hy hyq
        by_cases hq : q y
        · exact hp.placed.inj x y n hx (hyq hq)
        · rcases hnew ex hx with h1 | ⟨j, hj, hj2⟩
          · have := h.lt y n hy
            omega
          · have := h.inj j y n hj2 hy
            subst this
            exact absurd hj hq
      intro x y n hx hy
      rcases gcase hx with ⟨ex, hx⟩ | ⟨ex, hx, hxq⟩ <;> rcases gcase hy with ⟨ey, hy⟩ | ⟨ey, hy, hyq⟩
      · exact hp.placed.inj x y n hx hy
      · exact key ex hx ey hy hyq
      · exact (key ey hy ex hx hxq).symm
      · exact h.inj x y n hx hy
    · intro x n hx
      rcases gcase hx with ⟨_, hx⟩ | ⟨_, hx, _⟩
      · exact hp.placed.lt x n hx
      · exact Nat.lt_of_lt_of_le (h.lt x n hx) hp.size
    · intro x n hx
      rcases gcase hx with ⟨ex, hx⟩ | ⟨_, hx, _⟩
      · rcases hnew ex hx with h1 | ⟨j, _, hj⟩
        · exact .inr (Nat.le_trans h.inv.size h1)
        · exact h.fresh j n hj
      · exact h.fresh x n hx
    · intro n o hn
      obtain ⟨g1, g2⟩ := hp.placed.ro n o hn
      refine ⟨g1, fun j hj => ?_⟩
      rcases gcase hj with ⟨ej, hj⟩ | ⟨_, hj, hq⟩
      · exact g2 j hj
      · by_cases hqj : q j
        · exact g2 j (hq hqj)
        · rcases hp.roF n o hn with ⟨o', ho'⟩ | ⟨ht2, j', hj'⟩ | hs
          · exact (h.ro n o' ho').2 j hj
          · obtain ⟨hv', _, hg'⟩ := onF_at.1 hj'
            have := h.inj j j' n hj hg'
            subst this
            exact hqj ⟨ht2, hv'⟩
          · have := h.lt j n hj
            omega
    · refine ⟨hp.os.trans h.inv.os, hp.tape.trans h.inv.tape, hp.output.trans h.inv.output, Nat.le_trans h.inv.size hp.size, fun k hk hm => ?_, h.inv.fresh, h.inv.roF⟩
      rw [hp.keep k (Nat.lt_of_lt_of_le hk h.inv.size) (fun _ n hn => ?_)]
      · exact h.inv.keep k hk hm
      · rcases h.fresh n k (onF_at.1 hn).2.2 with h1 | h1
        · exact hm h1
        · omega
    · unfold Act.put
      cases o.dst <;> exact h.defers
    · unfold Act.put
      cases o.dst <;> simp [h.size]
    · rintro j rj oj t (hj | rfl) hrj hoj hod htlt
      · obtain ⟨y, hy, hy2⟩ := h.done j rj oj t hj hrj hoj hod htlt
        refine ⟨y, AV.rel_more (hon _ _) _ hy, ?_⟩
        rw [hput (fun e => ?_)]
        · exact hy2
        · have := hwf.apart i j o oj t hol (by simpa using hoj) e hod
          subst this
          exact hni hj
      · rw [hr] at hrj
        cases hrj
        rw [ho] at hoj
        cases hoj
        refine ⟨x, AV.rel_more hpmono.toMono _ hx, ?_⟩
        rw [hod]
        simp [Act.put, h.size, htlt]
    · intro t v hv hnd
      obtain ⟨y, hy, hy2⟩ := h.rest t v hv (fun j oj hj hoj => hnd j oj (.inl hj) hoj)
      exact ⟨y, hy, by rw [hput (hnd i o (.inr rfl) ho)]; exact hy2⟩
    · rintro e re H (he | rfl) hre hout hl2
      · have hnq : r.e.turns → ∀ n b, look H n = some b → ¬ vis st (ancTab ops.toList []) T i n := by
          intro hturn n b hb hv'
          have hlv := hl2 i r (.inr rfl) hr hturn
          rcases hout with hout | hout
          · have hown := (hg.stat hl hre).keys H hout n b hb
            rcases hv' with hlt | ⟨d, rd, hd, hrd, hnd⟩
            · have := (hg.stat hl hre).base
              omega
            · have := hg.apart hl hrd hre hnd hown
              subst this
              rw [hd] at hlv
              cases hlv
          · have hte : re.e.turns := ⟨H, hout⟩
            rcases Nat.lt_trichotomy e i with hlt | rfl | hgt
            · have := hstat.turn hturn e re (get_take hlt hre) (Eft.turns_touch hte)
              rw [this] at hlv
              cases hlv
            · exact hni he
            · have := (hg.stat hl hre).turn hte i r (get_take hgt hr) (Eft.turns_touch hturn)
              rw [hnot he] at this
              cases this
        refine (h.heap e re H he hre hout (fun m rm hm => hl2 m rm (.inl hm))).keep (hon _ _) (fun n b hb k hn => ?_) fun n b k hb hn => ?_
        · obtain ⟨h1, h2, h3⟩ := onF_at.1 hn
          refine onF_at.2 ⟨h1, h2, ?_⟩
          rw [gold (hgno h3) (fun hq => hnq hq.1 n b hb hq.2)]
          exact h3
        · obtain ⟨hq, _, hgn⟩ := onF_at.1 hn
          refine hp.keep k (h.lt n k hgn) fun hturn n' hn' => ?_
          obtain ⟨hv', _, hgn'⟩ := onF_at.1 hn'
          have := h.inj n n' k hgn hgn'
          subst this
          exact hnq hturn n b hb hv'
      · rw [hr] at hre
        cases hre
        exact (hp.obj H hout).more hpmono (fun _ _ _ => rfl)
    · intro hnt
      have hno : ∀ (m : Nat) (rm : Rec), D m → T[m]? = some rm → ¬ rm.e.turns := fun m rm hm => hnt m rm (.inl hm)
      refine (h.hbase hno).keep (MonoF.refl ρ0).toMono (fun _ _ _ _ h => h) fun n b k hb hn => ?_
      have hlt : n < st.hn := hblt n (.inl ⟨k, hn⟩)
      refine hp.keep k (h.lt n k ?_) (fun hturn => absurd hturn (hnt i r (.inr rfl) hr))
      rcases h.base n hlt with e | ⟨_, _, m, rm, hm, hrm, htm⟩
      · rw [e]; exact hn
      · exact absurd htm (hno m rm hm hrm)
theorem any_ok (hwf : WF ops.toList) (hg : Good P rn Q ops st T) (hl : T.length = ops.size) (ht : ρ0.top = st.hn) (hQ : ∀ g θ ro a w, RT w0 m0 ops st ρ0 df T (fun j => j < ops.size) g θ ro a w → Q .normal a w) :
    ∀ (fuel : Nat) (listed : Array Bool) (g : Nat → Option Nat) (θ : Nat → Option Value) (rr : RO) (a : Act) (w : World), listed.size = ops.size → listed.toList.count false ≤ fuel → RT w0 m0 ops st ρ0 df T (fun j => listed[j]? = some true) g θ rr a w → wpAnyIn (FR rn) 0 P .any ops Q fuel listed a w := by
  have hend : ∀ (listed : Array Bool) (g : Nat → Option Nat) (θ : Nat → Option Value) (rr : RO) (a : Act) (w : World), listed.size = ops.size → RT w0 m0 ops st ρ0 df T (fun j => listed[j]? = some true) g θ rr a w → Region.ready .any ops listed = [] → Q .normal a w := by
    intro listed g θ rr a w hsz h hr
    have hall : ∀ j, j < ops.size → listed[j]? = some true := by
      intro j
      induction j using Nat.strongRecOn with
      | ind j ih =>
        intro hj
        cases hb : listed[j]? with
        | none =>
          rw [Array.getElem?_eq_none_iff] at hb
          omega
        | some b =>
          cases b with
          | true => rfl
          | false =>
            have hin : j ∈ Region.ready .any ops listed := by
              rw [mem_ready]
              refine ⟨by simp [Array.getD_eq_getD_getElem?, hb], ops[j], by simp [hj], fun e he hbd => ?_⟩
              have hd : e.on ∈ depsOf ops[j].after.toList := depsOf_spec.2 ⟨e, by simpa using he, hbd, rfl⟩
              have hlt := hwf.low j ops[j] (by simp [hj]) e.on hd
              simp [Array.getD_eq_getD_getElem?, ih e.on hlt (by omega)]
            rw [hr] at hin
            cases hin
    refine hQ g θ rr a w ?_
    have : (fun j => listed[j]? = some true) = fun j => j < ops.size := funext fun j => propext ⟨fun hj => by
      have := (Array.getElem?_eq_some_iff.1 hj).1
      omega, hall j⟩
    rwa [this] at h
  intro fuel
  induction fuel with
  | zero =>
    intro listed g θ rr a w hsz hc h
    have hr : Region.ready .any ops listed = [] := by
      rw [List.eq_nil_iff_forall_not_mem]
      intro i hi
      have h0 := (mem_ready.1 hi).1
      rw [Array.getD_eq_getD_getElem?] at h0
      cases hb : listed[i]? with
      | none => rw [hb] at h0; cases h0
      | some b =>
        rw [hb] at h0
        have hb2 : b = false := h0
        subst hb2
        have : false ∈ listed.toList := by
          have := Array.mem_of_getElem? hb
          simpa using this
        have := List.count_pos_iff.2 this
        omega
    exact ⟨hr, hend listed g θ rr a w hsz h hr⟩
  | succ fuel ih =>
    intro listed g θ rr a w hsz hc h
    refine ⟨hend listed g θ rr a w hsz h, fun i hi => ?_⟩
    obtain ⟨h0, o, ho, hall⟩ := mem_ready.1 hi
    have hb : listed[i]? = some false := by
      rw [Array.getD_eq_getD_getElem?] at h0
      cases hb : listed[i]? with
      | none => rw [hb] at h0; cases h0
      | some b =>
        rw [hb] at h0
        exact congrArg some h0
    obtain ⟨hilt, hbv⟩ := Array.getElem?_eq_some_iff.1 hb
    refine h.step hwf hg hl ht ho (fun hn => by rw [hb] at hn; cases hn) (fun d hd => ?_) fun g' θ' rr' a' w' h' => ?_
    · obtain ⟨e, he, hbd, rfl⟩ := depsOf_spec.1 hd
      have := hall e (by simpa using he) hbd
      rw [Array.getD_eq_getD_getElem?] at this
      cases hc2 : listed[e.on]? with
      | none => rw [hc2] at this; cases this
      | some b =>
        rw [hc2] at this
        exact congrArg some this
    · refine ih _ g' θ' rr' a' w' (by simp [hsz]) ?_ ?_
      · rw [Array.toList_setIfInBounds, List.count_set (by simpa using hilt)]
        have hpos : 0 < listed.toList.count false := List.count_pos_iff.2 (by
          have := Array.mem_of_getElem? hb
          simpa using this)
        simp [hbv]
        have : Array.count false listed = listed.toList.count false := by simp
        omega
      · have : (fun j => (listed.setIfInBounds i true)[j]? = some true) = fun j => listed[j]? = some true ∨ j = i := funext fun j => propext (by
          by_cases e : i = j
          · subst e
            simp [hilt]
          · rw [Array.getElem?_setIfInBounds_ne e]
            exact ⟨.inl, fun h => h.resolve_right (fun e2 => e e2.symm)⟩)
        rw [this]
        exact h'
end
/-- A drawn region, whatever its order. -/
theorem regD_ok {ct : CTab} {self : Self} (hN : Named P) (hm : P.follows .mixedOrders = true) (hself : SelfOK P self) (hct : CtOK P ct) {ops : Array Oper} {id : Nat} {st : AS} {k : AS → Tree} (h : (regD P ct self ops.toList st k).den φ)
    {w0 : World} {m0 : MS} {ρ : Pl} {a : Act} {w : World} (hrel : Rel w0 m0 ρ st a w) {rn : Option Nat} {Q : Exit → Act → World → Prop} (hk : ∀ st' ρ' a' w', (k st').den φ → Ext ρ ρ' → Rel w0 m0 ρ' st' a' w' → Q .normal a' w') : (Code.region id ops true).wpIn (FR rn) 0 P Q a w := by
  unfold regD at h
  split at h
  · rename_i hc
    rw [forceTab_eq] at h
    simp only [Bool.and_eq_true] at hc
    have hwf : WF ops.toList := ⟨fun i o ho d hd => by have := lowB_spec hc.2 i o ho d hd; omega, apartB_spec hc.1⟩
    obtain ⟨T, s, hlen, h, hs, hg⟩ := regGo_ok hN hself hct hwf rn Q ops.toList [] _ h rfl
      ⟨fun j v hv => by simp [look] at hv, fun j r hr => by simp at hr, fun j r hr => by simp at hr, fun e H hm => (by cases hm), .inl ⟨rfl, fun m rm hm => by simp at hm⟩, Nat.le_refl _, fun j r hr => by simp at hr⟩
      (fun j r o hj => by simp at hj)
    rw [forceS_eq] at h
    have hl : T.length = ops.size := by rw [hlen]; simp
    have ht : ρ.top = st.hn := hrel.heap.len
    refine wpIn_region_any hm (any_ok (w0 := w0) (m0 := m0) (ρ0 := ρ) (df := a.defers) hwf hg hl ht ?_ ops.size _ ρ ρ.tv ρ.ro a _ (by simp) (by simp) ?_)
    · intro g θ rr a' w' hR
      have hin : ∀ {j : Nat} {r : Rec}, T[j]? = some r → j < ops.size := fun hr => by rw [← hl]; exact (List.getElem?_eq_some_iff.1 hr).1
      have hmore : ∀ {j : Nat} {r : Rec} (p : Nat → Prop), T[j]? = some r → MonoF (onF rr g θ p r.hi) (onF rr g θ (fun _ => True) s.hn) := fun {j r} p hr => onF_mono (RO.Le.refl _) fun n h1 h2 h3 => ⟨trivial, Nat.lt_of_lt_of_le h2 (hs.his j r hr), rfl, rfl⟩
      have hon : ∀ n, n < st.hn → onF rr g θ (fun _ => True) s.hn n = g n := fun n hn => by
        apply Option.ext
        intro m
        rw [onF_at]
        exact ⟨fun x => x.2.2, fun x => ⟨trivial, Nat.lt_of_lt_of_le hn hs.hn, x⟩⟩
      have hext : Ext ρ (onF rr g θ (fun _ => True) s.hn) := by
        refine ⟨⟨by rw [ht]; exact hs.hn, hR.rle, fun n hn => ?_⟩, fun n hn => ?_⟩
        · rw [ht] at hn
          apply Option.ext
          intro m
          rw [onF_tv, hR.base2 n hn]
          exact ⟨fun x => x.2.2, fun x => ⟨trivial, Nat.lt_of_lt_of_le hn hs.hn, x⟩⟩
        · rw [ht] at hn
          rw [hon n hn]
          rcases hR.base n hn with e | ⟨e, hv, _⟩
          · exact .inl e
          · exact .inr ⟨e, hv⟩
      refine hk _ (onF rr g θ (fun _ => True) s.hn) a' w' h hext ⟨⟨hR.size, fun t v hv => ?_⟩, ?_, ?_, ?_⟩
      · rcases depVals_look hv with ⟨d, hd, od, hod, hdst, hlt, hav⟩ | hv
        · obtain ⟨r, hr, hx⟩ := hs.acc d v hav
          obtain ⟨x, hx1, hx2⟩ := hR.done d r od t (hin hr) hr (by simpa using hod) hdst hlt
          exact ⟨x, AV.rel_more (hmore _ hr).toMono _ (hx _ _ hx1), hx2⟩
        · obtain ⟨hnot, hv⟩ := without_look hv
          obtain ⟨x, hx1, hx2⟩ := hR.rest t v hv (fun j o _ ho hd => hnot (dst_in ops.toList j o t (by simpa using ho) hd))
          exact ⟨x, AV.rel_mono hext _ hx1, hx2⟩
      · rw [hR.defers]
        exact hrel.defers.mono hext
      · refine ⟨rfl, fun i j n h1 h2 => hR.inj i j n (onF_at.1 h1).2.2 (onF_at.1 h2).2.2, fun i n h1 => hR.lt i n (onF_at.1 h1).2.2, fun n o hn => ⟨(hR.ro n o hn).1, fun j hj => (hR.ro n o hn).2 j (onF_at.1 hj).2.2⟩, ?_⟩
        refine seen_obj (fun e H he ha => ?_) ?_
        · obtain ⟨r, hr, hre, hx⟩ := hs.fr e H he
          exact (hR.heap e r H (hin hr) hr (.inl hre) (fun m rm _ hrm ht => hx m rm hrm ht)).more (hmore _ hr) (fun _ _ _ => rfl)
        · rcases hs.cur with ⟨h1, h2⟩ | ⟨m, r, hr, he, hx⟩
          · rw [h1]
            refine (hR.hbase (fun m rm _ hrm => h2 m rm hrm)).more ⟨hext.mono, fun n k hk => ?_⟩ (fun _ _ _ => rfl)
            have hn : n < st.hn := by rw [← ht]; exact ρ.wf n k hk
            rw [hon n hn]
            rcases hR.base n hn with e | ⟨_, _, m, rm, _, hrm, htm⟩
            · exact e.trans hk
            · exact absurd htm (h2 m rm hrm)
          · exact (hR.heap m r s.cur (hin hr) hr (.inr he) (fun m' r' _ hr' ht => hx m' r' hr' ht)).more (hmore _ hr) (fun _ _ _ => rfl)
      · exact ⟨hR.inv.os, hR.inv.tape, hR.inv.output, hR.inv.size, hR.inv.keep, fun i n hi => hR.fresh i n (onF_at.1 hi).2.2, hR.roF⟩
    · have hno : ∀ j : Nat, ¬ (Array.replicate ops.size false)[j]? = some true := fun j hj => by
        obtain ⟨h1, h2⟩ := Array.getElem?_eq_some_iff.1 hj
        simp at h2
      refine ⟨RO.Le.refl _, hrel.inv.roF, fun j o _ hj => absurd hj (hno j), fun j hj => absurd hj (hno j), fun n _ => .inl rfl, fun n _ => rfl, fun n k hn => .inl (by rw [← ht]; exact ρ.wf n k hn), fun n v hn => .inl (by rw [← ht]; exact ρ.twf n v hn), hrel.heap.inj, hrel.heap.lt, hrel.inv.fresh, hrel.heap.ro, ⟨hrel.inv.os, hrel.inv.tape, hrel.inv.output, hrel.inv.size, hrel.inv.keep, hrel.inv.fresh, hrel.inv.roF⟩, rfl, hrel.slots.1, fun j r o t hj => absurd hj (hno j), fun t v hv _ => hrel.slots.2 t v hv, fun e r H he => absurd he (hno e), fun _ => hrel.heap.obj, hrel.heap.hdrs⟩
  · exact h.elim
end Go.Proofs.Ytaoplfmaiclfkaa.SX
