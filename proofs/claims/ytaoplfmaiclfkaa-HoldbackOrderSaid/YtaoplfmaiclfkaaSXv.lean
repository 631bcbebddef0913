/- A symbolic walk: drawn regions, each operation. -/
import Derived.Test.YtaoplfmaiclfkaaSXu
namespace Go.Proofs.Ytaoplfmaiclfkaa.SX
set_option linter.unusedVariables false
set_option linter.unusedSimpArgs false
open Go Go.RowKit
variable {P : Program} {φ : AV → Heap → Nat → Prop}
theorem Pre.env {ops : List Oper} {st : AS} {T : List Rec} {j : Nat} {o : Oper} {r : Rec} {ρ : Pl} {a : Act} {w : World} (h : Pre ops st (ancTab ops []) T j o r ρ a w) {s : RS} (hs : KInv st (ancTab ops []) T s) : SRel ρ st.sz (envOf ops (ancTab ops []) st j o s.acc).slots a.tmps := by
  refine ⟨h.size, fun t v hv => ?_⟩
  rcases depVals_look hv with ⟨d, hd, od, ho, hod, hlt, hav⟩ | hv
  · obtain ⟨rd, hrd, hx⟩ := hs.acc d v hav
    obtain ⟨x, hx1, hx2⟩ := h.deps d rd od t hrd hd ho hod hlt
    exact ⟨x, hx _ _ hx1, hx2⟩
  · obtain ⟨hnot, hv⟩ := without_look hv
    exact h.rest t v hv hnot
theorem new_addr {ρ ρ' : Pl} {w w' : World} (hs : ∀ i, i < ρ.top → ρ' i = ρ i) (hinj : ∀ (i j n : Nat), ρ' i = some n → ρ' j = some n → i = j) (hi : Inv w ρ.ms ρ' w') (n k : Nat) (hn : ρ.top ≤ n) (h : ρ' n = some k) : w.heap.size ≤ k := by
  rcases hi.fresh n k h with ⟨i, hi⟩ | h
  · have h1 := ρ.wf i k hi
    have := hinj i n k ((hs i h1).trans hi) h
    omega
  · exact h
theorem Inv.self (ρ : Pl) (w : World) : Inv w ρ.ms ρ w := ⟨rfl, rfl, rfl, Nat.le_refl _, fun _ _ _ => rfl, fun i n hi => .inl ⟨i, hi⟩, fun n o h => .inl ⟨o, h⟩⟩
theorem Post.of {ρ ρ' : Pl} {w w' : World} {v : AV} {H : Heap} {hi : Nat} {e : Eft} {lo : Nat} (hext : Ext ρ ρ') (hs : ¬ e.turns → ∀ i, i < ρ.top → ρ' i = ρ i) (hr : HRel ρ' H hi w') (hv : Inv w ρ.ms ρ' w') (he : e.turns ∨ ((∀ k : Nat, k < w.heap.size → w'.heap[k]? = w.heap[k]?) ∧ ∀ n o, ρ'.ro.obj n = some o → (∃ o', ρ.ro.obj n = some o') ∨ w.heap.size ≤ n)) (ho : ∀ H', e.out H' → H' = H) : Post ⟨v, lo, hi, e⟩ ρ ρ' w w' :=
  ⟨hext, hs, hr.len, ⟨hr.inj, hr.lt, hr.ro⟩, hv.os, hv.tape, hv.output, hv.size, fun k hk hn => by
    rcases he with he | he
    · exact hv.keep k hk (fun ⟨i, hi⟩ => hn he i hi)
    · exact he.1 k hk, fun n k hn h => by
    by_cases ht : e.turns
    · rcases hv.fresh n k h with h | h
      · exact .inr ⟨ht, h⟩
      · exact .inl h
    · exact .inl (new_addr (hs ht) hr.inj hv n k hn h), fun H' h => by rw [ho H' h]; exact hr.obj, fun n o hn => by
    rcases he with he | he
    · rcases hv.roF n o hn with h | h | h
      · exact .inl h
      · exact .inr (.inl ⟨he, h⟩)
      · exact .inr (.inr h)
    · rcases he.2 n o hn with h | h
      · exact .inl h
      · exact .inr (.inr h)⟩
/-- Nothing turns, and nothing is made that is spoken of. -/
theorem Post.quiet {ρ : Pl} {w w' : World} {v : AV} {lo : Nat} {e : Eft} (ht : ρ.top = lo) (hp : Placed ρ w) (hb : Below w.heap.size w w') (ho : ∀ H', ¬ e.out H') : Post ⟨v, lo, lo, e⟩ ρ ρ w w' :=
  ⟨Ext.refl _, fun _ _ _ => rfl, ht, ⟨hp.inj, fun i n hi => Nat.lt_of_lt_of_le (hp.lt i n hi) hb.size, fun n o hn => ⟨(hb.block n (Array.getElem?_eq_some_iff.1 (hp.ro n o hn).1).1).trans (hp.ro n o hn).1, (hp.ro n o hn).2⟩⟩, hb.os, hb.tape, hb.output, hb.size, fun k hk _ => hb.block k hk, fun n k hn h => (by
    rw [Pl.over hn] at h
    cases h), fun H' h => absurd h (ho H'), fun n o hn => .inl ⟨o, hn⟩⟩
/-- One placement's numbers below one, the other one's from there on. -/
def Pl.over2 (ρ ρ' : Pl) (lo : Nat) (hle : lo ≤ ρ'.top) : Pl := ⟨fun n => if n < lo then ρ n else ρ' n, ρ'.top, fun i m h => (by
  split at h
  · omega
  · exact ρ'.wf i m h), ⟨ρ.ro.hd, fun n => match ρ.ro.obj n with
  | some o => some o
  | Option.none => ρ'.ro.obj n⟩, fun n => if n < lo then ρ.tv n else ρ'.tv n, fun i m h => by
  split at h
  · omega
  · exact ρ'.twf i m h⟩
section
variable {ρ ρ' : Pl} {lo : Nat} (hle : lo ≤ ρ'.top) {n : Nat}
theorem Pl.over2_lt (h : n < lo) : Pl.over2 ρ ρ' lo hle n = ρ n := if_pos h
theorem Pl.over2_ge (h : lo ≤ n) : Pl.over2 ρ ρ' lo hle n = ρ' n := if_neg (by omega)
theorem Pl.over2_tlt (h : n < lo) : (Pl.over2 ρ ρ' lo hle).tv n = ρ.tv n := if_pos h
theorem Pl.over2_tge (h : lo ≤ n) : (Pl.over2 ρ ρ' lo hle).tv n = ρ'.tv n := if_neg (by omega)
/-- The other one's numbers stay, where those below are the first one's too. -/
theorem Pl.over2_mono (hf : ∀ n k, n < lo → ρ' n = some k → ρ n = some k) (ht : ∀ n, n < lo → ρ'.tv n = Option.none ∨ ρ'.tv n = ρ.tv n) (htf : ∀ n k, n < lo → ρ' n = some k → ρ'.tv n = ρ.tv n) (hro1 : ∀ i v, ρ'.ro.hd i = some v → ρ.ro.hd i = some v) (hro2 : ∀ n o, ρ'.ro.obj n = some o → (Pl.over2 ρ ρ' lo hle).ro.obj n = some o) : MonoF ρ' (Pl.over2 ρ ρ' lo hle) := by
  have fl : ∀ (i n : Nat), ρ' i = some n → Pl.over2 ρ ρ' lo hle i = some n := fun i n hi => by
    rcases Nat.lt_or_ge i lo with h | h
    · rw [Pl.over2_lt _ h]; exact hf i n h hi
    · rw [Pl.over2_ge _ h]; exact hi
  refine ⟨⟨fun i n hi => ?_, fun i v hi => ?_, hro1, hro2⟩, fl⟩
  · obtain ⟨h1, h2⟩ := Pl.pin_f hi
    refine Pl.pin_of (fl i n h1) ?_
    rcases Nat.lt_or_ge i lo with h | h
    · rw [Pl.over2_tlt _ h, ← htf i n h h1]; exact h2
    · rw [Pl.over2_tge _ h]; exact h2
  · rcases Nat.lt_or_ge i lo with h | h
    · rw [Pl.over2_tlt _ h]
      rcases ht i h with e | e
      · rw [e] at hi; cases hi
      · rw [← e]; exact hi
    · rw [Pl.over2_tge _ h]; exact hi
end
theorem Post.made {ρ ρ' : Pl} {w w' : World} {v : AV} {lo hi : Nat} {H : Heap} {e : Eft} (he : e.made H) (ht : ρ.top = lo) (hp : Placed ρ w) (hext : Ext (Pl.none lo) ρ') (hle : lo ≤ ρ'.top) (hr : HRel ρ' H hi w') (hv : Inv w MS.no ρ' w') :
    Post ⟨v, lo, hi, e⟩ ρ (Pl.over2 ρ ρ' lo hle) w w' ∧ MonoF ρ' (Pl.over2 ρ ρ' lo hle) := by
  have hnone : ∀ n, n < lo → ρ' n = Option.none := fun n hn => by
    rcases hext.2 n hn with e | ⟨e, _⟩
    · exact e
    · exact e
  have htnone : ∀ n, n < lo → ρ'.tv n = Option.none := fun n hn => hext.1.tv n hn
  have hnew : ∀ n k, ρ' n = some k → w.heap.size ≤ k ∧ lo ≤ n := fun n k h => by
    refine ⟨(hv.fresh n k h).resolve_left (fun h => h), ?_⟩
    rcases Nat.lt_or_ge n lo with hlt | hge
    · rw [hnone n hlt] at h
      cases h
    · exact hge
  have hcase : ∀ {n k : Nat}, Pl.over2 ρ ρ' lo hle n = some k → (n < lo ∧ ρ n = some k) ∨ (lo ≤ n ∧ ρ' n = some k) := fun {n k} h => by
    rcases Nat.lt_or_ge n lo with hlt | hge
    · rw [Pl.over2_lt _ hlt] at h
      exact .inl ⟨hlt, h⟩
    · rw [Pl.over2_ge _ hge] at h
      exact .inr ⟨hge, h⟩
  have hro : ρ'.ro.hd = RO.none.hd := hext.1.ro.hd
  have hroF : ∀ n o, ρ'.ro.obj n = some o → w.heap.size ≤ n := fun n o h => by
    rcases hv.roF n o h with h | h | h
    · exact h.elim
    · exact h.elim
    · exact h
  have hroN : ∀ n o, ρ'.ro.obj n = some o → ρ.ro.obj n = Option.none := fun n o h => by
    cases e : ρ.ro.obj n with
    | none => rfl
    | some o2 =>
      have := (Array.getElem?_eq_some_iff.1 (hp.ro n o2 e).1).1
      have := hroF n o h
      omega
  have hroL : ∀ n o, ρ.ro.obj n = some o → (Pl.over2 ρ ρ' lo hle).ro.obj n = some o := fun n o h => by
    show (match ρ.ro.obj n with | some o => some o | Option.none => ρ'.ro.obj n) = some o
    rw [h]
  have hroR : ∀ n o, ρ'.ro.obj n = some o → (Pl.over2 ρ ρ' lo hle).ro.obj n = some o := fun n o h => by
    show (match ρ.ro.obj n with | some o => some o | Option.none => ρ'.ro.obj n) = some o
    rw [hroN n o h]
    exact h
  have hroB : ∀ n o, (Pl.over2 ρ ρ' lo hle).ro.obj n = some o → ρ.ro.obj n = some o ∨ ρ'.ro.obj n = some o := fun n o h => by
    have h : (match ρ.ro.obj n with | some o => some o | Option.none => ρ'.ro.obj n) = some o := h
    cases e : ρ.ro.obj n with
    | none =>
      rw [e] at h
      exact .inr h
    | some o2 =>
      rw [e] at h
      exact .inl h
  have hm : MonoF ρ' (Pl.over2 ρ ρ' lo hle) := Pl.over2_mono hle (fun n k hn h => (by rw [hnone n hn] at h; cases h)) (fun n hn => .inl (htnone n hn)) (fun n k hn h => (by rw [hnone n hn] at h; cases h)) (fun i v x => (by rw [hro] at x; cases x)) hroR
  refine ⟨⟨⟨⟨by rw [ht]; exact hle, ⟨rfl, hroL⟩, fun n hn => Pl.over2_tlt _ (by omega)⟩, fun n hn => .inl (Pl.over2_lt _ (by omega))⟩, fun _ n hn => Pl.over2_lt _ (by omega), hr.len, ⟨fun i j n h1 h2 => ?_, fun i n h => ?_, fun n o hn => ?_⟩, hv.os, hv.tape, hv.output, hv.size, fun k hk _ => hv.keep k hk (fun h => h), fun n k hn h => .inl ?_, fun H' h => ?_, fun n o hn => ?_⟩, hm⟩
  · rcases hcase h1 with ⟨h1, g1⟩ | ⟨h1, g1⟩ <;> rcases hcase h2 with ⟨h2, g2⟩ | ⟨h2, g2⟩
    · exact hp.inj i j n g1 g2
    · have := hp.lt i n g1
      have := (hnew j n g2).1
      omega
    · have := hp.lt j n g2
      have := (hnew i n g1).1
      omega
    · exact hr.inj i j n g1 g2
  · rcases hcase h with ⟨_, g⟩ | ⟨_, g⟩
    · exact Nat.lt_of_lt_of_le (hp.lt i n g) hv.size
    · exact hr.lt i n g
  · rcases hroB n o hn with hn | hn
    · obtain ⟨g1, g2⟩ := hp.ro n o hn
      have hlt : n < w.heap.size := (Array.getElem?_eq_some_iff.1 g1).1
      refine ⟨(hv.keep n hlt (fun h => h)).trans g1, fun j hj => ?_⟩
      rcases hcase hj with ⟨_, g⟩ | ⟨_, g⟩
      · exact g2 j g
      · have := (hnew j n g).1
        omega
    · obtain ⟨g1, g2⟩ := hr.ro n o hn
      refine ⟨g1, fun j hj => ?_⟩
      rcases hcase hj with ⟨_, g⟩ | ⟨_, g⟩
      · have := hp.lt j n g
        have := hroF n o hn
        omega
      · exact g2 j g
  · rcases hcase h with ⟨h1, _⟩ | ⟨_, g⟩
    · omega
    · exact (hnew n k g).1
  · have h2 : H' = H := by
      rcases he with rfl | rfl
      · rcases h with (h | h) | h <;> cases h
        rfl
      · rcases h with (h | h) | h <;> cases h
        rfl
    subst h2
    exact HObj.more (w := w') hr.obj hm (fun _ _ _ => rfl)
  · rcases hroB n o hn with hn | hn
    · exact .inl ⟨o, hn⟩
    · exact .inr (.inr (hroF n o hn))
/-- A placement without the slices that a memory lacks. -/
noncomputable def Pl.live (ρ : Pl) (H : Heap) : Pl := by
  classical
  exact ⟨fun i => if ρ.tv i = Option.none ∨ ∃ b, look H i = some b then ρ i else Option.none, ρ.top, fun i m h => (by
    split at h
    · exact ρ.wf i m h
    · cases h), ρ.ro, ρ.tv, ρ.twf⟩
theorem Pl.live_at {ρ : Pl} {H : Heap} {i n : Nat} : ρ.live H i = some n ↔ (ρ.tv i = Option.none ∨ ∃ b, look H i = some b) ∧ ρ i = some n := by
  classical
  have e : ρ.live H i = if ρ.tv i = Option.none ∨ ∃ b, look H i = some b then ρ i else Option.none := by
    unfold Pl.live
    rfl
  rw [e]
  by_cases h : ρ.tv i = Option.none ∨ ∃ b, look H i = some b
  · rw [if_pos h]
    exact ⟨fun x => ⟨h, x⟩, fun x => x.2⟩
  · rw [if_neg h]
    exact ⟨fun x => (by cases x), fun x => absurd x.1 h⟩
theorem Pl.live_mono (ρ : Pl) (H : Heap) : Mono ρ (ρ.live H) := ⟨fun i n hi => by
  obtain ⟨h1, h2⟩ := Pl.pin_f hi
  exact Pl.pin_of (Pl.live_at.2 ⟨.inl h2, h1⟩) h2, fun i v x => x, fun i v x => x, fun n o x => x⟩
theorem HRel.live {ρ : Pl} {H : Heap} {w : World} {lo : Nat} (ht : ρ.top = lo) (hp : Placed ρ w) (ho : HObj ρ H w) : HRel (ρ.live H) H lo w :=
  ⟨ht, fun i j n h1 h2 => hp.inj i j n (Pl.live_at.1 h1).2 (Pl.live_at.1 h2).2, fun i n h => hp.lt i n (Pl.live_at.1 h).2, fun n o hn => ⟨(hp.ro n o hn).1, fun j hj => (hp.ro n o hn).2 j (Pl.live_at.1 hj).2⟩, fun i b hb => (ho i b hb).more (ρ.live_mono H) (fun n hn => Pl.live_at.2 ⟨.inr ⟨b, hb⟩, hn⟩) fun _ _ => rfl⟩
/-- One placement's numbers where it holds, the other one's elsewhere. -/
noncomputable def Pl.mix (ρ ρ' : Pl) (p : Nat → Prop) (hp : ∀ i, p i → i < ρ'.top) : Pl := by
  classical
  exact ⟨fun n => if p n then ρ n else ρ' n, ρ'.top, fun i m h => (by
    split at h
    · exact hp i ‹_›
    · exact ρ'.wf i m h), ρ'.ro, ρ'.tv, ρ'.twf⟩
theorem Pl.mix_in {ρ ρ' : Pl} {p : Nat → Prop} {hp : ∀ i, p i → i < ρ'.top} {n : Nat} (h : p n) : Pl.mix ρ ρ' p hp n = ρ n := by
  classical
  exact if_pos h
theorem Pl.mix_out {ρ ρ' : Pl} {p : Nat → Prop} {hp : ∀ i, p i → i < ρ'.top} {n : Nat} (h : ¬ p n) : Pl.mix ρ ρ' p hp n = ρ' n := by
  classical
  exact if_neg h
theorem Post.chg {ρ ρ' : Pl} {w w' : World} {v : AV} {lo hi : Nat} {H H1 : Heap} (ht : ρ.top = lo) (hp : Placed ρ w) (hext : Ext (ρ.live H) ρ') (hr : HRel ρ' H1 hi w') (hi2 : Inv w (ρ.live H).ms ρ' w') :
    ∃ ρ2, Post ⟨v, lo, hi, .chg H1⟩ ρ ρ2 w w' ∧ MonoF ρ' ρ2 := by
  have htop : ρ.top ≤ ρ'.top := hext.1.top
  have hplt : ∀ i, (i < ρ.top ∧ ¬ (ρ.tv i = Option.none ∨ ∃ b, look H i = some b)) → i < ρ'.top := fun i h => Nat.lt_of_lt_of_le h.1 htop
  let p : Nat → Prop := fun i => i < ρ.top ∧ ¬ (ρ.tv i = Option.none ∨ ∃ b, look H i = some b)
  have hback : ∀ {n k : Nat}, n < ρ.top → ρ' n = some k → ρ.live H n = some k := fun {n k} hn h => hext.back hn h
  have hcase : ∀ {n k : Nat}, Pl.mix ρ ρ' p hplt n = some k → (p n ∧ ρ n = some k) ∨ (¬ p n ∧ ρ' n = some k) := fun {n k} h => by
    by_cases hpn : p n
    · rw [Pl.mix_in hpn] at h
      exact .inl ⟨hpn, h⟩
    · rw [Pl.mix_out hpn] at h
      exact .inr ⟨hpn, h⟩
  have htv : ∀ n, n < ρ.top → ρ'.tv n = ρ.tv n := fun n hn => hext.1.tv n hn
  have hro : RO.Le ρ.ro ρ'.ro := hext.1.ro
  have hm : MonoF ρ' (Pl.mix ρ ρ' p hplt) := by
    have fl : ∀ i n, ρ' i = some n → Pl.mix ρ ρ' p hplt i = some n := fun i n hi => by
      by_cases hpi : p i
      · exact absurd (Pl.live_at.1 (hback hpi.1 hi)).1 hpi.2
      · rw [Pl.mix_out hpi]; exact hi
    exact ⟨⟨fun i n hi => Pl.pin_of (fl i n (Pl.pin_f hi).1) (Pl.pin_f hi).2, fun _ _ h => h, fun _ _ h => h, fun _ _ h => h⟩, fl⟩
  have hmix : ∀ {i j n : Nat}, p i → ρ i = some n → ¬ p j → ρ' j = some n → False := fun {i j n} hi hn hj hn2 => by
    rcases Nat.lt_or_ge j ρ.top with hlt | hge
    · have hl := Pl.live_at.1 (hback hlt hn2)
      have := hp.inj i j n hn hl.2
      subst this
      exact hj hi
    · rcases hi2.fresh j n hn2 with ⟨i', hi'⟩ | h
      · have hl := Pl.live_at.1 hi'
        have := hp.inj i i' n hn hl.2
        subst this
        exact hi.2 hl.1
      · have := hp.lt i n hn
        omega
  refine ⟨Pl.mix ρ ρ' p hplt, ⟨⟨⟨htop, hro, fun n hn => htv n hn⟩, fun n hn => ?_⟩, fun h => absurd ⟨_, rfl⟩ h, hr.len, ⟨fun i j n h1 h2 => ?_, fun i n h => ?_, fun n o hn => ?_⟩, hi2.os, hi2.tape, hi2.output, hi2.size, fun k hk hn => hi2.keep k hk (fun ⟨i, hi⟩ => hn ⟨_, rfl⟩ i (Pl.live_at.1 hi).2), fun n k hn h => ?_, fun H' h => ?_, fun n o hn => ?_⟩, hm⟩
  · by_cases hpn : p n
    · exact .inl (Pl.mix_in hpn)
    · rw [Pl.mix_out hpn]
      rcases hext.2 n hn with e | ⟨e, u, hu⟩
      · left
        rw [e]
        have hl : ρ.tv n = Option.none ∨ ∃ b, look H n = some b := Classical.not_not.1 fun hh => hpn ⟨hn, hh⟩
        apply Option.ext
        intro m
        rw [Pl.live_at]
        exact ⟨fun x => x.2, fun x => ⟨hl, x⟩⟩
      · exact .inr ⟨e, u, hu⟩
  · rcases hcase h1 with ⟨h1, g1⟩ | ⟨h1, g1⟩ <;> rcases hcase h2 with ⟨h2, g2⟩ | ⟨h2, g2⟩
    · exact hp.inj i j n g1 g2
    · exact (hmix h1 g1 h2 g2).elim
    · exact (hmix h2 g2 h1 g1).elim
    · exact hr.inj i j n g1 g2
  · rcases hcase h with ⟨_, g⟩ | ⟨_, g⟩
    · exact Nat.lt_of_lt_of_le (hp.lt i n g) hi2.size
    · exact hr.lt i n g
  · have hn : ρ'.ro.obj n = some o := hn
    have hn' := hr.ro n o hn
    refine ⟨hn'.1, fun j hj => ?_⟩
    rcases hcase hj with ⟨hpj, g⟩ | ⟨_, g⟩
    · rcases hi2.roF n o hn with ⟨o', h⟩ | ⟨i, h⟩ | h
      · exact (hp.ro n o' h).2 j g
      · have hl := Pl.live_at.1 h
        have := hp.inj j i n g hl.2
        subst this
        exact hpj.2 hl.1
      · have := hp.lt j n g
        omega
    · exact hn'.2 j g
  · rcases hcase h with ⟨h1, _⟩ | ⟨h1, g⟩
    · exact absurd h1.1 (by omega)
    · rcases hi2.fresh n k g with ⟨i, hi⟩ | h
      · exact .inr ⟨⟨_, rfl⟩, i, (Pl.live_at.1 hi).2⟩
      · exact .inl h
  · rcases h with (h | h) | h
    · cases h
    · cases h
    · cases h
      exact HObj.more (w := w') hr.obj hm (fun _ _ _ => rfl)
  · rcases hi2.roF n o hn with h | ⟨i, h⟩ | h
    · exact .inl h
    · exact .inr (.inl ⟨⟨_, rfl⟩, i, (Pl.live_at.1 h).2⟩)
    · exact .inr (.inr h)
theorem HRel.nil {ρ : Pl} {w : World} (h : Placed ρ w) {hn : Nat} (ht : ρ.top = hn) : HRel ρ [] hn w := ⟨ht, h.inj, h.lt, h.ro, fun i b hb => by simp [look] at hb⟩
theorem Below.same (w : World) : Below w.heap.size w w := ⟨rfl, rfl, rfl, Nat.le_refl _, fun _ _ => rfl⟩
theorem rper_ok {ct : CTab} {self : Self} (hN : Named P) (hself : SelfOK P self) (hct : CtOK P ct) {ops : List Oper} {st : AS} {T : List Rec} {s : RS} (hs : KInv st (ancTab ops []) T s) {i : Nat} {o : Oper} {k : AV → Nat → Eft → Tree}
    (h : (rper P ct self (rowM (ancTab ops []) i) (envOf ops (ancTab ops []) st i o s.acc) o s k).den φ) (rn : Option Nat) (Q : Exit → Act → World → Prop) :
    ∃ v hi e, (k v hi e).den φ ∧ s.hn ≤ hi ∧ (e.touch → allM (rowM (ancTab ops []) i) s.muts = true) ∧ (e.turns → allM (rowM (ancTab ops []) i) s.mems = true) ∧ (∀ H, e.made H → ∀ n b, look H n = some b → s.hn ≤ n ∧ n < hi) ∧
      ∀ (ρ : Pl) (a : Act) (w : World) (next : Act → World → Prop), Pre ops st (ancTab ops []) T i o ⟨v, s.hn, hi, e⟩ ρ a w →
        (∀ ρ' x w', Post ⟨v, s.hn, hi, e⟩ ρ ρ' w w' → v.rel ρ' x → next (a.put o.dst x) w') → o.wpIn (FR rn) 0 P a w next Q := by
  have hout : ∀ {e : Eft}, (e = .none ∨ e = .read) → ∀ H', ¬ e.out H' := by
    rintro e (rfl | rfl) H' ((h | h) | h) <;> cases h
  have hval : ∀ {op : Op} {H : Heap} {e : Eft}, o.op = op → (∀ c, op ≠ .defer c) → (e = .none ∨ e = .read) → (e.touch → allM (rowM (ancTab ops []) i) s.muts = true) → (∀ (ρ : Pl) (a : Act) (w : World) (v : AV), Pre ops st (ancTab ops []) T i o ⟨v, s.hn, s.hn, e⟩ ρ a w → HRel ρ H s.hn w) →
      (vop P { envOf ops (ancTab ops []) st i o s.acc with H := H, hn := s.hn } op fun v => k v s.hn e).den φ →
      ∃ v hi e, (k v hi e).den φ ∧ s.hn ≤ hi ∧ (e.touch → allM (rowM (ancTab ops []) i) s.muts = true) ∧ (e.turns → allM (rowM (ancTab ops []) i) s.mems = true) ∧ (∀ H, e.made H → ∀ n b, look H n = some b → s.hn ≤ n ∧ n < hi) ∧
      ∀ (ρ : Pl) (a : Act) (w : World) (next : Act → World → Prop), Pre ops st (ancTab ops []) T i o ⟨v, s.hn, hi, e⟩ ρ a w →
        (∀ ρ' x w', Post ⟨v, s.hn, hi, e⟩ ρ ρ' w w' → v.rel ρ' x → next (a.put o.dst x) w') → o.wpIn (FR rn) 0 P a w next Q := by
    intro op H e hop hnd he htouch hH h
    obtain ⟨av, h, hy⟩ := vop_ok h
    refine ⟨av, s.hn, e, h, Nat.le_refl _, htouch, fun ⟨H', ht⟩ => ?_, fun H' hf => ?_, fun ρ a w next hpre hk => ⟨fun _ _ => trivial, ?_⟩⟩
    · rcases he with rfl | rfl <;> cases ht
    · rcases he with rfl | rfl <;> rcases hf with hf | hf <;> cases hf
    · obtain ⟨v, hv, hrun⟩ := hy ρ a w o hop (hpre.env hs) (hH ρ a w av hpre)
      rw [semAt_of (by rw [hop]; exact hnd), hrun, Oper.uponIn_value]
      exact hk ρ v w (Post.quiet hpre.top hpre.placed (Below.same w) (hout he)) hv
  have hmem : ∀ {op : Op} {H : Heap} {e : Heap → Eft} {g : Nat → Heap → Bool}, o.op = op → (∀ c, op ≠ .defer c) → ((freshOp op = true ∧ (∀ c, op ≠ .call c) ∧ H = [] ∧ e = Eft.fresh ∧ g = keysIn s.hn) ∨ (allM (rowM (ancTab ops []) i) s.muts = true ∧ allM (rowM (ancTab ops []) i) s.mems = true ∧ H = seen (rowM (ancTab ops []) i) s.fr s.cur ∧ e = Eft.chg ∧ g = fun hn _ => Nat.ble s.hn hn)) →
      (eop P { envOf ops (ancTab ops []) st i o s.acc with H := H, hn := s.hn } op fun v H hn => match g hn H with
        | true => k v hn (e H)
        | false => .fail "numbers").den φ →
      ∃ v hi e, (k v hi e).den φ ∧ s.hn ≤ hi ∧ (e.touch → allM (rowM (ancTab ops []) i) s.muts = true) ∧ (e.turns → allM (rowM (ancTab ops []) i) s.mems = true) ∧ (∀ H, e.made H → ∀ n b, look H n = some b → s.hn ≤ n ∧ n < hi) ∧
      ∀ (ρ : Pl) (a : Act) (w : World) (next : Act → World → Prop), Pre ops st (ancTab ops []) T i o ⟨v, s.hn, hi, e⟩ ρ a w →
        (∀ ρ' x w', Post ⟨v, s.hn, hi, e⟩ ρ ρ' w w' → v.rel ρ' x → next (a.put o.dst x) w') → o.wpIn (FR rn) 0 P a w next Q := by
    intro op H e g hop hnd hcase h0
    obtain ⟨av, H', hn', h, he⟩ := eop_ok h0
    clear h0
    split at h
    · rename_i hg
      rcases hcase with ⟨hf, hnc, rfl, rfl, rfl⟩ | ⟨hm1, hm2, rfl, rfl, rfl⟩
      · obtain ⟨hle, hkeys⟩ := keysIn_spec hg
        refine ⟨av, hn', _, h, hle, fun ht => ht.elim, fun ⟨_, ht⟩ => (by cases ht), fun H2 h2 => (by rcases h2 with h2 | h2 <;> cases h2; exact hkeys), fun ρ a w next hpre hk => ⟨fun _ _ => trivial, ?_⟩⟩
        obtain ⟨v, nx, ρ', w', hrun, hnx, hext, hv, hr, hi, hpush, hst, hro⟩ := he w _ ρ a w o hop (hpre.env hs) (HRel.nil hpre.placed hpre.top) (Inv.self ρ w)
        obtain ⟨o', ho'⟩ := hpush hf
        rw [semAt_of (by rw [hop]; exact hnd), hrun]
        have hfin := hk ρ' v w' (Post.of hext (fun _ => hst hf hnc) hr hi (.inr ⟨fun k hk => by rw [ho', Array.getElem?_push, if_neg (by omega)], hro hf⟩) (fun H2 h2 => by
          rcases h2 with (h2 | h2) | h2 <;> cases h2
          rfl)) hv
        rcases hnx with rfl | ⟨rfl, rfl⟩
        · exact hfin
        · exact hfin
      · refine ⟨av, hn', _, h, Nat.le_of_ble_eq_true hg, fun _ => hm1, fun _ => hm2, fun H2 h2 => (by rcases h2 with h2 | h2 <;> cases h2), fun ρ a w next hpre hk => ⟨fun _ _ => trivial, ?_⟩⟩
        obtain ⟨v, nx, ρ', w', hrun, hnx, hext, hv, hr, hi, _, hst, _⟩ := he w _ ρ a w o hop (hpre.env hs) (HRel.of hpre.placed hpre.top (hs.seen hm1 (hpre.heap trivial))) (Inv.self ρ w)
        rw [semAt_of (by rw [hop]; exact hnd), hrun]
        have hfin := hk ρ' v w' (Post.of hext (fun ht => absurd ⟨_, rfl⟩ ht) hr hi (.inl ⟨_, rfl⟩) (fun H2 h2 => by
          rcases h2 with (h2 | h2) | h2 <;> cases h2
          rfl)) hv
        rcases hnx with rfl | ⟨rfl, rfl⟩
        · exact hfin
        · exact hfin
    · exact h.elim
  unfold rper at h
  split at h
  · rename_i t x hop
    split at h
    · rename_i hm
      exact hval hop (by intro c hc; cases hc) (.inr rfl) (fun _ => hm) (fun ρ a w v hpre => HRel.of hpre.placed hpre.top (hs.seen hm (hpre.heap trivial))) (by rw [← hop]; exact h)
    · exact h.elim
  · rename_i t x y hop
    split at h
    · rename_i hm
      simp only [Bool.and_eq_true] at hm
      exact hmem (e := Eft.chg) (g := fun hn _ => Nat.ble s.hn hn) hop (by intro c hc; cases hc) (.inr ⟨hm.1, hm.2, rfl, rfl, rfl⟩) (by rw [← hop]; exact h)
    · exact h.elim
  · rename_i c hop
    split at h
    · rename_i f hcal
      obtain ⟨vf, h1, hf⟩ := ev_ok h
      obtain ⟨l, h2, hl⟩ := evL_ok h1
      clear h h1
      have h := h2
      clear h2
      split at h
      · rename_i g first capt
        have hargs : ∀ (ρ : Pl) (a : Act), SRel ρ st.sz (envOf ops (ancTab ops []) st i o s.acc).slots a.tmps → ∃ us vs, AV.relL ρ (first ++ l ++ capt) (us ++ c.args.toList.map a.eval ++ vs) ∧
            ∀ {fn : Func} {cd : Code} (w : World), P.funcs[g]? = some fn → fn.body = some cd → (execOp a.eval o).run P w = .ok (.enter g (us ++ c.args.toList.map a.eval ++ vs).toArray) w := by
          intro ρ a henv
          obtain ⟨x, hx, e⟩ := hf ρ a henv
          have hxs := hl ρ a henv
          have hargs := relL_map hxs
          obtain ⟨us, vs, hus, hvs, ex⟩ := hx
          refine ⟨us, vs, relL_append (relL_append hus hxs) hvs, fun w hfn hbd => ?_⟩
          simp only [execOp, hop, resolve, hcal, Sem.run_bind, e, ex, Deferred.ofValue, Sem.run_pure, Result.andThen_ok, invoke, hargs]
          rw [enters hN hfn hbd]
          simp
        have hnd : ∀ c, o.op ≠ .defer c := by rw [hop]; intro c hc; cases hc
        split at h
        · rename_i hfl
          obtain ⟨v, H1, hn1, h, hleaf⟩ := Tree.den_seq_leaf h
          have hcall : ∀ (ρ : Pl) (a : Act) (w : World) (R : Ending → World → Prop), SRel ρ st.sz (envOf ops (ancTab ops []) st i o s.acc).slots a.tmps →
              (∀ ρ' x w', Ext (Pl.none s.hn) ρ' → v.rel ρ' x → HRel ρ' H1 hn1 w' → Inv w MS.no ρ' w' → R (.returned x) w') →
              ∃ xs, (execOp a.eval o).run P w = .ok (.enter g xs) w ∧ CallsIn (FR none) 0 P g xs w R := by
            intro ρ a w R henv hR
            obtain ⟨us, vs, hrel, hrun⟩ := hargs ρ a henv
            have hxe : us ++ c.args.toList.map a.eval ++ vs = AV.toVL (first ++ l ++ capt) := AV.relL_uniq _ (AV.flatL_uq _ hfl) hrel (AV.flatL_rel _ hfl)
            obtain ⟨⟨fn, cd, hfn, hbd⟩, hc⟩ := callF_ok hself hct (φ := fun v' H' hn' => v' = v ∧ H' = H1 ∧ hn' = hn1) (w0 := w) (m0 := MS.no) (ρ := Pl.none s.hn) (H := []) (hn := s.hn) (k := Tree.ret) hleaf (AV.flatL_rel _ hfl) ⟨rfl, fun i j n h => (by cases h), fun i n h => (by cases h), fun n o h => (by cases h), fun i b h => by simp [look] at h⟩
              ⟨rfl, rfl, rfl, Nat.le_refl _, fun _ _ _ => rfl, fun i n h => (by cases h), fun n o h => (by cases h)⟩ (R := R)
              (fun v' H' hn' ρ' x w' hd hext hxr hr hi => by
                obtain ⟨rfl, rfl, rfl⟩ := hd
                exact hR ρ' x w' hext hxr hr hi)
            exact ⟨_, hrun w hfn hbd, by rw [hxe]; exact hc⟩
          split at h
          · rename_i hvf
            refine ⟨v, s.hn, .none, h, Nat.le_refl _, fun ht => ht.elim, fun ⟨_, ht⟩ => (by cases ht), fun H2 h2 => (by rcases h2 with h2 | h2 <;> cases h2), fun ρ a w next hpre hk => ⟨fun _ _ => trivial, ?_⟩⟩
            obtain ⟨xs, hrun, hc⟩ := hcall ρ a w (fun e w' => match e with
              | .returned x => next (a.put o.dst x) w'
              | .panicked chain => Q (.panic chain) a w'
              | .outgrown => LetsOut Q) (hpre.env hs) (fun ρ' x w' hext hxr hr hi => by
                obtain rfl := AV.rel_uniq _ (AV.flat_uq _ hvf) hxr (AV.flat_rel v hvf)
                exact hk ρ _ w' (Post.quiet hpre.top hpre.placed ⟨hi.os, hi.tape, hi.output, hi.size, fun k hk => hi.keep k hk (fun h => h)⟩ (hout (.inl rfl))) (AV.flat_rel v hvf))
            rw [semAt_of hnd, hrun, Oper.uponIn_enter]
            exact ⟨fun hh => (by cases hh), CallsIn.mono hc fun e w' h => by cases e <;> exact h⟩
          · split at h
            · rename_i hky
              obtain ⟨hle, hkeys⟩ := keysIn_spec hky
              refine ⟨v, hn1, _, h, hle, fun ht => ht.elim, fun ⟨_, ht⟩ => (by cases ht), fun H2 h2 => (by rcases h2 with h2 | h2 <;> cases h2; exact hkeys), fun ρ a w next hpre hk => ⟨fun _ _ => trivial, ?_⟩⟩
              obtain ⟨xs, hrun, hc⟩ := hcall ρ a w (fun e w' => match e with
                | .returned x => next (a.put o.dst x) w'
                | .panicked chain => Q (.panic chain) a w'
                | .outgrown => LetsOut Q) (hpre.env hs) (fun ρ' x w' hext hxr hr hi => by
                  obtain ⟨hp, hm⟩ := Post.made (v := v) (.inl rfl) hpre.top hpre.placed hext hext.1.top hr hi
                  exact hk _ _ w' hp (AV.rel_more hm.toMono v hxr))
              rw [semAt_of hnd, hrun, Oper.uponIn_enter]
              exact ⟨fun hh => (by cases hh), CallsIn.mono hc fun e w' h => by cases e <;> exact h⟩
            · exact h.elim
        · split at h
          · rename_i fc hm hfc
            obtain ⟨r, hr1, h⟩ := h
            dsimp only at h
            split at h
            · rename_i hky
              obtain ⟨hle, hkeys⟩ := keysIn_spec hky
              refine ⟨fc.enc r, (fc.h r).2, .both (fc.h r).1, h, hle, fun _ => hm, fun ⟨_, ht⟩ => (by cases ht), fun H2 h2 => (by rcases h2 with h2 | h2 <;> cases h2; exact hkeys), fun ρ a w next hpre hk => ⟨fun _ _ => trivial, ?_⟩⟩
              obtain ⟨us, vs, hrel, hrun⟩ := hargs ρ a (hpre.env hs)
              have hobj := hs.seen hm (hpre.heap trivial)
              unfold fcon at hfc
              split at hfc
              · rename_i cc hb hcc
                split at hfc
                · rename_i hh hfr heqs
                  cases hfc
                  unfold hasBody at hb
                  split at hb
                  · rename_i fn hfn
                    split at hb
                    · rename_i cd hbd
                      rw [semAt_of hnd, hrun w (nth_funcs hfn) hbd, Oper.uponIn_enter]
                      refine ⟨fun hh => (by cases hh), CallsIn.mono (callsIn_wide.2 (hct g _ _ _ cc hcc (fun p hp => by rw [heqs] at hp; cases hp) r hr1 (ρ.live _) w _ (AV.relL_more (ρ.live_mono _) _ hrel) (HRel.live hpre.top hpre.placed hobj))) ?_⟩
                      rintro e w' ⟨v, ρ', rfl, hv1, hh2, he, hpost⟩
                      obtain ⟨ρ2, h1, h2, h3, h4⟩ := hpost _ hfr
                      obtain ⟨hp, hmo⟩ := Post.made (v := cc.enc r) (.inr rfl) hpre.top hpre.placed h1 h1.1.top h3 h4
                      exact hk _ _ w' hp (AV.rel_more hmo.toMono _ h2)
                    · cases hb
                  · cases hb
                · cases hfc
              · cases hfc
            · exact h.elim
          split at h
          · rename_i hm
            simp only [Bool.and_eq_true] at hm
            obtain ⟨v, H1, hn1, h, hleaf⟩ := Tree.den_seq_leaf h
            split at h
            · rename_i hle
              refine ⟨v, hn1, .chg H1, h, Nat.le_of_ble_eq_true hle, fun _ => hm.1, fun _ => hm.2, fun H2 h2 => (by rcases h2 with h2 | h2 <;> cases h2), fun ρ a w next hpre hk => ⟨fun _ _ => trivial, ?_⟩⟩
              obtain ⟨us, vs, hrel, hrun⟩ := hargs ρ a (hpre.env hs)
              have hobj := hs.seen hm.1 (hpre.heap trivial)
              obtain ⟨⟨fn, cd, hfn, hbd⟩, hc⟩ := callF_ok hself hct (φ := fun v' H' hn' => v' = v ∧ H' = H1 ∧ hn' = hn1) (w0 := w) (m0 := (ρ.live (seen (rowM (ancTab ops []) i) s.fr s.cur)).ms) (k := Tree.ret) hleaf (AV.relL_more (ρ.live_mono _) _ hrel) (HRel.live hpre.top hpre.placed hobj) (Inv.self _ w)
                (R := fun e w' => match e with
                | .returned x => next (a.put o.dst x) w'
                | .panicked chain => Q (.panic chain) a w'
                | .outgrown => LetsOut Q)
                (fun v' H' hn' ρ' x w' hd hext hxr hr hi => by
                  obtain ⟨rfl, rfl, rfl⟩ := hd
                  obtain ⟨ρ2, hp, hmo⟩ := Post.chg (v := v') hpre.top hpre.placed hext hr hi
                  exact hk _ x w' hp (AV.rel_more hmo.toMono _ hxr))
              rw [semAt_of hnd, hrun w hfn hbd, Oper.uponIn_enter]
              exact ⟨fun hh => (by cases hh), CallsIn.mono hc fun e w' h => by cases e <;> exact h⟩
            · exact h.elim
          · exact h.elim
      · exact h.elim
    · split at h
      · split at h
        · rename_i hm
          simp only [Bool.and_eq_true] at hm
          exact hmem (e := Eft.chg) (g := fun hn _ => Nat.ble s.hn hn) hop (by intro c hc; cases hc) (.inr ⟨hm.1, hm.2, rfl, rfl, rfl⟩) (by rw [← hop]; exact h)
        · exact h.elim
      · obtain ⟨l, h, hl⟩ := evL_ok h
        split at h
        · split at h
          · rename_i hm
            exact hval hop (by intro c hc; cases hc) (.inr rfl) (fun _ => hm) (fun ρ a w v hpre => HRel.of hpre.placed hpre.top (hs.seen hm (hpre.heap trivial))) (by rw [← hop]; exact h)
          · exact h.elim
        · exact hval hop (by intro c hc; cases hc) (.inl rfl) (fun ht => ht.elim) (fun ρ a w v hpre => HRel.nil hpre.placed hpre.top) (by rw [← hop]; exact h)
    · exact h.elim
  · have hnd : ∀ c, o.op ≠ .defer c := by
      intro c hc
      rw [hc] at h
      exact h.elim
    split at h
    · rename_i hf
      exact hmem (e := Eft.fresh) (g := keysIn s.hn) rfl hnd (.inl ⟨hf, (fun c hc => by rw [hc] at hf; cases hf), rfl, rfl, rfl⟩) h
    · split at h
      · split at h
        · rename_i hm
          simp only [Bool.and_eq_true] at hm
          exact hmem (e := Eft.chg) (g := fun hn _ => Nat.ble s.hn hn) rfl hnd (.inr ⟨hm.1, hm.2, rfl, rfl, rfl⟩) h
        · exact h.elim
      · split at h
        · split at h
          · rename_i hm
            exact hval rfl hnd (.inr rfl) (fun _ => hm) (fun ρ a w v hpre => HRel.of hpre.placed hpre.top (hs.seen hm (hpre.heap trivial))) h
          · split at h
            · rename_i hsl
              cases hop : o.op with
              | slice t x lo hi mx =>
                rw [hop] at h
                obtain ⟨av, h, hy⟩ := vslice_ok h
                refine ⟨av, s.hn, .none, h, Nat.le_refl _, fun ht => ht.elim, fun ⟨_, ht⟩ => (by cases ht), fun H2 h2 => (by rcases h2 with h2 | h2 <;> cases h2), fun ρ a w next hpre hk => ⟨fun _ _ => trivial, ?_⟩⟩
                obtain ⟨v, hv, hrun⟩ := hy ρ a w o hop (hpre.env hs) hpre.hdrs
                rw [semAt_of hnd, hrun, Oper.uponIn_value]
                exact hk ρ v w (Post.quiet hpre.top hpre.placed (Below.same w) (hout (.inl rfl))) hv
              | _ => rw [hop] at hsl; cases hsl
            · exact h.elim
        · exact hval rfl hnd (.inl rfl) (fun ht => ht.elim) (fun ρ a w v hpre => HRel.nil hpre.placed hpre.top) h
end Go.Proofs.Ytaoplfmaiclfkaa.SX
