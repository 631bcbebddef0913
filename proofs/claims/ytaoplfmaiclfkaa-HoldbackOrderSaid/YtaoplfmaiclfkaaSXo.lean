/- A symbolic walk: slices of whole numbers that came in. -/
import Derived.Test.YtaoplfmaiclfkaaSXn
import Derived.Test.YtaoplfmaiclfkaaXOpen
namespace Go.Proofs.Ytaoplfmaiclfkaa.SX
set_option linter.unusedVariables false
set_option linter.unusedSimpArgs false
open Go Go.RowKit Go.ChangeShapes Go.WideShapes Go.Proofs.YtaoplfmaiclfkaaW.PrintWords Go.Proofs.Ytaoplfmaiclfkaa.XOpen
theorem agg_p {l m : List AV} (h : Ptw l m) : Ptw1 (.agg l) (.agg m) := ⟨fun ρ x ⟨xs, hx, e⟩ => ⟨xs, h.rel hx, e⟩, fun t l e => by cases e⟩
theorem ints_all {ob : Nat → Option Obj} {k : IntKind} : ∀ (l : List Int), AllR (RelT ob (.int k)) l (l.map fun n => Value.int k n)
  | [] => rfl
  | n :: l => ⟨[.int k n], _, rfl, ints_all l, rfl⟩
theorem open_sl {H : Type} {enc : TypeId × Value → H} {P : Program} {W : World} {t e : TypeId} {k : IntKind} {v : Value} {x : DataW H × List MemPlace} (ht : P.underlying t = some (.slice e)) (he : P.underlying e = some (.int k)) (hc : P.cellsOf e = 1) (hv : ∃ a len cap, v = .slice a len cap)
    (h : ∃ fuel, DataW.trod enc P W 0 (fun _ => true) true fuel t v.cells.toList = some x) :
    ∃ l : List Int, SliceAt W (fun n => W.heap[n]?) (.int k) v l ∧ ∀ n ∈ l, (Lit.int k n).wf = true := by
  obtain ⟨a0, len0, cap0, rfl⟩ := hv
  obtain ⟨fuel, hf⟩ := h
  rcases open_ints ht he hc hf with ⟨hcs, _⟩ | ⟨a, len, cap, zs, hcs, _, hle, _, hz, _, hcell, hwf⟩
  · simp [Value.cells] at hcs
    obtain ⟨rfl, rfl, rfl⟩ := hcs
    exact ⟨[], .inl ⟨none, rfl, rfl⟩, fun n hn => by cases hn⟩
  · simp [Value.cells] at hcs
    obtain ⟨rfl, rfl, rfl⟩ := hcs
    have hz2 : zs.length = cap0 := by simpa using hz
    rcases Nat.eq_zero_or_pos cap0 with h0 | hpos
    · subst h0
      have : len0 = 0 := by omega
      subst this
      exact ⟨[], .inl ⟨some a, rfl, rfl⟩, fun n hn => by cases hn⟩
    · have hlen : (zs.take len0).length = len0 := by simp; omega
      obtain ⟨b, off, rfl, hat⟩ := Go.ints_at hcell (by omega)
      have hc0 := hat 0 (by omega)
      obtain ⟨cs, ct, fz, hb⟩ : ∃ cs ct fz, W.heap[b]? = some (.cells cs ct fz) := by
        unfold World.cell? at hc0
        split at hc0
        · exact ⟨_, _, _, ‹_›⟩
        · cases hc0
      have hcs : ∀ j, j < cap0 → cs[off + j]? = some (.int k (zs.getD j 0)) := fun j hj => by
        have := hat j (by omega)
        unfold World.cell? at this
        rw [hb] at this
        dsimp only at this
        rw [if_neg (by simp)] at this
        exact this
      refine ⟨zs.take len0, .inr ⟨b, off, cap0, cs, ct, fz, (zs.take len0).map fun n => Value.int k n, congrArg (fun z => Value.slice (some ⟨b, off, none⟩) z cap0) hlen.symm, Nat.le_trans (Nat.le_of_eq hlen) hle, hb, ints_all _, ?_⟩, fun n hn => hwf n (List.mem_of_mem_take hn)⟩
      show (cs.toList.drop off).take ((zs.take len0).length * 1) = (zs.take len0).map fun n => Value.int k n
      rw [hlen, Nat.mul_one]
      apply List.ext_getElem?
      intro j
      rw [ List.getElem?_take, List.getElem?_drop, List.getElem?_map, List.getElem?_take]
      by_cases hj : j < len0
      · rw [if_pos hj, if_pos hj]
        have h1 := hcs j (by omega)
        have h2 : zs[j]? = some (zs.getD j 0) := by
          rw [List.getD_eq_getElem?_getD, List.getElem?_eq_getElem (by omega)]
          rfl
        rw [h2]
        simpa using h1
      · rw [if_neg hj, if_neg hj]
        rfl
theorem KT_int {k : IntKind} : ∀ (w : World) (x : Int) (cs : List Value), (Kd.int k).K w x cs → ∀ ob, RelT ob (.int k) x cs := fun w x cs h ob => h
theorem KT_bool : ∀ (w : World) (x : Bool) (cs : List Value), Kd.bool.K w x cs → ∀ ob, RelT ob .bool x cs := fun w x cs h ob => h
theorem KT_str : ∀ (w : World) (x : ByteArray) (cs : List Value), Kd.string.K w x cs → ∀ ob, RelT ob .str x cs := fun w x cs h ob => h
theorem KT_pair {a b : Ty} {d : Kd a.El} {d2 : Kd b.El} (h : ∀ (w : World) x cs, d.K w x cs → ∀ ob, RelT ob a x cs) (h2 : ∀ (w : World) x cs, d2.K w x cs → ∀ ob, RelT ob b x cs) :
    ∀ (w : World) (x : a.El × b.El) cs, (Kd.pair d d2).K w x cs → ∀ ob, RelT ob (.pair a b) x cs := fun w x cs hk ob => by
  obtain ⟨c0, c1, rfl, k0, k1⟩ := hk
  exact ⟨c0, c1, h w _ _ k0 ob, h2 w _ _ k1 ob, rfl⟩
theorem allR_of {α : Type} {R : α → List Value → Prop} {sz : Nat} (hsz : ∀ x c, R x c → c.length = sz) : ∀ (l : List α) (xs : List Value), xs.length = l.length * sz → (∀ i x, l[i]? = some x → R x ((xs.drop (i * sz)).take sz)) → AllR R l xs
  | [], xs, h, _ => List.eq_nil_of_length_eq_zero (by simpa using h)
  | x :: l, xs, h, hr => by
    have hl : xs.length = sz + l.length * sz := by rw [h, List.length_cons, Nat.succ_mul, Nat.add_comm]
    refine ⟨xs.take sz, xs.drop sz, ?_, allR_of hsz l _ (by rw [List.length_drop, hl]; omega) fun i y hy => ?_, (List.take_append_drop _ _).symm⟩
    · have := hr 0 x rfl
      simpa using this
    · have := hr (i + 1) y (by simpa using hy)
      rw [List.drop_drop]
      rwa [show (i + 1) * sz = sz + i * sz by rw [Nat.succ_mul, Nat.add_comm]] at this
/-- Whatever is read at type T is such an element, and is fine. -/
def OpT {H : Type} (enc : TypeId × Value → H) (P : Program) (W : World) (T : TypeId) (ty : Ty) (ok : ty.El → Prop) : Prop :=
  P.cellsOf T = ty.size ∧ ∀ fuel cs x, DataW.trod enc P W 0 (fun _ => true) true fuel T cs = some x → Wt P T x.1 → ∃ a, RelT (fun n => W.heap[n]?) ty a cs ∧ ok a
section
variable {H : Type} {enc : TypeId × Value → H} {P : Program} {W : World} {T : TypeId}
theorem opT_of {ty : Ty} {d : Kd ty.El} {ok : ty.El → Prop} (h : Opens enc P W T d ok) (hs : d.sz = ty.size) (hK : ∀ (w : World) x cs, d.K w x cs → ∀ ob, RelT ob ty x cs) : OpT enc P W T ty ok :=
  ⟨h.1.trans hs, fun fuel cs x hx hw => by
    obtain ⟨a, hk, ho⟩ := h.2 fuel cs x hx hw
    exact ⟨a, hK W a cs hk _, ho⟩⟩
theorem opT_int {k : IntKind} (ht : P.underlying T = some (.int k)) (hc : P.cellsOf T = 1) : OpT enc P W T (.int k) (fun n => (Lit.int k n).wf = true) := opT_of (ty := .int k) (opens_int ht hc) rfl KT_int
theorem opT_bool (ht : P.underlying T = some .bool) (hc : P.cellsOf T = 1) : OpT enc P W T .bool (fun _ => True) := opT_of (ty := .bool) (opens_bool ht hc) rfl KT_bool
theorem opT_str (ht : P.underlying T = some .string) (hc : P.cellsOf T = 1) : OpT enc P W T .str (fun s => s.size ≤ 140737488351232) := opT_of (ty := .str) (opens_str ht hc) rfl KT_str
def OpTF (enc : TypeId × Value → H) (P : Program) (W : World) (fs : List Field) (off : Nat) (ty : Ty) (ok : ty.El → Prop) : Prop :=
  ∀ n cs (ys : List (DataW H × List MemPlace)), cs.length = ty.size → ys.length = fs.length → (∀ (i : Nat) (f : Field), fs[i]? = some f → DataW.trod enc P W 0 (fun _ => true) true n f.type ((cs.drop (f.offset - off)).take (P.cellsOf f.type)) = ys[i]?) →
    (∀ m ∈ DataW.weightsEach P (fs.map (·.type)) (ys.map (·.1)), m ≤ reachBytes) → ∃ a, RelT (fun n => W.heap[n]?) ty a cs ∧ ok a
theorem opTF_one {ty : Ty} {ok : ty.El → Prop} {f : Field} {off : Nat} (h : OpT enc P W f.type ty ok) (ho : f.offset = off) : OpTF enc P W [f] off ty ok := by
  intro n cs ys hcs hys hf hw
  obtain ⟨y, rfl⟩ : ∃ y, ys = [y] := by
    cases ys with
    | nil => simp at hys
    | cons y r =>
      cases r with
      | nil => exact ⟨y, rfl⟩
      | cons _ _ => simp at hys
  have h0 := hf 0 f rfl
  rw [ho, Nat.sub_self, List.drop_zero, List.take_of_length_le (by rw [h.1, hcs]; exact Nat.le_refl _)] at h0
  exact h.2 n cs y h0 (fun m hm => hw m (by simp [DataW.weightsEach, hm]))
theorem opTF_cons {a b : Ty} {ok : a.El → Prop} {ok2 : b.El → Prop} {f : Field} {fs : List Field} {off : Nat} (h : OpT enc P W f.type a ok) (ho : f.offset = off) (hr : OpTF enc P W fs (off + a.size) b ok2)
    (hoff : ∀ g ∈ fs, off + a.size ≤ g.offset) : OpTF enc P W (f :: fs) off (.pair a b) (fun x => ok x.1 ∧ ok2 x.2) := by
  intro n cs ys hcs hys hf hw
  have hsz : (Ty.pair a b).size = a.size + b.size := rfl
  rw [hsz] at hcs
  cases ys with
  | nil => simp at hys
  | cons y r =>
    have h0 := hf 0 f rfl
    rw [ho, Nat.sub_self, List.drop_zero, h.1] at h0
    obtain ⟨x, kx, ox⟩ := h.2 n _ y h0 (fun m hm => hw m (by simp [DataW.weightsEach, hm]))
    obtain ⟨z, kz, oz⟩ := hr n (cs.drop a.size) r (by simp; omega) (by simpa using hys) (fun i g hg => by
      have hi := hf (i + 1) g (by simpa using hg)
      have hle := hoff g (List.mem_iff_getElem?.2 ⟨i, hg⟩)
      rw [List.drop_drop, show a.size + (g.offset - (off + a.size)) = g.offset - off from by omega]
      simpa using hi) (fun m hm => hw m (by simp [DataW.weightsEach, hm]))
    exact ⟨(x, z), ⟨_, _, kx, kz, (List.take_append_drop a.size cs).symm⟩, ox, oz⟩
theorem opT_struct {ty : Ty} {ok : ty.El → Prop} {fs : Array Field} (ht : P.underlying T = some (.struct fs)) (hc : P.cellsOf T = ty.size) (h : OpTF enc P W fs.toList 0 ty ok) : OpT enc P W T ty ok :=
  ⟨hc, fun fuel cs x hx hw => by
    obtain ⟨xs, n, rfl, rfl, hl, hs, hf⟩ := DataW.trod_struct ht hx
    refine h n cs xs (by omega) (by simpa using hs) (fun i f hi => ?_) (fun m hm => hw m ?_)
    · rw [Nat.sub_zero]
      exact hf i f (by simpa using hi)
    · simp only [DataW.weights, ht]
      exact hm⟩
/-- A struct that came in, as an element. -/
def AggAt (w : World) (t : Ty) (v : Value) (x : t.El) : Prop := ∃ cs : List Value, v = .agg cs.toArray ∧ RelT (fun n => w.heap[n]?) t x cs
theorem rel_agg {w : World} {vs : List Value} {t : Ty} {v : Value} {x : t.El} (h : AggAt w t v x) : (AV.agg (t.avs x)).rel (Pl.none 0 (inRO w vs)) v := by
  obtain ⟨cs, rfl, h⟩ := h
  exact ⟨cs, relT_avs _ _ _ h, rfl⟩
theorem open_aggT {ty : Ty} {ok : ty.El → Prop} {fs : Array Field} {r : Reach} {b0 : Nat} {v : Value} {dat : DataW H} {p : List MemPlace} (h : OpT enc P W T ty ok) (ht : P.underlying T = some (.struct fs)) (hv : Value.okWide P W r b0 T v)
    (hd : DataW.Trod enc P W 0 (fun _ => true) true T v dat p) (hw : Wt P T dat) : ∃ a : ty.El, AggAt W ty v a ∧ ok a := by
  obtain ⟨⟨cs⟩, rfl, _⟩ := okWide_struct ht hv
  obtain ⟨fuel, hf⟩ := hd
  obtain ⟨a, hk, ho⟩ := h.2 fuel cs _ (by simpa [Value.cells] using hf) hw
  exact ⟨a, ⟨cs, rfl, hk⟩, ho⟩
end
/-- A slice of structs that came in. -/
theorem open_els {H : Type} {enc : TypeId × Value → H} {P : Program} {W : World} {t e : TypeId} {ty : Ty} {ok : ty.El → Prop} {v : Value} {dat : DataW H} {p : List MemPlace} (hO : OpT enc P W e ty ok) (hpos : 0 < ty.size)
    (ht : P.underlying t = some (.slice e)) (hv : ∃ a len cap, v = .slice a len cap) (h : DataW.Trod enc P W 0 (fun _ => true) true t v dat p) (hw : Wt P t dat) :
    ∃ l : List ty.El, SliceAt W (fun n => W.heap[n]?) ty v l ∧ ∀ x ∈ l, ok x := by
  obtain ⟨a0, len0, cap0, rfl⟩ := hv
  obtain ⟨fuel, hx⟩ := h
  rcases DataW.trod_slice ht hx with ⟨hcs, _⟩ | ⟨a, len, cap, elems, rest, n, _, hcs, hdat, _, hl, hm, hn, hel, hsp, _⟩
  · simp [Value.cells] at hcs
    obtain ⟨rfl, rfl, rfl⟩ := hcs
    exact ⟨[], .inl ⟨none, rfl, rfl⟩, fun n hn => by cases hn⟩
  · simp [Value.cells] at hcs
    obtain ⟨rfl, rfl, rfl⟩ := hcs
    have hd : dat = _ := congrArg Prod.fst hdat
    have hwt : ∀ y ∈ elems, Wt P e y.1 := by
      intro y hy m hmem
      refine hw m ?_
      rw [hd]
      simp only [DataW.weights, ht]
      exact List.mem_cons_of_mem _ (List.mem_append_left _ (mem_weightsAll hmem (List.mem_map_of_mem hy)))
    obtain ⟨l, hll, hlp⟩ := choose_list (fun i v => ok v ∧ ∃ c, c.length = ty.size ∧ RelT (fun n => W.heap[n]?) ty v c ∧ ∀ q u, c[q]? = some u → W.cell? (a.add (i * ty.size + q)) = some u) len0 (fun i hi => by
      have he := hel i hi
      have hi' : i < elems.length := by omega
      rw [List.getElem?_eq_getElem hi'] at he
      obtain ⟨c, hcs, htr⟩ := Option.bind_eq_some_iff.1 he
      obtain ⟨v, hk, hok⟩ := hO.2 n c _ htr (hwt _ (List.getElem_mem hi'))
      have hg := cells_get hcs
      refine ⟨v, hok, c, by rw [hg.1, hO.1], hk, fun q u hu => ?_⟩
      have hq := hg.2 q u hu
      rw [hO.1] at hq
      rw [show a.add (i * ty.size + q) = (a.add (i * ty.size)).add q from (Addr.add_add _ _ _).symm]
      exact hq)
    rcases Nat.eq_zero_or_pos cap0 with h0 | hcap
    · subst h0
      have : len0 = 0 := by omega
      subst this
      exact ⟨[], .inl ⟨some a, rfl, rfl⟩, fun n hn => by cases hn⟩
    · have hc0 : ∃ u, W.cell? a = some u := by
        have hb : ∃ y, (W.cells? 0 (a.add (0 * P.cellsOf e)) (P.cellsOf e)).bind (DataW.trod enc P W 0 (fun _ => true) true n e) = some y := by
          by_cases hi : 0 < len0
          · have := hel 0 hi
            rw [List.getElem?_eq_getElem (by omega)] at this
            exact ⟨_, this⟩
          · obtain ⟨hrl, hr⟩ := hsp rfl
            have := hr 0 (by omega)
            rw [List.getElem?_eq_getElem (by omega), show len0 + 0 = 0 by omega] at this
            exact ⟨_, this⟩
        obtain ⟨y, hy⟩ := hb
        obtain ⟨c, hc, _⟩ := Option.bind_eq_some_iff.1 hy
        have hg := cells_get hc
        have h2 : 0 < c.length := by rw [hg.1, hO.1]; exact hpos
        have := hg.2 0 c[0] (List.getElem?_eq_getElem h2)
        exact ⟨c[0], by simpa [Addr.add] using this⟩
      obtain ⟨u0, hc0⟩ := hc0
      obtain ⟨b, off, spot⟩ := a
      have hspot : spot = none := World.cell?_spot hc0
      subst hspot
      obtain ⟨cs, ct, fz, hb⟩ : ∃ cs ct fz, W.heap[b]? = some (.cells cs ct fz) := by
        unfold World.cell? at hc0
        split at hc0
        · exact ⟨_, _, _, ‹_›⟩
        · cases hc0
      have hat : ∀ j u, W.cell? (Addr.add ⟨b, off, none⟩ j) = some u → cs.toList[off + j]? = some u := fun j u h => by
        rw [Go.WideShapes.add_plain] at h
        unfold World.cell? at h
        dsimp only at h
        rw [hb] at h
        simpa using h
      have hrow : ∀ i x, l[i]? = some x → RelT (fun n => W.heap[n]?) ty x ((cs.toList.drop (off + i * ty.size)).take ty.size) := fun i x hi => by
        obtain ⟨_, c, h1, h2, h3⟩ := hlp i x hi
        have : (cs.toList.drop (off + i * ty.size)).take ty.size = c := by
          apply List.ext_getElem?
          intro q
          rw [List.getElem?_take, List.getElem?_drop]
          by_cases hq : q < ty.size
          · rw [if_pos hq]
            have e := h3 q c[q] (List.getElem?_eq_getElem (by omega))
            rw [Nat.add_assoc, hat _ _ e, List.getElem?_eq_getElem (by omega)]
          · rw [if_neg hq, List.getElem?_eq_none (by omega)]
        rw [this]
        exact h2
      have hlen : ((cs.toList.drop off).take (l.length * ty.size)).length = l.length * ty.size := by
        rcases Nat.eq_zero_or_pos l.length with h0 | hp
        · simp [h0]
        · obtain ⟨_, c, h1, _, h3⟩ := hlp (l.length - 1) _ (List.getElem?_eq_getElem (by omega))
          have hc : ty.size - 1 < c.length := by omega
          have e := hat _ _ (h3 (ty.size - 1) c[ty.size - 1] (List.getElem?_eq_getElem hc))
          have hlt := (List.getElem?_eq_some_iff.1 e).1
          have h5 : l.length * ty.size = (l.length - 1) * ty.size + ty.size := by
            have : l.length = (l.length - 1) + 1 := by omega
            calc l.length * ty.size = ((l.length - 1) + 1) * ty.size := by rw [← this]
              _ = _ := Nat.succ_mul _ _
          rw [List.length_take, List.length_drop]
          omega
      refine ⟨l, .inr ⟨b, off, cap0, cs, ct, fz, _, by rw [hll], by omega, hb, allR_of (sz := ty.size) (fun x c hr => RelT.len ty x c hr) l _ hlen fun i x hi => ?_, rfl⟩, fun y hy => ?_⟩
      · have := hrow i x hi
        have hlt : i < l.length := (List.getElem?_eq_some_iff.1 hi).1
        have h9 : (i + 1) * ty.size ≤ l.length * ty.size := Nat.mul_le_mul_right _ hlt
        rw [Nat.succ_mul] at h9
        rwa [List.drop_take, List.drop_drop, List.take_take, Nat.min_eq_left (by omega)]
      · obtain ⟨j, hj⟩ := List.mem_iff_getElem?.1 hy
        exact (hlp j y hj).1
/-- A slice within an element that came in. -/
theorem opT_slice {H : Type} {enc : TypeId × Value → H} {P : Program} {W : World} {T e : TypeId} {ty : Ty} {ok : ty.El → Prop} (ht : P.underlying T = some (.slice e)) (hc : P.cellsOf T = 1) (hpos : 0 < ty.size) (hO : OpT enc P W e ty ok) : OpT enc P W T (.sl ty) (fun (l : List ty.El) => ∀ x ∈ l, ok x) :=
  ⟨hc, fun fuel cs x hx hw => by
    have hcs : ∃ a len cap, cs = [Value.slice a len cap] := by
      rcases DataW.trod_slice ht hx with ⟨h, _⟩ | ⟨a, len, cap, elems, rest, n, _, h, _⟩
      · exact ⟨_, _, _, h⟩
      · exact ⟨_, _, _, h⟩
    obtain ⟨a, len, cap, rfl⟩ := hcs
    obtain ⟨l, hl, ho⟩ := open_els (v := .slice a len cap) (dat := x.1) (p := x.2) hO hpos ht ⟨a, len, cap, rfl⟩ ⟨fuel, by simpa [Value.cells] using hx⟩ hw
    exact ⟨l, ⟨_, rfl, hl⟩, ho⟩⟩
end Go.Proofs.Ytaoplfmaiclfkaa.SX
