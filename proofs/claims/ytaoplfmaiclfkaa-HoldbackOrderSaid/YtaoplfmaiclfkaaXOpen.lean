/- How a law's arguments read: whole numbers, bools, strings, slices, structs of such, by the kinds of the words. -/
import Derived.Test.YtaoplfmaiclfkaaWWords
import Derived.SizedLaws
import Derived.ChangeSlices
import Derived.ChangeArms
import Derived.WideShapes
import Derived.OpenShut
import Derived.DataElems
namespace Go.Proofs.Ytaoplfmaiclfkaa.XOpen
open Go.RowKit Go.ChangeShapes Go.WideShapes Go.Proofs.YtaoplfmaiclfkaaW.PrintWords
section
variable {H : Type} {enc : TypeId × Value → H} {P : Program} {W : World} {T : TypeId}

/-- What is read weighs no more than the form's reach. -/
def Wt (P : Program) (T : TypeId) (d : DataW H) : Prop := ∀ n ∈ DataW.weights P T d, n ≤ reachBytes

/-- Whatever is read at type T is of kind d, and is fine. -/
def Opens {α : Type} (enc : TypeId × Value → H) (P : Program) (W : World) (T : TypeId) (d : Kd α) (ok : α → Prop) : Prop :=
  P.cellsOf T = d.sz ∧ ∀ fuel cs x, DataW.trod enc P W 0 (fun _ => true) true fuel T cs = some x → Wt P T x.1 → ∃ a, d.K W a cs ∧ ok a

theorem opens_int {k : IntKind} (ht : P.underlying T = some (.int k)) (hc : P.cellsOf T = 1) : Opens enc P W T (Kd.int k) (fun n => (Lit.int k n).wf = true) :=
  ⟨hc, fun fuel cs x h _ => by
    obtain ⟨n, rfl, _, hw⟩ := DataW.trod_int ht h
    exact ⟨n, rfl, hw⟩⟩
theorem opens_bool (ht : P.underlying T = some .bool) (hc : P.cellsOf T = 1) : Opens enc P W T Kd.bool (fun _ => True) :=
  ⟨hc, fun fuel cs x h _ => by
    obtain ⟨n, rfl, _⟩ := DataW.trod_bool ht h
    exact ⟨n, rfl, trivial⟩⟩
theorem opens_str (ht : P.underlying T = some .string) (hc : P.cellsOf T = 1) : Opens enc P W T Kd.string (fun s => s.size ≤ 140737488351232) :=
  ⟨hc, fun fuel cs x h hw => by
    obtain ⟨s, rfl, rfl, _⟩ := DataW.trod_string ht h
    refine ⟨s, rfl, ?_⟩
    have z := hw s.data.toList.length (by simp [DataW.weights])
    simpa [reachBytes] using z⟩

/-- A slice of whole numbers, as it came in. -/
theorem open_ro {t e : TypeId} {k : IntKind} {v : Value} {x : DataW H × List MemPlace} (ht : P.underlying t = some (.slice e)) (he : P.underlying e = some (.int k)) (hc : P.cellsOf e = 1) (hv : ∃ a len cap, v = .slice a len cap)
    (h : ∃ fuel, DataW.trod enc P W 0 (fun _ => true) true fuel t v.cells.toList = some x) :
    ∃ l : List Int, (∃ a cap, v = .slice a l.length cap ∧ ∀ j, j < l.length → ∃ n o cs t fz, a = some ⟨n, o, none⟩ ∧ W.heap[n]? = some (.cells cs t fz) ∧ cs[o + j]? = some (.int k (l.getD j 0))) ∧ ∀ n ∈ l, (Lit.int k n).wf = true := by
  obtain ⟨a0, len0, cap0, rfl⟩ := hv
  obtain ⟨fuel, hf⟩ := h
  rcases open_ints ht he hc hf with ⟨hcs, _⟩ | ⟨a, len, cap, zs, hcs, _, hle, _, hz, _, hcell, hwf⟩
  · simp [Value.cells] at hcs
    obtain ⟨rfl, rfl, rfl⟩ := hcs
    exact ⟨[], ⟨none, 0, rfl, fun j hj => by simp at hj⟩, fun n hn => by cases hn⟩
  · simp [Value.cells] at hcs
    obtain ⟨rfl, rfl, rfl⟩ := hcs
    have hz2 : zs.length = cap0 := by simpa using hz
    have hlen : (zs.take len0).length = len0 := by simp; omega
    refine ⟨zs.take len0, ⟨some a, cap0, by rw [hlen], fun j hj => ?_⟩, fun n hn => hwf n (List.mem_of_mem_take hn)⟩
    rw [hlen] at hj
    obtain ⟨b, off, rfl, hat⟩ := Go.ints_at hcell (by omega)
    have hc1 := hat j (by omega)
    unfold World.cell? at hc1
    split at hc1
    · rename_i cs ct fz hb
      refine ⟨b, off, cs, ct, fz, rfl, hb, ?_⟩
      rw [if_neg (by simp)] at hc1
      rw [show (zs.take len0).getD j 0 = zs.getD j 0 by simp [List.getD_eq_getElem?_getD, List.getElem?_take_of_lt hj]]
      exact hc1
    · cases hc1
theorem choose_list {α : Type} (p : Nat → α → Prop) : ∀ n, (∀ i, i < n → ∃ a, p i a) → ∃ l : List α, l.length = n ∧ ∀ i a, l[i]? = some a → p i a
  | 0, _ => ⟨[], rfl, fun i a h => by simp at h⟩
  | n + 1, h => by
    obtain ⟨l, hl, hp⟩ := choose_list p n (fun i hi => h i (by omega))
    obtain ⟨a, ha⟩ := h n (by omega)
    refine ⟨l ++ [a], by simp [hl], fun i b hb => ?_⟩
    by_cases hi : i < n
    · rw [List.getElem?_append_left (by omega)] at hb
      exact hp i b hb
    · rw [List.getElem?_append_right (by omega)] at hb
      have hin : i = n := by
        have := (List.getElem?_eq_some_iff.1 hb).1
        simp at this
        omega
      subst hin
      rw [hl] at hb
      simp at hb
      rw [← hb]
      exact ha

theorem mem_weightsAll {e : TypeId} {d : DataW H} {m : Nat} (hm : m ∈ DataW.weights P e d) : ∀ {l : List (DataW H)}, d ∈ l → m ∈ DataW.weightsAll P e l
  | d' :: r, h => by
    rw [DataW.weightsAll]
    rcases List.mem_cons.1 h with rfl | h
    · exact List.mem_append_left _ hm
    · exact List.mem_append_right _ (mem_weightsAll hm h)

theorem cells_get {w : World} {b : Nat} {a : Addr} {n : Nat} {cs : List Value} (h : w.cells? b a n = some cs) : cs.length = n ∧ ∀ i u, cs[i]? = some u → w.cell? (a.add i) = some u := by
  unfold World.cells? at h
  split at h
  · have hl := mapM_some_length h
    refine ⟨by simpa using hl, fun i u hu => ?_⟩
    have hi : i < n := by
      have h1 := (List.getElem?_eq_some_iff.1 hu).1
      have h2 : cs.length = n := by simpa using hl
      omega
    have hg := mapM_some_get h i i (by rw [List.getElem?_range hi])
    rw [hg, hu]
  · cases h

theorem opens_slice {α : Type} {d : Kd α} {ok : α → Prop} {e B : Nat} (ht : P.underlying T = some (.slice e)) (hc : P.cellsOf T = 1) (h : Opens enc P W e d ok) (hB : P.bytesOf e = B) :
    Opens enc P W T (Kd.slice e d) (fun l => l.length * B ≤ 140737488351232 ∧ l.length ≤ maxLen ∧ ∀ x ∈ l, ok x) :=
  ⟨hc, fun fuel cs x hx hw => by
    rcases DataW.trod_slice ht hx with ⟨rfl, _⟩ | ⟨a, len, cap, elems, rest, n, rfl, rfl, rfl, _, hl, hm, hn, hel, _⟩
    · exact ⟨[], ⟨none, 0, rfl, by simp, ⟨rfl, by simp, fun h0 => by simp at h0⟩⟩, by simp, by simp, by simp⟩
    · have hwt : ∀ y ∈ elems, Wt P e y.1 := by
        intro y hy m hmem
        refine hw m ?_
        simp only [DataW.weights, ht]
        exact List.mem_cons_of_mem _ (List.mem_append_left _ (mem_weightsAll hmem (List.mem_map_of_mem hy)))
      have hbytes : len * B ≤ 140737488351232 := by
        have z := hw ((elems.length + rest.length) * P.bytesOf e) (by simp [DataW.weights, ht])
        rw [hB] at z
        have z2 : len * B ≤ (elems.length + rest.length) * B := Nat.mul_le_mul_right _ (by omega)
        exact Nat.le_trans z2 z
      obtain ⟨l, hll, hlp⟩ := choose_list (fun i v => ok v ∧ ∃ c, c.length = d.sz ∧ d.K W v c ∧ ∀ q u, c[q]? = some u → W.cell? (a.add (i * d.sz + q)) = some u) len (fun i hi => by
        have he := hel i hi
        have hi' : i < elems.length := by omega
        rw [List.getElem?_eq_getElem hi'] at he
        obtain ⟨c, hcs, htr⟩ := Option.bind_eq_some_iff.1 he
        obtain ⟨v, hk, hok⟩ := h.2 n c _ htr (hwt _ (List.getElem_mem hi'))
        have hg := cells_get hcs
        refine ⟨v, hok, c, by rw [hg.1, h.1], hk, fun q u hu => ?_⟩
        have hq := hg.2 q u hu
        rw [h.1] at hq
        rw [show a.add (i * d.sz + q) = (a.add (i * d.sz)).add q from (Addr.add_add _ _ _).symm]
        exact hq)
      have hm' : len ≤ 9223372036854775807 := by
        simp only [maxLen] at hm
        omega
      refine ⟨l, ⟨some a, cap, by rw [hll], by omega, ⟨rfl, by omega, fun _ => ⟨a, rfl, fun j p hj => ?_⟩⟩⟩, by rw [hll]; exact hbytes, by omega, fun y hy => ?_⟩
      · obtain ⟨_, c, h1, h2, h3⟩ := hlp j p hj
        exact ⟨c, h1, h2, h3⟩
      · obtain ⟨j, hj⟩ := List.mem_iff_getElem?.1 hy
        exact (hlp j y hj).1⟩

/-- Fields in line, from offset off on. -/
def OpensF {α : Type} (enc : TypeId × Value → H) (P : Program) (W : World) (fs : List Field) (off : Nat) (d : Kd α) (ok : α → Prop) : Prop :=
  ∀ n cs (ys : List (DataW H × List MemPlace)), cs.length = d.sz → ys.length = fs.length → (∀ (i : Nat) (f : Field), fs[i]? = some f → DataW.trod enc P W 0 (fun _ => true) true n f.type ((cs.drop (f.offset - off)).take (P.cellsOf f.type)) = ys[i]?) →
    (∀ m ∈ DataW.weightsEach P (fs.map (·.type)) (ys.map (·.1)), m ≤ reachBytes) → ∃ a, d.K W a cs ∧ ok a

theorem opensF_one {α : Type} {d : Kd α} {ok : α → Prop} {f : Field} {off : Nat} (h : Opens enc P W f.type d ok) (ho : f.offset = off) : OpensF enc P W [f] off d ok := by
  intro n cs ys hcs hys hf hw
  obtain ⟨y, rfl⟩ : ∃ y, ys = [y] := by
    cases ys with
    | nil => simp at hys
    | cons y r =>
      cases r with
      | nil => exact ⟨y, rfl⟩
      | cons _ _ => simp at hys
  have h0 := hf 0 f rfl
  rw [ho, Nat.sub_self, List.drop_zero, List.take_of_length_le (by rw [h.1, hcs]; exact Nat.le_refl _)] at h0
  exact h.2 n cs y h0 (fun m hm => hw m (by simp [DataW.weightsEach, hm]))

theorem opensF_cons {α β : Type} {d : Kd α} {ok : α → Prop} {d2 : Kd β} {ok2 : β → Prop} {f : Field} {fs : List Field} {off : Nat} (h : Opens enc P W f.type d ok) (ho : f.offset = off) (hr : OpensF enc P W fs (off + d.sz) d2 ok2)
    (hoff : ∀ g ∈ fs, off + d.sz ≤ g.offset) : OpensF enc P W (f :: fs) off (Kd.pair d d2) (fun x => ok x.1 ∧ ok2 x.2) := by
  intro n cs ys hcs hys hf hw
  have hsz : (Kd.pair d d2).sz = d.sz + d2.sz := rfl
  rw [hsz] at hcs
  cases ys with
  | nil => simp at hys
  | cons y r =>
    have h0 := hf 0 f rfl
    rw [ho, Nat.sub_self, List.drop_zero, h.1] at h0
    obtain ⟨a, ka, oa⟩ := h.2 n _ y h0 (fun m hm => hw m (by simp [DataW.weightsEach, hm]))
    obtain ⟨b, kb, ob⟩ := hr n (cs.drop d.sz) r (by simp; omega) (by simpa using hys) (fun i g hg => by
      have hi := hf (i + 1) g (by simpa using hg)
      have hle := hoff g (List.mem_iff_getElem?.2 ⟨i, hg⟩)
      rw [List.drop_drop, show d.sz + (g.offset - (off + d.sz)) = g.offset - off from by omega]
      simpa using hi) (fun m hm => hw m (by simp [DataW.weightsEach, hm]))
    exact ⟨(a, b), ⟨_, _, (List.take_append_drop d.sz cs).symm, ka, kb⟩, oa, ob⟩

theorem opens_struct {α : Type} {d : Kd α} {ok : α → Prop} {fs : Array Field} (ht : P.underlying T = some (.struct fs)) (hc : P.cellsOf T = d.sz) (h : OpensF enc P W fs.toList 0 d ok) : Opens enc P W T d ok :=
  ⟨hc, fun fuel cs x hx hw => by
    obtain ⟨xs, n, rfl, rfl, hl, hs, hf⟩ := DataW.trod_struct ht hx
    refine h n cs xs (by omega) (by simpa using hs) (fun i f hi => ?_) (fun m hm => hw m ?_)
    · rw [Nat.sub_zero]
      exact hf i f (by simpa using hi)
    · simp only [DataW.weights, ht]
      exact hm⟩

theorem opens_iso {α β : Type} {d : Kd α} {ok : α → Prop} {ok2 : β → Prop} (h : Opens enc P W T d ok) (g : β → α) (mk : α → β) (hg : ∀ a, g (mk a) = a) (hok : ∀ a, ok a → ok2 (mk a)) : Opens enc P W T (Kd.iso d g) ok2 :=
  ⟨h.1, fun fuel cs x hx hw => by
    obtain ⟨a, hk, ho⟩ := h.2 fuel cs x hx hw
    exact ⟨mk a, by show d.K W (g (mk a)) cs; rw [hg]; exact hk, hok a ho⟩⟩

theorem opens_ok {α : Type} {d : Kd α} {ok ok2 : α → Prop} (h : Opens enc P W T d ok) (hok : ∀ a, ok a → ok2 a) : Opens enc P W T d ok2 :=
  ⟨h.1, fun fuel cs x hx hw => by
    obtain ⟨a, hk, ho⟩ := h.2 fuel cs x hx hw
    exact ⟨a, hk, hok a ho⟩⟩

/-- An argument's weight is one of all. -/
theorem wt_each {ts : List TypeId} {ds : List (DataW H)} {j : Nat} {t : TypeId} {d : DataW H} (hsz : (DataW.weightsEach P ts ds).all (· ≤ reachBytes) = true) (ht : ts[j]? = some t) (hd : ds[j]? = some d) : Wt P t d := by
  intro n hn
  have := List.all_eq_true.1 hsz _ (DataW.weights_mem_each ht hd n hn)
  simpa using this

/-- A struct that came in. -/
theorem open_agg {α : Type} {d : Kd α} {ok : α → Prop} {fs : Array Field} {r : Reach} {b0 : Nat} {v : Value} {dat : DataW H} {p : List MemPlace} (h : Opens enc P W T d ok) (ht : P.underlying T = some (.struct fs)) (hv : Value.okWide P W r b0 T v)
    (hd : DataW.Trod enc P W 0 (fun _ => true) true T v dat p) (hw : Wt P T dat) : ∃ (a : α) (cs : List Value), v = .agg ⟨cs⟩ ∧ d.K W a cs ∧ ok a := by
  obtain ⟨⟨cs⟩, rfl, _⟩ := okWide_struct ht hv
  obtain ⟨fuel, hf⟩ := hd
  obtain ⟨a, hk, ho⟩ := h.2 fuel cs _ (by simpa [Value.cells] using hf) hw
  exact ⟨a, cs, rfl, hk, ho⟩

/-- A slice that came in. -/
theorem open_slice {α : Type} {d : Kd α} {ok : α → Prop} {e B : Nat} {a : Option Addr} {len cap : Nat} {dat : DataW H} {p : List MemPlace} (h : Opens enc P W e d ok) (ht : P.underlying T = some (.slice e)) (hc : P.cellsOf T = 1) (hB : P.bytesOf e = B)
    (hd : DataW.Trod enc P W 0 (fun _ => true) true T (.slice a len cap) dat p) (hw : Wt P T dat) :
    ∃ l : List α, len = l.length ∧ d.C W a l.length l ∧ l.length ≤ cap ∧ l.length * B ≤ 140737488351232 ∧ l.length ≤ maxLen ∧ ∀ x ∈ l, ok x := by
  obtain ⟨fuel, hf⟩ := hd
  obtain ⟨l, ⟨A, c, he, hl, hC⟩, ho⟩ := (opens_slice ht hc h hB).2 fuel _ _ hf hw
  simp [Value.cells] at he
  obtain ⟨rfl, rfl, rfl⟩ := he
  exact ⟨l, rfl, hC, hl, ho⟩
end
end Go.Proofs.Ytaoplfmaiclfkaa.XOpen
