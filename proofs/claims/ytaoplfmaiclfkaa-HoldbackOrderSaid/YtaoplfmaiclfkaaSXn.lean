/- A symbolic walk: contracts of functions that hold memory, and of such as only read slices. -/
import Derived.Test.YtaoplfmaiclfkaaSXm
namespace Go.Proofs.Ytaoplfmaiclfkaa.SX
set_option linter.unusedVariables false
set_option linter.unusedSimpArgs false
open Go Go.RowKit
variable {P : Program}
/- a function that is handed memory -/
structure FK (X Y : Type) where
  tm : Templ
  tmR : Templ
  decX : List AV → Option X
  encX : X → List AV
  decY : List AV → Option Y
  encY : Y → List AV
def oneOf : List AV → AV
  | [v] => v
  | _ => .nilFn
def FK.leaf {X Y : Type} (K : FK X Y) (v : AV) (H : Heap) (_ : Nat) : Option Y :=
  match K.tmR.get (stayA K.tm.stay) [v] [] H with
  | some (A, ys) => match eqsH A H K.tmR.H with
    | [] => K.decY ys
    | _ => none
  | none => none
noncomputable def FK.c {X Y : Type} (K : FK X Y) (step : X → Option Y) : Entry := fun args H hn =>
  match K.tm.get [] args [] H with
  | some (A, ys) => match entryB hn K.tm.stay H A && stayB A K.tm.stay, K.decX ys with
    | true, some x => some { o := step x, enc := fun y => (oneOf (K.tmR.vals (K.encY y))).ren (backAt A K.tm.stay hn), hp := some fun y => (renH (backAt A K.tm.stay hn) (K.tmR.heap (K.encY y)) ++ dropKeys (imgs A) H, hn + K.tmR.n), eqs := eqsH A H K.tm.H }
    | _, _ => none
  | none => none
structure FK.OK {X Y : Type} (K : FK X Y) : Prop where
  x : ∀ ys x, K.decX ys = some x → Ptw ys (K.encX x)
  y : ∀ ys x, K.decY ys = some x → Ptw ys (K.encY x)
  stay : ∀ j ∈ K.tm.stay, j < K.tm.n
/-- A function's contract, by its walk. -/
theorem fk_ok {ct : CTab} {lt : LTab} (hN : Named P) (hm : P.follows .mixedOrders = true) (hct : CtOK P ct) (hlt : LtOK P lt) {X Y : Type} {K : FK X Y} (hK : K.OK) {step : X → Option Y} {n : Nat} {f : FuncId}
    (hfix : ∀ x, (walk P ct lt n f (K.tm.vals (K.encX x)) (K.tm.heap (K.encX x)) K.tm.n).fixed = walk P ct lt n f (K.tm.vals (K.encX x)) (K.tm.heap (K.encX x)) K.tm.n)
    (hstep : ∀ x, (walk P ct lt n f (K.tm.vals (K.encX x)) (K.tm.heap (K.encX x)) K.tm.n).strip.opt K.leaf = step x) : EntryOK P f (K.c step) := by
  intro args H hn c hc heq y hy ρ w xs hx hr
  unfold FK.c at hc
  split at hc
  · rename_i A ys hg
    split at hc
    · rename_i x hb hdx
      simp only [Bool.and_eq_true] at hb
      cases hc
      obtain ⟨_, s2, s3, _, _, s6⟩ := K.tm.get_ok hg (hK.x ys x hdx)
      obtain ⟨g1, g2⟩ := s6 hx ⟨hr.inj, hr.lt, hr.ro⟩ hr.obj heq (nil_parts _)
      have hy : step x = some y := hy
      refine (walk_ok hN hm hct hlt (Tree.den_of_strip (Tree.den_of_opt ((hstep x).trans hy)) (hfix x)) g1 g2).mono ?_
      rintro e w' ⟨v, H', hn', ρ2, u, rfl, hd, hext, hv, hr2, hi⟩
      unfold FK.leaf at hd
      split at hd
      · rename_i A2 ys2 hg2
        split at hd
        · rename_i heqs
          obtain ⟨t1, t2, t3, _, _, t6⟩ := K.tmR.get_ok hg2 (hK.y ys2 y hd)
          obtain ⟨k1, k2⟩ := t6 (relL_one hv) ⟨hr2.inj, hr2.lt, hr2.ro⟩ hr2.obj (fun p hp => by rw [heqs] at hp; cases hp) (stayA_parts _ _)
          have htop : (ρ.pull A K.tm.n).top = K.tm.n := rfl
          have hkeep : Keep K.tm.stay (ρ.pull A K.tm.n) (ρ2.pull A2 K.tmR.n) := Keep.of hext (fun j hj => t1 _ _ (stayA_look hj)) (fun j hj => by rw [htop]; exact hK.stay j hj) t3
          have hinv : Inv w (ρ.pull A K.tm.n).ms (ρ2.pull A2 K.tmR.n) w' := ⟨hi.os, hi.tape, hi.output, hi.size, hi.keep, fun j n hj => by
            obtain ⟨_, i, _, _, hi2⟩ := Pl.pull_some hj
            exact hi.fresh i n hi2, hi.roF⟩
          obtain ⟨p1, p2, p3, p4⟩ := push_ok (ρr := ρ2.pull A2 K.tmR.n) hr s2 s3 (fun j i c hj => (entryB_spec hb.1 j i c hj).1) (stayB_spec hb.2) (entry_move (ρ := ρ) (w := w) hb.1 hr.obj) hext.1.ro hkeep hinv k2
          refine ⟨u, _, rfl, ?_, ⟨p1, p3⟩, p4, fun _ h => by cases h⟩
          have hone : (oneOf (K.tmR.vals (K.encY y))).rel (ρ2.pull A2 K.tmR.n) u := by
            cases hvs : K.tmR.vals (K.encY y) with
            | nil =>
              rw [hvs] at k1
              cases (show [u] = [] from k1)
            | cons z zs =>
              rw [hvs] at k1
              obtain ⟨x1, xs1, hx1, hxs1, e1⟩ := k1
              cases e1
              cases zs with
              | nil => exact hx1
              | cons z2 zs =>
                obtain ⟨x2, xs2, _, _, e2⟩ := hxs1
                cases e2
          exact AV.ren_ok p2 _ hone
        · cases hd
      · cases hd
    · cases hc
  · cases hc
/- a function that only reads slices -/
/-- What a slice holds, by its block. -/
def SliceAt (w : World) (ob : Nat → Option Obj) (t : Ty) (v : Value) (l : List t.El) : Prop :=
  (∃ a, v = .slice a 0 0 ∧ l = []) ∨ ∃ n o cap cs ty fz xs, v = .slice (some ⟨n, o, none⟩) l.length cap ∧ l.length ≤ cap ∧ w.heap[n]? = some (.cells cs ty fz) ∧ AllR (RelT ob t) l xs ∧ (cs.toList.drop o).take (l.length * t.size) = xs
def inRO (w : World) (vs : List Value) : RO := ⟨fun i => vs[i]?, fun n => w.heap[n]?⟩
theorem rel_lst {w : World} {vs : List Value} {i : Nat} {t : Ty} {v : Value} {l : List t.El} (h : SliceAt w (fun n => w.heap[n]?) t v l) (hi : vs[i]? = some v) : (AV.lst i t l none).rel (Pl.none 0 (inRO w vs)) v := by
  unfold AV.rel
  rcases h with ⟨a, rfl, rfl⟩ | ⟨n, o, cap, cs, ty, fz, xs, rfl, h1, h2, h3, h4⟩
  · exact .inl ⟨a, hi, rfl, rfl⟩
  · exact .inr ⟨n, o, l.length, cap, cs, ty, fz, xs, hi, rfl, by simp, fun _ => rfl, h1, h2, h3, by simpa using h4⟩
theorem relL_cons {ρ : Pl} {a : AV} {x : Value} {l : List AV} {xs : List Value} (h : a.rel ρ x) (t : AV.relL ρ l xs) : AV.relL ρ (a :: l) (x :: xs) := ⟨x, xs, h, t, rfl⟩
theorem flatV {ρ : Pl} {a : AV} {x : Value} (hf : a.flat = true) (h : a.toV = x) : a.rel ρ x := h ▸ AV.flat_rel a hf
theorem HRel.inRO (w : World) (vs : List Value) : HRel (Pl.none 0 (inRO w vs)) [] 0 w := ⟨rfl, fun i j n h => (by cases h), fun i n h => (by cases h), fun n o h => ⟨h, fun j hj => (by cases hj)⟩, fun i b h => by simp [look] at h⟩
/-- A contract out of a walk, of a function that is handed slices. -/
theorem calls_ro {ct : CTab} {lt : LTab} (hN : Named P) (hm : P.follows .mixedOrders = true) (hct : CtOK P ct) (hlt : LtOK P lt) {n : Nat} {f : FuncId} {args : List AV} {R : Type} {dec : AV → Heap → Nat → Option R} {F : Option R} {r : R}
    (ht : (walk P ct lt n f args [] 0).opt dec = F) (h : F = some r) (w : World) (vs : List Value) {xs : List Value} (hx : AV.relL (Pl.none 0 (inRO w vs)) args xs) {val : Value}
    (hv : ∀ v H hn ρ x, dec v H hn = some r → v.rel ρ x → x = val) : Calls P f xs.toArray w fun e w' => e = .returned val ∧ Below w.heap.size w w' := by
  refine (walk_ok hN hm hct hlt (Tree.den_of_opt (ht.trans h)) hx (HRel.inRO w vs)).mono ?_
  rintro e w' ⟨v, H', hn', ρ', x, rfl, hd, _, hxr, _, hi⟩
  exact ⟨congrArg Ending.returned (hv v H' hn' ρ' x hd hxr), ⟨hi.os, hi.tape, hi.output, hi.size, fun k hk => hi.keep k hk (fun ⟨_, h⟩ => by cases h)⟩⟩
theorem calls_ro' {ct : CTab} {lt : LTab} (hN : Named P) (hm : P.follows .mixedOrders = true) (hct : CtOK P ct) (hlt : LtOK P lt) {n : Nat} {f : FuncId} {args : List AV} {R : Type} {dec : AV → Heap → Nat → Option R} {F : Option R} {r : R}
    (hs : (walk P ct lt n f args [] 0).fixed = walk P ct lt n f args [] 0) (ht : (walk P ct lt n f args [] 0).strip.opt dec = F) (h : F = some r) (w : World) (vs : List Value) {xs : List Value} (hx : AV.relL (Pl.none 0 (inRO w vs)) args xs) {val : Value}
    (hv : ∀ v H hn ρ x, dec v H hn = some r → v.rel ρ x → x = val) : Calls P f xs.toArray w fun e w' => e = .returned val ∧ Below w.heap.size w w' := by
  refine (walk_ok hN hm hct hlt (Tree.den_of_strip (Tree.den_of_opt (ht.trans h)) hs) hx (HRel.inRO w vs)).mono ?_
  rintro e w' ⟨v, H', hn', ρ', x, rfl, hd, _, hxr, _, hi⟩
  exact ⟨congrArg Ending.returned (hv v H' hn' ρ' x hd hxr), ⟨hi.os, hi.tape, hi.output, hi.size, fun k hk => hi.keep k hk (fun ⟨_, h⟩ => by cases h)⟩⟩
/-- Arguments of a function that only reads: flat ones, and slices. -/
inductive QA where
  | flat
  | sl (t : Ty)
def slOf (H : Heap) (t : Ty) (a : AV) : Option (List t.El) :=
  match newsOf H t a with
  | some (_, l) => match a with
    | .sl _ _ len cap => match Nat.ble len cap with
      | true => some l
      | false => none
    | _ => some l
  | none => none
def qArgs (H : Heap) : List QA → List AV → Nat → Option (List AV)
  | [], [], _ => some []
  | .flat :: q, a :: l, i => match a.flat, qArgs H q l i with
    | true, some r => some (a :: r)
    | _, _ => none
  | .sl t :: q, a :: l, i => match slOf H t a, qArgs H q l (i + 1) with
    | some x, some r => some (.lst i t x none :: r)
    | _, _ => none
  | _, _, _ => none
def hdrs : List QA → List Value → List Value
  | .flat :: q, _ :: l => hdrs q l
  | .sl _ :: q, v :: l => v :: hdrs q l
  | _, _ => []
theorem sa_win {w : World} {ob : Nat → Option Obj} {t : Ty} {l l' : List t.El} {g off o' c k' : Nat} {cur : Array Value} {ty : TypeId} {fz : Nat × Nat} {xs : List Value} (hg : w.heap[g]? = some (.cells cur ty fz)) (hall : AllR (RelT ob t) l xs)
    (hwin : (cur.toList.drop off).take (l.length * t.size) = xs) {j k : Nat} (hj : j ≤ k) (hk : k ≤ l.length) (ho : o' = off + j * t.size) (el : l' = (l.take k).drop j) (ek : k' = k - j) (hc : k' ≤ c) : SliceAt w ob t (.slice (some ⟨g, o', none⟩) k' c) l' := by
  have hlen : l'.length = k' := by rw [el, ek]; simp; omega
  refine .inr ⟨g, o', c, cur, ty, fz, (xs.take (k * t.size)).drop (j * t.size), by rw [hlen], by rw [hlen]; exact hc, hg, by rw [el]; exact AllR.drop (RelT.len t) j (AllR.take (RelT.len t) k hall), ?_⟩
  rw [hlen, ho, ek]
  exact window hwin hk
theorem slice_at {H : Heap} {t : Ty} {vx : AV} {news : List t.El} (h : slOf H t vx = some news) {ρ : Pl} {hn : Nat} {w : World} {x : Value} (hr : HRel ρ H hn w) (hx : vx.rel ρ x) : SliceAt w (fun n => w.heap[n]?) t x news := by
  have hob : ∀ n o, ρ.ro.obj n = some o → w.heap[n]? = some o := fun n o h => (hr.ro n o h).1
  have up : ∀ {l : List t.El} {xs : List Value}, AllR (RelT ρ.ro.obj t) l xs → AllR (RelT (fun n => w.heap[n]?) t) l xs := fun h => AllR.imp (RelT.mono hob t) h
  unfold slOf at h
  split at h
  · rename_i m l hl0
    have hle : news = l ∧ ∀ i o len cap, vx = .sl i o len cap → len ≤ cap := by
      split at h
      · split at h
        · rename_i hb
          cases h
          exact ⟨rfl, fun i o len cap e => by cases e; exact Nat.le_of_ble_eq_true hb⟩
        · cases h
      · rename_i hne
        cases h
        exact ⟨rfl, fun i o len cap e => absurd e (hne i o len cap)⟩
    obtain ⟨rfl, hcap⟩ := hle
    clear h
    have h := hl0
    clear hl0
    unfold newsOf at h
    simp only [SI.nat_eq] at h
    split at h
    · rename_i i o len cap
      split at h
      · rename_i bt cl hl
        split at h
        · rename_i l hc hrows
          have hc := Nat.le_of_ble_eq_true hc
          cases h
          obtain ⟨n, hn1, ex⟩ := hx
          obtain ⟨n', ob, hn2, hg, vs, hvs, rfl⟩ := hr.obj _ _ hl
          rw [(Pl.pin_f hn1).1] at hn2
          cases hn2
          obtain ⟨h1, h2⟩ := rows_ok hrows (relL_take (len * t.size) (relL_drop o hvs))
          have h3 := hcap _ _ _ _ rfl
          subst h2
          exact .inr ⟨n, o, cap, _, _, _, _, ex, h3, hg, up h1, rfl⟩
        · cases h
      · cases h
    · rename_i i
      split at h
      · rename_i e t' z n l hl
        split at h
        · rename_i l2 hcl
          cases h
          obtain ⟨e1, rfl⟩ := Ty.castL_eq hcl
          subst e1
          obtain ⟨hn2, hh⟩ := hr.obj _ _ hl
          obtain ⟨htv, _⟩ := hx
          rcases hh with ⟨h1, h2⟩ | ⟨g, off, cap, cur, xs, h1, h2, h3, h4, h5, h6, h7, h8, h9⟩
          · rw [h1] at htv
            cases htv
            exact .inl ⟨none, rfl, h2⟩
          · rw [h2] at htv
            cases htv
            exact .inr ⟨g, off, cap, cur, _, _, xs, rfl, h5, h3, up h7, h9⟩
        · cases h
      · cases h
    · rename_i i hi
      split at h
      · rename_i e t' z n l hl
        split at h
        · rename_i l2 hcl
          cases h
          obtain ⟨e1, rfl⟩ := Ty.castL_eq hcl
          subst e1
          obtain ⟨hn2, hh⟩ := hr.obj _ _ hl
          obtain ⟨h0, hx⟩ := hx
          rcases hh with ⟨h1, h2⟩ | ⟨g, off, cap, cur, xs, h1, h2, h3, h4, h5, h6, h7, h8, h9⟩
          · rcases hx with ⟨k1, k2, k3⟩ | ⟨n2, o2, len, cap, k1, _⟩
            · exact .inl ⟨none, k3, by simp [h2]⟩
            · rw [h1] at k1; cases k1
          · rcases hx with ⟨k1, k2, k3⟩ | ⟨n2, o2, len, cap, k1, k2, k3, k4⟩
            · rw [h2] at k1; cases k1
            · rw [h2] at k1
              cases k1
              rw [k4]
              exact sa_win h3 (up h7) h9 (j := 0) (k := m.v.toNat) (Nat.zero_le _) (by omega) (by simp) (by simp) (by simp) (by omega)
        · cases h
      · cases h
    · rename_i i sz lo hi
      split at h
      · rename_i e t' z n l hl
        split at h
        · rename_i l2 hsz hcl
          have hsz := Nat.eq_of_beq_eq_true hsz
          cases h
          obtain ⟨e1, rfl⟩ := Ty.castL_eq hcl
          subst e1
          obtain ⟨hn2, hh⟩ := hr.obj _ _ hl
          obtain ⟨h0, h01, hx⟩ := hx
          rcases hh with ⟨h1, h2⟩ | ⟨g, off, cap, cur, xs, h1, h2, h3, h4, h5, h6, h7, h8, h9⟩
          · rcases hx with ⟨k1, k2, k3⟩ | ⟨n2, o2, len, cap, k1, _⟩
            · exact .inl ⟨none, k3, by simp [h2]⟩
            · rw [h1] at k1; cases k1
          · rcases hx with ⟨k1, k2, k3⟩ | ⟨n2, o2, len, cap, k1, k2, k3, k4⟩
            · rw [h2] at k1; cases k1
            · rw [h2] at k1
              cases k1
              rw [k4]
              by_cases hc : cap = lo.v.toNat
              · refine .inl ⟨some ⟨g, off, none⟩, ?_, ?_⟩
                · show Value.slice (some ⟨g, if cap = lo.v.toNat then off else off + lo.v.toNat * sz, none⟩) (hi.v - lo.v).toNat (cap - lo.v.toNat) = _
                  rw [if_pos hc, show (hi.v - lo.v).toNat = 0 by omega, show cap - lo.v.toNat = 0 by omega]
                · apply List.length_eq_zero_iff.1
                  simp
                  omega
              · show SliceAt w _ t' (.slice (some ⟨g, if cap = lo.v.toNat then off else off + lo.v.toNat * sz, none⟩) (hi.v - lo.v).toNat (cap - lo.v.toNat)) _
                rw [if_neg hc]
                exact sa_win h3 (up h7) h9 (j := lo.v.toNat) (k := hi.v.toNat) (by omega) (by omega) (by rw [hsz]) rfl (by omega) (by omega)
        · cases h
      · cases h
    · rename_i i t' l lo
      split at h
      · rename_i l2 hcl
        cases h
        obtain ⟨e1, rfl⟩ := Ty.castL_eq hcl
        subst e1
        unfold AV.rel at hx
        rcases hx with ⟨a, _, rfl, rfl⟩ | ⟨n, o, len, cap, cs, ty, fz, xs, h1, h2, h3, h3a, h3b, h4, h5, h6⟩
        · exact .inl ⟨a, rfl, rfl⟩
        · have hw := (hr.ro n _ h4).1
          rw [h2]
          cases lo with
          | none => exact .inr ⟨n, o, cap, cs, ty, fz, xs, rfl, (show l.length ≤ cap by simp at h3; omega), hw, up h5, by simpa using h6⟩
          | some lo =>
            simp only [Option.getD_some] at h3 h6
            by_cases hc : cap = lo
            · refine .inl ⟨some ⟨n, o, none⟩, ?_, ?_⟩
              · show Value.slice (some ⟨n, if cap = lo then o else o + lo * t'.size, none⟩) l.length (cap - lo) = _
                rw [if_pos hc, show l.length = 0 by omega, show cap - lo = 0 by omega]
              · apply List.length_eq_zero_iff.1
                show l.length = 0
                omega
            · refine .inr ⟨n, o + lo * t'.size, cap - lo, cs, ty, fz, xs, ?_, (show l.length ≤ cap - lo by omega), hw, up h5, h6⟩
              show Value.slice (some ⟨n, if cap = lo then o else o + lo * t'.size, none⟩) l.length (cap - lo) = _
              rw [if_neg hc]
      · cases h
    · rename_i t' l
      split at h
      · rename_i l2 hcl
        cases h
        obtain ⟨e1, rfl⟩ := Ty.castL_eq hcl
        subst e1
        unfold AV.rel at hx
        rcases hx with ⟨a, rfl, rfl⟩ | ⟨n, o, cap, cs, ty, fz, xs, h1, h0, h4, h5, h6⟩
        · exact .inl ⟨a, rfl, rfl⟩
        · exact .inr ⟨n, o, cap, cs, ty, fz, xs, h1, h0, (hr.ro n _ h4).1, up h5, h6⟩
      · cases h
    · cases h
      exact .inl ⟨none, hx, rfl⟩
    · cases h
  · cases h
theorem qArgs_rel {H : Heap} {ρ : Pl} {hn : Nat} {w : World} (hr : HRel ρ H hn w) (vs : List Value) : ∀ (q : List QA) {l r : List AV} {i : Nat} {xs : List Value}, qArgs H q l i = some r → AV.relL ρ l xs → (∀ k v, (hdrs q xs)[k]? = some v → vs[i + k]? = some v) → AV.relL (Pl.none 0 (inRO w vs)) r xs
  | [], l, r, i, xs, h, hx, hv => by
    cases l with
    | nil =>
      cases h
      exact hx
    | cons a l => simp [qArgs] at h
  | .flat :: q, l, r, i, xs, h, hx, hv => by
    cases l with
    | nil => simp [qArgs] at h
    | cons a l =>
      obtain ⟨x, xs', hx1, hx2, rfl⟩ := hx
      unfold qArgs at h
      split at h
      · rename_i r' hfl hq
        cases h
        refine ⟨x, xs', ?_, qArgs_rel hr vs q hq hx2 hv, rfl⟩
        obtain rfl := AV.rel_uniq a (AV.flat_uq a hfl) hx1 (AV.flat_rel a hfl)
        exact AV.flat_rel a hfl
      · cases h
  | .sl t :: q, l, r, i, xs, h, hx, hv => by
    cases l with
    | nil => simp [qArgs] at h
    | cons a l =>
      obtain ⟨x, xs', hx1, hx2, rfl⟩ := hx
      unfold qArgs at h
      split at h
      · rename_i y r' hsl hq
        cases h
        refine ⟨x, xs', rel_lst (slice_at hsl hr hx1) (by simpa using hv 0 x rfl), qArgs_rel hr vs q hq hx2 (fun k v hk => ?_), rfl⟩
        have := hv (k + 1) v hk
        rw [show i + 1 + k = i + (k + 1) by omega]
        exact this
      · cases h
/-- A function that reads slices alone, and whose answer is flat. -/
structure QK (X R : Type) where
  q : List QA
  decX : List AV → Option X
  encX : X → List AV
  dec : AV → Heap → Nat → Option R
  enc : R → AV
noncomputable def QK.c {X R : Type} (K : QK X R) (step : X → Option R) : Entry := fun args H hn =>
  match qArgs H K.q args 0 with
  | some ys => match K.decX ys with
    | some x => some { o := step x, enc := K.enc }
    | none => none
  | none => none
structure QK.OK {X R : Type} (K : QK X R) : Prop where
  x : ∀ ys x, K.decX ys = some x → Ptw ys (K.encX x)
  r : ∀ v H hn r, K.dec v H hn = some r → (K.enc r).flat = true ∧ ∀ ρ x, v.rel ρ x → (K.enc r).rel ρ x
theorem Ptw.rel {ρ : Pl} : ∀ {ys zs : List AV} {xs : List Value}, Ptw ys zs → AV.relL ρ ys xs → AV.relL ρ zs xs
  | [], [], _, _, h => h
  | y :: ys, z :: zs, _, hp, ⟨x, xs, hx, hxs, e⟩ => ⟨x, xs, hp.1.1 ρ x hx, Ptw.rel hp.2 hxs, e⟩
  | [], _ :: _, _, hp, _ => hp.elim
  | _ :: _, [], _, hp, _ => hp.elim
theorem qk_ok {ct : CTab} {lt : LTab} (hN : Named P) (hm : P.follows .mixedOrders = true) (hct : CtOK P ct) (hlt : LtOK P lt) {X R : Type} {K : QK X R} (hK : K.OK) {step : X → Option R} {n : Nat} {f : FuncId}
    (hfix : ∀ x, (walk P ct lt n f (K.encX x) [] 0).fixed = walk P ct lt n f (K.encX x) [] 0) (hstep : ∀ x, (walk P ct lt n f (K.encX x) [] 0).strip.opt K.dec = step x) : EntryOK P f (K.c step) := by
  intro args H hn c hc heq y hy ρ w xs hx hr
  unfold QK.c at hc
  split at hc
  · rename_i ys hg
    split at hc
    · rename_i x hdx
      cases hc
      have hy : step x = some y := hy
      have hx2 := (hK.x ys x hdx).rel (qArgs_rel hr (hdrs K.q xs) K.q hg hx (fun k v hk => by simpa using hk))
      refine (walk_ok hN hm hct hlt (Tree.den_of_strip (Tree.den_of_opt ((hstep x).trans hy)) (hfix x)) hx2 (HRel.inRO w _)).mono ?_
      rintro e w' ⟨v, H', hn', ρ', u, rfl, hd, _, hv, _, hi⟩
      have hb : Below w.heap.size w w' := ⟨hi.os, hi.tape, hi.output, hi.size, fun k hk => hi.keep k hk (fun ⟨_, h⟩ => by cases h)⟩
      obtain ⟨h1, h2⟩ := hK.r v H' hn' y hd
      exact ⟨u, ρ, rfl, flat_any h1 (h2 ρ' u hv), ⟨rfl, hr.below hb⟩, Eff.of_below hb, fun _ h => by cases h⟩
    · cases hc
  · cases hc
/- a function that reads slices, and makes memory -/
mutual
def AV.noRo : AV → Bool
  | .lst _ _ _ _ => false
  | .lpt _ _ _ _ _ _ => false
  | .rpt _ _ _ _ => false
  | .ro _ _ => false
  | .fn _ a b => AV.noRoL a && AV.noRoL b
  | .iface _ v => v.noRo
  | .agg l => AV.noRoL l
  | .tup l => AV.noRoL l
  | _ => true
def AV.noRoL : List AV → Bool
  | [] => true
  | a :: l => a.noRo && AV.noRoL l
end
def AB.noRo : AB → Bool
  | .cells _ l => AV.noRoL l
  | .vec _ t _ _ _ => t.noSl
  | .mark => true
  | .dead => true
  | .loop .. => false
def noRoH : Heap → Bool
  | [] => true
  | (_, b) :: l => match b.noRo with
    | true => noRoH l
    | false => false
theorem noRoH_look {H : Heap} (h : noRoH H = true) {i : Nat} {b : AB} (hb : look H i = some b) : b.noRo = true := by
  induction H with
  | nil => simp [look] at hb
  | cons p H ih =>
    obtain ⟨t, c⟩ := p
    unfold noRoH at h
    split at h
    · rename_i hc
      rw [look_cons] at hb
      by_cases e : t = i
      · rw [if_pos e] at hb
        cases hb
        exact hc
      · rw [if_neg e] at hb
        exact ih h hb
    · cases h
def Pl.withRO (ρ : Pl) (r : RO) : Pl := ⟨ρ.f, ρ.top, ρ.wf, r, ρ.tv, ρ.twf⟩
mutual
theorem AV.rel_ro {ρ : Pl} (r : RO) : ∀ (a : AV) {v : Value}, a.noRo = true → a.rel ρ v → a.rel (ρ.withRO r) v
  | .bool _, _, _, x => x
  | .int _ _, _, _, x => x
  | .str _, _, _, x => x
  | .ptr _ _, _, _, x => x
  | .nilPtr, _, _, x => x
  | .sl _ _ _ _, _, _, x => x
  | .nilSl, _, _, x => x
  | .fn _ a b, _, hs, ⟨xs, ys, hx, hy, e⟩ => by
    simp only [AV.noRo, Bool.and_eq_true] at hs
    exact ⟨xs, ys, AV.relL_ro r a hs.1 hx, AV.relL_ro r b hs.2 hy, e⟩
  | .yld _, _, _, x => x
  | .nilFn, _, _, x => x
  | .iface _ a, _, hs, ⟨x, hx, e⟩ => ⟨x, AV.rel_ro r a hs hx, e⟩
  | .nilIface, _, _, x => x
  | .agg l, _, hs, ⟨xs, hx, e⟩ => ⟨xs, AV.relL_ro r l hs hx, e⟩
  | .tup l, _, hs, ⟨xs, hx, e⟩ => ⟨xs, AV.relL_ro r l hs hx, e⟩
  | .lst _ _ _ _, _, hs, _ => by cases hs
  | .lpt _ _ _ _ _ _, _, hs, _ => by cases hs
  | .rpt _ _ _ _, _, hs, _ => by cases hs
  | .ro _ _, _, hs, _ => by cases hs
  | .own _, _, _, x => x
  | .pre _ _, _, _, x => x
  | .vw _ _ _ _, _, _, x => x
  | .ept _ _ _ _, _, _, x => x
theorem AV.relL_ro {ρ : Pl} (r : RO) : ∀ (l : List AV) {vs : List Value}, AV.noRoL l = true → AV.relL ρ l vs → AV.relL (ρ.withRO r) l vs
  | [], _, _, x => x
  | a :: l, _, hs, ⟨x, xs, hx, hl, e⟩ => by
    simp only [AV.noRoL, Bool.and_eq_true] at hs
    exact ⟨x, xs, AV.rel_ro r a hs.1 hx, AV.relL_ro r l hs.2 hl, e⟩
end
theorem Held.ro {ρ : Pl} (r : RO) {w : World} {i : Nat} : ∀ {b : AB}, b.noRo = true → Held ρ w i b → Held (ρ.withRO r) w i b
  | .cells t l, hs, ⟨n, o, h1, h2, xs, hx, e⟩ => ⟨n, o, h1, h2, xs, AV.relL_ro r l hs hx, e⟩
  | .vec e t z n l, hs, ⟨hn, hh⟩ => ⟨hn, hh.imp_right fun ⟨g, off, cap, cur, xs, h1, h2, h3, h4, h5, h6, h7, h8, h9⟩ => ⟨g, off, cap, cur, xs, h1, h2, h3, h4, h5, h6, AllR.imp (fun x vs h => RelT.any t x vs hs h) h7, h8, h9⟩⟩
  | .mark, _, h => h
  | .dead, _, ⟨n, o, h1, h2, _⟩ => ⟨n, o, h1, h2, trivial⟩
  | .loop .., hs, _ => by cases hs
structure RK (X Y : Type) where
  q : List QA
  decX : List AV → Option X
  encX : X → List AV
  tmR : Templ
  decY : List AV → Option Y
  encY : Y → List AV
def RK.leaf {X Y : Type} (K : RK X Y) (v : AV) (H : Heap) (_ : Nat) : Option Y :=
  match K.tmR.get [] [v] [] H with
  | some (A, ys) => match eqsH A H K.tmR.H with
    | [] => K.decY ys
    | _ => none
  | none => none
noncomputable def RK.c {X Y : Type} (K : RK X Y) (step : X → Option Y) : Entry := fun args H hn =>
  match qArgs H K.q args 0 with
  | some ys => match K.decX ys with
    | some x => some { o := step x, enc := fun y => (oneOf (K.tmR.vals (K.encY y))).ren (backAt [] [] hn), hp := some fun y => (renH (backAt [] [] hn) (K.tmR.heap (K.encY y)) ++ dropKeys [] H, hn + K.tmR.n), fr := some fun y => (renH (backAt [] [] hn) (K.tmR.heap (K.encY y)) ++ dropKeys [] [], hn + K.tmR.n) }
    | none => none
  | none => none
structure RK.OK {X Y : Type} (K : RK X Y) : Prop where
  x : ∀ ys x, K.decX ys = some x → Ptw ys (K.encX x)
  y : ∀ ys x, K.decY ys = some x → Ptw ys (K.encY x)
  ro : ∀ y, AV.noRoL (K.tmR.vals (K.encY y)) = true ∧ noRoH (K.tmR.heap (K.encY y)) = true
theorem rk_ok {ct : CTab} {lt : LTab} (hN : Named P) (hm : P.follows .mixedOrders = true) (hct : CtOK P ct) (hlt : LtOK P lt) {X Y : Type} {K : RK X Y} (hK : K.OK) {step : X → Option Y} {n : Nat} {f : FuncId}
    (hfix : ∀ x, (walk P ct lt n f (K.encX x) [] 0).fixed = walk P ct lt n f (K.encX x) [] 0) (hstep : ∀ x, (walk P ct lt n f (K.encX x) [] 0).strip.opt K.leaf = step x) : EntryOK P f (K.c step) := by
  intro args H hn c hc heq y hy ρ w xs hx hr
  unfold RK.c at hc
  split at hc
  · rename_i ys hg
    split at hc
    · rename_i x hdx
      cases hc
      have hy : step x = some y := hy
      have hx2 := (hK.x ys x hdx).rel (qArgs_rel hr (hdrs K.q xs) K.q hg hx (fun k v hk => by simpa using hk))
      refine (walk_ok hN hm hct hlt (Tree.den_of_strip (Tree.den_of_opt ((hstep x).trans hy)) (hfix x)) hx2 (HRel.inRO w _)).mono ?_
      rintro e w' ⟨v, H', hn', ρ2, u, rfl, hd, _, hv, hr2, hi⟩
      unfold RK.leaf at hd
      split at hd
      · rename_i A2 ys2 hg2
        split at hd
        · rename_i heqs
          obtain ⟨t1, t2, t3, _, _, t6⟩ := K.tmR.get_ok hg2 (hK.y ys2 y hd)
          obtain ⟨k1, k2⟩ := t6 (relL_one hv) ⟨hr2.inj, hr2.lt, hr2.ro⟩ hr2.obj (fun p hp => by rw [heqs] at hp; cases hp) (nil_parts _)
          obtain ⟨n1, n2⟩ := hK.ro y
          have hbel : Below w.heap.size w w' := ⟨hi.os, hi.tape, hi.output, hi.size, fun k hk => hi.keep k hk (fun ⟨_, h⟩ => by cases h)⟩
          have hnew : ∀ j n, ρ2.pull A2 K.tmR.n j = some n → w.heap.size ≤ n := fun j n hj => by
            obtain ⟨_, i, _, _, hi2⟩ := Pl.pull_some hj
            exact (hi.fresh i n hi2).resolve_left (fun ⟨_, h⟩ => by cases h)
          have hnone : ∀ j, ρ.pull [] 0 j = none := fun j => by
            cases hc : ρ.pull [] 0 j with
            | none => rfl
            | some n => exact absurd (Pl.pull_some hc).1 (by omega)
          have hinv : Inv w (ρ.pull [] 0).ms ((ρ2.pull A2 K.tmR.n).withRO ρ.ro) w' := ⟨hi.os, hi.tape, hi.output, hi.size, fun k hk _ => hbel.block k hk, fun j n hj => .inr (hnew j n hj), fun n o h => .inl ⟨o, h⟩⟩
          have hT : HRel ((ρ2.pull A2 K.tmR.n).withRO ρ.ro) (K.tmR.heap (K.encY y)) K.tmR.n w' := by
            refine ⟨k2.len, k2.inj, k2.lt, fun n o hn' => ?_, fun i b hb => Held.ro ρ.ro (noRoH_look n2 hb) (k2.obj i b hb)⟩
            have hn'' : ρ.ro.obj n = some o := hn'
            obtain ⟨g1, g2⟩ := hr.ro n o hn''
            have hlt := (Array.getElem?_eq_some_iff.1 g1).1
            refine ⟨(hbel.block n hlt).trans g1, fun j hj => ?_⟩
            have := hnew j n hj
            omega
          obtain ⟨p1, p2, p3, p4⟩ := push_ok (ρr := (ρ2.pull A2 K.tmR.n).withRO ρ.ro) (A := []) (S := []) (n0 := 0) hr rfl rfl (fun j i c hj => by simp [look] at hj) (fun j hj => by cases hj) (fun j i c hj => by simp [look] at hj) (RO.Le.refl _) (fun j hj => by cases hj) hinv hT
          have hinv0 : Inv w ((Pl.none hn).pull [] 0).ms ((ρ2.pull A2 K.tmR.n).withRO RO.none) w' := ⟨hi.os, hi.tape, hi.output, hi.size, fun k hk _ => hbel.block k hk, fun j n hj => .inr (hnew j n hj), fun n o h => (by cases (show Option.none = some o from h))⟩
          have hT0 : HRel ((ρ2.pull A2 K.tmR.n).withRO RO.none) (K.tmR.heap (K.encY y)) K.tmR.n w' := ⟨k2.len, k2.inj, k2.lt, fun n o hn' => (by cases (show Option.none = some o from hn')), fun i b hb => Held.ro RO.none (noRoH_look n2 hb) (k2.obj i b hb)⟩
          have hr0 : HRel (Pl.none hn) [] hn w := ⟨rfl, fun i j n h => (by cases h), fun i n h => (by cases h), fun n o h => (by cases h), fun i b h => by simp [look] at h⟩
          obtain ⟨q1, q2, q3, q4⟩ := push_ok (ρr := (ρ2.pull A2 K.tmR.n).withRO RO.none) (A := []) (S := []) (n0 := 0) hr0 rfl rfl (fun j i c hj => by simp [look] at hj) (fun j hj => by cases hj) (fun j i c hj => by simp [look] at hj) (RO.Le.refl _) (fun j hj => by cases hj) hinv0 hT0
          have hone0 : ∀ rr : RO, (oneOf (K.tmR.vals (K.encY y))).rel ((ρ2.pull A2 K.tmR.n).withRO rr) u := by
            intro rr
            cases hvs : K.tmR.vals (K.encY y) with
            | nil =>
              rw [hvs] at k1
              cases (show [u] = [] from k1)
            | cons z zs =>
              rw [hvs] at k1 n1
              obtain ⟨x1, xs1, hx1, hxs1, e1⟩ := k1
              cases e1
              simp only [AV.noRoL, Bool.and_eq_true] at n1
              cases zs with
              | nil => exact AV.rel_ro rr _ n1.1 hx1
              | cons z2 zs =>
                obtain ⟨x2, xs2, _, _, e2⟩ := hxs1
                cases e2
          have hfr : ∀ g : Y → Heap × Nat, (some fun y => (renH (backAt [] [] hn) (K.tmR.heap (K.encY y)) ++ dropKeys [] [], hn + K.tmR.n)) = some g → ∃ ρ2', Ext (Pl.none hn) ρ2' ∧ ((oneOf (K.tmR.vals (K.encY y))).ren (backAt [] [] hn)).rel ρ2' u ∧ HRel ρ2' (g y).1 (g y).2 w' ∧ Inv w MS.no ρ2' w' := fun g hg => by
            cases hg
            exact ⟨_, q1, AV.ren_ok q2 _ (hone0 _), q3, ⟨hi.os, hi.tape, hi.output, hi.size, fun k hk _ => hbel.block k hk, fun j n hj => (q4.fresh j n hj).imp_left fun ⟨i, hi⟩ => (by cases hi), fun n o h => (by cases (show Option.none = some o from h))⟩⟩
          refine ⟨u, _, rfl, ?_, ⟨p1, p3⟩, p4, hfr⟩
          have hone : (oneOf (K.tmR.vals (K.encY y))).rel ((ρ2.pull A2 K.tmR.n).withRO ρ.ro) u := by
            cases hvs : K.tmR.vals (K.encY y) with
            | nil =>
              rw [hvs] at k1
              cases (show [u] = [] from k1)
            | cons z zs =>
              rw [hvs] at k1 n1
              obtain ⟨x1, xs1, hx1, hxs1, e1⟩ := k1
              cases e1
              simp only [AV.noRoL, Bool.and_eq_true] at n1
              cases zs with
              | nil => exact AV.rel_ro ρ.ro _ n1.1 hx1
              | cons z2 zs =>
                obtain ⟨x2, xs2, _, _, e2⟩ := hxs1
                cases e2
          exact AV.ren_ok p2 _ hone
        · cases hd
      · cases hd
    · cases hc
  · cases hc
/-- A contract that writes. -/
noncomputable def markW (g : Entry) : Entry := fun args H hn =>
  match args with
  | [.nilFn, .nilFn, .nilFn] => some { o := (none : Option Unit), enc := fun _ => .nilFn }
  | _ => g args H hn
theorem markW_ok {f : FuncId} {g : Entry} (h : EntryOK P f g) : EntryOK P f (markW g) := by
  intro args H hn c hc heq r hr
  unfold markW at hc
  split at hc
  · cases hc
    cases hr
  · exact h args H hn c hc heq r hr
/- what a template's holes say -/
def dL (t : Ty) : AV → Option (List t.El)
  | .ro t' l => Ty.castL t' t l
  | _ => none
def dLst (i : Nat) (t : Ty) : AV → Option (List t.El)
  | .lst i' t' l none => match Nat.beq i' i with
    | true => Ty.castL t' t l
    | false => none
  | _ => none
theorem dL_ok {t : Ty} {v : AV} {l : List t.El} (h : dL t v = some l) : Ptw1 v (.ro t l) := by
  unfold dL at h
  split at h
  · obtain ⟨e, rfl⟩ := Ty.castL_eq h
    subst e
    exact ⟨fun ρ x hx => hx, fun t l e => e⟩
  · cases h
theorem dLst_ok {i : Nat} {t : Ty} {v : AV} {l : List t.El} (h : dLst i t v = some l) : Ptw1 v (.lst i t l none) := by
  unfold dLst at h
  split at h
  · split at h
    · rename_i hi
      obtain rfl := Nat.eq_of_beq_eq_true hi
      obtain ⟨e, rfl⟩ := Ty.castL_eq h
      subst e
      exact ⟨fun ρ x hx => hx, fun t l e => by cases e⟩
    · cases h
  · cases h
theorem dI_p {k : IntKind} {v : AV} {n : Int} (h : dI k v = some n) : Ptw1 v (.int k (.s n)) := ⟨fun ρ x hx => dI_ok h hx, fun t l e => by subst e; cases h⟩
theorem dB_p {v : AV} {n : Bool} (h : dB v = some n) : Ptw1 v (.bool (.s n)) := ⟨fun ρ x hx => dB_ok h hx, fun t l e => by subst e; cases h⟩
theorem dS_p {v : AV} {n : ByteArray} (h : dS v = some n) : Ptw1 v (.str n) := ⟨fun ρ x hx => dS_ok h hx, fun t l e => by subst e; cases h⟩
/-- A closed law's answer. -/
def isT : AV → Bool
  | .bool q => q.v
  | _ => false
theorem calls_holds {ct : CTab} {lt : LTab} (hN : Named P) (hm : P.follows .mixedOrders = true) (hct : CtOK P ct) (hlt : LtOK P lt) {n : Nat} {f : FuncId} (ht : (walk P ct lt n f [] [] 0).holds isT = true) (w : World) :
    Calls P f #[] w fun e w' => e = .returned (.bool true) ∧ Below w.heap.size w w' := by
  refine (walk_pure hN hm hct hlt (Tree.den_of_holds ht) w (xs := []) rfl).mono ?_
  rintro e w' ⟨v, H', hn', ρ', x, rfl, hd, hx, hb⟩
  refine ⟨?_, hb⟩
  unfold isT at hd
  split at hd
  · rw [show x = _ from hx, hd]
  · cases hd
theorem calls_holds' {ct : CTab} {lt : LTab} (hN : Named P) (hm : P.follows .mixedOrders = true) (hct : CtOK P ct) (hlt : LtOK P lt) {n : Nat} {f : FuncId} (hs : (walk P ct lt n f [] [] 0).fixed = walk P ct lt n f [] [] 0) (ht : (walk P ct lt n f [] [] 0).strip.holds isT = true) (w : World) :
    Calls P f #[] w fun e w' => e = .returned (.bool true) ∧ Below w.heap.size w w' := by
  refine (walk_pure hN hm hct hlt (Tree.den_of_strip (Tree.den_of_holds ht) hs) w (xs := []) rfl).mono ?_
  rintro e w' ⟨v, H', hn', ρ', x, rfl, hd, hx, hb⟩
  refine ⟨?_, hb⟩
  unfold isT at hd
  split at hd
  · rw [show x = _ from hx, hd]
  · cases hd
end Go.Proofs.Ytaoplfmaiclfkaa.SX
