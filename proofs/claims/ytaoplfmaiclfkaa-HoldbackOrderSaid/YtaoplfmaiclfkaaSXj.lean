/- A symbolic walk, part ten: tables of contracts, arguments and results. -/
import Derived.Test.YtaoplfmaiclfkaaSXi
namespace Go.Proofs.Ytaoplfmaiclfkaa.SX
set_option linter.unusedVariables false
set_option linter.unusedSimpArgs false
open Go Go.RowKit
variable {P : Program}
/- contracts in a table -/
abbrev Entry := List AV → Heap → Nat → Option Con
def EntryOK (P : Program) (f : FuncId) (g : Entry) : Prop :=
  ∀ args H hn c, g args H hn = some c → (∀ p ∈ c.eqs, p.1 = p.2) → ∀ r, c.o = some r → ∀ (ρ : Pl) (w : World) (xs : List Value), AV.relL ρ args xs → HRel ρ H hn w →
    Calls P f xs.toArray w fun e w' => ∃ v ρ', e = .returned v ∧ (c.enc r).rel ρ' v ∧ (match c.hp with | none => ρ' = ρ ∧ HRel ρ H hn w' | some h => Ext ρ ρ' ∧ HRel ρ' (h r).1 (h r).2 w') ∧ Eff ρ ρ' w w' ∧ FrPost c r hn v w w'
def ctOf (tab : List (Nat × Entry)) : CTab := fun f args H hn =>
  match look tab f with
  | some g => g args H hn
  | none => none
def TabOK (P : Program) (tab : List (Nat × Entry)) : Prop := ∀ f g, look tab f = some g → EntryOK P f g
theorem TabOK.nil : TabOK P [] := fun f g h => by simp [look] at h
theorem TabOK.cons {f : Nat} {g : Entry} {tab : List (Nat × Entry)} (h : EntryOK P f g) (ht : TabOK P tab) : TabOK P ((f, g) :: tab) := fun f' g' h' => by
  rw [look_cons] at h'
  by_cases e : f = f'
  · subst e
    rw [if_pos rfl] at h'
    cases h'
    exact h
  · rw [if_neg e] at h'
    exact ht f' g' h'
theorem TabOK.ct {tab : List (Nat × Entry)} (h : TabOK P tab) : CtOK P (ctOf tab) := fun f args H hn c hc => by
  unfold ctOf at hc
  split at hc
  · rename_i g hg
    exact h f g hg args H hn c hc
  · cases hc
def noL : LTab := fun _ _ => none
theorem noL_ok : LtOK P noL := fun _ _ _ _ _ _ _ h => by cases h
/-- A contract out of a walk that is known. -/
theorem calls_of {ct : CTab} {lt : LTab} (hN : Named P) (hm : P.follows .mixedOrders = true) (hct : CtOK P ct) (hlt : LtOK P lt) {n : Nat} {f : FuncId} {args : List AV} {R : Type} {dec : AV → Heap → Nat → Option R} {F : Option R} {r : R}
    (ht : (walk P ct lt n f args [] 0).opt dec = F) (h : F = some r) (hflat : AV.flatL args = true) {xs : List Value} (hxs : AV.toVL args = xs) (w : World) {val : Value}
    (hv : ∀ v H hn ρ x, dec v H hn = some r → v.rel ρ x → x = val) : Calls P f xs.toArray w fun e w' => e = .returned val ∧ Below w.heap.size w w' := by
  subst hxs
  refine (walk_pure hN hm hct hlt (Tree.den_of_opt (ht.trans h)) w (AV.flatL_rel _ hflat)).mono ?_
  rintro e w' ⟨v, H', hn', ρ', x, rfl, hd, hx, hb⟩
  exact ⟨congrArg Ending.returned (hv v H' hn' ρ' x hd hx), hb⟩
/-- The same, where calls in drawn regions were seen to leave memory as it was. -/
theorem calls_of' {ct : CTab} {lt : LTab} (hN : Named P) (hm : P.follows .mixedOrders = true) (hct : CtOK P ct) (hlt : LtOK P lt) {n : Nat} {f : FuncId} {args : List AV} {R : Type} {dec : AV → Heap → Nat → Option R} {F : Option R} {r : R}
    (hs : (walk P ct lt n f args [] 0).fixed = walk P ct lt n f args [] 0) (ht : (walk P ct lt n f args [] 0).strip.opt dec = F) (h : F = some r) (hflat : AV.flatL args = true) {xs : List Value} (hxs : AV.toVL args = xs) (w : World) {val : Value}
    (hv : ∀ v H hn ρ x, dec v H hn = some r → v.rel ρ x → x = val) : Calls P f xs.toArray w fun e w' => e = .returned val ∧ Below w.heap.size w w' := by
  subst hxs
  refine (walk_pure hN hm hct hlt (Tree.den_of_strip (Tree.den_of_opt (ht.trans h)) hs) w (AV.flatL_rel _ hflat)).mono ?_
  rintro e w' ⟨v, H', hn', ρ', x, rfl, hd, hx, hb⟩
  exact ⟨congrArg Ending.returned (hv v H' hn' ρ' x hd hx), hb⟩
/- arguments, one by one -/
def aI (k : IntKind) (args : List AV) (f : Int → List AV → Option Con) : Option Con :=
  match args with
  | .int k' n :: l => match decide (k' = k) with
    | true => f n.v l
    | false => none
  | _ => none
def aB (args : List AV) (f : Bool → List AV → Option Con) : Option Con :=
  match args with
  | .bool b :: l => f b.v l
  | _ => none
def aS (args : List AV) (f : ByteArray → List AV → Option Con) : Option Con :=
  match args with
  | .str s :: l => f s l
  | _ => none
def aG (args : List AV) (f : List AV → List AV → Option Con) : Option Con :=
  match args with
  | .agg l :: r => f l r
  | _ => none
def aN (args : List AV) (f : Option Con) : Option Con :=
  match args with
  | [] => f
  | _ => none
section
variable {ρ : Pl} {args : List AV} {xs : List Value} {c : Con}
theorem aI_ok {k : IntKind} {f : Int → List AV → Option Con} (h : aI k args f = some c) (hx : AV.relL ρ args xs) : ∃ n xs' l, xs = .int k n :: xs' ∧ AV.relL ρ l xs' ∧ f n l = some c := by
  unfold aI at h
  split at h
  · rename_i k' n l
    split at h
    · rename_i hk
      have hk : k' = k := of_decide_eq_true hk
      subst hk
      obtain ⟨x, xs', hx, hxs, rfl⟩ := hx
      exact ⟨n.v, xs', l, by rw [show x = _ from hx], hxs, h⟩
    · cases h
  · cases h
theorem aB_ok {f : Bool → List AV → Option Con} (h : aB args f = some c) (hx : AV.relL ρ args xs) : ∃ n xs' l, xs = .bool n :: xs' ∧ AV.relL ρ l xs' ∧ f n l = some c := by
  unfold aB at h
  split at h
  · rename_i b l
    obtain ⟨x, xs', hx, hxs, rfl⟩ := hx
    exact ⟨b.v, xs', l, by rw [show x = _ from hx], hxs, h⟩
  · cases h
theorem aS_ok {f : ByteArray → List AV → Option Con} (h : aS args f = some c) (hx : AV.relL ρ args xs) : ∃ n xs' l, xs = .string n :: xs' ∧ AV.relL ρ l xs' ∧ f n l = some c := by
  unfold aS at h
  split at h
  · rename_i b l
    obtain ⟨x, xs', hx, hxs, rfl⟩ := hx
    exact ⟨b, xs', l, by rw [show x = _ from hx], hxs, h⟩
  · cases h
theorem aG_ok {f : List AV → List AV → Option Con} (h : aG args f = some c) (hx : AV.relL ρ args xs) : ∃ vs xs' l r, xs = .agg vs.toArray :: xs' ∧ AV.relL ρ l vs ∧ AV.relL ρ r xs' ∧ f l r = some c := by
  unfold aG at h
  split at h
  · rename_i l r
    obtain ⟨x, xs', ⟨vs, hvs, hx⟩, hxs, rfl⟩ := hx
    exact ⟨vs, xs', l, r, by rw [hx], hvs, hxs, h⟩
  · cases h
theorem aN_ok {f : Option Con} (h : aN args f = some c) (hx : AV.relL ρ args xs) : xs = [] ∧ f = some c := by
  unfold aN at h
  split at h
  · exact ⟨hx, h⟩
  · cases h
end
/- results -/
def dI (k : IntKind) : AV → Option Int
  | .int k' n => match decide (k' = k) with
    | true => some n.v
    | false => none
  | _ => none
def dB : AV → Option Bool
  | .bool b => some b.v
  | _ => none
def dS : AV → Option ByteArray
  | .str s => some s
  | _ => none
theorem dI_ok {k : IntKind} {v : AV} {n : Int} {ρ : Pl} {x : Value} (h : dI k v = some n) (hx : v.rel ρ x) : x = .int k n := by
  unfold dI at h
  split at h
  · split at h
    · rename_i hk
      have hk := of_decide_eq_true hk
      subst hk
      cases h
      exact hx
    · cases h
  · cases h
theorem dB_ok {v : AV} {n : Bool} {ρ : Pl} {x : Value} (h : dB v = some n) (hx : v.rel ρ x) : x = .bool n := by
  unfold dB at h
  split at h
  · cases h
    exact hx
  · cases h
theorem dS_ok {v : AV} {n : ByteArray} {ρ : Pl} {x : Value} (h : dS v = some n) (hx : v.rel ρ x) : x = .string n := by
  unfold dS at h
  split at h
  · cases h
    exact hx
  · cases h
end Go.Proofs.Ytaoplfmaiclfkaa.SX
