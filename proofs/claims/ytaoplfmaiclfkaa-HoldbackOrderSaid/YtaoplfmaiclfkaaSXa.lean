/- A symbolic walk, part one: what it computes. Numbers are known or symbolic; memory is a list of blocks by number; the walk's outcome is a tree of tests. -/
import Derived.RangeFuncIn
import Derived.RangeFuncLeaves
import Derived.Laws.Rows
import Derived.Laws.StructEq
import Derived.Laws.Small
import Derived.Laws.Pointers
import Derived.Test.YtaoplfmaiclfkaaSXt
import Derived.KernelRfl
import Derived.RowKit
namespace Go.Proofs.Ytaoplfmaiclfkaa.SX
set_option linter.unusedVariables false
set_option linter.unusedSimpArgs false
open Go
/-- A whole number: known, or symbolic. -/
inductive SI where
  | c (n : Int)
  | s (n : Int)
inductive SB where
  | c (b : Bool)
  | s (b : Bool)
  | p (q : Prop) (d : Decidable q)
/- A number's value is unfolded ahead of whatever it is compared with: its definition is a high one. -/
def tall0 : Nat := 0
def tall1 : Nat := tall0
def tall2 : Nat := tall1
def tall3 : Nat := tall2
def tall4 : Nat := tall3
def tall5 : Nat := tall4
def tall6 : Nat := tall5
def tall7 : Nat := tall6
def tall8 : Nat := tall7
def tall9 : Nat := tall8
def tall10 : Nat := tall9
def tall11 : Nat := tall10
def tall12 : Nat := tall11
def tall13 : Nat := tall12
def tall14 : Nat := tall13
def tall15 : Nat := tall14
def tall16 : Nat := tall15
def tall17 : Nat := tall16
def tall18 : Nat := tall17
def tall19 : Nat := tall18
def tall20 : Nat := tall19
def tall21 : Nat := tall20
def tall22 : Nat := tall21
def tall23 : Nat := tall22
def tall24 : Nat := tall23
def tall25 : Nat := tall24
def tall26 : Nat := tall25
def tall27 : Nat := tall26
def tall28 : Nat := tall27
def tall29 : Nat := tall28
def tall30 : Nat := tall29
def tall31 : Nat := tall30
def tall32 : Nat := tall31
def tall33 : Nat := tall32
def tall34 : Nat := tall33
def tall35 : Nat := tall34
def tall36 : Nat := tall35
def tall37 : Nat := tall36
def tall38 : Nat := tall37
def tall39 : Nat := tall38
def tall40 : Nat := tall39
def tall41 : Nat := tall40
def tall42 : Nat := tall41
def tall43 : Nat := tall42
def tall44 : Nat := tall43
def tall45 : Nat := tall44
def tall46 : Nat := tall45
def tall47 : Nat := tall46
def tall48 : Nat := tall47
def tall49 : Nat := tall48
def tall50 : Nat := tall49
def tall51 : Nat := tall50
def tall52 : Nat := tall51
def tall53 : Nat := tall52
def tall54 : Nat := tall53
def tall55 : Nat := tall54
def tall56 : Nat := tall55
def tall57 : Nat := tall56
def tall58 : Nat := tall57
def tall59 : Nat := tall58
def tall60 : Nat := tall59
def SI.v : SI → Int
  | .c n => n
  | .s n => let _ := tall60; n
def SI.nat : SI → Nat
  | .c n => n.toNat
  | .s n => n.toNat
theorem SI.nat_eq (n : SI) : n.nat = n.v.toNat := by cases n <;> rfl
def SB.v : SB → Bool
  | .c b => b
  | .s b => b
  | .p q d => @decide q d
/-- A kind's wrap; int64's by its own name. -/
def wr (k : IntKind) (n : Int) : Int :=
  match k with
  | .i64 => RowKit.wrap64 n
  | k => k.wrap n
theorem wr_eq (k : IntKind) (n : Int) : wr k n = k.wrap n := by
  cases k <;> first | rfl | skip
  simp [wr, RowKit.wrap64, IntKind.wrap, IntKind.bits, IntKind.signed]
  omega
/-- What a slice's elements are made of. -/
inductive Ty where
  | int (k : IntKind)
  | bool
  | str
  | unit
  | pair (a b : Ty)
  | sl (t : Ty)
def Ty.El : Ty → Type
  | .int _ => Int
  | .bool => Bool
  | .str => ByteArray
  | .unit => Unit
  | .pair a b => a.El × b.El
  | .sl t => List t.El
def Ty.eq : Ty → Ty → Bool
  | .int k, .int k' => decide (k = k')
  | .bool, .bool => true
  | .str, .str => true
  | .unit, .unit => true
  | .pair a b, .pair c d => a.eq c && b.eq d
  | .sl a, .sl b => a.eq b
  | _, _ => false
theorem Ty.eq_of : ∀ {a b : Ty}, a.eq b = true → a = b
  | .int k, .int k', h => by rw [of_decide_eq_true h]
  | .bool, .bool, _ => rfl
  | .str, .str, _ => rfl
  | .unit, .unit, _ => rfl
  | .pair a b, .pair c d, h => by
    simp only [Ty.eq, Bool.and_eq_true] at h
    rw [Ty.eq_of h.1, Ty.eq_of h.2]
  | .sl a, .sl b, h => by rw [Ty.eq_of (a := a) (b := b) h]
def Ty.size : Ty → Nat
  | .int _ => 1
  | .bool => 1
  | .str => 1
  | .unit => 0
  | .pair a b => a.size + b.size
  | .sl _ => 1
def Ty.dflt : (t : Ty) → t.El
  | .int _ => (0 : Int)
  | .bool => false
  | .str => ByteArray.empty
  | .unit => ()
  | .pair a b => (a.dflt, b.dflt)
  | .sl _ => []
def Ty.castL (a b : Ty) (l : List a.El) : Option (List b.El) :=
  match h : a.eq b with
  | true => some (Ty.eq_of h ▸ l)
  | false => none
theorem Ty.castL_eq {a b : Ty} {l : List a.El} {m : List b.El} (h : Ty.castL a b l = some m) : ∃ e : a = b, m = e ▸ l := by
  unfold Ty.castL at h
  split at h
  · cases h
    exact ⟨Ty.eq_of ‹_›, rfl⟩
  · cases h
/-- Cells, one element behind the other. -/
def AllR {α : Type} (R : α → List Value → Prop) : List α → List Value → Prop
  | [], vs => vs = []
  | x :: l, vs => ∃ u w, R x u ∧ AllR R l w ∧ vs = u ++ w
/-- A slice whose cells do not change. -/
def SlR {α : Type} (R : α → List Value → Prop) (ob : Nat → Option Obj) (size : Nat) (l : List α) (v : Value) : Prop :=
  (∃ a, v = .slice a 0 0 ∧ l = []) ∨ ∃ n o cap cs ty fz xs, v = .slice (some ⟨n, o, none⟩) l.length cap ∧ l.length ≤ cap ∧ ob n = some (.cells cs ty fz) ∧ AllR R l xs ∧ (cs.toList.drop o).take (l.length * size) = xs
def RelT (ob : Nat → Option Obj) : (t : Ty) → t.El → List Value → Prop
  | .int k, n, vs => vs = [.int k n]
  | .bool, b, vs => vs = [.bool b]
  | .str, s, vs => vs = [.string s]
  | .unit, _, vs => vs = []
  | .pair a b, x, vs => ∃ u w, RelT ob a x.1 u ∧ RelT ob b x.2 w ∧ vs = u ++ w
  | .sl t, l, vs => ∃ v, vs = [v] ∧ SlR (RelT ob t) ob t.size l v
/-- Values, as the walk knows them; a pointer is a block's number here, and an offset. -/
inductive AV where
  | bool (b : SB)
  | int (k : IntKind) (n : SI)
  | str (s : ByteArray)
  | ptr (i o : Nat)
  | nilPtr
  | sl (i o len cap : Nat)
  | nilSl
  | fn (f : FuncId) (first capt : List AV)
  | yld (i : Nat)
  | nilFn
  | iface (t : TypeId) (v : AV)
  | nilIface
  | agg (l : List AV)
  | tup (l : List AV)
  | lst (i : Nat) (t : Ty) (l : List t.El) (lo : Option Nat)
  | lpt (i : Nat) (t : Ty) (l : List t.El) (lo j f : Nat)
  | rpt (t : Ty) (l : List t.El) (j f : Nat)
  | ro (t : Ty) (l : List t.El)
  | own (i : Nat)
  | pre (i : Nat) (hi : SI)
  | vw (i sz : Nat) (lo hi : SI)
  | ept (i sz j f : Nat)
/-- What came in, and is never written: slices by number, blocks by place. -/
structure RO where
  hd : Nat → Option Value
  obj : Nat → Option Obj
def RO.none : RO := ⟨fun _ => Option.none, fun _ => Option.none⟩
/-- Where blocks lie. -/
structure Pl where
  f : Nat → Option Nat
  top : Nat
  wf : ∀ i n, f i = some n → i < top
  ro : RO
  tv : Nat → Option Value
  twf : ∀ i v, tv i = some v → i < top
instance : CoeFun Pl (fun _ => Nat → Option Nat) := ⟨Pl.f⟩
def Pl.none (top : Nat) (ro : RO := RO.none) : Pl := ⟨fun _ => Option.none, top, fun _ _ h => (by cases h), ro, fun _ => Option.none, fun _ _ h => by cases h⟩
def Pl.put (ρ : Pl) (i n : Nat) : Pl := ⟨fun j => if j = i then some n else ρ j, max ρ.top (i + 1), fun j m h => by
  split at h
  · omega
  · have := ρ.wf j m h
    omega, ρ.ro, ρ.tv, fun j v h => by
  have := ρ.twf j v h
  omega⟩
/-- A slice's block, and its header; the slice that it came of is no more. -/
def Pl.vec (ρ : Pl) (j : Nat) (n : Option Nat) (v : Value) (kill : Option Nat) : Pl := ⟨fun x => if x = j then n else if kill = some x then Option.none else ρ x, max ρ.top (j + 1), fun x m h => by
  split at h
  · omega
  · split at h
    · cases h
    · have := ρ.wf x m h
      omega, ρ.ro, fun x => if x = j then some v else ρ.tv x, fun x u h => by
  split at h
  · omega
  · have := ρ.twf x u h
    omega⟩
/-- Where a block lies that no slice owns. -/
def Pl.pin (ρ : Pl) (i : Nat) : Option Nat :=
  match ρ.tv i with
  | some _ => Option.none
  | Option.none => ρ i
/-- A part of a slice, as its header. -/
def subV (n o sz len cap : Nat) : Option Nat → Value
  | Option.none => .slice (some ⟨n, o, none⟩) len cap
  | some lo => .slice (some ⟨n, if cap = lo then o else o + lo * sz, none⟩) len (cap - lo)
mutual
def AV.rel (ρ : Pl) : AV → Value → Prop
  | .bool b, v => v = .bool b.v
  | .int k n, v => v = .int k n.v
  | .str s, v => v = .string s
  | .ptr i o, v => ∃ n, ρ.pin i = some n ∧ v = .pointer (some ⟨n, o, none⟩)
  | .nilPtr, v => v = .pointer none
  | .sl i o len cap, v => ∃ n, ρ.pin i = some n ∧ v = .slice (some ⟨n, o, none⟩) len cap
  | .nilSl, v => v = .slice none 0 0
  | .fn f first capt, v => ∃ xs ys, AV.relL ρ first xs ∧ AV.relL ρ capt ys ∧ v = .func (.func f) xs.toArray ys.toArray
  | .yld i, v => ∃ n, ρ.pin i = some n ∧ v = .func (.yield n) #[] #[]
  | .nilFn, v => v = .nilFunc
  | .iface t a, v => ∃ x, a.rel ρ x ∧ v = .iface t x
  | .nilIface, v => v = .nilIface
  | .agg l, v => ∃ xs, AV.relL ρ l xs ∧ v = .agg xs.toArray
  | .tup l, v => ∃ xs, AV.relL ρ l xs ∧ v = .tuple xs.toArray
  | .lst i t l lo, v => (∃ a, ρ.ro.hd i = some (.slice a 0 0) ∧ l = [] ∧ v = .slice a 0 0) ∨ ∃ n o len cap cs ty fz xs, ρ.ro.hd i = some (.slice (some ⟨n, o, none⟩) len cap) ∧ v = subV n o t.size l.length cap lo ∧ lo.getD 0 + l.length ≤ len ∧ (lo = Option.none → l.length = len) ∧ len ≤ cap ∧
      ρ.ro.obj n = some (.cells cs ty fz) ∧ AllR (RelT ρ.ro.obj t) l xs ∧ (cs.toList.drop (o + lo.getD 0 * t.size)).take (l.length * t.size) = xs
  | .lpt i t l lo j f, v => j < l.length ∧ ∃ n o len cap cs ty fz xs, ρ.ro.hd i = some (.slice (some ⟨n, o, none⟩) len cap) ∧ v = .pointer (some ⟨n, o + (lo + j) * t.size + f, none⟩) ∧
      ρ.ro.obj n = some (.cells cs ty fz) ∧ AllR (RelT ρ.ro.obj t) l xs ∧ (cs.toList.drop (o + lo * t.size)).take (l.length * t.size) = xs
  | .rpt t l j f, v => j < l.length ∧ ∃ n o cs ty fz xs, v = .pointer (some ⟨n, o + j * t.size + f, none⟩) ∧ ρ.ro.obj n = some (.cells cs ty fz) ∧ AllR (RelT ρ.ro.obj t) l xs ∧ (cs.toList.drop o).take (l.length * t.size) = xs
  | .ro t l, v => SlR (RelT ρ.ro.obj t) ρ.ro.obj t.size l v
  | .own i, v => ρ.tv i = some v ∧ ∃ a len cap, v = .slice a len cap
  | .pre i hi, v => 0 ≤ hi.v ∧ ((ρ.tv i = some (.slice none 0 0) ∧ hi.v = 0 ∧ v = .slice none 0 0) ∨ ∃ n o len cap, ρ.tv i = some (.slice (some ⟨n, o, none⟩) len cap) ∧ hi.v ≤ len ∧ len ≤ cap ∧ v = .slice (some ⟨n, o, none⟩) hi.v.toNat cap)
  | .vw i sz lo hi, v => 0 ≤ lo.v ∧ lo.v ≤ hi.v ∧ ((ρ.tv i = some (.slice none 0 0) ∧ hi.v = 0 ∧ v = .slice none 0 0) ∨ ∃ n o len cap, ρ.tv i = some (.slice (some ⟨n, o, none⟩) len cap) ∧ hi.v ≤ len ∧ len ≤ cap ∧ v = subV n o sz (hi.v - lo.v).toNat cap (some lo.v.toNat))
  | .ept i sz j f, v => ∃ n o len cap, ρ.tv i = some (.slice (some ⟨n, o, none⟩) len cap) ∧ j < len ∧ v = .pointer (some ⟨n, o + j * sz + f, none⟩)
def AV.relL (ρ : Pl) : List AV → List Value → Prop
  | [], vs => vs = []
  | a :: l, vs => ∃ x xs, a.rel ρ x ∧ AV.relL ρ l xs ∧ vs = x :: xs
end

/-- Look-up by number: the newest first. -/
def look.{u} {α : Type u} : List (Nat × α) → Nat → Option α
  | [], _ => none
  | (t, v) :: r, u => match Nat.beq t u with
    | true => some v
    | false => look r u
def nth {α : Type} : List α → Nat → Option α
  | [], _ => none
  | a :: _, 0 => some a
  | _ :: l, n + 1 => nth l n
/-- A block. -/
inductive AB where
  | cells (t : TypeId) (l : List AV)
  | loop (fid : FuncId) (st : LoopState) (pe : Option Code) (sz : Nat) (slots : List (Nat × AV)) (ps : Array Tmp) (assign body : Code) (d : Nat)
  | mark
  | dead
  | vec (e : TypeId) (t : Ty) (z : Bool) (n : SI) (l : List t.El)
abbrev Heap := List (Nat × AB)
structure AS where
  fn : FuncId
  sz : Nat
  slots : List (Nat × AV)
  defers : List Nat
  H : Heap
  hn : Nat
inductive AExit where
  | normal
  | exit (id : Nat)
  | goto (l : Nat)
  | ret
/-- What comes of a walk. -/
inductive Tree : Type 1 where
  | fail (why : String)
  | ret (v : AV) (H : Heap) (hn : Nat)
  | ite (b : Bool) (t e : Tree)
  | iteP (q : Prop) (d : Decidable q) (t e : Tree)
  | bind {R : Type} (o : Option R) (k : R → Tree)
  | same (x y : List (Option AB)) (k : Tree)
  | sum {X Y : Type} (q : X ⊕ Y) (f : X → Tree) (g : Y → Tree)
  | two (a b : Tree)
def Tree.den (φ : AV → Heap → Nat → Prop) : Tree → Prop
  | .fail _ => False
  | .ret v H hn => φ v H hn
  | .ite b t e => (b = true → t.den φ) ∧ (b = false → e.den φ)
  | .iteP q _ t e => (q → t.den φ) ∧ (¬ q → e.den φ)
  | .bind o k => ∃ r, o = some r ∧ (k r).den φ
  | .same x y k => x = y ∧ k.den φ
  | .sum (.inl x) f _ => (f x).den φ
  | .sum (.inr y) _ g => (g y).den φ
  | .two a b => a.den φ ∧ b.den φ
open Classical in
/-- One answer, where two agree. -/
noncomputable def sameO {R : Type} (a b : Option R) : Option R := if a = b then a else none
theorem sameO_self {R : Type} (a : Option R) : sameO a a = a := if_pos rfl
theorem sameO_some {R : Type} {a b : Option R} {r : R} (h : sameO a b = some r) : a = some r ∧ b = some r := by
  unfold sameO at h
  split at h
  · rename_i e
    exact ⟨h, e ▸ h⟩
  · cases h
/-- The walk's outcome as a value. -/
noncomputable def Tree.opt {R : Type} (dec : AV → Heap → Nat → Option R) : Tree → Option R
  | .fail _ => none
  | .ret v H hn => dec v H hn
  | .ite b t e => if b = true then t.opt dec else e.opt dec
  | .iteP q d t e => @_root_.ite _ q d (t.opt dec) (e.opt dec)
  | .bind o k => o.bind fun r => (k r).opt dec
  | .same _ _ _ => none
  | .sum q f g => match q with
    | .inl x => (f x).opt dec
    | .inr y => (g y).opt dec
  | .two a b => sameO (a.opt dec) (b.opt dec)
/-- Without its equations; and with such as hold by themselves. -/
def Tree.strip : Tree → Tree
  | .fail w => .fail w
  | .ret v H hn => .ret v H hn
  | .ite b t e => .ite b t.strip e.strip
  | .iteP q d t e => .iteP q d t.strip e.strip
  | .bind o f => .bind o fun r => (f r).strip
  | .same _ _ k => k.strip
  | .sum q f g => .sum q (fun x => (f x).strip) (fun y => (g y).strip)
  | .two a b => .two a.strip b.strip
def Tree.fixed : Tree → Tree
  | .fail w => .fail w
  | .ret v H hn => .ret v H hn
  | .ite b t e => .ite b t.fixed e.fixed
  | .iteP q d t e => .iteP q d t.fixed e.fixed
  | .bind o f => .bind o fun r => (f r).fixed
  | .same x _ k => .same x x k.fixed
  | .sum q f g => .sum q (fun x => (f x).fixed) (fun y => (g y).fixed)
  | .two a b => .two a.fixed b.fixed
theorem Tree.den_of_opt {R : Type} {dec : AV → Heap → Nat → Option R} {r : R} : ∀ {T : Tree}, T.opt dec = some r → T.den (fun v H hn => dec v H hn = some r)
  | .fail _, h => by simp [Tree.opt] at h
  | .ret v H hn, h => h
  | .ite b t e, h => by
    simp only [Tree.opt] at h
    refine ⟨fun hb => ?_, fun hb => ?_⟩
    · rw [if_pos hb] at h; exact Tree.den_of_opt h
    · rw [if_neg (by simp [hb])] at h; exact Tree.den_of_opt h
  | .iteP q d t e, h => by
    simp only [Tree.opt] at h
    refine ⟨fun hq => ?_, fun hq => ?_⟩
    · rw [if_pos hq] at h; exact Tree.den_of_opt h
    · rw [if_neg hq] at h; exact Tree.den_of_opt h
  | .bind o k, h => by
    simp only [Tree.opt, Option.bind_eq_some_iff] at h
    obtain ⟨x, hx, h⟩ := h
    exact ⟨x, hx, Tree.den_of_opt h⟩
  | .same _ _ _, h => by simp [Tree.opt] at h
  | .sum (.inl x) f _, h => Tree.den_of_opt (T := f x) h
  | .sum (.inr y) _ g, h => Tree.den_of_opt (T := g y) h
  | .two a b, h => by
    simp only [Tree.opt] at h
    obtain ⟨h1, h2⟩ := sameO_some h
    exact ⟨Tree.den_of_opt h1, Tree.den_of_opt h2⟩
theorem Tree.den_of_strip {φ : AV → Heap → Nat → Prop} : ∀ {T : Tree}, T.strip.den φ → T.fixed = T → T.den φ
  | .fail _, h, _ => h
  | .ret _ _ _, h, _ => h
  | .ite b t e, h, hs => by
    injection hs with _ h1 h2
    exact ⟨fun hb => Tree.den_of_strip (h.1 hb) h1, fun hb => Tree.den_of_strip (h.2 hb) h2⟩
  | .iteP q d t e, h, hs => by
    injection hs with _ _ h1 h2
    exact ⟨fun hb => Tree.den_of_strip (h.1 hb) h1, fun hb => Tree.den_of_strip (h.2 hb) h2⟩
  | .bind o k, ⟨r, hr, h⟩, hs => by
    injection hs with _ _ h1
    exact ⟨r, hr, Tree.den_of_strip h (congrFun h1 r)⟩
  | .same x y k, h, hs => by
    injection hs with _ h1 h2
    exact ⟨h1, Tree.den_of_strip h h2⟩
  | .sum (.inl x) f g, h, hs => by
    injection hs with _ _ _ h1 h2
    exact Tree.den_of_strip (T := f x) h (congrFun h1 x)
  | .sum (.inr y) f g, h, hs => by
    injection hs with _ _ _ h1 h2
    exact Tree.den_of_strip (T := g y) h (congrFun h2 y)
  | .two a b, h, hs => by
    injection hs with h1 h2
    exact ⟨Tree.den_of_strip h.1 h1, Tree.den_of_strip h.2 h2⟩
theorem Tree.den_mono {φ ψ : AV → Heap → Nat → Prop} (hm : ∀ v H hn, φ v H hn → ψ v H hn) : ∀ {T : Tree}, T.den φ → T.den ψ
  | .fail _, h => h
  | .ret _ _ _, h => hm _ _ _ h
  | .ite _ _ _, h => ⟨fun hb => Tree.den_mono hm (h.1 hb), fun hb => Tree.den_mono hm (h.2 hb)⟩
  | .iteP _ _ _ _, h => ⟨fun hq => Tree.den_mono hm (h.1 hq), fun hq => Tree.den_mono hm (h.2 hq)⟩
  | .bind _ _, ⟨r, hr, h⟩ => ⟨r, hr, Tree.den_mono hm h⟩
  | .same _ _ _, h => ⟨h.1, Tree.den_mono hm h.2⟩
  | .sum (.inl x) f _, h => Tree.den_mono (T := f x) hm h
  | .sum (.inr y) _ g, h => Tree.den_mono (T := g y) hm h
  | .two _ _, h => ⟨Tree.den_mono hm h.1, Tree.den_mono hm h.2⟩
/-- Does it hold, whatever comes of it? (Closed walks.) -/
def Tree.holds (p : AV → Bool) : Tree → Bool
  | .fail _ => false
  | .ret v _ _ => p v
  | .ite b t e => match b with
    | true => t.holds p
    | false => e.holds p
  | .iteP q d t e => match d with
    | .isTrue _ => t.holds p
    | .isFalse _ => e.holds p
  | .bind o k => match o with
    | some r => (k r).holds p
    | none => false
  | .same _ _ _ => false
  | .sum q f g => match q with
    | .inl x => (f x).holds p
    | .inr y => (g y).holds p
  | .two a b => match a.holds p with
    | true => b.holds p
    | false => false
theorem Tree.den_of_holds {p : AV → Bool} : ∀ {T : Tree}, T.holds p = true → T.den fun v _ _ => p v = true
  | .fail _, h => by cases h
  | .ret _ _ _, h => h
  | .ite b t e, h => by
    cases b with
    | true => exact ⟨fun _ => Tree.den_of_holds (T := t) h, fun hb => by cases hb⟩
    | false => exact ⟨fun hb => (by cases hb), fun _ => Tree.den_of_holds (T := e) h⟩
  | .iteP q d t e, h => by
    cases d with
    | isTrue hq => exact ⟨fun _ => Tree.den_of_holds (T := t) h, fun hn => absurd hq hn⟩
    | isFalse hq => exact ⟨fun hn => absurd hn hq, fun _ => Tree.den_of_holds (T := e) h⟩
  | .bind o k, h => by
    cases o with
    | none => cases h
    | some r => exact ⟨r, rfl, Tree.den_of_holds (T := k r) h⟩
  | .same _ _ _, h => by cases h
  | .sum (.inl x) f _, h => Tree.den_of_holds (T := f x) h
  | .sum (.inr y) _ g, h => Tree.den_of_holds (T := g y) h
  | .two a b, h => by
    unfold Tree.holds at h
    split at h
    · rename_i ha
      exact ⟨Tree.den_of_holds ha, Tree.den_of_holds h⟩
    · cases h
/-- A test. -/
def iteSB : SB → Tree → Tree → Tree
  | .c true, t, _ => t
  | .c false, _, e => e
  | .s b, t, e => .ite b t e
  | .p q d, t, e => .iteP q d t e
theorem iteSB_den {φ : AV → Heap → Nat → Prop} {b : SB} {t e : Tree} (h : (iteSB b t e).den φ) : (b.v = true ∧ t.den φ) ∨ (b.v = false ∧ e.den φ) := by
  cases b with
  | c b =>
    cases b with
    | false => exact .inr ⟨rfl, h⟩
    | true => exact .inl ⟨rfl, h⟩
  | s b =>
    cases b with
    | false => exact .inr ⟨rfl, h.2 rfl⟩
    | true => exact .inl ⟨rfl, h.1 rfl⟩
  | p q d =>
    by_cases hq : q
    · exact .inl ⟨by simp [SB.v, hq], h.1 hq⟩
    · exact .inr ⟨by simp [SB.v, hq], h.2 hq⟩
/-- An outcome, as a list of blocks. -/
def outOf (v : AV) (H : Heap) (hn : Nat) : List (Option AB) := some (.cells hn [v]) :: H.flatMap fun p => [some (.cells p.1 []), some p.2]
theorem outOf_inj {v v' : AV} {H H' : Heap} {hn hn' : Nat} (h : outOf v H hn = outOf v' H' hn') : v = v' ∧ H = H' ∧ hn = hn' := by
  unfold outOf at h
  injection h with h1 h2
  injection h1 with h1
  injection h1 with h1 h3
  injection h3 with h3
  refine ⟨h3, ?_, h1⟩
  clear h1 h3
  induction H generalizing H' with
  | nil =>
    cases H' with
    | nil => rfl
    | cons _ _ => simp at h2
  | cons p H ih =>
    cases H' with
    | nil => simp at h2
    | cons q H' =>
      simp only [List.flatMap_cons, List.cons_append, List.nil_append, List.cons.injEq, Option.some.injEq, AB.cells.injEq] at h2
      obtain ⟨⟨h4, _⟩, h5, h6⟩ := h2
      rw [ih h6]
      obtain ⟨a, b⟩ := p
      obtain ⟨c, d⟩ := q
      dsimp only at h4 h5
      rw [h4, h5]
/-- One walk behind the other. -/
def Tree.seq (k : AV → Heap → Nat → Tree) : Tree → Tree
  | .fail w => .fail w
  | .ret v H hn => k v H hn
  | .ite b t e => .ite b (t.seq k) (e.seq k)
  | .iteP q d t e => .iteP q d (t.seq k) (e.seq k)
  | .bind o f => .bind o fun r => (f r).seq k
  | .same x y t => .same x y (t.seq k)
  | .sum q f g => .sum q (fun x => (f x).seq k) (fun y => (g y).seq k)
  | .two a b => a.seq fun v H hn => b.seq fun v' H' hn' => .same (outOf v H hn) (outOf v' H' hn') (k v H hn)
/-- A walk behind which another one goes on has one outcome. -/
theorem Tree.den_seq_leaf {φ : AV → Heap → Nat → Prop} {k : AV → Heap → Nat → Tree} : ∀ {T : Tree}, (T.seq k).den φ → ∃ v H hn, (k v H hn).den φ ∧ T.den fun v' H' hn' => v' = v ∧ H' = H ∧ hn' = hn
  | .fail _, h => h.elim
  | .ret v H hn, h => ⟨v, H, hn, h, rfl, rfl, rfl⟩
  | .ite b t e, h => by
    cases b with
    | true =>
      obtain ⟨v, H, hn, h1, h2⟩ := Tree.den_seq_leaf (T := t) (h.1 rfl)
      exact ⟨v, H, hn, h1, ⟨fun _ => h2, fun hb => (by cases hb)⟩⟩
    | false =>
      obtain ⟨v, H, hn, h1, h2⟩ := Tree.den_seq_leaf (T := e) (h.2 rfl)
      exact ⟨v, H, hn, h1, ⟨fun hb => (by cases hb), fun _ => h2⟩⟩
  | .iteP q d t e, h => by
    by_cases hq : q
    · obtain ⟨v, H, hn, h1, h2⟩ := Tree.den_seq_leaf (T := t) (h.1 hq)
      exact ⟨v, H, hn, h1, fun _ => h2, fun hb => absurd hq hb⟩
    · obtain ⟨v, H, hn, h1, h2⟩ := Tree.den_seq_leaf (T := e) (h.2 hq)
      exact ⟨v, H, hn, h1, fun hb => absurd hb hq, fun _ => h2⟩
  | .bind o f, ⟨r, hr, h⟩ => by
    obtain ⟨v, H, hn, h1, h2⟩ := Tree.den_seq_leaf (T := f r) h
    exact ⟨v, H, hn, h1, r, hr, h2⟩
  | .same x y t, h => by
    obtain ⟨v, H, hn, h1, h2⟩ := Tree.den_seq_leaf (T := t) h.2
    exact ⟨v, H, hn, h1, h.1, h2⟩
  | .sum (.inl x) f _, h => Tree.den_seq_leaf (T := f x) h
  | .sum (.inr y) _ g, h => Tree.den_seq_leaf (T := g y) h
  | .two a b, h => by
    obtain ⟨v, H, hn, h1, h2⟩ := Tree.den_seq_leaf (T := a) h
    obtain ⟨v', H', hn', h3, h4⟩ := Tree.den_seq_leaf (T := b) h1
    obtain ⟨e, h5⟩ := h3
    obtain ⟨rfl, rfl, rfl⟩ := outOf_inj e
    exact ⟨v, H, hn, h5, h2, h4⟩
theorem Tree.den_seq {φ : AV → Heap → Nat → Prop} {k : AV → Heap → Nat → Tree} : ∀ {T : Tree}, (T.seq k).den φ → T.den fun v H hn => (k v H hn).den φ
  | .fail _, h => h
  | .ret _ _ _, h => h
  | .ite _ _ _, h => ⟨fun hb => Tree.den_seq (h.1 hb), fun hb => Tree.den_seq (h.2 hb)⟩
  | .iteP _ _ _ _, h => ⟨fun hb => Tree.den_seq (h.1 hb), fun hb => Tree.den_seq (h.2 hb)⟩
  | .bind _ _, ⟨r, hr, h⟩ => ⟨r, hr, Tree.den_seq h⟩
  | .same _ _ _, h => ⟨h.1, Tree.den_seq h.2⟩
  | .sum (.inl x) f _, h => Tree.den_seq (T := f x) h
  | .sum (.inr y) _ g, h => Tree.den_seq (T := g y) h
  | .two a b, h => by
    obtain ⟨v, H, hn, h1, h2⟩ := Tree.den_seq_leaf (T := .two a b) h
    exact Tree.den_mono (fun v' H' hn' e => by obtain ⟨rfl, rfl, rfl⟩ := e; exact h1) (T := .two a b) h2
abbrev Self := Option Nat → Code → AS → (AExit → AS → Tree) → Tree
/-- A function whose contract is known: its answer as a value, and how that reads. -/
structure Con : Type 1 where
  {R : Type}
  o : Option R
  enc : R → AV
  hp : Option (R → Heap × Nat) := none
  fr : Option (R → Heap × Nat) := none
  eqs : List (Code × Code) := []
abbrev CTab := FuncId → List AV → Heap → Nat → Option Con
/-- A loop (a block's body) whose outcome is known. -/
structure LCon : Type 1 where
  {X : Type}
  {Y : Type}
  o : Option (X ⊕ Y)
  sx : X → AS
  sy : Y → AS
  ty : (AS → Tree) → Y → Tree := fun k y => k (sy y)
  eqs : List (Code × Code) := []
structure LC : Type 1 where
  code : Code
  sum : Option Nat → AS → Option LCon
abbrev LTab := FuncId → Nat → Option LC
open Classical in
noncomputable def guardEq {R : Type} (b c : Code) (o : Option R) : Option R := if b = c then o else none
theorem guardEq_self {R : Type} (c : Code) (o : Option R) : guardEq c c o = o := if_pos rfl
theorem guardEq_some {R : Type} {b c : Code} {o : Option R} {r : R} (h : guardEq b c o = some r) : b = c ∧ o = some r := by
  unfold guardEq at h
  split at h
  · exact ⟨‹_›, h⟩
  · cases h
/-- Codes that have to be alike. -/
def codeAB (c : Code) : Option AB := some (.loop 0 .ready none 0 [] #[] c .skip 0)
def sameIf (l : List (Code × Code)) (k : Tree) : Tree :=
  match l with
  | [] => k
  | _ => .same (l.map fun p => codeAB p.1) (l.map fun p => codeAB p.2) k
theorem codes_eq : ∀ {l : List (Code × Code)}, (l.map fun p => codeAB p.1) = (l.map fun p => codeAB p.2) → ∀ p ∈ l, p.1 = p.2
  | [], _, p, h => by cases h
  | q :: l, h, p, hp => by
    simp only [List.map_cons, List.cons.injEq] at h
    rcases List.mem_cons.1 hp with rfl | hp
    · have := h.1
      unfold codeAB at this
      injection this with this
      injection this
    · exact codes_eq h.2 p hp
theorem sameIf_den {φ : AV → Heap → Nat → Prop} {l : List (Code × Code)} {k : Tree} (h : (sameIf l k).den φ) : (∀ p ∈ l, p.1 = p.2) ∧ k.den φ := by
  unfold sameIf at h
  split at h
  · exact ⟨fun p hp => (by cases hp), h⟩
  · exact ⟨codes_eq h.1, h.2⟩
/- values without pointers -/
mutual
def AV.flat : AV → Bool
  | .bool _ => true
  | .int _ _ => true
  | .str _ => true
  | .nilPtr => true
  | .nilSl => true
  | .nilFn => true
  | .nilIface => true
  | .agg l => AV.flatL l
  | .tup l => AV.flatL l
  | _ => false
def AV.flatL : List AV → Bool
  | [] => true
  | a :: l => a.flat && AV.flatL l
end
mutual
/-- Values that a placement tells wholly. -/
def AV.uq : AV → Bool
  | .ro _ _ => false
  | .rpt _ _ _ _ => false
  | .fn _ a b => AV.uqL a && AV.uqL b
  | .iface _ a => a.uq
  | .agg l => AV.uqL l
  | .tup l => AV.uqL l
  | _ => true
def AV.uqL : List AV → Bool
  | [] => true
  | a :: l => a.uq && AV.uqL l
end
mutual
def AV.toV : AV → Value
  | .bool b => .bool b.v
  | .int k n => .int k n.v
  | .str s => .string s
  | .nilPtr => .pointer none
  | .nilSl => .slice none 0 0
  | .nilFn => .nilFunc
  | .nilIface => .nilIface
  | .agg l => .agg (AV.toVL l).toArray
  | .tup l => .tuple (AV.toVL l).toArray
  | _ => undef
def AV.toVL : List AV → List Value
  | [] => []
  | a :: l => a.toV :: AV.toVL l
end
/-- Values of elements that no slice is part of. -/
def Ty.noSl : Ty → Bool
  | .sl _ => false
  | .pair a b => a.noSl && b.noSl
  | _ => true
def slotsUq : List (Nat × AV) → Bool
  | [] => true
  | (_, v) :: l => match v.uq with
    | true => slotsUq l
    | false => false
/-- Blocks whose values a placement tells wholly. -/
def AB.uq : AB → Bool
  | .cells _ l => AV.uqL l
  | .loop _ _ _ _ slots _ _ _ _ => slotsUq slots
  | .vec _ t _ _ _ => t.noSl
  | .mark => true
  | .dead => true
def uqH : Heap → Bool
  | [] => true
  | (_, b) :: l => match b.uq with
    | true => uqH l
    | false => false
/- constants -/
def ofV1 : Value → Option AV
  | .bool b => some (.bool (.c b))
  | .int k n => some (.int k (.c n))
  | .string s => some (.str s)
  | .pointer none => some .nilPtr
  | .slice none l c => match l, c with
    | 0, 0 => some .nilSl
    | _, _ => none
  | .nilFunc => some .nilFn
  | .nilIface => some .nilIface
  | _ => none
def ofVL : List Value → Option (List AV)
  | [] => some []
  | v :: r => match ofV1 v, ofVL r with
    | some a, some l => some (a :: l)
    | _, _ => none
def ofV : Value → Option AV
  | .agg cs => match ofVL cs.toList with
    | some l => some (.agg l)
    | none => none
  | .tuple cs => match ofVL cs.toList with
    | some l => some (.tup l)
    | none => none
  | v => ofV1 v
/- elements -/
def Ty.avs : (t : Ty) → t.El → List AV
  | .int k, n => [.int k (.s n)]
  | .bool, b => [.bool (.s b)]
  | .str, s => [.str s]
  | .unit, _ => []
  | .pair a b, x => a.avs x.1 ++ b.avs x.2
  | .sl t, l => [.ro t l]
def Ty.ofA : (t : Ty) → List AV → Option (t.El × List AV)
  | .int k => fun
    | .int k' n :: r => match decide (k' = k) with
      | true => some (n.v, r)
      | false => none
    | _ => none
  | .bool => fun
    | .bool b :: r => some (b.v, r)
    | _ => none
  | .str => fun
    | .str s :: r => some (s, r)
    | _ => none
  | .unit => fun r => some ((), r)
  | .pair a b => fun l => match a.ofA l with
    | some (x, r) => match b.ofA r with
      | some (y, r) => some ((x, y), r)
      | none => none
    | none => none
  | .sl t => fun
    | .ro t' l :: r => match Ty.castL t' t l with
      | some l => some (l, r)
      | none => none
    | .nilSl :: r => some ([], r)
    | _ => none
def Ty.ofAs (t : Ty) (l : List AV) : Option t.El :=
  match t.ofA l with
  | some (x, []) => some x
  | _ => none
def Ty.rows (t : Ty) : Nat → List AV → Option (List t.El)
  | 0, [] => some []
  | 0, _ :: _ => none
  | n + 1, l => match t.ofA l with
    | some (x, r) => match t.rows n r with
      | some xs => some (x :: xs)
      | none => none
    | none => none
def tyFs (P : Program) (f : TypeId → Option Ty) : List Field → Nat → Option Ty
  | [], _ => some .unit
  | [x], o => match Nat.beq x.offset o with
    | true => f x.type
    | false => none
  | x :: l, o => match Nat.beq x.offset o, f x.type with
    | true, some t => match tyFs P f l (o + t.size) with
      | some u => some (.pair t u)
      | none => none
    | _, _ => none
/-- So many of one kind. -/
def tyArr (t : Ty) : Nat → Ty
  | 0 => .unit
  | n + 1 => .pair t (tyArr t n)
def tyOf (P : Program) : Nat → TypeId → Option Ty
  | 0, _ => none
  | n + 1, t => match P.underlying t with
    | some (.int k) => some (.int k)
    | some .bool => some .bool
    | some .string => some .str
    | some (.slice e) => match tyOf P n e with
      | some t => some (.sl t)
      | none => none
    | some (.struct fs) => tyFs P (tyOf P n) fs.toList 0
    | some (.array len e) => match tyOf P n e with
      | some t => some (tyArr t len)
      | none => none
    | _ => none
def ev (st : AS) (x : Operand) (k : AV → Tree) : Tree :=
  match x with
  | .tmp t => match look st.slots t with
    | some v => k v
    | none => .fail "slot"
  | .const v => match ofV v with
    | some a => k a
    | none => .fail "constant"
  | .func f => k (.fn f [] [])
  | .global _ => .fail "global"
def evL (st : AS) : List Operand → (List AV → Tree) → Tree
  | [], k => k []
  | x :: r, k => ev st x fun v => evL st r fun l => k (v :: l)
/- whole numbers -/
def SI.bin (f : Int → Int → Int) : SI → SI → SI
  | .c m, .c n => .c (f m n)
  | .c m, .s n => .s (f m n)
  | .s m, .c n => .s (f m n)
  | .s m, .s n => .s (f m n)
def SI.cmp (f : Int → Int → SB) : SI → SI → SB
  | .c m, .c n => .c (f m n).v
  | .c m, .s n => f m n
  | .s m, .c n => f m n
  | .s m, .s n => f m n
theorem SI.bin_v (f : Int → Int → Int) (a b : SI) : (SI.bin f a b).v = f a.v b.v := by cases a <;> cases b <;> rfl
theorem SI.cmp_v (f : Int → Int → SB) (a b : SI) : (SI.cmp f a b).v = (f a.v b.v).v := by cases a <;> cases b <;> rfl
def SB.bin (f : Bool → Bool → Bool) : SB → SB → SB
  | .c m, .c n => .c (f m n)
  | .c m, .s n => .s (f m n)
  | .s m, .c n => .s (f m n)
  | .s m, .s n => .s (f m n)
  | .p q d, .c n => .s (f (@decide q d) n)
  | .p q d, .s n => .s (f (@decide q d) n)
  | .p q d, .p q' d' => .s (f (@decide q d) (@decide q' d'))
  | .c n, .p q d => .s (f n (@decide q d))
  | .s n, .p q d => .s (f n (@decide q d))
theorem SB.bin_v (f : Bool → Bool → Bool) (a b : SB) : (SB.bin f a b).v = f a.v b.v := by cases a <;> cases b <;> rfl
def SB.not : SB → SB
  | .c b => .c (!b)
  | .s b => .s (!b)
  | .p q d => .s (!(@decide q d))
theorem SB.not_v (a : SB) : a.not.v = !a.v := by cases a <;> rfl
def cmpOp : BinOp → Option (Int → Int → SB)
  | .eql => some fun x y => .p (x = y) inferInstance
  | .neq => some fun x y => .p (x ≠ y) inferInstance
  | .lss => some fun x y => .p (x < y) inferInstance
  | .leq => some fun x y => .p (x ≤ y) inferInstance
  | .gtr => some fun x y => .p (x > y) inferInstance
  | .geq => some fun x y => .p (x ≥ y) inferInstance
  | _ => none
/-- Is a divisor 0? -/
def SI.zero : SI → SB
  | .c m => .c (decide (m = 0))
  | .s m => .p (m = 0) inferInstance
theorem SI.zero_v (a : SI) : a.zero.v = decide (a.v = 0) := by cases a <;> rfl
def intBin (op : BinOp) (k : IntKind) (a b : SI) (kk : AV → Tree) : Tree :=
  match op with
  | .add => kk (.int k (SI.bin (fun x y => wr k (x + y)) a b))
  | .sub => kk (.int k (SI.bin (fun x y => wr k (x - y)) a b))
  | .mul => kk (.int k (SI.bin (fun x y => wr k (x * y)) a b))
  | .quo => iteSB b.zero (.fail "division by zero") (kk (.int k (SI.bin (fun x y => wr k (x.tdiv y)) a b)))
  | .rem => iteSB b.zero (.fail "division by zero") (kk (.int k (SI.bin (fun x y => x.tmod y) a b)))
  | .shl | .shr | .and | .or | .xor | .andNot => .fail "bits"
  | op => match cmpOp op with
    | some f => kk (.bool (SI.cmp f a b))
    | none => .fail "comparison"
def intType (P : Program) (t : TypeId) : Bool :=
  match P.underlying t with
  | some (.int _) => true
  | _ => false
def boolType (P : Program) (t : TypeId) : Bool :=
  match P.underlying t with
  | some .bool => true
  | _ => false
/-- Are two structs' cells alike? Fields of one cell each, in order, whole numbers and bools alone, none blank. -/
def eqCells (P : Program) : List Field → Nat → List AV → List AV → Option SB
  | [], _, [], [] => some (.c true)
  | f :: fs, o, .int k a :: l, .int k' b :: r => match (f.name != "_") && Nat.beq f.offset o && intType P f.type && decide (k = k'), eqCells P fs (o + 1) l r with
    | true, some q => some (SB.bin (fun x y => x && y) (SI.cmp (fun x y => .p (x = y) inferInstance) a b) q)
    | _, _ => none
  | f :: fs, o, .bool a :: l, .bool b :: r => match (f.name != "_") && Nat.beq f.offset o && boolType P f.type, eqCells P fs (o + 1) l r with
    | true, some q => some (SB.bin (fun x y => x && y) (SB.bin (fun x y => x == y) a b) q)
    | _, _ => none
  | _, _, _, _ => none
/-- Bytes of a string, as numbers; a string of bytes. -/
def byteN (b : UInt8) : Ty.El (.int .u8) := (b.toNat : Int)
def numsOf (s : ByteArray) : List (Ty.El (.int .u8)) := s.data.toList.map byteN
def natsOf (s : ByteArray) : List Nat := s.data.toList.map fun b => b.toNat
def bsOf (l : List Int) : ByteArray := ⟨⟨l.map fun n => UInt8.ofNat n.toNat⟩⟩
def binop (P : Program) (op : BinOp) (t : TypeId) (x y : AV) (kk : AV → Tree) : Tree :=
  match x, y with
  | .int k a, .int k' b => match decide (k = k') with
    | true => intBin op k a b kk
    | false => .fail "kinds"
  | .bool a, .bool b => match P.underlying t, op with
    | some .bool, .eql => kk (.bool (SB.bin (fun x y => x == y) a b))
    | some .bool, .neq => kk (.bool (SB.bin (fun x y => !(x == y)) a b))
    | _, _ => .fail "bools"
  | .str a, .str b => match op with
    | .eql => kk (.bool (.p (natsOf a = natsOf b) inferInstance))
    | .neq => kk (.bool (.p (¬ natsOf a = natsOf b) inferInstance))
    | _ => .fail "strings"
  | .ptr _ _, .nilPtr => match P.underlying t, op with
    | some (.pointer _), .eql => kk (.bool (.c false))
    | some (.pointer _), .neq => kk (.bool (.c true))
    | _, _ => .fail "pointers"
  | .nilPtr, .nilPtr => match P.underlying t, op with
    | some (.pointer _), .eql => kk (.bool (.c true))
    | some (.pointer _), .neq => kk (.bool (.c false))
    | _, _ => .fail "pointers"
  | .agg xs, .agg ys => match P.underlying t with
    | some (.struct fs) => match !(P.stoodInHeld t) && !(P.eqGuardType P.depth t), eqCells P fs.toList 0 xs ys, op with
      | true, some q, .eql => kk (.bool q)
      | true, some q, .neq => kk (.bool q.not)
      | _, _, _ => .fail "structs"
    | _ => .fail "structs"
  | _, _ => .fail "operands"
def cellsOf : AV → List AV
  | .agg l => l
  | v => [v]
def one : AV → Bool
  | .agg _ => false
  | .tup _ => false
  | _ => true
def isAggD : TypeDesc → Bool
  | .struct _ => true
  | .array _ _ => true
  | _ => false
/-- A value of type t out of cells, from o on. -/
def partOf (P : Program) (t : TypeId) (l : List AV) (o : Nat) (k : AV → Tree) : Tree :=
  match P.underlying t, P.info? t with
  | some d, some i => match isAggD d with
    | true => match Nat.ble (o + i.size) l.length with
      | true => k (.agg ((l.drop o).take i.size))
      | false => .fail "part"
    | false => match nth l o with
      | some v => k v
      | none => .fail "part"
  | _, _ => .fail "type"
/-- A slice's element. -/
def loadE (P : Program) (H : Heap) (t : TypeId) (i sz j f : Nat) (k : AV → Tree) : Tree :=
  match look H i with
  | some (.vec _ ty _ _ l) => match Nat.beq ty.size sz with
    | true => partOf P t (ty.avs (l.getD j ty.dflt)) f k
    | false => .fail "load"
  | _ => .fail "load"
/-- Is an index within? -/
def inB (ix n : SI) : SB :=
  match ix, n with
  | .c i, .c m => .c (decide (0 ≤ i) && decide (i < m))
  | .c i, .s m => .p (0 ≤ i ∧ i < m) inferInstance
  | .s i, .c m => .p (0 ≤ i ∧ i < m) inferInstance
  | .s i, .s m => .p (0 ≤ i ∧ i < m) inferInstance
theorem inB_v (ix n : SI) : (inB ix n).v = decide (0 ≤ ix.v ∧ ix.v < n.v) := by
  cases ix <;> cases n
  · exact (Bool.decide_and _ _).symm
  · rfl
  · rfl
  · rfl
def leB (a b : SI) : SB := SI.cmp (fun x y => .p (x ≤ y) inferInstance) a b
theorem leB_v (a b : SI) : (leB a b).v = decide (a.v ≤ b.v) := by
  unfold leB
  rw [SI.cmp_v]
  rfl
def loadAt (P : Program) (H : Heap) (t : TypeId) (i o : Nat) (k : AV → Tree) : Tree :=
  match look H i with
  | some (.cells _ l) => partOf P t l o k
  | _ => .fail "load"
def putAt : List AV → Nat → List AV → List AV
  | l, _, [] => l
  | [], _, _ => []
  | a :: l, o + 1, vs => a :: putAt l o vs
  | _ :: l, 0, v :: vs => v :: putAt l 0 vs
def sizeIs (P : Program) (t : TypeId) (n : Nat) : Bool :=
  match P.info? t with
  | some i => Nat.beq i.size n
  | none => false
def fieldOf (P : Program) (t : TypeId) (f : Nat) : Option Field :=
  match P.underlying t with
  | some (.struct fs) => nth fs.toList f
  | _ => none
/-- One of n places, by a symbolic index. -/
def pick (m : Int) (k : Nat → Tree) : Nat → Tree
  | 0 => .fail "index"
  | n + 1 => .iteP (m = (n : Int)) inferInstance (k n) (pick m k n)
def byIndex (n : Nat) (ix : SI) (k : Nat → Tree) : Tree :=
  match ix with
  | .c (.ofNat j) => match Nat.blt j n with
    | true => k j
    | false => .fail "index"
  | .c (.negSucc _) => .fail "index"
  | .s m => pick m k n
def placesOf (P : Program) : List Field → Option (List (Nat × Nat))
  | [] => some []
  | f :: fs => match P.info? f.type, placesOf P fs with
    | some i, some l => some ((f.offset, i.size) :: l)
    | _, _ => none
def fillG (place : Nat → Option (Nat × Nat)) : List (Nat × AV) → List AV → Option (List AV)
  | [], cells => some cells
  | (i, v) :: r, cells => match place i with
    | some (off, size) => match Nat.beq (cellsOf v).length size && Nat.ble (off + (cellsOf v).length) cells.length with
      | true => fillG place r (putAt cells off (cellsOf v))
      | false => none
    | none => none
def evP (st : AS) : List (Nat × Operand) → (List (Nat × AV) → Tree) → Tree
  | [], k => k []
  | (i, x) :: r, k => ev st x fun v => evP st r fun l => k ((i, v) :: l)
def zeroOf (P : Program) (t : TypeId) : Option AV :=
  match P.info? t with
  | some i => match i.zero with
    | some z => ofV z
    | none => none
  | none => none
def rep {α : Type} (l : List α) : Nat → List α
  | 0 => []
  | n + 1 => l ++ rep l n
def maxmin (less : Bool) : List AV → AV → (AV → Tree) → Tree
  | [], a, k => k a
  | .int _ b :: r, .int k a, kk => maxmin less r (.int k (match less with
      | true => SI.bin (fun x y => if y < x then y else x) a b
      | false => SI.bin (fun x y => if y > x then y else x) a b)) kk
  | _, _, _ => .fail "max, min"
def builtin (P : Program) (b : Builtin) (ts : Array TypeId) (args : List AV) (k : AV → Tree) : Tree :=
  match b, args with
  | .len, [x] => match ts.toList with
    | t :: _ => match P.underlying t, x with
      | some (.slice _), .sl _ _ n _ => k (.int .i64 (.c n))
      | some (.slice _), .nilSl => k (.int .i64 (.c 0))
      | some (.slice _), .lst _ _ l _ => k (.int .i64 (.s l.length))
      | some (.slice _), .ro _ l => k (.int .i64 (.s l.length))
      | some (.slice _), .pre _ n => k (.int .i64 n)
      | some (.slice _), .vw _ _ lo hi => k (.int .i64 (SI.bin (fun x y => x - y) hi lo))
      | some .string, .str s => k (.int .i64 (.s s.size))
      | some (.array n _), _ => k (.int .i64 (.c n))
      | _, _ => .fail "len"
    | _ => .fail "len"
  | .max, x :: r => maxmin false r x k
  | .min, x :: r => maxmin true r x k
  | _, _ => .fail "builtin"
/-- A slice's length. -/
def lenV (P : Program) (H : Heap) (b : Builtin) (ts : Array TypeId) (i : Nat) (k : AV → Tree) : Tree :=
  match b, ts.toList with
  | .len, t :: _ => match P.underlying t, look H i with
    | some (.slice _), some (.vec _ _ _ n _) => k (.int .i64 n)
    | _, _ => .fail "len"
  | _, _ => .fail "len"
/-- Is a slice nil, if that is known? -/
def nilK (H : Heap) : AV → Option Bool
  | .nilSl => some true
  | .sl _ _ _ _ => some false
  | .own i => match look H i with
    | some (.vec _ _ _ (.c (.ofNat (_ + 1))) _) => some false
    | _ => none
  | _ => none
/-- Is it a slice? -/
def isSl : AV → Bool
  | .own _ => true
  | .pre _ _ => true
  | .vw _ _ _ _ => true
  | .lst _ _ _ _ => true
  | .ro _ _ => true
  | _ => false
/-- A comparison of a slice with nil. -/
def nilOp (P : Program) : Op → Option (Operand × Bool)
  | .binOp op t x (.const v) _ => match ofV v, P.underlying t, op with
    | some .nilSl, some (.slice _), .eql => some (x, true)
    | some .nilSl, some (.slice _), .neq => some (x, false)
    | _, _, _ => none
  | _ => none
/-- How long a slice is. -/
def lenK (H : Heap) : AV → Option SI
  | .own i => match look H i with
    | some (.vec _ _ _ n _) => match n with
      | .c m => some (.c m)
      | .s m => some (.s m)
    | _ => none
  | .lst _ _ l none => some (.s l.length)
  | .ro _ l => some (.s l.length)
  | _ => none
/-- What a comparison with nil tells of a slice that is none. -/
def nilWant (P : Program) (op : Op) : Bool :=
  match nilOp P op with
  | some (_, true) => false
  | _ => true
/-- A number, worked out. -/
def forceSI (n : SI) (k : SI → Tree) : Tree :=
  match n with
  | .c m => k (.c m)
  | .s m => k (.s m)
theorem forceSI_eq (n : SI) (k : SI → Tree) : forceSI n k = k n := by cases n <;> rfl
def evO (st : AS) (x : Option Operand) (k : Option SI → Tree) : Tree :=
  match x with
  | none => k none
  | some x => ev st x fun
    | .int _ n => forceSI n fun n => k (some n)
    | _ => .fail "bound"
/-- A part of a slice. -/
def sliceV (H : Heap) (size : Nat) (v : AV) (lo hi : Option SI) (k : AV → Tree) : Tree :=
  match v with
  | .own i => match look H i with
    | some (.vec _ t _ n _) => match Nat.beq t.size size, lo, hi with
      | true, none, none => k (.own i)
      | true, none, some h => iteSB (leB (.c 0) h) (iteSB (leB h n) (k (.pre i h)) (.fail "slice")) (.fail "slice")
      | true, some l, none => iteSB (leB (.c 0) l) (iteSB (leB l n) (k (.vw i size l n)) (.fail "slice")) (.fail "slice")
      | true, some l, some h => iteSB (leB (.c 0) l) (iteSB (leB l h) (iteSB (leB h n) (k (.vw i size l h)) (.fail "slice")) (.fail "slice")) (.fail "slice")
      | _, _, _ => .fail "slice"
    | _ => .fail "slice"
  | .pre i n => match lo, hi with
    | none, none => k (.pre i n)
    | none, some h => iteSB (leB (.c 0) h) (iteSB (leB h n) (k (.pre i h)) (.fail "slice")) (.fail "slice")
    | some l, none => iteSB (leB (.c 0) l) (iteSB (leB l n) (k (.vw i size l n)) (.fail "slice")) (.fail "slice")
    | some l, some h => iteSB (leB (.c 0) l) (iteSB (leB l h) (iteSB (leB h n) (k (.vw i size l h)) (.fail "slice")) (.fail "slice")) (.fail "slice")
  | .lst i t l none => match Nat.beq t.size size, lo, hi with
    | true, none, none => k (.lst i t l none)
    | true, none, some h => iteSB (leB (.c 0) h) (iteSB (leB h (.s l.length)) (k (.lst i t (l.take h.nat) (some 0))) (.fail "slice")) (.fail "slice")
    | true, some a, none => iteSB (leB (.c 0) a) (iteSB (leB a (.s l.length)) (k (.lst i t (l.drop a.nat) (some a.nat))) (.fail "slice")) (.fail "slice")
    | true, some a, some h => iteSB (leB (.c 0) a) (iteSB (leB a h) (iteSB (leB h (.s l.length)) (k (.lst i t ((l.take h.nat).drop a.nat) (some a.nat))) (.fail "slice")) (.fail "slice")) (.fail "slice")
    | _, _, _ => .fail "slice"
  | .ro t l => match Nat.beq t.size size, lo, hi with
    | true, none, none => k (.ro t l)
    | true, none, some h => iteSB (leB (.c 0) h) (iteSB (leB h (.s l.length)) (k (.ro t (l.take h.nat))) (.fail "slice")) (.fail "slice")
    | true, some a, none => iteSB (leB (.c 0) a) (iteSB (leB a (.s l.length)) (k (.ro t (l.drop a.nat))) (.fail "slice")) (.fail "slice")
    | true, some a, some h => iteSB (leB (.c 0) a) (iteSB (leB a h) (iteSB (leB h (.s l.length)) (k (.ro t ((l.take h.nat).drop a.nat))) (.fail "slice")) (.fail "slice")) (.fail "slice")
    | _, _, _ => .fail "slice"
  | _ => .fail "slice"
/-- What is appended: so many elements. -/
def newsOf (H : Heap) (t : Ty) : AV → Option (SI × List t.El)
  | .sl i o len _ => match look H i with
    | some (.cells _ cl) => match Nat.ble (o + len * t.size) cl.length, t.rows len ((cl.drop o).take (len * t.size)) with
      | true, some l => some (.c len, l)
      | _, _ => none
    | _ => none
  | .own i => match look H i with
    | some (.vec _ t' _ n l) => match Ty.castL t' t l with
      | some l => some (n, l)
      | none => none
    | _ => none
  | .pre i hi => match look H i with
    | some (.vec _ t' _ _ l) => match Ty.castL t' t l with
      | some l => some (hi, l.take hi.nat)
      | none => none
    | _ => none
  | .vw i sz lo hi => match look H i with
    | some (.vec _ t' _ _ l) => match Nat.beq sz t.size, Ty.castL t' t l with
      | true, some l => some (SI.bin (fun x y => x - y) hi lo, (l.take hi.nat).drop lo.nat)
      | _, _ => none
    | _ => none
  | .lst _ t' l _ => match Ty.castL t' t l with
    | some l => some (.s l.length, l)
    | none => none
  | .ro t' l => match Ty.castL t' t l with
    | some l => some (.s l.length, l)
    | none => none
  | .nilSl => some (.c 0, [])
  | _ => none
/-- Operations that read alone. -/
def vop (P : Program) (st : AS) (op : Op) (k : AV → Tree) : Tree :=
  match op with
  | .move x => ev st x k
  | .assign x => ev st x k
  | .pick c a b => ev st c fun
    | .bool q => iteSB q (ev st a k) (ev st b k)
    | _ => .fail "pick"
  | .load t x => ev st x fun
    | .ptr i o => loadAt P st.H t i o k
    | .ept i sz j f => loadE P st.H t i sz j f k
    | .lpt _ ty l _ j f => partOf P t (ty.avs (l.getD j ty.dflt)) f k
    | .rpt ty l j f => partOf P t (ty.avs (l.getD j ty.dflt)) f k
    | _ => .fail "load"
  | .nilCheck x => ev st x fun
    | .ptr i o => k (.ptr i o)
    | .fn f a b => k (.fn f a b)
    | .yld i => k (.yld i)
    | .iface t v => k (.iface t v)
    | .ept i sz j f => k (.ept i sz j f)
    | .lpt i t l lo j f => k (.lpt i t l lo j f)
    | .rpt t l j f => k (.rpt t l j f)
    | _ => .fail "nilCheck"
  | .binOp op t x y y' => match nilOp P (.binOp op t x y y') with
    | some (x, q) => ev st x fun vx => match nilK st.H vx with
      | some b => k (.bool (.c (b == q)))
      | none => .fail "nil"
    | none => ev st x fun vx => ev st y fun vy => binop P op t vx vy k
  | .slice t x lo hi mx => match mx, P.underlying t with
    | none, some (.slice e) => match P.info? e with
      | some inf => ev st x fun vx => evO st lo fun l => evO st hi fun h => sliceV st.H inf.size vx l h k
      | none => .fail "slice"
    | _, _ => .fail "slice"
  | .unOp op _ x => ev st x fun v => match op, v with
    | .neg, .int kd n => k (.int kd (SI.bin (fun x y => wr kd (x - y)) (.c 0) n))
    | .not, .bool b => k (.bool b.not)
    | _, _ => .fail "unOp"
  | .convert s d x => ev st x fun v => match P.underlying s, P.underlying d, v with
    | some (.int _), some (.int kd), .int _ n => k (.int kd (SI.bin (fun x _ => wr kd x) n (.c 0)))
    | some (.slice e), some .string, v => match P.underlying e, newsOf st.H (.int .u8) v with
      | some (.int .u8), some (_, l) => k (.str (bsOf l))
      | _, _ => .fail "convert"
    | _, _, _ => .fail "convert"
  | .makeInterface t x => ev st x fun v => match P.underlying t with
    | some (.interface _) => .fail "makeInterface"
    | some _ => k (.iface t v)
    | none => .fail "makeInterface"
  | .makeFunc (.func f) a b => evL st a.toList fun xs => evL st b.toList fun ys => k (.fn f xs ys)
  | .fieldAddr t x f => ev st x fun v => match fieldOf P t f with
    | some fd => match P.info? fd.type with
      | some inf => match Nat.beq inf.size 0 with
        | true => .fail "fieldAddr"
        | false => match v with
          | .ptr i o => k (.ptr i (o + fd.offset))
          | .ept i sz j f => k (.ept i sz j (f + fd.offset))
          | .lpt i t l lo j f => k (.lpt i t l lo j (f + fd.offset))
          | .rpt t l j f => k (.rpt t l j (f + fd.offset))
          | _ => .fail "fieldAddr"
      | none => .fail "fieldAddr"
    | none => .fail "fieldAddr"
  | .field t x f => ev st x fun
    | .agg l => match fieldOf P t f with
      | some fd => partOf P fd.type l fd.offset k
      | none => .fail "field"
    | _ => .fail "field"
  | .indexAddr t x ix => ev st x fun vx => ev st ix fun vi => match vi with
    | .int _ n => forceSI n fun n => match P.underlying t, vx with
      | some (.slice e), .lst i t l lo => match P.info? e with
        | some inf => match Nat.beq inf.size t.size with
          | true => iteSB (inB n (.s l.length)) (k (.lpt i t l (lo.getD 0) n.nat 0)) (.fail "index")
          | false => .fail "indexAddr"
        | none => .fail "indexAddr"
      | some (.slice e), .ro t l => match P.info? e with
        | some inf => match Nat.beq inf.size t.size with
          | true => iteSB (inB n (.s l.length)) (k (.rpt t l n.nat 0)) (.fail "index")
          | false => .fail "indexAddr"
        | none => .fail "indexAddr"
      | some (.slice e), .own i => match P.info? e, look st.H i with
        | some inf, some (.vec _ t _ len _) => match Nat.beq inf.size t.size with
          | true => iteSB (inB n len) (k (.ept i t.size n.nat 0)) (.fail "index")
          | false => .fail "indexAddr"
        | _, _ => .fail "indexAddr"
      | some (.slice e), .pre i hi => match P.info? e with
        | some inf => iteSB (inB n hi) (k (.ept i inf.size n.nat 0)) (.fail "index")
        | none => .fail "indexAddr"
      | some (.slice e), .vw i sz lo hi => match P.info? e with
        | some inf => match Nat.beq inf.size sz with
          | true => iteSB (inB n (SI.bin (fun x y => x - y) hi lo)) (k (.ept i sz (lo.nat + n.nat) 0)) (.fail "index")
          | false => .fail "indexAddr"
        | none => .fail "indexAddr"
      | some (.array len e), .ptr i o => match P.info? e with
        | some inf => byIndex len n fun j => k (.ptr i (o + j * inf.size))
        | none => .fail "indexAddr"
      | some (.slice e), .sl i o len _ => match P.info? e with
        | some inf => byIndex len n fun j => k (.ptr i (o + j * inf.size))
        | none => .fail "indexAddr"
      | _, _ => .fail "indexAddr"
    | _ => .fail "indexAddr"
  | .index t x ix => ev st x fun vx => ev st ix fun vi => match vi, vx with
    | .int _ n, .agg l => match P.underlying t with
      | some (.array len e) => match P.info? e with
        | some inf => byIndex len n fun j => partOf P e l (j * inf.size) k
        | none => .fail "index"
      | _ => .fail "index"
    | _, _ => .fail "index"
  | .extract x i => ev st x fun
    | .tup l => match nth l i with
      | some v => k v
      | none => .fail "extract"
    | _ => .fail "extract"
  | .build t ps => evP st ps.toList fun l => match zeroOf P t, P.underlying t with
    | some z, some (.struct fs) => match placesOf P fs.toList with
      | some pl => match fillG (nth pl) l (cellsOf z) with
        | some cs => k (.agg cs)
        | none => .fail "build"
      | none => .fail "build"
    | some z, some (.array _ e) => match P.info? e with
      | some inf => match fillG (fun i => some (i * inf.size, inf.size)) l (cellsOf z) with
        | some cs => k (.agg cs)
        | none => .fail "build"
      | none => .fail "build"
    | _, _ => .fail "build"
  | .typeAssert x _ asserted ok => ev st x fun
    | .iface t v => match P.underlying asserted with
      | some (.interface _) => .fail "typeAssert"
      | some _ => match decide (t = asserted), ok with
        | true, true => k (.tup [v, .bool (.c true)])
        | true, false => k v
        | _, _ => .fail "typeAssert"
      | none => .fail "typeAssert"
    | _ => .fail "typeAssert"
  | .call c => match c.callee with
    | .builtin b => evL st c.args.toList fun l => match l with
      | [.own i] => lenV P st.H b c.argTypes i k
      | _ => builtin P b c.argTypes l k
    | _ => .fail "call"
  | _ => .fail "operation"
def AS.put (st : AS) (d : Option Tmp) (v : AV) : AS :=
  match d with
  | none => st
  | some t => match Nat.blt t st.sz with
    | true => { st with slots := (t, v) :: st.slots }
    | false => st
def AS.heap (st : AS) (H : Heap) (hn : Nat) : AS := { st with H := H, hn := hn }
def allOne : List AV → Bool
  | [] => true
  | a :: l => one a && allOne l
def dropKey (i : Nat) : Heap → Heap
  | [] => []
  | (j, b) :: l => match Nat.beq j i with
    | true => dropKey i l
    | false => (j, b) :: dropKey i l
/-- What is appended to. -/
def baseOf (H : Heap) (e : TypeId) (t : Ty) : AV → Option (SI × List t.El × Heap)
  | .nilSl => some (.c 0, [], H)
  | .own i => match look H i with
    | some (.vec e' t' z n l) => match z && Nat.beq e' e, Ty.castL t' t l with
      | true, some l => some (n, l, dropKey i H)
      | _, _ => none
    | _ => none
  | .pre i hi => match look H i with
    | some (.vec e' t' z _ l) => match z && Nat.beq e' e, Ty.castL t' t l with
      | true, some l => some (hi, l.take hi.nat, dropKey i H)
      | _, _ => none
    | _ => none
  | _ => none
/-- Slices that become parts of elements are frozen: nobody writes them any more. -/
def freezeL : List AV → Heap → List AV × Heap
  | [], H => ([], H)
  | .own k :: l, H => match look H k with
    | some (.vec _ t _ _ c) => match freezeL l (dropKey k H) with
      | (l', H') => (.ro t c :: l', H')
    | _ => match freezeL l H with
      | (l', H') => (.own k :: l', H')
  | a :: l, H => match freezeL l H with
    | (l', H') => (a :: l', H')
def freezeFor (H : Heap) : AV → Heap
  | .sl i _ _ _ => match look H i with
    | some (.cells t l) => match freezeL l H with
      | (l', H') => (i, .cells t l') :: H'
    | _ => H
  | _ => H
/-- How many elements a slice may have. -/
def mostOf (bytes : Nat) : Nat := 140737488355328 / (bytes + 1)
def appendV (P : Program) (st : AS) (ts : Array TypeId) (vs vx : AV) (k : AV → Heap → Nat → Tree) : Tree :=
  match ts.toList with
  | [t, t'] => match Nat.beq t t', P.underlying t with
    | true, some (.slice e) => match P.info? e, tyOf P 9 e, zeroOf P e with
      | some inf, some ty, some z => match Nat.beq inf.size ty.size && Nat.ble 1 inf.size && Nat.beq (cellsOf z).length inf.size with
        | true => match newsOf st.H ty vx, baseOf st.H e ty vs with
          | some (m, news), some (n, l, H) => forceSI (SI.bin (fun x y => x + y) n m) fun N => iteSB (leB N (.c (mostOf inf.bytes))) (k (.own st.hn) ((st.hn, .vec e ty true N (l ++ news)) :: H) (st.hn + 1)) (.fail "append")
          | _, _ => .fail "append"
        | false => .fail "append"
      | _, _, _ => .fail "append"
    | _, _ => .fail "append"
  | _ => .fail "append"
/-- A part's elements, cleared. -/
def clearV (P : Program) (st : AS) (ts : Array TypeId) (v : AV) (k : AV → Heap → Nat → Tree) : Tree :=
  match v, ts.toList with
  | .vw i sz lo hi, [t] => match look st.H i, P.underlying t with
    | some (.vec e ty z n l), some (.slice e') => match zeroOf P e' with
      | some zv => match Nat.beq ty.size sz && Nat.ble 1 sz && Nat.beq (cellsOf zv).length sz && allOne (cellsOf zv), ty.ofAs (cellsOf zv) with
        | true, some d => k (.tup []) ((i, .vec e ty z n (l.take lo.nat ++ (List.replicate (hi.nat - lo.nat) d ++ l.drop hi.nat))) :: st.H) st.hn
        | _, _ => .fail "clear"
      | none => .fail "clear"
    | _, _ => .fail "clear"
  | _, _ => .fail "clear"
def isTmp : Operand → Bool
  | .tmp _ => true
  | _ => false
def allConst : List (Nat × Operand) → Bool
  | [] => true
  | (_, .const _) :: l => allConst l
  | _ :: _ => false
def isByte (P : Program) (e : TypeId) : Bool :=
  match P.underlying e with
  | some (.int .u8) => true
  | _ => false
/-- Operations that make memory, or write it. -/
def eop (P : Program) (st : AS) (op : Op) (k : AV → Heap → Nat → Tree) : Tree :=
  match op with
  | .alloc t => match zeroOf P t with
    | some z => k (.ptr st.hn 0) ((st.hn, .cells t (cellsOf z)) :: st.H) (st.hn + 1)
    | none => .fail "alloc"
  | .box t x => ev st x fun v => k (.ptr st.hn 0) ((st.hn, .cells t (cellsOf v)) :: st.H) (st.hn + 1)
  | .convert s d x => ev st x fun v => match P.underlying s, P.underlying d, v with
    | some .string, some (.slice e), .str b => match P.underlying e with
      | some (.int .u8) => k (.ro (.int .u8) (numsOf b)) st.H st.hn
      | _ => .fail "convert"
    | some (.slice _), some (.slice e), .own i => match Nat.beq s d && isTmp x, P.underlying e, look st.H i with
      | true, some (.int .u8), some (.vec _ ty _ (.c (.ofNat (_ + 1))) l) => k (.ro ty l) (dropKey i st.H) st.hn
      | _, _, _ => .fail "convert"
    | _, _, _ => .fail "convert"
  | .makeSlice t x y => ev st x fun vx => ev st y fun vy => match P.underlying t, vx, vy with
    | some (.slice e), .int _ (.c (.ofNat n)), .int _ (.c (.ofNat m)) => match tyOf P 9 e, P.info? e, zeroOf P e with
      | some ty, some inf, some z => match Nat.beq n m && Nat.ble n 65536 && Nat.ble (inf.bytes * n) 281474976710656 && Nat.ble 1 inf.size && Nat.beq inf.size ty.size && Nat.beq (cellsOf z).length inf.size, ty.ofAs (cellsOf z) with
        | true, some d => k (.own st.hn) ((st.hn, .vec e ty true (.c n) (List.replicate n d)) :: st.H) (st.hn + 1)
        | _, _ => .fail "makeSlice"
      | _, _, _ => .fail "makeSlice"
    | _, _, _ => .fail "makeSlice"
  | .buildSlice t len ps => match Nat.beq len 0 with
   | true => match P.underlying t, ps.toList with
    | some (.slice e), [] => match tyOf P 9 e, P.info? e, zeroOf P e with
      | some ty, some inf, some _ => match Nat.beq inf.size ty.size with
        | true => k (.own st.hn) ((st.hn, .vec e ty true (.c 0) []) :: st.H) (st.hn + 1)
        | false => .fail "buildSlice"
      | _, _, _ => .fail "buildSlice"
    | _, _ => .fail "buildSlice"
   | false => evP st ps.toList fun l => match P.underlying t with
    | some (.slice e) => match P.info? e, zeroOf P e with
      | some inf, some z => match Nat.ble 1 (len * inf.size) && Nat.ble (len * inf.size) 16777216 && Nat.beq (cellsOf z).length inf.size with
        | true => match fillG (fun i => some (i * inf.size, inf.size)) l (rep (cellsOf z) len) with
          | some cs => match isByte P e, Ty.rows (.int .u8) len cs with
            | true, some l => match allConst ps.toList with
              | true => k (.own st.hn) ((st.hn, .vec e (.int .u8) true (.c len) l) :: st.H) (st.hn + 1)
              | false => k (.ro (.int .u8) l) st.H st.hn
            | _, _ => k (.sl st.hn 0 len len) ((st.hn, .cells e cs) :: st.H) (st.hn + 1)
          | none => .fail "buildSlice"
        | false => .fail "buildSlice"
      | _, _ => .fail "buildSlice"
    | _ => .fail "buildSlice"
  | .store t a x => ev st a fun
    | .ptr i o => ev st x fun v => match look st.H i with
      | some (.cells bt l) => match sizeIs P t (cellsOf v).length && Nat.ble (o + (cellsOf v).length) l.length && allOne (cellsOf v) with
        | true => k (.tup []) ((i, .cells bt (putAt l o (cellsOf v))) :: st.H) st.hn
        | false => .fail "store"
      | _ => .fail "store"
    | .ept i sz j f => ev st x fun v => match look st.H i with
      | some (.vec e ty z n l) => match sizeIs P t (cellsOf v).length && Nat.ble (f + (cellsOf v).length) ty.size && allOne (cellsOf v) && Nat.beq ty.size sz, ty.ofAs (putAt (ty.avs (l.getD j ty.dflt)) f (cellsOf v)) with
        | true, some y => k (.tup []) ((i, .vec e ty z n (l.set j y)) :: st.H) st.hn
        | _, _ => .fail "store"
      | _ => .fail "store"
    | _ => .fail "store"
  | .call c => match c.callee with
    | .builtin .append => evL st c.args.toList fun l => match l with
      | [vs, vx] => appendV P { st with H := freezeFor st.H vx } c.argTypes vs vx k
      | _ => .fail "append"
    | .builtin .clear => evL st c.args.toList fun l => match l with
      | [v] => clearV P st c.argTypes v k
      | _ => .fail "clear"
    | _ => .fail "operation"
  | _ => .fail "operation"
def isE : Op → Bool
  | .call c => match c.callee with
    | .builtin .append => true
    | .builtin .clear => true
    | _ => false
  | .alloc _ => true
  | .box _ _ => true
  | .buildSlice _ _ _ => true
  | .store _ _ _ => true
  | .makeSlice _ _ _ => true
  | .convert _ _ (.const (.string _)) => true
  | .convert s d (.tmp _) => Nat.beq s d
  | _ => false
def putAll (sz : Nat) : List Tmp → List AV → List (Nat × AV) → List (Nat × AV)
  | t :: ts, v :: vs, s => match Nat.blt t sz with
    | true => putAll sz ts vs ((t, v) :: s)
    | false => putAll sz ts vs s
  | _, _, s => s
def paramSlots : List AV → Nat → List (Nat × AV)
  | [], _ => []
  | v :: r, i => (i, v) :: paramSlots r (i + 1)
def shutAll : List Nat → Heap → Option Heap
  | [], H => some H
  | d :: r, H => match look H d with
    | some .mark => shutAll r ((d, .dead) :: H)
    | _ => none
def resL (P : Program) (st : AS) (H : Heap) : List ResultVar → (List AV → Tree) → Tree
  | [], k => k []
  | .tmp t :: r, kk => match look st.slots t with
    | some v => resL P st H r fun l => kk (v :: l)
    | none => .fail "result"
  | .cell a t :: r, kk => match look st.slots a with
    | some (.ptr i o) => loadAt P H t i o fun v => resL P st H r fun l => kk (v :: l)
    | _ => .fail "result"
def resV : List AV → AV
  | [v] => v
  | l => .tup l
def leave (P : Program) (fn : Func) (st : AS) (k : AV → Heap → Nat → Tree) : Tree :=
  match shutAll st.defers st.H with
  | some H => resL P st H fn.results.toList fun l => k (resV l) H st.hn
  | none => .fail "marks"
/-- Where a region's tail begins: its first operation that makes memory, or writes it. -/
def headOf : List Oper → Option Nat
  | [] => none
  | o :: l => match isE o.op with
    | true => some 0
    | false => match headOf l with
      | some n => some (n + 1)
      | none => none
def hasBody (P : Program) (f : FuncId) : Bool :=
  match nth P.funcs.toList f with
  | some fn => match fn.body with
    | some _ => true
    | none => false
  | none => false
def orM : List Bool → List Bool → List Bool
  | a :: l, b :: m => (a || b) :: orM l m
  | [], m => m
  | a :: l, [] => a :: l
def markAt : Nat → List Bool
  | 0 => [true]
  | n + 1 => false :: markAt n
def getM : List Bool → Nat → Bool
  | [], _ => false
  | b :: _, 0 => b
  | _ :: l, n + 1 => getM l n
def allM (m : List Bool) : List Nat → Bool
  | [] => true
  | x :: l => match getM m x with
    | true => allM m l
    | false => false
/-- What an operation waits for. -/
def depsOf : List Edge → List Nat
  | [] => []
  | e :: l => match Region.binds .any e with
    | true => e.on :: depsOf l
    | false => depsOf l
def rowM (tab : List (List Bool)) (i : Nat) : List Bool :=
  match nth tab i with
  | some m => m
  | none => []
def ancOf (tab : List (List Bool)) : List Nat → List Bool
  | [] => []
  | d :: r => orM (markAt d) (orM (rowM tab d) (ancOf tab r))
/-- What each operation waits for, through others too. -/
def ancTab : List Oper → List (List Bool) → List (List Bool)
  | [], tab => tab
  | o :: l, tab => ancTab l (tab ++ [ancOf tab (depsOf o.after.toList)])
/-- Slots that another operation may have written by then. -/
def hidden (tab : List (List Bool)) (i : Nat) : Nat → List Oper → List Nat
  | _, [] => []
  | k, o :: l => match getM (rowM tab k) i with
    | true => hidden tab i (k + 1) l
    | false => match o.dst with
      | some d => d :: hidden tab i (k + 1) l
      | none => hidden tab i (k + 1) l
def isIn (t : Nat) : List Nat → Bool
  | [] => false
  | d :: l => match Nat.beq d t with
    | true => true
    | false => isIn t l
def without (hs : List Nat) : List (Nat × AV) → List (Nat × AV)
  | [] => []
  | (t, v) :: l => match isIn t hs with
    | true => without hs l
    | false => (t, v) :: without hs l
def depVals (ops : List Oper) (sz : Nat) (acc : List (Nat × AV)) : List Nat → List (Nat × AV)
  | [] => []
  | d :: r => match nth ops d with
    | some o => match o.dst with
      | some t => match Nat.blt t sz with
        | true => match look acc d with
          | some v => (t, v) :: depVals ops sz acc r
          | none => depVals ops sz acc r
        | false => depVals ops sz acc r
      | none => depVals ops sz acc r
    | none => depVals ops sz acc r
/-- Where a drawn region's walk stands: values by operation; the changing operations so far, and all that touch memory; fresh blocks by operation, the newest first; the last changing operation's memory; the next number. -/
structure RS where
  acc : List (Nat × AV)
  muts : List Nat
  mems : List Nat
  fr : List (Nat × Heap)
  cur : Heap
  hn : Nat
/-- The memory that an operation sees. -/
def seen (anc : List Bool) : List (Nat × Heap) → Heap → Heap
  | [], cur => cur
  | (i, H) :: l, cur => match getM anc i with
    | true => H ++ seen anc l cur
    | false => seen anc l cur
/-- Fresh blocks that a changing operation did not wait for. -/
def unseen (anc : List Bool) : List (Nat × Heap) → List (Nat × Heap)
  | [] => []
  | (i, H) :: l => match getM anc i with
    | true => unseen anc l
    | false => (i, H) :: unseen anc l
/-- What an operation does to memory: nothing; it reads; it makes blocks; it turns what it sees. -/
inductive Eft where
  | none
  | read
  | fresh (H : Heap)
  | chg (H : Heap)
  | both (H : Heap)
def RS.add (s : RS) (i : Nat) (anc : List Bool) (v : AV) (hi : Nat) : Eft → RS
  | .none => { s with acc := (i, v) :: s.acc, hn := hi }
  | .read => { s with acc := (i, v) :: s.acc, mems := i :: s.mems, hn := hi }
  | .fresh H => { s with acc := (i, v) :: s.acc, fr := (i, H) :: s.fr, hn := hi }
  | .both H => { s with acc := (i, v) :: s.acc, mems := i :: s.mems, fr := (i, H) :: s.fr, hn := hi }
  | .chg H => { acc := (i, v) :: s.acc, muts := i :: s.muts, mems := i :: s.mems, fr := unseen anc s.fr, cur := H, hn := hi }
/-- Do all of a memory's numbers lie within? -/
def keysIn (lo hi : Nat) : Heap → Bool
  | [] => Nat.ble lo hi
  | (n, _) :: l => match Nat.ble lo n && Nat.blt n hi with
    | true => keysIn lo hi l
    | false => false
def freshOp : Op → Bool
  | .convert _ _ (.const (.string _)) => true
  | .makeSlice _ _ _ => true
  | .alloc _ => true
  | .box _ _ => true
  | .buildSlice _ _ _ => true
  | _ => false
def methodIn (name : String) : List Method → Option Method
  | [] => none
  | m :: l => match m.name == name with
    | true => some m
    | false => methodIn name l
/-- Whom an interface's method is, and for what receiver: a pointer's own method, or one of an embedded struct's pointer. -/
def recvOf (P : Program) (t : TypeId) (name : String) : AV → Option (FuncId × AV)
  | .ptr i o => match P.info? t with
    | some inf => match methodIn name inf.methods.toList with
      | some m => match m.func, m.path.toList with
        | some (f, true), [] => match P.underlying t with
          | some (.pointer _) => some (f, .ptr i o)
          | _ => none
        | some (f, true), [s] => match s.deref, P.underlying s.struct with
          | true, some (.struct fs) => match nth fs.toList s.index with
            | some fd => match P.underlying fd.type, P.info? fd.type with
              | some (.struct _), some fi => match Nat.beq fi.size 0 with
                | false => some (f, .ptr i (o + fd.offset))
                | true => none
              | _, _ => none
            | none => none
          | _, _ => none
        | _, _ => none
      | none => none
    | none => none
  | _ => none
/- Values and memory, worked out: nothing stands in a state that is still to be computed, but for numbers. -/
def forceN (n : Nat) (k : Nat → Tree) : Tree :=
  match n with
  | 0 => k 0
  | m + 1 => k (m + 1)
theorem forceN_eq (n : Nat) (k : Nat → Tree) : forceN n k = k n := by cases n <;> rfl
mutual
def forceA : AV → (AV → Tree) → Tree
  | .bool b, k => match b with
    | .c b => k (.bool (.c b))
    | .s b => k (.bool (.s b))
    | .p q d => k (.bool (.p q d))
  | .int kd n, k => match n with
    | .c n => k (.int kd (.c n))
    | .s n => k (.int kd (.s n))
  | .ptr i o, k => forceN i fun i => forceN o fun o => k (.ptr i o)
  | .own i, k => forceN i fun i => k (.own i)
  | .agg l, k => forceAL l fun l => k (.agg l)
  | .tup l, k => forceAL l fun l => k (.tup l)
  | .fn f a b, k => forceAL a fun a => forceAL b fun b => k (.fn f a b)
  | .iface t v, k => forceA v fun v => k (.iface t v)
  | .sl i o l c, k => forceN i fun i => k (.sl i o l c)
  | .yld i, k => forceN i fun i => k (.yld i)
  | .str s, k => k (.str s)
  | .nilPtr, k => k .nilPtr
  | .nilSl, k => k .nilSl
  | .nilFn, k => k .nilFn
  | .nilIface, k => k .nilIface
  | .lst i t l lo, k => k (.lst i t l lo)
  | .lpt i t l lo j f, k => k (.lpt i t l lo j f)
  | .rpt t l j f, k => k (.rpt t l j f)
  | .ro t l, k => k (.ro t l)
  | .pre i hi, k => k (.pre i hi)
  | .vw i sz lo hi, k => k (.vw i sz lo hi)
  | .ept i sz j f, k => k (.ept i sz j f)
def forceAL : List AV → (List AV → Tree) → Tree
  | [], k => k []
  | a :: l, k => forceA a fun a => forceAL l fun l => k (a :: l)
end
mutual
theorem forceA_eq : ∀ (a : AV) (k : AV → Tree), forceA a k = k a
  | .bool b, k => by cases b <;> rfl
  | .int kd n, k => by cases n <;> rfl
  | .ptr i o, k => by unfold forceA; rw [forceN_eq, forceN_eq]
  | .own i, k => by unfold forceA; rw [forceN_eq]
  | .agg l, k => by unfold forceA; rw [forceAL_eq l]
  | .tup l, k => by unfold forceA; rw [forceAL_eq l]
  | .fn f a b, k => by unfold forceA; rw [forceAL_eq a, forceAL_eq b]
  | .iface t v, k => by unfold forceA; rw [forceA_eq v]
  | .sl i o l c, k => by unfold forceA; rw [forceN_eq]
  | .yld i, k => by unfold forceA; rw [forceN_eq]
  | .str s, k => rfl
  | .nilPtr, k => rfl
  | .nilSl, k => rfl
  | .nilFn, k => rfl
  | .nilIface, k => rfl
  | .lst i t l lo, k => rfl
  | .lpt i t l lo j f, k => rfl
  | .rpt t l j f, k => rfl
  | .ro t l, k => rfl
  | .pre i hi, k => rfl
  | .vw i sz lo hi, k => rfl
  | .ept i sz j f, k => rfl
theorem forceAL_eq : ∀ (l : List AV) (k : List AV → Tree), forceAL l k = k l
  | [], k => rfl
  | a :: l, k => by unfold forceAL; rw [forceA_eq a, forceAL_eq l]
end
def forceSl : List (Nat × AV) → (List (Nat × AV) → Tree) → Tree
  | [], k => k []
  | (i, a) :: l, k => forceN i fun i => forceA a fun a => forceSl l fun l => k ((i, a) :: l)
theorem forceSl_eq : ∀ (l : List (Nat × AV)) (k : List (Nat × AV) → Tree), forceSl l k = k l
  | [], k => rfl
  | (i, a) :: l, k => by unfold forceSl; rw [forceN_eq, forceA_eq a, forceSl_eq l]
def forceB : AB → (AB → Tree) → Tree
  | .cells t l, k => forceAL l fun l => k (.cells t l)
  | .vec e t z n l, k => match n with
    | .c n => k (.vec e t z (.c n) l)
    | .s n => k (.vec e t z (.s n) l)
  | .loop fid st pe sz slots ps assign body d, k => forceSl slots fun slots => forceN d fun d => k (.loop fid st pe sz slots ps assign body d)
  | .mark, k => k .mark
  | .dead, k => k .dead
theorem forceB_eq : ∀ (b : AB) (k : AB → Tree), forceB b k = k b
  | .cells t l, k => forceAL_eq l fun l => k (.cells t l)
  | .vec e t z n l, k => by cases n <;> rfl
  | .loop fid st pe sz slots ps assign body d, k => by
    show forceSl slots (fun slots => forceN d fun d => k (.loop fid st pe sz slots ps assign body d)) = _
    rw [forceSl_eq, forceN_eq]
  | .mark, k => rfl
  | .dead, k => rfl
def forceH : Heap → (Heap → Tree) → Tree
  | [], k => k []
  | (i, b) :: l, k => forceN i fun i => forceB b fun b => forceH l fun l => k ((i, b) :: l)
theorem forceH_eq : ∀ (l : Heap) (k : Heap → Tree), forceH l k = k l
  | [], k => rfl
  | (i, b) :: l, k => by unfold forceH; rw [forceN_eq, forceB_eq b, forceH_eq l]
def forceS (st : AS) (k : AS → Tree) : Tree := forceSl st.slots fun sl => forceH st.H fun H => forceN st.hn fun hn => k { st with slots := sl, H := H, hn := hn }
theorem forceS_eq (st : AS) (k : AS → Tree) : forceS st k = k st := by
  unfold forceS
  rw [forceSl_eq, forceH_eq, forceN_eq]
noncomputable section
variable (P : Program) (ct : CTab) (lt : LTab) (self : Self)
def callF (f : FuncId) (args : List AV) (H : Heap) (hn : Nat) (k : AV → Heap → Nat → Tree) : Tree :=
  match nth P.funcs.toList f with
  | some fn => match fn.body with
    | some c => match ct f args H hn with
      | some c => sameIf c.eqs (match c.hp with
        | none => .bind c.o fun r => forceA (c.enc r) fun v => k v H hn
        | some h => .bind c.o fun r => forceA (c.enc r) fun v => forceH (h r).1 fun H => forceN (h r).2 fun hn => k v H hn)
      | none => match Nat.ble args.length fn.ntmps with
        | true => self none c { fn := f, sz := fn.ntmps, slots := paramSlots args 0, defers := [], H := H, hn := hn } fun e st => match e with
          | .normal => leave P fn st k
          | .ret => leave P fn st k
          | _ => .fail "left"
        | false => .fail "arguments"
    | none => .fail "no body"
  | none => .fail "no function"
def round (i : Nat) (args : List AV) (H : Heap) (hn : Nat) (k : AV → Heap → Nat → Tree) : Tree :=
  match look H i with
  | some (.loop fid .ready _ sz slots ps assign body _) => match Nat.beq ps.toList.length args.length with
    | true => self (some i) assign { fn := fid, sz := sz, slots := putAll sz ps.toList args slots, defers := [], H := H, hn := hn } fun e st => match e with
      | .normal => match look st.H i with
        | some (.loop fid' .ready pe' sz' slots' ps' assign' body' d') =>
          self (some i) body { st with H := (i, .loop fid' .busy pe' sz' slots' ps' assign' body' d') :: st.H } fun e st => match look st.H i with
            | some (.loop fid2 _ _ sz2 slots2 ps2 assign2 body2 d2) => match st.defers with
              | [] => match e with
                | .normal => k (.bool (.c true)) ((i, .loop fid2 .ready none sz2 slots2 ps2 assign2 body2 d2) :: st.H) st.hn
                | .ret => k (.bool (.c false)) ((i, .loop fid2 .done (some .ret) sz2 slots2 ps2 assign2 body2 d2) :: st.H) st.hn
                | .exit id => k (.bool (.c false)) ((i, .loop fid2 .done (some (.exit id)) sz2 slots2 ps2 assign2 body2 d2) :: st.H) st.hn
                | .goto l => k (.bool (.c false)) ((i, .loop fid2 .done (some (.goto l)) sz2 slots2 ps2 assign2 body2 d2) :: st.H) st.hn
              | _ => .fail "deferred"
            | _ => .fail "record"
        | _ => .fail "record"
      | _ => .fail "assign"
    | false => .fail "yield"
  | _ => .fail "yield"
def callV (f : AV) (args : List AV) (H : Heap) (hn : Nat) (k : AV → Heap → Nat → Tree) : Tree :=
  match f with
  | .fn g a b => callF P ct self g (a ++ args ++ b) H hn k
  | .yld i => round self i args H hn k
  | _ => .fail "callee"
def oper (o : Oper) (st : AS) (k : AS → Tree) : Tree :=
  match o.op with
  | .call c => match c.callee with
    | .invoke r name => ev st r fun
      | .iface t v => match recvOf P t name v with
        | some (g, rv) => evL st c.args.toList fun l => callF P ct self g (rv :: l) st.H st.hn fun v H hn => k ((st.heap H hn).put o.dst v)
        | none => .fail "invoke"
      | _ => .fail "invoke"
    | .value f => ev st f fun vf => evL st c.args.toList fun l => callV P ct self vf l st.H st.hn fun v H hn => k ((st.heap H hn).put o.dst v)
    | .builtin b => match isE o.op with
      | true => eop P st o.op fun v H hn => forceH H fun H => k ((st.heap H hn).put o.dst v)
      | false => vop P st o.op fun v => k (st.put o.dst v)
  | op => match isE op with
    | true => eop P st op fun v H hn => forceH H fun H => k ((st.heap H hn).put o.dst v)
    | false => match nilOp P op with
      | some (x, _) => ev st x fun vx => match nilK st.H vx with
        | some _ => vop P st op fun v => k (st.put o.dst v)
        | none => match isSl vx with
          | true => match lenK st.H vx with
            | some n => iteSB (leB (.c 1) n) (k (st.put o.dst (.bool (.c (nilWant P op))))) (.two (k (st.put o.dst (.bool (.c true)))) (k (st.put o.dst (.bool (.c false)))))
            | none => .two (k (st.put o.dst (.bool (.c true)))) (k (st.put o.dst (.bool (.c false))))
          | false => .fail "nil"
      | none => vop P st op fun v => k (st.put o.dst v)
/-- What one memory has at another one's numbers. -/
def keysOf (H H1 : Heap) : List (Option AB) := H.map fun p => look H1 p.1
/-- A quiet operation: it reads alone, or calls what is known. -/
def qper (o : Oper) (st : AS) (k : AS → Tree) : Tree :=
  match o.op with
  | .call c => match c.callee with
    | .value f => ev st f fun vf => evL st c.args.toList fun l => match vf with
      | .fn g a b => match hasBody P g, ct g (a ++ l ++ b) st.H st.hn with
        | true, some c => match c.hp, c.eqs with
          | none, [] => .bind c.o fun r => match (c.enc r).uq with
            | true => k (st.put o.dst (c.enc r))
            | false => .fail "a slice in a drawn region"
          | _, _ => .fail "a call that writes in a drawn region"
        | true, none => match AV.flatL (a ++ l ++ b) with
          | true => Tree.seq (fun v _ _ => match v.flat with
            | true => k (st.put o.dst v)
            | false => .fail "a result in a drawn region") (callF P ct self g (a ++ l ++ b) [] 0 Tree.ret)
          | false => Tree.seq (fun v H1 _ => match v.flat && uqH st.H with
            | true => .same (keysOf st.H H1) (keysOf st.H st.H) (k (st.put o.dst v))
            | false => .fail "a result in a drawn region") (callF P ct self g (a ++ l ++ b) st.H st.hn Tree.ret)
        | _, _ => .fail "a call in a drawn region"
      | _ => .fail "a call in a drawn region"
    | .builtin _ => vop P st o.op fun v => match v.uq with
      | true => k (st.put o.dst v)
      | false => .fail "a slice in a drawn region"
    | .invoke _ _ => .fail "invoke"
  | op => match isE op with
    | true => .fail "memory in a drawn region"
    | false => vop P st op fun v => match v.uq with
      | true => k (st.put o.dst v)
      | false => .fail "a slice in a drawn region"
/-- Operations, one behind the other. -/
def opsGo (f : Oper → AS → (AS → Tree) → Tree) (ops : List Oper) (k : AS → Tree) : List Oper → AS → Tree
  | [], st => k st
  | o :: rest, st => match o.guard with
    | none => f o st fun st' => opsGo f ops k rest st'
    | some (j, want) => match nth ops j with
      | some oj => match oj.dst with
        | some d => match look st.slots d with
          | some (.bool (.c b)) => match b == want with
            | true => f o st fun st' => opsGo f ops k rest st'
            | false => opsGo f ops k rest (st.put o.dst (.tup []))
          | some (.bool q) => match want with
            | true => iteSB q (f o (st.put (some d) (.bool (.c true))) fun st' => opsGo f ops k rest st') (opsGo f ops k rest ((st.put (some d) (.bool (.c false))).put o.dst (.tup [])))
            | false => iteSB q (opsGo f ops k rest ((st.put (some d) (.bool (.c true))).put o.dst (.tup []))) (f o (st.put (some d) (.bool (.c false))) fun st' => opsGo f ops k rest st')
          | some (.tup _) => opsGo f ops k rest (st.put o.dst (.tup []))
          | _ => .fail "guard"
        | none => .fail "guard"
      | none => .fail "guard"
def isSliceOp : Op → Bool
  | .slice _ _ _ _ _ => true
  | _ => false
/-- Does an operation look at what a slice owns? -/
def ownArg (st : AS) : Op → Bool
  | .indexAddr _ (.tmp t) _ => match look st.slots t with
    | some (.own _) => true
    | _ => false
  | .slice _ (.tmp t) _ _ _ => match look st.slots t with
    | some (.own _) => true
    | _ => false
  | .binOp _ _ (.tmp t) _ _ => match look st.slots t with
    | some (.own _) => true
    | _ => false
  | .convert _ _ (.tmp t) => match look st.slots t with
    | some (.own _) => true
    | some (.pre _ _) => true
    | some (.vw _ _ _ _) => true
    | some (.sl _ _ _ _) => true
    | _ => false
  | _ => false
/-- A contract of a function that reads alone, and makes memory. -/
structure FCon : Type 1 where
  {R : Type}
  o : Option R
  enc : R → AV
  h : R → Heap × Nat
def fcon (P : Program) (ct : CTab) (g : FuncId) (args : List AV) (H : Heap) (hn : Nat) : Option FCon :=
  match hasBody P g, ct g args H hn with
  | true, some c => match c.fr, c.eqs with
    | some h, [] => some { o := c.o, enc := c.enc, h := h }
    | _, _ => none
  | _, _ => none
/-- A wanted operation of a drawn region; env: the slots that it may look at. -/
def rper (anc : List Bool) (env : AS) (o : Oper) (s : RS) (k : AV → Nat → Eft → Tree) : Tree :=
  match o.op with
  | .load _ _ => match allM anc s.muts with
    | true => vop P { env with H := seen anc s.fr s.cur, hn := s.hn } o.op fun v => k v s.hn .read
    | false => .fail "a load in no order"
  | .store _ _ _ => match allM anc s.muts && allM anc s.mems with
    | true => eop P { env with H := seen anc s.fr s.cur, hn := s.hn } o.op fun v H hn => match Nat.ble s.hn hn with
      | true => k v hn (.chg H)
      | false => .fail "numbers"
    | false => .fail "a store in no order"
  | .call c => match c.callee with
    | .value f => ev env f fun vf => evL env c.args.toList fun l => match vf with
      | .fn g a b => match AV.flatL (a ++ l ++ b) with
        | true => Tree.seq (fun v H hn => match v.flat with
          | true => k v s.hn .none
          | false => match keysIn s.hn hn H with
            | true => k v hn (.fresh H)
            | false => .fail "numbers") (callF P ct self g (a ++ l ++ b) [] s.hn Tree.ret)
        | false => match allM anc s.muts, fcon P ct g (a ++ l ++ b) (seen anc s.fr s.cur) s.hn with
         | true, some c => .bind c.o fun r => match keysIn s.hn (c.h r).2 (c.h r).1 with
          | true => k (c.enc r) (c.h r).2 (.both (c.h r).1)
          | false => .fail "numbers"
         | _, _ => match allM anc s.muts && allM anc s.mems with
          | true => Tree.seq (fun v H hn => match Nat.ble s.hn hn with
            | true => k v hn (.chg H)
            | false => .fail "numbers") (callF P ct self g (a ++ l ++ b) (seen anc s.fr s.cur) s.hn Tree.ret)
          | false => .fail "a call in no order"
      | _ => .fail "a call in a drawn region"
    | .builtin _ => match isE o.op with
      | true => match allM anc s.muts && allM anc s.mems with
        | true => eop P { env with H := seen anc s.fr s.cur, hn := s.hn } o.op fun v H hn => match Nat.ble s.hn hn with
          | true => k v hn (.chg H)
          | false => .fail "numbers"
        | false => .fail "an append in no order"
      | false => evL env c.args.toList fun l => match l with
        | [.own _] => match allM anc s.muts with
          | true => vop P { env with H := seen anc s.fr s.cur, hn := s.hn } o.op fun v => k v s.hn .read
          | false => .fail "a builtin in no order"
        | _ => vop P { env with H := [], hn := s.hn } o.op fun v => k v s.hn .none
    | .invoke _ _ => .fail "invoke"
  | op => match freshOp op with
    | true => eop P { env with H := [], hn := s.hn } op fun v H hn => match keysIn s.hn hn H with
      | true => k v hn (.fresh H)
      | false => .fail "numbers"
    | false => match isE op with
      | true => match allM anc s.muts && allM anc s.mems with
        | true => eop P { env with H := seen anc s.fr s.cur, hn := s.hn } op fun v H hn => match Nat.ble s.hn hn with
          | true => k v hn (.chg H)
          | false => .fail "numbers"
        | false => .fail "memory in a drawn region"
      | false => match ownArg env op with
        | true => match allM anc s.muts with
          | true => vop P { env with H := seen anc s.fr s.cur, hn := s.hn } op fun v => k v s.hn .read
          | false => match isSliceOp op with
            | true => vop P { env with hn := s.hn } op fun v => k v s.hn .none
            | false => .fail "a slice in no order"
        | false => vop P { env with H := [], hn := s.hn } op fun v => k v s.hn .none
/-- The slots that operation i may look at. -/
def envOf (ops : List Oper) (tab : List (List Bool)) (st : AS) (i : Nat) (o : Oper) (acc : List (Nat × AV)) : AS :=
  { st with slots := depVals ops st.sz acc (depsOf o.after.toList) ++ without (hidden tab i 0 ops) st.slots }
def hasDst (ops : List Oper) (sz j : Nat) : Bool :=
  match nth ops j with
  | some o => match o.dst with
    | some d => Nat.blt d sz
    | none => false
  | none => false
/-- Operations of a drawn region, by number. -/
def regGo (ops : List Oper) (tab : List (List Bool)) (st : AS) (k : RS → Tree) : Nat → List Oper → RS → Tree
  | _, [], s => k s
  | i, o :: rest, s =>
    let go : RS → Tree := fun s => rper P ct self (rowM tab i) (envOf ops tab st i o s.acc) o s fun v hi e => regGo ops tab st k (i + 1) rest (s.add i (rowM tab i) v hi e)
    let no : RS → Tree := fun s => regGo ops tab st k (i + 1) rest (s.add i (rowM tab i) (.tup []) s.hn .none)
    match o.guard with
    | none => go s
    | some (j, want) => match isIn j (depsOf o.after.toList) && hasDst ops st.sz j with
      | true => match look s.acc j with
        | some (.bool (.c b)) => match b == want with
          | true => go s
          | false => no s
        | some (.bool q) => match want with
          | true => iteSB q (go { s with acc := (j, .bool (.c true)) :: s.acc }) (no { s with acc := (j, .bool (.c false)) :: s.acc })
          | false => iteSB q (no { s with acc := (j, .bool (.c true)) :: s.acc }) (go { s with acc := (j, .bool (.c false)) :: s.acc })
        | some (.tup _) => no s
        | _ => .fail "guard"
      | false => .fail "guard"
def dstsOf : List Oper → List Nat
  | [] => []
  | o :: l => match o.dst with
    | some d => d :: dstsOf l
    | none => dstsOf l
def apartB : List Nat → Bool
  | [] => true
  | d :: l => match isIn d l with
    | true => false
    | false => apartB l
def upTo : Nat → List Nat
  | 0 => []
  | n + 1 => upTo n ++ [n]
def allLt (i : Nat) : List Nat → Bool
  | [] => true
  | d :: l => match Nat.blt d i with
    | true => allLt i l
    | false => false
/-- Does every operation wait for earlier ones alone? -/
def lowB : Nat → List Oper → Bool
  | _, [] => true
  | i, o :: l => match allLt i (depsOf o.after.toList) with
    | true => lowB (i + 1) l
    | false => false
/-- A table of marks, worked out. -/
def forceM : List Bool → (List Bool → Tree) → Tree
  | [], k => k []
  | true :: l, k => forceM l fun l => k (true :: l)
  | false :: l, k => forceM l fun l => k (false :: l)
def forceTab : List (List Bool) → (List (List Bool) → Tree) → Tree
  | [], k => k []
  | r :: l, k => forceM r fun r => forceTab l fun l => k (r :: l)
theorem forceM_eq : ∀ (l : List Bool) (k : List Bool → Tree), forceM l k = k l
  | [], k => rfl
  | true :: l, k => by
    unfold forceM
    rw [forceM_eq]
  | false :: l, k => by
    unfold forceM
    rw [forceM_eq]
theorem forceTab_eq : ∀ (l : List (List Bool)) (k : List (List Bool) → Tree), forceTab l k = k l
  | [], k => rfl
  | r :: l, k => by
    unfold forceTab
    rw [forceM_eq, forceTab_eq]
/-- A drawn region. -/
def regD (ops : List Oper) (st : AS) (k : AS → Tree) : Tree :=
  match apartB (dstsOf ops) && lowB 0 ops with
  | true => forceTab (ancTab ops []) fun tab => regGo P ct self ops tab st (fun s => forceS { st with slots := depVals ops st.sz s.acc (upTo ops.length) ++ without (dstsOf ops) st.slots, H := seen (ancOf tab (upTo ops.length)) s.fr s.cur, hn := s.hn } k) 0 ops { acc := [], muts := [], mems := [], fr := [], cur := st.H, hn := st.hn }
  | false => .fail "slots of a drawn region"
/-- Is a drawn region's order of no matter: outside of rounds, a quiet head, and a plain tail? -/
def quietly (r : Option Nat) (ops : Array Oper) : Bool :=
  match r with
  | some _ => false
  | none => match headOf ops.toList with
    | none => Region.lexB .any ops
    | some n => Region.lexTailB .any ops n && (ops.toList.drop n).all fun o => plainOp o.op
/-- Is a function's contract one that writes? (Such a contract answers to this call too, with nothing.) -/
def writer (ct : CTab) (f : FuncId) : Bool :=
  match ct f [.nilFn, .nilFn, .nilFn] [] 0 with
  | some _ => true
  | none => false
def flatTs (f : TypeId → Bool) : List TypeId → Bool
  | [] => true
  | t :: l => match f t with
    | true => flatTs f l
    | false => false
/-- Are a type's values flat? -/
def flatTy (P : Program) : Nat → TypeId → Bool
  | 0, _ => false
  | n + 1, t => match P.underlying t with
    | some (.int _) => true
    | some .bool => true
    | some .string => true
    | some (.array _ e) => flatTy P n e
    | some (.struct fs) => flatTs (flatTy P n) (fs.toList.map fun f => f.type)
    | some (.tuple ts) => flatTs (flatTy P n) ts.toList
    | _ => false
/-- A call for what it yields. -/
def yields (P : Program) (t : TypeId) : Bool :=
  match P.underlying t with
  | some (.tuple ts) => match ts.toList with
    | [] => false
    | _ => flatTy P 9 t
  | _ => flatTy P 9 t
def calmOp (P : Program) (ct : CTab) (o : Oper) : Bool :=
  match o.op with
  | .call c => match c.callee with
    | .value (.func g) => !(writer ct g) && yields P o.type
    | .value _ => yields P o.type
    | _ => true
  | _ => true
def calm (P : Program) (ct : CTab) : List Oper → Bool
  | [] => true
  | o :: l => match calmOp P ct o with
    | true => calm P ct l
    | false => false
def anyT (f : TypeId → Bool) : List TypeId → Bool
  | [] => false
  | t :: l => match f t with
    | true => true
    | false => anyT f l
/-- May a type's values hold slices or pointers? -/
def slTy (P : Program) : Nat → TypeId → Bool
  | 0, _ => true
  | n + 1, t => match P.underlying t with
    | some (.int _) => false
    | some .bool => false
    | some .string => false
    | some (.array _ e) => slTy P n e
    | some (.struct fs) => anyT (slTy P n) (fs.toList.map fun f => f.type)
    | some (.tuple ts) => anyT (slTy P n) ts.toList
    | _ => true
def flatHead (P : Program) : List Oper → Bool
  | [] => true
  | o :: l => match isE o.op with
    | true => true
    | false => match slTy P 9 o.type with
      | true => false
      | false => flatHead P l
/-- Does a region's head yield nothing that a placement does not tell wholly? -/
def still (P : Program) (ops : List Oper) (st : AS) : Bool :=
  match flatHead P ops with
  | true => true
  | false => match uqH st.H with
    | true => slotsUq st.slots
    | false => false
/-- One operation, if it is wanted. -/
def oneOp (ops : List Oper) (o : Oper) (st : AS) (k : AS → Tree) : Tree :=
  match o.guard with
  | none => oper P ct self o st k
  | some (j, want) => match nth ops j with
    | some oj => match oj.dst with
      | some d => match look st.slots d with
        | some (.bool (.c b)) => match b == want with
          | true => oper P ct self o st k
          | false => k (st.put o.dst (.tup []))
        | some (.tup _) => k (st.put o.dst (.tup []))
        | _ => .fail "guard"
      | none => .fail "guard"
    | none => .fail "guard"
def doneAll (done : List Nat) : List Nat → Bool
  | [] => true
  | d :: l => match isIn d done with
    | true => doneAll done l
    | false => false
/-- Operations that may be next. -/
def nexts (done : List Nat) : Nat → List Oper → List Nat
  | _, [] => []
  | i, o :: l => match isIn i done with
    | true => nexts done (i + 1) l
    | false => match doneAll done (depsOf o.after.toList) with
      | true => i :: nexts done (i + 1) l
      | false => nexts done (i + 1) l
def eachOf (f : Nat → Tree) : List Nat → Tree
  | [] => .fail "nothing"
  | [i] => f i
  | i :: r => .two (f i) (eachOf f r)
/-- A drawn region, in every order. -/
def regAll (ops : List Oper) (k : AS → Tree) : Nat → List Nat → AS → Tree
  | 0, done, st => match nexts done 0 ops with
    | [] => k st
    | _ => .fail "orders"
  | n + 1, done, st => match nexts done 0 ops with
    | [] => k st
    | is => eachOf (fun i => match nth ops i with
      | some o => oneOp P ct self ops o st fun st' => regAll ops k n (i :: done) st'
      | none => .fail "orders") is
def memOp : Op → Bool
  | .load _ _ => true
  | .store _ _ _ => true
  | _ => false
def stores : Op → Bool
  | .store _ _ _ => true
  | _ => false
/-- Is an operation that touches memory in no order with an earlier one, of which one writes? -/
def looseAt (row : List Bool) (o : Oper) : Nat → List Oper → Bool
  | _, [] => false
  | j, x :: l => match (stores o.op && memOp x.op || memOp o.op && stores x.op) && !(getM row j) with
    | true => true
    | false => looseAt row o (j + 1) l
def loose (tab : List (List Bool)) (ops : List Oper) : Nat → List Oper → Bool
  | _, [] => false
  | i, o :: l => match looseAt (rowM tab i) o 0 (ops.take i) with
    | true => true
    | false => loose tab ops (i + 1) l
/-- Is a load in no order with an earlier call that yields an interface? -/
def handsOn (P : Program) (o : Oper) : Bool :=
  match o.op with
  | .call c => match c.callee, P.underlying o.type with
    | .value (.func _), some (.interface _) => true
    | _, _ => false
  | _ => false
def loads : Op → Bool
  | .load _ _ => true
  | _ => false
def looseCAt (P : Program) (row : List Bool) (o : Oper) : Nat → List Oper → Bool
  | _, [] => false
  | j, x :: l => match loads o.op && handsOn P x && !(getM row j) with
    | true => true
    | false => looseCAt P row o (j + 1) l
def looseC (P : Program) (tab : List (List Bool)) (ops : List Oper) : Nat → List Oper → Bool
  | _, [] => false
  | i, o :: l => match looseCAt P (rowM tab i) o 0 (ops.take i) with
    | true => true
    | false => looseC P tab ops (i + 1) l
def iter (body : AS → (AExit → AS → Tree) → Tree) (k : AExit → AS → Tree) : Nat → AS → Tree
  | 0, _ => .fail "rounds"
  | n + 1, st => body st fun e st' => match e with
    | .normal => iter body k n st'
    | e => k e st'
def decided (st : AS) (c : Operand) (b : Bool) : AS :=
  match c with
  | .tmp t => st.put (some t) (.bool (.c b))
  | _ => st
def rangeFn (r : Option Nat) (g : Operand) (ps : Array Tmp) (assign body : Code) (st : AS) (k : AExit → AS → Tree) : Tree :=
  ev st g fun vg => match vg with
    | .fn f a b =>
      let fin (l : Nat) (st : AS) : AV → Heap → Nat → Tree := fun _ H hn => match look H l with
        | some (.loop fid s pe sz slots ps assign body d) => match s with
          | .busy => .fail "busy"
          | _ => match pe with
            | none => k .normal (st.heap ((l, .loop fid .exhausted pe sz slots ps assign body d) :: H) hn)
            | some c => self r c (st.heap ((l, .loop fid .exhausted pe sz slots ps assign body d) :: H) hn) k
        | _ => .fail "record"
      match r with
      | none => callF P ct self f (a ++ [.yld (st.hn + 1)] ++ b) ((st.hn + 1, .loop st.fn .ready none st.sz st.slots ps assign body st.hn) :: (st.hn, .mark) :: st.H) (st.hn + 2) (fin (st.hn + 1) { st with defers := st.hn :: st.defers })
      | some l0 => match look st.H l0 with
        | some (.loop _ _ _ _ _ _ _ _ d) => callF P ct self f (a ++ [.yld st.hn] ++ b) ((st.hn, .loop st.fn .ready none st.sz st.slots ps assign body d) :: st.H) (st.hn + 1) (fin st.hn st)
        | _ => .fail "record"
    | _ => .fail "range"
def step : Self := fun r c st k =>
  match c with
  | .skip => k .normal st
  | .label _ => k .normal st
  | .seq a b => self r a st fun e st' => match e with
    | .normal => self r b st' k
    | e => k e st'
  | .cond c a b => ev st c fun
    | .bool q => iteSB q (self r a (decided st c true) k) (self r b (decided st c false) k)
    | _ => .fail "cond"
  | .block id b => match lt st.fn id with
    | none => self r b st fun e st' => match e with
      | .exit id' => match Nat.beq id' id with
        | true => k .normal st'
        | false => k (.exit id') st'
      | e => k e st'
    | some L => match L.sum r st with
      | some c => sameIf c.eqs (.bind (guardEq b L.code c.o) fun q => .sum q (fun x => forceS (c.sx x) fun st => k .normal st) (fun y => c.ty (fun st => forceS st fun st => k .ret st) y))
      | none => self r b st fun e st' => match e with
        | .exit id' => match Nat.beq id' id with
          | true => k .normal st'
          | false => k (.exit id') st'
        | e => k e st'
  | .loop b => iter (self r b) k 1000000 st
  | .exit id => k (.exit id) st
  | .goto l => k (.goto l) st
  | .ret => k .ret st
  | .region _ ops false => opsGo (oper P ct self) ops.toList (fun st' => k .normal st') ops.toList st
  | .region _ ops true => match quietly r ops && (calm P ct ops.toList && still P ops.toList st) with
    | true => match headOf ops.toList with
      | none => opsGo (qper P ct self) ops.toList (fun st' => k .normal st') ops.toList st
      | some n => opsGo (qper P ct self) ops.toList (fun st' => opsGo (oper P ct self) ops.toList (fun st' => k .normal st') (ops.toList.drop n) st') (ops.toList.take n) st
    | false => match Nat.ble ops.size 6 && (loose (ancTab ops.toList []) ops.toList 0 ops.toList || looseC P (ancTab ops.toList []) ops.toList 0 ops.toList) with
      | true => regAll P ct self ops.toList (fun st' => k .normal st') ops.size [] st
      | false => regD P ct self ops.toList st fun st' => k .normal st'
  | .rangeFunc g ps assign body => rangeFn P ct self r g ps assign body st k
  | .scope b => match r with
    | none => self r b st fun e st' => match e with
      | .goto _ => .fail "goto"
      | e => k e st'
    | some _ => .fail "scope"
  | .refuse _ => .fail "refuse"
end
noncomputable def run (P : Program) (ct : CTab) (lt : LTab) : Nat → Self
  | 0 => fun _ _ _ _ => .fail "fuel"
  | n + 1 => step P ct lt (run P ct lt n)
/-- A function's walk. -/
noncomputable def walk (P : Program) (ct : CTab) (lt : LTab) (n : Nat) (f : FuncId) (args : List AV) (H : Heap) (hn : Nat) : Tree :=
  match nth P.funcs.toList f with
  | some fn => match fn.body with
    | some c => match Nat.ble args.length fn.ntmps with
      | true => forceS { fn := f, sz := fn.ntmps, slots := paramSlots args 0, defers := [], H := H, hn := hn } fun st => run P ct lt n none c st fun e st => match e with
        | .normal => leave P fn st Tree.ret
        | .ret => leave P fn st Tree.ret
        | _ => .fail "left"
      | false => .fail "arguments"
    | none => .fail "no body"
  | none => .fail "no function"
end Go.Proofs.Ytaoplfmaiclfkaa.SX
