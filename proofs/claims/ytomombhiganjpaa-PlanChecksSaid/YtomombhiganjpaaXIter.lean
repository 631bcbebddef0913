/- Words for ranges over functions: what a round keeps is all that is cells. -/
import Derived.RangeFuncBox
import Derived.RangeFuncLeaves
import Derived.RangeFuncWrites
import Derived.RangeFuncNested
import Derived.Shelf.Abstract
import Derived.WalkKit
import Derived.OwnWalkIn
import Derived.TacticsInMore
import Derived.LoopNIn
import Derived.LoopIn
import Derived.Lib.Hide
import Derived.WalkMore
import Derived.Laws.Rows
import Derived.Test.YtomombhiganjpaaWWords
namespace Go.Proofs.Ytomombhiganjpaa.XIter
open Go.RowKit Go.Shelf Go.Proofs.YtomombhiganjpaaW.PrintWords
/-- Whatever is cells in A lies in B as it lay. -/
def CellsKept (A B : World) : Prop := ∀ (k : Nat) (cs : Array Value) (t : TypeId) (fr : Nat × Nat), A.heap[k]? = some (Obj.cells cs t fr) → B.heap[k]? = some (Obj.cells cs t fr)
theorem CellsKept.refl (A : World) : CellsKept A A := fun _ _ _ _ h => h
theorem CellsKept.trans {A B C : World} (h : CellsKept A B) (k : CellsKept B C) : CellsKept A C := fun i cs t fr hi => k i cs t fr (h i cs t fr hi)
theorem CellsKept.of_below {A B : World} (h : Below A.heap.size A B) : CellsKept A B := fun k cs t fr hk => by
  rw [h.block k (Array.getElem?_eq_some_iff.1 hk).1]
  exact hk
theorem CellsKept.putObj {W : World} {l : Nat} {o : Obj} (o' : Obj) (h : W.heap[l]? = some o) (ho : o.isCells = false) : CellsKept W (W.putObj l o') := fun k cs t fr hk => by
  by_cases e : k = l
  · subst e
    rw [hk] at h
    cases h
    cases ho
  · rw [World.putObj_heap_other e]
    exact hk
theorem cellsKept_b {w : World} (W : World) (l : Nat) (o o' : Obj) (_ : w.heap.size ≤ l) (h : W.heap[l]? = some o) (ho : o.isCells = false) (_ : o.isWalk = false) : CellsKept W (W.putObj l o') := CellsKept.putObj o' h ho
theorem CellsKept.cell {A B : World} (h : CellsKept A B) {k : Nat} {cs : Array Value} {t : TypeId} {fr : Nat × Nat} (hk : A.heap[k]? = some (Obj.cells cs t fr)) : B.heap[k]? = some (Obj.cells cs t fr) := h k cs t fr hk
theorem keepsFrom_of_below {A B : World} {n : Nat} (h : Below A.heap.size A B) : KeepsFrom n A B :=
  ⟨h.size, fun i o _ hi _ => by rw [h.block i (Array.getElem?_eq_some_iff.1 hi).1]; exact hi⟩
section
variable {F : Fence} {n : Nat} {P : Program}
/-- A struct that lies in a variable is loaded whole, inside a fence. -/
theorem wpListIn_load_row {ops : Array Oper} {rest : List Oper} {o : Oper} {a : Act} {w : World} {Q : Exit → Act → World → Prop} (hgd : o.guard = none) (ty : TypeId) (x : Operand) (ho : o.op = .load ty x)
    (g : Nat) (hx : a.eval x = .pointer (some ⟨g, 0, none⟩)) (t : TypeId) (cs : Array Value) (fr : Nat × Nat) (d : TypeDesc) (hg : w.heap[g]? = some (.cells cs t fr))
    (hu : P.underlying ty = some d) (hd : (match d with | .struct _ | .array _ _ => true | _ => false) = true) (hi : (P.info? ty).map (·.size) = some cs.size)
    (h : wpListIn F n P ops Q rest (a.put o.dst (.agg cs)) w) : wpListIn F n P ops Q (o :: rest) a w := by
  refine wpListIn_plain hgd fun K hK => ?_
  unfold Oper.wpIn
  refine ⟨?_, ?_⟩
  · simp [Oper.about, ho]
  · rw [Oper.semAt_plain F _ _ (by rw [ho]; intro c hc; cases hc)]
    have hrun : (execOp a.eval o).run P w = .ok (.value (.agg cs)) w := by
      unfold execOp
      simp only [ho, hx, Instr.loadAt, Instr.sureAddr, Sem.run_bind, Sem.run_pure, Result.andThen_ok, run_loadVar_row w g t ty cs fr d hg hu hd hi]
    rw [hrun]
    exact hK _ _ h
end
/-- The first k numbers below N. -/
def firsts (N k : Nat) : List (Fin N) := (List.finRange N).take k
theorem firsts_succ {N k : Nat} (h : k < N) : firsts N (k + 1) = firsts N k ++ [⟨k, h⟩] := by
  unfold firsts
  rw [List.take_succ_eq_append_getElem (by simpa using h)]
  simp
theorem firsts_length {N k : Nat} (h : k ≤ N) : (firsts N k).length = k := by
  unfold firsts
  simp
  omega
theorem firsts_zero {N : Nat} : firsts N 0 = [] := rfl
theorem mem_firsts {N k : Nat} {x : Fin N} : x ∈ firsts N k ↔ x.val < k := by
  unfold firsts
  rw [List.mem_take_iff_getElem]
  constructor
  · rintro ⟨i, hi, rfl⟩
    simp at hi ⊢
    omega
  · intro h
    refine ⟨x.val, ?_, ?_⟩
    · simp
      omega
    · simp
section
variable {F : Fence} {n : Nat} {P : Program}
/-- What an iterator owes that hands on its elements in an order of its own (Nx pre x: x comes behind pre): yield is asked at the next one alone. -/
def SeqNext {α : Type} (F : Fence) (n : Nat) (P : Program) (gf : Nat) (lb : Array Value) (encs : α → Array Value) (Nx : List α → α → Prop) (S Sp : List α → Prop) (w : World) : Prop :=
  ∀ (l : Nat) (J Jx : List α → World → Prop) (W : World), Below w.heap.size w W → AbidesFrom W.heap.size J →
    (∀ pre x W1, J pre W1 → Nx pre x → YieldAt F (n - 1) P l (encs x) W1 fun e W' => (e = .returned (.bool true) ∧ J (pre ++ [x]) W' ∧ CellsKept W1 W') ∨ (e = .returned (.bool false) ∧ Jx (pre ++ [x]) W')) →
    J [] W → CallsIn F n P gf (#[.func (.yield l) #[] #[]] ++ lb) W fun e W' => (∃ v, e = .returned v) ∧ ((∃ xs, S xs ∧ J xs W') ∨ ∃ pre, Sp pre ∧ Jx pre W')
/-- The loop's two blocks as they lie between rounds. -/
def Held (k : Nat) (r : Loop) (W : World) : Prop := W.heap[k + 1]? = some (.loop r) ∧ W.heap[k]? = some (.deferred (some []))
theorem Held.kept {k : Nat} {r : Loop} {A B : World} {row : Option Nat} (h : Held k r A) (hg : A.grownBy B row) (hr : ∀ q, row = some q → ∃ o : Obj, A.heap[q]? = some o ∧ o.isWalk = true) : Held k r B :=
  ⟨(grownBy_keeps hg hr h.1 rfl).trans h.1, (grownBy_keeps hg hr h.2 rfl).trans h.2⟩
theorem Held.put {k : Nat} {r r' : Loop} {W : World} (h : Held k r W) : Held k r' (W.putObj (k + 1) (.loop r')) :=
  ⟨World.putObj_heap_same (Array.getElem?_eq_some_iff.1 h.1).1, (World.putObj_heap_other (by omega)).trans h.2⟩
theorem Held.from_ {k : Nat} {r : Loop} {A B : World} (h : Held k r A) (hk : KeepsFrom k A B) : Held k r B :=
  ⟨hk.same _ _ (by omega) h.1 rfl, hk.same _ _ (Nat.le_refl _) h.2 rfl⟩
/-- A range over such an iterator: its body, walked once. -/
theorem range_next {α : Type} {g : Operand} {ps : Array Tmp} {assign body : Code} {Q : Exit → Act → World → Prop} {a : Act} {w : World} (hro : F.round = none) (h1 : 1 ≤ n)
    {gf : Nat} {lb : Array Value} (hg : a.eval g = .func (.func gf) #[] lb) (hFg : F.fn gf) (eg : ∀ args w, (callFunc gf args).run P w = .ok (.enter gf args) w)
    {encs : α → Array Value} {Nx : List α → α → Prop} {S Sp : List α → Prop} (hseq : SeqNext F (n - 1) P gf lb encs Nx S Sp w) (hps : ∀ x, (encs x).size = ps.size)
    (I : List α → World → Prop) (Ix : Code → List α → World → Prop) (hI : OwnFrom w.heap.size I) (hIx : ∀ c, OwnFrom w.heap.size (Ix c)) (h0 : I [] w) (a₁ : α → Act)
    (hassign : ∀ (l : Nat) (x : α) (W : World) (K : Act → World → Prop), K (a₁ x) W →
      assign.wpIn (F.inRound l) (n - 1 - 1) P (Exit.then K (fun _ _ _ => False)) { tmps := (ps.zip (encs x)).foldl (fun t (p, v) => t.setIfInBounds p v) a.tmps, defers := [] } W)
    (hbody : ∀ (l : Nat) (pre : List α) (x : α) (W : World), I pre W → Nx pre x → body.wpIn (F.inRound l) (n - 1 - 1) P (ownPostG w.heap.size CellsKept I Ix (pre ++ [x]) W) (a₁ x) W)
    (hdone : ∀ (D : Nat) (xs : List α) (W : World), w.heap.size ≤ D → S xs → I xs W → W.heap[D]? = some (.deferred (some [])) → Q .normal { a with defers := { target := .collected D, args := #[] } :: a.defers } W)
    (hstop : ∀ (D : Nat) (c : Code) (pre : List α) (W : World), w.heap.size ≤ D → Sp pre → Ix c pre W → W.heap[D]? = some (.deferred (some [])) → c.wpIn F n P Q { a with defers := { target := .collected D, args := #[] } :: a.defers } W) :
    (Code.rangeFunc g ps assign body).wpIn F n P Q a w := by
  refine wpIn_rangeFunc fun fn hfn => ?_
  rw [hro]
  -- the record, by its state and the pending jump
  let rec_ : LoopState → Option Code → Loop := fun st pe => { state := st, pending := pe, fn, tmps := a.tmps, params := ps, assign, body, defers := w.heap.size }
  have hat : Held w.heap.size (rec_ .ready none) ((w.alloc (.deferred (some []))).alloc (.loop (rec_ .ready none))) := by
    constructor
    · have := World.alloc_heap_new (w.alloc (.deferred (some []))) (.loop (rec_ .ready none))
      rwa [World.size_alloc] at this
    · exact (Below.heap_alloc _ _ _ (by simp)).trans (World.alloc_heap_new w _)
  have hbel : Below w.heap.size w ((w.alloc (.deferred (some []))).alloc (.loop (rec_ .ready none))) := ((Below.refl _ w).alloc (Nat.le_refl _) _).alloc (by simp) _
  have hinv : I [] ((w.alloc (.deferred (some []))).alloc (.loop (rec_ .ready none))) := hI.alloc _ (hI.alloc _ h0)
  have hsz : w.heap.size ≤ ((w.alloc (.deferred (some []))).alloc (.loop (rec_ .ready none))).heap.size := hbel.size
  obtain ⟨W1, hW1⟩ : ∃ W1, (w.alloc (.deferred (some []))).alloc (.loop (rec_ .ready none)) = W1 := ⟨_, rfl⟩
  rw [hW1] at hat hbel hinv hsz
  refine ⟨w.heap.size + 1, [{ target := .collected w.heap.size, args := #[] }], W1, { target := .fn (.func gf) lb, args := #[.func (.yield (w.heap.size + 1)) #[] #[]] }, W1, gf, #[.func (.yield (w.heap.size + 1)) #[] #[]] ++ lb, W1, ?_, ?_, ?_, ?_, fun _ => h1, ?_⟩
  · rw [← hW1]
    exact run_enterLoop_outer _ _ _ _ _
  · simp only [resolve, hg]
    simp [go_sem]
  · intro f' hf'
    simp [Target.leads] at hf'
    subst hf'
    exact hFg
  · simp [invoke, go_sem, eg]
  have weak : ∀ {A : World} {row : Option Nat}, (∀ r, row = some r → W1.heap.size ≤ r ∧ ∃ o : Obj, A.heap[r]? = some o ∧ o.isWalk = true) → ∀ r, row = some r → w.heap.size ≤ r ∧ ∃ o : Obj, A.heap[r]? = some o ∧ o.isCells = false :=
    fun hr r e => by obtain ⟨hB, o, ho, hw⟩ := hr r e; exact ⟨Nat.le_trans hsz hB, o, ho, Obj.not_cells_of_walk hw⟩
  refine (hseq (w.heap.size + 1) (fun pre W => I pre W ∧ Held w.heap.size (rec_ .ready none) W) (fun pre W => ∃ c, Ix c pre W ∧ Held w.heap.size (rec_ .done (some c)) W) W1 hbel
    (fun s A B row hs hg' hr => ⟨hI s A B row hs.1 hg' (weak hr), hs.2.kept hg' (fun r e => (hr r e).2)⟩) ?_ ⟨hinv, hat⟩).mono ?_
  · -- one round: the record is ready, busy while the body runs, and then ready again, or done
    rintro pre x W ⟨hi, hh⟩ hx
    have ready : (Instr.beginRound (w.heap.size + 1)).run P W = .ok () (W.putObj (w.heap.size + 1) (.loop { rec_ .ready none with state := .busy })) := run_beginRound hh.1 rfl
    refine ⟨fn, _, assign, body, run_yield (P := P) (args := encs x) hh.1 (hps x), roundIn_of_wpIn hfn (hassign _ x W _ ⟨_, ready, ?_⟩)⟩
    have busy : Held w.heap.size { rec_ .ready none with state := .busy } (W.putObj (w.heap.size + 1) (.loop { rec_ .ready none with state := .busy })) := hh.put
    have kept : CellsKept W (W.putObj (w.heap.size + 1) (.loop { rec_ .ready none with state := .busy })) := CellsKept.putObj _ hh.1 rfl
    refine wpIn_mono (hbody _ pre x _ (hI.putObj _ hi (by omega) hh.1 rfl) hx) ?_
    rintro e a3 W3 hp
    have out : ∀ c : Code, KeepsFrom w.heap.size (W.putObj (w.heap.size + 1) (.loop { rec_ .ready none with state := .busy })) W3 → Ix c (pre ++ [x]) W3 →
        ∃ W4, (Instr.endRound (w.heap.size + 1) (some c)).run P W3 = .ok (.bool false) W4 ∧ ∃ c, Ix c (pre ++ [x]) W4 ∧ Held w.heap.size (rec_ .done (some c)) W4 := fun c hk hi3 => by
      have h3 := busy.from_ hk
      exact ⟨_, run_endRound (P := P) (some c) h3.1, c, (hIx c).putObj _ hi3 (by omega) h3.1 rfl, h3.put⟩
    cases e with
    | normal =>
      obtain ⟨hk, hkp, hi3⟩ := hp
      have h3 := busy.from_ hk
      exact ⟨_, _, run_endRound (P := P) none h3.1, .inl ⟨rfl, ⟨hI.putObj _ hi3 (by omega) h3.1 rfl, h3.put⟩, (kept.trans hkp).trans (CellsKept.putObj _ h3.1 rfl)⟩⟩
    | ret => obtain ⟨W4, hr, hc⟩ := out .ret hp.1 hp.2; exact ⟨_, _, hr, .inr ⟨rfl, hc⟩⟩
    | exit id => obtain ⟨W4, hr, hc⟩ := out (.exit id) hp.1 hp.2; exact ⟨_, _, hr, .inr ⟨rfl, hc⟩⟩
    | goto t => obtain ⟨W4, hr, hc⟩ := out (.goto t) hp.1 hp.2; exact ⟨_, _, hr, .inr ⟨rfl, hc⟩⟩
    | panic ch => exact hp.elim
    | outgrown => exact hp.elim
  · -- behind the iterator
    rintro e W2 ⟨⟨v, rfl⟩, ⟨xs, hS, hi, hh⟩ | ⟨pre, hSp, c, hi, hh⟩⟩
    · exact ⟨none, _, run_endLoop (P := P) hh.1 (by simp [rec_]), hdone _ xs _ (Nat.le_refl _) hS (hI.putObj _ hi (by omega) hh.1 rfl) ((World.putObj_heap_other (by omega)).trans hh.2)⟩
    · exact ⟨some c, _, run_endLoop (P := P) hh.1 (by simp [rec_]), hstop _ c pre _ (Nat.le_refl _) hSp ((hIx c).putObj _ hi (by omega) hh.1 rfl) ((World.putObj_heap_other (by omega)).trans hh.2)⟩
end
end Go.Proofs.Ytomombhiganjpaa.XIter
