/- A symbolic walk: slices of whole numbers that came in. -/
import Derived.Test.YtlekjgjhbanimaaSXn
import Derived.Test.YtlekjgjhbanimaaXOpen
namespace Go.Proofs.Ytlekjgjhbanimaa.SX
set_option linter.unusedVariables false
set_option linter.unusedSimpArgs false
open Go Go.RowKit Go.ChangeShapes Go.WideShapes Go.Proofs.YtlekjgjhbanimaaW.PrintWords Go.Proofs.Ytlekjgjhbanimaa.XOpen
theorem agg_p {l m : List AV} (h : Ptw l m) : Ptw1 (.agg l) (.agg m) := ⟨fun ρ x ⟨xs, hx, e⟩ => ⟨xs, h.rel hx, e⟩, fun t l e => by cases e⟩
theorem ints_all {ob : Nat → Option Obj} {k : IntKind} : ∀ (l : List Int), AllR (RelT ob (.int k)) l (l.map fun n => Value.int k n)
  | [] => rfl
  | n :: l => ⟨[.int k n], _, rfl, ints_all l, rfl⟩
theorem open_sl {H : Type} {enc : TypeId × Value → H} {P : Program} {W : World} {t e : TypeId} {k : IntKind} {v : Value} {x : DataW H × List MemPlace} (ht : P.underlying t = some (.slice e)) (he : P.underlying e = some (.int k)) (hc : P.cellsOf e = 1) (hv : ∃ a len cap, v = .slice a len cap)
    (h : ∃ fuel, DataW.trod enc P W 0 (fun _ => true) true fuel t v.cells.toList = some x) :
    ∃ l : List Int, SliceAt W (fun n => W.heap[n]?) (.int k) v l ∧ ∀ n ∈ l, (Lit.int k n).wf = true := by
  obtain ⟨a0, len0, cap0, rfl⟩ := hv
  obtain ⟨fuel, hf⟩ := h
  rcases open_ints ht he hc hf with ⟨hcs, _⟩ | ⟨a, len, cap, zs, hcs, _, hle, _, hz, _, hcell, hwf⟩
  · simp [Value.cells] at hcs
    obtain ⟨rfl, rfl, rfl⟩ := hcs
    exact ⟨[], .inl ⟨none, rfl, rfl⟩, fun n hn => by cases hn⟩
  · simp [Value.cells] at hcs
    obtain ⟨rfl, rfl, rfl⟩ := hcs
    have hz2 : zs.length = cap0 := by simpa using hz
    rcases Nat.eq_zero_or_pos cap0 with h0 | hpos
    · subst h0
      have : len0 = 0 := by omega
      subst this
      exact ⟨[], .inl ⟨some a, rfl, rfl⟩, fun n hn => by cases hn⟩
    · have hlen : (zs.take len0).length = len0 := by simp; omega
      obtain ⟨b, off, rfl, hat⟩ := Go.ints_at hcell (by omega)
      have hc0 := hat 0 (by omega)
      obtain ⟨cs, ct, fz, hb⟩ : ∃ cs ct fz, W.heap[b]? = some (.cells cs ct fz) := by
        unfold World.cell? at hc0
        split at hc0
        · exact ⟨_, _, _, ‹_›⟩
        · cases hc0
      have hcs : ∀ j, j < cap0 → cs[off + j]? = some (.int k (zs.getD j 0)) := fun j hj => by
        have := hat j (by omega)
        unfold World.cell? at this
        rw [hb] at this
        dsimp only at this
        rw [if_neg (by simp)] at this
        exact this
      refine ⟨zs.take len0, .inr ⟨b, off, cap0, cs, ct, fz, (zs.take len0).map fun n => Value.int k n, congrArg (fun z => Value.slice (some ⟨b, off, none⟩) z cap0) hlen.symm, Nat.le_trans (Nat.le_of_eq hlen) hle, hb, ints_all _, ?_⟩, fun n hn => hwf n (List.mem_of_mem_take hn)⟩
      show (cs.toList.drop off).take ((zs.take len0).length * 1) = (zs.take len0).map fun n => Value.int k n
      rw [hlen, Nat.mul_one]
      apply List.ext_getElem?
      intro j
      rw [ List.getElem?_take, List.getElem?_drop, List.getElem?_map, List.getElem?_take]
      by_cases hj : j < len0
      · rw [if_pos hj, if_pos hj]
        have h1 := hcs j (by omega)
        have h2 : zs[j]? = some (zs.getD j 0) := by
          rw [List.getD_eq_getElem?_getD, List.getElem?_eq_getElem (by omega)]
          rfl
        rw [h2]
        simpa using h1
      · rw [if_neg hj, if_neg hj]
        rfl
end Go.Proofs.Ytlekjgjhbanimaa.SX
