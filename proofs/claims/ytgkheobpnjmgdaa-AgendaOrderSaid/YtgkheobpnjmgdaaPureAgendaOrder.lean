/- What was put in is taken out, each once, in order, whatever is taken between; those that are alike as they were put in. -/
import Derived.Test.YtgkheobpnjmgdaaS9
namespace Go.Proofs.Ytgkheobpnjmgdaa.Pure
open Go Go.RowKit Go.Proofs.Ytgkheobpnjmgdaa.S
open Go.Proofs.Ytgkheobpnjmgdaa.SX (guardEq_self rounds rounds_next rounds_end)
set_option linter.unusedVariables false
set_option linter.unusedSimpArgs false
namespace LAgendaOrder
theorem wr (x : Int) (h : -9223372036854775808 ≤ x ∧ x ≤ 9223372036854775807) : wrap64 x = x := by unfold wrap64; omega
/-- An entry: an event (Time, Kind, Node, Number, Value), and when it was seen. -/
abbrev E : Type := (Int × Int × Int × Int × Int) × Int
def dz : E := ((0, 0, 0, 0, 0), 0)
/-- Ahead of another one. -/
def lt (a b : E) : Prop := a.1.1 < b.1.1 ∨ (a.1.1 = b.1.1 ∧ (a.1.2.1 < b.1.2.1 ∨ (a.1.2.1 = b.1.2.1 ∧ (a.1.2.2.1 < b.1.2.2.1 ∨ (a.1.2.2.1 = b.1.2.2.1 ∧ (a.1.2.2.2.1 < b.1.2.2.2.1 ∨ (a.1.2.2.2.1 = b.1.2.2.2.1 ∧ a.2 < b.2)))))))
instance (a b : E) : Decidable (lt a b) := by unfold lt; infer_instance
theorem lt_asymm {a b : E} (h : lt a b) : ¬ lt b a := by unfold lt at *; omega
theorem lt_irrefl (a : E) : ¬ lt a a := by unfold lt; omega
theorem nlt_trans {a b c : E} (h : ¬ lt b a) (k : ¬ lt c b) : ¬ lt c a := by unfold lt at *; omega
theorem lt_nlt {a b c : E} (h : lt a b) (k : ¬ lt c b) : ¬ lt c a := nlt_trans (lt_asymm h) k
def cmp6 (a b : E) : Option Int := agenda_before.f a.1.1 a.1.2.1 a.1.2.2.1 a.1.2.2.2.1 a.1.2.2.2.2 a.2 b.1.1 b.1.2.1 b.1.2.2.1 b.1.2.2.2.1 b.1.2.2.2.2 b.2
theorem cmpI (a b : Int) : cmp_Compare_int.f a b = some (if a < b then -1 else if b < a then 1 else 0) := by
  unfold cmp_Compare_int.f
  rw [if_neg (by simp), if_neg (by simp)]
  split
  · rfl
  · split
    · rfl
    · rfl
theorem cmpL (a b : Int) : cmp_Compare_int64.f a b = some (if a < b then -1 else if b < a then 1 else 0) := by
  unfold cmp_Compare_int64.f
  rw [if_neg (by simp), if_neg (by simp)]
  split
  · rfl
  · split
    · rfl
    · rfl
theorem cmp6_eq (a b : E) : cmp6 a b = some (if lt a b then -1 else if lt b a then 1 else 0) := by
  obtain ⟨⟨a0, a1, a2, a3, a4⟩, a5⟩ := a
  obtain ⟨⟨b0, b1, b2, b3, b4⟩, b5⟩ := b
  unfold cmp6 agenda_before.f
  simp only [cmpI, cmpL, Option.bind_some, lt]
  have tri : ∀ x y : Int, x < y ∧ ¬ y < x ∧ ¬ x = y ∧ ¬ y = x ∨ ¬ x < y ∧ ¬ y < x ∧ x = y ∨ ¬ x < y ∧ y < x ∧ ¬ x = y ∧ ¬ y = x := fun x y => by omega
  rcases tri a0 b0 with ⟨h1, h2, h3, h4⟩ | ⟨h1, h2, rfl⟩ | ⟨h1, h2, h3, h4⟩
  · simp [h1]
  · rcases tri a1 b1 with ⟨h1, h2, h3, h4⟩ | ⟨h1, h2, rfl⟩ | ⟨h1, h2, h3, h4⟩
    · simp [h1]
    · rcases tri a2 b2 with ⟨h1, h2, h3, h4⟩ | ⟨h1, h2, rfl⟩ | ⟨h1, h2, h3, h4⟩
      · simp [h1]
      · rcases tri a3 b3 with ⟨h1, h2, h3, h4⟩ | ⟨h1, h2, rfl⟩ | ⟨h1, h2, h3, h4⟩
        · simp [h1]
        · rcases tri a5 b5 with ⟨h1, h2, h3, h4⟩ | ⟨h1, h2, rfl⟩ | ⟨h1, h2, h3, h4⟩
          · simp [h1]
          · simp
          · simp [h1, h2, h3, h4]
        · simp [h1, h2, h3, h4]
      · simp [h1, h2, h3, h4]
    · simp [h1, h2, h3, h4]
  · simp [h1, h2, h3, h4]
/-- The i-th. -/
def g (l : List E) (i : Nat) : E := l.getD i dz
theorem g_eq {l : List E} {i : Nat} (h : i < l.length) : g l i = l[i] := by
  unfold g
  rw [List.getD_eq_getElem?_getD, List.getElem?_eq_getElem h]
  rfl
theorem g_mem {l : List E} {i : Nat} (h : i < l.length) : g l i ∈ l := by
  rw [g_eq h]
  exact List.getElem_mem h
def swap (l : List E) (i j : Nat) : List E := (l.set i (g l j)).set j (g l i)
theorem swap_len (l : List E) (i j : Nat) : (swap l i j).length = l.length := by simp [swap]
theorem g_set (l : List E) (i j : Nat) (x : E) (h : i < l.length) : g (l.set i x) j = if j = i then x else g l j := by
  unfold g
  rw [List.getD_eq_getElem?_getD, List.getElem?_set, List.getD_eq_getElem?_getD]
  by_cases e : j = i
  · subst e
    rw [if_pos rfl, if_pos h, if_pos rfl]
    rfl
  · rw [if_neg (fun q => e q.symm), if_neg e]
theorem g_swap (l : List E) (i j k : Nat) (hi : i < l.length) (hj : j < l.length) : g (swap l i j) k = if k = j then g l i else if k = i then g l j else g l k := by
  unfold swap
  rw [g_set _ _ _ _ (by simpa using hj), g_set _ _ _ _ hi]
theorem set_perm : ∀ (l : List E) (i : Nat) (x : E) (h : i < l.length), (x :: l).Perm (l[i] :: l.set i x)
  | y :: l, 0, x, h => List.Perm.swap y x l
  | y :: l, i + 1, x, h => by
    have h' : i < l.length := by simpa using h
    have := set_perm l i x h'
    show (x :: y :: l).Perm (l[i] :: y :: l.set i x)
    exact ((List.Perm.swap y x l).trans (this.cons y)).trans (List.Perm.swap _ _ _)
theorem swap_perm (l : List E) (i j : Nat) (hi : i < l.length) (hj : j < l.length) : (swap l i j).Perm l := by
  have h1 := set_perm l i (g l j) hi
  have hj' : j < (l.set i (g l j)).length := by simpa using hj
  have h2 := set_perm (l.set i (g l j)) j (g l i) hj'
  have e : (l.set i (g l j))[j] = g l j := by
    rw [List.getElem_set]
    split
    · rfl
    · exact (g_eq hj).symm
  rw [e, g_eq hi] at h2
  have h3 := h1.trans h2
  have h4 := (List.Perm.cons_inv h3).symm
  unfold swap
  rw [g_eq hi]
  exact h4
theorem swap_self (l : List E) (i : Nat) (hi : i < l.length) : swap l i i = l := by
  unfold swap
  rw [g_eq hi]
  simp
/-- Sifted up. -/
def upL : Nat → List E → Nat → List E
  | 0, l, _ => l
  | f + 1, l, j => if j = 0 then l else if lt (g l j) (g l ((j - 1) / 2)) then upL f (swap l ((j - 1) / 2) j) ((j - 1) / 2) else l
def kid (l : List E) (n i : Nat) : Nat := if 2 * i + 2 < n ∧ lt (g l (2 * i + 2)) (g l (2 * i + 1)) then 2 * i + 2 else 2 * i + 1
theorem kid_lt {l : List E} {n i : Nat} (h : ¬ 2 * i + 1 ≥ n) : kid l n i < n ∧ (kid l n i - 1) / 2 = i ∧ i < kid l n i ∧ ∀ k, 0 < k → k < n → (k - 1) / 2 = i → ¬ lt (g l k) (g l (kid l n i)) := by
  unfold kid
  split
  · rename_i h
    refine ⟨h.1, by omega, by omega, fun k hk hl he => ?_⟩
    have : k = 2 * i + 1 ∨ k = 2 * i + 2 := by omega
    rcases this with rfl | rfl
    · exact lt_asymm h.2
    · exact lt_irrefl _
  · rename_i h
    refine ⟨by omega, by omega, by omega, fun k hk hl he => ?_⟩
    have : k = 2 * i + 1 ∨ k = 2 * i + 2 := by omega
    rcases this with rfl | rfl
    · exact lt_irrefl _
    · exact fun q => h ⟨hl, q⟩
def downL : Nat → List E → Nat → Nat → List E
  | 0, l, _, _ => l
  | f + 1, l, n, i => if 2 * i + 1 ≥ n then l else if lt (g l (kid l n i)) (g l i) then downL f (swap l i (kid l n i)) n (kid l n i) else l
theorem upL_perm : ∀ (f : Nat) (l : List E) (j : Nat), j < l.length → (upL f l j).Perm l
  | 0, l, j, h => List.Perm.refl l
  | f + 1, l, j, h => by
    unfold upL
    split
    · exact List.Perm.refl l
    · split
      · exact (upL_perm f _ _ (by rw [swap_len]; omega)).trans (swap_perm _ _ _ (by omega) h)
      · exact List.Perm.refl l
theorem downL_perm : ∀ (f : Nat) (l : List E) (n i : Nat), n ≤ l.length → i < l.length → (downL f l n i).Perm l
  | 0, l, n, i, h, hi => List.Perm.refl l
  | f + 1, l, n, i, h, hi => by
    unfold downL
    split
    · exact List.Perm.refl l
    · rename_i h0
      split
      · have := (kid_lt (l := l) h0).1
        exact (downL_perm f _ _ _ (by rw [swap_len]; omega) (by rw [swap_len]; omega)).trans (swap_perm _ _ _ hi (by omega))
      · exact List.Perm.refl l
theorem downL_rest : ∀ (f : Nat) (l : List E) (n i k : Nat), n ≤ l.length → i < l.length → n ≤ k → i < k → g (downL f l n i) k = g l k
  | 0, l, n, i, k, h, hi, hk, hik => rfl
  | f + 1, l, n, i, k, h, hi, hk, hik => by
    unfold downL
    split
    · rfl
    · rename_i h0
      split
      · have hj := (kid_lt (l := l) h0).1
        rw [downL_rest f _ _ _ k (by rw [swap_len]; omega) (by rw [swap_len]; omega) hk (by omega), g_swap _ _ _ _ hi (by omega), if_neg (by omega), if_neg (by omega)]
      · rfl
/-- A heap, from a place on. -/
def HeapF (l : List E) (n m : Nat) : Prop := ∀ k, 0 < k → k < n → m ≤ (k - 1) / 2 → ¬ lt (g l k) (g l ((k - 1) / 2))
abbrev Heap (l : List E) : Prop := HeapF l l.length 0
theorem upL_heap : ∀ (f : Nat) (l : List E) (j : Nat), j < f → j < l.length → (∀ k, 0 < k → k < l.length → k ≠ j → ¬ lt (g l k) (g l ((k - 1) / 2))) → (∀ k, 0 < k → k < l.length → (k - 1) / 2 = j → 0 < j → ¬ lt (g l k) (g l ((j - 1) / 2))) → Heap (upL f l j)
  | 0, l, j, hf, hj, h1, h2 => by omega
  | f + 1, l, j, hf, hj, h1, h2 => by
    unfold upL
    split
    · rename_i e
      intro k hk hl _
      exact h1 k hk hl (by omega)
    · rename_i e
      split
      · rename_i hlt
        have hp : (j - 1) / 2 < l.length := by omega
        refine upL_heap f _ _ (by omega) (by rw [swap_len]; exact hp) (fun k hk hl hn => ?_) (fun k hk hl he hpos => ?_)
        · rw [swap_len] at hl
          rw [g_swap _ _ _ _ hp hj, g_swap _ _ _ _ hp hj]
          by_cases ek : k = j
          · subst ek
            rw [if_pos rfl, if_neg (by omega), if_pos rfl]
            exact lt_asymm hlt
          · rw [if_neg ek, if_neg (by omega)]
            by_cases e1 : (k - 1) / 2 = j
            · rw [if_pos e1]
              exact h2 k hk hl e1 (by omega)
            · rw [if_neg e1]
              by_cases e2 : (k - 1) / 2 = (j - 1) / 2
              · rw [if_pos e2]
                have := h1 k hk hl ek
                rw [e2] at this
                exact lt_nlt hlt this
              · rw [if_neg e2]
                exact h1 k hk hl ek
        · rw [swap_len] at hl
          rw [g_swap _ _ _ _ hp hj, g_swap _ _ _ _ hp hj, if_neg (show ¬ ((j - 1) / 2 - 1) / 2 = j by omega), if_neg (show ¬ ((j - 1) / 2 - 1) / 2 = (j - 1) / 2 by omega)]
          have ha := h1 ((j - 1) / 2) (by omega) hp (by omega)
          by_cases ek : k = j
          · rw [if_pos ek]
            exact ha
          · rw [if_neg ek, if_neg (by omega)]
            have := h1 k hk hl ek
            rw [he] at this
            exact nlt_trans ha this
      · rename_i hlt
        intro k hk hl _
        by_cases ek : k = j
        · subst ek
          exact hlt
        · exact h1 k hk hl ek
theorem downL_heap : ∀ (f : Nat) (l : List E) (n i m : Nat), n ≤ i + f → n ≤ l.length → i < l.length → m ≤ i → (∀ k, 0 < k → k < n → m ≤ (k - 1) / 2 → (k - 1) / 2 ≠ i → ¬ lt (g l k) (g l ((k - 1) / 2))) → (∀ k, 0 < k → k < n → (k - 1) / 2 = i → 0 < i → m ≤ (i - 1) / 2 → ¬ lt (g l k) (g l ((i - 1) / 2))) → HeapF (downL f l n i) n m
  | 0, l, n, i, m, hf, hn, hi, hm, h1, h2 => fun k hk hl hmk => by
    show ¬ lt (g l k) _
    exact h1 k hk hl hmk (by omega)
  | f + 1, l, n, i, m, hf, hn, hi, hm, h1, h2 => by
    unfold downL
    split
    · intro k hk hl hmk
      exact h1 k hk hl hmk (by omega)
    · rename_i hlt
      have hjn := kid_lt (l := l) hlt
      generalize kid l n i = j at hjn ⊢
      obtain ⟨hj1, hj2, hj3, hj4⟩ := hjn
      split
      · rename_i hs
        have hjl : j < l.length := by omega
        refine downL_heap f _ n j m (by omega) (by rw [swap_len]; exact hn) (by rw [swap_len]; exact hjl) (by omega) (fun k hk hl hmk hne => ?_) (fun k hk hl he hpos hmj => ?_)
        · rw [g_swap _ _ _ _ hi hjl, g_swap _ _ _ _ hi hjl, if_neg hne]
          by_cases ek : k = j
          · subst ek
            rw [if_pos rfl, if_pos hj2]
            exact lt_asymm hs
          · rw [if_neg ek]
            by_cases e1 : k = i
            · subst e1
              rw [if_pos rfl, if_neg (by omega)]
              exact h2 j (by omega) hj1 hj2 hk hmk
            · rw [if_neg e1]
              by_cases e2 : (k - 1) / 2 = i
              · rw [if_pos e2]
                exact hj4 k hk hl e2
              · rw [if_neg e2]
                exact h1 k hk hl hmk e2
        · rw [g_swap _ _ _ _ hi hjl, g_swap _ _ _ _ hi hjl, if_neg (by omega), if_neg (by omega), hj2, if_neg (by omega), if_pos rfl]
          have := h1 k hk hl (by omega) (by omega)
          rw [he] at this
          exact this
      · rename_i hs
        intro k hk hl hmk
        by_cases e : (k - 1) / 2 = i
        · rw [e]
          exact nlt_trans hs (hj4 k hk hl e)
        · exact h1 k hk hl hmk e
/-- The first one is none that another is ahead of. -/
theorem heap_min {l : List E} {n : Nat} (h : HeapF l n 0) : ∀ k, k < n → ¬ lt (g l k) (g l 0) := by
  intro k
  induction k using Nat.strongRecOn with
  | ind k ih =>
    intro hk
    by_cases e : k = 0
    · subst e
      exact lt_irrefl _
    · exact nlt_trans (ih ((k - 1) / 2) (by omega) (by omega)) (h k (by omega) hk (Nat.zero_le _))
theorem heap_first {l : List E} (h : Heap l) : ∀ e ∈ l, ¬ lt e (g l 0) := by
  intro e he
  obtain ⟨k, hk, rfl⟩ := List.mem_iff_getElem.1 he
  rw [← g_eq hk]
  exact heap_min h k hk
/-- Put. -/
def putL (l : List E) (x : E) : List E := upL (l.length + 1) (l ++ [x]) l.length
theorem putL_perm (l : List E) (x : E) : (putL l x).Perm (x :: l) := (upL_perm _ _ _ (by simp)).trans (List.perm_append_singleton ..)
theorem putL_len (l : List E) (x : E) : (putL l x).length = l.length + 1 := by rw [(putL_perm l x).length_eq]; rfl
theorem g_app {l : List E} {x : E} {k : Nat} (h : k < l.length) : g (l ++ [x]) k = g l k := by
  unfold g
  rw [List.getD_eq_getElem?_getD, List.getD_eq_getElem?_getD, List.getElem?_append_left h]
theorem putL_heap {l : List E} (h : Heap l) (x : E) : Heap (putL l x) := by
  refine upL_heap _ _ _ (by omega) (by simp) (fun k hk hl hn => ?_) (fun k hk hl he hpos => ?_)
  · simp at hl
    rw [g_app (by omega), g_app (by omega)]
    exact h k hk (by omega) (Nat.zero_le _)
  · simp at hl
    omega
/-- Taken. -/
def takeL (l : List E) : List E := (downL l.length (swap l 0 (l.length - 1)) (l.length - 1) 0).take (l.length - 1)
theorem take_last {l : List E} {n : Nat} (h : l.length = n + 1) : l.Perm (g l n :: l.take n) := by
  have : l = l.take n ++ [g l n] := by
    rw [g_eq (by omega)]
    conv => lhs; rw [← List.take_append_drop n l]
    congr 1
    rw [List.drop_eq_getElem_cons (by omega), List.drop_of_length_le (by omega)]
  conv => lhs; rw [this]
  exact List.perm_append_singleton ..
theorem g_take {l : List E} {n k : Nat} (h : k < n) (hl : n ≤ l.length) : g (l.take n) k = g l k := by
  unfold g
  rw [List.getD_eq_getElem?_getD, List.getD_eq_getElem?_getD, List.getElem?_take_of_lt h]
theorem takeL_perm {l : List E} (h : 0 < l.length) : l.Perm (g l 0 :: takeL l) := by
  have h1 : (downL l.length (swap l 0 (l.length - 1)) (l.length - 1) 0).Perm l :=
    (downL_perm _ _ _ _ (by rw [swap_len]; omega) (by rw [swap_len]; omega)).trans (swap_perm _ _ _ h (by omega))
  have h2 := take_last (l := downL l.length (swap l 0 (l.length - 1)) (l.length - 1) 0) (n := l.length - 1) (by rw [h1.length_eq]; omega)
  have e : g (downL l.length (swap l 0 (l.length - 1)) (l.length - 1) 0) (l.length - 1) = g l 0 := by
    by_cases e0 : l.length = 1
    · rw [e0]
      show g (downL 1 (swap l 0 0) 0 0) 0 = g l 0
      unfold downL
      rw [if_pos (by omega), swap_self _ _ h]
    · rw [downL_rest _ _ _ _ _ (by rw [swap_len]; omega) (by rw [swap_len]; omega) (Nat.le_refl _) (by omega), g_swap _ _ _ _ h (by omega), if_pos rfl]
  rw [e] at h2
  exact h1.symm.trans h2
theorem takeL_len {l : List E} (h : 0 < l.length) : (takeL l).length = l.length - 1 := by
  have := (takeL_perm h).length_eq
  simp at this
  omega
theorem takeL_heap {l : List E} (h : Heap l) (hl : 0 < l.length) : Heap (takeL l) := by
  have h1 : HeapF (downL l.length (swap l 0 (l.length - 1)) (l.length - 1) 0) (l.length - 1) 0 := by
    refine downL_heap _ _ _ _ _ (by omega) (by rw [swap_len]; omega) (by rw [swap_len]; omega) (Nat.le_refl _) (fun k hk hkl _ hne => ?_) (fun k hk hkl he hpos => by omega)
    rw [g_swap _ _ _ _ hl (by omega), g_swap _ _ _ _ hl (by omega), if_neg (by omega), if_neg (by omega), if_neg (by omega), if_neg (by omega)]
    exact h k hk (by omega) (Nat.zero_le _)
  intro k hk hkl _
  rw [takeL_len hl] at hkl
  have hlen : l.length - 1 ≤ (downL l.length (swap l 0 (l.length - 1)) (l.length - 1) 0).length := by
    rw [(downL_perm _ _ _ _ (by rw [swap_len]; omega) (by rw [swap_len]; omega)).length_eq, swap_len]
    omega
  unfold takeL
  rw [g_take hkl hlen, g_take (by omega) hlen]
  exact h1 k hk hkl (Nat.zero_le _)
theorem up_def (j s : Int) (l : List E) : container_heap_up.step0 (j, s, l) =
    (if wrap64 ((wrap64 (j - 1)).tdiv 2) = j then some (Sum.inr (Sum.inl (j, s, l))) else if 0 ≤ j ∧ j < Int.ofNat l.length then (if 0 ≤ wrap64 ((wrap64 (j - 1)).tdiv 2) ∧ wrap64 ((wrap64 (j - 1)).tdiv 2) < Int.ofNat l.length then
      ((cmp6 (g l j.toNat) (g l (wrap64 ((wrap64 (j - 1)).tdiv 2)).toNat)).bind fun t0 => if (!decide (t0 < 0)) = true then some (Sum.inr (Sum.inl (j, s, l))) else if 0 ≤ j ∧ j < Int.ofNat l.length then (if 0 ≤ wrap64 ((wrap64 (j - 1)).tdiv 2) ∧ wrap64 ((wrap64 (j - 1)).tdiv 2) < Int.ofNat l.length then
        (if 0 ≤ wrap64 ((wrap64 (j - 1)).tdiv 2) ∧ wrap64 ((wrap64 (j - 1)).tdiv 2) < Int.ofNat l.length then (if 0 ≤ j ∧ j < Int.ofNat l.length then some (Sum.inl (wrap64 ((wrap64 (j - 1)).tdiv 2), s, swap l (wrap64 ((wrap64 (j - 1)).tdiv 2)).toNat j.toNat)) else none) else none) else none) else none) else none) else none) := rfl
theorem up_step (j : Nat) (s : Int) (l : List E) (hj : j < l.length) (hl : l.length ≤ 1000000) : container_heap_up.step0 ((j : Int), s, l) =
    if j = 0 then some (.inr (.inl ((j : Int), s, l))) else if lt (g l j) (g l ((j - 1) / 2)) then some (.inl ((((j - 1) / 2 : Nat) : Int), s, swap l ((j - 1) / 2) j)) else some (.inr (.inl ((j : Int), s, l))) := by
  rw [up_def]
  by_cases h0 : j = 0
  · subst h0
    rw [if_pos (by rw [show ((0 : Nat) : Int) - 1 = -1 from rfl, wr (-1) (by omega), show (-1 : Int).tdiv 2 = 0 from rfl, wr 0 (by omega)]; rfl), if_pos rfl]
  · have e : wrap64 ((wrap64 ((j : Int) - 1)).tdiv 2) = (((j - 1) / 2 : Nat) : Int) := by
      rw [wr ((j : Int) - 1) (by omega), Int.tdiv_eq_ediv_of_nonneg (by omega), wr _ (by omega)]
      omega
    have i1 : 0 ≤ (j : Int) ∧ (j : Int) < Int.ofNat l.length := ⟨by omega, by show (j : Int) < (l.length : Int); omega⟩
    have i2 : 0 ≤ (((j - 1) / 2 : Nat) : Int) ∧ (((j - 1) / 2 : Nat) : Int) < Int.ofNat l.length := ⟨by omega, by show _ < (l.length : Int); omega⟩
    rw [e, if_neg (by omega), if_neg h0, if_pos i1, if_pos i2, Int.toNat_natCast, Int.toNat_natCast, cmp6_eq, Option.bind_some]
    by_cases hlt : lt (g l j) (g l ((j - 1) / 2))
    · rw [if_pos hlt, if_neg (by decide), if_pos i1, if_pos i2, if_pos i2, if_pos i1, if_pos hlt]
    · rw [if_neg hlt, if_neg hlt, if_pos (by split <;> decide)]
theorem up_loop : ∀ (f j : Nat) (s : Int) (l : List E), j < f → j < l.length → l.length ≤ 1000000 → ∃ j' : Int, rounds container_heap_up.step0 ((j : Int), s, l) = some (.inl (j', s, upL f l j))
  | 0, j, s, l, hf, hj, hl => by omega
  | f + 1, j, s, l, hf, hj, hl => by
    have st := up_step j s l hj hl
    by_cases h0 : j = 0
    · rw [if_pos h0] at st
      exact ⟨_, by rw [rounds_end st]; unfold upL; rw [if_pos h0]⟩
    · rw [if_neg h0] at st
      by_cases hlt : lt (g l j) (g l ((j - 1) / 2))
      · rw [if_pos hlt] at st
        obtain ⟨j', h⟩ := up_loop f ((j - 1) / 2) s (swap l ((j - 1) / 2) j) (by omega) (by rw [swap_len]; omega) (by rw [swap_len]; exact hl)
        exact ⟨j', by rw [rounds_next st, h]; conv => rhs; unfold upL; rw [if_neg h0, if_pos hlt]⟩
      · rw [if_neg hlt] at st
        exact ⟨_, by rw [rounds_end st]; unfold upL; rw [if_neg h0, if_neg hlt]⟩
/-- May an event be put? -/
def fine (t k n m : Int) : Prop := 0 ≤ t ∧ t ≤ 4294967296 ∧ 0 ≤ k ∧ 0 ≤ n ∧ 0 ≤ m
instance (t k n m : Int) : Decidable (fine t k n m) := by unfold fine; infer_instance
theorem put_eq (t k n m v s : Int) (l : List E) (hs : 0 ≤ s) (hs2 : s ≤ 1000000) (hl : l.length < 65536) : agenda_Agenda_Put.f (t, k, n, m, v, s, l) = if fine t k n m then some (0, s + 1, putL l ((t, k, n, m, v), s + 1)) else some (100, s, l) := by
  unfold agenda_Agenda_Put.f
  dsimp only
  by_cases hf : fine t k n m
  · rw [if_pos hf]
    unfold fine at hf
    rw [if_neg (by omega), if_neg (by omega), if_neg (by split <;> split <;> omega), if_neg (by show ¬ (l.length : Int) = 65536; omega), if_pos (by show (l.length : Int) + 1 ≤ _; omega), guardEq_self, wr (s + 1) (by omega)]
    rw [wr (Int.ofNat l.length + 1 - 1) (by show _ ≤ (l.length : Int) + 1 - 1 ∧ (l.length : Int) + 1 - 1 ≤ _; omega), show Int.ofNat l.length + 1 - 1 = ((l.length : Nat) : Int) by show (l.length : Int) + 1 - 1 = _; omega]
    obtain ⟨j', h⟩ := up_loop (l.length + 1) l.length (s + 1) (l ++ [((t, k, n, m, v), s + 1)]) (by omega) (by simp) (by simp; omega)
    rw [h]
    rfl
  · rw [if_neg hf]
    unfold fine at hf
    by_cases h1 : t < 0
    · rw [if_pos h1]
    · rw [if_neg h1]
      by_cases h2 : t > 4294967296
      · rw [if_pos h2]
      · rw [if_neg h2, if_pos (by split <;> split <;> omega)]
def J1 (i : Int) : Int := wrap64 (wrap64 (2 * i) + 1)
def J2 (i : Int) : Int := wrap64 (wrap64 (wrap64 (2 * i) + 1) + 1)
def dnRest (i0 n i s : Int) (l : List E) (j : Int) : Option (container_heap_down.X0 ⊕ (container_heap_down.X0 ⊕ container_heap_down.Y0)) :=
  if 0 ≤ j ∧ j < Int.ofNat l.length then (if 0 ≤ i ∧ i < Int.ofNat l.length then ((cmp6 (g l j.toNat) (g l i.toNat)).bind fun t1 => if (!decide (t1 < 0)) = true then some (Sum.inr (Sum.inl (i0, n, i, s, l))) else
    if 0 ≤ j ∧ j < Int.ofNat l.length then (if 0 ≤ i ∧ i < Int.ofNat l.length then (if 0 ≤ i ∧ i < Int.ofNat l.length then (if 0 ≤ j ∧ j < Int.ofNat l.length then some (Sum.inl (i0, n, j, s, swap l i.toNat j.toNat)) else none) else none) else none) else none) else none) else none
theorem down_def (i0 n i s : Int) (l : List E) : container_heap_down.step0 (i0, n, i, s, l) =
    (if J1 i ≥ n then some (Sum.inr (Sum.inl (i0, n, i, s, l))) else if J1 i < 0 then some (Sum.inr (Sum.inl (i0, n, i, s, l))) else
     if J2 i < n then (if 0 ≤ J2 i ∧ J2 i < Int.ofNat l.length then (if 0 ≤ J1 i ∧ J1 i < Int.ofNat l.length then ((cmp6 (g l (J2 i).toNat) (g l (J1 i).toNat)).bind fun t0 => if t0 < 0 then dnRest i0 n i s l (J2 i) else dnRest i0 n i s l (J1 i)) else none) else none) else dnRest i0 n i s l (J1 i)) := rfl
theorem dn_rest (i0 n s : Int) (l : List E) (i j : Nat) (hi : i < l.length) (hj : j < l.length) : dnRest i0 n (i : Int) s l (j : Int) = if lt (g l j) (g l i) then some (Sum.inl (i0, n, (j : Int), s, swap l i j)) else some (Sum.inr (Sum.inl (i0, n, (i : Int), s, l))) := by
  have i1 : 0 ≤ (i : Int) ∧ (i : Int) < Int.ofNat l.length := ⟨by omega, by show (i : Int) < (l.length : Int); omega⟩
  have i2 : 0 ≤ (j : Int) ∧ (j : Int) < Int.ofNat l.length := ⟨by omega, by show (j : Int) < (l.length : Int); omega⟩
  unfold dnRest
  rw [if_pos i2, if_pos i1, Int.toNat_natCast, Int.toNat_natCast, cmp6_eq, Option.bind_some]
  by_cases hlt : lt (g l j) (g l i)
  · rw [if_pos hlt, if_neg (by decide), if_pos i2, if_pos i1, if_pos i1, if_pos i2, if_pos hlt]
  · rw [if_neg hlt, if_neg hlt, if_pos (by split <;> decide)]
theorem down_step (i0 s : Int) (n i : Nat) (l : List E) (hn : n ≤ l.length) (hi : i < l.length) (hl : l.length ≤ 1000000) : container_heap_down.step0 (i0, (n : Int), (i : Int), s, l) =
    if 2 * i + 1 ≥ n then some (.inr (.inl (i0, (n : Int), (i : Int), s, l))) else if lt (g l (kid l n i)) (g l i) then some (.inl (i0, (n : Int), ((kid l n i : Nat) : Int), s, swap l i (kid l n i))) else some (.inr (.inl (i0, (n : Int), (i : Int), s, l))) := by
  rw [down_def]
  have e1 : J1 (i : Int) = ((2 * i + 1 : Nat) : Int) := by
    unfold J1
    rw [wr (2 * (i : Int)) (by omega), wr _ (by omega)]
    omega
  have e2 : J2 (i : Int) = ((2 * i + 2 : Nat) : Int) := by
    unfold J2
    rw [wr (2 * (i : Int)) (by omega), wr (2 * (i : Int) + 1) (by omega), wr _ (by omega)]
    omega
  rw [e1, e2]
  by_cases h : 2 * i + 1 ≥ n
  · rw [if_pos (by omega), if_pos h]
  · rw [if_neg (by omega), if_neg h, if_neg (by omega)]
    by_cases h2 : 2 * i + 2 < n
    · rw [if_pos (by omega), if_pos ⟨by omega, by show _ < (l.length : Int); omega⟩, if_pos ⟨by omega, by show _ < (l.length : Int); omega⟩, Int.toNat_natCast, Int.toNat_natCast, cmp6_eq, Option.bind_some]
      by_cases hlt : lt (g l (2 * i + 2)) (g l (2 * i + 1))
      · have ek : kid l n i = 2 * i + 2 := if_pos ⟨h2, hlt⟩
        rw [if_pos hlt, if_pos (by decide), dn_rest _ _ _ _ _ _ hi (by omega), ek]
      · have ek : kid l n i = 2 * i + 1 := if_neg fun q => hlt q.2
        rw [if_neg hlt, if_neg (by split <;> decide), dn_rest _ _ _ _ _ _ hi (by omega), ek]
    · have ek : kid l n i = 2 * i + 1 := if_neg fun q => h2 q.1
      rw [if_neg (by omega), dn_rest _ _ _ _ _ _ hi (by omega), ek]
theorem down_loop : ∀ (f : Nat) (i0 s : Int) (n i : Nat) (l : List E), n ≤ i + f → n ≤ l.length → i < l.length → l.length ≤ 1000000 → 0 < f → ∃ i' : Int, rounds container_heap_down.step0 (i0, (n : Int), (i : Int), s, l) = some (.inl (i0, (n : Int), i', s, downL f l n i))
  | 0, i0, s, n, i, l, hf, hn, hi, hl, hp => by omega
  | f + 1, i0, s, n, i, l, hf, hn, hi, hl, hp => by
    have st := down_step i0 s n i l hn hi hl
    by_cases h : 2 * i + 1 ≥ n
    · rw [if_pos h] at st
      exact ⟨_, by rw [rounds_end st]; unfold downL; rw [if_pos h]⟩
    · rw [if_neg h] at st
      by_cases hlt : lt (g l (kid l n i)) (g l i)
      · rw [if_pos hlt] at st
        have hk := kid_lt (l := l) h
        obtain ⟨i', e⟩ := down_loop f i0 s n (kid l n i) (swap l i (kid l n i)) (by omega) (by rw [swap_len]; exact hn) (by rw [swap_len]; omega) (by rw [swap_len]; exact hl) (by omega)
        exact ⟨i', by rw [rounds_next st, e]; conv => rhs; unfold downL; rw [if_neg h, if_pos hlt]⟩
      · rw [if_neg hlt] at st
        exact ⟨_, by rw [rounds_end st]; unfold downL; rw [if_neg h, if_neg hlt]⟩
theorem down_eq (i0 s : Int) (n i f : Nat) (l : List E) (hi0 : i0 = (i : Int)) (hf : n ≤ i + f) (hn : n ≤ l.length) (hi : i < l.length) (hl : l.length ≤ 1000000) (hp : 0 < f) : ∃ b, container_heap_down.f (i0, (n : Int), s, l) = some (b, s, downL f l n i) := by
  subst hi0
  unfold container_heap_down.f
  dsimp only
  obtain ⟨i', e⟩ := down_loop f (i : Int) s n i l hf hn hi hl hp
  rw [guardEq_self, e]
  exact ⟨_, rfl⟩
theorem take_def (s : Int) (l : List E) : agenda_Agenda_Take.f (s, l) =
    (if Int.ofNat l.length = 0 then some (0, 0, 0, 0, 0, false, s, l) else if (0 : Int) ≤ (0 : Int) ∧ (0 : Int) < Int.ofNat l.length then (if 0 ≤ wrap64 (Int.ofNat l.length - 1) ∧ wrap64 (Int.ofNat l.length - 1) < Int.ofNat l.length then (if (0 : Int) ≤ (0 : Int) ∧ (0 : Int) < Int.ofNat l.length then (if (0 : Int) ≤ (0 : Int) ∧ (0 : Int) < Int.ofNat l.length then (if 0 ≤ wrap64 (Int.ofNat l.length - 1) ∧ wrap64 (Int.ofNat l.length - 1) < Int.ofNat l.length then
      ((container_heap_down.f (0, wrap64 (Int.ofNat l.length - 1), s, swap l 0 (wrap64 (Int.ofNat l.length - 1)).toNat)).bind fun t0 => if 0 ≤ wrap64 (Int.ofNat t0.snd.snd.length - 1) ∧ wrap64 (Int.ofNat t0.snd.snd.length - 1) < Int.ofNat t0.snd.snd.length then (if 0 ≤ wrap64 (Int.ofNat t0.snd.snd.length - 1) then (if wrap64 (Int.ofNat t0.snd.snd.length - 1) ≤ Int.ofNat t0.snd.snd.length then
        some ((g l 0).1.1, (g l 0).1.2.1, (g l 0).1.2.2.1, (g l 0).1.2.2.2.1, (g l 0).1.2.2.2.2, true, t0.snd.fst, List.take (wrap64 (Int.ofNat t0.snd.snd.length - 1)).toNat t0.snd.snd) else none) else none) else none) else none) else none) else none) else none) else none) := rfl
theorem take_none (s : Int) : agenda_Agenda_Take.f (s, []) = some (0, 0, 0, 0, 0, false, s, []) := rfl
theorem take_eq (s : Int) (l : List E) (h : 0 < l.length) (hl : l.length ≤ 1000000) : agenda_Agenda_Take.f (s, l) = some ((g l 0).1.1, (g l 0).1.2.1, (g l 0).1.2.2.1, (g l 0).1.2.2.2.1, (g l 0).1.2.2.2.2, true, s, takeL l) := by
  rw [take_def]
  have e : wrap64 (Int.ofNat l.length - 1) = ((l.length - 1 : Nat) : Int) := by
    show wrap64 ((l.length : Int) - 1) = _
    rw [wr _ (by omega)]
    omega
  have i1 : (0 : Int) ≤ 0 ∧ (0 : Int) < Int.ofNat l.length := ⟨by omega, by show _ < (l.length : Int); omega⟩
  have i2 : 0 ≤ ((l.length - 1 : Nat) : Int) ∧ ((l.length - 1 : Nat) : Int) < Int.ofNat l.length := ⟨by omega, by show _ < (l.length : Int); omega⟩
  rw [if_neg (by show ¬ (l.length : Int) = 0; omega), e, if_pos i1, if_pos i2, if_pos i1, if_pos i1, if_pos i2, Int.toNat_natCast]
  obtain ⟨b, hd⟩ := down_eq 0 s (l.length - 1) 0 l.length (swap l 0 (l.length - 1)) rfl (by omega) (by rw [swap_len]; omega) (by rw [swap_len]; omega) (by rw [swap_len]; exact hl) h
  rw [hd, Option.bind_some]
  have hlen : (downL l.length (swap l 0 (l.length - 1)) (l.length - 1) 0).length = l.length := by
    rw [(downL_perm _ _ _ _ (by rw [swap_len]; omega) (by rw [swap_len]; omega)).length_eq, swap_len]
  dsimp only
  rw [hlen, e, if_pos i2, if_pos i2.1, if_pos (Int.le_of_lt i2.2), Int.toNat_natCast]
  rfl
abbrev V : Type := Int × Int × Int × Int × Int
/-- Behind another one, by the document. -/
def aft (a b : V) : Prop := b.1 < a.1 ∨ (b.1 = a.1 ∧ (b.2.1 < a.2.1 ∨ (b.2.1 = a.2.1 ∧ (b.2.2.1 < a.2.2.1 ∨ (b.2.2.1 = a.2.2.1 ∧ b.2.2.2.1 < a.2.2.2.1)))))
instance (a b : V) : Decidable (aft a b) := by unfold aft; infer_instance
def aft6 (a b : V) : Option Bool := vespersref10_After.f a.1 a.2.1 a.2.2.1 a.2.2.2.1 a.2.2.2.2 b.1 b.2.1 b.2.2.1 b.2.2.2.1 b.2.2.2.2
theorem aft6_eq (a b : V) : aft6 a b = some (decide (aft a b)) := by
  obtain ⟨a0, a1, a2, a3, a4⟩ := a
  obtain ⟨b0, b1, b2, b3, b4⟩ := b
  unfold aft6 vespersref10_After.f aft
  dsimp only
  split
  · congr 1
    exact decide_eq_decide.2 (by omega)
  · split
    · congr 1
      exact decide_eq_decide.2 (by omega)
    · split
      · congr 1
        exact decide_eq_decide.2 (by omega)
      · congr 1
        exact decide_eq_decide.2 (by omega)
def val (a : V) : Int := a.2.2.2.2
/-- What is taken first does not stand behind what is left; of those that are alike it was put first. -/
theorem first_ok {x e : E} (h : ¬ lt e x) : ¬ aft x.1 e.1 ∧ (¬ aft e.1 x.1 → x.2 ≤ e.2) := by
  unfold lt at h
  unfold aft
  omega
theorem fine_V (y : V) : fine y.1 y.2.1 y.2.2.1 y.2.2.2.1 ↔ fine y.1 y.2.1 y.2.2.1 y.2.2.2.1 := Iff.rfl
noncomputable def put6 (y : V) (s : Int) (h : List E) : Option (Int × Int × List E) := agenda_Agenda_Put.f (y.1, y.2.1, y.2.2.1, y.2.2.2.1, y.2.2.2.2, s, h)
theorem put6_eq (y : V) (s : Int) (h : List E) (hs : 0 ≤ s) (hs2 : s ≤ 1000000) (hl : h.length < 65536) : put6 y s h = if fine y.1 y.2.1 y.2.2.1 y.2.2.2.1 then some (0, s + 1, putL h (y, s + 1)) else some (100, s, h) := put_eq _ _ _ _ _ _ _ hs hs2 hl
theorem alive_ok : vesperslaw10_alive.f = some true := by
  unfold vesperslaw10_alive.f
  have p : ∀ (t k s : Int) (h : List E), 0 ≤ t → t ≤ 100 → 0 ≤ k → 0 ≤ s → s ≤ 100 → h.length < 100 → agenda_Agenda_Put.f (t, k, 0, 0, 0, s, h) = some (0, s + 1, putL h ((t, k, 0, 0, 0), s + 1)) := fun t k s h h1 h2 h3 h4 h5 h6 => by
    rw [put_eq _ _ _ _ _ _ _ h4 (by omega) (by omega), if_pos ⟨h1, by omega, h3, by omega, by omega⟩]
  simp only [vesperslaw10_at.f, Option.bind_some]
  rw [p 5 1 0 [] (by decide) (by decide) (by decide) (by decide) (by decide) (by decide)]
  simp only [Option.bind_some]
  rw [p 3 9 (0 + 1) _ (by decide) (by decide) (by decide) (by decide) (by decide) (by decide)]
  simp only [Option.bind_some]
  rw [p 5 0 (0 + 1 + 1) _ (by decide) (by decide) (by decide) (by decide) (by decide) (by decide)]
  simp only [Option.bind_some]
  rw [take_eq _ _ (by decide) (by decide)]
  simp only [Option.bind_some]
  rw [take_eq _ _ (by decide) (by decide)]
  simp only [Option.bind_some]
  rw [take_eq _ _ (by decide) (by decide)]
  rfl
/-- What is known of a heap: of those that were put earlier the values are less. -/
structure Inv (s : Int) (h : List E) (b : Int) : Prop where
  heap : Heap h
  top : ∀ e ∈ h, e.2 ≤ s ∧ val e.1 < b
  mono : ∀ e ∈ h, ∀ e' ∈ h, e.2 ≤ e'.2 → val e.1 ≤ val e'.1
theorem Inv.more {s b c : Int} {h : List E} (i : Inv s h b) (hc : b ≤ c) : Inv s h c := ⟨i.heap, fun e he => ⟨(i.top e he).1, Int.lt_of_lt_of_le (i.top e he).2 hc⟩, i.mono⟩
theorem Inv.put {s b : Int} {h : List E} (i : Inv s h b) (y : V) (hy : val y = b) : Inv (s + 1) (putL h (y, s + 1)) (b + 1) := by
  have hm : ∀ e, e ∈ putL h (y, s + 1) → e = (y, s + 1) ∨ e ∈ h := fun e he => by
    have := (putL_perm h (y, s + 1)).mem_iff.1 he
    simpa using this
  refine ⟨putL_heap i.heap _, fun e he => ?_, fun e he e' he' hle => ?_⟩
  · rcases hm e he with rfl | he
    · exact ⟨Int.le_refl _, by show val y < b + 1; omega⟩
    · have := i.top e he
      omega
  · rcases hm e he with rfl | he <;> rcases hm e' he' with rfl | he'
    · exact Int.le_refl _
    · have := i.top e' he'
      have : (s + 1 : Int) ≤ e'.2 := hle
      omega
    · have := i.top e he
      show val e.1 ≤ val y
      omega
    · exact i.mono e he e' he' hle
theorem Inv.take {s b : Int} {h : List E} (i : Inv s h b) (hl : 0 < h.length) : Inv s (takeL h) b := by
  have hm : ∀ e, e ∈ takeL h → e ∈ h := fun e he => (takeL_perm hl).mem_iff.2 (List.mem_cons_of_mem _ he)
  exact ⟨takeL_heap i.heap hl, fun e he => i.top e (hm e he), fun e he e' he' => i.mono e (hm e he) e' (hm e' he')⟩
theorem Inv.first {s b : Int} {h : List E} (i : Inv s h b) (hl : 0 < h.length) : ∀ e ∈ takeL h, ¬ aft (g h 0).1 e.1 ∧ (¬ aft e.1 (g h 0).1 → val (g h 0).1 ≤ val e.1) := fun e he => by
  have hm : e ∈ h := (takeL_perm hl).mem_iff.2 (List.mem_cons_of_mem _ he)
  obtain ⟨h1, h2⟩ := first_ok (heap_first i.heap e hm)
  exact ⟨h1, fun q => i.mono _ (g_mem hl) e hm (h2 q)⟩
abbrev Z : Type := vesperslaw10_AgendaOrder.X0 ⊕ (vesperslaw10_AgendaOrder.X0 ⊕ vesperslaw10_AgendaOrder.Y0)
def setV (l : List V) (i : Nat) (v : Int) : List V := l.set i ((l.getD i (0, 0, 0, 0, 0)).1, (l.getD i (0, 0, 0, 0, 0)).2.1, (l.getD i (0, 0, 0, 0, 0)).2.2.1, (l.getD i (0, 0, 0, 0, 0)).2.2.2.1, v)
def ordT (t1 : Int × Int × Int × Int × Int × Bool × Int × List E) (i n taken many : Int) (ok : Bool) (ev : Int) (l : List V) : Option Z :=
  if Int.ofNat t1.2.2.2.2.2.2.2.length = 0 then (if (!t1.2.2.2.2.2.1) = true then some (Sum.inr (Sum.inr ())) else some (Sum.inl (wrap64 (i + 1), n, wrap64 (taken + 1), wrap64 (many + 1), ok, ev, t1.2.2.2.2.2.2.1, t1.2.2.2.2.2.2.2, l))) else
  if (0 : Int) ≤ (0 : Int) ∧ (0 : Int) < Int.ofNat t1.2.2.2.2.2.2.2.length then (if (!t1.2.2.2.2.2.1) = true then some (Sum.inr (Sum.inr ())) else
    (aft6 (t1.1, t1.2.1, t1.2.2.1, t1.2.2.2.1, t1.2.2.2.2.1) (g t1.2.2.2.2.2.2.2 0).1).bind fun t2 => if t2 = true then some (Sum.inr (Sum.inr ())) else (aft6 (g t1.2.2.2.2.2.2.2 0).1 (t1.1, t1.2.1, t1.2.2.1, t1.2.2.2.1, t1.2.2.2.2.1)).bind fun t3 => if (!t3) = true then
      (if t1.2.2.2.2.1 > val (g t1.2.2.2.2.2.2.2 0).1 then some (Sum.inr (Sum.inr ())) else some (Sum.inl (wrap64 (i + 1), n, wrap64 (taken + 1), wrap64 (many + 1), ok, ev, t1.2.2.2.2.2.2.1, t1.2.2.2.2.2.2.2, l))) else some (Sum.inl (wrap64 (i + 1), n, wrap64 (taken + 1), wrap64 (many + 1), ok, ev, t1.2.2.2.2.2.2.1, t1.2.2.2.2.2.2.2, l))) else none
noncomputable def ordP (t0 : Int × Int × List E) (i n taken many : Int) (ok : Bool) (ev : Int) (l : List V) : Option Z :=
  if t0.1 ≠ 0 then some (Sum.inl (wrap64 (i + 1), n, taken, many, ok, ev, t0.2.1, t0.2.2, l)) else if wrap64 (2 + wrap64 ev) = 0 then none else if i.tmod (wrap64 (2 + wrap64 ev)) = 1 then ((agenda_Agenda_Take.f (t0.2.1, t0.2.2)).bind fun t1 => ordT t1 i n taken many ok ev l)
    else some (Sum.inl (wrap64 (i + 1), n, taken, wrap64 (many + 1), ok, ev, t0.2.1, t0.2.2, l))
theorem st0_def (i n taken many : Int) (ok : Bool) (ev s : Int) (h : List E) (l : List V) : vesperslaw10_AgendaOrder.step0 (i, n, taken, many, ok, ev, s, h, l) =
    (if i < n then (if 0 ≤ i ∧ i < Int.ofNat l.length then (if 0 ≤ i ∧ i < Int.ofNat l.length then ((put6 ((setV l i.toNat i).getD i.toNat (0, 0, 0, 0, 0)) s h).bind fun t0 => ordP t0 i n taken many ok ev (setV l i.toNat i)) else none) else none) else some (Sum.inr (Sum.inl (i, n, taken, many, ok, ev, s, h, l)))) := rfl
theorem setV_len (l : List V) (i : Nat) (v : Int) : (setV l i v).length = l.length := by simp [setV]
theorem setV_val (l : List V) (i : Nat) (v : Int) (h : i < l.length) : val ((setV l i v).getD i (0, 0, 0, 0, 0)) = v := by
  unfold setV
  rw [List.getD_eq_getElem?_getD, List.getElem?_set, if_pos rfl, if_pos h]
  rfl
theorem ordT_ok (h : List E) (s b : Int) (hv : Inv s h b) (hl : 0 < h.length) (i n taken many : Int) (ok : Bool) (ev : Int) (l : List V) (w1 : 0 ≤ i ∧ i ≤ 1000) (w2 : 0 ≤ taken ∧ taken ≤ 1000) (w3 : 0 ≤ many ∧ many ≤ 1000) :
    ordT ((g h 0).1.1, (g h 0).1.2.1, (g h 0).1.2.2.1, (g h 0).1.2.2.2.1, (g h 0).1.2.2.2.2, true, s, takeL h) i n taken many ok ev l = some (.inl (i + 1, n, taken + 1, many + 1, ok, ev, s, takeL h, l)) := by
  unfold ordT
  dsimp only
  rw [wr (i + 1) (by omega), wr (taken + 1) (by omega), wr (many + 1) (by omega)]
  by_cases h0 : (takeL h).length = 0
  · rw [if_pos (by rw [h0]; rfl), if_neg (by decide)]
  · rw [if_neg (by show ¬ ((takeL h).length : Int) = 0; omega), if_pos ⟨by omega, by show (0 : Int) < ((takeL h).length : Int); omega⟩, if_neg (by decide)]
    obtain ⟨h1, h2⟩ := hv.first hl _ (g_mem (l := takeL h) (i := 0) (by omega))
    rw [show ((g h 0).1.1, (g h 0).1.2.1, (g h 0).1.2.2.1, (g h 0).1.2.2.2.1, (g h 0).1.2.2.2.2) = (g h 0).1 from rfl, aft6_eq, Option.bind_some, aft6_eq, Option.bind_some, if_neg (by simpa using h1)]
    by_cases h3 : aft (g (takeL h) 0).1 (g h 0).1
    · rw [if_neg (by simpa using h3)]
    · have h4 := h2 h3
      rw [if_pos (by simpa using h3), if_neg (by show ¬ val (g h 0).1 > val (g (takeL h) 0).1; omega)]
theorem loop0 (n : Nat) (hn : n ≤ 150) (ok : Bool) (ev : Int) (hev : 0 ≤ ev ∧ ev ≤ 255) : ∀ (k i : Nat) (taken s : Int) (h : List E) (l : List V), i + k = n → l.length = n → 0 ≤ taken → taken + h.length ≤ i → 0 ≤ s → s ≤ i → Inv s h i →
    ∃ taken' s' h' l', rounds vesperslaw10_AgendaOrder.step0 ((i : Int), (n : Int), taken, taken + h.length, ok, ev, s, h, l) = some (.inl ((n : Int), (n : Int), taken', taken' + (List.length h' : Int), ok, ev, s', h', l')) ∧ 0 ≤ taken' ∧ taken' + h'.length ≤ n ∧ Inv s' h' n
  | 0, i, taken, s, h, l, hk, hl, ht, hb, hs, hs2, hv => by
    have e : i = n := by omega
    subst e
    refine ⟨taken, s, h, l, ?_, ht, hb, hv⟩
    apply rounds_end
    rw [st0_def, if_neg (by omega)]
  | k + 1, i, taken, s, h, l, hk, hl, ht, hb, hs, hs2, hv => by
    have st := st0_def (i : Int) (n : Int) taken (taken + h.length) ok ev s h l
    have i1 : 0 ≤ (i : Int) ∧ (i : Int) < Int.ofNat l.length := ⟨by omega, by show (i : Int) < (l.length : Int); omega⟩
    have hy := setV_val l i i (by omega)
    rw [if_pos (by omega), if_pos i1, if_pos i1, Int.toNat_natCast, put6_eq _ _ _ hs (by omega) (by omega)] at st
    have hl2 := (setV_len l i i).trans hl
    generalize setV l i i = l2 at st hy hl2
    generalize l2.getD i (0, 0, 0, 0, 0) = y at st hy
    by_cases hf : fine y.1 y.2.1 y.2.2.1 y.2.2.2.1
    · rw [if_pos hf, Option.bind_some] at st
      unfold ordP at st
      dsimp only at st
      have hv2 := hv.put y hy
      rw [if_neg (by decide), wr ev (by omega), wr (2 + ev) (by omega), if_neg (by omega)] at st
      have hlen := putL_len h (y, s + 1)
      by_cases hm : (i : Int).tmod (2 + ev) = 1
      · have hp : 0 < (putL h (y, s + 1)).length := by omega
        rw [if_pos hm, take_eq _ _ hp (by omega), Option.bind_some, ordT_ok _ _ _ hv2 hp _ _ _ _ _ _ _ ⟨by omega, by omega⟩ ⟨by omega, by omega⟩ ⟨by omega, by omega⟩] at st
        have ht2 := takeL_len hp
        obtain ⟨taken', s', h', l', e, r⟩ := loop0 n hn ok ev hev k (i + 1) (taken + 1) (s + 1) (takeL (putL h (y, s + 1))) l2 (by omega) hl2 (by omega) (by omega) (by omega) (by omega) (hv2.take hp)
        refine ⟨taken', s', h', l', ?_, r⟩
        rw [rounds_next st, show taken + (h.length : Int) + 1 = taken + 1 + ((takeL (putL h (y, s + 1))).length : Int) by omega]
        exact e
      · rw [if_neg hm, wr _ (by omega), wr _ (by omega)] at st
        obtain ⟨taken', s', h', l', e, r⟩ := loop0 n hn ok ev hev k (i + 1) taken (s + 1) (putL h (y, s + 1)) l2 (by omega) hl2 (by omega) (by omega) (by omega) (by omega) hv2
        refine ⟨taken', s', h', l', ?_, r⟩
        rw [rounds_next st, show taken + (h.length : Int) + 1 = taken + ((putL h (y, s + 1)).length : Int) by omega]
        exact e
    · rw [if_neg hf, Option.bind_some] at st
      unfold ordP at st
      dsimp only at st
      rw [if_pos (by decide), wr _ (by omega)] at st
      obtain ⟨taken', s', h', l', e, r⟩ := loop0 n hn ok ev hev k (i + 1) taken s h l2 (by omega) hl2 (by omega) (by omega) (by omega) (by omega) (hv.more (by omega))
      refine ⟨taken', s', h', l', ?_, r⟩
      rw [rounds_next st]
      exact e
abbrev Z1 : Type := vesperslaw10_AgendaOrder.X1 ⊕ (vesperslaw10_AgendaOrder.X1 ⊕ vesperslaw10_AgendaOrder.Y1)
def ordR (t0 : Int × Int × Int × Int × Int × Bool × Int × List E) (taken many : Int) (had ok : Bool) (last : V) : Option Z1 :=
  if (!t0.2.2.2.2.2.1) = true then some (Sum.inr (Sum.inr ())) else if had = true then ((aft6 last (t0.1, t0.2.1, t0.2.2.1, t0.2.2.2.1, t0.2.2.2.2.1)).bind fun t1 => if t1 = true then some (Sum.inr (Sum.inr ())) else (aft6 (t0.1, t0.2.1, t0.2.2.1, t0.2.2.2.1, t0.2.2.2.2.1) last).bind fun t2 => if (!t2) = true then (if val last > t0.2.2.2.2.1 then some (Sum.inr (Sum.inr ())) else
    some (Sum.inl (wrap64 (taken + 1), many, true, ok, t0.2.2.2.2.2.2.1, t0.2.2.2.2.2.2.2, t0.1, t0.2.1, t0.2.2.1, t0.2.2.2.1, t0.2.2.2.2.1))) else some (Sum.inl (wrap64 (taken + 1), many, true, ok, t0.2.2.2.2.2.2.1, t0.2.2.2.2.2.2.2, t0.1, t0.2.1, t0.2.2.1, t0.2.2.2.1, t0.2.2.2.2.1))) else some (Sum.inl (wrap64 (taken + 1), many, true, ok, t0.2.2.2.2.2.2.1, t0.2.2.2.2.2.2.2, t0.1, t0.2.1, t0.2.2.1, t0.2.2.2.1, t0.2.2.2.2.1))
theorem st1_def (taken many : Int) (had ok : Bool) (s : Int) (h : List E) (last : V) : vesperslaw10_AgendaOrder.step1 (taken, many, had, ok, s, h, last) =
    (if Int.ofNat h.length > 0 then ((agenda_Agenda_Take.f (s, h)).bind fun t0 => ordR t0 taken many had ok last) else some (Sum.inr (Sum.inl (taken, many, had, ok, s, h, last)))) := rfl
theorem ordR_ok (h : List E) (s : Int) (taken many : Int) (had ok : Bool) (last : V) (hh : had = true → ¬ aft last (g h 0).1 ∧ (¬ aft (g h 0).1 last → val last ≤ val (g h 0).1)) (w2 : 0 ≤ taken ∧ taken ≤ 1000) :
    ordR ((g h 0).1.1, (g h 0).1.2.1, (g h 0).1.2.2.1, (g h 0).1.2.2.2.1, (g h 0).1.2.2.2.2, true, s, takeL h) taken many had ok last = some (.inl (taken + 1, many, true, ok, s, takeL h, (g h 0).1)) := by
  unfold ordR
  dsimp only
  rw [if_neg (by decide), wr (taken + 1) (by omega)]
  cases had with
  | false => rw [if_neg (by decide)]
  | true =>
    obtain ⟨h1, h2⟩ := hh rfl
    rw [if_pos rfl, show ((g h 0).1.1, (g h 0).1.2.1, (g h 0).1.2.2.1, (g h 0).1.2.2.2.1, (g h 0).1.2.2.2.2) = (g h 0).1 from rfl, aft6_eq, Option.bind_some, aft6_eq, Option.bind_some, if_neg (by simpa using h1)]
    by_cases h3 : aft (g h 0).1 last
    · rw [if_neg (by simpa using h3)]
    · have h4 := h2 h3
      rw [if_pos (by simpa using h3), if_neg (by show ¬ val last > val (g h 0).1; omega)]
theorem loop1 (ok : Bool) (s b : Int) : ∀ (k : Nat) (taken many : Int) (had : Bool) (h : List E) (last : V), h.length = k → k ≤ 150 → 0 ≤ taken → taken ≤ 150 → taken + k = many → many ≤ 150 → Inv s h b → (had = true → ∀ e ∈ h, ¬ aft last e.1 ∧ (¬ aft e.1 last → val last ≤ val e.1)) →
    ∃ had' last', rounds vesperslaw10_AgendaOrder.step1 (taken, many, had, ok, s, h, last) = some (.inl (many, many, had', ok, s, [], last'))
  | 0, taken, many, had, h, last, hk, hk2, ht, ht2, hm, hm2, hv, hh => by
    have e : h = [] := List.eq_nil_of_length_eq_zero hk
    subst e
    refine ⟨had, last, ?_⟩
    apply rounds_end
    rw [st1_def, if_neg (by show ¬ ((0 : Int) > 0); omega)]
    have : taken = many := by omega
    rw [this]
  | k + 1, taken, many, had, h, last, hk, hk2, ht, ht2, hm, hm2, hv, hh => by
    have st := st1_def taken many had ok s h last
    have hp : 0 < h.length := by omega
    rw [if_pos (by show (h.length : Int) > 0; omega), take_eq _ _ hp (by omega), Option.bind_some, ordR_ok h s taken many had ok last (fun q => hh q _ (g_mem hp)) ⟨ht, by omega⟩] at st
    obtain ⟨had', last', e⟩ := loop1 ok s b k (taken + 1) many true (takeL h) (g h 0).1 (by rw [takeL_len hp]; omega) (by omega) (by omega) (by omega) (by omega) hm2 (hv.take hp) (fun _ => hv.first hp)
    exact ⟨had', last', by rw [rounds_next st, e]⟩
theorem proved : vesperslaw10_AgendaOrder.Pure := by
  intro l ev hl hev
  have hev' : 0 ≤ ev ∧ ev ≤ 255 := by
    have a : IntKind.u8.min = 0 := rfl
    have b : IntKind.u8.max = 255 := rfl
    simp [Lit.wf] at hev
    omega
  unfold vesperslaw10_AgendaOrder.f
  rw [alive_ok, Option.bind_some]
  by_cases h : Int.ofNat l.length > 150
  · rw [if_pos h]
  · have h' : ¬ ((l.length : Int) > 150) := h
    rw [if_neg h, if_neg (by decide), if_pos (by show 0 + (l.length : Int) ≤ _; omega), guardEq_self]
    obtain ⟨taken', s', h', l', e, r1, r2, r3⟩ := loop0 l.length (by omega) true ev hev' l.length 0 0 0 [] l (by omega) rfl (by omega) (by simp) (by omega) (by omega) ⟨(fun k hk hl _ => by simp at hl), (fun e he => by cases he), (fun e he => by cases he)⟩
    rw [show (0 : Int) + Int.ofNat l.length = (l.length : Int) by show 0 + (l.length : Int) = _; omega]
    rw [show rounds vesperslaw10_AgendaOrder.step0 (0, (l.length : Int), 0, 0, true, ev, 0, [], [] ++ l) = _ from e, Option.bind_some]
    dsimp only
    obtain ⟨had', last', e1⟩ := loop1 true s' l.length h'.length taken' (taken' + h'.length) false h' (0, 0, 0, 0, 0) rfl (by omega) r1 (by omega) rfl (by omega) r3 (fun q => by cases q)
    rw [guardEq_self, e1, Option.bind_some]
    dsimp only
    rw [if_pos rfl, decide_eq_true rfl]
end LAgendaOrder
end Go.Proofs.Ytgkheobpnjmgdaa.Pure
