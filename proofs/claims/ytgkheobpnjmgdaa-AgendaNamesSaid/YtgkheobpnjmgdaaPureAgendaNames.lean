/- The error and the limit have their numbers; the examples of the chapter; in which order events stand; what is refused; a full one; calls on none. -/
import Derived.Test.YtgkheobpnjmgdaaS14
namespace Go.Proofs.Ytgkheobpnjmgdaa.Pure
open Go Go.RowKit Go.Proofs.Ytgkheobpnjmgdaa.S
open Go.Proofs.Ytgkheobpnjmgdaa.SX (guardEq_self rounds rounds_next rounds_end)
set_option linter.unusedVariables false
set_option linter.unusedSimpArgs false
namespace LAgendaNames
theorem wr (x : Int) (h : -9223372036854775808 ≤ x ∧ x ≤ 9223372036854775807) : wrap64 x = x := by unfold wrap64; omega
/-- An entry: an event (Time, Kind, Node, Number, Value), and when it was seen. -/
abbrev E : Type := (Int × Int × Int × Int × Int) × Int
def dz : E := ((0, 0, 0, 0, 0), 0)
/-- Ahead of another one. -/
def lt (a b : E) : Prop := a.1.1 < b.1.1 ∨ (a.1.1 = b.1.1 ∧ (a.1.2.1 < b.1.2.1 ∨ (a.1.2.1 = b.1.2.1 ∧ (a.1.2.2.1 < b.1.2.2.1 ∨ (a.1.2.2.1 = b.1.2.2.1 ∧ (a.1.2.2.2.1 < b.1.2.2.2.1 ∨ (a.1.2.2.2.1 = b.1.2.2.2.1 ∧ a.2 < b.2)))))))
instance (a b : E) : Decidable (lt a b) := by unfold lt; infer_instance
theorem lt_asymm {a b : E} (h : lt a b) : ¬ lt b a := by unfold lt at *; omega
theorem lt_irrefl (a : E) : ¬ lt a a := by unfold lt; omega
theorem nlt_trans {a b c : E} (h : ¬ lt b a) (k : ¬ lt c b) : ¬ lt c a := by unfold lt at *; omega
theorem lt_nlt {a b c : E} (h : lt a b) (k : ¬ lt c b) : ¬ lt c a := nlt_trans (lt_asymm h) k
def cmp6 (a b : E) : Option Int := agenda_before.f a.1.1 a.1.2.1 a.1.2.2.1 a.1.2.2.2.1 a.1.2.2.2.2 a.2 b.1.1 b.1.2.1 b.1.2.2.1 b.1.2.2.2.1 b.1.2.2.2.2 b.2
theorem cmpI (a b : Int) : cmp_Compare_int.f a b = some (if a < b then -1 else if b < a then 1 else 0) := by
  unfold cmp_Compare_int.f
  rw [if_neg (by simp), if_neg (by simp)]
  split
  · rfl
  · split
    · rfl
    · rfl
theorem cmpL (a b : Int) : cmp_Compare_int64.f a b = some (if a < b then -1 else if b < a then 1 else 0) := by
  unfold cmp_Compare_int64.f
  rw [if_neg (by simp), if_neg (by simp)]
  split
  · rfl
  · split
    · rfl
    · rfl
theorem cmp6_eq (a b : E) : cmp6 a b = some (if lt a b then -1 else if lt b a then 1 else 0) := by
  obtain ⟨⟨a0, a1, a2, a3, a4⟩, a5⟩ := a
  obtain ⟨⟨b0, b1, b2, b3, b4⟩, b5⟩ := b
  unfold cmp6 agenda_before.f
  simp only [cmpI, cmpL, Option.bind_some, lt]
  have tri : ∀ x y : Int, x < y ∧ ¬ y < x ∧ ¬ x = y ∧ ¬ y = x ∨ ¬ x < y ∧ ¬ y < x ∧ x = y ∨ ¬ x < y ∧ y < x ∧ ¬ x = y ∧ ¬ y = x := fun x y => by omega
  rcases tri a0 b0 with ⟨h1, h2, h3, h4⟩ | ⟨h1, h2, rfl⟩ | ⟨h1, h2, h3, h4⟩
  · simp [h1]
  · rcases tri a1 b1 with ⟨h1, h2, h3, h4⟩ | ⟨h1, h2, rfl⟩ | ⟨h1, h2, h3, h4⟩
    · simp [h1]
    · rcases tri a2 b2 with ⟨h1, h2, h3, h4⟩ | ⟨h1, h2, rfl⟩ | ⟨h1, h2, h3, h4⟩
      · simp [h1]
      · rcases tri a3 b3 with ⟨h1, h2, h3, h4⟩ | ⟨h1, h2, rfl⟩ | ⟨h1, h2, h3, h4⟩
        · simp [h1]
        · rcases tri a5 b5 with ⟨h1, h2, h3, h4⟩ | ⟨h1, h2, rfl⟩ | ⟨h1, h2, h3, h4⟩
          · simp [h1]
          · simp
          · simp [h1, h2, h3, h4]
        · simp [h1, h2, h3, h4]
      · simp [h1, h2, h3, h4]
    · simp [h1, h2, h3, h4]
  · simp [h1, h2, h3, h4]
/-- The i-th. -/
def g (l : List E) (i : Nat) : E := l.getD i dz
theorem g_eq {l : List E} {i : Nat} (h : i < l.length) : g l i = l[i] := by
  unfold g
  rw [List.getD_eq_getElem?_getD, List.getElem?_eq_getElem h]
  rfl
theorem g_mem {l : List E} {i : Nat} (h : i < l.length) : g l i ∈ l := by
  rw [g_eq h]
  exact List.getElem_mem h
def swap (l : List E) (i j : Nat) : List E := (l.set i (g l j)).set j (g l i)
theorem swap_len (l : List E) (i j : Nat) : (swap l i j).length = l.length := by simp [swap]
theorem g_set (l : List E) (i j : Nat) (x : E) (h : i < l.length) : g (l.set i x) j = if j = i then x else g l j := by
  unfold g
  rw [List.getD_eq_getElem?_getD, List.getElem?_set, List.getD_eq_getElem?_getD]
  by_cases e : j = i
  · subst e
    rw [if_pos rfl, if_pos h, if_pos rfl]
    rfl
  · rw [if_neg (fun q => e q.symm), if_neg e]
theorem g_swap (l : List E) (i j k : Nat) (hi : i < l.length) (hj : j < l.length) : g (swap l i j) k = if k = j then g l i else if k = i then g l j else g l k := by
  unfold swap
  rw [g_set _ _ _ _ (by simpa using hj), g_set _ _ _ _ hi]
theorem set_perm : ∀ (l : List E) (i : Nat) (x : E) (h : i < l.length), (x :: l).Perm (l[i] :: l.set i x)
  | y :: l, 0, x, h => List.Perm.swap y x l
  | y :: l, i + 1, x, h => by
    have h' : i < l.length := by simpa using h
    have := set_perm l i x h'
    show (x :: y :: l).Perm (l[i] :: y :: l.set i x)
    exact ((List.Perm.swap y x l).trans (this.cons y)).trans (List.Perm.swap _ _ _)
theorem swap_perm (l : List E) (i j : Nat) (hi : i < l.length) (hj : j < l.length) : (swap l i j).Perm l := by
  have h1 := set_perm l i (g l j) hi
  have hj' : j < (l.set i (g l j)).length := by simpa using hj
  have h2 := set_perm (l.set i (g l j)) j (g l i) hj'
  have e : (l.set i (g l j))[j] = g l j := by
    rw [List.getElem_set]
    split
    · rfl
    · exact (g_eq hj).symm
  rw [e, g_eq hi] at h2
  have h3 := h1.trans h2
  have h4 := (List.Perm.cons_inv h3).symm
  unfold swap
  rw [g_eq hi]
  exact h4
theorem swap_self (l : List E) (i : Nat) (hi : i < l.length) : swap l i i = l := by
  unfold swap
  rw [g_eq hi]
  simp
/-- Sifted up. -/
def upL : Nat → List E → Nat → List E
  | 0, l, _ => l
  | f + 1, l, j => if j = 0 then l else if lt (g l j) (g l ((j - 1) / 2)) then upL f (swap l ((j - 1) / 2) j) ((j - 1) / 2) else l
def kid (l : List E) (n i : Nat) : Nat := if 2 * i + 2 < n ∧ lt (g l (2 * i + 2)) (g l (2 * i + 1)) then 2 * i + 2 else 2 * i + 1
theorem kid_lt {l : List E} {n i : Nat} (h : ¬ 2 * i + 1 ≥ n) : kid l n i < n ∧ (kid l n i - 1) / 2 = i ∧ i < kid l n i ∧ ∀ k, 0 < k → k < n → (k - 1) / 2 = i → ¬ lt (g l k) (g l (kid l n i)) := by
  unfold kid
  split
  · rename_i h
    refine ⟨h.1, by omega, by omega, fun k hk hl he => ?_⟩
    have : k = 2 * i + 1 ∨ k = 2 * i + 2 := by omega
    rcases this with rfl | rfl
    · exact lt_asymm h.2
    · exact lt_irrefl _
  · rename_i h
    refine ⟨by omega, by omega, by omega, fun k hk hl he => ?_⟩
    have : k = 2 * i + 1 ∨ k = 2 * i + 2 := by omega
    rcases this with rfl | rfl
    · exact lt_irrefl _
    · exact fun q => h ⟨hl, q⟩
def downL : Nat → List E → Nat → Nat → List E
  | 0, l, _, _ => l
  | f + 1, l, n, i => if 2 * i + 1 ≥ n then l else if lt (g l (kid l n i)) (g l i) then downL f (swap l i (kid l n i)) n (kid l n i) else l
theorem upL_perm : ∀ (f : Nat) (l : List E) (j : Nat), j < l.length → (upL f l j).Perm l
  | 0, l, j, h => List.Perm.refl l
  | f + 1, l, j, h => by
    unfold upL
    split
    · exact List.Perm.refl l
    · split
      · exact (upL_perm f _ _ (by rw [swap_len]; omega)).trans (swap_perm _ _ _ (by omega) h)
      · exact List.Perm.refl l
theorem downL_perm : ∀ (f : Nat) (l : List E) (n i : Nat), n ≤ l.length → i < l.length → (downL f l n i).Perm l
  | 0, l, n, i, h, hi => List.Perm.refl l
  | f + 1, l, n, i, h, hi => by
    unfold downL
    split
    · exact List.Perm.refl l
    · rename_i h0
      split
      · have := (kid_lt (l := l) h0).1
        exact (downL_perm f _ _ _ (by rw [swap_len]; omega) (by rw [swap_len]; omega)).trans (swap_perm _ _ _ hi (by omega))
      · exact List.Perm.refl l
theorem downL_rest : ∀ (f : Nat) (l : List E) (n i k : Nat), n ≤ l.length → i < l.length → n ≤ k → i < k → g (downL f l n i) k = g l k
  | 0, l, n, i, k, h, hi, hk, hik => rfl
  | f + 1, l, n, i, k, h, hi, hk, hik => by
    unfold downL
    split
    · rfl
    · rename_i h0
      split
      · have hj := (kid_lt (l := l) h0).1
        rw [downL_rest f _ _ _ k (by rw [swap_len]; omega) (by rw [swap_len]; omega) hk (by omega), g_swap _ _ _ _ hi (by omega), if_neg (by omega), if_neg (by omega)]
      · rfl
/-- A heap, from a place on. -/
def HeapF (l : List E) (n m : Nat) : Prop := ∀ k, 0 < k → k < n → m ≤ (k - 1) / 2 → ¬ lt (g l k) (g l ((k - 1) / 2))
abbrev Heap (l : List E) : Prop := HeapF l l.length 0
theorem upL_heap : ∀ (f : Nat) (l : List E) (j : Nat), j < f → j < l.length → (∀ k, 0 < k → k < l.length → k ≠ j → ¬ lt (g l k) (g l ((k - 1) / 2))) → (∀ k, 0 < k → k < l.length → (k - 1) / 2 = j → 0 < j → ¬ lt (g l k) (g l ((j - 1) / 2))) → Heap (upL f l j)
  | 0, l, j, hf, hj, h1, h2 => by omega
  | f + 1, l, j, hf, hj, h1, h2 => by
    unfold upL
    split
    · rename_i e
      intro k hk hl _
      exact h1 k hk hl (by omega)
    · rename_i e
      split
      · rename_i hlt
        have hp : (j - 1) / 2 < l.length := by omega
        refine upL_heap f _ _ (by omega) (by rw [swap_len]; exact hp) (fun k hk hl hn => ?_) (fun k hk hl he hpos => ?_)
        · rw [swap_len] at hl
          rw [g_swap _ _ _ _ hp hj, g_swap _ _ _ _ hp hj]
          by_cases ek : k = j
          · subst ek
            rw [if_pos rfl, if_neg (by omega), if_pos rfl]
            exact lt_asymm hlt
          · rw [if_neg ek, if_neg (by omega)]
            by_cases e1 : (k - 1) / 2 = j
            · rw [if_pos e1]
              exact h2 k hk hl e1 (by omega)
            · rw [if_neg e1]
              by_cases e2 : (k - 1) / 2 = (j - 1) / 2
              · rw [if_pos e2]
                have := h1 k hk hl ek
                rw [e2] at this
                exact lt_nlt hlt this
              · rw [if_neg e2]
                exact h1 k hk hl ek
        · rw [swap_len] at hl
          rw [g_swap _ _ _ _ hp hj, g_swap _ _ _ _ hp hj, if_neg (show ¬ ((j - 1) / 2 - 1) / 2 = j by omega), if_neg (show ¬ ((j - 1) / 2 - 1) / 2 = (j - 1) / 2 by omega)]
          have ha := h1 ((j - 1) / 2) (by omega) hp (by omega)
          by_cases ek : k = j
          · rw [if_pos ek]
            exact ha
          · rw [if_neg ek, if_neg (by omega)]
            have := h1 k hk hl ek
            rw [he] at this
            exact nlt_trans ha this
      · rename_i hlt
        intro k hk hl _
        by_cases ek : k = j
        · subst ek
          exact hlt
        · exact h1 k hk hl ek
theorem downL_heap : ∀ (f : Nat) (l : List E) (n i m : Nat), n ≤ i + f → n ≤ l.length → i < l.length → m ≤ i → (∀ k, 0 < k → k < n → m ≤ (k - 1) / 2 → (k - 1) / 2 ≠ i → ¬ lt (g l k) (g l ((k - 1) / 2))) → (∀ k, 0 < k → k < n → (k - 1) / 2 = i → 0 < i → m ≤ (i - 1) / 2 → ¬ lt (g l k) (g l ((i - 1) / 2))) → HeapF (downL f l n i) n m
  | 0, l, n, i, m, hf, hn, hi, hm, h1, h2 => fun k hk hl hmk => by
    show ¬ lt (g l k) _
    exact h1 k hk hl hmk (by omega)
  | f + 1, l, n, i, m, hf, hn, hi, hm, h1, h2 => by
    unfold downL
    split
    · intro k hk hl hmk
      exact h1 k hk hl hmk (by omega)
    · rename_i hlt
      have hjn := kid_lt (l := l) hlt
      generalize kid l n i = j at hjn ⊢
      obtain ⟨hj1, hj2, hj3, hj4⟩ := hjn
      split
      · rename_i hs
        have hjl : j < l.length := by omega
        refine downL_heap f _ n j m (by omega) (by rw [swap_len]; exact hn) (by rw [swap_len]; exact hjl) (by omega) (fun k hk hl hmk hne => ?_) (fun k hk hl he hpos hmj => ?_)
        · rw [g_swap _ _ _ _ hi hjl, g_swap _ _ _ _ hi hjl, if_neg hne]
          by_cases ek : k = j
          · subst ek
            rw [if_pos rfl, if_pos hj2]
            exact lt_asymm hs
          · rw [if_neg ek]
            by_cases e1 : k = i
            · subst e1
              rw [if_pos rfl, if_neg (by omega)]
              exact h2 j (by omega) hj1 hj2 hk hmk
            · rw [if_neg e1]
              by_cases e2 : (k - 1) / 2 = i
              · rw [if_pos e2]
                exact hj4 k hk hl e2
              · rw [if_neg e2]
                exact h1 k hk hl hmk e2
        · rw [g_swap _ _ _ _ hi hjl, g_swap _ _ _ _ hi hjl, if_neg (by omega), if_neg (by omega), hj2, if_neg (by omega), if_pos rfl]
          have := h1 k hk hl (by omega) (by omega)
          rw [he] at this
          exact this
      · rename_i hs
        intro k hk hl hmk
        by_cases e : (k - 1) / 2 = i
        · rw [e]
          exact nlt_trans hs (hj4 k hk hl e)
        · exact h1 k hk hl hmk e
/-- The first one is none that another is ahead of. -/
theorem heap_min {l : List E} {n : Nat} (h : HeapF l n 0) : ∀ k, k < n → ¬ lt (g l k) (g l 0) := by
  intro k
  induction k using Nat.strongRecOn with
  | ind k ih =>
    intro hk
    by_cases e : k = 0
    · subst e
      exact lt_irrefl _
    · exact nlt_trans (ih ((k - 1) / 2) (by omega) (by omega)) (h k (by omega) hk (Nat.zero_le _))
theorem heap_first {l : List E} (h : Heap l) : ∀ e ∈ l, ¬ lt e (g l 0) := by
  intro e he
  obtain ⟨k, hk, rfl⟩ := List.mem_iff_getElem.1 he
  rw [← g_eq hk]
  exact heap_min h k hk
/-- Put. -/
def putL (l : List E) (x : E) : List E := upL (l.length + 1) (l ++ [x]) l.length
theorem putL_perm (l : List E) (x : E) : (putL l x).Perm (x :: l) := (upL_perm _ _ _ (by simp)).trans (List.perm_append_singleton ..)
theorem putL_len (l : List E) (x : E) : (putL l x).length = l.length + 1 := by rw [(putL_perm l x).length_eq]; rfl
theorem g_app {l : List E} {x : E} {k : Nat} (h : k < l.length) : g (l ++ [x]) k = g l k := by
  unfold g
  rw [List.getD_eq_getElem?_getD, List.getD_eq_getElem?_getD, List.getElem?_append_left h]
theorem putL_heap {l : List E} (h : Heap l) (x : E) : Heap (putL l x) := by
  refine upL_heap _ _ _ (by omega) (by simp) (fun k hk hl hn => ?_) (fun k hk hl he hpos => ?_)
  · simp at hl
    rw [g_app (by omega), g_app (by omega)]
    exact h k hk (by omega) (Nat.zero_le _)
  · simp at hl
    omega
/-- Taken. -/
def takeL (l : List E) : List E := (downL l.length (swap l 0 (l.length - 1)) (l.length - 1) 0).take (l.length - 1)
theorem take_last {l : List E} {n : Nat} (h : l.length = n + 1) : l.Perm (g l n :: l.take n) := by
  have : l = l.take n ++ [g l n] := by
    rw [g_eq (by omega)]
    conv => lhs; rw [← List.take_append_drop n l]
    congr 1
    rw [List.drop_eq_getElem_cons (by omega), List.drop_of_length_le (by omega)]
  conv => lhs; rw [this]
  exact List.perm_append_singleton ..
theorem g_take {l : List E} {n k : Nat} (h : k < n) (hl : n ≤ l.length) : g (l.take n) k = g l k := by
  unfold g
  rw [List.getD_eq_getElem?_getD, List.getD_eq_getElem?_getD, List.getElem?_take_of_lt h]
theorem takeL_perm {l : List E} (h : 0 < l.length) : l.Perm (g l 0 :: takeL l) := by
  have h1 : (downL l.length (swap l 0 (l.length - 1)) (l.length - 1) 0).Perm l :=
    (downL_perm _ _ _ _ (by rw [swap_len]; omega) (by rw [swap_len]; omega)).trans (swap_perm _ _ _ h (by omega))
  have h2 := take_last (l := downL l.length (swap l 0 (l.length - 1)) (l.length - 1) 0) (n := l.length - 1) (by rw [h1.length_eq]; omega)
  have e : g (downL l.length (swap l 0 (l.length - 1)) (l.length - 1) 0) (l.length - 1) = g l 0 := by
    by_cases e0 : l.length = 1
    · rw [e0]
      show g (downL 1 (swap l 0 0) 0 0) 0 = g l 0
      unfold downL
      rw [if_pos (by omega), swap_self _ _ h]
    · rw [downL_rest _ _ _ _ _ (by rw [swap_len]; omega) (by rw [swap_len]; omega) (Nat.le_refl _) (by omega), g_swap _ _ _ _ h (by omega), if_pos rfl]
  rw [e] at h2
  exact h1.symm.trans h2
theorem takeL_len {l : List E} (h : 0 < l.length) : (takeL l).length = l.length - 1 := by
  have := (takeL_perm h).length_eq
  simp at this
  omega
theorem takeL_heap {l : List E} (h : Heap l) (hl : 0 < l.length) : Heap (takeL l) := by
  have h1 : HeapF (downL l.length (swap l 0 (l.length - 1)) (l.length - 1) 0) (l.length - 1) 0 := by
    refine downL_heap _ _ _ _ _ (by omega) (by rw [swap_len]; omega) (by rw [swap_len]; omega) (Nat.le_refl _) (fun k hk hkl _ hne => ?_) (fun k hk hkl he hpos => by omega)
    rw [g_swap _ _ _ _ hl (by omega), g_swap _ _ _ _ hl (by omega), if_neg (by omega), if_neg (by omega), if_neg (by omega), if_neg (by omega)]
    exact h k hk (by omega) (Nat.zero_le _)
  intro k hk hkl _
  rw [takeL_len hl] at hkl
  have hlen : l.length - 1 ≤ (downL l.length (swap l 0 (l.length - 1)) (l.length - 1) 0).length := by
    rw [(downL_perm _ _ _ _ (by rw [swap_len]; omega) (by rw [swap_len]; omega)).length_eq, swap_len]
    omega
  unfold takeL
  rw [g_take hkl hlen, g_take (by omega) hlen]
  exact h1 k hk hkl (Nat.zero_le _)
theorem up_def (j s : Int) (l : List E) : container_heap_up.step0 (j, s, l) =
    (if wrap64 ((wrap64 (j - 1)).tdiv 2) = j then some (Sum.inr (Sum.inl (j, s, l))) else if 0 ≤ j ∧ j < Int.ofNat l.length then (if 0 ≤ wrap64 ((wrap64 (j - 1)).tdiv 2) ∧ wrap64 ((wrap64 (j - 1)).tdiv 2) < Int.ofNat l.length then
      ((cmp6 (g l j.toNat) (g l (wrap64 ((wrap64 (j - 1)).tdiv 2)).toNat)).bind fun t0 => if (!decide (t0 < 0)) = true then some (Sum.inr (Sum.inl (j, s, l))) else if 0 ≤ j ∧ j < Int.ofNat l.length then (if 0 ≤ wrap64 ((wrap64 (j - 1)).tdiv 2) ∧ wrap64 ((wrap64 (j - 1)).tdiv 2) < Int.ofNat l.length then
        (if 0 ≤ wrap64 ((wrap64 (j - 1)).tdiv 2) ∧ wrap64 ((wrap64 (j - 1)).tdiv 2) < Int.ofNat l.length then (if 0 ≤ j ∧ j < Int.ofNat l.length then some (Sum.inl (wrap64 ((wrap64 (j - 1)).tdiv 2), s, swap l (wrap64 ((wrap64 (j - 1)).tdiv 2)).toNat j.toNat)) else none) else none) else none) else none) else none) else none) := rfl
theorem up_step (j : Nat) (s : Int) (l : List E) (hj : j < l.length) (hl : l.length ≤ 1000000) : container_heap_up.step0 ((j : Int), s, l) =
    if j = 0 then some (.inr (.inl ((j : Int), s, l))) else if lt (g l j) (g l ((j - 1) / 2)) then some (.inl ((((j - 1) / 2 : Nat) : Int), s, swap l ((j - 1) / 2) j)) else some (.inr (.inl ((j : Int), s, l))) := by
  rw [up_def]
  by_cases h0 : j = 0
  · subst h0
    rw [if_pos (by rw [show ((0 : Nat) : Int) - 1 = -1 from rfl, wr (-1) (by omega), show (-1 : Int).tdiv 2 = 0 from rfl, wr 0 (by omega)]; rfl), if_pos rfl]
  · have e : wrap64 ((wrap64 ((j : Int) - 1)).tdiv 2) = (((j - 1) / 2 : Nat) : Int) := by
      rw [wr ((j : Int) - 1) (by omega), Int.tdiv_eq_ediv_of_nonneg (by omega), wr _ (by omega)]
      omega
    have i1 : 0 ≤ (j : Int) ∧ (j : Int) < Int.ofNat l.length := ⟨by omega, by show (j : Int) < (l.length : Int); omega⟩
    have i2 : 0 ≤ (((j - 1) / 2 : Nat) : Int) ∧ (((j - 1) / 2 : Nat) : Int) < Int.ofNat l.length := ⟨by omega, by show _ < (l.length : Int); omega⟩
    rw [e, if_neg (by omega), if_neg h0, if_pos i1, if_pos i2, Int.toNat_natCast, Int.toNat_natCast, cmp6_eq, Option.bind_some]
    by_cases hlt : lt (g l j) (g l ((j - 1) / 2))
    · rw [if_pos hlt, if_neg (by decide), if_pos i1, if_pos i2, if_pos i2, if_pos i1, if_pos hlt]
    · rw [if_neg hlt, if_neg hlt, if_pos (by split <;> decide)]
theorem up_loop : ∀ (f j : Nat) (s : Int) (l : List E), j < f → j < l.length → l.length ≤ 1000000 → ∃ j' : Int, rounds container_heap_up.step0 ((j : Int), s, l) = some (.inl (j', s, upL f l j))
  | 0, j, s, l, hf, hj, hl => by omega
  | f + 1, j, s, l, hf, hj, hl => by
    have st := up_step j s l hj hl
    by_cases h0 : j = 0
    · rw [if_pos h0] at st
      exact ⟨_, by rw [rounds_end st]; unfold upL; rw [if_pos h0]⟩
    · rw [if_neg h0] at st
      by_cases hlt : lt (g l j) (g l ((j - 1) / 2))
      · rw [if_pos hlt] at st
        obtain ⟨j', h⟩ := up_loop f ((j - 1) / 2) s (swap l ((j - 1) / 2) j) (by omega) (by rw [swap_len]; omega) (by rw [swap_len]; exact hl)
        exact ⟨j', by rw [rounds_next st, h]; conv => rhs; unfold upL; rw [if_neg h0, if_pos hlt]⟩
      · rw [if_neg hlt] at st
        exact ⟨_, by rw [rounds_end st]; unfold upL; rw [if_neg h0, if_neg hlt]⟩
/-- May an event be put? -/
def fine (t k n m : Int) : Prop := 0 ≤ t ∧ t ≤ 4294967296 ∧ 0 ≤ k ∧ 0 ≤ n ∧ 0 ≤ m
instance (t k n m : Int) : Decidable (fine t k n m) := by unfold fine; infer_instance
theorem put_eq (t k n m v s : Int) (l : List E) (hs : 0 ≤ s) (hs2 : s ≤ 1000000) (hl : l.length < 65536) : agenda_Agenda_Put.f (t, k, n, m, v, s, l) = if fine t k n m then some (0, s + 1, putL l ((t, k, n, m, v), s + 1)) else some (100, s, l) := by
  unfold agenda_Agenda_Put.f
  dsimp only
  by_cases hf : fine t k n m
  · rw [if_pos hf]
    unfold fine at hf
    rw [if_neg (by omega), if_neg (by omega), if_neg (by split <;> split <;> omega), if_neg (by show ¬ (l.length : Int) = 65536; omega), if_pos (by show (l.length : Int) + 1 ≤ _; omega), guardEq_self, wr (s + 1) (by omega)]
    rw [wr (Int.ofNat l.length + 1 - 1) (by show _ ≤ (l.length : Int) + 1 - 1 ∧ (l.length : Int) + 1 - 1 ≤ _; omega), show Int.ofNat l.length + 1 - 1 = ((l.length : Nat) : Int) by show (l.length : Int) + 1 - 1 = _; omega]
    obtain ⟨j', h⟩ := up_loop (l.length + 1) l.length (s + 1) (l ++ [((t, k, n, m, v), s + 1)]) (by omega) (by simp) (by simp; omega)
    rw [h]
    rfl
  · rw [if_neg hf]
    unfold fine at hf
    by_cases h1 : t < 0
    · rw [if_pos h1]
    · rw [if_neg h1]
      by_cases h2 : t > 4294967296
      · rw [if_pos h2]
      · rw [if_neg h2, if_pos (by split <;> split <;> omega)]
def J1 (i : Int) : Int := wrap64 (wrap64 (2 * i) + 1)
def J2 (i : Int) : Int := wrap64 (wrap64 (wrap64 (2 * i) + 1) + 1)
def dnRest (i0 n i s : Int) (l : List E) (j : Int) : Option (container_heap_down.X0 ⊕ (container_heap_down.X0 ⊕ container_heap_down.Y0)) :=
  if 0 ≤ j ∧ j < Int.ofNat l.length then (if 0 ≤ i ∧ i < Int.ofNat l.length then ((cmp6 (g l j.toNat) (g l i.toNat)).bind fun t1 => if (!decide (t1 < 0)) = true then some (Sum.inr (Sum.inl (i0, n, i, s, l))) else
    if 0 ≤ j ∧ j < Int.ofNat l.length then (if 0 ≤ i ∧ i < Int.ofNat l.length then (if 0 ≤ i ∧ i < Int.ofNat l.length then (if 0 ≤ j ∧ j < Int.ofNat l.length then some (Sum.inl (i0, n, j, s, swap l i.toNat j.toNat)) else none) else none) else none) else none) else none) else none
theorem down_def (i0 n i s : Int) (l : List E) : container_heap_down.step0 (i0, n, i, s, l) =
    (if J1 i ≥ n then some (Sum.inr (Sum.inl (i0, n, i, s, l))) else if J1 i < 0 then some (Sum.inr (Sum.inl (i0, n, i, s, l))) else
     if J2 i < n then (if 0 ≤ J2 i ∧ J2 i < Int.ofNat l.length then (if 0 ≤ J1 i ∧ J1 i < Int.ofNat l.length then ((cmp6 (g l (J2 i).toNat) (g l (J1 i).toNat)).bind fun t0 => if t0 < 0 then dnRest i0 n i s l (J2 i) else dnRest i0 n i s l (J1 i)) else none) else none) else dnRest i0 n i s l (J1 i)) := rfl
theorem dn_rest (i0 n s : Int) (l : List E) (i j : Nat) (hi : i < l.length) (hj : j < l.length) : dnRest i0 n (i : Int) s l (j : Int) = if lt (g l j) (g l i) then some (Sum.inl (i0, n, (j : Int), s, swap l i j)) else some (Sum.inr (Sum.inl (i0, n, (i : Int), s, l))) := by
  have i1 : 0 ≤ (i : Int) ∧ (i : Int) < Int.ofNat l.length := ⟨by omega, by show (i : Int) < (l.length : Int); omega⟩
  have i2 : 0 ≤ (j : Int) ∧ (j : Int) < Int.ofNat l.length := ⟨by omega, by show (j : Int) < (l.length : Int); omega⟩
  unfold dnRest
  rw [if_pos i2, if_pos i1, Int.toNat_natCast, Int.toNat_natCast, cmp6_eq, Option.bind_some]
  by_cases hlt : lt (g l j) (g l i)
  · rw [if_pos hlt, if_neg (by decide), if_pos i2, if_pos i1, if_pos i1, if_pos i2, if_pos hlt]
  · rw [if_neg hlt, if_neg hlt, if_pos (by split <;> decide)]
theorem down_step (i0 s : Int) (n i : Nat) (l : List E) (hn : n ≤ l.length) (hi : i < l.length) (hl : l.length ≤ 1000000) : container_heap_down.step0 (i0, (n : Int), (i : Int), s, l) =
    if 2 * i + 1 ≥ n then some (.inr (.inl (i0, (n : Int), (i : Int), s, l))) else if lt (g l (kid l n i)) (g l i) then some (.inl (i0, (n : Int), ((kid l n i : Nat) : Int), s, swap l i (kid l n i))) else some (.inr (.inl (i0, (n : Int), (i : Int), s, l))) := by
  rw [down_def]
  have e1 : J1 (i : Int) = ((2 * i + 1 : Nat) : Int) := by
    unfold J1
    rw [wr (2 * (i : Int)) (by omega), wr _ (by omega)]
    omega
  have e2 : J2 (i : Int) = ((2 * i + 2 : Nat) : Int) := by
    unfold J2
    rw [wr (2 * (i : Int)) (by omega), wr (2 * (i : Int) + 1) (by omega), wr _ (by omega)]
    omega
  rw [e1, e2]
  by_cases h : 2 * i + 1 ≥ n
  · rw [if_pos (by omega), if_pos h]
  · rw [if_neg (by omega), if_neg h, if_neg (by omega)]
    by_cases h2 : 2 * i + 2 < n
    · rw [if_pos (by omega), if_pos ⟨by omega, by show _ < (l.length : Int); omega⟩, if_pos ⟨by omega, by show _ < (l.length : Int); omega⟩, Int.toNat_natCast, Int.toNat_natCast, cmp6_eq, Option.bind_some]
      by_cases hlt : lt (g l (2 * i + 2)) (g l (2 * i + 1))
      · have ek : kid l n i = 2 * i + 2 := if_pos ⟨h2, hlt⟩
        rw [if_pos hlt, if_pos (by decide), dn_rest _ _ _ _ _ _ hi (by omega), ek]
      · have ek : kid l n i = 2 * i + 1 := if_neg fun q => hlt q.2
        rw [if_neg hlt, if_neg (by split <;> decide), dn_rest _ _ _ _ _ _ hi (by omega), ek]
    · have ek : kid l n i = 2 * i + 1 := if_neg fun q => h2 q.1
      rw [if_neg (by omega), dn_rest _ _ _ _ _ _ hi (by omega), ek]
theorem down_loop : ∀ (f : Nat) (i0 s : Int) (n i : Nat) (l : List E), n ≤ i + f → n ≤ l.length → i < l.length → l.length ≤ 1000000 → 0 < f → ∃ i' : Int, rounds container_heap_down.step0 (i0, (n : Int), (i : Int), s, l) = some (.inl (i0, (n : Int), i', s, downL f l n i))
  | 0, i0, s, n, i, l, hf, hn, hi, hl, hp => by omega
  | f + 1, i0, s, n, i, l, hf, hn, hi, hl, hp => by
    have st := down_step i0 s n i l hn hi hl
    by_cases h : 2 * i + 1 ≥ n
    · rw [if_pos h] at st
      exact ⟨_, by rw [rounds_end st]; unfold downL; rw [if_pos h]⟩
    · rw [if_neg h] at st
      by_cases hlt : lt (g l (kid l n i)) (g l i)
      · rw [if_pos hlt] at st
        have hk := kid_lt (l := l) h
        obtain ⟨i', e⟩ := down_loop f i0 s n (kid l n i) (swap l i (kid l n i)) (by omega) (by rw [swap_len]; exact hn) (by rw [swap_len]; omega) (by rw [swap_len]; exact hl) (by omega)
        exact ⟨i', by rw [rounds_next st, e]; conv => rhs; unfold downL; rw [if_neg h, if_pos hlt]⟩
      · rw [if_neg hlt] at st
        exact ⟨_, by rw [rounds_end st]; unfold downL; rw [if_neg h, if_neg hlt]⟩
theorem down_eq (i0 s : Int) (n i f : Nat) (l : List E) (hi0 : i0 = (i : Int)) (hf : n ≤ i + f) (hn : n ≤ l.length) (hi : i < l.length) (hl : l.length ≤ 1000000) (hp : 0 < f) : ∃ b, container_heap_down.f (i0, (n : Int), s, l) = some (b, s, downL f l n i) := by
  subst hi0
  unfold container_heap_down.f
  dsimp only
  obtain ⟨i', e⟩ := down_loop f (i : Int) s n i l hf hn hi hl hp
  rw [guardEq_self, e]
  exact ⟨_, rfl⟩
theorem take_def (s : Int) (l : List E) : agenda_Agenda_Take.f (s, l) =
    (if Int.ofNat l.length = 0 then some (0, 0, 0, 0, 0, false, s, l) else if (0 : Int) ≤ (0 : Int) ∧ (0 : Int) < Int.ofNat l.length then (if 0 ≤ wrap64 (Int.ofNat l.length - 1) ∧ wrap64 (Int.ofNat l.length - 1) < Int.ofNat l.length then (if (0 : Int) ≤ (0 : Int) ∧ (0 : Int) < Int.ofNat l.length then (if (0 : Int) ≤ (0 : Int) ∧ (0 : Int) < Int.ofNat l.length then (if 0 ≤ wrap64 (Int.ofNat l.length - 1) ∧ wrap64 (Int.ofNat l.length - 1) < Int.ofNat l.length then
      ((container_heap_down.f (0, wrap64 (Int.ofNat l.length - 1), s, swap l 0 (wrap64 (Int.ofNat l.length - 1)).toNat)).bind fun t0 => if 0 ≤ wrap64 (Int.ofNat t0.snd.snd.length - 1) ∧ wrap64 (Int.ofNat t0.snd.snd.length - 1) < Int.ofNat t0.snd.snd.length then (if 0 ≤ wrap64 (Int.ofNat t0.snd.snd.length - 1) then (if wrap64 (Int.ofNat t0.snd.snd.length - 1) ≤ Int.ofNat t0.snd.snd.length then
        some ((g l 0).1.1, (g l 0).1.2.1, (g l 0).1.2.2.1, (g l 0).1.2.2.2.1, (g l 0).1.2.2.2.2, true, t0.snd.fst, List.take (wrap64 (Int.ofNat t0.snd.snd.length - 1)).toNat t0.snd.snd) else none) else none) else none) else none) else none) else none) else none) else none) := rfl
theorem take_none (s : Int) : agenda_Agenda_Take.f (s, []) = some (0, 0, 0, 0, 0, false, s, []) := rfl
theorem take_eq (s : Int) (l : List E) (h : 0 < l.length) (hl : l.length ≤ 1000000) : agenda_Agenda_Take.f (s, l) = some ((g l 0).1.1, (g l 0).1.2.1, (g l 0).1.2.2.1, (g l 0).1.2.2.2.1, (g l 0).1.2.2.2.2, true, s, takeL l) := by
  rw [take_def]
  have e : wrap64 (Int.ofNat l.length - 1) = ((l.length - 1 : Nat) : Int) := by
    show wrap64 ((l.length : Int) - 1) = _
    rw [wr _ (by omega)]
    omega
  have i1 : (0 : Int) ≤ 0 ∧ (0 : Int) < Int.ofNat l.length := ⟨by omega, by show _ < (l.length : Int); omega⟩
  have i2 : 0 ≤ ((l.length - 1 : Nat) : Int) ∧ ((l.length - 1 : Nat) : Int) < Int.ofNat l.length := ⟨by omega, by show _ < (l.length : Int); omega⟩
  rw [if_neg (by show ¬ (l.length : Int) = 0; omega), e, if_pos i1, if_pos i2, if_pos i1, if_pos i1, if_pos i2, Int.toNat_natCast]
  obtain ⟨b, hd⟩ := down_eq 0 s (l.length - 1) 0 l.length (swap l 0 (l.length - 1)) rfl (by omega) (by rw [swap_len]; omega) (by rw [swap_len]; omega) (by rw [swap_len]; exact hl) h
  rw [hd, Option.bind_some]
  have hlen : (downL l.length (swap l 0 (l.length - 1)) (l.length - 1) 0).length = l.length := by
    rw [(downL_perm _ _ _ _ (by rw [swap_len]; omega) (by rw [swap_len]; omega)).length_eq, swap_len]
  dsimp only
  rw [hlen, e, if_pos i2, if_pos i2.1, if_pos (Int.le_of_lt i2.2), Int.toNat_natCast]
  rfl
abbrev V : Type := Int × Int × Int × Int × Int
/-- Behind another one, by the document. -/
def aft (a b : V) : Prop := b.1 < a.1 ∨ (b.1 = a.1 ∧ (b.2.1 < a.2.1 ∨ (b.2.1 = a.2.1 ∧ (b.2.2.1 < a.2.2.1 ∨ (b.2.2.1 = a.2.2.1 ∧ b.2.2.2.1 < a.2.2.2.1)))))
instance (a b : V) : Decidable (aft a b) := by unfold aft; infer_instance
def aft6 (a b : V) : Option Bool := vespersref10_After.f a.1 a.2.1 a.2.2.1 a.2.2.2.1 a.2.2.2.2 b.1 b.2.1 b.2.2.1 b.2.2.2.1 b.2.2.2.2
theorem aft6_eq (a b : V) : aft6 a b = some (decide (aft a b)) := by
  obtain ⟨a0, a1, a2, a3, a4⟩ := a
  obtain ⟨b0, b1, b2, b3, b4⟩ := b
  unfold aft6 vespersref10_After.f aft
  dsimp only
  split
  · congr 1
    exact decide_eq_decide.2 (by omega)
  · split
    · congr 1
      exact decide_eq_decide.2 (by omega)
    · split
      · congr 1
        exact decide_eq_decide.2 (by omega)
      · congr 1
        exact decide_eq_decide.2 (by omega)
def val (a : V) : Int := a.2.2.2.2
/-- What is taken first does not stand behind what is left; of those that are alike it was put first. -/
theorem first_ok {x e : E} (h : ¬ lt e x) : ¬ aft x.1 e.1 ∧ (¬ aft e.1 x.1 → x.2 ≤ e.2) := by
  unfold lt at h
  unfold aft
  omega
theorem fine_V (y : V) : fine y.1 y.2.1 y.2.2.1 y.2.2.2.1 ↔ fine y.1 y.2.1 y.2.2.1 y.2.2.2.1 := Iff.rfl
noncomputable def put6 (y : V) (s : Int) (h : List E) : Option (Int × Int × List E) := agenda_Agenda_Put.f (y.1, y.2.1, y.2.2.1, y.2.2.2.1, y.2.2.2.2, s, h)
theorem put6_eq (y : V) (s : Int) (h : List E) (hs : 0 ≤ s) (hs2 : s ≤ 1000000) (hl : h.length < 65536) : put6 y s h = if fine y.1 y.2.1 y.2.2.1 y.2.2.2.1 then some (0, s + 1, putL h (y, s + 1)) else some (100, s, h) := put_eq _ _ _ _ _ _ _ hs hs2 hl
def eqV (a b : V) : Bool := decide (a.1 = b.1) && (decide (a.2.1 = b.2.1) && (decide (a.2.2.1 = b.2.2.1) && (decide (a.2.2.2.1 = b.2.2.2.1) && (decide (a.2.2.2.2 = b.2.2.2.2) && true))))
theorem eqV_eq (a b : V) : eqV a b = decide (a = b) := by
  obtain ⟨a0, a1, a2, a3, a4⟩ := a
  obtain ⟨b0, b1, b2, b3, b4⟩ := b
  unfold eqV
  simp only [Prod.mk.injEq, Bool.and_true, Bool.decide_and]
def gv (l : List V) (i : Nat) : V := l.getD i (0, 0, 0, 0, 0)
theorem gv_eq {l : List V} {i : Nat} (h : i < l.length) : gv l i = l[i] := by
  unfold gv
  rw [List.getD_eq_getElem?_getD, List.getElem?_eq_getElem h]
  rfl
theorem ev_def (i : Int) (x y : List V) : vespersref10_Events.step0 (i, x, y) = (if i < Int.ofNat x.length then (if 0 ≤ i ∧ i < Int.ofNat x.length then (if 0 ≤ i ∧ i < Int.ofNat y.length then (if (!eqV (gv x i.toNat) (gv y i.toNat)) = true then some (Sum.inr (Sum.inr ())) else some (Sum.inl (wrap64 (i + 1), x, y))) else none) else none) else some (Sum.inr (Sum.inl (i, x, y)))) := rfl
theorem ev_loop (x y : List V) (hl : x.length = y.length) (hb : x.length ≤ 1000000) : ∀ (k i : Nat), i + k = x.length →
    rounds vespersref10_Events.step0 ((i : Int), x, y) = if x.drop i = y.drop i then some (.inl ((x.length : Int), x, y)) else some (.inr ())
  | 0, i, hi => by
    have e : i = x.length := by omega
    subst e
    rw [if_pos (by rw [List.drop_of_length_le (Nat.le_refl _), List.drop_of_length_le (by omega)])]
    apply rounds_end
    rw [ev_def, if_neg (by show ¬ ((x.length : Int) < (x.length : Int)); omega)]
  | k + 1, i, hi => by
    have st := ev_def (i : Int) x y
    have i1 : 0 ≤ (i : Int) ∧ (i : Int) < Int.ofNat x.length := ⟨by omega, by show (i : Int) < (x.length : Int); omega⟩
    have i2 : 0 ≤ (i : Int) ∧ (i : Int) < Int.ofNat y.length := ⟨by omega, by show (i : Int) < (y.length : Int); omega⟩
    rw [if_pos i1.2, if_pos i1, if_pos i2, Int.toNat_natCast, eqV_eq, gv_eq (by omega), gv_eq (by omega), wr _ (by omega)] at st
    rw [List.drop_eq_getElem_cons (by omega : i < x.length), List.drop_eq_getElem_cons (by omega : i < y.length)]
    by_cases he : x[i] = y[i]
    · rw [if_neg (by simpa using he)] at st
      rw [rounds_next st, show ((i : Int) + 1) = ((i + 1 : Nat) : Int) by omega, ev_loop x y hl hb k (i + 1) (by omega)]
      simp only [List.cons.injEq, he, true_and]
    · rw [if_pos (by simpa using he)] at st
      rw [rounds_end st, if_neg (by simp only [List.cons.injEq, he, false_and]; exact fun q => q)]
theorem Events_ok (x y : List V) (hb : x.length ≤ 1000000) : vespersref10_Events.f (x, y) = some (decide (x = y)) := by
  unfold vespersref10_Events.f
  dsimp only
  by_cases hl : x.length = y.length
  · rw [if_neg (by show ¬ ((x.length : Int) ≠ (y.length : Int)); omega), guardEq_self, show rounds vespersref10_Events.step0 (0, x, y) = _ from ev_loop x y hl hb x.length 0 (by omega), List.drop_zero, List.drop_zero]
    by_cases e : x = y
    · rw [if_pos e, Option.bind_some, decide_eq_true e]
    · rw [if_neg e, Option.bind_some, decide_eq_false e]
  · rw [if_pos (by show (x.length : Int) ≠ (y.length : Int); omega), decide_eq_false (fun e => hl (by rw [e]))]
theorem Clone_ok (h : List E) (hb : h.length ≤ 1000000) : slices_Clone_agenda_entry_agenda_entry.f h = some h := by
  unfold slices_Clone_agenda_entry_agenda_entry.f
  have e : Int.ofNat (List.length h) = (h.length : Int) := rfl
  by_cases h0 : 1 ≤ Int.ofNat (List.length h)
  · rw [if_pos h0, if_pos (by omega), List.nil_append]
  · have : h = [] := List.eq_nil_of_length_eq_zero (by omega)
    subst this
    rw [if_neg h0, if_pos (by decide)]
    exact SX.sameO_self _
theorem Copy_ok (s : Int) (h : List E) (hb : h.length ≤ 1000000) : agenda_Agenda_Copy.f (s, h) = some (s, h, s, h) := by
  unfold agenda_Agenda_Copy.f
  dsimp only
  rw [Clone_ok h hb]
  rfl
/-- All, as they are taken. -/
def drain : Nat → List E → List E
  | 0, _ => []
  | f + 1, h => if h.length = 0 then [] else g h 0 :: drain f (takeL h)
def D (h : List E) : List E := drain h.length h
theorem drain_eq : ∀ (f k : Nat) (h : List E), h.length ≤ f → h.length ≤ k → drain f h = drain k h
  | 0, k, h, hf, hk => by
    have : h = [] := List.eq_nil_of_length_eq_zero (by omega)
    subst this
    cases k <;> rfl
  | f + 1, 0, h, hf, hk => by
    have : h = [] := List.eq_nil_of_length_eq_zero (by omega)
    subst this
    rfl
  | f + 1, k + 1, h, hf, hk => by
    unfold drain
    by_cases h0 : h.length = 0
    · rw [if_pos h0, if_pos h0]
    · have := takeL_len (l := h) (by omega)
      rw [if_neg h0, if_neg h0, drain_eq f k (takeL h) (by omega) (by omega)]
theorem D_nil {h : List E} (h0 : h.length = 0) : D h = [] := by
  unfold D
  rw [h0]
  rfl
theorem D_cons {h : List E} (h0 : 0 < h.length) : D h = g h 0 :: D (takeL h) := by
  have hl := takeL_len h0
  unfold D
  rw [show h.length = (takeL h).length + 1 by omega]
  conv => lhs; unfold drain
  rw [if_neg (by omega)]
theorem D_perm (n : Nat) : ∀ (h : List E), h.length = n → (D h).Perm h := by
  induction n with
  | zero =>
    intro h hl
    rw [D_nil hl, List.eq_nil_of_length_eq_zero hl]
  | succ n ih =>
    intro h hl
    rw [D_cons (by omega)]
    exact ((ih (takeL h) (by rw [takeL_len (by omega)]; omega)).cons _).trans (takeL_perm (by omega)).symm
theorem D_len (h : List E) : (D h).length = h.length := (D_perm _ h rfl).length_eq
/-- Up to a time. -/
theorem until_loop (t s : Int) : ∀ (n : Nat) (out : List V) (h : List E), h.length = n → out.length + n ≤ 1000000 → ∃ h', ((∃ y, rounds agenda_Agenda_turns_1.step0 (t, out, s, h) = some (.inr (.inl y)) ∧ y = (t, out ++ ((D h).takeWhile fun e => decide (e.1.1 ≤ t)).map (·.1), s, h')) ∨ (∃ y, rounds agenda_Agenda_turns_1.step0 (t, out, s, h) = some (.inr (.inr y)) ∧ y = (t, out ++ ((D h).takeWhile fun e => decide (e.1.1 ≤ t)).map (·.1), s, h'))) ∧
      D h' = (D h).dropWhile (fun e => decide (e.1.1 ≤ t)) ∧ (0 < h'.length → t < (g h' 0).1.1) ∧ h'.length ≤ h.length ∧ (Heap h → Heap h')
  | 0, out, h, hl, hb => by
    refine ⟨h, .inl ⟨(t, out, s, h), rounds_end ?_, ?_⟩, ?_, fun q => by omega, Nat.le_refl _, fun q => q⟩
    · unfold agenda_Agenda_turns_1.step0
      dsimp only
      rw [if_pos (by rw [hl]; rfl)]
    · rw [D_nil hl]
      simp
    · rw [D_nil hl]
      rfl
  | n + 1, out, h, hl, hb => by
    have hd : agenda_Agenda_turns_1.step0 (t, out, s, h) = (if Int.ofNat h.length = 0 then some (Sum.inr (Sum.inr (Sum.inl (t, out, s, h)))) else if (0 : Int) ≤ (0 : Int) ∧ (0 : Int) < Int.ofNat h.length then (if (g h 0).1.1 > t then some (Sum.inr (Sum.inr (Sum.inr (t, out, s, h)))) else if Int.ofNat out.length + 1 ≤ 3432621667203 then ((agenda_Agenda_Take.f (s, h)).bind fun t0 => some (Sum.inl (t, out ++ [(g h 0).1], t0.snd.snd.snd.snd.snd.snd.fst, t0.snd.snd.snd.snd.snd.snd.snd))) else none) else none) := rfl
    rw [if_neg (by show ¬ (h.length : Int) = 0; omega), if_pos ⟨by omega, by show (0 : Int) < (h.length : Int); omega⟩] at hd
    have hc := D_cons (h := h) (by omega)
    by_cases ht : (g h 0).1.1 > t
    · rw [if_pos ht] at hd
      refine ⟨h, .inr ⟨_, rounds_end hd, ?_⟩, ?_, fun _ => ht, Nat.le_refl _, fun q => q⟩
      · rw [hc, List.takeWhile_cons_of_neg (by simpa using ht)]
        simp
      · rw [hc, List.dropWhile_cons_of_neg (by simpa using ht)]
    · rw [if_neg ht, if_pos (by show (out.length : Int) + 1 ≤ _; omega), take_eq _ _ (by omega) (by omega), Option.bind_some] at hd
      dsimp only at hd
      have hlt := takeL_len (l := h) (by omega)
      obtain ⟨h', hr, h2, h3, h4, h5⟩ := until_loop t s n (out ++ [(g h 0).1]) (takeL h) (by omega) (by simp; omega)
      have e : out ++ [(g h 0).1] ++ ((D (takeL h)).takeWhile fun e => decide (e.1.1 ≤ t)).map (·.1) = out ++ ((D h).takeWhile fun e => decide (e.1.1 ≤ t)).map (·.1) := by
        rw [hc, List.takeWhile_cons_of_pos (by simpa using ht), List.map_cons, List.append_assoc]
        rfl
      rw [e] at hr
      refine ⟨h', ?_, ?_, h3, by omega, fun q => h5 (takeL_heap q (by omega))⟩
      · rw [rounds_next hd]
        exact hr
      · rw [h2, hc, List.dropWhile_cons_of_pos (by simpa using ht)]
theorem Until_ok (t s : Int) (h : List E) (hb : h.length ≤ 1000000) : ∃ h', agenda_Agenda_Until.f (t, s, h) = some (s, h', ((D h).takeWhile fun e => decide (e.1.1 ≤ t)).map (·.1)) ∧ D h' = (D h).dropWhile (fun e => decide (e.1.1 ≤ t)) ∧ (0 < h'.length → t < (g h' 0).1.1) ∧ h'.length ≤ h.length ∧ (Heap h → Heap h') := by
  obtain ⟨h', hr, h2⟩ := until_loop t s h.length [] h rfl (by simpa using hb)
  refine ⟨h', ?_, h2⟩
  unfold agenda_Agenda_Until.f
  dsimp only
  rw [guardEq_self]
  rcases hr with ⟨y, hr, rfl⟩ | ⟨y, hr, rfl⟩
  · rw [hr]
    rfl
  · rw [hr]
    rfl
/-- What there is, told. -/
def allV (h : List E) : List V := ((D h).takeWhile fun e => decide (e.1.1 ≤ 4294967296)).map (·.1)
theorem All_ok (s : Int) (h : List E) (hb : h.length ≤ 1000000) : agenda_Agenda_All.f (s, h) = some (s, h, allV h) := by
  unfold agenda_Agenda_All.f
  dsimp only
  rw [Copy_ok s h hb, Option.bind_some]
  dsimp only
  obtain ⟨h', hu, _⟩ := Until_ok 4294967296 s h hb
  rw [hu]
  rfl
theorem allV_len (h : List E) : (allV h).length ≤ h.length := by
  unfold allV
  rw [List.length_map, ← D_len h]
  exact (List.takeWhile_prefix _).length_le
/-- Nothing is beyond the last time. -/
def Early (h : List E) : Prop := ∀ e ∈ h, e.1.1 ≤ 4294967296
theorem takeWhile_all {α : Type} {p : α → Bool} : ∀ {l : List α}, (∀ e ∈ l, p e = true) → l.takeWhile p = l
  | [], _ => rfl
  | e :: l, h => by rw [List.takeWhile_cons_of_pos (h e List.mem_cons_self), takeWhile_all fun x hx => h x (List.mem_cons_of_mem _ hx)]
theorem allV_early {h : List E} (he : Early h) : allV h = (D h).map (·.1) := by
  unfold allV
  congr 1
  apply takeWhile_all
  intro e hm
  exact decide_eq_true (he e ((D_perm _ h rfl).mem_iff.1 hm))
/-- Put, one behind the other. -/
def putAll : List V → Int × List E → Int × List E
  | [], p => p
  | y :: l, p => putAll l (if fine y.1 y.2.1 y.2.2.1 y.2.2.2.1 then (p.1 + 1, putL p.2 (y, p.1 + 1)) else p)
def okV (y : V) : Bool := decide (fine y.1 y.2.1 y.2.2.1 y.2.2.2.1)
theorem putAll_perm : ∀ (l : List V) (p : Int × List E), ((putAll l p).2.map (·.1)).Perm (p.2.map (·.1) ++ l.filter okV)
  | [], p => by
    show (p.2.map (·.1)).Perm (p.2.map (·.1) ++ [])
    rw [List.append_nil]
  | y :: l, p => by
    unfold putAll
    by_cases hf : fine y.1 y.2.1 y.2.2.1 y.2.2.2.1
    · rw [if_pos hf, List.filter_cons_of_pos (by unfold okV; exact decide_eq_true hf)]
      refine (putAll_perm l _).trans ?_
      refine ((((putL_perm p.2 (y, p.1 + 1)).map (·.1))).append_right _).trans ?_
      rw [List.map_cons]
      exact List.perm_middle.symm
    · rw [if_neg hf, List.filter_cons_of_neg (by unfold okV; simpa using hf)]
      exact putAll_perm l p
theorem putAll_ok : ∀ (l : List V) (p : Int × List E), 0 ≤ p.1 → Heap p.2 → Early p.2 → Heap (putAll l p).2 ∧ Early (putAll l p).2 ∧ 0 ≤ (putAll l p).1 ∧ (putAll l p).1 ≤ p.1 + l.length ∧ (putAll l p).2.length ≤ p.2.length + l.length
  | [], p, hs, hh, he => ⟨hh, he, hs, by simp [putAll], by simp [putAll]⟩
  | y :: l, p, hs, hh, he => by
    unfold putAll
    by_cases hf : fine y.1 y.2.1 y.2.2.1 y.2.2.2.1
    · rw [if_pos hf]
      have hl := putL_len p.2 (y, p.1 + 1)
      obtain ⟨h1, h2, h3, h4, h5⟩ := putAll_ok l (p.1 + 1, putL p.2 (y, p.1 + 1)) (by show 0 ≤ p.1 + 1; omega) (putL_heap hh _) (fun e hm => by
        have := (putL_perm p.2 (y, p.1 + 1)).mem_iff.1 hm
        rcases List.mem_cons.1 this with rfl | hm
        · exact hf.2.1
        · exact he e hm)
      refine ⟨h1, h2, h3, ?_, ?_⟩
      · rw [List.length_cons]
        have : (putAll l (p.1 + 1, putL p.2 (y, p.1 + 1))).1 ≤ p.1 + 1 + l.length := h4
        omega
      · rw [List.length_cons]
        have : (putAll l (p.1 + 1, putL p.2 (y, p.1 + 1))).2.length ≤ (putL p.2 (y, p.1 + 1)).length + l.length := h5
        omega
    · rw [if_neg hf]
      obtain ⟨h1, h2, h3, h4, h5⟩ := putAll_ok l p hs hh he
      refine ⟨h1, h2, h3, ?_, ?_⟩
      · rw [List.length_cons]
        omega
      · rw [List.length_cons]
        omega
/-- One put of a loop. -/
theorem put_one (y : V) (s : Int) (h : List E) (hs : 0 ≤ s) (hs2 : s ≤ 1000) (hl : h.length ≤ 1000) : ∃ c, put6 y s h = some (c, (if fine y.1 y.2.1 y.2.2.1 y.2.2.2.1 then (s + 1, putL h (y, s + 1)) else (s, h))) := by
  rw [put6_eq _ _ _ hs (by omega) (by omega)]
  split
  · exact ⟨_, rfl⟩
  · exact ⟨_, rfl⟩
theorem put_step {y : V} {l : List V} {s : Int} {h : List E} : putAll (y :: l) (s, h) = putAll l (if fine y.1 y.2.1 y.2.2.1 y.2.2.2.1 then (s + 1, putL h (y, s + 1)) else (s, h)) := rfl
theorem put_bound (y : V) (s : Int) (h : List E) (hs : 0 ≤ s) : 0 ≤ (if fine y.1 y.2.1 y.2.2.1 y.2.2.2.1 then (s + 1, putL h (y, s + 1)) else (s, h)).1 ∧ (if fine y.1 y.2.1 y.2.2.1 y.2.2.2.1 then (s + 1, putL h (y, s + 1)) else (s, h)).1 ≤ s + 1 ∧ (if fine y.1 y.2.1 y.2.2.1 y.2.2.2.1 then (s + 1, putL h (y, s + 1)) else (s, h)).2.length ≤ h.length + 1 := by
  split
  · refine ⟨by show 0 ≤ s + 1; omega, Int.le_refl _, ?_⟩
    show (putL h (y, s + 1)).length ≤ _
    rw [putL_len]
    exact Nat.le_refl _
  · exact ⟨hs, by show s ≤ s + 1; omega, Nat.le_succ _⟩
/-- Of a kind and a node. -/
def hit (k m : Int) (e : E) : Bool := decide (e.1.2.1 = k) && decide (e.1.2.2.1 = m)
theorem ix_def (i n k m : Int) (l : List E) : slices_IndexFunc_agenda_entry_agenda_entry.step0 (i, n, k, m, l) =
    (if i < n then (if 0 ≤ i ∧ i < Int.ofNat l.length then (if (g l i.toNat).1.2.1 = k then (if (g l i.toNat).1.2.2.1 = m then some (Sum.inr (Sum.inr (i, k, m, l))) else some (Sum.inl (wrap64 (i + 1), n, k, m, l))) else some (Sum.inl (wrap64 (i + 1), n, k, m, l))) else none) else some (Sum.inr (Sum.inl (i, n, k, m, l)))) := rfl
theorem ix_loop (k m : Int) (l : List E) (hl : l.length ≤ 1000000) : ∀ (q i : Nat), i + q = l.length →
    (rounds slices_IndexFunc_agenda_entry_agenda_entry.step0 ((i : Int), (l.length : Int), k, m, l) = some (.inl ((l.length : Int), (l.length : Int), k, m, l)) ∧ ∀ e ∈ l.drop i, hit k m e = false) ∨
    ∃ j : Nat, i ≤ j ∧ j < l.length ∧ rounds slices_IndexFunc_agenda_entry_agenda_entry.step0 ((i : Int), (l.length : Int), k, m, l) = some (.inr ((j : Int), k, m, l)) ∧ hit k m (g l j) = true ∧ ∀ e ∈ (l.take j).drop i, hit k m e = false
  | 0, i, h => by
    have e : i = l.length := by omega
    subst e
    refine .inl ⟨?_, fun e he => ?_⟩
    · apply rounds_end
      rw [ix_def, if_neg (by omega)]
    · rw [List.drop_of_length_le (Nat.le_refl _)] at he
      cases he
  | q + 1, i, h => by
    have st := ix_def (i : Int) (l.length : Int) k m l
    have i1 : 0 ≤ (i : Int) ∧ (i : Int) < Int.ofNat l.length := ⟨by omega, by show (i : Int) < (l.length : Int); omega⟩
    rw [if_pos (by omega), if_pos i1, Int.toNat_natCast, wr _ (by omega)] at st
    have hcut : ∀ j, i < j → j ≤ l.length → (l.take j).drop i = g l i :: (l.take j).drop (i + 1) := fun j hj hjl => by
      rw [List.drop_eq_getElem_cons (by rw [List.length_take]; omega : i < (l.take j).length), List.getElem_take, g_eq (by omega)]
    by_cases hh : hit k m (g l i) = true
    · have hh' := hh
      unfold hit at hh'
      simp only [Bool.and_eq_true, decide_eq_true_eq] at hh'
      rw [if_pos hh'.1, if_pos hh'.2] at st
      refine .inr ⟨i, Nat.le_refl _, by omega, rounds_end st, hh, fun e he => ?_⟩
      rw [List.drop_of_length_le (by rw [List.length_take]; omega)] at he
      cases he
    · have hh' := hh
      have hf : hit k m (g l i) = false := by simpa using hh
      have st2 : slices_IndexFunc_agenda_entry_agenda_entry.step0 ((i : Int), (l.length : Int), k, m, l) = some (.inl ((i : Int) + 1, (l.length : Int), k, m, l)) := by
        rw [st]
        unfold hit at hh'
        simp only [Bool.and_eq_true, decide_eq_true_eq, not_and] at hh'
        split
        · rename_i h1
          rw [if_neg (hh' h1)]
        · rfl
      rcases ix_loop k m l hl q (i + 1) (by omega) with ⟨h1, h2⟩ | ⟨j, h1, h2, h3, h4, h5⟩
      · refine .inl ⟨by rw [rounds_next st2]; exact h1, fun e he => ?_⟩
        have := hcut l.length (by omega) (Nat.le_refl _)
        rw [List.take_of_length_le (Nat.le_refl _)] at this
        rw [this] at he
        rcases List.mem_cons.1 he with rfl | he
        · exact hf
        · exact h2 e he
      · refine .inr ⟨j, by omega, h2, by rw [rounds_next st2]; exact h3, h4, fun e he => ?_⟩
        rw [hcut j (by omega) (by omega)] at he
        rcases List.mem_cons.1 he with rfl | he
        · exact hf
        · exact h5 e he
theorem df_def (i j k m : Int) (l : List E) : slices_DeleteFunc_agenda_entry_agenda_entry.step0 (i, j, k, m, l) =
    (if j < Int.ofNat l.length then (if 0 ≤ j ∧ j < Int.ofNat l.length then (if (g l j.toNat).1.2.1 = k then (if (!decide ((g l j.toNat).1.2.2.1 = m)) = true then (if 0 ≤ i ∧ i < Int.ofNat l.length then some (Sum.inl (wrap64 (i + 1), wrap64 (j + 1), k, m, l.set i.toNat (g l j.toNat))) else none) else some (Sum.inl (i, wrap64 (j + 1), k, m, l)))
      else (if 0 ≤ i ∧ i < Int.ofNat l.length then some (Sum.inl (wrap64 (i + 1), wrap64 (j + 1), k, m, l.set i.toNat (g l j.toNat))) else none)) else none) else some (Sum.inr (Sum.inl (i, j, k, m, l)))) := rfl
def kept (k m : Int) (e : E) : Bool := !hit k m e
theorem df_loop (k m : Int) (n : Nat) (hn : n ≤ 1000000) : ∀ (q i j : Nat) (l : List E), l.length = n → j + q = n → i ≤ j → ∃ (i' : Nat) (l' : List E), rounds slices_DeleteFunc_agenda_entry_agenda_entry.step0 ((i : Int), (j : Int), k, m, l) = some (.inl ((i' : Int), (n : Int), k, m, l')) ∧ l'.length = n ∧ i' ≤ n ∧ l'.take i' = l.take i ++ (l.drop j).filter (kept k m)
  | 0, i, j, l, hl, h, hij => by
    have e : j = n := by omega
    subst e
    refine ⟨i, l, ?_, hl, hij, ?_⟩
    · apply rounds_end
      rw [df_def, if_neg (by show ¬ (j : Int) < (l.length : Int); omega)]
    · rw [List.drop_of_length_le (by omega)]
      simp
  | q + 1, i, j, l, hl, h, hij => by
    have st := df_def (i : Int) (j : Int) k m l
    have i1 : 0 ≤ (i : Int) ∧ (i : Int) < Int.ofNat l.length := ⟨by omega, by show (i : Int) < (l.length : Int); omega⟩
    have j1 : 0 ≤ (j : Int) ∧ (j : Int) < Int.ofNat l.length := ⟨by omega, by show (j : Int) < (l.length : Int); omega⟩
    rw [if_pos j1.2, if_pos j1, Int.toNat_natCast, Int.toNat_natCast, wr _ (by omega), wr _ (by omega), if_pos i1] at st
    have hd : l.drop j = g l j :: l.drop (j + 1) := by
      rw [List.drop_eq_getElem_cons (by omega : j < l.length), g_eq (by omega)]
    by_cases hh : hit k m (g l j) = true
    · have st2 : slices_DeleteFunc_agenda_entry_agenda_entry.step0 ((i : Int), (j : Int), k, m, l) = some (.inl ((i : Int), (j : Int) + 1, k, m, l)) := by
        rw [st]
        unfold hit at hh
        simp only [Bool.and_eq_true, decide_eq_true_eq] at hh
        rw [if_pos hh.1, if_neg (by rw [decide_eq_true hh.2]; decide)]
      obtain ⟨i', l', h1, h2, h3, h4⟩ := df_loop k m n hn q i (j + 1) l hl (by omega) (by omega)
      refine ⟨i', l', by rw [rounds_next st2]; exact h1, h2, h3, ?_⟩
      rw [h4, hd, List.filter_cons_of_neg (by unfold kept; rw [hh]; decide)]
    · have hf : hit k m (g l j) = false := by simpa using hh
      have st2 : slices_DeleteFunc_agenda_entry_agenda_entry.step0 ((i : Int), (j : Int), k, m, l) = some (.inl ((i : Int) + 1, (j : Int) + 1, k, m, l.set i (g l j))) := by
        rw [st]
        unfold hit at hh
        simp only [Bool.and_eq_true, decide_eq_true_eq, not_and] at hh
        split
        · rename_i h1
          rw [if_pos (by rw [decide_eq_false (hh h1)]; rfl)]
        · rfl
      obtain ⟨i', l', h1, h2, h3, h4⟩ := df_loop k m n hn q (i + 1) (j + 1) (l.set i (g l j)) (by simpa using hl) (by omega) (by omega)
      refine ⟨i', l', by rw [rounds_next st2]; exact h1, h2, h3, ?_⟩
      rw [h4, hd, List.filter_cons_of_pos (by unfold kept; rw [hf]; decide), List.drop_set_of_lt (by omega)]
      have e : (l.set i (g l j)).take (i + 1) = l.take i ++ [g l j] := by
        rw [List.take_add_one, List.take_set_of_le (Nat.le_refl _), List.getElem?_set, if_pos rfl, if_pos (by omega)]
        rfl
      rw [e, List.append_assoc]
      rfl
theorem in_def (n i s : Int) (l : List E) : container_heap_Init.step0 (n, i, s, l) = (if i ≥ 0 then ((container_heap_down.f (i, n, s, l)).bind fun t0 => some (Sum.inl (n, wrap64 (i - 1), t0.2.1, t0.2.2))) else some (Sum.inr (Sum.inl (n, i, s, l)))) := rfl
theorem in_loop (s : Int) : ∀ (i : Nat) (l : List E), i ≤ l.length → l.length ≤ 1000000 → HeapF l l.length i → ∃ l', rounds container_heap_Init.step0 ((l.length : Int), (i : Int) - 1, s, l) = some (.inl ((l.length : Int), -1, s, l')) ∧ Heap l' ∧ l'.Perm l
  | 0, l, hi, hl, hh => by
    refine ⟨l, ?_, hh, List.Perm.refl _⟩
    apply rounds_end
    rw [in_def, if_neg (by omega)]
    rfl
  | i + 1, l, hi, hl, hh => by
    have st := in_def (l.length : Int) (((i + 1 : Nat) : Int) - 1) s l
    obtain ⟨b, hd⟩ := down_eq (((i + 1 : Nat) : Int) - 1) s l.length i (l.length + 1) l (by omega) (by omega) (Nat.le_refl _) (by omega) hl (by omega)
    rw [if_pos (by omega), hd, Option.bind_some, wr _ (by omega)] at st
    dsimp only at st
    have hp := downL_perm (l.length + 1) l l.length i (Nat.le_refl _) (by omega)
    have hlen := hp.length_eq
    have hheap : HeapF (downL (l.length + 1) l l.length i) l.length i := by
      refine downL_heap _ _ _ _ _ (by omega) (Nat.le_refl _) (by omega) (Nat.le_refl _) (fun k hk hkl hm hne => hh k hk hkl (by omega)) (fun k hk hkl he hpos hm => by omega)
    obtain ⟨l', h1, h2, h3⟩ := in_loop s i (downL (l.length + 1) l l.length i) (by omega) (by omega) (by rw [hlen]; exact hheap)
    refine ⟨l', ?_, h2, h3.trans hp⟩
    rw [rounds_next st]
    rw [hlen] at h1
    rw [show (((i + 1 : Nat) : Int) - 1 - 1) = (i : Int) - 1 by omega]
    exact h1
theorem in_ok (s : Int) (l : List E) (hl : l.length ≤ 1000000) : ∃ l', rounds container_heap_Init.step0 (Int.ofNat l.length, wrap64 (wrap64 ((Int.ofNat l.length).tdiv 2) - 1), s, l) = some (.inl ((l.length : Int), -1, s, l')) ∧ Heap l' ∧ l'.Perm l := by
  have e : wrap64 (wrap64 ((Int.ofNat l.length).tdiv 2) - 1) = ((l.length / 2 : Nat) : Int) - 1 := by
    show wrap64 (wrap64 ((l.length : Int).tdiv 2) - 1) = _
    rw [Int.tdiv_eq_ediv_of_nonneg (by omega), wr ((l.length : Int) / 2) (by omega), wr _ (by omega)]
    omega
  rw [e]
  exact in_loop s (l.length / 2) l (by omega) hl fun k hk hkl hm => by omega
theorem filter_all {α : Type} {p : α → Bool} : ∀ {l : List α}, (∀ e ∈ l, p e = true) → l.filter p = l
  | [], _ => rfl
  | e :: l, h => by rw [List.filter_cons_of_pos (h e List.mem_cons_self), filter_all fun x hx => h x (List.mem_cons_of_mem _ hx)]
theorem drop_eq (k m s : Int) (h : List E) (hl : h.length ≤ 1000000) : ∃ h', agenda_Agenda_Drop.f (k, m, s, h) = some ((h.length : Int) - (h'.length : Int), s, h') ∧ (Heap h → Heap h') ∧ h'.Perm (h.filter (kept k m)) := by
  unfold agenda_Agenda_Drop.f
  dsimp only
  by_cases h0 : h.length = 0
  · have e : h = [] := List.eq_nil_of_length_eq_zero h0
    subst e
    exact ⟨[], if_pos rfl, fun q => q, List.Perm.refl _⟩
  · rw [if_neg (by show ¬ (h.length : Int) = 0; omega), Clone_ok h hl, Option.bind_some, guardEq_self]
    rcases ix_loop k m h hl h.length 0 (by omega) with ⟨h1, h2⟩ | ⟨j, h1, h2, h3, h4, h5⟩
    · rw [show rounds slices_IndexFunc_agenda_entry_agenda_entry.step0 (0, Int.ofNat (List.length h), k, m, h) = _ from h1, Option.bind_some]
      dsimp only
      obtain ⟨l', r1, r2, r3⟩ := in_ok s h hl
      rw [guardEq_self, r1, Option.bind_some]
      dsimp only
      have hlen := r3.length_eq
      refine ⟨l', ?_, fun _ => r2, ?_⟩
      · rw [wr _ (by show _ ≤ (h.length : Int) - (l'.length : Int) ∧ (h.length : Int) - (l'.length : Int) ≤ _; omega)]
        rfl
      · rw [filter_all fun e he => by unfold kept; rw [h2 e (by simpa using he)]; rfl]
        exact r3
    · rw [show rounds slices_IndexFunc_agenda_entry_agenda_entry.step0 (0, Int.ofNat (List.length h), k, m, h) = _ from h3, Option.bind_some]
      dsimp only
      rw [if_neg (by omega), guardEq_self, wr _ (by omega)]
      obtain ⟨i', l', r1, r2, r3, r4⟩ := df_loop k m h.length hl (h.length - (j + 1)) j (j + 1) h rfl (by omega) (by omega)
      rw [show rounds slices_DeleteFunc_agenda_entry_agenda_entry.step0 ((j : Int), (j : Int) + 1, k, m, h) = _ from r1, Option.bind_some]
      dsimp only
      have b1 : (0 : Int) ≤ (i' : Int) := by omega
      have b2 : (i' : Int) ≤ Int.ofNat l'.length := by show (i' : Int) ≤ (l'.length : Int); omega
      rw [if_pos b1, if_pos b2, if_pos b1, if_pos b2, Int.toNat_natCast]
      have e1 : (l'.take i' ++ (List.replicate ((Int.ofNat l'.length).toNat - i') ((0, 0, 0, 0, 0), 0) ++ l'.drop (Int.ofNat l'.length).toNat)).take i' = l'.take i' := by
        rw [List.take_append_of_le_length (by rw [List.length_take]; omega), List.take_take, Nat.min_self]
      have e2 : l'.take i' = h.filter (kept k m) := by
        have hsplit : h = h.take j ++ g h j :: h.drop (j + 1) := by
          rw [g_eq h2, ← List.drop_eq_getElem_cons h2, List.take_append_drop]
        rw [r4]
        conv => rhs; rw [hsplit]
        rw [List.filter_append, List.filter_cons_of_neg (by unfold kept; rw [h4]; decide), filter_all (l := h.take j) fun e he => by unfold kept; rw [h5 e (by simpa using he)]; rfl]
      have e3 : (l'.take i').length = i' := by rw [List.length_take]; omega
      obtain ⟨l2, q1, q2, q3⟩ := in_ok s (l'.take i') (by rw [e3]; omega)
      rw [e3] at q1
      rw [guardEq_self]
      rw [e1]
      rw [show rounds container_heap_Init.step0 ((i' : Int), wrap64 (wrap64 ((i' : Int).tdiv 2) - 1), s, l'.take i') = _ from q1, Option.bind_some]
      dsimp only
      have hlen := q3.length_eq
      rw [e3] at hlen
      refine ⟨l2, ?_, fun _ => q2, ?_⟩
      · rw [wr _ (by show _ ≤ (h.length : Int) - (l2.length : Int) ∧ (h.length : Int) - (l2.length : Int) ≤ _; omega)]
        rfl
      · rw [← e2]
        exact q3
/-- In order. -/
def Srt (l : List E) : Prop := l.Pairwise fun a b => ¬ lt b a
theorem D_sorted (n : Nat) : ∀ (h : List E), h.length = n → Heap h → Srt (D h) := by
  induction n with
  | zero =>
    intro h hl _
    rw [D_nil hl]
    exact List.Pairwise.nil
  | succ n ih =>
    intro h hl hh
    rw [D_cons (by omega)]
    refine List.Pairwise.cons (fun e he => ?_) (ih (takeL h) (by rw [takeL_len (by omega)]; omega) (takeL_heap hh (by omega)))
    have h1 := (D_perm _ (takeL h) rfl).mem_iff.1 he
    exact heap_first hh e ((takeL_perm (by omega)).mem_iff.2 (List.mem_cons_of_mem _ h1))
theorem uniq_srt : ∀ (l m : List E), l.Perm m → Srt l → Srt m → (∀ a ∈ l, ∀ b ∈ l, ¬ lt a b → ¬ lt b a → a = b) → l = m
  | [], m, hp, _, _, _ => (List.nil_perm.1 hp).symm
  | a :: l, [], hp, _, _, _ => absurd hp.length_eq (by simp)
  | a :: l, b :: m, hp, hl, hm, hu => by
    have hab : a = b := by
      have ha : a ∈ b :: m := hp.mem_iff.1 List.mem_cons_self
      have hb : b ∈ a :: l := hp.mem_iff.2 List.mem_cons_self
      rcases List.mem_cons.1 ha with e | ha'
      · exact e
      · rcases List.mem_cons.1 hb with e | hb'
        · exact e.symm
        · exact hu a List.mem_cons_self b hb (List.rel_of_pairwise_cons hm ha') (List.rel_of_pairwise_cons hl hb')
    subst hab
    rw [uniq_srt l m hp.cons_inv hl.of_cons hm.of_cons fun x hx y hy => hu x (List.mem_cons_of_mem _ hx) y (List.mem_cons_of_mem _ hy)]
/-- When each was put is its own. -/
def Uq (h : List E) : Prop := ∀ a ∈ h, ∀ b ∈ h, a.2 = b.2 → a = b
def Top (s : Int) (h : List E) : Prop := ∀ e ∈ h, e.2 ≤ s
theorem Uq.anti {h : List E} (u : Uq h) : ∀ a ∈ h, ∀ b ∈ h, ¬ lt a b → ¬ lt b a → a = b := fun a ha b hb h1 h2 => u a ha b hb (by unfold lt at h1 h2; omega)
theorem putL_uq {s : Int} {h : List E} (t : Top s h) (u : Uq h) (y : V) : Top (s + 1) (putL h (y, s + 1)) ∧ Uq (putL h (y, s + 1)) := by
  have hm : ∀ e, e ∈ putL h (y, s + 1) → e = (y, s + 1) ∨ e ∈ h := fun e he => by
    have := (putL_perm h (y, s + 1)).mem_iff.1 he
    simpa using this
  refine ⟨fun e he => ?_, fun a ha b hb e => ?_⟩
  · rcases hm e he with rfl | he
    · exact Int.le_refl _
    · have := t e he
      omega
  · rcases hm a ha with rfl | ha <;> rcases hm b hb with rfl | hb
    · rfl
    · have := t b hb
      have e : s + 1 = b.2 := e
      omega
    · have := t a ha
      have e : a.2 = s + 1 := e
      omega
    · exact u a ha b hb e
theorem putAll_uq : ∀ (l : List V) (p : Int × List E), Top p.1 p.2 → Uq p.2 → Top (putAll l p).1 (putAll l p).2 ∧ Uq (putAll l p).2
  | [], p, t, u => ⟨t, u⟩
  | y :: l, p, t, u => by
    unfold putAll
    by_cases hf : fine y.1 y.2.1 y.2.2.1 y.2.2.2.1
    · rw [if_pos hf]
      obtain ⟨t2, u2⟩ := putL_uq t u y
      exact putAll_uq l (p.1 + 1, putL p.2 (y, p.1 + 1)) t2 u2
    · rw [if_neg hf]
      exact putAll_uq l p t u
/-- What is left of a heap, in order. -/
theorem D_filter {h h' : List E} (hh : Heap h) (hh' : Heap h') (u : Uq h) {p : E → Bool} (hp : h'.Perm (h.filter p)) : D h' = (D h).filter p := by
  refine uniq_srt _ _ (((D_perm _ h' rfl).trans hp).trans ((D_perm _ h rfl).filter p).symm) (D_sorted _ h' rfl hh') ((D_sorted _ h rfl hh).filter _) fun a ha b hb => ?_
  have hin : ∀ x ∈ D h', x ∈ h := fun x hx => (List.mem_filter.1 (hp.mem_iff.1 ((D_perm _ h' rfl).mem_iff.1 hx))).1
  exact u.anti a (hin a ha) b (hin b hb)
theorem Srt.times {l : List E} (h : Srt l) : l.Pairwise fun a b => a.1.1 ≤ b.1.1 := h.imp fun {a b} q => by
  unfold lt at q
  omega
theorem tw_iff (t : Int) : ∀ (d : List E), (d.Pairwise fun a b => a.1.1 ≤ b.1.1) → ∀ (i : Nat) (hi : i < d.length), (d[i].1.1 ≤ t) ↔ i < (d.takeWhile fun e => decide (e.1.1 ≤ t)).length
  | e :: d, hp, i, hi => by
    by_cases he : e.1.1 ≤ t
    · rw [List.takeWhile_cons_of_pos (by simpa using he)]
      cases i with
      | zero =>
        constructor
        · intro _
          simp
        · intro _
          exact he
      | succ i =>
        rw [List.length_cons, Nat.succ_lt_succ_iff]
        exact tw_iff t d hp.of_cons i (by simpa using hi)
    · rw [List.takeWhile_cons_of_neg (by simpa using he)]
      constructor
      · intro h
        exfalso
        cases i with
        | zero => exact he h
        | succ i =>
          have hi' : i < d.length := by simpa using hi
          have := List.rel_of_pairwise_cons hp (List.getElem_mem hi')
          have h : d[i].1.1 ≤ t := h
          omega
      · intro h
        simp at h
theorem Early.sub {h h' : List E} (he : Early h) (hs : ∀ e ∈ h', e ∈ h) : Early h' := fun e hm => he e (hs e hm)
theorem alive_ok : vesperslaw10_alive.f = some true := by
  unfold vesperslaw10_alive.f
  have p : ∀ (t k s : Int) (h : List E), 0 ≤ t → t ≤ 100 → 0 ≤ k → 0 ≤ s → s ≤ 100 → h.length < 100 → agenda_Agenda_Put.f (t, k, 0, 0, 0, s, h) = some (0, s + 1, putL h ((t, k, 0, 0, 0), s + 1)) := fun t k s h h1 h2 h3 h4 h5 h6 => by
    rw [put_eq _ _ _ _ _ _ _ h4 (by omega) (by omega), if_pos ⟨h1, by omega, h3, by omega, by omega⟩]
  simp only [vesperslaw10_at.f, Option.bind_some]
  rw [p 5 1 0 [] (by decide) (by decide) (by decide) (by decide) (by decide) (by decide)]
  simp only [Option.bind_some]
  rw [p 3 9 (0 + 1) _ (by decide) (by decide) (by decide) (by decide) (by decide) (by decide)]
  simp only [Option.bind_some]
  rw [p 5 0 (0 + 1 + 1) _ (by decide) (by decide) (by decide) (by decide) (by decide) (by decide)]
  simp only [Option.bind_some]
  rw [take_eq _ _ (by decide) (by decide)]
  simp only [Option.bind_some]
  rw [take_eq _ _ (by decide) (by decide)]
  simp only [Option.bind_some]
  rw [take_eq _ _ (by decide) (by decide)]
  rfl
theorem no_put (t k n m v s : Int) (h : List E) (hs : 0 ≤ s) (hs2 : s ≤ 1000) (hl : h.length < 1000) (hf : ¬ fine t k n m) : agenda_Agenda_Put.f (t, k, n, m, v, s, h) = some (100, s, h) := by
  rw [put_eq _ _ _ _ _ _ _ hs (by omega) (by omega), if_neg hf]
theorem a_put (t k n m v s : Int) (h : List E) (hs : 0 ≤ s) (hs2 : s ≤ 1000) (hl : h.length < 1000) (hf : fine t k n m) : agenda_Agenda_Put.f (t, k, n, m, v, s, h) = some (0, s + 1, putL h ((t, k, n, m, v), s + 1)) := by
  rw [put_eq _ _ _ _ _ _ _ hs (by omega) (by omega), if_pos hf]
theorem put_full (v s : Int) (h : List E) (hl : h.length = 65536) : agenda_Agenda_Put.f (0, 0, 0, 0, v, s, h) = some (100, s, h) := by
  unfold agenda_Agenda_Put.f
  dsimp only
  rw [if_neg (by decide), if_neg (by decide), if_neg (by simp), if_pos (by rw [hl]; rfl)]
theorem bad0 : rounds vesperslaw10_AgendaNames.step0 (0, 0, 0, []) = some (.inl (5, 5, 0, [])) := by
  have s0 : vesperslaw10_AgendaNames.step0 (0, 0, 0, []) = some (.inl (1, 1, 0, [])) := by
    unfold vesperslaw10_AgendaNames.step0
    dsimp only
    rw [if_pos (by decide), if_neg (by decide), if_neg (by decide), if_neg (by decide), if_neg (by decide), if_pos (by decide), no_put _ _ _ _ _ _ _ (by decide) (by decide) (by decide) (by decide), Option.bind_some]
    dsimp only
    rw [if_pos (by decide), if_pos (by decide), wr _ (by omega)]
    rfl
  have s1 : vesperslaw10_AgendaNames.step0 (1, 1, 0, []) = some (.inl (2, 2, 0, [])) := by
    unfold vesperslaw10_AgendaNames.step0
    dsimp only
    rw [if_pos (by decide), if_neg (by decide), if_neg (by decide), if_neg (by decide), if_pos (by decide), no_put _ _ _ _ _ _ _ (by decide) (by decide) (by decide) (by decide), Option.bind_some]
    dsimp only
    rw [if_pos (by decide), if_pos (by decide), wr _ (by omega)]
    rfl
  have s2 : vesperslaw10_AgendaNames.step0 (2, 2, 0, []) = some (.inl (3, 3, 0, [])) := by
    unfold vesperslaw10_AgendaNames.step0
    dsimp only
    rw [if_pos (by decide), if_neg (by decide), if_neg (by decide), if_pos (by decide), no_put _ _ _ _ _ _ _ (by decide) (by decide) (by decide) (by decide), Option.bind_some]
    dsimp only
    rw [if_pos (by decide), if_pos (by decide), wr _ (by omega)]
    rfl
  have s3 : vesperslaw10_AgendaNames.step0 (3, 3, 0, []) = some (.inl (4, 4, 0, [])) := by
    unfold vesperslaw10_AgendaNames.step0
    dsimp only
    rw [if_pos (by decide), if_neg (by decide), if_pos (by decide), no_put _ _ _ _ _ _ _ (by decide) (by decide) (by decide) (by decide), Option.bind_some]
    dsimp only
    rw [if_pos (by decide), if_pos (by decide), wr _ (by omega)]
    rfl
  have s4 : vesperslaw10_AgendaNames.step0 (4, 4, 0, []) = some (.inl (5, 5, 0, [])) := by
    unfold vesperslaw10_AgendaNames.step0
    dsimp only
    rw [if_pos (by decide), if_pos (by decide), no_put _ _ _ _ _ _ _ (by decide) (by decide) (by decide) (by decide), Option.bind_some]
    dsimp only
    rw [if_pos (by decide), if_pos (by decide), wr _ (by omega)]
    rfl
  rw [rounds_next s0, rounds_next s1, rounds_next s2, rounds_next s3, rounds_next s4]
  apply rounds_end
  unfold vesperslaw10_AgendaNames.step0
  dsimp only
  rw [if_neg (by decide)]
def EV : List V := [(4294967296, 0, 0, 0, 9), (2, 1, 0, 0, 8), (2, 0, 1, 0, 6), (2, 0, 0, 1, 5), (2, 0, 0, 0, 3), (2, 0, 0, 0, 4), (2, 0, 1, 3, 7), (0, 0, 0, 0, 2)]
def HH (n : Nat) : Int × List E := putAll (EV.take n) (0, [])
theorem step_ok (i : Nat) (hi : i < 8) (hs : (HH i).1 = i) (hl : (HH i).2.length = i) : vesperslaw10_AgendaNames.step1 ((i : Int), 5, false, false, (HH i).1, (HH i).2) = some (.inl (((i + 1 : Nat) : Int), 5, false, false, (i : Int) + 1, putL (HH i).2 (gv EV i, (i : Int) + 1))) := by
  rw [hs]
  generalize (HH i).2 = h at hl ⊢
  unfold vesperslaw10_AgendaNames.step1
  dsimp only
  rcases (show i = 0 ∨ i = 1 ∨ i = 2 ∨ i = 3 ∨ i = 4 ∨ i = 5 ∨ i = 6 ∨ i = 7 by omega) with rfl | rfl | rfl | rfl | rfl | rfl | rfl | rfl
  · rw [if_pos (by decide), if_neg (by decide), if_neg (by decide), if_neg (by decide), if_neg (by decide), if_neg (by decide), if_neg (by decide), if_neg (by decide), if_pos (by decide), a_put _ _ _ _ _ _ _ (by decide) (by decide) (by omega) (by decide), Option.bind_some]
    dsimp only
    rw [if_neg (by decide), wr _ (by omega)]
    rfl
  · rw [if_pos (by decide), if_neg (by decide), if_neg (by decide), if_neg (by decide), if_neg (by decide), if_neg (by decide), if_neg (by decide), if_pos (by decide), a_put _ _ _ _ _ _ _ (by decide) (by decide) (by omega) (by decide), Option.bind_some]
    dsimp only
    rw [if_neg (by decide), wr _ (by omega)]
    rfl
  · rw [if_pos (by decide), if_neg (by decide), if_neg (by decide), if_neg (by decide), if_neg (by decide), if_neg (by decide), if_pos (by decide), a_put _ _ _ _ _ _ _ (by decide) (by decide) (by omega) (by decide), Option.bind_some]
    dsimp only
    rw [if_neg (by decide), wr _ (by omega)]
    rfl
  · rw [if_pos (by decide), if_neg (by decide), if_neg (by decide), if_neg (by decide), if_neg (by decide), if_pos (by decide), a_put _ _ _ _ _ _ _ (by decide) (by decide) (by omega) (by decide), Option.bind_some]
    dsimp only
    rw [if_neg (by decide), wr _ (by omega)]
    rfl
  · rw [if_pos (by decide), if_neg (by decide), if_neg (by decide), if_neg (by decide), if_pos (by decide), a_put _ _ _ _ _ _ _ (by decide) (by decide) (by omega) (by decide), Option.bind_some]
    dsimp only
    rw [if_neg (by decide), wr _ (by omega)]
    rfl
  · rw [if_pos (by decide), if_neg (by decide), if_neg (by decide), if_pos (by decide), a_put _ _ _ _ _ _ _ (by decide) (by decide) (by omega) (by decide), Option.bind_some]
    dsimp only
    rw [if_neg (by decide), wr _ (by omega)]
    rfl
  · rw [if_pos (by decide), if_neg (by decide), if_pos (by decide), a_put _ _ _ _ _ _ _ (by decide) (by decide) (by omega) (by decide), Option.bind_some]
    dsimp only
    rw [if_neg (by decide), wr _ (by omega)]
    rfl
  · rw [if_pos (by decide), if_pos (by decide), a_put _ _ _ _ _ _ _ (by decide) (by decide) (by omega) (by decide), Option.bind_some]
    dsimp only
    rw [if_neg (by decide), wr _ (by omega)]
    rfl
theorem putAll_app : ∀ (l m : List V) (p : Int × List E), putAll (l ++ m) p = putAll m (putAll l p)
  | [], m, p => rfl
  | y :: l, m, p => by
    show putAll (l ++ m) _ = putAll m (putAll l _)
    exact putAll_app l m _
theorem HH_succ (i : Nat) (hi : i < 8) (hs : (HH i).1 = i) (hl : (HH i).2.length = i) : HH (i + 1) = ((i : Int) + 1, putL (HH i).2 (gv EV i, (i : Int) + 1)) := by
  have e : EV.take (i + 1) = EV.take i ++ [gv EV i] := by
    have hl : i < EV.length := hi
    rw [List.take_add_one, List.getElem?_eq_getElem hl, gv_eq hl]
    rfl
  have hf : fine (gv EV i).1 (gv EV i).2.1 (gv EV i).2.2.1 (gv EV i).2.2.2.1 := by
    rcases (show i = 0 ∨ i = 1 ∨ i = 2 ∨ i = 3 ∨ i = 4 ∨ i = 5 ∨ i = 6 ∨ i = 7 by omega) with rfl | rfl | rfl | rfl | rfl | rfl | rfl | rfl <;> decide
  unfold HH
  rw [e, putAll_app]
  show (if fine (gv EV i).1 (gv EV i).2.1 (gv EV i).2.2.1 (gv EV i).2.2.2.1 then ((HH i).1 + 1, putL (HH i).2 (gv EV i, (HH i).1 + 1)) else HH i) = _
  rw [if_pos hf, hs]
  rfl
theorem HH_all (i : Nat) : i ≤ 8 → (HH i).1 = i ∧ (HH i).2.length = i := by
  induction i with
  | zero =>
    intro _
    exact ⟨rfl, rfl⟩
  | succ i ih =>
    intro hi
    obtain ⟨h1, h2⟩ := ih (by omega)
    rw [HH_succ i (by omega) h1 h2]
    exact ⟨by show (i : Int) + 1 = _; omega, by show (putL _ _).length = _; rw [putL_len, h2]⟩
theorem puts : ∀ (q i : Nat), i + q = 8 → rounds vesperslaw10_AgendaNames.step1 ((i : Int), 5, false, false, (HH i).1, (HH i).2) = some (.inl (8, 5, false, false, 8, (HH 8).2))
  | 0, i, h => by
    have e : i = 8 := by omega
    subst e
    apply rounds_end
    unfold vesperslaw10_AgendaNames.step1
    dsimp only
    rw [if_neg (by decide), (HH_all 8 (Nat.le_refl _)).1]
    rfl
  | q + 1, i, h => by
    obtain ⟨h1, h2⟩ := HH_all i (by omega)
    rw [rounds_next (step_ok i (by omega) h1 h2)]
    have := puts q (i + 1) (by omega)
    rw [HH_succ i (by omega) h1 h2] at this
    exact this
theorem DH : D (HH 8).2 = [((0, 0, 0, 0, 2), 8), ((2, 0, 0, 0, 3), 5), ((2, 0, 0, 0, 4), 6), ((2, 0, 0, 1, 5), 4), ((2, 0, 1, 0, 6), 3), ((2, 0, 1, 3, 7), 7), ((2, 1, 0, 0, 8), 2), ((4294967296, 0, 0, 0, 9), 1)] := by decide +kernel
theorem st2_def (i n : Int) (o : Bool) (b : Int) (x y : Bool) (s : Int) (h : List E) (A : List V) : vesperslaw10_AgendaNames.step2 (i, n, o, b, x, y, s, h, A) =
    (if i < n then (if 0 ≤ i ∧ i < Int.ofNat A.length then (if o = true then some (Sum.inl (wrap64 (i + 1), n, decide ((gv A i.toNat).2.2.2.2 = wrap64 (i + 2)), b, x, y, s, h, A)) else some (Sum.inl (wrap64 (i + 1), n, false, b, x, y, s, h, A))) else none) else some (Sum.inr (Sum.inl (i, n, o, b, x, y, s, h, A)))) := rfl
theorem order_loop (A : List V) (hn : A.length ≤ 150) (b : Int) (x y : Bool) (s : Int) (h : List E) (hA : ∀ (i : Nat) (hi : i < A.length), A[i].2.2.2.2 = (i : Int) + 2) : ∀ (q i : Nat), i + q = A.length →
    rounds vesperslaw10_AgendaNames.step2 ((i : Int), (A.length : Int), true, b, x, y, s, h, A) = some (.inl ((A.length : Int), (A.length : Int), true, b, x, y, s, h, A))
  | 0, i, hk => by
    have e : i = A.length := by omega
    subst e
    apply rounds_end
    rw [st2_def, if_neg (by omega)]
  | q + 1, i, hk => by
    have st := st2_def (i : Int) (A.length : Int) true b x y s h A
    have i1 : 0 ≤ (i : Int) ∧ (i : Int) < Int.ofNat A.length := ⟨by omega, by show (i : Int) < (A.length : Int); omega⟩
    rw [if_pos (by omega), if_pos i1, if_pos rfl, Int.toNat_natCast, gv_eq (by omega : i < A.length), hA i (by omega), wr _ (by omega), wr _ (by omega), decide_eq_true rfl] at st
    rw [rounds_next st]
    exact order_loop A hn b x y s h hA q (i + 1) (by omega)
theorem full_loop (one : Bool) : ∀ (q i : Nat) (h : List E), i + q = 65536 → h.length = i → ∃ h', rounds vesperslaw10_AgendaNames.step3 ((i : Int), one, (i : Int), h) = some (.inl (65536, one, 65536, h')) ∧ h'.length = 65536
  | 0, i, h, hi, hl => by
    refine ⟨h, ?_, by omega⟩
    have e : (i : Int) = 65536 := by omega
    rw [e]
    apply rounds_end
    unfold vesperslaw10_AgendaNames.step3
    dsimp only
    rw [if_neg (by decide)]
  | q + 1, i, h, hi, hl => by
    have st : vesperslaw10_AgendaNames.step3 ((i : Int), one, (i : Int), h) = some (.inl ((i : Int) + 1, one, (i : Int) + 1, putL h (((i : Int), 0, 0, 0, 0), (i : Int) + 1))) := by
      unfold vesperslaw10_AgendaNames.step3
      dsimp only
      rw [if_pos (by omega), put_eq _ _ _ _ _ _ _ (by omega) (by omega) (by omega), if_pos ⟨by omega, by omega, by omega, by omega, by omega⟩, Option.bind_some]
      dsimp only
      rw [if_neg (by decide), wr _ (by omega)]
    obtain ⟨h', h1, h2⟩ := full_loop one q (i + 1) (putL h (((i : Int), 0, 0, 0, 0), (i : Int) + 1)) (by omega) (by rw [putL_len, hl])
    exact ⟨h', by rw [rounds_next st]; exact h1, h2⟩
theorem proved : vesperslaw10_AgendaNames.Pure := by
  have hh := HH_all 8 (Nat.le_refl _)
  obtain ⟨p1, p2, _, _, _⟩ := putAll_ok EV (0, []) (by show (0 : Int) ≤ 0; omega) (fun k hk hl _ => by simp at hl) (fun e hm => by cases hm)
  obtain ⟨_, p3⟩ := putAll_uq EV (0, []) (fun e hm => by cases hm) (fun e hm => by cases hm)
  have p1 : Heap (HH 8).2 := p1
  have p2 : Early (HH 8).2 := p2
  have p3 : Uq (HH 8).2 := p3
  have hD := DH
  have hP := puts 8 0 rfl
  have hP : rounds vesperslaw10_AgendaNames.step1 (0, 5, false, false, 0, []) = some (.inl (8, 5, false, false, 8, (HH 8).2)) := hP
  have hlen := hh.2
  generalize (HH 8).2 = H at p1 p2 p3 hD hP hlen
  have hA := allV_early p2
  unfold vesperslaw10_AgendaNames.Pure vesperslaw10_AgendaNames.f
  rw [guardEq_self, bad0, Option.bind_some]
  dsimp only
  rw [take_none, Option.bind_some]
  dsimp only
  rw [if_pos (by decide), guardEq_self, hP, Option.bind_some]
  dsimp only
  rw [All_ok _ _ (by omega), Option.bind_some]
  dsimp only
  have hAl : (allV H).length = 8 := by rw [hA, List.length_map, D_len, hlen]
  have hO := order_loop (allV H) (by omega) 5 false false 8 H (fun i hi => by
    rw [hAl] at hi
    have e : (allV H)[i] = gv (allV H) i := (gv_eq (by omega)).symm
    rw [e, hA, hD]
    rcases (show i = 0 ∨ i = 1 ∨ i = 2 ∨ i = 3 ∨ i = 4 ∨ i = 5 ∨ i = 6 ∨ i = 7 by omega) with rfl | rfl | rfl | rfl | rfl | rfl | rfl | rfl <;> rfl) (allV H).length 0 (by omega)
  rw [guardEq_self, show rounds vesperslaw10_AgendaNames.step2 (0, Int.ofNat (allV H).length, true, 5, false, false, 8, H, allV H) = _ from hO, Option.bind_some]
  dsimp only
  rw [Copy_ok _ _ (by omega), Option.bind_some]
  dsimp only
  obtain ⟨h1, r1, q1, m1⟩ := drop_eq 0 1 8 H (by omega)
  have d1 := D_filter p1 (q1 p1) p3 m1
  have l1 : h1.length = 6 := by
    rw [← D_len, d1, hD]
    decide +kernel
  have u1 : Uq h1 := fun a ha b hb e => p3 a (List.mem_filter.1 (m1.mem_iff.1 ha)).1 b (List.mem_filter.1 (m1.mem_iff.1 hb)).1 e
  obtain ⟨h2, r2, q2, m2⟩ := drop_eq 7 7 8 h1 (by omega)
  have d2 := D_filter (q1 p1) (q2 (q1 p1)) u1 m2
  rw [d1, hD] at d2
  have l2 : h2.length = 6 := by
    rw [← D_len, d2]
    decide +kernel
  obtain ⟨h3, r3, d3, _, _, _⟩ := Until_ok 2 8 h2 (by omega)
  have l3 : h3.length = 1 := by
    rw [← D_len, d3, d2]
    decide +kernel
  have o3 : (((D h2).takeWhile fun e => decide (e.1.1 ≤ 2)).map (·.1)).length = 5 := by
    rw [d2]
    decide +kernel
  obtain ⟨h4, r4, _⟩ := Until_ok 2 8 h3 (by omega)
  have o4 : (((D h3).takeWhile fun e => decide (e.1.1 ≤ 2)).map (·.1)).length = 0 := by
    rw [d3, d2]
    decide +kernel
  rw [r1, Option.bind_some]
  dsimp only
  rw [r2, Option.bind_some]
  dsimp only
  rw [r3, Option.bind_some]
  dsimp only
  rw [if_pos (by decide), if_pos (by decide), if_pos (by decide), if_pos (by decide), if_pos (by rw [hlen]; rfl), if_pos (by rw [hlen, l1]; rfl), if_pos (by rw [l1, l2]; rfl), if_pos (by rw [o3]; rfl), if_pos (by rw [l3]; rfl), r4, Option.bind_some]
  dsimp only
  rw [guardEq_self, decide_eq_true (show Int.ofNat (((D h3).takeWhile fun e => decide (e.1.1 ≤ 2)).map (·.1)).length = 0 by rw [o4]; rfl)]
  obtain ⟨F, f1, f2⟩ := full_loop true 65536 0 [] (by omega) rfl
  rw [show rounds vesperslaw10_AgendaNames.step3 (0, true, 0, []) = _ from f1, Option.bind_some]
  dsimp only
  rw [put_full _ _ _ f2, Option.bind_some]
  dsimp only
  have ft := takeL_len (l := F) (by omega)
  rw [take_eq _ _ (by omega) (by omega), Option.bind_some]
  dsimp only
  rw [put_eq _ _ _ _ _ _ _ (by omega) (by omega) (by omega), if_pos (by decide), Option.bind_some, alive_ok, Option.bind_some]
  rfl
end LAgendaNames
end Go.Proofs.Ytgkheobpnjmgdaa.Pure
