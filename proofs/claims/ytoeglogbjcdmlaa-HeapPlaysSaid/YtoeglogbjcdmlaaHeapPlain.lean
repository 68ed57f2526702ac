/- Plain law of heaps of pairs: a push and a pop keep the heap's order and its pairs, and what is popped is the least. -/
import Derived.Test.YtoeglogbjcdmlaaHeapPop
namespace Go.Proofs.Ytoeglogbjcdmlaa.Heap

/-- p is not behind q. -/
def le (p q : Int × Int) : Prop := ah q p = false
theorem ah_iff (p q : Int × Int) : ah p q = true ↔ p.1 < q.1 ∨ (p.1 = q.1 ∧ p.2 < q.2) := by simp [ah]
theorem le_iff (p q : Int × Int) : le p q ↔ p.1 < q.1 ∨ (p.1 = q.1 ∧ p.2 ≤ q.2) := by
  unfold le
  rw [← Bool.not_eq_true, ah_iff]
  omega
theorem le_of_ah {p q : Int × Int} (h : ah p q = true) : le p q := by rw [le_iff]; rw [ah_iff] at h; omega
theorem le_trans {p q r : Int × Int} (h : le p q) (k : le q r) : le p r := by rw [le_iff] at *; omega
theorem le_refl (p : Int × Int) : le p p := by rw [le_iff]; omega
def IsHeap (xs : List (Int × Int)) : Prop := ∀ j, 0 < j → j < xs.length → le (at_ xs ((j - 1) / 2)) (at_ xs j)
theorem at_set (xs : List (Int × Int)) (i j : Nat) (p : Int × Int) (hj : j < xs.length) : at_ (xs.set i p) j = if i = j then p else at_ xs j := by
  unfold at_
  simp only [List.getD_eq_getElem?_getD, List.getElem?_set]
  split
  · rename_i h
    rw [if_pos (by omega)]
    rfl
  · rfl
theorem swp_length (xs : List (Int × Int)) (i j : Nat) : (swp xs i j).length = xs.length := by simp [swp]
theorem at_swp (xs : List (Int × Int)) (i u j : Nat) (hj : j < xs.length) : at_ (swp xs i u) j = if u = j then at_ xs i else if i = j then at_ xs u else at_ xs j := by
  unfold swp
  rw [at_set _ _ _ _ (by rw [List.length_set]; exact hj), at_set _ _ _ _ hj]
theorem at_eq (xs : List (Int × Int)) (i : Nat) (h : i < xs.length) : at_ xs i = xs[i] := by simp [at_, h]
theorem swp_perm (xs : List (Int × Int)) (i j : Nat) (hi : i < xs.length) (hj : j < xs.length) : (swp xs i j).Perm xs := by
  unfold swp
  rw [at_eq xs i hi, at_eq xs j hj]
  exact List.set_set_perm hi hj
/-- A heap but for the pair at i, which may be too small. -/
def HU (xs : List (Int × Int)) (i : Nat) : Prop := (∀ j, 0 < j → j < xs.length → j ≠ i → le (at_ xs ((j - 1) / 2)) (at_ xs j)) ∧ (∀ j, 0 < j → j < xs.length → (j - 1) / 2 = i → 0 < i → le (at_ xs ((i - 1) / 2)) (at_ xs j))
theorem up_heap : ∀ (f : Nat) (xs : List (Int × Int)) (i : Nat), i < f → i < xs.length → HU xs i → IsHeap (up f xs i) ∧ (up f xs i).Perm xs
  | 0, _, _, h, _, _ => by omega
  | f + 1, xs, i, hf, hi, ⟨h1, h2⟩ => by
    rw [up]
    split
    · rename_i h0
      subst h0
      exact ⟨fun j hj hl => h1 j hj hl (by omega), List.Perm.refl _⟩
    · rename_i h0
      split
      · rename_i hah
        suffices hH : HU (swp xs i ((i - 1) / 2)) ((i - 1) / 2) by
          obtain ⟨a, b⟩ := up_heap f (swp xs i ((i - 1) / 2)) ((i - 1) / 2) (by omega) (by rw [swp_length]; omega) hH
          exact ⟨a, b.trans (swp_perm xs i _ hi (by omega))⟩
        refine ⟨?_, ?_⟩
        · intro j hj hl hne
          rw [swp_length] at hl
          rw [at_swp _ _ _ _ hl, at_swp _ _ _ _ (by omega), if_neg (show ¬ (i - 1) / 2 = j by omega)]
          by_cases hji : i = j
          · subst hji
            rw [if_pos rfl, if_pos rfl]
            exact le_of_ah hah
          · rw [if_neg hji]
            by_cases hp : (i - 1) / 2 = (j - 1) / 2
            · rw [if_pos hp]
              have := h1 j hj hl (by omega)
              rw [← hp] at this
              exact le_trans (le_of_ah hah) this
            · rw [if_neg hp]
              by_cases hq : i = (j - 1) / 2
              · rw [if_pos hq]
                exact h2 j hj hl hq.symm (by omega)
              · rw [if_neg hq]
                exact h1 j hj hl (by omega)
        · intro j hj hl hp h0'
          rw [swp_length] at hl
          rw [at_swp _ _ _ _ hl, at_swp _ _ _ _ (by omega), if_neg (show ¬ (i - 1) / 2 = ((i - 1) / 2 - 1) / 2 by omega), if_neg (show ¬ i = ((i - 1) / 2 - 1) / 2 by omega), if_neg (show ¬ (i - 1) / 2 = j by omega)]
          have hu := h1 ((i - 1) / 2) h0' (by omega) (by omega)
          by_cases hji : i = j
          · subst hji
            rw [if_pos rfl]
            exact hu
          · rw [if_neg hji]
            have := h1 j hj hl (by omega)
            rw [hp] at this
            exact le_trans hu this
      · rename_i hah
        refine ⟨fun j hj hl => ?_, List.Perm.refl _⟩
        by_cases hji : j = i
        · subst hji
          unfold le
          simpa using hah
        · exact h1 j hj hl hji
theorem push_heap (xs : List (Int × Int)) (p : Int × Int) (h : IsHeap xs) : IsHeap (up (xs.length + 1) (xs ++ [p]) xs.length) ∧ (up (xs.length + 1) (xs ++ [p]) xs.length).Perm (xs ++ [p]) := by
  have ha : ∀ j, j < xs.length → at_ (xs ++ [p]) j = at_ xs j := fun j hj => by
    unfold at_
    simp [List.getElem?_append_left hj]
  refine up_heap _ _ _ (by omega) (by simp) ⟨fun j hj hl hne => ?_, fun j hj hl hp h0 => ?_⟩
  · have : j < xs.length := by simp at hl; omega
    rw [ha _ this, ha _ (by omega)]
    exact h j hj this
  · simp at hl
    omega
/-- A heap but for the pair at i, which may be too great. -/
def HD (xs : List (Int × Int)) (i : Nat) : Prop := (∀ j, 0 < j → j < xs.length → (j - 1) / 2 ≠ i → le (at_ xs ((j - 1) / 2)) (at_ xs j)) ∧ (∀ j, 0 < j → j < xs.length → (j - 1) / 2 = i → 0 < i → le (at_ xs ((i - 1) / 2)) (at_ xs j))
theorem lst_le (xs : List (Int × Int)) (i : Nat) : ∀ (f k best : Nat), le (at_ xs (lst f xs i k best)) (at_ xs best) ∧ ∀ j, k ≤ j → j < k + f → j ≤ 2 * i + 2 → j < xs.length → le (at_ xs (lst f xs i k best)) (at_ xs j)
  | 0, k, best => ⟨le_refl _, fun j h1 h2 _ _ => by omega⟩
  | f + 1, k, best => by
    rw [lst]
    split
    · rename_i h
      obtain ⟨a, b⟩ := lst_le xs i f (k + 1) (if ah (at_ xs k) (at_ xs best) = true then k else best)
      have hb : le (at_ xs (if ah (at_ xs k) (at_ xs best) = true then k else best)) (at_ xs best) ∧ le (at_ xs (if ah (at_ xs k) (at_ xs best) = true then k else best)) (at_ xs k) := by
        split
        · rename_i hah
          exact ⟨le_of_ah hah, le_refl _⟩
        · rename_i hah
          exact ⟨le_refl _, by unfold le; simpa using hah⟩
      refine ⟨le_trans a hb.1, fun j h1 h2 h3 h4 => ?_⟩
      by_cases hj : j = k
      · subst hj
        exact le_trans a hb.2
      · exact b j (by omega) (by omega) h3 h4
    · rename_i h
      exact ⟨le_refl _, fun j h1 h2 h3 h4 => by omega⟩
theorem lst_which (xs : List (Int × Int)) (i : Nat) : ∀ (f k best : Nat), lst f xs i k best = best ∨ (k ≤ lst f xs i k best ∧ lst f xs i k best ≤ 2 * i + 2)
  | 0, k, best => .inl rfl
  | f + 1, k, best => by
    rw [lst]
    split
    · rename_i h
      rcases lst_which xs i f (k + 1) (if ah (at_ xs k) (at_ xs best) = true then k else best) with e | e
      · rw [e]
        split
        · exact .inr ⟨Nat.le_refl _, h.1⟩
        · exact .inl rfl
      · exact .inr ⟨by omega, e.2⟩
    · exact .inl rfl
theorem least_le (xs : List (Int × Int)) (i : Nat) : le (at_ xs (least xs i)) (at_ xs i) ∧ ∀ j, 0 < j → j < xs.length → (j - 1) / 2 = i → le (at_ xs (least xs i)) (at_ xs j) := by
  obtain ⟨a, b⟩ := lst_le xs i 3 (2 * i + 1) i
  exact ⟨a, fun j h1 h2 h3 => b j (by omega) (by omega) (by omega) h2⟩
theorem down_heap : ∀ (f : Nat) (xs : List (Int × Int)) (i : Nat), xs.length < i + f → (i < xs.length ∨ xs.length = 0) → HD xs i → IsHeap (down f xs i) ∧ (down f xs i).Perm xs
  | 0, xs, i, hf, hi, ⟨h1, h2⟩ => by
    rw [down]
    exact ⟨fun j hj hl => by omega, List.Perm.refl _⟩
  | f + 1, xs, i, hf, hi, ⟨h1, h2⟩ => by
    obtain ⟨l1, l2⟩ := least_le xs i
    rw [down]
    split
    · rename_i h
      rw [h] at l1 l2
      refine ⟨fun j hj hl => ?_, List.Perm.refl _⟩
      by_cases hp : (j - 1) / 2 = i
      · rw [hp]
        exact l2 j hj hl hp
      · exact h1 j hj hl hp
    · rename_i h
      have hi' : i < xs.length := by
        rcases hi with h' | h'
        · exact h'
        · exfalso
          have : xs = [] := List.length_eq_zero_iff.1 h'
          subst this
          apply h
          unfold least
          exact lst_stop _ _ _ _ _ (by simp)
      have hr := least_range xs i hi'
      have hw : 2 * i + 1 ≤ least xs i ∧ least xs i ≤ 2 * i + 2 := (lst_which xs i 3 (2 * i + 1) i).resolve_left h
      generalize least xs i = k at l1 l2 h hr hw
      suffices hH : HD (swp xs i k) k by
        obtain ⟨a, b⟩ := down_heap f (swp xs i k) k (by rw [swp_length]; omega) (by rw [swp_length]; omega) hH
        exact ⟨a, b.trans (swp_perm xs i k hi' hr.2)⟩
      refine ⟨?_, ?_⟩
      · intro j hj hl hp
        rw [swp_length] at hl
        rw [at_swp _ _ _ _ hl, at_swp _ _ _ _ (by omega), if_neg (by omega : ¬ k = (j - 1) / 2)]
        by_cases hpi : i = (j - 1) / 2
        · rw [if_pos hpi]
          by_cases hjk : k = j
          · subst hjk
            rw [if_pos rfl]
            exact l1
          · rw [if_neg hjk, if_neg (show ¬ i = j by omega)]
            exact l2 j hj hl hpi.symm
        · rw [if_neg hpi]
          by_cases hji : i = j
          · subst hji
            rw [if_neg (show ¬ k = i by omega), if_pos rfl]
            exact h2 k (by omega) hr.2 (by omega) hj
          · rw [if_neg (show ¬ k = j by omega), if_neg hji]
            exact h1 j hj hl (fun e => hpi e.symm)
      · intro j hj hl hp h0
        rw [swp_length] at hl
        rw [at_swp _ _ _ _ hl, at_swp _ _ _ _ (by omega), if_neg (show ¬ k = (k - 1) / 2 by omega), if_pos (show i = (k - 1) / 2 by omega), if_neg (show ¬ k = j by omega), if_neg (show ¬ i = j by omega)]
        have := h1 j hj hl (by omega)
        rw [hp] at this
        exact this
theorem rest_heap (xs : List (Int × Int)) (h : IsHeap xs) (h0 : 0 < xs.length) : IsHeap (rest xs) ∧ (at_ xs 0 :: rest xs).Perm xs := by
  have hl : ((xs.set 0 (at_ xs (xs.length - 1))).take (xs.length - 1)).length = xs.length - 1 := by rw [List.length_take, List.length_set]; omega
  have ha : ∀ j, 0 < j → j < xs.length - 1 → at_ ((xs.set 0 (at_ xs (xs.length - 1))).take (xs.length - 1)) j = at_ xs j := fun j hj hjl => by
    have : at_ ((xs.set 0 (at_ xs (xs.length - 1))).take (xs.length - 1)) j = at_ (xs.set 0 (at_ xs (xs.length - 1))) j := by
      unfold at_
      rw [List.getD_eq_getElem?_getD, List.getElem?_take, if_pos hjl, ← List.getD_eq_getElem?_getD]
    rw [this, at_set _ _ _ _ (by omega), if_neg (by omega)]
  obtain ⟨a, b⟩ := down_heap (xs.length + 1) ((xs.set 0 (at_ xs (xs.length - 1))).take (xs.length - 1)) 0 (by rw [hl]; omega) (by rw [hl]; omega) ⟨fun j hj hjl hp => by
      rw [hl] at hjl
      rw [ha j hj hjl, ha _ (by omega) (by omega)]
      exact h j hj (by omega), fun j _ _ _ h' => by omega⟩
  refine ⟨a, (List.Perm.cons _ b).trans ?_⟩
  match xs, h0 with
  | x :: t, _ =>
    have e0 : at_ (x :: t) 0 = x := rfl
    rw [e0]
    refine List.Perm.cons _ ?_
    rcases List.eq_nil_or_concat t with rfl | ⟨s, y, rfl⟩
    · exact List.Perm.refl _
    · simp only [List.concat_eq_append]
      have e1 : at_ (x :: (s ++ [y])) ((x :: (s ++ [y])).length - 1) = y := by simp [at_]
      rw [e1]
      have e2 : ((x :: (s ++ [y])).set 0 y).take ((x :: (s ++ [y])).length - 1) = y :: s := by simp
      rw [e2]
      exact (List.perm_append_singleton y s).symm
/-- The first of a heap is the least. -/
theorem first_least (xs : List (Int × Int)) (h : IsHeap xs) : ∀ j, j < xs.length → le (at_ xs 0) (at_ xs j) := by
  intro j
  induction j using Nat.strongRecOn with
  | _ j ih =>
    intro hj
    by_cases h0 : j = 0
    · subst h0
      exact le_refl _
    · exact le_trans (ih ((j - 1) / 2) (by omega) (by omega)) (h j (by omega) hj)
theorem first_least' (xs : List (Int × Int)) (h : IsHeap xs) (q : Int × Int) (hq : q ∈ xs) : le (at_ xs 0) q := by
  obtain ⟨j, hj, rfl⟩ := List.mem_iff_getElem.1 hq
  rw [← at_eq xs j hj]
  exact first_least xs h j hj
end Go.Proofs.Ytoeglogbjcdmlaa.Heap
