/- The printed functions of the law EntryLast tell true for every n and every place. No condition. -/
import Derived.Test.YtmoojmbblgbniaaPlainEntryLast
namespace Go.Proofs.Ytmoojmbblgbniaa.Pure
open Go.RowKit Go.Proofs.Ytmoojmbblgbniaa.PEntryLast Go.Proofs.YtmoojmbblgbniaaW.PrintWords Go.Proofs.YtmoojmbblgbniaaW.PrintLast
open Go.Proofs.Ytmoojmbblgbniaa.Bits Go.Proofs.Ytmoojmbblgbniaa.PlainEntryLast

theorem okE_z (n i : Int) : okE n i z51 = !(i == n - 1) := by
  have : inE z51 = true := by decide
  simp only [okE, this, Bool.true_and]
  show (false == (i == n - 1)) = _
  cases (i == n - 1) <;> rfl
def zl : S51 := ⟨0, 0, 0, true⟩
theorem okE_l (n i : Int) : okE n i zl = (i == n - 1) := by
  have : inE zl = true := by decide
  simp only [okE, this, Bool.true_and]
  show (true == (i == n - 1)) = _
  cases (i == n - 1) <;> rfl
theorem okL_zeros (n : Int) : ∀ (d : Nat) (i : Int), okL n i (List.replicate d z51) = decide (n ≤ i ∨ i + d < n ∨ d = 0)
  | 0, i => by simp [okL]
  | d + 1, i => by
    rw [List.replicate_succ, okL, okL_zeros n d (i + 1), okE_z, Bool.eq_iff_iff]
    simp
    omega
theorem okL_one (n : Int) : ∀ (d a : Nat) (i : Int), a < d → i + d = n → okL n i ((List.replicate d z51).set a zl) = decide (a + 1 = d)
  | 0, a, i, h, _ => by omega
  | d + 1, 0, i, _, hn => by
    rw [List.replicate_succ, List.set_cons_zero, okL, okL_zeros, okE_l, Bool.eq_iff_iff]
    simp
    omega
  | d + 1, a + 1, i, h, hn => by
    rw [List.replicate_succ, List.set_cons_succ, okL, okL_one n d a (i + 1) (by omega) (by omega), okE_z, Bool.eq_iff_iff]
    simp
    omega
theorem last_main (n at_ : Int) (h1 : 1 ≤ n) (h2 : n ≤ 50) (h3 : 0 ≤ at_) (h4 : at_ < n) : waymarklaw1_EntryLast.j0 4000 n at_ true false = some true := by
  obtain ⟨N, rfl⟩ := Int.eq_ofNat_of_zero_le (by omega : 0 ≤ n)
  obtain ⟨A, rfl⟩ := Int.eq_ofNat_of_zero_le h3
  have hA : A < N := by omega
  have r0 : rd_T51 (List.replicate N z51) (A : Int) = z51 := by
    unfold rd_T51
    simp [hA]
  have r1 : rd_T51 ((List.replicate N z51).set A zl) (A : Int) = zl := by
    unfold rd_T51
    simp [hA]
  have s1 : ((List.replicate N z51).set A zl).set A z51 = List.replicate N z51 := by
    rw [List.set_set]
    apply List.ext_getElem
    · simp
    · intro i h5 h6
      rw [List.getElem_set]
      split <;> simp
  have p1 : entry_Put.f 3999 ((List.replicate N z51).set A zl) = some (if A + 1 = N then (enc ((List.replicate N z51).set A zl), 0) else ([], 1)) := by
    rw [put_is _ (by simp; omega) 3999 (by simp; omega)]
    have : rightB ((List.replicate N z51).set A zl) = decide (A + 1 = N) := by
      unfold rightB
      rw [decide_eq_true (by simp; omega), Bool.true_and]
      have := okL_one (N : Int) N A 0 hA (by omega)
      simpa using this
    rw [this]
    by_cases h : A + 1 = N
    · rw [decide_eq_true h, if_pos rfl, if_pos h]
    · rw [decide_eq_false h, if_neg (by decide), if_neg h]
  have p2 : entry_Put.f 3999 (List.replicate N z51) = some ([], 1) := by
    rw [put_is _ (by simp; omega) 3999 (by simp; omega)]
    have : rightB (List.replicate N z51) = false := by
      unfold rightB
      have h := okL_zeros (N : Int) N 0
      rw [List.length_replicate, h, Bool.eq_iff_iff]
      simp
      omega
    rw [this]
    rfl
  have e0 : wrap64 ((N : Int) - 1) = (N : Int) - 1 := wr64 _ (by omega) (by omega)
  simp only [waymarklaw1_EntryLast.j0]
  rw [if_neg (by decide), if_pos (by omega), if_pos (by omega)]
  simp only [Option.bind_some, Int.toNat_natCast, List.length_replicate]
  rw [if_pos h3, if_pos h4, r0]
  have z1 : (⟨z51.f0, z51.f1, z51.f2, true⟩ : S51) = zl := rfl
  rw [z1, r1]
  have z2 : (⟨zl.f0, zl.f1, zl.f2, false⟩ : S51) = z51 := rfl
  rw [z2, s1, p1, p2, e0]
  simp only [Option.bind_some, waymarklaw1_num.f]
  by_cases h : A + 1 = N
  · rw [if_pos h, beq_iff_eq.2 (show (A : Int) = (N : Int) - 1 by omega)]
    rfl
  · rw [if_neg h, beq_eq_false_iff_ne.2 (show (A : Int) ≠ (N : Int) - 1 by omega)]
    rfl
theorem EntryLast : waymarklaw1_EntryLast.Pure := by
  intro n at_ hn ha
  refine ⟨4000, ?_⟩
  have J : waymarklaw1_EntryLast.j0 4000 n at_ true true = some true := rfl
  unfold waymarklaw1_EntryLast.f
  rw [alive_is 4000 (by omega)]
  simp only [Option.bind_some, if_true]
  by_cases h : 1 ≤ n ∧ n ≤ 50 ∧ 0 ≤ at_ ∧ at_ < n
  · rw [if_neg (by omega), if_neg (by omega), if_neg (by omega), decide_eq_false (by omega)]
    exact last_main n at_ h.1 h.2.1 h.2.2.1 h.2.2.2
  · repeat' split
    all_goals first | exact J | (rw [decide_eq_true (by omega)]; exact J)

end Go.Proofs.Ytmoojmbblgbniaa.Pure
