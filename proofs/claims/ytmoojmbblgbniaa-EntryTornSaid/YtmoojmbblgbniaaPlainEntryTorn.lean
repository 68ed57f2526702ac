/- Plain law of torn stacks: no proper part of a stack's bytes, and no stack's bytes with four or one more, is a stack. -/
import Derived.Test.YtmoojmbblgbniaaPureEntryTells
namespace Go.Proofs.Ytmoojmbblgbniaa.PlainEntryTorn
open Go.RowKit Go.Proofs.Ytmoojmbblgbniaa.PEntryTells Go.Proofs.Ytmoojmbblgbniaa.PlainEntryTells

theorem okL_get {n : Int} : ∀ (l : List S51) (i : Int), okL n i l = true → ∀ (j : Nat) (h : j < l.length), okE n (i + j) l[j] = true
  | e :: r, i, h, 0, _ => by
    simp only [okL, Bool.and_eq_true] at h
    simpa using h.1
  | e :: r, i, h, j + 1, hj => by
    simp only [okL, Bool.and_eq_true] at h
    have := okL_get r (i + 1) h.2 j (by simpa using hj)
    rw [show i + ((j + 1 : Nat) : Int) = i + 1 + (j : Int) from by omega]
    simpa using this
theorem right_get {l : List S51} (h : rightB l = true) (j : Nat) (hj : j < l.length) : l[j].f3 = decide ((j : Int) = (l.length : Int) - 1) := by
  simp only [rightB, Bool.and_eq_true] at h
  have := okL_get l 0 h.2 j hj
  simp only [okE, Bool.and_eq_true, beq_iff_eq] at this
  rw [this.2, Int.zero_add]
  rfl
theorem right_one {l : List S51} (h : rightB l = true) : 1 ≤ l.length := by
  simp only [rightB, Bool.and_eq_true, decide_eq_true_eq] at h
  omega
theorem not_right_take {l : List S51} (h : rightB l = true) (i : Nat) (hi : i < l.length) : rightB (l.take i) = false := by
  cases hr : rightB (l.take i) with
  | false => rfl
  | true =>
    have h1 := right_one hr
    rw [List.length_take] at h1
    have e1 := right_get hr (i - 1) (by rw [List.length_take]; omega)
    have e2 := right_get h (i - 1) (by omega)
    rw [List.getElem_take, e2, List.length_take] at e1
    have := decide_eq_decide.1 e1
    omega
theorem not_right_more {l : List S51} (h : rightB l = true) (e : S51) : rightB (l ++ [e]) = false := by
  cases hr : rightB (l ++ [e]) with
  | false => rfl
  | true =>
    have h1 := right_one h
    have e1 := right_get hr (l.length - 1) (by rw [List.length_append]; omega)
    have e2 := right_get h (l.length - 1) (by omega)
    rw [List.getElem_append_left (by omega), e2, List.length_append] at e1
    have := decide_eq_decide.1 e1
    simp at this
    omega
theorem getB_of {b : List Int} (h : b.length % 4 = 0 → rightB (dec b) = false) : (getB b).2 = 2 := by
  unfold getB
  split
  · rename_i hc
    rw [h hc.1] at hc
    exact absurd hc.2 (by simp)
  · rfl
theorem torn_short {l : List S51} (h : rightB l = true) (j : Nat) (hj : j < (enc l).length) : (getB ((enc l).take j)).2 = 2 := by
  refine getB_of fun h4 => ?_
  rw [enc_length] at hj
  rw [List.length_take, enc_length] at h4
  obtain ⟨i, rfl⟩ : ∃ i, j = 4 * i := ⟨j / 4, by omega⟩
  have e : (enc l).take (4 * i) = enc (l.take i) := by
    have e0 : enc l = enc (l.take i) ++ enc (l.drop i) := by rw [← enc_append, List.take_append_drop]
    rw [e0, List.take_append_of_le_length (by rw [enc_length, List.length_take]; omega), List.take_of_length_le (by rw [enc_length, List.length_take]; omega)]
  rw [e, dec_enc _ (fun x hx => right_in h x (List.mem_of_mem_take hx))]
  exact not_right_take h i (by omega)
theorem torn_four {l : List S51} (h : rightB l = true) : (getB (enc l ++ [0, 0, 1, 0])).2 = 2 := by
  refine getB_of fun _ => ?_
  have e : enc l ++ [0, 0, 1, 0] = enc (l ++ [⟨0, 0, 0, true⟩]) := by rw [enc_append]; rfl
  rw [e, dec_enc _ (fun x hx => by
    rcases List.mem_append.1 hx with hx | hx
    · exact right_in h x hx
    · have : x = ⟨0, 0, 0, true⟩ := by simpa using hx
      subst this
      rfl)]
  exact not_right_more h _
theorem torn_one {l : List S51} : (getB (enc l ++ [0])).2 = 2 := by
  refine getB_of fun h4 => ?_
  rw [List.length_append, enc_length] at h4
  simp at h4
end Go.Proofs.Ytmoojmbblgbniaa.PlainEntryTorn
