/- The reference's own functions on stacks, over the printed functions of EntryTells: they tell the same as Put and Get do. Conditions: a stack is shorter than 2^31 entries, bytes are bytes. -/
import Derived.Test.YtmoojmbblgbniaaPlainEntryTells
namespace Go.Proofs.Ytmoojmbblgbniaa.PlainEntryTells
open Go.RowKit Go.Proofs.Ytmoojmbblgbniaa.PEntryTells Go.Proofs.YtmoojmbblgbniaaW.PrintWords Go.Proofs.YtmoojmbblgbniaaW.PrintLast
open Go.Proofs.Ytmoojmbblgbniaa.Bits

theorem ref_word (e : S51) (h : inE e = true) (c : Int) (hc : c = 0 ∨ c = 1) : (Go.bits .or .i64 (Go.bits .or .i64 (Go.bits .or .i64 (wrap64 (e.f0 * 4096)) (wrap64 (e.f1 * 512))) (c * 256)) e.f2) = e.f0 * 4096 + e.f1 * 512 + c * 256 + e.f2 := by
  obtain ⟨h1, h2, h3, h4, h5, h6⟩ := inE_iff h
  rw [wr64 (e.f0 * 4096) (by omega) (by omega), wr64 (e.f1 * 512) (by omega) (by omega)]
  rw [or64 12 (e.f0 * 4096) (e.f1 * 512) (by omega) (by omega) (by omega) (by omega) (by omega) (by omega)]
  rw [or64 9 (e.f0 * 4096 + e.f1 * 512) (c * 256) (by omega) (by omega) (by omega) (by omega) (by omega) (by omega)]
  rw [or64 8 (e.f0 * 4096 + e.f1 * 512 + c * 256) e.f2 (by omega) (by omega) (by omega) (by omega) (by omega) (by omega)]
theorem ref_bytes (e : S51) (h : inE e = true) (c : Int) (hc : c = if e.f3 = true then 1 else 0) (x : Int) (hx : x = e.f0 * 4096 + e.f1 * 512 + c * 256 + e.f2) :
    ([(x / 16777216) % 256, (Go.bits .and .i64 (x / 65536) 255) % 256, (Go.bits .and .i64 (x / 256) 255) % 256, (Go.bits .and .i64 x 255) % 256] : List Int) = encE e := by
  obtain ⟨h1, h2, h3, h4, h5, h6⟩ := inE_iff h
  have hc01 : c = 0 ∨ c = 1 := by rw [hc]; split <;> omega
  rw [and64_255 _ (by omega) (by omega), and64_255 _ (by omega) (by omega), and64_255 _ (by omega) (by omega)]
  unfold encE
  rw [← hc]
  congr 1
  · omega
  congr 1
  · omega
  congr 1
  · omega
  congr 1
  omega
theorem ref_j2 (l : List S51) (acc : List Int) (i : Int) (k : Nat) (e : S51) (bad : Bool) (h : bad = false → inE e = true) (ha : acc.length ≤ 5000) :
    waymarkref1_PutEntries.j2 (k + 1) l acc i bad e.f0 e.f1 e.f2 e.f3 = if bad = true then some ([], 1) else waymarkref1_PutEntries.l0 k l (acc ++ encE e) (wrap64 (i + 1)) := by
  simp only [waymarkref1_PutEntries.j2]
  cases bad with
  | true => rfl
  | false =>
    have hin := h rfl
    have hlen : (encE e).length = 4 := rfl
    simp only [Option.bind_some, Bool.false_eq_true, if_false]
    rw [ref_word e hin 1 (.inr rfl), ref_word e hin 0 (.inl rfl)]
    by_cases hf : e.f3 = true
    · rw [if_pos hf, ref_bytes e hin 1 (by rw [if_pos hf]) _ rfl, if_pos (by rw [hlen]; omega)]
    · rw [if_neg hf, ref_bytes e hin 0 (by rw [if_neg hf]) _ rfl, if_pos (by rw [hlen]; omega)]
theorem ref_l0 (l : List S51) (hl : l.length ≤ 1000) : ∀ (d k i : Nat) (acc : List Int), i + d = l.length → acc.length = 4 * i → 2 * d < k →
    waymarkref1_PutEntries.l0 k l acc (i : Int) = some (if okL l.length i (l.drop i) = true then (acc ++ enc (l.drop i), 0) else ([], 1)) := by
  intro d
  induction d with
  | zero =>
    intro k i acc hi ha hk
    obtain ⟨k, rfl⟩ : ∃ m, k = m + 1 := ⟨k - 1, by omega⟩
    simp only [waymarkref1_PutEntries.l0]
    rw [if_neg (by omega), List.drop_of_length_le (by omega)]
    simp [enc, okL]
  | succ d ih =>
    intro k i acc hi ha hk
    obtain ⟨k, rfl⟩ : ∃ m, k = m + 1 + 1 := ⟨k - 2, by omega⟩
    have hlt : i < l.length := by omega
    have e1 : wrap64 ((i : Int) + 1) = ((i + 1 : Nat) : Int) := by rw [wr64 _ (by omega) (by omega)]; omega
    have e2 : wrap64 ((l.length : Int) - 1) = (l.length : Int) - 1 := wr64 _ (by omega) (by omega)
    have hlen : (encE l[i]).length = 4 := rfl
    have hI := ih k (i + 1) (acc ++ encE l[i]) (by omega) (by rw [List.length_append, hlen]; omega) (by omega)
    have main : ∀ bad : Bool, bad = !okE l.length i l[i] → waymarkref1_PutEntries.j2 (k + 1) l acc (i : Int) bad l[i].f0 l[i].f1 l[i].f2 l[i].f3 = some (if okL l.length i (l.drop i) = true then (acc ++ enc (l.drop i), 0) else ([], 1)) := by
      intro bad hb
      rw [ref_j2 l acc i k l[i] bad (fun h => ?_) (by omega), e1, hI, List.drop_eq_getElem_cons hlt, okL, enc]
      · have e3 : ((i + 1 : Nat) : Int) = (i : Int) + 1 := by omega
        rw [hb, e3]
        cases hok : okE l.length i l[i]
        · simp
        · simp [List.append_assoc]
      · rw [hb] at h
        simp only [okE, Bool.not_eq_false', Bool.and_eq_true] at h
        exact h.1
    simp only [waymarkref1_PutEntries.l0]
    rw [if_pos (by omega), if_pos (by omega), at51 l i hlt, e2]
    have bad_of : ¬ (0 ≤ l[i].f0 ∧ l[i].f0 ≤ 1048575 ∧ 0 ≤ l[i].f1 ∧ l[i].f1 ≤ 7 ∧ 0 ≤ l[i].f2 ∧ l[i].f2 ≤ 255) → (true : Bool) = !okE l.length i l[i] := by
      intro h
      have : inE l[i] = false := by
        cases hh : inE l[i] with
        | false => rfl
        | true => exact absurd (inE_iff hh) h
      simp only [okE, this, Bool.false_and, Bool.not_false]
    generalize some (if okL l.length i (l.drop i) = true then (acc ++ enc (l.drop i), (0 : Int)) else ([], 1)) = R at main ⊢
    repeat' split
    all_goals first | exact main true (bad_of (by omega)) | skip
    refine main _ ?_
    have : inE l[i] = true := by
      simp only [inE, Bool.and_eq_true, decide_eq_true_eq]
      omega
    simp only [okE, this, Bool.true_and]
    cases (l[i].f3 : Bool) <;> cases ((i : Int) == (l.length : Int) - 1) <;> rfl
theorem ref_is (l : List S51) (k : Nat) (hk : 2 * 1000 + 2 < k) : waymarkref1_PutEntries.f k l = some (if rightB l = true then (enc l, 0) else ([], 1)) := by
  obtain ⟨k, rfl⟩ : ∃ m, k = m + 1 := ⟨k - 1, by omega⟩
  unfold waymarkref1_PutEntries.f rightB
  by_cases h1 : (l.length : Int) < 1
  · rw [if_pos h1, decide_eq_false (by omega)]
    rfl
  · rw [if_neg h1]
    by_cases h2 : (l.length : Int) > 1000
    · rw [decide_eq_true h2, decide_eq_false (by omega)]
      rfl
    · rw [decide_eq_false h2, decide_eq_true (by omega)]
      simp only [waymarkref1_PutEntries.j0]
      rw [if_neg (by decide)]
      have := ref_l0 l (by omega) l.length k 0 [] (by omega) (by simp) (by omega)
      simpa using this
end Go.Proofs.Ytmoojmbblgbniaa.PlainEntryTells
