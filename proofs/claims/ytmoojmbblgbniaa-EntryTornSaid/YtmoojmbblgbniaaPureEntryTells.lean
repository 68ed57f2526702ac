/- The printed functions of the law EntryTells tell true for every stack and all bytes. Condition: bytes are bytes. -/
import Derived.Test.YtmoojmbblgbniaaRefEntryTells
namespace Go.Proofs.Ytmoojmbblgbniaa.Pure
open Go.RowKit Go.Proofs.Ytmoojmbblgbniaa.PEntryTells Go.Proofs.YtmoojmbblgbniaaW.PrintWords Go.Proofs.YtmoojmbblgbniaaW.PrintLast
open Go.Proofs.Ytmoojmbblgbniaa.Bits Go.Proofs.Ytmoojmbblgbniaa.PlainEntryTells

theorem refget_entry (a b c d : Int) (ha : 0 ≤ a ∧ a < 256) (hb : 0 ≤ b ∧ b < 256) (hc : 0 ≤ c ∧ c < 256) (hd : 0 ≤ d ∧ d < 256) :
    (⟨(Go.bits .or .i64 (Go.bits .or .i64 (Go.bits .or .i64 (wrap64 ((wrap64 a) * 16777216)) (wrap64 ((wrap64 b) * 65536))) (wrap64 ((wrap64 c) * 256))) (wrap64 d)) / 4096, Go.bits .and .i64 ((Go.bits .or .i64 (Go.bits .or .i64 (Go.bits .or .i64 (wrap64 ((wrap64 a) * 16777216)) (wrap64 ((wrap64 b) * 65536))) (wrap64 ((wrap64 c) * 256))) (wrap64 d)) / 512) 7, Go.bits .and .i64 (Go.bits .or .i64 (Go.bits .or .i64 (Go.bits .or .i64 (wrap64 ((wrap64 a) * 16777216)) (wrap64 ((wrap64 b) * 65536))) (wrap64 ((wrap64 c) * 256))) (wrap64 d)) 255, ((Go.bits .and .i64 ((Go.bits .or .i64 (Go.bits .or .i64 (Go.bits .or .i64 (wrap64 ((wrap64 a) * 16777216)) (wrap64 ((wrap64 b) * 65536))) (wrap64 ((wrap64 c) * 256))) (wrap64 d)) / 256) 1) == 1)⟩ : S51) = decE a b c d := by
  rw [wr64 a (by omega) (by omega), wr64 b (by omega) (by omega), wr64 c (by omega) (by omega), wr64 d (by omega) (by omega), wr64 (a * 16777216) (by omega) (by omega), wr64 (b * 65536) (by omega) (by omega), wr64 (c * 256) (by omega) (by omega)]
  rw [or64 24 (a * 16777216) (b * 65536) (by omega) (by omega) (by omega) (by omega) (by omega) (by omega)]
  rw [or64 16 (a * 16777216 + b * 65536) (c * 256) (by omega) (by omega) (by omega) (by omega) (by omega) (by omega)]
  rw [or64 8 (a * 16777216 + b * 65536 + c * 256) d (by omega) (by omega) (by omega) (by omega) (by omega) (by omega)]
  rw [and64_7 _ (by omega) (by omega), and64_255 _ (by omega) (by omega), and64_1 _ (by omega) (by omega)]
  unfold decE
  have e1 : (a * 16777216 + b * 65536 + c * 256 + d) / 4096 = a * 4096 + b * 16 + c / 16 := by omega
  have e2 : (a * 16777216 + b * 65536 + c * 256 + d) / 512 % 8 = c / 2 % 8 := by omega
  have e3 : (a * 16777216 + b * 65536 + c * 256 + d) % 256 = d := by omega
  have e4 : (a * 16777216 + b * 65536 + c * 256 + d) / 256 % 2 = c % 2 := by omega
  rw [e1, e2, e3, e4]
theorem rd_drop (b : List Int) (i m : Nat) : rd b (((i + m : Nat)) : Int) = (b.drop i).getD m 0 := by
  unfold rd
  rw [Int.toNat_natCast, List.getD_eq_getElem?_getD, List.getD_eq_getElem?_getD, List.getElem?_drop]
theorem refget_l0 (b : List Int) (hB : Byt b) (hl : b.length ≤ 4000) : ∀ (d k j : Nat) (acc : List S51), 4 * j + 4 * d = b.length → acc.length = j → d + 2003 < k →
    waymarkref1_GetEntries.l0 k b acc ((4 * j : Nat) : Int) = some (if rightB (acc ++ dec (b.drop (4 * j))) = true then (acc ++ dec (b.drop (4 * j)), 0) else ([], 2)) := by
  intro d
  induction d with
  | zero =>
    intro k j acc hj ha hk
    obtain ⟨k, rfl⟩ : ∃ m, k = m + 1 := ⟨k - 1, by omega⟩
    simp only [waymarkref1_GetEntries.l0]
    rw [if_neg (by omega), List.drop_of_length_le (by omega), ref_is acc k (by omega)]
    simp only [Option.bind_some, dec, List.append_nil]
    by_cases h : rightB acc = true
    · rw [if_pos h, if_pos h]
      rfl
    · rw [if_neg h, if_neg h]
      rfl
  | succ d ih =>
    intro k j acc hj ha hk
    obtain ⟨k, rfl⟩ : ∃ m, k = m + 1 := ⟨k - 1, by omega⟩
    obtain ⟨x, y, z, t, r, hr, _⟩ := four_of (b := b.drop (4 * j)) (by rw [List.length_drop]; omega) (by rw [List.length_drop]; omega)
    have hBd : Byt (b.drop (4 * j)) := fun c hc => hB c (List.mem_of_mem_drop hc)
    rw [hr] at hBd
    obtain ⟨hx, hy, hz, ht, _⟩ := byt_tail4 hBd
    have hrd : b.drop (4 * (j + 1)) = r := by
      have : b.drop (4 * (j + 1)) = (b.drop (4 * j)).drop 4 := by rw [List.drop_drop]; rfl
      rw [this, hr]
      rfl
    have hI := ih k (j + 1) (acc ++ [decE x y z t]) (by omega) (by simp [ha]) (by omega)
    rw [hrd] at hI
    have w1 : wrap64 (((4 * j : Nat) : Int) + 1) = ((4 * j + 1 : Nat) : Int) := by rw [wr64 _ (by omega) (by omega)]; omega
    have w2 : wrap64 (((4 * j : Nat) : Int) + 2) = ((4 * j + 2 : Nat) : Int) := by rw [wr64 _ (by omega) (by omega)]; omega
    have w3 : wrap64 (((4 * j : Nat) : Int) + 3) = ((4 * j + 3 : Nat) : Int) := by rw [wr64 _ (by omega) (by omega)]; omega
    have w4 : wrap64 (((4 * j : Nat) : Int) + 4) = ((4 * (j + 1) : Nat) : Int) := by rw [wr64 _ (by omega) (by omega)]; omega
    have r0 : rd b ((4 * j : Nat) : Int) = x := by have := rd_drop b (4 * j) 0; rw [hr] at this; simpa using this
    have r1 : rd b ((4 * j + 1 : Nat) : Int) = y := by rw [rd_drop b (4 * j) 1, hr]; rfl
    have r2 : rd b ((4 * j + 2 : Nat) : Int) = z := by rw [rd_drop b (4 * j) 2, hr]; rfl
    have r3 : rd b ((4 * j + 3 : Nat) : Int) = t := by rw [rd_drop b (4 * j) 3, hr]; rfl
    simp only [waymarkref1_GetEntries.l0]
    rw [w1, w2, w3, w4, r0, r1, r2, r3, refget_entry x y z t hx hy hz ht]
    rw [if_pos (by omega), if_pos (by omega), if_pos (by omega), if_pos (by omega), if_pos (by omega), if_pos (by omega), if_pos (by omega), if_pos (by omega), if_pos (by omega), hI, hr, List.append_assoc]
    rfl
theorem refget_is (b : List Int) (hB : Byt b) (k : Nat) (hk : 4000 ≤ k) : waymarkref1_GetEntries.f k b = some (getB b) := by
  obtain ⟨k, rfl⟩ : ∃ m, k = m + 1 := ⟨k - 1, by omega⟩
  have bad : ¬ (b.length % 4 = 0 ∧ b.length ≠ 0 ∧ b.length ≤ 4000) → getB b = ([], 2) := by
    intro h
    unfold getB
    rw [if_neg]
    rintro ⟨h1, h2⟩
    have h3 := right_len h2
    rw [dec_length (b.length / 4) b (by omega)] at h3
    omega
  have J : waymarkref1_GetEntries.j0 (k + 1) b true = some ([], 2) := rfl
  unfold waymarkref1_GetEntries.f
  by_cases h : b.length % 4 = 0
  · rw [if_pos (by omega)]
    by_cases h0 : b.length = 0
    · rw [if_pos (by omega), J, bad (by omega)]
    · rw [if_neg (by omega)]
      by_cases h4 : (b.length : Int) > 4000
      · rw [decide_eq_true h4, J, bad (by omega)]
      · rw [decide_eq_false h4]
        simp only [waymarkref1_GetEntries.j0]
        rw [if_neg (by decide)]
        have := refget_l0 b hB (by omega) (b.length / 4) k 0 [] (by omega) rfl (by omega)
        simp only [Nat.mul_zero, List.drop_zero, List.nil_append] at this
        unfold getB
        simpa [h] using this
  · rw [if_neg (by omega), J, bad (by omega)]
theorem same_l0 (l : List S51) (hl : l.length ≤ 2000) : ∀ (d k i : Nat), i + d = l.length → d < k → waymarklaw1_same.l0 k l l (i : Int) = some true := by
  intro d
  induction d with
  | zero =>
    intro k i hi hk
    obtain ⟨k, rfl⟩ : ∃ m, k = m + 1 := ⟨k - 1, by omega⟩
    simp only [waymarklaw1_same.l0]
    rw [if_neg (by omega)]
  | succ d ih =>
    intro k i hi hk
    obtain ⟨k, rfl⟩ : ∃ m, k = m + 1 := ⟨k - 1, by omega⟩
    have e1 : wrap64 ((i : Int) + 1) = ((i + 1 : Nat) : Int) := by rw [wr64 _ (by omega) (by omega)]; omega
    simp only [waymarklaw1_same.l0]
    rw [if_pos (by omega), if_pos (by omega), if_pos (by omega), e1, ih k (i + 1) (by omega) (by omega)]
    simp
theorem same_is (l : List S51) (hl : l.length ≤ 2000) (k : Nat) (hk : 2001 < k) : waymarklaw1_same.f k l l = some true := by
  unfold waymarklaw1_same.f
  rw [if_pos rfl]
  exact same_l0 l hl l.length k 0 (by omega) (by omega)
theorem getB_len (b : List Int) : (getB b).1.length ≤ 2000 := by
  unfold getB
  split
  · rename_i h
    have := right_len h.2
    show (dec b).length ≤ 2000
    omega
  · simp
theorem EntryTells (l : List S51) (b : List Int) (hB : Byt b) : ∃ k, waymarklaw1_EntryTells.f k l b = some true := by
  refine ⟨6002, ?_⟩
  have J : waymarklaw1_EntryTells.j0 6002 l b true true = some true := rfl
  unfold waymarklaw1_EntryTells.f
  rw [alive_is 6002 (by omega)]
  simp only [Option.bind_some, if_true]
  by_cases h1 : (l.length : Int) > 1100
  · rw [if_pos h1]
    exact J
  · rw [if_neg h1]
    by_cases h2 : (b.length : Int) > 5000
    · rw [decide_eq_true h2]
      exact J
    · rw [decide_eq_false h2]
      simp only [waymarklaw1_EntryTells.j0]
      rw [if_neg (by decide), if_pos (by simp; omega)]
      rw [List.nil_append, List.nil_append, put_is l (by omega) 6001 (by omega), ref_is l 6001 (by omega)]
      simp only [Option.bind_some]
      rw [if_pos (by simp; omega), get_is b hB (by omega) 6001 (by omega), refget_is b hB 6001 (by omega)]
      simp only [Option.bind_some, waymarklaw1_num.f, if_true]
      rw [same_is _ (getB_len b) 6001 (by omega)]
      simp only [Option.bind_some, if_true]
      have hne : ((getB b).2 != (getB b).2) = false := by simp
      rw [hne]
      simp only [waymarklaw1_EntryTells.j1]
      rw [if_neg (by decide)]
      by_cases hr : rightB l = true
      · rw [if_pos hr]
        have hin := right_in hr
        have hlen := right_len hr
        have hd := dec_enc l hin
        have hg : getB (enc l) = (l, 0) := by
          unfold getB
          rw [hd, if_pos ⟨by rw [enc_length]; omega, hr⟩]
        simp only [if_true]
        rw [get_is (enc l) (enc_byt l hin) (by rw [enc_length]; omega) 6000 (by omega), hg]
        simp only [Option.bind_some, waymarklaw1_num.f, if_true]
        rw [same_is l (by omega) 6000 (by omega)]
        rfl
      · rw [if_neg hr]
        rfl
end Go.Proofs.Ytmoojmbblgbniaa.Pure
