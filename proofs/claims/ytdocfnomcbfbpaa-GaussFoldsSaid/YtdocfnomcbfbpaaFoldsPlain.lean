/- The printed functions that the law GaussFolds reaches, in plain words: a tuple's bytes, and the fold. Conditions: addresses of 32 bits, bytes are bytes. -/
import Derived.Test.YtdocfnomcbfbpaaPGaussFoldsx2
import Derived.Test.YtdocfnomcbfbpaaBits
import Derived.Test.YtdocfnomcbfbpaaFold
namespace Go.Proofs.Ytdocfnomcbfbpaa.Gauss
open Go.RowKit Go.Proofs.Ytdocfnomcbfbpaa.PGaussFolds Go.Proofs.YtdocfnomcbfbpaaW.PrintWords Go.Proofs.YtdocfnomcbfbpaaW.PrintLast
open Go.Proofs.Ytdocfnomcbfbpaa.Bits

def Within (p s d : Int) : Prop := 0 ≤ p ∧ p ≤ 255 ∧ 0 ≤ s ∧ s ≤ 65535 ∧ 0 ≤ d ∧ d ≤ 65535
def flow (a b p s d : Int) : List Int := [(a / 16777216) % 256, (a / 65536) % 256, (a / 256) % 256, a % 256, (b / 16777216) % 256, (b / 65536) % 256, (b / 256) % 256, b % 256, p % 256, (s / 256) % 256, s % 256, (d / 256) % 256, d % 256]
theorem right_yes {p s d : Int} (h : Within p s d) : packet_Right.f p s d = some true := by
  obtain ⟨h1, h2, h3, h4, h5, h6⟩ := h
  unfold packet_Right.f
  rw [if_pos h1, if_pos h2, if_pos h3, if_pos h4, if_pos h5, decide_eq_true h6]
theorem right_no {p s d : Int} (h : ¬ Within p s d) : packet_Right.f p s d = some false := by
  unfold packet_Right.f
  unfold Within at h
  repeat' split
  all_goals first | rfl | (congr 1; exact decide_eq_false (by omega))
theorem bytes_yes (a b : Int) {p s d : Int} (h : Within p s d) : packet_Bytes.f a b p s d = some (flow a b p s d) := by
  unfold packet_Bytes.f packet_word.f
  rw [right_yes h]
  rfl
theorem bytes_no (a b : Int) {p s d : Int} (h : ¬ Within p s d) : packet_Bytes.f a b p s d = some [] := by
  unfold packet_Bytes.f
  rw [right_no h]
  rfl
theorem and32_255 (x : Int) (h0 : 0 ≤ x) (h1 : x < 2 ^ 32) : Go.bits .and .u32 x 255 = x % 256 := bits_mask .u32 32 (by decide) wraps_u32 8 (by decide) x h0 h1
theorem ref_four (a : Int) (h0 : 0 ≤ a) (h1 : a < 4294967296) : ([(a / 16777216) % 256, (Go.bits .and .u32 (a / 65536) 255) % 256, (Go.bits .and .u32 (a / 256) 255) % 256, (Go.bits .and .u32 a 255) % 256] : List Int) = [(a / 16777216) % 256, (a / 65536) % 256, (a / 256) % 256, a % 256] := by
  rw [and32_255 _ (by omega) (by omega), and32_255 _ (by omega) (by omega), and32_255 _ (by omega) (by omega)]
  have e1 : a / 65536 % 256 % 256 = a / 65536 % 256 := by omega
  have e2 : a / 256 % 256 % 256 = a / 256 % 256 := by omega
  have e3 : a % 256 % 256 = a % 256 := by omega
  rw [e1, e2, e3]
theorem put_yes (a b : Int) {p s d : Int} (ha : 0 ≤ a ∧ a < 4294967296) (hb : 0 ≤ b ∧ b < 4294967296) (h : Within p s d) (k : Nat) : waymarkref1_PutTuple.f (k + 4) a b p s d = some (flow a b p s d) := by
  obtain ⟨h1, h2, h3, h4, h5, h6⟩ := id h
  unfold waymarkref1_PutTuple.f
  rw [if_neg (by omega), if_neg (by omega), if_neg (by omega), if_neg (by omega), if_neg (by omega), decide_eq_false (by omega)]
  have r0 : rd [a, b] 0 = a := rfl
  have r1 : rd [a, b] 1 = b := rfl
  have w1 : wrap64 (0 + 1) = 1 := by unfold wrap64; omega
  have w2 : wrap64 (1 + 1) = 2 := by unfold wrap64; omega
  simp only [waymarkref1_PutTuple.j0, waymarkref1_PutTuple.l0]
  rw [if_neg (by decide), if_pos (by decide), if_pos (by decide), if_pos (by simp), r0, ref_four a ha.1 ha.2, w1]
  simp only [Option.bind_some, List.nil_append]
  rw [if_pos (by simp), if_pos (by decide), if_pos (by decide), if_pos (by simp), r1, ref_four b hb.1 hb.2, w2]
  rw [if_pos (by simp), if_neg (by decide), and64_255 _ (by omega) (by omega), and64_255 _ (by omega) (by omega)]
  rw [if_pos (by simp)]
  have e1 : s % 256 % 256 = s % 256 := by omega
  have e2 : d % 256 % 256 = d % 256 := by omega
  rw [e1, e2]
  rfl
theorem put_no (a b : Int) {p s d : Int} (h : ¬ Within p s d) (k : Nat) : waymarkref1_PutTuple.f (k + 4) a b p s d = some [] := by
  unfold waymarkref1_PutTuple.f
  have J : waymarkref1_PutTuple.j0 (k + 4) true a b p s d = some [] := rfl
  unfold Within at h
  repeat' split
  all_goals first | exact J | (rw [decide_eq_true (by omega)]; exact J)
theorem flow_byt (a b p s d : Int) : Byt (flow a b p s d) := by
  intro c hc
  simp only [flow, List.mem_cons, List.not_mem_nil, or_false] at hc
  omega
theorem fold_l0 (xs : List Int) (hB : Byt xs) (hl : xs.length ≤ 1000) (j : Nat) : ∀ (n i : Nat) (p : Int × Int), In p → xs.length = i + n → waymarkref1_Fold.l0 (j + n + 1) xs p.1 p.2 (i : Int) = some ((xs.drop i).foldl step p)
  | 0, i, p, hp, h => by
    unfold waymarkref1_Fold.l0
    rw [if_neg (by omega), List.drop_of_length_le (by omega)]
    rfl
  | n + 1, i, p, hp, h => by
    obtain ⟨h1, h2, h3, h4⟩ := hp
    unfold waymarkref1_Fold.l0
    rw [if_pos (by omega), if_pos (by omega)]
    have hi : i < xs.length := by omega
    have e : rd xs (i : Int) = xs[i] := by simp [rd, hi]
    have hc := hB xs[i] (List.getElem_mem hi)
    rw [e, List.drop_eq_getElem_cons hi, List.foldl_cons]
    generalize xs[i] = c at hc
    have e1 : (Int.tmod (wrap64 ((wrap64 ((wrap64 (3 * p.1)) + (wrap64 (2 * (wrap64 (65521 - p.2)))))) + (wrap64 c))) 65521) = (step p c).1 := by
      rw [wr64 (3 * p.1) (by omega) (by omega), wr64 (65521 - p.2) (by omega) (by omega), wr64 (2 * (65521 - p.2)) (by omega) (by omega), wr64 (3 * p.1 + 2 * (65521 - p.2)) (by omega) (by omega), wr64 c (by omega) (by omega), wr64 (3 * p.1 + 2 * (65521 - p.2) + c) (by omega) (by omega), Int.tmod_eq_emod_of_nonneg (by omega)]
      show _ = md (md (p.1 * 3 - p.2 * 2) + c)
      unfold md
      omega
    have e2 : (Int.tmod (wrap64 ((wrap64 ((wrap64 (2 * p.1)) + (wrap64 (3 * p.2)))) + 1)) 65521) = (step p c).2 := by
      rw [wr64 (2 * p.1) (by omega) (by omega), wr64 (3 * p.2) (by omega) (by omega), wr64 (2 * p.1 + 3 * p.2) (by omega) (by omega), wr64 (2 * p.1 + 3 * p.2 + 1) (by omega) (by omega), Int.tmod_eq_emod_of_nonneg (by omega)]
      show _ = md (md (p.1 * 2 + p.2 * 3) + 1)
      unfold md
      omega
    have e3 : wrap64 ((i : Int) + 1) = ((i + 1 : Nat) : Int) := by rw [wr64 _ (by omega) (by omega)]; omega
    rw [e1, e2, e3]
    exact fold_l0 xs hB hl j n (i + 1) (step p c) (step_in p c) (by omega)
theorem ref_fold (xs : List Int) (hB : Byt xs) (hl : xs.length ≤ 1000) (j : Nat) : waymarkref1_Fold.f (j + 1001) xs = some (fold xs) := by
  obtain ⟨m, hm⟩ : ∃ m, j + 1001 = m + xs.length + 1 := ⟨j + 1000 - xs.length, by omega⟩
  rw [hm]
  exact fold_l0 xs hB hl m xs.length 0 (1, 0) ⟨by decide, by decide, by decide, by decide⟩ (by omega)
/-- What a tuple's bytes are, and that both functions tell the same. -/
theorem bytes_any (a b p s d : Int) (ha : 0 ≤ a ∧ a < 4294967296) (hb : 0 ≤ b ∧ b < 4294967296) : ∃ r, Byt r ∧ r.length ≤ 13 ∧ packet_Bytes.f a b p s d = some r ∧ ∀ k, waymarkref1_PutTuple.f (k + 4) a b p s d = some r := by
  by_cases h : Within p s d
  · exact ⟨flow a b p s d, flow_byt a b p s d, by simp [flow], bytes_yes a b h, put_yes a b ha hb h⟩
  · exact ⟨[], fun c hc => by simp at hc, by simp, bytes_no a b h, put_no a b h⟩
theorem ref_hash (a b p s d : Int) (r : List Int) (hB : Byt r) (hl : r.length ≤ 13) (hp : ∀ k, waymarkref1_PutTuple.f (k + 4) a b p s d = some r) : waymarkref1_Hash.f 1001 a b p s d = some ((fold r).1 * 7 + (fold r).2) := by
  obtain ⟨h1, h2, h3, h4⟩ := fold_in r
  unfold waymarkref1_Hash.f
  rw [hp 997, Option.bind_some, ref_fold r hB (by omega) 0, Option.bind_some, wr64 (7 * (fold r).1) (by omega) (by omega), wr64 _ (by omega) (by omega), Int.mul_comm]
end Go.Proofs.Ytdocfnomcbfbpaa.Gauss
