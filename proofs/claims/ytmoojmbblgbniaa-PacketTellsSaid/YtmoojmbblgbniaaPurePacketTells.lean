/- The printed functions of the law PacketTells tell true for every flow and all bytes. Conditions: a flow's addresses are of 32 bits, bytes are bytes. -/
import Derived.Test.YtmoojmbblgbniaaPPacketTellsx5
import Derived.Test.YtmoojmbblgbniaaBits
namespace Go.Proofs.Ytmoojmbblgbniaa.Pure
open Go.RowKit Go.Proofs.Ytmoojmbblgbniaa.PPacketTells Go.Proofs.YtmoojmbblgbniaaW.PrintWords Go.Proofs.YtmoojmbblgbniaaW.PrintLast
open Go.Proofs.Ytmoojmbblgbniaa.Bits

def Byt (b : List Int) : Prop := ∀ c, c ∈ b → 0 ≤ c ∧ c < 256
def Within (p s d : Int) : Prop := 0 ≤ p ∧ p ≤ 255 ∧ 0 ≤ s ∧ s ≤ 65535 ∧ 0 ≤ d ∧ d ≤ 65535
def flow (a b p s d : Int) : List Int := [(a / 16777216) % 256, (a / 65536) % 256, (a / 256) % 256, a % 256, (b / 16777216) % 256, (b / 65536) % 256, (b / 256) % 256, b % 256, p % 256, (s / 256) % 256, s % 256, (d / 256) % 256, d % 256]
theorem right_yes {p s d : Int} (h : Within p s d) : packet_Right.f p s d = some true := by
  obtain ⟨h1, h2, h3, h4, h5, h6⟩ := h
  unfold packet_Right.f
  rw [if_pos h1, if_pos h2, if_pos h3, if_pos h4, if_pos h5, decide_eq_true h6]
theorem right_no {p s d : Int} (h : ¬ Within p s d) : packet_Right.f p s d = some false := by
  unfold packet_Right.f
  unfold Within at h
  repeat' split
  all_goals first | rfl | (congr 1; exact decide_eq_false (by omega))
theorem bytes_yes (a b : Int) {p s d : Int} (h : Within p s d) : packet_Bytes.f a b p s d = some (flow a b p s d) := by
  unfold packet_Bytes.f packet_word.f
  rw [right_yes h]
  rfl
theorem bytes_no (a b : Int) {p s d : Int} (h : ¬ Within p s d) : packet_Bytes.f a b p s d = some [] := by
  unfold packet_Bytes.f
  rw [right_no h]
  rfl
theorem alive_yes : waymarklaw2_alive.f 40 = some true := by
  unfold waymarklaw2_alive.f
  rw [bytes_yes 0 0 (p := 6) (s := 0) (d := 0) ⟨by decide, by decide, by decide, by decide, by decide, by decide⟩, bytes_yes 0 0 (p := 0) (s := 0) (d := 0) ⟨by decide, by decide, by decide, by decide, by decide, by decide⟩]
  decide +kernel
theorem and32_255 (x : Int) (h0 : 0 ≤ x) (h1 : x < 2 ^ 32) : Go.bits .and .u32 x 255 = x % 256 := bits_mask .u32 32 (by decide) wraps_u32 8 (by decide) x h0 h1
theorem ref_four (a : Int) (h0 : 0 ≤ a) (h1 : a < 4294967296) : ([(a / 16777216) % 256, (Go.bits .and .u32 (a / 65536) 255) % 256, (Go.bits .and .u32 (a / 256) 255) % 256, (Go.bits .and .u32 a 255) % 256] : List Int) = [(a / 16777216) % 256, (a / 65536) % 256, (a / 256) % 256, a % 256] := by
  rw [and32_255 _ (by omega) (by omega), and32_255 _ (by omega) (by omega), and32_255 _ (by omega) (by omega)]
  have e1 : a / 65536 % 256 % 256 = a / 65536 % 256 := by omega
  have e2 : a / 256 % 256 % 256 = a / 256 % 256 := by omega
  have e3 : a % 256 % 256 = a % 256 := by omega
  rw [e1, e2, e3]
theorem put_yes (a b : Int) {p s d : Int} (ha : 0 ≤ a ∧ a < 4294967296) (hb : 0 ≤ b ∧ b < 4294967296) (h : Within p s d) (k : Nat) : waymarkref1_PutTuple.f (k + 4) a b p s d = some (flow a b p s d) := by
  obtain ⟨h1, h2, h3, h4, h5, h6⟩ := id h
  unfold waymarkref1_PutTuple.f
  rw [if_neg (by omega), if_neg (by omega), if_neg (by omega), if_neg (by omega), if_neg (by omega), decide_eq_false (by omega)]
  have r0 : rd [a, b] 0 = a := rfl
  have r1 : rd [a, b] 1 = b := rfl
  have w1 : wrap64 (0 + 1) = 1 := by unfold wrap64; omega
  have w2 : wrap64 (1 + 1) = 2 := by unfold wrap64; omega
  simp only [waymarkref1_PutTuple.j0, waymarkref1_PutTuple.l0]
  rw [if_neg (by decide), if_pos (by decide), if_pos (by decide), if_pos (by simp), r0, ref_four a ha.1 ha.2, w1]
  simp only [Option.bind_some, List.nil_append]
  rw [if_pos (by simp), if_pos (by decide), if_pos (by decide), if_pos (by simp), r1, ref_four b hb.1 hb.2, w2]
  rw [if_pos (by simp), if_neg (by decide), and64_255 _ (by omega) (by omega), and64_255 _ (by omega) (by omega)]
  rw [if_pos (by simp)]
  have e1 : s % 256 % 256 = s % 256 := by omega
  have e2 : d % 256 % 256 = d % 256 := by omega
  rw [e1, e2]
  rfl
theorem put_no (a b : Int) {p s d : Int} (h : ¬ Within p s d) (k : Nat) : waymarkref1_PutTuple.f (k + 4) a b p s d = some [] := by
  unfold waymarkref1_PutTuple.f
  have J : waymarkref1_PutTuple.j0 (k + 4) true a b p s d = some [] := rfl
  unfold Within at h
  repeat' split
  all_goals first | exact J | (rw [decide_eq_true (by omega)]; exact J)
def num4 (a b c d : Int) : Int := a * 16777216 + b * 65536 + c * 256 + d
theorem or8 (n c : Int) (hn : 0 ≤ n ∧ n < 16777216) (hc : 0 ≤ c ∧ c < 256) : Go.bits .or .u32 ((n * 256) % 4294967296) (c % 4294967296) = n * 256 + c := by
  rw [or32 8 _ _ (by omega) (by omega) (by omega) (by omega) (by omega) (by omega)]
  omega
theorem wr1 : wrap64 (0 + 1) = 1 := by unfold wrap64; omega
theorem wr2 : wrap64 (1 + 1) = 2 := by unfold wrap64; omega
theorem wr3 : wrap64 (2 + 1) = 3 := by unfold wrap64; omega
theorem wr4 : wrap64 (3 + 1) = 4 := by unfold wrap64; omega
theorem number4 (a b c d : Int) (ha : 0 ≤ a ∧ a < 256) (hb : 0 ≤ b ∧ b < 256) (hc : 0 ≤ c ∧ c < 256) (hd : 0 ≤ d ∧ d < 256) (k : Nat) : packet_number.f (k + 5) [a, b, c, d] = some (num4 a b c d) := by
  have r0 : rd [a, b, c, d] 0 = a := rfl
  have r1 : rd [a, b, c, d] 1 = b := rfl
  have r2 : rd [a, b, c, d] 2 = c := rfl
  have r3 : rd [a, b, c, d] 3 = d := rfl
  unfold packet_number.f
  simp only [packet_number.l0, List.length_cons, List.length_nil]
  rw [if_pos (by omega), if_pos (by omega), if_pos (by omega), r0, or8 0 a (by omega) ha, wr1]
  rw [if_pos (by omega), if_pos (by omega), if_pos (by omega), r1, or8 _ b (by omega) hb, wr2]
  rw [if_pos (by omega), if_pos (by omega), if_pos (by omega), r2, or8 _ c (by omega) hc, wr3]
  rw [if_pos (by omega), if_pos (by omega), if_pos (by omega), r3, or8 _ d (by omega) hd, wr4]
  rw [if_neg (by omega)]
  congr 1
  unfold num4
  omega
theorem number2 (a b : Int) (ha : 0 ≤ a ∧ a < 256) (hb : 0 ≤ b ∧ b < 256) (k : Nat) : packet_number.f (k + 5) [a, b] = some (a * 256 + b) := by
  have r0 : rd [a, b] 0 = a := rfl
  have r1 : rd [a, b] 1 = b := rfl
  unfold packet_number.f
  simp only [packet_number.l0, List.length_cons, List.length_nil]
  rw [if_pos (by omega), if_pos (by omega), if_pos (by omega), r0, or8 0 a (by omega) ha, wr1]
  rw [if_pos (by omega), if_pos (by omega), if_pos (by omega), r1, or8 _ b (by omega) hb, wr2]
  rw [if_neg (by omega)]
  congr 1
  omega
/-- What Read tells. -/
def readB : List Int → Int × Int × Int × Int × Int × Int
  | [b0, b1, b2, b3, b4, b5, b6, b7, b8, b9, b10, b11, b12] => (num4 b0 b1 b2 b3, num4 b4 b5 b6 b7, b8, b9 * 256 + b10, b11 * 256 + b12, 0)
  | _ => (0, 0, 0, 0, 0, 2)
theorem thirteen (b : List Int) (h : b.length = 13) : ∃ b0 b1 b2 b3 b4 b5 b6 b7 b8 b9 b10 b11 b12, b = [b0, b1, b2, b3, b4, b5, b6, b7, b8, b9, b10, b11, b12] := by
  match b, h with
  | [b0, b1, b2, b3, b4, b5, b6, b7, b8, b9, b10, b11, b12], _ => exact ⟨b0, b1, b2, b3, b4, b5, b6, b7, b8, b9, b10, b11, b12, rfl⟩
theorem readB_not (b : List Int) (h : b.length ≠ 13) : readB b = (0, 0, 0, 0, 0, 2) := by
  unfold readB
  split
  · simp at h
  · rfl
theorem read_is (b : List Int) (hB : Byt b) (k : Nat) : packet_Read.f (k + 5) b = some (readB b) := by
  by_cases h : b.length = 13
  · obtain ⟨b0, b1, b2, b3, b4, b5, b6, b7, b8, b9, b10, b11, b12, rfl⟩ := thirteen b h
    have H : ∀ c, c ∈ [b0, b1, b2, b3, b4, b5, b6, b7, b8, b9, b10, b11, b12] → 0 ≤ c ∧ c < 256 := hB
    unfold packet_Read.f
    simp only [List.length_cons, List.length_nil, List.take_succ_cons, List.take_zero, List.drop_succ_cons, List.drop_zero]
    rw [number4 b0 b1 b2 b3 (H _ (by simp)) (H _ (by simp)) (H _ (by simp)) (H _ (by simp)), number4 b4 b5 b6 b7 (H _ (by simp)) (H _ (by simp)) (H _ (by simp)) (H _ (by simp)), number2 b9 b10 (H _ (by simp)) (H _ (by simp)), number2 b11 b12 (H _ (by simp)) (H _ (by simp))]
    have r8 : rd [b0, b1, b2, b3, b4, b5, b6, b7, b8, b9, b10, b11, b12] 8 = b8 := rfl
    have g8 := H b8 (by simp)
    have g9 := H b9 (by simp)
    have g10 := H b10 (by simp)
    have g11 := H b11 (by simp)
    have g12 := H b12 (by simp)
    rw [r8, wr64 b8 (by omega) (by omega)]
    simp only [Option.bind_some]
    rw [wr64 (b9 * 256 + b10) (by omega) (by omega), wr64 (b11 * 256 + b12) (by omega) (by omega)]
    rfl
  · unfold packet_Read.f
    rw [if_neg (by omega), readB_not b h]
theorem get_is (b : List Int) (hB : Byt b) (k : Nat) : waymarkref1_GetTuple.f (k + 5) b = some (readB b) := by
  by_cases h : b.length = 13
  · obtain ⟨b0, b1, b2, b3, b4, b5, b6, b7, b8, b9, b10, b11, b12, rfl⟩ := thirteen b h
    have H : ∀ c, c ∈ [b0, b1, b2, b3, b4, b5, b6, b7, b8, b9, b10, b11, b12] → 0 ≤ c ∧ c < 256 := hB
    unfold waymarkref1_GetTuple.f
    have r0 : rd [b0, b1, b2, b3, b4, b5, b6, b7, b8, b9, b10, b11, b12] 0 = b0 := rfl
    have r1 : rd [b0, b1, b2, b3, b4, b5, b6, b7, b8, b9, b10, b11, b12] 1 = b1 := rfl
    have r2 : rd [b0, b1, b2, b3, b4, b5, b6, b7, b8, b9, b10, b11, b12] 2 = b2 := rfl
    have r3 : rd [b0, b1, b2, b3, b4, b5, b6, b7, b8, b9, b10, b11, b12] 3 = b3 := rfl
    have r4 : rd [b0, b1, b2, b3, b4, b5, b6, b7, b8, b9, b10, b11, b12] 4 = b4 := rfl
    have r5 : rd [b0, b1, b2, b3, b4, b5, b6, b7, b8, b9, b10, b11, b12] 5 = b5 := rfl
    have r6 : rd [b0, b1, b2, b3, b4, b5, b6, b7, b8, b9, b10, b11, b12] 6 = b6 := rfl
    have r7 : rd [b0, b1, b2, b3, b4, b5, b6, b7, b8, b9, b10, b11, b12] 7 = b7 := rfl
    have r8 : rd [b0, b1, b2, b3, b4, b5, b6, b7, b8, b9, b10, b11, b12] 8 = b8 := rfl
    have r9 : rd [b0, b1, b2, b3, b4, b5, b6, b7, b8, b9, b10, b11, b12] 9 = b9 := rfl
    have r10 : rd [b0, b1, b2, b3, b4, b5, b6, b7, b8, b9, b10, b11, b12] 10 = b10 := rfl
    have r11 : rd [b0, b1, b2, b3, b4, b5, b6, b7, b8, b9, b10, b11, b12] 11 = b11 := rfl
    have r12 : rd [b0, b1, b2, b3, b4, b5, b6, b7, b8, b9, b10, b11, b12] 12 = b12 := rfl
    have g0 := H b0 (by simp)
    have g1 := H b1 (by simp)
    have g2 := H b2 (by simp)
    have g3 := H b3 (by simp)
    have g4 := H b4 (by simp)
    have g5 := H b5 (by simp)
    have g6 := H b6 (by simp)
    have g7 := H b7 (by simp)
    have g8 := H b8 (by simp)
    have g9 := H b9 (by simp)
    have g10 := H b10 (by simp)
    have g11 := H b11 (by simp)
    have g12 := H b12 (by simp)
    have w4 : wrap64 (4 + 0) = 4 := by unfold wrap64; omega
    have w5 : wrap64 (4 + 1) = 5 := by unfold wrap64; omega
    have w6 : wrap64 (4 + 2) = 6 := by unfold wrap64; omega
    have w7 : wrap64 (4 + 3) = 7 := by unfold wrap64; omega
    simp only [waymarkref1_GetTuple.l0, List.length_cons, List.length_nil]
    rw [if_pos (by omega), if_pos (by omega), if_pos (by omega), if_pos (by omega), w4, if_pos (by omega), if_pos (by omega), r0, r4, or8 0 b0 (by omega) g0, or8 0 b4 (by omega) g4, wr1]
    rw [if_pos (by omega), if_pos (by omega), if_pos (by omega), w5, if_pos (by omega), if_pos (by omega), r1, r5, or8 _ b1 (by omega) g1, or8 _ b5 (by omega) g5, wr2]
    rw [if_pos (by omega), if_pos (by omega), if_pos (by omega), w6, if_pos (by omega), if_pos (by omega), r2, r6, or8 _ b2 (by omega) g2, or8 _ b6 (by omega) g6, wr3]
    rw [if_pos (by omega), if_pos (by omega), if_pos (by omega), w7, if_pos (by omega), if_pos (by omega), r3, r7, or8 _ b3 (by omega) g3, or8 _ b7 (by omega) g7, wr4]
    rw [if_neg (by omega), if_pos (by omega), if_pos (by omega), if_pos (by omega), if_pos (by omega), if_pos (by omega), r8, r9, r10, r11, r12]
    rw [wr64 b8 (by omega) (by omega), wr64 b9 (by omega) (by omega), wr64 b10 (by omega) (by omega), wr64 b11 (by omega) (by omega), wr64 b12 (by omega) (by omega), wr64 (b9 * 256) (by omega) (by omega), wr64 (b11 * 256) (by omega) (by omega)]
    rw [or64 8 (b9 * 256) b10 (by omega) (by omega) (by omega) (by omega) (by omega) (by omega), or64 8 (b11 * 256) b12 (by omega) (by omega) (by omega) (by omega) (by omega) (by omega)]
    congr 1
    simp only [readB, num4, Prod.mk.injEq, and_true]
    omega
  · unfold waymarkref1_GetTuple.f
    rw [if_neg (by omega), readB_not b h]
theorem flow_byt (a b p s d : Int) : Byt (flow a b p s d) := by
  intro c hc
  simp only [flow, List.mem_cons, List.not_mem_nil, or_false] at hc
  omega
theorem read_flow (a b p s d : Int) (ha : 0 ≤ a ∧ a < 4294967296) (hb : 0 ≤ b ∧ b < 4294967296) (h : Within p s d) : readB (flow a b p s d) = (a, b, p, s, d, 0) := by
  obtain ⟨h1, h2, h3, h4, h5, h6⟩ := h
  simp only [readB, flow, num4, Prod.mk.injEq, and_true]
  omega
theorem PacketTells (a b p s d : Int) (l : List Int) (ha : 0 ≤ a ∧ a < 4294967296) (hb : 0 ≤ b ∧ b < 4294967296) (hB : Byt l) : ∃ k, waymarklaw2_PacketTells.f k a b p s d l = some true := by
  refine ⟨40, ?_⟩
  have J : waymarklaw2_PacketTells.j0 40 l true true a b p s d = some true := rfl
  unfold waymarklaw2_PacketTells.f
  rw [alive_yes]
  simp only [Option.bind_some, if_true]
  by_cases h1 : (l.length : Int) > 100
  · rw [decide_eq_true h1]
    exact J
  · rw [decide_eq_false h1]
    simp only [waymarklaw2_PacketTells.j0]
    rw [if_neg (by decide)]
    have hbn : ∀ x : Int × Int × Int × Int × Int × Int, (!(x.1 == x.1) || (!(x.2.1 == x.2.1) || (!(x.2.2.1 == x.2.2.1) || (!(x.2.2.2.1 == x.2.2.2.1) || (!(x.2.2.2.2.1 == x.2.2.2.2.1)))))) = false := by intro x; simp
    by_cases h : Within p s d
    · rw [bytes_yes a b h]
      simp only [Option.bind_some]
      rw [if_pos (by simp; omega), List.nil_append, read_is l hB 34, get_is l hB 34, put_yes a b ha hb h 35]
      simp only [Option.bind_some, if_true, waymarklaw2_num.f]
      rw [hbn, if_neg (by decide)]
      have hne : ((readB l).2.2.2.2.2 != (readB l).2.2.2.2.2) = false := by simp
      rw [hne]
      simp only [waymarklaw2_PacketTells.j1]
      rw [if_neg (by decide), read_is _ (flow_byt a b p s d) 33, read_flow a b p s d ha hb h]
      simp [flow, waymarklaw2_num.f]
    · rw [bytes_no a b h]
      simp only [Option.bind_some]
      rw [if_pos (by simp; omega), List.nil_append, read_is l hB 34, get_is l hB 34, put_no a b h 35]
      simp only [Option.bind_some, if_true, waymarklaw2_num.f]
      rw [hbn, if_neg (by decide)]
      have hne : ((readB l).2.2.2.2.2 != (readB l).2.2.2.2.2) = false := by simp
      rw [hne]
      simp only [waymarklaw2_PacketTells.j1]
      rw [if_neg (by decide), read_is [] (fun c hc => by cases hc) 33]
      rfl
end Go.Proofs.Ytmoojmbblgbniaa.Pure
