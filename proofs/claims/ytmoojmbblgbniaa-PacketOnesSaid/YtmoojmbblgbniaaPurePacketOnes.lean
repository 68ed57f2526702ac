/- The printed functions of the law PacketOnes tell true for every flow of numbers. No condition. -/
import Derived.Test.YtmoojmbblgbniaaPPacketOnesx2
import Derived.Test.YtmoojmbblgbniaaBits
namespace Go.Proofs.Ytmoojmbblgbniaa.Pure
open Go.RowKit Go.Proofs.Ytmoojmbblgbniaa.PPacketOnes Go.Proofs.YtmoojmbblgbniaaW.PrintWords Go.Proofs.YtmoojmbblgbniaaW.PrintLast
open Go.Proofs.Ytmoojmbblgbniaa.Bits

def Within (p s d : Int) : Prop := 0 ≤ p ∧ p ≤ 255 ∧ 0 ≤ s ∧ s ≤ 65535 ∧ 0 ≤ d ∧ d ≤ 65535
theorem right_yes {p s d : Int} (h : Within p s d) : packet_Right.f p s d = some true := by
  obtain ⟨h1, h2, h3, h4, h5, h6⟩ := h
  unfold packet_Right.f
  rw [if_pos h1, if_pos h2, if_pos h3, if_pos h4, if_pos h5, decide_eq_true h6]
theorem right_no {p s d : Int} (h : ¬ Within p s d) : packet_Right.f p s d = some false := by
  unfold packet_Right.f
  unfold Within at h
  repeat' split
  all_goals first | rfl | (congr 1; exact decide_eq_false (by omega))
theorem bytes_yes (a b : Int) {p s d : Int} (h : Within p s d) : packet_Bytes.f a b p s d = some [(a / 16777216) % 256, (a / 65536) % 256, (a / 256) % 256, a % 256, (b / 16777216) % 256, (b / 65536) % 256, (b / 256) % 256, b % 256, p % 256, (s / 256) % 256, s % 256, (d / 256) % 256, d % 256] := by
  unfold packet_Bytes.f packet_word.f
  rw [right_yes h]
  rfl
theorem bytes_no (a b : Int) {p s d : Int} (h : ¬ Within p s d) : packet_Bytes.f a b p s d = some [] := by
  unfold packet_Bytes.f
  rw [right_no h]
  rfl
theorem alive_yes : waymarklaw2_alive.f 20 = some true := by
  unfold waymarklaw2_alive.f
  rw [bytes_yes 0 0 (p := 6) (s := 0) (d := 0) ⟨by decide, by decide, by decide, by decide, by decide, by decide⟩, bytes_yes 0 0 (p := 0) (s := 0) (d := 0) ⟨by decide, by decide, by decide, by decide, by decide, by decide⟩]
  decide +kernel


/-- Four bytes, put together again. -/
theorem word_back (a : Int) (h0 : 0 ≤ a) (h1 : a < 4294967296) :
    Go.bits .or .u32 (Go.bits .or .u32 (Go.bits .or .u32 ((((a / 16777216 % 256) % 4294967296) * 16777216) % 4294967296) ((((a / 65536 % 256) % 4294967296) * 65536) % 4294967296)) ((((a / 256 % 256) % 4294967296) * 256) % 4294967296)) ((a % 256) % 4294967296) = a := by
  have e3 : (((a / 16777216 % 256) % 4294967296) * 16777216) % 4294967296 = (a / 16777216 % 256) * 16777216 := by omega
  have e2 : (((a / 65536 % 256) % 4294967296) * 65536) % 4294967296 = (a / 65536 % 256) * 65536 := by omega
  have e1 : (((a / 256 % 256) % 4294967296) * 256) % 4294967296 = (a / 256 % 256) * 256 := by omega
  have e0 : (a % 256) % 4294967296 = a % 256 := by omega
  rw [e3, e2, e1, e0]
  rw [or32 24 ((a / 16777216 % 256) * 16777216) ((a / 65536 % 256) * 65536) (by omega) (by omega) (by omega) (by omega) (by omega) (by omega)]
  rw [or32 16 _ ((a / 256 % 256) * 256) (by omega) (by omega) (by omega) (by omega) (by omega) (by omega)]
  rw [or32 8 _ (a % 256) (by omega) (by omega) (by omega) (by omega) (by omega) (by omega)]
  omega

theorem u32_range {a : Int} (h : (Lit.int .u32 a).wf = true) : 0 ≤ a ∧ a < 4294967296 := by
  simp [Lit.wf, IntKind.min, IntKind.max, IntKind.signed, IntKind.bits] at h
  omega
theorem ones_yes (a b p s d : Int) (Ha : 0 ≤ a ∧ a < 4294967296) (Hb : 0 ≤ b ∧ b < 4294967296) (h : Within p s d) : waymarklaw2_PacketOnes.j0 20 a b p s d true false = some true := by
  obtain ⟨h1, h2, h3, h4, h5, h6⟩ := id h
  have hp : wrap64 (p % 256) = p := by rw [wr64 _ (by omega) (by omega)]; omega
  have h16 : ∀ x : Int, 0 ≤ x → x ≤ 65535 → wrap64 (wrap64 (wrap64 (x / 256 % 256) * 256) + wrap64 (x % 256)) = x := by
    intro x h0 h1
    rw [wr64 (x / 256 % 256) (by omega) (by omega), wr64 (x % 256) (by omega) (by omega), wr64 (x / 256 % 256 * 256) (by omega) (by omega), wr64 _ (by omega) (by omega)]
    omega
  simp only [waymarklaw2_PacketOnes.j0]
  rw [bytes_yes a b h]
  simp only [Option.bind_some, rd, List.length_cons, List.length_nil]
  simp only [List.getD_cons_zero, List.getD_cons_succ, Int.toNat_zero, Int.toNat_one, Int.reduceToNat]
  rw [word_back a Ha.1 Ha.2, word_back b Hb.1 Hb.2, hp, h16 s h3 h4, h16 d h5 h6]
  simp

theorem PacketOnes : waymarklaw2_PacketOnes.Pure := by
  intro a b p s d ha hb hp hs hd
  refine ⟨20, ?_⟩
  have J : waymarklaw2_PacketOnes.j0 20 a b p s d true true = some true := rfl
  unfold waymarklaw2_PacketOnes.f
  rw [alive_yes]
  simp only [Option.bind_some, if_true]
  by_cases h : Within p s d
  · obtain ⟨h1, h2, h3, h4, h5, h6⟩ := id h
    rw [if_neg (by omega), if_neg (by omega), if_neg (by omega), if_neg (by omega), if_neg (by omega), decide_eq_false (by omega)]
    exact ones_yes a b p s d (u32_range ha) (u32_range hb) h
  · unfold Within at h
    repeat' split
    all_goals first | exact J | (rw [decide_eq_true (by omega)]; exact J)

end Go.Proofs.Ytmoojmbblgbniaa.Pure
