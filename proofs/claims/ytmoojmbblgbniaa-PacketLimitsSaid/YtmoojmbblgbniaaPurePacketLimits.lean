/- The printed functions of the law PacketLimits tell true for every 'which' and 'over'. No condition. -/
import Derived.Test.YtmoojmbblgbniaaPPacketLimitsx2
namespace Go.Proofs.Ytmoojmbblgbniaa.Pure
open Go.RowKit Go.Proofs.Ytmoojmbblgbniaa.PPacketLimits Go.Proofs.YtmoojmbblgbniaaW.PrintWords Go.Proofs.YtmoojmbblgbniaaW.PrintLast

def Within (p s d : Int) : Prop := 0 ≤ p ∧ p ≤ 255 ∧ 0 ≤ s ∧ s ≤ 65535 ∧ 0 ≤ d ∧ d ≤ 65535
theorem right_yes {p s d : Int} (h : Within p s d) : packet_Right.f p s d = some true := by
  obtain ⟨h1, h2, h3, h4, h5, h6⟩ := h
  unfold packet_Right.f
  rw [if_pos h1, if_pos h2, if_pos h3, if_pos h4, if_pos h5, decide_eq_true h6]
theorem right_no {p s d : Int} (h : ¬ Within p s d) : packet_Right.f p s d = some false := by
  unfold packet_Right.f
  unfold Within at h
  repeat' split
  all_goals first | rfl | (congr 1; exact decide_eq_false (by omega))
theorem bytes_yes (a b : Int) {p s d : Int} (h : Within p s d) : packet_Bytes.f a b p s d = some [(a / 16777216) % 256, (a / 65536) % 256, (a / 256) % 256, a % 256, (b / 16777216) % 256, (b / 65536) % 256, (b / 256) % 256, b % 256, p % 256, (s / 256) % 256, s % 256, (d / 256) % 256, d % 256] := by
  unfold packet_Bytes.f packet_word.f
  rw [right_yes h]
  rfl
theorem bytes_no (a b : Int) {p s d : Int} (h : ¬ Within p s d) : packet_Bytes.f a b p s d = some [] := by
  unfold packet_Bytes.f
  rw [right_no h]
  rfl
theorem alive_yes : waymarklaw2_alive.f 20 = some true := by
  unfold waymarklaw2_alive.f
  rw [bytes_yes 0 0 (p := 6) (s := 0) (d := 0) ⟨by decide, by decide, by decide, by decide, by decide, by decide⟩, bytes_yes 0 0 (p := 0) (s := 0) (d := 0) ⟨by decide, by decide, by decide, by decide, by decide, by decide⟩]
  decide +kernel

theorem PacketLimits : waymarklaw2_PacketLimits.Pure := by
  intro x b hx
  refine ⟨20, ?_⟩
  unfold waymarklaw2_PacketLimits.f
  rw [alive_yes]
  simp only [Option.bind_some, if_true]
  by_cases h0 : x < 0
  · rw [if_pos h0]
    rfl
  · rw [if_neg h0]
    by_cases h3 : x > 3
    · rw [decide_eq_true h3]
      rfl
    · rw [decide_eq_false h3]
      have hx : x = 0 ∨ x = 1 ∨ x = 2 ∨ x = 3 := by omega
      cases b <;> rcases hx with rfl | rfl | rfl | rfl <;> decide +kernel

end Go.Proofs.Ytmoojmbblgbniaa.Pure
