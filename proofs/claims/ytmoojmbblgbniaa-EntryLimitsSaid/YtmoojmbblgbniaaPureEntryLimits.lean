/- The printed functions of the law EntryLimits tell true for every 'which' and 'over'. No condition. -/
import Derived.Test.YtmoojmbblgbniaaPlainEntryLimits
namespace Go.Proofs.Ytmoojmbblgbniaa.Pure
open Go.RowKit Go.Proofs.Ytmoojmbblgbniaa.PEntryLimits Go.Proofs.YtmoojmbblgbniaaW.PrintWords Go.Proofs.YtmoojmbblgbniaaW.PrintLast
open Go.Proofs.Ytmoojmbblgbniaa.Bits Go.Proofs.Ytmoojmbblgbniaa.PlainEntryLimits

theorem EntryLimits : waymarklaw1_EntryLimits.Pure := by
  intro x b hx
  refine ⟨4000, ?_⟩
  have J : waymarklaw1_EntryLimits.j0 4000 x b true true = some true := rfl
  unfold waymarklaw1_EntryLimits.f
  rw [alive_is 4000 (by omega)]
  simp only [Option.bind_some, if_true]
  by_cases h0 : x < 0
  · rw [if_pos h0]
    exact J
  · rw [if_neg h0]
    by_cases h3 : x > 3
    · rw [decide_eq_true h3]
      exact J
    · rw [decide_eq_false h3]
      have hx : x = 0 ∨ x = 1 ∨ x = 2 ∨ x = 3 := by omega
      cases b <;> rcases hx with rfl | rfl | rfl | rfl <;> decide +kernel

end Go.Proofs.Ytmoojmbblgbniaa.Pure
