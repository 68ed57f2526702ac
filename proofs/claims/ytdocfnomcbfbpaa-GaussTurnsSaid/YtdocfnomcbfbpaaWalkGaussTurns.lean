/- The law GaussTurns's arguments opened, and its call. No condition. -/
import Derived.Test.YtdocfnomcbfbpaaTurns
import Derived.Test.YtdocfnomcbfbpaaOpens
namespace Go.Proofs.Ytdocfnomcbfbpaa.Walk
open Go.RowKit Go.WideShapes Go.ChangeShapes Go.Proofs.YtdocfnomcbfbpaaW.PrintWords Go.Proofs.Ytdocfnomcbfbpaa.Opens Go.Proofs.Ytdocfnomcbfbpaa.Gauss

theorem GaussTurns (W : World) (base : Nat) (args : Array Value) (H : Type) (enc : TypeId × Value → H) (ds : List (DataW H)) (ps : List MemPlace) (hA : DataW.TrodAll enc Try.prog W 0 (fun _ => true) true Try.f5.params.toList args.toList ds ps)
    (hval : ∀ (j : Nat) t v, Try.f5.params[j]? = some t → args[j]? = some v → Value.okWide Try.prog W .any base t v) : Calls Try.prog 5 args W fun e w' => e = .returned (.bool true) ∧ Below W.heap.size W w' := by
  rw [Try.params5] at hA hval
  obtain ⟨v0, vs0, d0, ds0, p0, q0, hargs, rfl, rfl, h0, r0⟩ := trodAll_cons hA
  obtain ⟨v1, vs1, d1, ds1, p1, q1, rfl, rfl, rfl, h1, r1⟩ := trodAll_cons r0
  obtain ⟨v2, vs2, d2, ds2, p2, q2, rfl, rfl, rfl, h2, r2⟩ := trodAll_cons r1
  obtain ⟨v3, vs3, d3, ds3, p3, q3, rfl, rfl, rfl, h3, r3⟩ := trodAll_cons r2
  obtain ⟨rfl, rfl, rfl⟩ := trodAll_nil r3
  obtain rfl : args = #[v0, v1, v2, v3] := by cases args; simp_all
  obtain ⟨a, rfl, _⟩ := open_int Try.underlying3 (hval 0 _ v0 rfl rfl) h0
  obtain ⟨b, rfl, _⟩ := open_int Try.underlying3 (hval 1 _ v1 rfl rfl) h1
  obtain ⟨c, rfl, _⟩ := open_int Try.underlying3 (hval 2 _ v2 rfl rfl) h2
  obtain ⟨d, rfl, _⟩ := open_int Try.underlying3 (hval 3 _ v3 rfl rfl) h3
  by_cases h : (0 ≤ a ∧ a ≤ 65520) ∧ (0 ≤ b ∧ b ≤ 65520) ∧ (0 ≤ c ∧ c ≤ 65520) ∧ (0 ≤ d ∧ d ≤ 65520)
  · exact gturn_in a b c d h.1.1 h.1.2 h.2.1.1 h.2.1.2 h.2.2.1.1 h.2.2.1.2 h.2.2.2.1 h.2.2.2.2 W
  · exact gturn_out a b c d h W
end Go.Proofs.Ytdocfnomcbfbpaa.Walk
