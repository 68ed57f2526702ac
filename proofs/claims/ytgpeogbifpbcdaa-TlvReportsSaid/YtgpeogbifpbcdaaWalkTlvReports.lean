/- The law TlvReports's arguments opened, and its call. No condition. -/
import Derived.Test.YtgpeogbifpbcdaaTlvReps
import Derived.Test.YtgpeogbifpbcdaaTlvOpens
namespace Go.Proofs.Ytgpeogbifpbcdaa.Walk
open Go.RowKit Go.WideShapes Go.ChangeShapes Go.Proofs.YtgpeogbifpbcdaaW.PrintWords Go.Proofs.Ytgpeogbifpbcdaa.Opens Go.Proofs.Ytgpeogbifpbcdaa.Tlv Go.Proofs.Ytgpeogbifpbcdaa.PTlvTells

theorem TlvReports (W : World) (base : Nat) (args : Array Value) (H : Type) (enc : TypeId × Value → H) (ds : List (DataW H)) (ps : List MemPlace) (hA : DataW.TrodAll enc Try.prog W 0 (fun _ => true) true Try.f5.params.toList args.toList ds ps)
    (hval : ∀ (j : Nat) t v, Try.f5.params[j]? = some t → args[j]? = some v → Value.okWide Try.prog W .any base t v) : Calls Try.prog 5 args W fun e w' => e = .returned (.bool true) ∧ Below W.heap.size W w' := by
  rw [Try.params5] at hA hval
  obtain ⟨v0, vs0, d0, ds0, p0, q0, hargs, rfl, rfl, h0, r0⟩ := trodAll_cons hA
  obtain ⟨v1, vs1, d1, ds1, p1, q1, rfl, rfl, rfl, h1, r1⟩ := trodAll_cons r0
  obtain ⟨rfl, rfl, rfl⟩ := trodAll_nil r1
  obtain rfl : args = #[v0, v1] := by cases args; simp_all
  obtain ⟨xs, k0, hm, hx⟩ := op_val (op_slice Try.underlying46 (by kernel_rfl) (op_int Try.underlying3)) h0
  obtain ⟨A0, c0, rfl, hc0, hr0⟩ := slice_val (okWide_slice Try.underlying46 (hval 0 _ v0 rfl rfl)) k0
  obtain ⟨ys, k1, hm1, hy⟩ := op_val (op_slice Try.underlying46 (by kernel_rfl) (op_int Try.underlying3)) h1
  obtain ⟨A1, c1, rfl, hc1, hr1⟩ := slice_val (okWide_slice Try.underlying46 (hval 1 _ v1 rfl rfl)) k1
  by_cases hl : xs.length ≤ 40 ∧ xs.length ≤ ys.length
  · exact reps_short A0 A1 c0 c1 _ _ xs ys W hl.1 hl.2 hr0 hr1
  · exact reps_long A0 A1 c0 c1 _ _ W (by omega) (by simpa [maxLen] using hm)
end Go.Proofs.Ytgpeogbifpbcdaa.Walk
