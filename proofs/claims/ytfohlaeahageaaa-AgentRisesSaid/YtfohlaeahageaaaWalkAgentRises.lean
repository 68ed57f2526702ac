/- The law AgentRises's arguments opened, and its call. No condition. -/
import Derived.Test.YtfohlaeahageaaaRises
import Derived.Test.YtfohlaeahageaaaOpens
namespace Go.Proofs.Ytfohlaeahageaaa.Walk
open Go.RowKit Go.WideShapes Go.ChangeShapes Go.Proofs.YtfohlaeahageaaaW.PrintWords Go.Proofs.Ytfohlaeahageaaa.Opens Go.Proofs.Ytfohlaeahageaaa.Edge

theorem AgentRises (W : World) (base : Nat) (args : Array Value) (H : Type) (enc : TypeId × Value → H) (ds : List (DataW H)) (ps : List MemPlace) (hA : DataW.TrodAll enc Try.prog W 0 (fun _ => true) true Try.f4.params.toList args.toList ds ps)
    (hval : ∀ (j : Nat) t v, Try.f4.params[j]? = some t → args[j]? = some v → Value.okWide Try.prog W .any base t v) : Calls Try.prog 4 args W fun e w' => e = .returned (.bool true) ∧ Below W.heap.size W w' := by
  rw [Try.params4] at hA hval
  obtain ⟨v0, vs0, d0, ds0, p0, q0, hargs, rfl, rfl, h0, r0⟩ := trodAll_cons hA
  obtain ⟨rfl, rfl, rfl⟩ := trodAll_nil r0
  obtain rfl : args = #[v0] := by cases args; simp_all
  obtain ⟨xs, k0, hm, hx⟩ := op_val (op_slice Try.underlying44 (by kernel_rfl) (op_int Try.underlying3)) h0
  obtain ⟨A0, c0, rfl, hc0, hr0⟩ := slice_val (okWide_slice Try.underlying44 (hval 0 _ v0 rfl rfl)) k0
  by_cases hl : xs.length ≤ 100
  · exact rises_short W A0 _ c0 xs hr0 hl
  · exact rises_long W A0 xs.length c0 (by omega) (by simpa [maxLen] using hm)
end Go.Proofs.Ytfohlaeahageaaa.Walk
