/- The law AgentPlays's arguments opened, and its call. No condition. -/
import Derived.Test.YtfohlaeahageaaaAPlays
import Derived.Test.YtfohlaeahageaaaNoteOpens
namespace Go.Proofs.Ytfohlaeahageaaa.Walk
open Go.RowKit Go.WideShapes Go.ChangeShapes Go.Proofs.YtfohlaeahageaaaW.PrintWords Go.Proofs.Ytfohlaeahageaaa.Opens Go.Proofs.Ytfohlaeahageaaa.Edge

theorem AgentPlays (W : World) (base : Nat) (args : Array Value) (H : Type) (enc : TypeId × Value → H) (ds : List (DataW H)) (ps : List MemPlace) (hA : DataW.TrodAll enc Try.prog W 0 (fun _ => true) true Try.f3.params.toList args.toList ds ps)
    (hval : ∀ (j : Nat) t v, Try.f3.params[j]? = some t → args[j]? = some v → Value.okWide Try.prog W .any base t v) (hsz : (DataW.weightsEach Try.prog Try.f3.params.toList ds).all (· ≤ reachBytes) = true) : Calls Try.prog 3 args W fun e w' => e = .returned (.bool true) ∧ Below W.heap.size W w' := by
  rw [Try.params3] at hA hval hsz
  obtain ⟨v0, vs0, d0, ds0, p0, q0, hargs, rfl, rfl, h0, r0⟩ := trodAll_cons hA
  obtain ⟨v1, vs1, d1, ds1, p1, q1, rfl, rfl, rfl, h1, r1⟩ := trodAll_cons r0
  obtain ⟨rfl, rfl, rfl⟩ := trodAll_nil r1
  obtain rfl : args = #[v0, v1] := by cases args; simp_all
  obtain ⟨nd, rfl⟩ := okWide_int Try.underlying3 (hval 0 _ v0 rfl rfl)
  obtain ⟨xs, k1, hm, _, hx⟩ := opw_val (opw_slice Try.underlying22 (by kernel_rfl) opw31) hsz (j := 1) rfl rfl h1
  obtain ⟨A1, c1, rfl, hc1, hr1⟩ := slice_val (okWide_slice Try.underlying22 (hval 1 _ v1 rfl rfl)) k1
  by_cases hl : xs.length ≤ 100
  · exact aplays_short W A1 _ c1 nd xs hr1 hl hx
  · exact aplays_long W A1 xs.length c1 nd (by omega) (by simpa [maxLen] using hm)
end Go.Proofs.Ytfohlaeahageaaa.Walk
