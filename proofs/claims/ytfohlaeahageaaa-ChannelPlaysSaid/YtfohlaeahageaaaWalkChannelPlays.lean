/- The law ChannelPlays's arguments opened, and its call. No condition. -/
import Derived.Test.YtfohlaeahageaaaCPlays
import Derived.Test.YtfohlaeahageaaaNoteOpens
namespace Go.Proofs.Ytfohlaeahageaaa.Walk
open Go.RowKit Go.WideShapes Go.ChangeShapes Go.Proofs.YtfohlaeahageaaaW.PrintWords Go.Proofs.Ytfohlaeahageaaa.Opens Go.Proofs.Ytfohlaeahageaaa.Edge

theorem opw54 : OpnW Try.prog kAct 54 (fun x => Fits x.2.2.2.2.2) :=
  opw_imp (opw_struct Try.underlying54 (opfw_cons (opw_of (op_int Try.underlying3)) rfl rfl (by kernel_rfl) (opfw_cons (opw_of (op_int Try.underlying3)) rfl rfl (by kernel_rfl) (opfw_last opw31 rfl rfl (by kernel_rfl) (by kernel_rfl)))))
    (fun _ h => h.2.2)
theorem ChannelPlays (W : World) (base : Nat) (args : Array Value) (H : Type) (enc : TypeId × Value → H) (ds : List (DataW H)) (ps : List MemPlace) (hA : DataW.TrodAll enc Try.prog W 0 (fun _ => true) true Try.f5.params.toList args.toList ds ps)
    (hval : ∀ (j : Nat) t v, Try.f5.params[j]? = some t → args[j]? = some v → Value.okWide Try.prog W .any base t v) (hsz : (DataW.weightsEach Try.prog Try.f5.params.toList ds).all (· ≤ reachBytes) = true) : Calls Try.prog 5 args W fun e w' => e = .returned (.bool true) ∧ Below W.heap.size W w' := by
  rw [Try.params5] at hA hval hsz
  obtain ⟨v0, vs0, d0, ds0, p0, q0, hargs, rfl, rfl, h0, r0⟩ := trodAll_cons hA
  obtain ⟨rfl, rfl, rfl⟩ := trodAll_nil r0
  obtain rfl : args = #[v0] := by cases args; simp_all
  obtain ⟨xs, k0, hm, _, hx⟩ := opw_val (opw_slice Try.underlying46 (by kernel_rfl) opw54) hsz (j := 0) rfl rfl h0
  obtain ⟨A0, c0, rfl, hc0, hr0⟩ := slice_val (okWide_slice Try.underlying46 (hval 0 _ v0 rfl rfl)) k0
  by_cases hl : xs.length ≤ 200
  · exact cplays_short W A0 _ c0 xs hr0 hl hx
  · exact cplays_long W A0 xs.length c0 (by omega) (by simpa [maxLen] using hm)
end Go.Proofs.Ytfohlaeahageaaa.Walk
