/- The law TlvLong's argument opened, and its call. No condition. -/
import Derived.Test.YtgpeogbifpbcdaaTlvLong
import Derived.Test.YtgpeogbifpbcdaaTlvOpens
namespace Go.Proofs.Ytgpeogbifpbcdaa.Walk
open Go.RowKit Go.WideShapes Go.ChangeShapes Go.Proofs.YtgpeogbifpbcdaaW.PrintWords Go.Proofs.Ytgpeogbifpbcdaa.Opens Go.Proofs.Ytgpeogbifpbcdaa.Tlv Go.Proofs.Ytgpeogbifpbcdaa.PTlvTells

theorem TlvLong (W : World) (base : Nat) (args : Array Value) (H : Type) (enc : TypeId × Value → H) (ds : List (DataW H)) (ps : List MemPlace) (hA : DataW.TrodAll enc Try.prog W 0 (fun _ => true) true Try.f4.params.toList args.toList ds ps)
    (hval : ∀ (j : Nat) t v, Try.f4.params[j]? = some t → args[j]? = some v → Value.okWide Try.prog W .any base t v) : Calls Try.prog 4 args W fun e w' => e = .returned (.bool true) ∧ Below W.heap.size W w' := by
  rw [Try.params4] at hA hval
  obtain ⟨v0, vs0, d0, ds0, p0, q0, hargs, rfl, rfl, h0, r0⟩ := trodAll_cons hA
  obtain ⟨rfl, rfl, rfl⟩ := trodAll_nil r0
  obtain rfl : args = #[v0] := by cases args; simp_all
  obtain ⟨n, rfl, hn⟩ := int_val Try.underlying3 (hval 0 _ v0 rfl rfl) h0
  by_cases h : 0 ≤ n ∧ n ≤ 70000
  · obtain ⟨m, rfl⟩ := Int.eq_ofNat_of_zero_le h.1
    exact long_in m W (by omega)
  · exact long_out n W (by omega) (i64_range hn)
end Go.Proofs.Ytgpeogbifpbcdaa.Walk
