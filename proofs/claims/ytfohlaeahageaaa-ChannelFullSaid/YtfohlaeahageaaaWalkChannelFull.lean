/- The law ChannelFull's arguments opened, and its call. No condition. -/
import Derived.Test.YtfohlaeahageaaaFull
import Derived.Test.YtfohlaeahageaaaOpens
namespace Go.Proofs.Ytfohlaeahageaaa.Walk
open Go.RowKit Go.WideShapes Go.ChangeShapes Go.Proofs.YtfohlaeahageaaaW.PrintWords Go.Proofs.Ytfohlaeahageaaa.Opens Go.Proofs.Ytfohlaeahageaaa.Edge

theorem ChannelFull (W : World) (base : Nat) (args : Array Value) (H : Type) (enc : TypeId × Value → H) (ds : List (DataW H)) (ps : List MemPlace) (hA : DataW.TrodAll enc Try.prog W 0 (fun _ => true) true Try.f6.params.toList args.toList ds ps)
    (hval : ∀ (j : Nat) t v, Try.f6.params[j]? = some t → args[j]? = some v → Value.okWide Try.prog W .any base t v) : Calls Try.prog 6 args W fun e w' => e = .returned (.bool true) ∧ Below W.heap.size W w' := by
  rw [Try.params6] at hA hval
  obtain ⟨v0, vs0, d0, ds0, p0, q0, hargs, rfl, rfl, _, r0⟩ := trodAll_cons hA
  obtain ⟨v1, vs1, d1, ds1, p1, q1, rfl, rfl, rfl, _, r1⟩ := trodAll_cons r0
  obtain ⟨rfl, rfl, rfl⟩ := trodAll_nil r1
  obtain rfl : args = #[v0, v1] := by cases args; simp_all
  obtain ⟨n, rfl⟩ := okWide_int Try.underlying3 (hval 0 _ v0 rfl rfl)
  obtain ⟨d, rfl⟩ := okWide_bool Try.underlying4 (hval 1 _ v1 rfl rfl)
  by_cases hl : 1 ≤ n ∧ n ≤ 1020
  · obtain ⟨N, rfl⟩ := Int.eq_ofNat_of_zero_le (show 0 ≤ n by omega)
    exact full_in W N d (by omega) (by omega)
  · exact full_out W n d (by omega)
end Go.Proofs.Ytfohlaeahageaaa.Walk
