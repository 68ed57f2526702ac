/- The law ChannelOrder's arguments opened, and its call. No condition. -/
import Derived.Test.YtfohlaeahageaaaOrder
import Derived.Test.YtfohlaeahageaaaOpens
namespace Go.Proofs.Ytfohlaeahageaaa.Walk
open Go.RowKit Go.WideShapes Go.ChangeShapes Go.Proofs.YtfohlaeahageaaaW.PrintWords Go.Proofs.Ytfohlaeahageaaa.Opens Go.Proofs.Ytfohlaeahageaaa.Edge

theorem ChannelOrder (W : World) (base : Nat) (args : Array Value) (H : Type) (enc : TypeId × Value → H) (ds : List (DataW H)) (ps : List MemPlace) (hA : DataW.TrodAll enc Try.prog W 0 (fun _ => true) true Try.f7.params.toList args.toList ds ps)
    (hval : ∀ (j : Nat) t v, Try.f7.params[j]? = some t → args[j]? = some v → Value.okWide Try.prog W .any base t v) : Calls Try.prog 7 args W fun e w' => e = .returned (.bool true) ∧ Below W.heap.size W w' := by
  rw [Try.params7] at hA hval
  obtain ⟨v0, vs0, d0, ds0, p0, q0, hargs, rfl, rfl, _, r0⟩ := trodAll_cons hA
  obtain ⟨v1, vs1, d1, ds1, p1, q1, rfl, rfl, rfl, h1, r1⟩ := trodAll_cons r0
  obtain ⟨rfl, rfl, rfl⟩ := trodAll_nil r1
  obtain rfl : args = #[v0, v1] := by cases args; simp_all
  obtain ⟨n, rfl⟩ := okWide_int Try.underlying3 (hval 0 _ v0 rfl rfl)
  obtain ⟨xs, k1, hm, hx⟩ := op_val (op_slice Try.underlying44 (by kernel_rfl) (op_int Try.underlying3)) h1
  obtain ⟨A1, c1, rfl, hc1, hr1⟩ := slice_val (okWide_slice Try.underlying44 (hval 1 _ v1 rfl rfl)) k1
  by_cases hl : 0 ≤ n ∧ n ≤ 100 ∧ xs.length ≤ 20
  · obtain ⟨N, rfl⟩ := Int.eq_ofNat_of_zero_le hl.1
    exact order_in W N A1 xs.length c1 xs (by omega) hl.2.2 hr1
  · exact order_out W n A1 xs.length c1 (by omega) (by simpa [maxLen] using hm)
end Go.Proofs.Ytfohlaeahageaaa.Walk
