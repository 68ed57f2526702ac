/- The law FibBack's arguments opened, and its call: out of the printed walk and the plain law. No condition. -/
import Derived.Test.YtpmdldholgjklaaPureFibBack
import Derived.Test.YtpmdldholgjklaaOpens
namespace Go.Proofs.Ytpmdldholgjklaa.Walk
open Go.RowKit Go.WideShapes Go.ChangeShapes Go.Proofs.Ytpmdldholgjklaa.PFibBack Go.Proofs.YtpmdldholgjklaaW.PrintWords Go.Proofs.Ytpmdldholgjklaa.Opens

theorem FibBack (W : World) (base : Nat) (args : Array Value) (H : Type) (enc : TypeId × Value → H) (ds : List (DataW H)) (ps : List MemPlace) (hA : DataW.TrodAll enc Try.prog W 0 (fun _ => true) true Try.f4.params.toList args.toList ds ps)
    (hval : ∀ (j : Nat) t v, Try.f4.params[j]? = some t → args[j]? = some v → Value.okWide Try.prog W .any base t v) : Calls Try.prog 4 args W fun e w' => e = .returned (.bool true) ∧ Below W.heap.size W w' := by
  rw [Try.params4] at hA hval
  obtain ⟨v0, vs0, d0, ds0, p0, q0, hargs, rfl, rfl, h0, r0⟩ := trodAll_cons hA
  obtain ⟨v1, vs1, d1, ds1, p1, q1, rfl, rfl, rfl, h1, r1⟩ := trodAll_cons r0
  obtain ⟨v2, vs2, d2, ds2, p2, q2, rfl, rfl, rfl, h2, r2⟩ := trodAll_cons r1
  obtain ⟨v3, vs3, d3, ds3, p3, q3, rfl, rfl, rfl, h3, r3⟩ := trodAll_cons r2
  obtain ⟨rfl, rfl, rfl⟩ := trodAll_nil r3
  obtain rfl : args = #[v0, v1, v2, v3] := by cases args; simp_all
  obtain ⟨n, rfl, _, _, w0⟩ := open_int Try.underlying3 (hval 0 _ v0 rfl rfl) h0
  obtain ⟨L, rfl, _, _, w1⟩ := open_int Try.underlying3 (hval 1 _ v1 rfl rfl) h1
  obtain ⟨ps', k2, _⟩ := op_val (op_slice Try.underlying40 (by kernel_rfl) (op_int Try.underlying3)) h2
  obtain ⟨t, rfl, _, _, w3⟩ := open_int Try.underlying3 (hval 3 _ v3 rfl rfl) h3
  obtain ⟨A2, c2, rfl, hc2, hr2⟩ := slice_val (okWide_slice Try.underlying40 (hval 2 _ v2 rfl rfl)) k2
  obtain ⟨k, hk⟩ := Pure.fibBack_any n L ps' t
  refine (waymarklaw19_FibBack.calls k n L A2 c2 ps' t true W hr2 hc2 hk).mono ?_
  rintro e w' ⟨rfl, hd⟩
  exact ⟨rfl, hd⟩
end Go.Proofs.Ytpmdldholgjklaa.Walk
