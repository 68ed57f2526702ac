/- The law TopNames's call; it has no arguments. No condition. -/
import Derived.Test.YtpojledgafmomaaNames
import Derived.Test.YtpojledgafmomaaOpens
namespace Go.Proofs.Ytpojledgafmomaa.Walk
open Go.RowKit Go.WideShapes Go.ChangeShapes Go.Proofs.YtpojledgafmomaaW.PrintWords Go.Proofs.Ytpojledgafmomaa.Opens

theorem TopNames (W : World) (base : Nat) (args : Array Value) (H : Type) (enc : TypeId × Value → H) (ds : List (DataW H)) (ps : List MemPlace) (hA : DataW.TrodAll enc Try.prog W 0 (fun _ => true) true Try.f4.params.toList args.toList ds ps)
    (hval : ∀ (j : Nat) t v, Try.f4.params[j]? = some t → args[j]? = some v → Value.okWide Try.prog W .any base t v) : Calls Try.prog 4 args W fun e w' => e = .returned (.bool true) ∧ Below W.heap.size W w' := by
  rw [Try.params4] at hA hval
  obtain ⟨h1, rfl, rfl⟩ := trodAll_nil hA
  obtain rfl : args = #[] := by cases args; simp_all
  exact Names.names_any W
end Go.Proofs.Ytpojledgafmomaa.Walk
