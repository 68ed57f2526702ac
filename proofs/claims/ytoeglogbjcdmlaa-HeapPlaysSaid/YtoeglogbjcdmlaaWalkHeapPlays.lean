/- The law HeapPlays's arguments opened, and its call. No condition. -/
import Derived.Test.YtoeglogbjcdmlaaPlays
import Derived.Test.YtoeglogbjcdmlaaOpens
namespace Go.Proofs.Ytoeglogbjcdmlaa.Walk
open Go.RowKit Go.WideShapes Go.ChangeShapes Go.Proofs.YtoeglogbjcdmlaaW.PrintWords Go.Proofs.Ytoeglogbjcdmlaa.Opens Go.Proofs.Ytoeglogbjcdmlaa.Heap

theorem op31 : ∃ g, Opn Try.prog kAct 31 g :=
  ⟨_, op_struct Try.underlying31 (opf_cons (op_bool Try.underlying4) rfl rfl (by kernel_rfl) (opf_cons (op_int Try.underlying3) rfl rfl (by kernel_rfl) (opf_last (op_int Try.underlying3) rfl rfl (by kernel_rfl) (by kernel_rfl))))⟩
theorem HeapPlays (W : World) (base : Nat) (args : Array Value) (H : Type) (enc : TypeId × Value → H) (ds : List (DataW H)) (ps : List MemPlace) (hA : DataW.TrodAll enc Try.prog W 0 (fun _ => true) true Try.f3.params.toList args.toList ds ps)
    (hval : ∀ (j : Nat) t v, Try.f3.params[j]? = some t → args[j]? = some v → Value.okWide Try.prog W .any base t v) : Calls Try.prog 3 args W fun e w' => e = .returned (.bool true) ∧ Below W.heap.size W w' := by
  rw [Try.params3] at hA hval
  obtain ⟨v0, vs0, d0, ds0, p0, q0, hargs, rfl, rfl, h0, r0⟩ := trodAll_cons hA
  obtain ⟨rfl, rfl, rfl⟩ := trodAll_nil r0
  obtain rfl : args = #[v0] := by cases args; simp_all
  obtain ⟨g, hg⟩ := op31
  obtain ⟨xs, k0, hm, hx⟩ := op_val (op_slice Try.underlying22 (by kernel_rfl) hg) h0
  obtain ⟨A0, c0, rfl, hc0, hr0⟩ := slice_val (okWide_slice Try.underlying22 (hval 0 _ v0 rfl rfl)) k0
  by_cases hl : xs.length ≤ 200
  · exact plays_short A0 c0 xs W hl hr0
  · exact plays_long A0 c0 xs.length W (by omega) (by simpa [maxLen] using hm)
end Go.Proofs.Ytoeglogbjcdmlaa.Walk
