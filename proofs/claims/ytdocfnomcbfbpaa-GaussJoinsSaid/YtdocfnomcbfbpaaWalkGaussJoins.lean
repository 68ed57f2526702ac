/- The law GaussJoins's arguments opened, and its call. No condition. -/
import Derived.Test.YtdocfnomcbfbpaaJoins
import Derived.Test.YtdocfnomcbfbpaaOpens
namespace Go.Proofs.Ytdocfnomcbfbpaa.Walk
open Go.RowKit Go.WideShapes Go.ChangeShapes Go.Proofs.YtdocfnomcbfbpaaW.PrintWords Go.Proofs.Ytdocfnomcbfbpaa.Opens Go.Proofs.Ytdocfnomcbfbpaa.Gauss

theorem u8_range {a : Int} (h : (Lit.int .u8 a).wf = true) : 0 ≤ a ∧ a < 256 := by
  simp [Lit.wf, IntKind.min, IntKind.max, IntKind.signed, IntKind.bits] at h
  omega
theorem GaussJoins (W : World) (base : Nat) (args : Array Value) (H : Type) (enc : TypeId × Value → H) (ds : List (DataW H)) (ps : List MemPlace) (hA : DataW.TrodAll enc Try.prog W 0 (fun _ => true) true Try.f4.params.toList args.toList ds ps)
    (hval : ∀ (j : Nat) t v, Try.f4.params[j]? = some t → args[j]? = some v → Value.okWide Try.prog W .any base t v) : Calls Try.prog 4 args W fun e w' => e = .returned (.bool true) ∧ Below W.heap.size W w' := by
  rw [Try.params4] at hA hval
  obtain ⟨v0, vs0, d0, ds0, p0, q0, hargs, rfl, rfl, h0, r0⟩ := trodAll_cons hA
  obtain ⟨v1, vs1, d1, ds1, p1, q1, rfl, rfl, rfl, h1, r1⟩ := trodAll_cons r0
  obtain ⟨rfl, rfl, rfl⟩ := trodAll_nil r1
  obtain rfl : args = #[v0, v1] := by cases args; simp_all
  obtain ⟨xs, k0, hm, hx⟩ := op_val (op_slice Try.underlying27 (by kernel_rfl) (op_int Try.underlying5)) h0
  obtain ⟨c, rfl, _, _, wc⟩ := open_int Try.underlying5 (hval 1 _ v1 rfl rfl) h1
  obtain ⟨A0, c0, rfl, hc0, hr0⟩ := slice_val (okWide_slice Try.underlying27 (hval 0 _ v0 rfl rfl)) k0
  by_cases hl : xs.length ≤ 1000
  · exact joins_short A0 c0 xs c W hl hr0 (fun y hy => by have := u8_range (hx y hy); omega) (u8_range wc)
  · exact joins_long A0 c0 xs c W (by omega) (by simpa [maxLen] using hm)
end Go.Proofs.Ytdocfnomcbfbpaa.Walk
