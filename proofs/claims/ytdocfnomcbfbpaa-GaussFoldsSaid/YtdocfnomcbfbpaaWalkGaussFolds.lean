/- The law GaussFolds's arguments opened, and its call. No condition. -/
import Derived.Test.YtdocfnomcbfbpaaFolds
import Derived.Test.YtdocfnomcbfbpaaOpens
namespace Go.Proofs.Ytdocfnomcbfbpaa.Walk
open Go.RowKit Go.WideShapes Go.ChangeShapes Go.Proofs.YtdocfnomcbfbpaaW.PrintWords Go.Proofs.Ytdocfnomcbfbpaa.Opens Go.Proofs.Ytdocfnomcbfbpaa.Gauss Go.Proofs.Ytdocfnomcbfbpaa.PGaussFolds

theorem u8_range' {a : Int} (h : (Lit.int .u8 a).wf = true) : 0 ≤ a ∧ a < 256 := by
  simp [Lit.wf, IntKind.min, IntKind.max, IntKind.signed, IntKind.bits] at h
  omega
theorem u32_range {a : Int} (h : (Lit.int .u32 a).wf = true) : 0 ≤ a ∧ a < 4294967296 := by
  simp [Lit.wf, IntKind.min, IntKind.max, IntKind.signed, IntKind.bits] at h
  omega
theorem op32 : Opn Try.prog (Kd.pair (Kd.int .u32) (Kd.pair (Kd.int .u32) (Kd.pair (Kd.int .i64) (Kd.pair (Kd.int .i64) (Kd.int .i64))))) 32 (fun x => (Lit.int .u32 x.1).wf = true ∧ (Lit.int .u32 x.2.1).wf = true) :=
  op_imp (op_struct Try.underlying32 (opf_cons (op_int Try.underlying30) rfl rfl (by kernel_rfl) (opf_cons (op_int Try.underlying30) rfl rfl (by kernel_rfl) (opf_cons (op_int Try.underlying3) rfl rfl (by kernel_rfl) (opf_cons (op_int Try.underlying3) rfl rfl (by kernel_rfl) (opf_last (op_int Try.underlying3) rfl rfl (by kernel_rfl) (by kernel_rfl)))))))
    (fun _ h => ⟨h.1, h.2.1⟩)
theorem GaussFolds (W : World) (base : Nat) (args : Array Value) (H : Type) (enc : TypeId × Value → H) (ds : List (DataW H)) (ps : List MemPlace) (hA : DataW.TrodAll enc Try.prog W 0 (fun _ => true) true Try.f6.params.toList args.toList ds ps)
    (hval : ∀ (j : Nat) t v, Try.f6.params[j]? = some t → args[j]? = some v → Value.okWide Try.prog W .any base t v) : Calls Try.prog 6 args W fun e w' => e = .returned (.bool true) ∧ Below W.heap.size W w' := by
  rw [Try.params6] at hA hval
  obtain ⟨v0, vs0, d0, ds0, p0, q0, hargs, rfl, rfl, h0, r0⟩ := trodAll_cons hA
  obtain ⟨v1, vs1, d1, ds1, p1, q1, rfl, rfl, rfl, h1, r1⟩ := trodAll_cons r0
  obtain ⟨rfl, rfl, rfl⟩ := trodAll_nil r1
  obtain rfl : args = #[v0, v1] := by cases args; simp_all
  obtain ⟨xs, k0, hm, hx⟩ := op_val (op_slice Try.underlying27 (by kernel_rfl) (op_int Try.underlying5)) h0
  obtain ⟨⟨a, b, p, s, d⟩, k1, wa, wb⟩ := op_val op32 h1
  obtain ⟨cs1, rfl, _⟩ := okWide_struct Try.underlying32 (hval 1 _ v1 rfl rfl)
  obtain ⟨A0, c0, rfl, hc0, hr0⟩ := slice_val (okWide_slice Try.underlying27 (hval 0 _ v0 rfl rfl)) k0
  obtain rfl : cs1 = #[.int .u32 a, .int .u32 b, .int .i64 p, .int .i64 s, .int .i64 d] := by
    rw [← Array.toList_inj]
    obtain ⟨_, _, e1, rfl, _, _, e2, rfl, _, _, e3, rfl, _, _, e4, rfl, rfl⟩ := k1
    rw [e4] at e3
    rw [e3] at e2
    rw [e2] at e1
    exact e1
  by_cases hl : xs.length ≤ 1000
  · exact folds_short A0 c0 xs a b p s d W hl hc0 hr0 (fun y hy => by have := u8_range' (hx y hy); omega) (u32_range wa) (u32_range wb)
  · exact folds_long A0 c0 xs a b p s d W (by omega) (by simpa [maxLen] using hm)
end Go.Proofs.Ytdocfnomcbfbpaa.Walk
