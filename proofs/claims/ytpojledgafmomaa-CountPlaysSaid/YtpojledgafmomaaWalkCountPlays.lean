/- The law CountPlays's arguments opened, and its call. No condition. -/
import Derived.Test.YtpojledgafmomaaPlays
import Derived.Test.YtpojledgafmomaaOpens
namespace Go.Proofs.Ytpojledgafmomaa.Walk
open Go.RowKit Go.WideShapes Go.ChangeShapes Go.Proofs.YtpojledgafmomaaW.PrintWords Go.Proofs.Ytpojledgafmomaa.Opens Go.Proofs.Ytpojledgafmomaa.Count

theorem op30 : Opn Try.prog kWalk 30 (fun x => (Lit.int .i64 x.2.2.1).wf = true ∧ ∀ e, e ∈ x.1 → (Lit.int .i64 e).wf = true) :=
  op_imp (op_struct Try.underlying30 (opf_cons (op_slice Try.underlying28 (by kernel_rfl) (op_int Try.underlying3)) rfl rfl (by kernel_rfl) (opf_cons (op_int Try.underlying3) rfl rfl (by kernel_rfl) (opf_cons (op_int Try.underlying3) rfl rfl (by kernel_rfl)
    (opf_cons (op_int Try.underlying3) rfl rfl (by kernel_rfl) (opf_last (op_int Try.underlying3) rfl rfl (by kernel_rfl) (by kernel_rfl))))))) (fun a h => ⟨h.2.2.1, h.1.2⟩)
theorem int_val {H : Type} {enc : TypeId × Value → H} {w : World} {base : Nat} {v : Value} {x : DataW H} {ps : List MemPlace} {t : TypeId} {k : IntKind} (ht : Try.prog.underlying t = some (.int k)) (hv : Value.okWide Try.prog w .any base t v) (hx : DataW.Trod enc Try.prog w 0 (fun _ => true) true t v x ps) :
    ∃ n, v = .int k n ∧ (Lit.int k n).wf = true := by
  obtain ⟨a, ha, hg⟩ := op_val (op_int ht) hx
  obtain ⟨n, rfl⟩ := okWide_int ht hv
  have e : [Value.int k n] = [Value.int k a] := ha
  obtain rfl : n = a := by simpa using e
  exact ⟨n, rfl, hg⟩
theorem CountPlays (W : World) (base : Nat) (args : Array Value) (H : Type) (enc : TypeId × Value → H) (ds : List (DataW H)) (ps : List MemPlace) (hA : DataW.TrodAll enc Try.prog W 0 (fun _ => true) true Try.f3.params.toList args.toList ds ps)
    (hval : ∀ (j : Nat) t v, Try.f3.params[j]? = some t → args[j]? = some v → Value.okWide Try.prog W .any base t v) : Calls Try.prog 3 args W fun e w' => e = .returned (.bool true) ∧ Below W.heap.size W w' := by
  rw [Try.params3] at hA hval
  obtain ⟨v0, vs0, d0, ds0, p0, q0, hargs, rfl, rfl, h0, r0⟩ := trodAll_cons hA
  obtain ⟨v1, vs1, d1, ds1, p1, q1, rfl, rfl, rfl, h1, r1⟩ := trodAll_cons r0
  obtain ⟨v2, vs2, d2, ds2, p2, q2, rfl, rfl, rfl, h2, r2⟩ := trodAll_cons r1
  obtain ⟨rfl, rfl, rfl⟩ := trodAll_nil r2
  obtain rfl : args = #[v0, v1, v2] := by cases args; simp_all
  obtain ⟨xs, k0, hm, hx⟩ := op_val (op_slice Try.underlying22 (by kernel_rfl) op30) h0
  obtain ⟨A0, c0, rfl, hc0, hr0⟩ := slice_val (okWide_slice Try.underlying22 (hval 0 _ v0 rfl rfl)) k0
  obtain ⟨x1, rfl, hx1⟩ := int_val Try.underlying3 (hval 1 _ v1 rfl rfl) h1
  obtain ⟨x2, rfl, hx2⟩ := int_val Try.underlying3 (hval 2 _ v2 rfl rfl) h2
  by_cases hl : xs.length ≤ 100
  · exact plays_short A0 c0 xs x1 x2 W hl hr0 hx hx1 hx2
  · exact plays_long A0 c0 xs.length x1 x2 W (by omega) (by simpa [maxLen] using hm)
end Go.Proofs.Ytpojledgafmomaa.Walk
