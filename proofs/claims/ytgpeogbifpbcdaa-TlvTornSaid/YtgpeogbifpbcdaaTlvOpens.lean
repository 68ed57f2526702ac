/- The laws' arguments opened: items, bytes, whole numbers. -/
import Derived.Test.YtgpeogbifpbcdaaTlvAlive
import Derived.Test.YtgpeogbifpbcdaaOpens
namespace Go.Proofs.Ytgpeogbifpbcdaa.Walk
open Go.RowKit Go.WideShapes Go.ChangeShapes Go.Proofs.YtgpeogbifpbcdaaW.PrintWords Go.Proofs.Ytgpeogbifpbcdaa.Opens Go.Proofs.Ytgpeogbifpbcdaa.Tlv Go.Proofs.Ytgpeogbifpbcdaa.PTlvTells

theorem u8_range {a : Int} (h : (Lit.int .u8 a).wf = true) : 0 ≤ a ∧ a < 256 := by
  simp [Lit.wf, IntKind.min, IntKind.max, IntKind.signed, IntKind.bits] at h
  omega
theorem i64_range {a : Int} (h : (Lit.int .i64 a).wf = true) : -9223372036854775808 ≤ a ∧ a ≤ 9223372036854775807 := by
  simp [Lit.wf, IntKind.min, IntKind.max, IntKind.signed, IntKind.bits] at h
  omega
theorem op26 : Opn Try.prog k26 26 (fun x => ∀ y, y ∈ x.f1 → 0 ≤ y ∧ y < 256) :=
  op_imp (op_iso (op_struct Try.underlying26 (opf_cons (op_int Try.underlying3) rfl rfl (by kernel_rfl) (opf_last (op_slice Try.underlying23 (by kernel_rfl) (op_int Try.underlying5)) rfl rfl (by kernel_rfl) (by kernel_rfl)))) (fun x : S26 => (x.f0, x.f1)) (fun p => (⟨p.1, p.2⟩ : S26)) (fun _ => rfl)) (fun a h y hy => u8_range (h.2.2 y hy))
theorem int_val {H : Type} {enc : TypeId × Value → H} {w : World} {base : Nat} {v : Value} {x : DataW H} {ps : List MemPlace} {t : TypeId} {k : IntKind} (ht : Try.prog.underlying t = some (.int k)) (hv : Value.okWide Try.prog w .any base t v) (hx : DataW.Trod enc Try.prog w 0 (fun _ => true) true t v x ps) :
    ∃ n, v = .int k n ∧ (Lit.int k n).wf = true := by
  obtain ⟨a, ha, hg⟩ := op_val (op_int ht) hx
  obtain ⟨n, rfl⟩ := okWide_int ht hv
  have e : [Value.int k n] = [Value.int k a] := ha
  obtain rfl : n = a := by simpa using e
  exact ⟨n, rfl, hg⟩
end Go.Proofs.Ytgpeogbifpbcdaa.Walk
