/- The law PacketTells's arguments opened, and its call: out of the printed walk and the plain law. No condition. -/
import Derived.Test.YtmoojmbblgbniaaPurePacketTells
import Derived.Test.YtmoojmbblgbniaaOpens
namespace Go.Proofs.Ytmoojmbblgbniaa.Walk
open Go.RowKit Go.WideShapes Go.ChangeShapes Go.Proofs.Ytmoojmbblgbniaa.PPacketTells Go.Proofs.YtmoojmbblgbniaaW.PrintWords Go.Proofs.Ytmoojmbblgbniaa.Opens

theorem op24 : Opn Try.prog (Kd.pair (Kd.int .u32) (Kd.pair (Kd.int .u32) (Kd.pair (Kd.int .i64) (Kd.pair (Kd.int .i64) (Kd.int .i64))))) 24 (fun p => (Lit.int .u32 p.1).wf = true ∧ (Lit.int .u32 p.2.1).wf = true) :=
  op_imp (op_struct Try.underlying24 (opf_cons (op_int Try.underlying22) rfl rfl (by kernel_rfl) (opf_cons (op_int Try.underlying22) rfl rfl (by kernel_rfl) (opf_cons (op_int Try.underlying3) rfl rfl (by kernel_rfl) (opf_cons (op_int Try.underlying3) rfl rfl (by kernel_rfl) (opf_last (op_int Try.underlying3) rfl rfl (by kernel_rfl) (by kernel_rfl))))))) (fun _ h => ⟨h.1, h.2.1⟩)
theorem u32_range {a : Int} (h : (Lit.int .u32 a).wf = true) : 0 ≤ a ∧ a < 4294967296 := by
  simp [Lit.wf, IntKind.min, IntKind.max, IntKind.signed, IntKind.bits] at h
  omega
theorem PacketTells (W : World) (base : Nat) (args : Array Value) (H : Type) (enc : TypeId × Value → H) (ds : List (DataW H)) (ps : List MemPlace) (hA : DataW.TrodAll enc Try.prog W 0 (fun _ => true) true Try.f3.params.toList args.toList ds ps)
    (hval : ∀ (j : Nat) t v, Try.f3.params[j]? = some t → args[j]? = some v → Value.okWide Try.prog W .any base t v) : Calls Try.prog 3 args W fun e w' => e = .returned (.bool true) ∧ Below W.heap.size W w' := by
  rw [Try.params3] at hA hval
  obtain ⟨v0, vs0, d0, ds0, p0, q0, hargs, rfl, rfl, h0, r0⟩ := trodAll_cons hA
  obtain ⟨v1, vs1, d1, ds1, p1, q1, rfl, rfl, rfl, h1, r1⟩ := trodAll_cons r0
  obtain ⟨rfl, rfl, rfl⟩ := trodAll_nil r1
  obtain rfl : args = #[v0, v1] := by cases args; simp_all
  obtain ⟨⟨a, b', p, s, d⟩, ht, hw0, hw1⟩ := op_val op24 h0
  obtain ⟨b, hb, hbl, hbw⟩ := op_val (op_slice Try.underlying25 (by kernel_rfl) (op_int Try.underlying5)) h1
  obtain ⟨cs, rfl, _⟩ := okWide_struct Try.underlying24 (hval 0 _ v0 rfl rfl)
  obtain ⟨A1, c1, rfl, hc1, hr1⟩ := slice_val (okWide_slice Try.underlying25 (hval 1 _ v1 rfl rfl)) hb
  obtain ⟨_, _, hcs, rfl, _, _, rfl, rfl, _, _, rfl, rfl, _, _, rfl, rfl, rfl⟩ := ht
  have hcs' : cs = #[.int .u32 a, .int .u32 b', .int .i64 p, .int .i64 s, .int .i64 d] := by
    rw [← Array.toList_inj]
    exact hcs
  subst hcs'
  obtain ⟨k, hk⟩ := Pure.PacketTells a b' p s d b (u32_range hw0) (u32_range hw1) (fun c hc => by
    have := hbw c hc
    simp [Lit.wf, IntKind.min, IntKind.max, IntKind.signed, IntKind.bits] at this
    omega)
  refine (waymarklaw2_PacketTells.calls k a b' p s d A1 c1 b true W hr1 hc1 hk).mono ?_
  rintro e w' ⟨rfl, hd⟩
  exact ⟨rfl, hd⟩
end Go.Proofs.Ytmoojmbblgbniaa.Walk
