/- The law EntryTells's arguments opened, and its call: out of the printed walk and the plain law. No condition. -/
import Derived.Test.YtmoojmbblgbniaaPureEntryTells
import Derived.Test.YtmoojmbblgbniaaOpens
namespace Go.Proofs.Ytmoojmbblgbniaa.Walk
open Go.RowKit Go.WideShapes Go.ChangeShapes Go.Proofs.Ytmoojmbblgbniaa.PEntryTells Go.Proofs.YtmoojmbblgbniaaW.PrintWords Go.Proofs.Ytmoojmbblgbniaa.Opens

theorem op51 : ∃ g, Opn Try.prog k51 51 g := by
  unfold k51
  exact ⟨_, op_iso (g := fun p => ⟨p.1, p.2.1, p.2.2.1, p.2.2.2⟩) (op_struct Try.underlying51 (opf_cons (op_int Try.underlying3) rfl rfl (by kernel_rfl) (opf_cons (op_int Try.underlying3) rfl rfl (by kernel_rfl) (opf_cons (op_int Try.underlying3) rfl rfl (by kernel_rfl) (opf_last (op_bool Try.underlying4) rfl rfl (by kernel_rfl) (by kernel_rfl)))))) _ (fun _ => rfl)⟩
theorem EntryTells (W : World) (base : Nat) (args : Array Value) (H : Type) (enc : TypeId × Value → H) (ds : List (DataW H)) (ps : List MemPlace) (hA : DataW.TrodAll enc Try.prog W 0 (fun _ => true) true Try.f6.params.toList args.toList ds ps)
    (hval : ∀ (j : Nat) t v, Try.f6.params[j]? = some t → args[j]? = some v → Value.okWide Try.prog W .any base t v) : Calls Try.prog 6 args W fun e w' => e = .returned (.bool true) ∧ Below W.heap.size W w' := by
  rw [Try.params6] at hA hval
  obtain ⟨v0, vs0, d0, ds0, p0, q0, hargs, rfl, rfl, h0, r0⟩ := trodAll_cons hA
  obtain ⟨v1, vs1, d1, ds1, p1, q1, rfl, rfl, rfl, h1, r1⟩ := trodAll_cons r0
  obtain ⟨rfl, rfl, rfl⟩ := trodAll_nil r1
  obtain rfl : args = #[v0, v1] := by cases args; simp_all
  obtain ⟨g, hg⟩ := op51
  obtain ⟨l, hl, _⟩ := op_val (op_slice Try.underlying39 (by kernel_rfl) hg) h0
  obtain ⟨b, hb, hbl, hbw⟩ := op_val (op_slice Try.underlying25 (by kernel_rfl) (op_int Try.underlying5)) h1
  obtain ⟨A0, c0, rfl, hc0, hr0⟩ := slice_val (okWide_slice Try.underlying39 (hval 0 _ v0 rfl rfl)) hl
  obtain ⟨A1, c1, rfl, hc1, hr1⟩ := slice_val (okWide_slice Try.underlying25 (hval 1 _ v1 rfl rfl)) hb
  obtain ⟨k, hk⟩ := Pure.EntryTells l b (fun c hc => by
    have := hbw c hc
    simp [Lit.wf, IntKind.min, IntKind.max, IntKind.signed, IntKind.bits] at this
    omega)
  refine (waymarklaw1_EntryTells.calls k A0 c0 l A1 c1 b true W hr0 hc0 hr1 hc1 hk).mono ?_
  rintro e w' ⟨rfl, hd⟩
  exact ⟨rfl, hd⟩
end Go.Proofs.Ytmoojmbblgbniaa.Walk
