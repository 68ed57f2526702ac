/- The law EntryTorn's arguments opened, and its call. No condition. -/
import Derived.Test.YtmoojmbblgbniaaTorn
import Derived.Test.YtmoojmbblgbniaaWalkEntryTells
namespace Go.Proofs.Ytmoojmbblgbniaa.Walk
open Go.RowKit Go.WideShapes Go.ChangeShapes Go.Proofs.Ytmoojmbblgbniaa.PEntryTells Go.Proofs.YtmoojmbblgbniaaW.PrintWords Go.Proofs.Ytmoojmbblgbniaa.Opens

theorem EntryTorn (W : World) (base : Nat) (args : Array Value) (H : Type) (enc : TypeId × Value → H) (ds : List (DataW H)) (ps : List MemPlace) (hA : DataW.TrodAll enc Try.prog W 0 (fun _ => true) true Try.f9.params.toList args.toList ds ps)
    (hval : ∀ (j : Nat) t v, Try.f9.params[j]? = some t → args[j]? = some v → Value.okWide Try.prog W .any base t v) : Calls Try.prog 9 args W fun e w' => e = .returned (.bool true) ∧ Below W.heap.size W w' := by
  rw [Try.params9] at hA hval
  obtain ⟨v0, vs0, d0, ds0, p0, q0, hargs, rfl, rfl, h0, r0⟩ := trodAll_cons hA
  obtain ⟨v1, vs1, d1, ds1, p1, q1, rfl, rfl, rfl, h1, r1⟩ := trodAll_cons r0
  obtain ⟨rfl, rfl, rfl⟩ := trodAll_nil r1
  obtain rfl : args = #[v0, v1] := by cases args; simp_all
  obtain ⟨g, hg⟩ := op51
  obtain ⟨l, hl, _⟩ := op_val (op_slice Try.underlying39 (by kernel_rfl) hg) h0
  obtain ⟨n, rfl, _⟩ := open_int Try.underlying3 (hval 1 _ v1 rfl rfl) h1
  obtain ⟨A0, c0, rfl, hc0, hr0⟩ := slice_val (okWide_slice Try.underlying39 (hval 0 _ v0 rfl rfl)) hl
  cases hrb : PlainEntryTells.rightB l with
  | false => exact Torn.torn_not A0 c0 l n W hr0 hc0 hrb
  | true =>
    by_cases h : (100 : Int) < (l.length : Int) ∨ n < 0
    · exact Torn.torn_out A0 c0 l n W hr0 hc0 hrb h
    · exact Torn.torn_in A0 c0 l n W hr0 hc0 hrb (by omega) (by omega)
end Go.Proofs.Ytmoojmbblgbniaa.Walk
