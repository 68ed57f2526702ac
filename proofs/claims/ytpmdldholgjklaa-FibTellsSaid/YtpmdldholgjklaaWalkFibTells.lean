/- The law FibTells's arguments opened, and its call: out of the printed walk and the plain law. No condition. -/
import Derived.Test.YtpmdldholgjklaaPureFibTells
import Derived.Test.YtpmdldholgjklaaOpens
namespace Go.Proofs.Ytpmdldholgjklaa.Walk
open Go.RowKit Go.WideShapes Go.ChangeShapes Go.Proofs.Ytpmdldholgjklaa.PFibTells Go.Proofs.YtpmdldholgjklaaW.PrintWords Go.Proofs.Ytpmdldholgjklaa.Opens

theorem i64_range {a : Int} (h : (Lit.int .i64 a).wf = true) : -9223372036854775808 ≤ a ∧ a ≤ 9223372036854775807 := by
  simp [Lit.wf, IntKind.min, IntKind.max, IntKind.signed, IntKind.bits] at h
  omega
theorem op42 : Opn Try.prog k42 42 (fun _ => True) := by
  unfold k42
  exact op_imp (op_iso (g := fun p => ⟨p.1, p.2.1, p.2.2.1, p.2.2.2⟩) (op_struct Try.underlying42 (opf_cons (op_int Try.underlying3) rfl rfl (by kernel_rfl) (opf_cons (op_int Try.underlying3) rfl rfl (by kernel_rfl) (opf_cons (op_int Try.underlying3) rfl rfl (by kernel_rfl) (opf_last (op_int Try.underlying3) rfl rfl (by kernel_rfl) (by kernel_rfl)))))) _ (fun _ => rfl)) (fun _ _ => trivial)
theorem op26 : Opn Try.prog k26 26 (fun _ => True) := by
  unfold k26
  exact op_imp (op_iso (g := fun p => ⟨p.1, p.2⟩) (op_struct Try.underlying26 (opf_cons (op_bool Try.underlying4) rfl rfl (by kernel_rfl) (opf_last (op_int Try.underlying3) rfl rfl (by kernel_rfl) (by kernel_rfl)))) _ (fun _ => rfl)) (fun _ _ => trivial)
theorem op38 : Opn Try.prog k38 38 (fun x => (Lit.int .i64 x.f0).wf = true) := by
  unfold k38
  exact op_imp (op_iso (g := fun p => ⟨p.1, p.2.1, p.2.2.1, p.2.2.2⟩) (op_struct Try.underlying38 (opf_cons (op_int Try.underlying3) rfl rfl (by kernel_rfl) (opf_cons (op_int Try.underlying3) rfl rfl (by kernel_rfl) (opf_cons (op_int Try.underlying3) rfl rfl (by kernel_rfl) (opf_last (op_bool Try.underlying4) rfl rfl (by kernel_rfl) (by kernel_rfl)))))) _ (fun _ => rfl)) (fun _ h => h.1)
theorem op24 : Opn Try.prog (Kd.pair (Kd.int .i64) (Kd.slice 42 k42)) 24 (fun _ => True) :=
  op_imp (op_struct Try.underlying24 (opf_cons (op_int Try.underlying3) rfl rfl (by kernel_rfl) (opf_last (op_slice Try.underlying22 (by kernel_rfl) op42) rfl rfl (by kernel_rfl) (by kernel_rfl)))) (fun _ _ => trivial)
theorem FibTells (W : World) (base : Nat) (args : Array Value) (H : Type) (enc : TypeId × Value → H) (ds : List (DataW H)) (ps : List MemPlace) (hA : DataW.TrodAll enc Try.prog W 0 (fun _ => true) true Try.f3.params.toList args.toList ds ps)
    (hval : ∀ (j : Nat) t v, Try.f3.params[j]? = some t → args[j]? = some v → Value.okWide Try.prog W .any base t v) : Calls Try.prog 3 args W fun e w' => e = .returned (.bool true) ∧ Below W.heap.size W w' := by
  rw [Try.params3] at hA hval
  obtain ⟨v0, vs0, d0, ds0, p0, q0, hargs, rfl, rfl, h0, r0⟩ := trodAll_cons hA
  obtain ⟨v1, vs1, d1, ds1, p1, q1, rfl, rfl, rfl, h1, r1⟩ := trodAll_cons r0
  obtain ⟨v2, vs2, d2, ds2, p2, q2, rfl, rfl, rfl, h2, r2⟩ := trodAll_cons r1
  obtain ⟨v3, vs3, d3, ds3, p3, q3, rfl, rfl, rfl, h3, r3⟩ := trodAll_cons r2
  obtain ⟨v4, vs4, d4, ds4, p4, q4, rfl, rfl, rfl, h4, r4⟩ := trodAll_cons r3
  obtain ⟨v5, vs5, d5, ds5, p5, q5, rfl, rfl, rfl, h5, r5⟩ := trodAll_cons r4
  obtain ⟨rfl, rfl, rfl⟩ := trodAll_nil r5
  obtain rfl : args = #[v0, v1, v2, v3, v4, v5] := by cases args; simp_all
  obtain ⟨⟨n, ls⟩, k0, _⟩ := op_val op24 h0
  obtain ⟨sg, k1, _⟩ := op_val op26 h1
  obtain ⟨x, rfl, _, _, wx⟩ := open_int Try.underlying3 (hval 2 _ v2 rfl rfl) h2
  obtain ⟨l, k3, _⟩ := op_val (op_slice Try.underlying27 (by kernel_rfl) op26) h3
  obtain ⟨t, rfl, _, _, wt⟩ := open_int Try.underlying3 (hval 4 _ v4 rfl rfl) h4
  obtain ⟨en, k5, _, hen⟩ := op_val (op_slice Try.underlying28 (by kernel_rfl) op38) h5
  obtain ⟨cs0, rfl, _⟩ := okWide_struct Try.underlying24 (hval 0 _ v0 rfl rfl)
  obtain ⟨cs1, rfl, _⟩ := okWide_struct Try.underlying26 (hval 1 _ v1 rfl rfl)
  obtain ⟨A3, c3, rfl, hc3, hr3⟩ := slice_val (okWide_slice Try.underlying27 (hval 3 _ v3 rfl rfl)) k3
  obtain ⟨A5, c5, rfl, hc5, hr5⟩ := slice_val (okWide_slice Try.underlying28 (hval 5 _ v5 rfl rfl)) k5
  obtain ⟨_, _, hcs, rfl, A0, c0, rfl, hc0, hr0⟩ := k0
  obtain rfl : cs0 = #[.int .i64 n, .slice A0 ls.length c0] := by
    rw [← Array.toList_inj]
    exact hcs
  obtain rfl : cs1 = #[.bool sg.f0, .int .i64 sg.f1] := by
    rw [← Array.toList_inj]
    exact k26_open k1
  obtain ⟨k, hk⟩ := Pure.FibTells n ls sg.f0 sg.f1 x l t en (i64_range wx) (fun y hy => i64_range (hen y hy))
  refine (waymarklaw19_FibTells.calls k n A0 c0 ls sg.f0 sg.f1 x A3 c3 l t A5 c5 en true W hr0 hc0 hr3 hc3 hr5 hc5 hk).mono ?_
  rintro e w' ⟨rfl, hd⟩
  exact ⟨rfl, hd⟩
end Go.Proofs.Ytpmdldholgjklaa.Walk
