/- Two arrays of two numbers that hold the same are equal. -/
import Derived.Test.YtoeglogbjcdmlaaHeapTwo
import Derived.ChangeKeysEq
import Derived.RegionTactic
namespace Go.Proofs.Ytoeglogbjcdmlaa.Heap
open Go.RowKit Go.Proofs.YtoeglogbjcdmlaaW.PrintWords Go.Proofs.YtoeglogbjcdmlaaW.PrintMore Go.Proofs.YtoeglogbjcdmlaaW.PrintLast

theorem info3 : (Try.prog.info? 3).map (fun i => i.size) = some 1 := by kernel_rfl
theorem cells3 : Try.prog.cellsOf 3 = 1 := by kernel_rfl
theorem pair_eq (a b : Int) (W : World) : (Op.equalIn 10000 32 (.agg #[.int .i64 a, .int .i64 b]) (.agg #[.int .i64 a, .int .i64 b])).run Try.prog W = .ok true W := by
  obtain ⟨i3, hi3, _⟩ := Option.map_eq_some_iff.1 info3
  have h := run_equalIn_array (w := W) (P := Try.prog) 9999 #[.int .i64 a, .int .i64 b] #[.int .i64 a, .int .i64 b] Try.underlying32 hi3
  refine Eq.trans h ?_
  rw [cells3]
  have hu := Try.underlying3
  have e : List.range 2 = [0, 1] := rfl
  simp [Op.eqItems, e, part, go_sem]
theorem info32 : (Try.prog.info? 32).map (fun i => (i.zero, i.size, i.bytes)) = some (some (.agg #[.int .i64 0, .int .i64 0]), 2, 16) := by kernel_rfl
/-- A row is appended to a row of the call's own, in a region that draws its order. -/
theorem rows_step {ops : Array Oper} {o : Oper} {a : Act} {Q : Exit → Act → World → Prop} {Kc : Act → World → Prop} {E : Prop} (hgd : o.guard = none) (s x : Operand) (ho : o.op = .call { callee := .builtin .append, args := #[s, x], argTypes := #[28, 28] })
    (w0 W : World) (v : Value) (xs ys : List (Int × Int)) (A : Option Addr) (m c : Nat) (hs : a.eval s = v) (hx : a.eval x = .slice A m c) (HO : Kd.R kp 32 W w0.heap.size (fun _ => True) v xs) (HR : Kd.C kp W A m ys) (HB : Below w0.heap.size w0 W) (hl : xs.length + m ≤ 1000)
    (h : ∀ A1 c1 n w1, n = xs.length + m → Kd.R kp 32 w1 w0.heap.size (fun _ => True) (.slice A1 n c1) (xs ++ ys) → Below w0.heap.size w0 w1 → Kc (a.put o.dst (.slice A1 n c1)) w1) :
    if Region.wanted o (yielded ops a.tmps) = true then Oper.wp Try.prog o a W Kc Q else E := by
  have hw : Region.wanted o (yielded ops a.tmps) = true := by simp [Region.wanted, hgd]
  have H := Kd.R_append_rows_step (P := Try.prog) (Q := Q) (Kc := Kc) (w0 := w0) (W := W) kp w0.heap.size hw s x 28 32 (.agg #[.int .i64 0, .int .i64 0]) 16 ho Try.underlying28 info32 rfl (by decide) (by omega) v xs ys A m c (fun _ => True) (fun _ => False) hs hx HO HR (fun _ _ h => h) (fun _ hk => hk.elim) (fun _ _ => trivial) HB HB.size (by omega) (fun v1 w1 ho1 hb1 _ _ => by
    obtain ⟨A1, c1, rfl⟩ := Kd.R_slice ho1
    have e : (xs ++ ys).length = xs.length + m := by rw [List.length_append, HR.1]
    rw [e] at ho1 ⊢
    exact h A1 c1 _ w1 rfl ho1 hb1)
  rw [if_pos hw] at H ⊢
  exact H
end Go.Proofs.Ytoeglogbjcdmlaa.Heap
