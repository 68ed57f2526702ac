/- Notes that come in, opened: each put's list is within reach. -/
import Derived.Test.YtfohlaeahageaaaOpensW
import Derived.Test.YtfohlaeahageaaaPutsAny
namespace Go.Proofs.Ytfohlaeahageaaa.Walk
open Go.RowKit Go.WideShapes Go.ChangeShapes Go.Proofs.YtfohlaeahageaaaW.PrintWords Go.Proofs.Ytfohlaeahageaaa.Opens Go.Proofs.Ytfohlaeahageaaa.Edge

theorem bytes68 : Try.prog.bytesOf 68 = 16 := by kernel_rfl
theorem opw68 : OpnW Try.prog kSeg 68 (fun _ => True) :=
  opw_imp (opw_struct Try.underlying68 (opfw_cons (opw_of (op_bool Try.underlying4)) rfl rfl (by kernel_rfl) (opfw_last (opw_of (op_int Try.underlying3)) rfl rfl (by kernel_rfl) (by kernel_rfl)))) (fun _ _ => trivial)
theorem opw38 : OpnW Try.prog kPut 38 (fun x => x.2.2.2.1.length * 16 ≤ 140737488355328) :=
  opw_imp (opw_struct Try.underlying38 (opfw_cons (opw_of (op_string Try.underlying9)) rfl rfl (by kernel_rfl) (opfw_cons (opw_of (op_int Try.underlying3)) rfl rfl (by kernel_rfl) (opfw_cons (opw_of (op_int Try.underlying35)) rfl rfl (by kernel_rfl) (opfw_cons (opw_slice Try.underlying36 (by kernel_rfl) opw68) rfl rfl (by kernel_rfl) (opfw_last (opw_of (op_bool Try.underlying4)) rfl rfl (by kernel_rfl) (by kernel_rfl)))))))
    (fun x h => by
      have h2 := h.2.2.2.1.2.1
      rw [bytes68] at h2
      exact Nat.le_trans h2 (by decide))
theorem opw31 : OpnW Try.prog kNote 31 (fun x => Fits x.2.2.2) :=
  opw_imp (opw_struct Try.underlying31 (opfw_cons (opw_of (op_int Try.underlying3)) rfl rfl (by kernel_rfl) (opfw_cons (opw_of (op_int Try.underlying3)) rfl rfl (by kernel_rfl) (opfw_cons (opw_of (op_bool Try.underlying4)) rfl rfl (by kernel_rfl) (opfw_last (opw_slice Try.underlying27 (by kernel_rfl) opw38) rfl rfl (by kernel_rfl) (by kernel_rfl))))))
    (fun _ h => h.2.2.2.2.2)
end Go.Proofs.Ytfohlaeahageaaa.Walk
