/- The walk of the law's own 'alive': true. -/
import Derived.Test.YtpojledgafmomaaCountAny
namespace Go.Proofs.Ytpojledgafmomaa.Count
open Go.RowKit Go.Maps Go.Proofs.YtpojledgafmomaaW.PrintWords Go.Proofs.YtpojledgafmomaaW.PrintMore Go.Proofs.YtpojledgafmomaaW.PrintLast

theorem new_ct (w : World) : Ct (w.alloc (.cells #[.map none, .map none, .int .i64 0] 27)) w.heap.size w.heap.size none (fun _ => 0) (fun _ => 0) 0 0 := ⟨blk_new _ _, Nat.le_refl _, fun _ => ⟨rfl, rfl⟩, fun _ _ h => by cases h⟩
theorem alive_any (w : World) : Calls Try.prog 6 #[] w fun e w' => e = .returned (.bool true) ∧ Below w.heap.size w w' := by
  have hu27 := Try.underlying27
  have hu30 := Try.underlying30
  have hN := Aside0.mk (new_ct w)
  have hB := Aside0.mk (below_alloc (Below.refl w.heap.size w) (.cells #[.map none, .map none, .int .i64 0] 27))
  go_enter Try.func6, Try.ntmps6
  go_wp2_with fail
  refine (all_any _ _ _ _ _ _ _ _ hN.out).mono ?_
  rintro e w' ⟨rfl, rfl⟩
  go_wp2_with fail
  obtain ⟨wx, hwx⟩ : ∃ wx, wx = (w.alloc (.cells #[.map none, .map none, .int .i64 0] 27)).alloc (.cells #[.int .i64 3] 3) := ⟨_, rfl⟩
  have hX : Ct wx w.heap.size w.heap.size none (fun _ => 0) (fun _ => 0) 0 0 := by
    rw [hwx]
    exact hN.out.kept (Kept.of_below (below_alloc (Below.refl _ _) _) (fun _ => False)) (fun _ _ e => e)
  have hBx : Below w.heap.size w wx := by rw [hwx]; exact below_alloc hB.out _
  have hcx : wx.cell? ⟨w.heap.size + 1, 0, none⟩ = some (.int .i64 3) := by
    rw [hwx]
    exact World.cell?_alloc_at _ _ _ _ (size_alloc _ _).symm
  rw [← hwx]
  refine (add_any wx w.heap.size w.heap.size none (fun _ => 0) (fun _ => 0) 0 0 (some ⟨w.heap.size + 1, 0, none⟩) 1 [3] 0 1 0 0 hX (fun w' hk => ⟨rfl, by simp, fun _ => ⟨_, rfl, fun j hj => ?_⟩⟩) (by simp) (by omega) (by omega) (by decide) (by simp; decide) (by intro x; omega) (by intro x; omega)).mono ?_
  · obtain rfl : j = 0 := by simpa using hj
    refine cell_kept hcx hk ?_
    rintro (e | ⟨_, _, hs, _⟩)
    · have e' : w.heap.size + 1 = w.heap.size := e
      omega
    · cases hs
  rintro e w2 ⟨rfl, s', hC, hB2, hK, _⟩
  have hC2 := Aside0.mk hC
  have hBB := Aside0.mk (hBx.trans hB2)
  clear hC hB2 hK hX hBx hcx hwx
  go_wp2_with (first | (go_at_call 8; refine (all_any _ _ _ _ _ _ _ _ hC2.out).mono ?_; rintro e w' ⟨rfl, rfl⟩) | (go_at_call 9; refine (ends_any _ _ _ _ _ _ _ _ 1 (by decide) hC2.out).mono ?_; rintro e w' ⟨rfl, rfl⟩) | (go_at_call 10; refine (edge_any _ _ _ _ _ _ _ _ 3 (by decide) hC2.out).mono ?_; rintro e w' ⟨rfl, rfl⟩))
  all_goals (go_ret; exact ⟨rfl, hBB.out⟩)
end Go.Proofs.Ytpojledgafmomaa.Count
