/- The walk of the law's own 'alive': true, and old memory is left as it was. No condition. -/
import Derived.Test.YtdocfnomcbfbpaaFold
namespace Go.Proofs.Ytdocfnomcbfbpaa.Gauss
open Go.RowKit Go.Proofs.Ytdocfnomcbfbpaa.Flt Go.Proofs.YtdocfnomcbfbpaaW.PrintWords

theorem same_lit (n : Int) (h0 : 0 ≤ n) (h1 : n ≤ 1000000) (b : Nat) (hb : b = floatOfInt .f64 n) : FloatKind.f64.format.order (floatOfInt .f64 n) b = some .eq := by
  rw [hb]
  have : FloatKind.f64.format.order (floatOfInt .f64 n) (floatOfInt .f64 n) = some (compare n n) := order_is (rep_in n h0 h1) (rep_in n h0 h1)
  rw [this, cmp_self]
theorem fold_nil (w : World) : Calls Try.prog 9 #[.slice none 0 0] w fun e w' => e = .returned (.complex .f64 (floatOfInt .f64 1) (floatOfInt .f64 0)) ∧ w = w' :=
  fold_any none 0 [] w ⟨rfl, by simp, fun h => absurd h (by simp)⟩ (fun c hc => by cases hc)
theorem fold_five (w : World) (g : Nat) (hc : w.cell? ⟨g, 0, none⟩ = some (.int .u8 5)) : Calls Try.prog 9 #[.slice (some ⟨g, 0, none⟩) 1 1] w fun e w' => e = .returned (.complex .f64 (floatOfInt .f64 8) (floatOfInt .f64 3)) ∧ w = w' := by
  have h := fold_any (some ⟨g, 0, none⟩) 1 [5] w ⟨rfl, by simp, fun _ => ⟨_, rfl, fun j hj => by
    have : j = 0 := by simpa using hj
    subst this
    exact hc⟩⟩ (fun c hc => by
    have : c = 5 := by simpa using hc
    omega)
  have e : fold [5] = (8, 3) := by decide
  rw [e] at h
  exact h
theorem mul_two (w : World) : Calls Try.prog 8 #[.complex .f64 0 4611686018427387904, .complex .f64 0 4611686018427387904] w fun e w' => e = .returned (.complex .f64 (floatOfInt .f64 65517) (floatOfInt .f64 0)) ∧ w = w' := by
  have h := mul_cx (0, 2) (0, 2) ⟨by decide, by decide, by decide, by decide⟩ ⟨by decide, by decide, by decide, by decide⟩ w
  have e : mulP (0, 2) (0, 2) = (65517, 0) := by decide
  have e2 : cx (0, 2) = .complex .f64 0 4611686018427387904 := by
    unfold cx
    rw [← l2, ← l0]
  rw [e, e2] at h
  exact h
theorem alive_any (w : World) : Calls Try.prog 7 #[] w fun e w' => e = .returned (.bool true) ∧ Below w.heap.size w w' := by
  have o1 := same_lit 1 (by omega) (by omega) _ l1
  have o0 := same_lit 0 (by omega) (by omega) _ l0
  have o8 := same_lit 8 (by omega) (by omega) _ l8
  have o3 := same_lit 3 (by omega) (by omega) _ l3
  have o65517 := same_lit 65517 (by omega) (by omega) _ l65517
  go_enter Try.func7, Try.ntmps7
  go_wp2_with fail
  refine (fold_nil _).mono ?_
  rintro e w' ⟨rfl, rfl⟩
  go_wp2_with fail
  refine (fold_five _ _ (by simp)).mono ?_
  rintro e w' ⟨rfl, rfl⟩
  go_wp2_with fail
  refine (mul_two _).mono ?_
  rintro e w' ⟨rfl, rfl⟩
  go_wp2
  go_ret
  exact ⟨rfl, (Below.refl _ _).alloc (Nat.le_refl _) _⟩
end Go.Proofs.Ytdocfnomcbfbpaa.Gauss
