/- The example of an agent. -/
import Derived.Test.YtfohlaeahageaaaAgent
namespace Go.Proofs.Ytfohlaeahageaaa.Edge
open Go.RowKit Go.Proofs.YtfohlaeahageaaaW.PrintWords Go.Proofs.YtfohlaeahageaaaW.PrintMore Go.Proofs.YtfohlaeahageaaaW.PrintLast

theorem nil_C (w : World) : kPut.C w none 0 [] := ⟨rfl, Nat.zero_le _, fun h => absurd h (Nat.lt_irrefl _)⟩
theorem nil_fits : Fits [] := fun x hx => by cases hx
set_option maxHeartbeats 2000000 in
theorem agent_alive (w : World) : Calls Try.prog 8 #[] w fun e w' => e = .returned (.bool true) ∧ Below w.heap.size w w' := by
  go_enter Try.func8, Try.ntmps8
  go_wp2_with fail
  refine (new_any _ 3).mono ?_
  rintro e w1 ⟨rfl, ha, hb⟩
  have HB := Aside0.mk hb
  have HA := Aside0.mk ha
  clear hb ha
  go_wp2_with fail
  refine (version_any _ _ _ _ _ _ _ HA.out).mono ?_
  rintro e w2 ⟨rfl, rfl⟩
  go_wp2_with fail
  refine (take_new w1 w.heap.size 3 0 none none 0 0 0 [] [] 5 HA.out (by decide) (nil_C _) (by decide) nil_fits).mono ?_
  rintro e w2 ⟨rfl, ⟨A1, c1, ha2⟩, hk, hb2⟩
  have HA2 := Aside0.mk ha2
  have HB2 := Aside0.mk (HB.out.trans hb2)
  clear hb2 hk ha2
  unfold noteV
  dsimp only
  go_wp2_with fail
  refine (version_any _ _ _ _ _ _ _ (HA2.out.below (below_alloc (Below.refl _ _) _))).mono ?_
  rintro e w3 ⟨rfl, rfl⟩
  go_wp2
  go_ret
  exact ⟨rfl, HB2.out.alloc HB2.out.size _⟩
end Go.Proofs.Ytfohlaeahageaaa.Edge
