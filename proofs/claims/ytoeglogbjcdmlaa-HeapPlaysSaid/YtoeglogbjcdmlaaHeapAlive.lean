/- The walk of the law's own 'alive': true. -/
import Derived.Test.YtoeglogbjcdmlaaHeapPlain
namespace Go.Proofs.Ytoeglogbjcdmlaa.Heap
open Go.RowKit Go.Proofs.YtoeglogbjcdmlaaW.PrintWords Go.Proofs.YtoeglogbjcdmlaaW.PrintMore Go.Proofs.YtoeglogbjcdmlaaW.PrintLast

theorem new_hp (w : World) : Hp (w.alloc (.cells #[.slice none 0 0] 27)) w.heap.size w.heap.size none 0 [] := ⟨blk_new _ _, Kd.R_nil _ _ _ _ _, Nat.le_refl _⟩
theorem alive_any (w : World) : Calls Try.prog 5 #[] w fun e w' => e = .returned (.bool true) ∧ Below w.heap.size w w' := by
  have hu27 := Try.underlying27
  have hN := Aside0.mk (new_hp w)
  have hB := Aside0.mk (below_alloc (Below.refl w.heap.size w) (.cells #[.slice none 0 0] 27))
  go_enter Try.func5, Try.ntmps5
  go_wp2_with fail
  refine (len_any _ _ _ _ _ _ hN.out).mono ?_
  rintro e w' ⟨rfl, rfl⟩
  go_wp2_with fail
  refine (push_any _ _ _ _ _ _ _ _ hN.out (by simp)).mono ?_
  rintro e w1 ⟨rfl, A1, c1, hP, hT⟩
  have e1 : up (([] : List (Int × Int)).length + 1) ([] ++ [((3 : Int), (4 : Int))]) ([] : List (Int × Int)).length = [(3, 4)] := rfl
  rw [e1] at hP
  have hP1 := Aside0.mk hP
  have hT1 := Aside0.mk hT
  clear hP hT
  go_wp2_with fail
  refine (pop_some _ _ _ _ _ _ hP1.out (by simp) (by simp)).mono ?_
  rintro e w2 ⟨rfl, hP, hT⟩
  have e2 : at_ [((3 : Int), (4 : Int))] 0 = (3, 4) := rfl
  have e3 : rest [((3 : Int), (4 : Int))] = [] := rfl
  rw [e3] at hP
  rw [e2]
  have hP2 := Aside0.mk hP
  have hT2 := Aside0.mk hT
  clear hP hT e1 e2 e3
  go_wp2_with (go_at_call 8; refine (len_any _ _ _ _ _ _ hP2.out).mono ?_; rintro e w' ⟨rfl, rfl⟩)
  go_ret
  exact ⟨rfl, hB.out.trans (hT1.out.bel.trans hT2.out.bel)⟩
end Go.Proofs.Ytoeglogbjcdmlaa.Heap
