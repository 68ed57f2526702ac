/- The example of a channel. -/
import Derived.Test.YtfohlaeahageaaaGive
namespace Go.Proofs.Ytfohlaeahageaaa.Edge
open Go.RowKit Go.Proofs.YtfohlaeahageaaaW.PrintWords Go.Proofs.YtfohlaeahageaaaW.PrintMore Go.Proofs.YtfohlaeahageaaaW.PrintLast

theorem nil_C2 (w : World) : kPut.C w none 0 [] := ⟨rfl, Nat.zero_le _, fun h => absurd h (Nat.lt_irrefl _)⟩
theorem nil_fits2 : Fits [] := fun x hx => by cases hx
/-- A new channel. -/
theorem new_chan (w : World) (P : Nat → Prop) (t : Nat) : Ch P t (w.alloc (.cells #[.slice none 0 0] t)) w.heap.size none 0 [] := ⟨blk_new _ _, Kd.R_nil _ _ _ _ _⟩
set_option maxHeartbeats 2000000 in
theorem chan_alive (w : World) : Calls Try.prog 17 #[] w fun e w' => e = .returned (.bool true) ∧ Below w.heap.size w w' := by
  go_enter Try.func17, Try.ntmps17
  go_wp2_with fail
  obtain ⟨W, hW⟩ : ∃ W, W = w.alloc (.cells #[.slice none 0 0] 49) := ⟨_, rfl⟩
  rw [← hW]
  have hCW : Ch (fun _ => True) 49 W w.heap.size none 0 [] := by rw [hW]; exact new_chan _ _ _
  have hB : Below w.heap.size w W := by rw [hW]; exact below_alloc (Below.refl _ _) _
  clear hW
  refine (len_any _ W _ _ _ _ hCW).mono ?_
  rintro e w' ⟨rfl, rfl⟩
  have HC := Aside0.mk hCW
  have HB := Aside0.mk hB
  clear hCW hB
  go_wp2_with fail
  refine (send_any _ W w.heap.size none none 0 0 0 [] (4, 0, false, []) HC.out rfl (nil_C2 _) (by decide) nil_fits2).mono ?_
  rintro e w1 ⟨rfl, ⟨A1, c1, hC1⟩, _, hb1⟩
  have e1 : sendN [] ((4 : Int), (0 : Int), false, ([] : List PutT)) = [(4, 0, false, [])] := rfl
  rw [e1] at hC1
  have HC1 := Aside0.mk hC1
  have HB1 := Aside0.mk (HB.out.trans hb1)
  clear hC1 hb1
  go_wp2_with fail
  refine (give_some _ w1 w.heap.size A1 c1 [(4, 0, false, [])] 0 HC1.out (Nat.succ_pos _) (by decide)).mono ?_
  rintro e w2 ⟨⟨A2, c2, rfl, _⟩, hC2, _, hb2⟩
  have HC2 := Aside0.mk hC2
  have HB2 := Aside0.mk (HB1.out.trans hb2)
  clear hC2 hb2
  dsimp only [List.getElem_cons_zero, List.length_nil]
  go_wp2_with fail
  refine (len_any _ _ w.heap.size A1 c1 _ (HC2.out.below (below_alloc (Below.refl _ _) _))).mono ?_
  rintro e w' ⟨rfl, rfl⟩
  go_wp2
  go_ret
  exact ⟨rfl, HB2.out.alloc HB2.out.size _⟩
end Go.Proofs.Ytfohlaeahageaaa.Edge
