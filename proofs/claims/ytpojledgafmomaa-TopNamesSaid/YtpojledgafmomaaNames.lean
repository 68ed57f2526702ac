/- The walk of the law TopNames: true. -/
import Derived.Test.YtpojledgafmomaaWMore
import Derived.Test.YtpojledgafmomaaProg
import Derived.WalkKit
import Derived.WalkSpells
import Derived.Deep.LoopGhost
import Derived.Deep.QuietTactic
import Derived.BigRegion
import Derived.BigQuiet
namespace Go.Proofs.Ytpojledgafmomaa.Names
open Go.RowKit Go.Proofs.YtpojledgafmomaaW.PrintWords Go.Proofs.YtpojledgafmomaaW.PrintMore Go.Proofs.YtpojledgafmomaaW.PrintLast

set_option maxHeartbeats 1000000 in
theorem are_any (w : World) (b n c : Nat) (hn : n ≤ 1000) (hc : ∀ i, i < n → ∃ x, w.cell? ⟨b, i * 2, none⟩ = some (.int .i64 x) ∧ w.cell? ⟨b, i * 2 + 1, none⟩ = some (.int .i64 x)) :
    Calls Try.prog 14 #[.slice (some ⟨b, 0, none⟩) n c] w fun e w' => e = .returned (.bool true) ∧ ∃ q, w' = w.drewN q := by
  have hn' : (n : Int) ≤ 1000 := by omega
  have HC := Aside0.mk hc
  have hu37 := Try.underlying37
  clear hc
  go_enter Try.func14, Try.ntmps14
  go_wp2
  go_loopg [3] (n + 1) (fun kq v3 w' => ∃ i : Nat, v3 = .int .i64 (i : Int) ∧ Aside0 (Drawn0 w w') ∧ Aside0 (i ≤ n) ∧ Aside0 (n < i + kq))
  case atStart => exact ⟨0, by go_num, ⟨Drawn0.refl _⟩, ⟨Nat.zero_le _⟩, ⟨by omega⟩⟩
  case round =>
    obtain ⟨i, rfl, hd, hi, hk⟩ := hrel
    have hi5 : (i : Int) ≤ 1000 := by have := hi.out; omega
    by_cases hlt : i < n
    · have hlt' : (i : Int) < (n : Int) := by omega
      obtain ⟨x, c0, c1⟩ := HC.out i hlt
      obtain ⟨q, rfl⟩ := hd.out.out
      obtain ⟨f, hf⟩ : ∃ f, gk = f + 1 := ⟨gk - 1, by have := hk.out; omega⟩
      go_wp2
      go_quiet (fail)
      go_wp2
      go_roundg f
      case measure => omega
      case rel => exact ⟨i + 1, by go_num, ⟨⟨⟨_, rfl⟩⟩⟩, ⟨by omega⟩, ⟨by have := hk.out; omega⟩⟩
    · go_wp2
      obtain ⟨q, rfl⟩ := hd.out.out
      go_ret
      exact ⟨rfl, q, rfl⟩

set_option maxHeartbeats 1000000 in
theorem first_any (w : World) : Calls Try.prog 11 #[] w fun e w' => e = .returned (.bool true) ∧ Below w.heap.size w w' := by
  go_enter Try.func11, Try.ntmps11
  go_wp2_with fail
  refine (are_any _ _ _ _ (by omega) ?_).mono ?_
  · intro i hi
    iterate 12 (rcases i with _ | i; · exact ⟨_, (World.cell?_alloc_at _ _ _ _ rfl).trans rfl, (World.cell?_alloc_at _ _ _ _ rfl).trans rfl⟩)
    omega
  rintro e w' ⟨rfl, q, rfl⟩
  go_wp2
  go_ret
  exact ⟨rfl, pw_below_drewN (below_alloc (Below.refl _ _) _) q⟩
set_option maxHeartbeats 1000000 in
theorem second_any (w : World) : Calls Try.prog 12 #[] w fun e w' => e = .returned (.bool true) ∧ Below w.heap.size w w' := by
  go_enter Try.func12, Try.ntmps12
  go_wp2_with fail
  refine (are_any _ _ _ _ (by omega) ?_).mono ?_
  · intro i hi
    iterate 12 (rcases i with _ | i; · exact ⟨_, (World.cell?_alloc_at _ _ _ _ rfl).trans rfl, (World.cell?_alloc_at _ _ _ _ rfl).trans rfl⟩)
    omega
  rintro e w' ⟨rfl, q, rfl⟩
  go_wp2
  go_ret
  exact ⟨rfl, pw_below_drewN (below_alloc (Below.refl _ _) _) q⟩
set_option maxHeartbeats 1000000 in
theorem third_any (w : World) : Calls Try.prog 13 #[] w fun e w' => e = .returned (.bool true) ∧ Below w.heap.size w w' := by
  go_enter Try.func13, Try.ntmps13
  go_wp2_with fail
  refine (are_any _ _ _ _ (by omega) ?_).mono ?_
  · intro i hi
    iterate 12 (rcases i with _ | i; · exact ⟨_, (World.cell?_alloc_at _ _ _ _ rfl).trans rfl, (World.cell?_alloc_at _ _ _ _ rfl).trans rfl⟩)
    omega
  rintro e w' ⟨rfl, q, rfl⟩
  go_wp2
  go_ret
  exact ⟨rfl, pw_below_drewN (below_alloc (Below.refl _ _) _) q⟩
theorem names_any (w : World) : Calls Try.prog 4 #[] w fun e w' => e = .returned (.bool true) ∧ Below w.heap.size w w' := by
  go_enter Try.func4, Try.ntmps4
  go_wp2_with fail
  refine (first_any _).mono ?_
  rintro e w1 ⟨rfl, h1⟩
  have H1 := Aside0.mk h1
  clear h1
  go_wp2_with fail
  refine (second_any _).mono ?_
  rintro e w2 ⟨rfl, h2⟩
  have H2 := Aside0.mk h2
  clear h2
  go_wp2_with fail
  refine (third_any _).mono ?_
  rintro e w3 ⟨rfl, h3⟩
  have H3 := Aside0.mk h3
  clear h3
  go_wp2
  go_ret
  exact ⟨rfl, below_step (below_step H1.out H2.out) H3.out⟩
end Go.Proofs.Ytpojledgafmomaa.Names
