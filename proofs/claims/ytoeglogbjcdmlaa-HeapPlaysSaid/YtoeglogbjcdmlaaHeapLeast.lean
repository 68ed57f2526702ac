/- The walk of least: which of a pair and the two below it comes first. Conditions: the pair is there, at most 100001 pairs. -/
import Derived.Test.YtoeglogbjcdmlaaHeapBase
namespace Go.Proofs.Ytoeglogbjcdmlaa.Heap
open Go.RowKit Go.Proofs.YtoeglogbjcdmlaaW.PrintWords Go.Proofs.YtoeglogbjcdmlaaW.PrintMore Go.Proofs.YtoeglogbjcdmlaaW.PrintLast Go.Proofs.Ytoeglogbjcdmlaa.PHeapSorts

/-- The least of best and of those from k to 2 * i + 2. -/
def lst : Nat → List (Int × Int) → Nat → Nat → Nat → Nat
  | 0, _, _, _, best => best
  | f + 1, xs, i, k, best => if k ≤ 2 * i + 2 ∧ k < xs.length then lst f xs i (k + 1) (if ah (at_ xs k) (at_ xs best) = true then k else best) else best
def least (xs : List (Int × Int)) (i : Nat) : Nat := lst 3 xs i (2 * i + 1) i
theorem lst_stop (f : Nat) (xs : List (Int × Int)) (i k best : Nat) (h : ¬ (k ≤ 2 * i + 2 ∧ k < xs.length)) : lst f xs i k best = best := by
  cases f with
  | zero => rfl
  | succ f => rw [lst, if_neg h]
theorem lst_go (f : Nat) (xs : List (Int × Int)) (i k best : Nat) (h : k ≤ 2 * i + 2 ∧ k < xs.length) : lst (f + 1) xs i k best = lst f xs i (k + 1) (if ah (at_ xs k) (at_ xs best) = true then k else best) := by rw [lst, if_pos h]
set_option maxHeartbeats 4000000 in
theorem least_any (w : World) (B g : Nat) (A : Option Addr) (c : Nat) (xs : List (Int × Int)) (i0 : Nat) (h : Hp w B g A c xs) (hi0 : i0 < xs.length) (hlen : xs.length ≤ 100001) :
    Calls Try.prog 10 #[.pointer (some ⟨g, 0, none⟩), .int .i64 i0] w fun e w' => e = .returned (.int .i64 (least xs i0)) ∧ Below w.heap.size w w' := by
  obtain ⟨b, rfl⟩ := h.some_ (by omega)
  obtain ⟨n, hn⟩ : ∃ n, n = xs.length := ⟨_, rfl⟩
  obtain ⟨r, hr⟩ : ∃ r, r = least xs i0 := ⟨_, rfl⟩
  rw [← hr]
  have HH := Aside0.mk h
  have hi1 : i0 < n := by omega
  have hn1 : n ≤ 100001 := by omega
  have Hn := Aside0.mk hn
  have Hr := Aside0.mk hr
  clear h hi0 hlen hn hr
  go_enter Try.func10, Try.ntmps10
  go_wp2
  go_loopg [5, 6] 3 (fun kq v5 v6 w' => ∃ (best k : Nat), v5 = .int .i64 (best : Int) ∧ v6 = .int .i64 (k : Int) ∧ Aside0 (Below w.heap.size w w') ∧ Aside0 (best < n) ∧ Aside0 (2 * i0 + 1 ≤ k) ∧ Aside0 (k ≤ 2 * i0 + 3) ∧ Aside0 (2 * i0 + 3 < k + kq) ∧ Aside0 (lst kq xs i0 k best = r))
  case atStart => exact ⟨i0, 2 * i0 + 1, rfl, by go_num, ⟨Below.refl _ _⟩, ⟨hi1⟩, ⟨Nat.le_refl _⟩, ⟨by omega⟩, ⟨by omega⟩, ⟨Hr.out.symm⟩⟩
  case round =>
    obtain ⟨u, i, rfl, rfl, hb0, hbest, hk1, hk2, hk3, hl⟩ := hrel
    have hP := HH.out.below hb0.out
    have hc := hP.cell
    rw [← Hn.out] at hc
    have b0 : (i0 : Int) ≤ 100001 := by omega
    have b1 : (i : Int) ≤ 300003 := by have := hk2.out; omega
    by_cases c1 : i ≤ 2 * i0 + 2
    · have c1' : (i : Int) ≤ 2 * (i0 : Int) + 2 := by omega
      by_cases c2 : i < n
      · have c2' : (i : Int) < (n : Int) := by omega
        have c3' : (u : Int) < (n : Int) := by have := hbest.out; omega
        obtain ⟨p0, p1, p2, p3⟩ := hP.elem i (by have := Hn.out; omega)
        obtain ⟨q0, q1, q2, q3⟩ := hP.elem u (by have := Hn.out; have := hbest.out; omega)
        obtain ⟨p, hp⟩ : ∃ p, p = at_ xs i := ⟨_, rfl⟩
        obtain ⟨q, hq⟩ : ∃ q, q = at_ xs u := ⟨_, rfl⟩
        rw [← hp] at p0 p1
        rw [← hq] at q0 q1
        have Hp_ := Aside0.mk hp
        have Hq_ := Aside0.mk hq
        have hS0 : Rd wr g b n c i u p q wr := ⟨Below.refl _ _, hc, p0, p1, q0, q1⟩
        have hS1 : Rd wr g b n c i u p q wr.drew := Rd.step (Below.refl _ _).drew hS0
        clear hp hq hP
        go_wp2_with fail
        rcases hah : ah p q with _ | _
        all_goals go_region_held3 (fun w' => Below wr.heap.size wr w' ∧ w'.cell? ⟨g, 0, none⟩ = some (.slice (some ⟨b, 0, none⟩) n c) ∧ w'.cell? ⟨b, i * 2, none⟩ = some (.int .i64 p.1) ∧ w'.cell? ⟨b, i * 2 + 1, none⟩ = some (.int .i64 p.2) ∧ w'.cell? ⟨b, u * 2, none⟩ = some (.int .i64 q.1) ∧ w'.cell? ⟨b, u * 2 + 1, none⟩ = some (.int .i64 q.2))
          (first | assumption | exact hS1 | exact hS0) (first | (go_at_call 9; refine (ahead_is p q _ hah _).mono ?_; rintro e w' ⟨rfl, hb⟩; have hS' := Rd.step (wr := wr) (g := g) (b := b) (n := n) (c1 := c) (i := i) (u := u) (p := p) (q := q) hb (by assumption); clear hb))
        all_goals go_wp2
        all_goals obtain ⟨m, hm⟩ : ∃ m, gk = m + 1 := ⟨gk - 1, by have := hk3.out; have := hk2.out; omega⟩
        all_goals have e := hl.out
        all_goals rw [hm, lst_go _ _ _ _ _ ⟨c1, by rw [← Hn.out]; exact c2⟩, ← Hp_.out, ← Hq_.out, hah] at e
        all_goals go_roundg m
        case measure => omega
        case rel => exact ⟨u, i + 1, rfl, by go_num, ⟨below_step hb0.out hS'.1⟩, hbest, ⟨by have := hk1.out; omega⟩, ⟨by have := hk2.out; omega⟩, ⟨by have := hk3.out; omega⟩, ⟨e⟩⟩
        case measure => omega
        case rel => exact ⟨i, i + 1, rfl, by go_num, ⟨below_step hb0.out hS'.1⟩, ⟨c2⟩, ⟨by have := hk1.out; omega⟩, ⟨by have := hk2.out; omega⟩, ⟨by have := hk3.out; omega⟩, ⟨e⟩⟩
      · have c2' : decide ((i : Int) < (n : Int)) = false := decide_eq_false (by omega)
        have e := hl.out
        rw [lst_stop _ _ _ _ _ (by rw [← Hn.out]; omega)] at e
        go_wp2
        go_ret
        exact ⟨by rw [e]; rfl, hb0.out⟩
    · have c1' : decide ((i : Int) ≤ 2 * (i0 : Int) + 2) = false := decide_eq_false (by omega)
      have e := hl.out
      rw [lst_stop _ _ _ _ _ (by omega)] at e
      go_wp2
      go_ret
      exact ⟨by rw [e]; rfl, hb0.out⟩
theorem least_nil (w : World) (B g : Nat) (A : Option Addr) (c : Nat) (h : Hp w B g A c []) : Calls Try.prog 10 #[.pointer (some ⟨g, 0, none⟩), .int .i64 0] w fun e w' => e = .returned (.int .i64 0) ∧ w' = w := by
  have hc : w.cell? ⟨g, 0, none⟩ = some (.slice A 0 c) := h.cell
  go_enter Try.func10, Try.ntmps10
  go_wp2
  go_loopg [5, 6] 1 (fun kq v5 v6 w' => v5 = .int .i64 0 ∧ v6 = .int .i64 1 ∧ w' = w)
  case atStart => exact ⟨by go_num, by go_num, rfl⟩
  case round =>
    obtain ⟨rfl, rfl, rfl⟩ := hrel
    go_wp2
    go_ret
    exact ⟨rfl, rfl⟩
end Go.Proofs.Ytoeglogbjcdmlaa.Heap
