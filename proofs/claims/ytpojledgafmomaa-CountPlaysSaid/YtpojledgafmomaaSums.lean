/- The walk of the law CountSums. -/
import Derived.Test.YtpojledgafmomaaCountAlive
import Derived.Test.YtpojledgafmomaaMask
import Derived.Deep.QuietTactic
import Derived.BigQuiet
namespace Go.Proofs.Ytpojledgafmomaa.Count
open Go.RowKit Go.Maps Go.Proofs.YtpojledgafmomaaW.PrintWords Go.Proofs.YtpojledgafmomaaW.PrintMore Go.Proofs.YtpojledgafmomaaW.PrintLast

/-- How many of l are x. -/
def cnt (l : List Int) (x : Int) : Int := (l.foldl bump (fun _ => 0)) x
theorem sums_long (A : Option Addr) (cap n : Nat) (w : World) (hl : 100 < n) (hm : n ≤ 9223372036854775807) : Calls Try.prog 5 #[.slice A n cap] w fun e w' => e = .returned (.bool true) ∧ Below w.heap.size w w' := by
  go_enter Try.func5, Try.ntmps5
  go_wp2_with fail
  refine (alive_any _).mono ?_
  rintro e w' ⟨rfl, hb⟩
  go_wp2
  go_ret
  exact ⟨rfl, hb⟩
theorem bump_at (f : Int → Int) (x y : Int) : bump f x y = f y + (if y = x then 1 else 0) := by
  unfold bump
  split
  · rename_i h
    subst h
    rfl
  · omega
/-- All that lie in 1 .. 5 add up. -/
theorem bump_sum (f : Int → Int) (x : Int) (hx : 1 ≤ x ∧ x ≤ 5) : bump f x 1 + bump f x 2 + bump f x 3 + bump f x 4 + bump f x 5 = f 1 + f 2 + f 3 + f 4 + f 5 + 1 := by
  simp only [bump_at]
  have : x = 1 ∨ x = 2 ∨ x = 3 ∨ x = 4 ∨ x = 5 := by omega
  rcases this with rfl | rfl | rfl | rfl | rfl <;> simp <;> omega
theorem ints_of {k : IntKind} {w : World} {A : Option Addr} {xs : List Int} (h : Kd.C (Kd.int k) w A xs.length xs) : ReadsInt w k A xs.length xs := by
  obtain ⟨h1, h2, h3⟩ := h
  refine ⟨h1, h2, fun hn => ?_⟩
  obtain ⟨ad, rfl, hc⟩ := h3 hn
  refine ⟨ad, rfl, fun j hj => ?_⟩
  obtain ⟨c, _, rfl, hcell⟩ := hc j _ (List.getElem?_eq_getElem hj)
  have := hcell 0 _ rfl
  simpa [Kd.int, Kd.scalar, hj] using this
/-- The ends 1 .. k, added up. -/
def part (f : Int → Int) : Nat → Int
  | 0 => 0
  | k + 1 => part f k + f ((k : Int) + 1)
theorem part5 (f : Int → Int) : part f 5 = f 1 + f 2 + f 3 + f 4 + f 5 := by
  simp [part]
theorem part_le (f : Int → Int) (b : Int) (h : ∀ x, 0 ≤ f x ∧ f x ≤ b) (hb : 0 ≤ b) (hb2 : b ≤ 100) : ∀ k : Nat, k ≤ 5 → 0 ≤ part f k ∧ part f k ≤ 100 * k
  | 0, _ => by simp [part]
  | k + 1, hk => by
    have h1 := part_le f b h hb hb2 k (by omega)
    have h2 := h ((k : Int) + 1)
    simp only [part]
    omega
theorem wf_small {x : Int} (h : -1000 ≤ x ∧ x ≤ 1000) : (Lit.int .i64 x).wf = true := WalkArith.wf_i64 (by omega)
theorem ends_is (w : World) (B g : Nat) (s : Option (Nat × Nat)) (ends edges : Int → Int) (all : Int) (m : Nat) (x v : Int) (hx : (Lit.int .i64 x).wf = true) (h : Ct w B g s ends edges all m) (hv : ends x = v) :
    Calls Try.prog 9 #[.pointer (some ⟨g, 0, none⟩), .int .i64 x] w fun e w' => e = .returned (.int .i64 v) ∧ w = w' := by
  subst hv
  exact ends_any w B g s ends edges all m x hx h
theorem Ct.drewN {w : World} {B g : Nat} {s : Option (Nat × Nat)} {ends edges : Int → Int} {all : Int} {m : Nat} (h : Ct w B g s ends edges all m) (q : Nat) : Ct (w.drewN q) B g s ends edges all m :=
  h.kept (Kept.of_below (pw_below_drewN (Below.refl _ _) q) (fun _ => False)) (fun _ _ e => e)
set_option maxHeartbeats 4000000 in
theorem sums_short (A : Option Addr) (cap : Nat) (l : List Int) (w : World) (hl : l.length ≤ 100) (hr : Kd.C (Kd.int .i64) w A l.length l) : Calls Try.prog 5 #[.slice A l.length cap] w fun e w' => e = .returned (.bool true) ∧ Below w.heap.size w w' := by
  obtain ⟨n, hn⟩ : ∃ n, n = l.length := ⟨_, rfl⟩
  have Hn := Aside0.mk hn
  rw [← hn] at hr hl ⊢
  have hln : (n : Int) ≤ 100 := by omega
  have hu27 := Try.underlying27
  have hu30 := Try.underlying30
  have HR : Aside0 (∀ w', Below w.heap.size w w' → ReadsInt w' .i64 A n l) := ⟨fun w' hb => by
    have := ints_of (by rw [← hn]; exact Kd.C_below hr hb)
    rw [← hn] at this
    exact this⟩
  clear hn hr
  go_enter Try.func5, Try.ntmps5
  go_wp2_with fail
  refine (alive_any _).mono ?_
  rintro e w1 ⟨rfl, hb1⟩
  have HB1 := Aside0.mk hb1
  clear hb1
  go_wp2
  have hN := Aside0.mk (new_ct w1)
  have hB2 := Aside0.mk (below_alloc (Below.refl w1.heap.size w1) (.cells #[.map none, .map none, .int .i64 0] 27))
  go_loopg [5] (n + 1) (fun kq v5 w' => ∃ (i : Nat) (s : Option (Nat × Nat)) (ends : Int → Int), v5 = .int .i64 (i : Int) ∧ Aside0 (Ct w' w1.heap.size w1.heap.size s ends (fun _ => 0) i i) ∧ Aside0 (Below w1.heap.size w1 w') ∧ Aside0 (i ≤ n) ∧ Aside0 (n < i + kq) ∧ Aside0 (ends 1 + ends 2 + ends 3 + ends 4 + ends 5 = i) ∧ Aside0 (∀ x, 0 ≤ ends x ∧ ends x ≤ i) ∧ Aside0 (ends 0 = 0 ∧ ends 6 = 0))
  case atStart => exact ⟨0, none, fun _ => 0, rfl, hN, hB2, ⟨Nat.zero_le _⟩, ⟨by omega⟩, ⟨rfl⟩, ⟨fun x => ⟨Int.le_refl _, Int.le_refl _⟩⟩, ⟨rfl, rfl⟩⟩
  case round =>
    obtain ⟨i, s, ends, rfl, hC, hB, hi, hk, hs, hb, h06⟩ := hrel
    clear hN hB2
    have hi5 : (i : Int) ≤ 100 := by have := hi.out; omega
    by_cases hlt : i < n
    · have hlt' : (i : Int) < (n : Int) := by omega
      obtain ⟨ad, rfl, hc⟩ := (HR.out _ (below_step HB1.out hB.out)).at_ (i : Int) (by omega) hlt'
      obtain ⟨x, hx⟩ : ∃ x, x = rd l (i : Int) := ⟨_, rfl⟩
      rw [← hx, Int.toNat_natCast] at hc
      clear hx
      go_wp2_with fail
      rw [Bits.mask_7]
      obtain ⟨en, hen⟩ : ∃ en, en = wrap64 (1 + (x % 8).tmod 5) := ⟨_, rfl⟩
      have hen5 : 1 ≤ en ∧ en ≤ 5 := by
        rw [hen, Int.tmod_eq_emod_of_nonneg (by omega)]
        unfold wrap64
        omega
      rw [← hen]
      refine (add_any wr w1.heap.size w1.heap.size s ends (fun _ => 0) i i none 0 [] 0 en 0 0 hC.out (fun w' _ => ⟨rfl, by simp, fun h => by simp at h⟩) (by simp) (by have := hi.out; omega) (by omega) (wf_small (by omega)) (by simp) (fun y => by have := hb.out y; omega) (fun y => by omega)).mono ?_
      rintro e w' ⟨rfl, s', hC2, hB2, hK2, _⟩
      have hC3 : Aside0 (Ct w' w1.heap.size w1.heap.size s' (bump ends en) (fun _ => 0) ((i + 1 : Nat) : Int) (i + 1)) := ⟨hC2⟩
      have hB3 := Aside0.mk (hB.out.trans hB2)
      have hs3 : Aside0 (bump ends en 1 + bump ends en 2 + bump ends en 3 + bump ends en 4 + bump ends en 5 = ((i + 1 : Nat) : Int)) := ⟨by rw [bump_sum ends en hen5, hs.out]; simp⟩
      have hb3 : Aside0 (∀ y, 0 ≤ bump ends en y ∧ bump ends en y ≤ ((i + 1 : Nat) : Int)) := ⟨fun y => by
        have := hb.out y
        rw [bump_at]
        split <;> omega⟩
      have h063 : Aside0 (bump ends en 0 = 0 ∧ bump ends en 6 = 0) := ⟨by
        have := h06.out
        rw [bump_at, bump_at, if_neg (by omega), if_neg (by omega)]
        omega⟩
      obtain ⟨f, hf⟩ : ∃ f, gk = f + 1 := ⟨gk - 1, by have := hk.out; omega⟩
      clear hC2 hB2 hK2 hen hc
      go_wp2
      go_roundg f
      case measure => omega
      case rel => exact ⟨i + 1, s', _, by go_num, hC3, hB3, ⟨by omega⟩, ⟨by have := hk.out; omega⟩, hs3, hb3, h063⟩
    · have hin : i = n := by have := hi.out; omega
      subst hin
      go_wp2
      go_loopg [6, 7] 6 (fun kq v6 v7 w' => ∃ (j : Nat), v6 = .int .i64 (part ends j) ∧ v7 = .int .i64 ((j : Int) + 1) ∧ Aside0 (Ct w' w1.heap.size w1.heap.size s ends (fun _ => 0) i i) ∧ Aside0 (Below w1.heap.size w1 w') ∧ Aside0 (j ≤ 5) ∧ Aside0 (5 < j + kq))
      case atStart => exact ⟨0, rfl, by go_num, hC, hB, ⟨by omega⟩, ⟨by omega⟩⟩
      case round =>
        obtain ⟨j, rfl, rfl, hC2, hB2, hj, hk2⟩ := hrel
        have hj5 : (j : Int) ≤ 5 := by have := hj.out; omega
        have hp := part_le ends i hb.out (by omega) hi5 j hj.out
        by_cases hlt : j < 5
        · have hp2 := hb.out ((j : Int) + 1)
          have hlt' : (j : Int) + 1 ≤ 5 := by omega
          go_wp2_with fail
          refine (ends_any _ _ _ _ _ _ _ _ _ (wf_small (by omega)) hC2.out).mono ?_
          rintro e w' ⟨rfl, rfl⟩
          have hpp : Aside0 (part ends (j + 1) = part ends j + ends ((j : Int) + 1)) := ⟨rfl⟩
          obtain ⟨f, hf⟩ : ∃ f, gk = f + 1 := ⟨gk - 1, by have := hk2.out; omega⟩
          go_wp2
          go_roundg f
          case measure => omega
          case rel => exact ⟨j + 1, by rw [hpp.out], by go_num, hC2, hB2, ⟨by omega⟩, ⟨by have := hk2.out; omega⟩⟩
        · have hj6 : j = 5 := by have := hj.out; omega
          subst hj6
          have hsum : part ends 5 = (i : Int) := by rw [part5]; exact hs.out
          rw [hsum]
          have HS := Aside0.mk hsum
          clear hsum hp
          go_wp2_with fail
          refine (all_any _ _ _ _ _ _ _ _ hC2.out).mono ?_
          rintro e w' ⟨rfl, rfl⟩
          go_wp2_with fail
          refine (ends_is _ _ _ _ _ _ _ _ 0 0 (by decide) hC2.out h06.out.1).mono ?_
          rintro e w' ⟨rfl, rfl⟩
          go_wp2_with fail
          refine (ends_is _ _ _ _ _ _ _ _ 6 0 (by decide) hC2.out h06.out.2).mono ?_
          rintro e w' ⟨rfl, rfl⟩
          go_wp2_with fail
          refine (edge_any _ _ _ _ _ _ _ _ 0 (by decide) hC2.out).mono ?_
          rintro e w' ⟨rfl, rfl⟩
          go_wp2
          go_ret
          exact ⟨rfl, below_step HB1.out hB2.out⟩
end Go.Proofs.Ytpojledgafmomaa.Count
