/- The walk of the law GaussTurns: true for all whole numbers of 64 bits. -/
import Derived.Test.YtdocfnomcbfbpaaAlive
namespace Go.Proofs.Ytdocfnomcbfbpaa.Gauss
open Go.RowKit Go.Proofs.Ytdocfnomcbfbpaa.Flt Go.Proofs.YtdocfnomcbfbpaaW.PrintWords

theorem md_lin (u v c d : Int) : md (md u * c - md v * d) = md (u * c - v * d) := by
  unfold md
  rw [Int.sub_emod (u * c), Int.mul_emod u, Int.mul_emod v, Int.sub_emod, Int.mul_emod, Int.mul_emod (v % 65521), Int.emod_emod_of_dvd u (by decide), Int.emod_emod_of_dvd v (by decide)]
theorem md_lin' (u v c d : Int) : md (md u * c + md v * d) = md (u * c + v * d) := by
  unfold md
  rw [Int.add_emod (u * c), Int.mul_emod u, Int.mul_emod v, Int.add_emod, Int.mul_emod, Int.mul_emod (v % 65521), Int.emod_emod_of_dvd u (by decide), Int.emod_emod_of_dvd v (by decide)]
theorem ring1 (a b c d : Int) : (a * c - b * d) * c - (a * d + b * c) * d = (c * c - d * d) * a - (c * d + d * c) * b := by grind
theorem ring2 (a b c d : Int) : (a * c - b * d) * d + (a * d + b * c) * c = (c * d + d * c) * a + (c * c - d * d) * b := by grind
theorem assoc_y (p q : Int × Int) : mulP (mulP p q) q = mulP p (mulP q q) := by
  obtain ⟨a, b⟩ := p
  obtain ⟨c, d⟩ := q
  unfold mulP
  simp only
  refine Prod.ext ?_ ?_
  · simp only
    rw [md_lin, Int.mul_comm a (md _), Int.mul_comm b (md _), md_lin, ring1]
  · simp only
    rw [md_lin', Int.mul_comm a (md _), Int.mul_comm b (md _), md_lin', ring2]
theorem md_in {n : Int} (h0 : 0 ≤ n) (h1 : n ≤ 65520) : md n = n := by unfold md; omega
/-- Turned k times by i. -/
def turned (p : Int × Int) : Nat → Int × Int
  | 0 => p
  | k + 1 => mulP (turned p k) (0, 1)
theorem turned_in (p : Int × Int) (hp : In p) : ∀ k, In (turned p k)
  | 0 => hp
  | _ + 1 => mulP_in _ _
theorem turned_four (p : Int × Int) (hp : In p) : turned p 4 = p := by
  obtain ⟨a, b⟩ := p
  obtain ⟨h1, h2, h3, h4⟩ := hp
  simp only at h1 h2 h3 h4
  simp only [turned, mulP, md]
  refine Prod.ext ?_ ?_
  · simp only
    omega
  · simp only
    omega
theorem by_one (p : Int × Int) (hp : In p) : mulP p (1, 0) = p := by
  obtain ⟨a, b⟩ := p
  obtain ⟨h1, h2, h3, h4⟩ := hp
  simp only at h1 h2 h3 h4
  simp only [mulP, md]
  refine Prod.ext ?_ ?_
  · simp only
    omega
  · simp only
    omega
theorem by_zero (p : Int × Int) : mulP p (0, 0) = (0, 0) := by
  simp [mulP, md]
theorem one_cx : cx (1, 0) = .complex .f64 4607182418800017408 0 := by
  unfold cx
  rw [← l1, ← l0]
theorem i_cx : cx (0, 1) = .complex .f64 0 4607182418800017408 := by
  unfold cx
  rw [← l1, ← l0]
theorem zero_cx : cx (0, 0) = .complex .f64 0 0 := by
  unfold cx
  rw [← l0]
theorem same_cx (p : Int × Int) (hp : In p) : FloatKind.f64.format.order (floatOfInt .f64 p.1) (floatOfInt .f64 p.1) = some .eq ∧ FloatKind.f64.format.order (floatOfInt .f64 p.2) (floatOfInt .f64 p.2) = some .eq :=
  ⟨same_lit p.1 hp.1 (by have := hp.2.1; omega) _ rfl, same_lit p.2 hp.2.2.1 (by have := hp.2.2.2; omega) _ rfl⟩
theorem zero_eq' : FloatKind.f64.format.order 0 0 = some .eq := by
  have : FloatKind.f64.format.order 0 0 = some (compare (0 : Int) 0) := order_is rep_zero rep_zero
  rw [this, cmp_self]
set_option maxHeartbeats 4000000 in
theorem gturn_out (a b c d : Int) (h : ¬ ((0 ≤ a ∧ a ≤ 65520) ∧ (0 ≤ b ∧ b ≤ 65520) ∧ (0 ≤ c ∧ c ≤ 65520) ∧ (0 ≤ d ∧ d ≤ 65520))) (w : World) :
    Calls Try.prog 5 #[.int .i64 a, .int .i64 b, .int .i64 c, .int .i64 d] w fun e w' => e = .returned (.bool true) ∧ Below w.heap.size w w' := by
  have cases8 : a < 0 ∨ (0 ≤ a ∧ 65520 < a) ∨ (0 ≤ a ∧ a ≤ 65520 ∧ b < 0) ∨ (0 ≤ a ∧ a ≤ 65520 ∧ 0 ≤ b ∧ 65520 < b) ∨ (0 ≤ a ∧ a ≤ 65520 ∧ 0 ≤ b ∧ b ≤ 65520 ∧ c < 0) ∨ (0 ≤ a ∧ a ≤ 65520 ∧ 0 ≤ b ∧ b ≤ 65520 ∧ 0 ≤ c ∧ 65520 < c)
      ∨ (0 ≤ a ∧ a ≤ 65520 ∧ 0 ≤ b ∧ b ≤ 65520 ∧ 0 ≤ c ∧ c ≤ 65520 ∧ d < 0) ∨ (0 ≤ a ∧ a ≤ 65520 ∧ 0 ≤ b ∧ b ≤ 65520 ∧ 0 ≤ c ∧ c ≤ 65520 ∧ 0 ≤ d ∧ 65520 < d) := by omega
  clear h
  rcases cases8 with h1 | ⟨h1, h2⟩ | ⟨h1, h2, h3⟩ | ⟨h1, h2, h3, h4⟩ | ⟨h1, h2, h3, h4, h5⟩ | ⟨h1, h2, h3, h4, h5, h6⟩ | ⟨h1, h2, h3, h4, h5, h6, h7⟩ | ⟨h1, h2, h3, h4, h5, h6, h7, h8⟩
  all_goals
    go_enter Try.func5, Try.ntmps5
    go_wp2_with fail
    refine (alive_any _).mono ?_
    rintro e w' ⟨rfl, hb⟩
    go_wp2
    go_ret
    exact ⟨rfl, hb⟩
set_option maxHeartbeats 4000000 in
theorem gturn_in (a b c d : Int) (ha : 0 ≤ a) (ha2 : a ≤ 65520) (hb : 0 ≤ b) (hb2 : b ≤ 65520) (hc : 0 ≤ c) (hc2 : c ≤ 65520) (hd : 0 ≤ d) (hd2 : d ≤ 65520) (w : World) :
    Calls Try.prog 5 #[.int .i64 a, .int .i64 b, .int .i64 c, .int .i64 d] w fun e w' => e = .returned (.bool true) ∧ Below w.heap.size w w' := by
  have hp : In (a, b) := ⟨ha, ha2, hb, hb2⟩
  have hq : In (c, d) := ⟨hc, hc2, hd, hd2⟩
  have MI : Hid (∀ k w, Calls Try.prog 8 #[cx (turned (a, b) k), .complex .f64 0 4607182418800017408] w fun e w' => e = .returned (cx (turned (a, b) (k + 1))) ∧ w = w') := by
    refine Lib.hid fun k w => ?_
    have h := mul_cx (turned (a, b) k) (0, 1) (turned_in _ hp k) ⟨by decide, by decide, by decide, by decide⟩ w
    rw [i_cx] at h
    exact h
  have M1 : Hid (∀ w, Calls Try.prog 8 #[.complex .f64 (floatOfInt .f64 a) (floatOfInt .f64 b), .complex .f64 4607182418800017408 0] w fun e w' => e = .returned (.complex .f64 (floatOfInt .f64 a) (floatOfInt .f64 b)) ∧ w = w') := by
    refine Lib.hid fun w => ?_
    have h := mul_cx (a, b) (1, 0) hp ⟨by decide, by decide, by decide, by decide⟩ w
    rw [one_cx, by_one _ hp] at h
    exact h
  have M0 : Hid (∀ w, Calls Try.prog 8 #[.complex .f64 (floatOfInt .f64 a) (floatOfInt .f64 b), .complex .f64 0 0] w fun e w' => e = .returned (.complex .f64 0 0) ∧ w = w') := by
    refine Lib.hid fun w => ?_
    have h := mul_cx (a, b) (0, 0) hp ⟨by decide, by decide, by decide, by decide⟩ w
    rw [by_zero, zero_cx] at h
    exact h
  obtain ⟨p1, hp1⟩ : ∃ p, p = mulP (a, b) (c, d) := ⟨_, rfl⟩
  obtain ⟨p2, hp2⟩ : ∃ p, p = mulP (c, d) (c, d) := ⟨_, rfl⟩
  obtain ⟨p3, hp3⟩ : ∃ p, p = mulP p1 (c, d) := ⟨_, rfl⟩
  have i1 : In p1 := by rw [hp1]; exact mulP_in _ _
  have i2 : In p2 := by rw [hp2]; exact mulP_in _ _
  have i3 : In p3 := by rw [hp3]; exact mulP_in _ _
  have Mxy : Hid (∀ w, Calls Try.prog 8 #[.complex .f64 (floatOfInt .f64 a) (floatOfInt .f64 b), .complex .f64 (floatOfInt .f64 c) (floatOfInt .f64 d)] w fun e w' => e = .returned (.complex .f64 (floatOfInt .f64 p1.1) (floatOfInt .f64 p1.2)) ∧ w = w') := by
    refine Lib.hid fun w => ?_
    have h := mul_cx (a, b) (c, d) hp hq w
    rw [← hp1] at h
    exact h
  have Mxyy : Hid (∀ w, Calls Try.prog 8 #[.complex .f64 (floatOfInt .f64 p1.1) (floatOfInt .f64 p1.2), .complex .f64 (floatOfInt .f64 c) (floatOfInt .f64 d)] w fun e w' => e = .returned (.complex .f64 (floatOfInt .f64 p3.1) (floatOfInt .f64 p3.2)) ∧ w = w') := by
    refine Lib.hid fun w => ?_
    have h := mul_cx p1 (c, d) i1 hq w
    rw [← hp3] at h
    exact h
  have Myy : Hid (∀ w, Calls Try.prog 8 #[.complex .f64 (floatOfInt .f64 c) (floatOfInt .f64 d), .complex .f64 (floatOfInt .f64 c) (floatOfInt .f64 d)] w fun e w' => e = .returned (.complex .f64 (floatOfInt .f64 p2.1) (floatOfInt .f64 p2.2)) ∧ w = w') := by
    refine Lib.hid fun w => ?_
    have h := mul_cx (c, d) (c, d) hq hq w
    rw [← hp2] at h
    exact h
  have Mxyy2 : Hid (∀ w, Calls Try.prog 8 #[.complex .f64 (floatOfInt .f64 a) (floatOfInt .f64 b), .complex .f64 (floatOfInt .f64 p2.1) (floatOfInt .f64 p2.2)] w fun e w' => e = .returned (.complex .f64 (floatOfInt .f64 p3.1) (floatOfInt .f64 p3.2)) ∧ w = w') := by
    refine Lib.hid fun w => ?_
    have h := mul_cx (a, b) p2 hp i2 w
    rw [hp2, ← assoc_y, ← hp1, ← hp3, ← hp2] at h
    exact h
  obtain ⟨Oa, Ob⟩ := same_cx (a, b) hp
  obtain ⟨O31, O32⟩ := same_cx p3 i3
  have Z := zero_eq'
  have HT : Hid (turned (a, b) 4 = (a, b)) := Lib.hid (turned_four _ hp)
  have HX : Hid (∀ p : Int × Int, cx p = .complex .f64 (floatOfInt .f64 p.1) (floatOfInt .f64 p.2)) := Lib.hid fun p => rfl
  clear hp hq hp1 hp2 hp3 i1 i2 i3
  simp only at Oa Ob
  go_enter Try.func5, Try.ntmps5
  go_wp2_with fail
  refine (alive_any _).mono ?_
  rintro e w' ⟨rfl, hbel⟩
  go_wp2
  go_loop [12, 13] (fun z i => ∃ k : Nat, k ≤ 4 ∧ i = .int .i64 k ∧ z = cx (turned (a, b) k)) (fun _ i => 4 - (intOf i).toNat)
  case atStart => exact ⟨0, Nat.zero_le _, rfl, rfl⟩
  case round =>
    obtain ⟨k, hk, rfl, rfl⟩ := hrel
    by_cases hlt : k < 4
    · go_wp2_with (go_at_call 8; refine (MI.out _ _).mono ?_; rintro e w' ⟨rfl, rfl⟩)
      go_round
      case rel => exact ⟨k + 1, by omega, by go_num, rfl⟩
      case measure => simp [intOf]; omega
    · obtain rfl : k = 4 := by omega
      rw [HT.out, HX.out]
      go_wp2_with fail
      refine (M1.out _).mono ?_
      rintro e w' ⟨rfl, rfl⟩
      go_wp2_with fail
      refine (M0.out _).mono ?_
      rintro e w' ⟨rfl, rfl⟩
      go_wp2_with fail
      refine (Mxy.out _).mono ?_
      rintro e w' ⟨rfl, rfl⟩
      go_wp2_with fail
      refine (Mxyy.out _).mono ?_
      rintro e w' ⟨rfl, rfl⟩
      go_wp2_with fail
      refine (Myy.out _).mono ?_
      rintro e w' ⟨rfl, rfl⟩
      go_wp2_with fail
      refine (Mxyy2.out _).mono ?_
      rintro e w' ⟨rfl, rfl⟩
      go_wp2
      go_ret
      exact ⟨rfl, hbel⟩
end Go.Proofs.Ytdocfnomcbfbpaa.Gauss
