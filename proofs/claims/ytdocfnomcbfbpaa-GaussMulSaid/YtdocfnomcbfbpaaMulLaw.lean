/- The walk of the law GaussMul: true for all whole numbers of 64 bits. -/
import Derived.Test.YtdocfnomcbfbpaaAlive
namespace Go.Proofs.Ytdocfnomcbfbpaa.Gauss
open Go.RowKit Go.Proofs.Ytdocfnomcbfbpaa.Flt Go.Proofs.YtdocfnomcbfbpaaW.PrintWords

theorem zero_eq : FloatKind.f64.format.order 0 0 = some .eq := by
  have : FloatKind.f64.format.order 0 0 = some (compare (0 : Int) 0) := order_is rep_zero rep_zero
  rw [this, cmp_self]
/-- Whatever is out of range, the product is 0. -/
theorem mul_out (a b c d : Int) (ha : -9223372036854775808 ≤ a ∧ a ≤ 9223372036854775807) (hb : -9223372036854775808 ≤ b ∧ b ≤ 9223372036854775807) (hc : -9223372036854775808 ≤ c ∧ c ≤ 9223372036854775807) (hd : -9223372036854775808 ≤ d ∧ d ≤ 9223372036854775807)
    (h : ¬ ((0 ≤ a ∧ a ≤ 65520) ∧ (0 ≤ b ∧ b ≤ 65520) ∧ (0 ≤ c ∧ c ≤ 65520) ∧ (0 ≤ d ∧ d ≤ 65520))) (w : World) :
    Calls Try.prog 8 #[.complex .f64 (floatOfInt .f64 a) (floatOfInt .f64 b), .complex .f64 (floatOfInt .f64 c) (floatOfInt .f64 d)] w fun e w' => e = .returned (.complex .f64 0 0) ∧ w = w' := by
  have ta := whole_F a ha.1 ha.2
  have tb := whole_F b hb.1 hb.2
  have tc := whole_F c hc.1 hc.2
  have td := whole_F d hd.1 hd.2
  by_cases hab : (0 ≤ a ∧ a ≤ 65520) ∧ (0 ≤ b ∧ b ≤ 65520)
  · rw [decide_eq_true hab.1] at ta
    rw [decide_eq_true hab.2] at tb
    refine mul_no2 _ _ _ _ _ _ ta tb tc td ?_ w
    rw [Bool.and_eq_false_iff]
    by_cases hcc : 0 ≤ c ∧ c ≤ 65520
    · exact .inr (decide_eq_false (fun q => h ⟨hab.1, hab.2, hcc, q⟩))
    · exact .inl (decide_eq_false hcc)
  · refine mul_no1 _ _ _ _ _ _ ta tb ?_ w
    rw [Bool.and_eq_false_iff]
    by_cases haa : 0 ≤ a ∧ a ≤ 65520
    · exact .inr (decide_eq_false (fun q => hab ⟨haa, q⟩))
    · exact .inl (decide_eq_false haa)
set_option maxHeartbeats 4000000 in
theorem gmul_out (a b c d : Int) (ha : -9223372036854775808 ≤ a ∧ a ≤ 9223372036854775807) (hb : -9223372036854775808 ≤ b ∧ b ≤ 9223372036854775807) (hc : -9223372036854775808 ≤ c ∧ c ≤ 9223372036854775807) (hd : -9223372036854775808 ≤ d ∧ d ≤ 9223372036854775807)
    (h : ¬ ((0 ≤ a ∧ a ≤ 65520) ∧ (0 ≤ b ∧ b ≤ 65520) ∧ (0 ≤ c ∧ c ≤ 65520) ∧ (0 ≤ d ∧ d ≤ 65520))) (w : World) :
    Calls Try.prog 3 #[.int .i64 a, .int .i64 b, .int .i64 c, .int .i64 d] w fun e w' => e = .returned (.bool true) ∧ Below w.heap.size w w' := by
  have M := Lib.hid (mul_out a b c d ha hb hc hd h)
  have Z := zero_eq
  have cases8 : a < 0 ∨ (0 ≤ a ∧ 65520 < a) ∨ (0 ≤ a ∧ a ≤ 65520 ∧ b < 0) ∨ (0 ≤ a ∧ a ≤ 65520 ∧ 0 ≤ b ∧ 65520 < b) ∨ (0 ≤ a ∧ a ≤ 65520 ∧ 0 ≤ b ∧ b ≤ 65520 ∧ c < 0) ∨ (0 ≤ a ∧ a ≤ 65520 ∧ 0 ≤ b ∧ b ≤ 65520 ∧ 0 ≤ c ∧ 65520 < c)
      ∨ (0 ≤ a ∧ a ≤ 65520 ∧ 0 ≤ b ∧ b ≤ 65520 ∧ 0 ≤ c ∧ c ≤ 65520 ∧ d < 0) ∨ (0 ≤ a ∧ a ≤ 65520 ∧ 0 ≤ b ∧ b ≤ 65520 ∧ 0 ≤ c ∧ c ≤ 65520 ∧ 0 ≤ d ∧ 65520 < d) := by omega
  clear ha hb hc hd h
  rcases cases8 with h1 | ⟨h1, h2⟩ | ⟨h1, h2, h3⟩ | ⟨h1, h2, h3, h4⟩ | ⟨h1, h2, h3, h4, h5⟩ | ⟨h1, h2, h3, h4, h5, h6⟩ | ⟨h1, h2, h3, h4, h5, h6, h7⟩ | ⟨h1, h2, h3, h4, h5, h6, h7, h8⟩
  all_goals
    go_enter Try.func3, Try.ntmps3
    go_wp2_with fail
    refine (alive_any _).mono ?_
    rintro e w' ⟨rfl, hb⟩
    go_wp2_with (go_at_call 8; refine (M.out _).mono ?_; rintro e w' ⟨rfl, rfl⟩)
    go_ret
    exact ⟨rfl, hb⟩
end Go.Proofs.Ytdocfnomcbfbpaa.Gauss
