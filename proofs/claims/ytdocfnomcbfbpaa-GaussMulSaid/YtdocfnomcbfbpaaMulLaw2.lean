/- The walk of the law GaussMul at whole numbers within: true. -/
import Derived.Test.YtdocfnomcbfbpaaMulLaw
namespace Go.Proofs.Ytdocfnomcbfbpaa.Gauss
open Go.RowKit Go.Proofs.Ytdocfnomcbfbpaa.Flt Go.Proofs.YtdocfnomcbfbpaaW.PrintWords

theorem re_is (x : Int) : (x.tmod 65521 + 65521).tmod 65521 = md x := by
  unfold md
  rw [Int.tmod_eq_emod, Int.tmod_eq_emod]
  repeat' split
  all_goals omega
theorem re_bound (x : Int) : -65521 < x.tmod 65521 ∧ x.tmod 65521 < 65521 := by
  rw [Int.tmod_eq_emod]
  split <;> omega
theorem im_is (x : Int) (h0 : 0 ≤ x) : x.tmod 65521 = md x := by
  unfold md
  exact Int.tmod_eq_emod_of_nonneg h0
theorem order_in (n : Int) (h0 : 0 ≤ n) (h1 : n ≤ 1000000) : FloatKind.f64.format.order (floatOfInt .f64 n) (floatOfInt .f64 n) = some .eq := same_lit n h0 h1 _ rfl
set_option maxHeartbeats 4000000 in
theorem gmul_in (a b c d : Int) (ha : 0 ≤ a) (ha2 : a ≤ 65520) (hb : 0 ≤ b) (hb2 : b ≤ 65520) (hc : 0 ≤ c) (hc2 : c ≤ 65520) (hd : 0 ≤ d) (hd2 : d ≤ 65520) (w : World) :
    Calls Try.prog 3 #[.int .i64 a, .int .i64 b, .int .i64 c, .int .i64 d] w fun e w' => e = .returned (.bool true) ∧ Below w.heap.size w w' := by
  obtain ⟨ac0, ac1⟩ := mul_bound ha ha2 hc hc2
  obtain ⟨bd0, bd1⟩ := mul_bound hb hb2 hd hd2
  obtain ⟨ad0, ad1⟩ := mul_bound ha ha2 hd hd2
  obtain ⟨bc0, bc1⟩ := mul_bound hb hb2 hc hc2
  have Z := zero_eq
  have M1 : Hid (∀ w, Calls Try.prog 8 #[.complex .f64 (floatOfInt .f64 a) (floatOfInt .f64 b), .complex .f64 (floatOfInt .f64 c) (floatOfInt .f64 d)] w fun e w' => e = .returned (.complex .f64 (floatOfInt .f64 (md (a * c - b * d))) (floatOfInt .f64 (md (a * d + b * c)))) ∧ w = w') :=
    Lib.hid (mul_cx (a, b) (c, d) ⟨ha, ha2, hb, hb2⟩ ⟨hc, hc2, hd, hd2⟩)
  have M3 : Hid (∀ w, Calls Try.prog 8 #[.complex .f64 (floatOfInt .f64 c) (floatOfInt .f64 d), .complex .f64 (floatOfInt .f64 a) (floatOfInt .f64 b)] w fun e w' => e = .returned (.complex .f64 (floatOfInt .f64 (md (a * c - b * d))) (floatOfInt .f64 (md (a * d + b * c)))) ∧ w = w') := by
    have h := mul_cx (c, d) (a, b) ⟨hc, hc2, hd, hd2⟩ ⟨ha, ha2, hb, hb2⟩
    have e : mulP (c, d) (a, b) = (md (a * c - b * d), md (a * d + b * c)) := by
      unfold mulP
      simp only [Int.mul_comm c a, Int.mul_comm d b, Int.mul_comm c b, Int.mul_comm d a, Int.add_comm (b * c) (a * d)]
    rw [e] at h
    exact Lib.hid h
  obtain ⟨x, hx, hhalf⟩ := half_is (rep_in a ha (by omega)) ha (by omega)
  have hop : ∀ w, (binOp .add 25 (.float .f64 (floatOfInt .f64 a)) (.float .f64 4602678819172646912)).run Try.prog w = .ok (.float .f64 x) w := fun w => run_float_arith w .add 25 .f64 _ _ _ hx
  have M2 : Hid (∀ w, Calls Try.prog 8 #[.complex .f64 x (floatOfInt .f64 b), .complex .f64 (floatOfInt .f64 c) (floatOfInt .f64 d)] w fun e w' => e = .returned (.complex .f64 0 0) ∧ w = w') :=
    Lib.hid (mul_no1 _ _ _ _ false true (whole_half x a hhalf ha ha2) (tells_in b hb hb2) rfl)
  clear hx hhalf
  have RB1 := md_range (a * c - b * d)
  have RB2 := md_range (a * d + b * c)
  have O1 := order_in (md (a * c - b * d)) RB1.1 (by omega)
  have O2 := order_in (md (a * d + b * c)) RB2.1 (by omega)
  have e1 := re_is (a * c - b * d)
  have e2 := im_is (a * d + b * c) (by omega)
  obtain ⟨t1, t2⟩ := re_bound (a * c - b * d)
  clear RB1 RB2
  go_enter Try.func3, Try.ntmps3
  go_wp2_with fail
  refine (alive_any _).mono ?_
  rintro e w' ⟨rfl, hb⟩
  go_wp2_with fail
  refine (M1.out _).mono ?_
  rintro e w' ⟨rfl, rfl⟩
  go_wp2_with fail
  refine (M2.out _).mono ?_
  rintro e w' ⟨rfl, rfl⟩
  go_wp2_with fail
  refine (M3.out _).mono ?_
  rintro e w' ⟨rfl, rfl⟩
  go_wp2
  go_ret
  exact ⟨rfl, hb⟩
end Go.Proofs.Ytdocfnomcbfbpaa.Gauss
