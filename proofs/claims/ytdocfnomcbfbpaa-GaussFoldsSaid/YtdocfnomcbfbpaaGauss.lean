/- The walks of package gauss at whole numbers: what whole, may, part, reduced and Mul give. Conditions: as each names them. -/
import Derived.Test.YtdocfnomcbfbpaaProg
import Derived.Test.YtdocfnomcbfbpaaFlt
import Derived.Tactics
import Derived.Tactics2
import Derived.StillTactics
import Derived.WalkKit
import Derived.WalkLawsBesides
import Derived.KernelRfl
import Derived.BigQuiet
import Derived.Outline
import Derived.Lib.Hide
namespace Go.Proofs.Ytdocfnomcbfbpaa.Gauss
open Go.RowKit Go.Proofs.Ytdocfnomcbfbpaa.Flt

theorem whole_neg (x : Nat) (w : World) (h : FloatKind.f64.format.order x 0 = some .lt) : Calls Try.prog 17 #[.float .f64 x] w fun e w' => e = .returned (.bool false) ∧ w = w' := by
  go_enter Try.func17, Try.ntmps17
  go_wp2
  go_ret
  exact ⟨rfl, rfl⟩

theorem whole_big (x : Nat) (w : World) (o1 o2 : Ordering) (h1 : FloatKind.f64.format.order x 0 = some o1) (h2 : FloatKind.f64.format.order x 4679237951253643264 = some o2) (k1 : o1 ≠ .lt) (k2 : o2 ≠ .lt) :
    Calls Try.prog 17 #[.float .f64 x] w fun e w' => e = .returned (.bool false) ∧ w = w' := by
  cases o1 <;> cases o2 <;> first | exact absurd rfl k1 | exact absurd rfl k2 | skip
  all_goals
    clear k1 k2
    go_enter Try.func17, Try.ntmps17
    go_wp2
    go_ret
    exact ⟨rfl, rfl⟩
theorem whole_last (x : Nat) (w : World) (o1 o3 : Ordering) (a : Int) (h1 : FloatKind.f64.format.order x 0 = some o1) (h2 : FloatKind.f64.format.order x 4679237951253643264 = some .lt) (k1 : o1 ≠ .lt) (hi : floatToIntVal .f64 x .i64 = some a)
    (h3 : FloatKind.f64.format.order x (floatOfInt .f64 a) = some o3) : Calls Try.prog 17 #[.float .f64 x] w fun e w' => e = .returned (.bool (o3 == .eq)) ∧ w = w' := by
  have hc : ∀ w, (convert 25 3 (.float .f64 x)).run Try.prog w = .ok (.int .i64 a) w := fun w => run_convert_float_int w 25 3 .f64 .i64 x a (by rw [Try.underlying25]; rfl) Try.underlying3 hi
  clear hi
  cases o1 <;> first | exact absurd rfl k1 | skip
  all_goals
    clear k1
    go_enter Try.func17, Try.ntmps17
    go_wp2
    go_ret
    exact ⟨by cases o3 <;> rfl, rfl⟩

/-- What whole tells of x, whatever the memory. -/
def Tells (x : Nat) (b : Bool) : Prop := ∀ w, Calls Try.prog 17 #[.float .f64 x] w fun e w' => e = .returned (.bool b) ∧ w = w'
theorem lit_is : (4679237951253643264 : Nat) = F 65521 := by decide
theorem rep_lit : Rep 4679237951253643264 65521 := by
  rw [lit_is]
  exact rep_F 65521 (by decide)
theorem cmp_lt {a b : Int} (h : a < b) : compare a b = .lt := by
  show compareOfLessAndEq _ _ = _
  unfold compareOfLessAndEq
  rw [if_pos h]
theorem cmp_ge {a b : Int} (h : b ≤ a) : compare a b ≠ .lt := by
  show compareOfLessAndEq _ _ ≠ _
  unfold compareOfLessAndEq
  rw [if_neg (by omega)]
  split <;> simp
theorem cmp_self (a : Int) : compare a a = .eq := by
  show compareOfLessAndEq _ _ = _
  unfold compareOfLessAndEq
  rw [if_neg (by omega), if_pos rfl]
theorem cmp_gt {a b : Int} (h : b < a) : compare a b = .gt := by
  show compareOfLessAndEq _ _ = _
  unfold compareOfLessAndEq
  rw [if_neg (by omega), if_neg (by omega)]
theorem whole_F (n : Int) (h0 : -9223372036854775808 ≤ n) (h1 : n ≤ 9223372036854775807) : Tells (floatOfInt .f64 n) (decide (0 ≤ n ∧ n ≤ 65520)) := by
  intro w
  have o1 : FloatKind.f64.format.order (floatOfInt .f64 n) 0 = some (compare n 0) := order_any n h0 h1 rep_zero (by decide)
  have o2 : FloatKind.f64.format.order (floatOfInt .f64 n) 4679237951253643264 = some (compare n 65521) := order_any n h0 h1 rep_lit (by decide)
  by_cases a : n < 0
  · rw [decide_eq_false (by omega)]
    rw [cmp_lt a] at o1
    exact whole_neg _ w o1
  · by_cases b : 65520 < n
    · rw [decide_eq_false (by omega)]
      exact whole_big _ w _ _ o1 o2 (cmp_ge (by omega)) (cmp_ge (by omega))
    · rw [decide_eq_true (show 0 ≤ n ∧ n ≤ 65520 by omega)]
      rw [cmp_lt (by omega)] at o2
      have hr : Rep (floatOfInt .f64 n) n := rep_F n (by omega)
      have o3 : FloatKind.f64.format.order (floatOfInt .f64 n) (floatOfInt .f64 n) = some (compare n n) := order_is hr hr
      have := whole_last _ w _ _ n o1 o2 (cmp_ge (by omega)) (int_is hr h0 h1) o3
      rw [cmp_self] at this
      exact this
theorem whole_half (x : Nat) (n : Int) (hx : Half x n) (h0 : 0 ≤ n) (h1 : n ≤ 65520) : Tells x false := by
  intro w
  have o1 : FloatKind.f64.format.order x 0 = some (compare (2 * n + 1) (2 * 0)) := half_order hx h0 rep_zero
  have o2 : FloatKind.f64.format.order x 4679237951253643264 = some (compare (2 * n + 1) (2 * 65521)) := half_order hx h0 rep_lit
  have o3 : FloatKind.f64.format.order x (floatOfInt .f64 n) = some (compare (2 * n + 1) (2 * n)) := half_order hx h0 (rep_F n (by omega))
  rw [cmp_lt (by omega)] at o2
  have := whole_last _ w _ _ n o1 o2 (cmp_ge (by omega)) (half_int hx h0 (by omega)) o3
  rw [cmp_gt (by omega)] at this
  exact this

theorem may_is (x y : Nat) (b1 b2 : Bool) (hx : Tells x b1) (hy : Tells y b2) (w : World) : Calls Try.prog 13 #[.complex .f64 x y] w fun e w' => e = .returned (.bool (b1 && b2)) ∧ w = w' := by
  have HX := Lib.hid hx
  have HY := Lib.hid hy
  clear hx hy
  cases b1
  · go_enter Try.func13, Try.ntmps13
    go_wp2_with (go_at_call 17; refine (HX.out _).mono ?_; rintro e w' ⟨rfl, rfl⟩)
    go_ret
    exact ⟨rfl, rfl⟩
  · go_enter Try.func13, Try.ntmps13
    go_wp2_with fail
    refine (HX.out _).mono ?_
    rintro e w' ⟨rfl, rfl⟩
    go_wp2_with (go_at_call 17; refine (HY.out _).mono ?_; rintro e w' ⟨rfl, rfl⟩)
    go_ret
    exact ⟨rfl, rfl⟩

/-- A whole number, modulo 65521. -/
def md (n : Int) : Int := n % 65521
theorem md_range (n : Int) : 0 ≤ md n ∧ md n ≤ 65520 := by unfold md; omega
theorem part_F (x : Nat) (n : Int) (hx : Rep x n) (h0 : -1000000000000 ≤ n) (h1 : n ≤ 1000000000000) (w : World) : Calls Try.prog 18 #[.float .f64 x] w fun e w' => e = .returned (.float .f64 (floatOfInt .f64 (md n))) ∧ w = w' := by
  have hi : floatToIntVal .f64 x .i64 = some n := int_is hx (by omega) (by omega)
  have hc : ∀ w, (convert 25 3 (.float .f64 x)).run Try.prog w = .ok (.int .i64 n) w := fun w => run_convert_float_int w 25 3 .f64 .i64 x n (by rw [Try.underlying25]; rfl) Try.underlying3 hi
  clear hi hx
  obtain ⟨r, hr⟩ : ∃ r, r = n.tmod 65521 := ⟨_, rfl⟩
  have hm : md n = if r < 0 then r + 65521 else r := by
    unfold md
    rw [hr, Int.tmod_eq_emod]
    split <;> split <;> omega
  have hrb : -65521 < r ∧ r < 65521 := by
    rw [hr, Int.tmod_eq_emod]
    split <;> omega
  have HM := Lib.hid hm
  have HR := Lib.hid hr
  clear hm
  have hm1 : -65521 < r := hrb.1
  have hm2 : r < 65521 := hrb.2
  clear hrb
  have ht : n.tmod 65521 = r := hr.symm
  clear hr
  by_cases hlt : r < 0
  · go_enter Try.func18, Try.ntmps18
    go_wp2
    go_ret
    exact ⟨by rw [HM.out, if_pos hlt]; rfl, rfl⟩
  · go_enter Try.func18, Try.ntmps18
    go_wp2
    go_ret
    exact ⟨by rw [HM.out, if_neg (by omega)]; rfl, rfl⟩
theorem reduced_F (x y : Nat) (m n : Int) (hx : Rep x m) (hy : Rep y n) (h0 : -1000000000000 ≤ m) (h1 : m ≤ 1000000000000) (h2 : -1000000000000 ≤ n) (h3 : n ≤ 1000000000000) (w : World) :
    Calls Try.prog 14 #[.complex .f64 x y] w fun e w' => e = .returned (.complex .f64 (floatOfInt .f64 (md m)) (floatOfInt .f64 (md n))) ∧ w = w' := by
  have HX := Lib.hid hx
  have HY := Lib.hid hy
  clear hx hy
  go_enter Try.func14, Try.ntmps14
  go_wp2_with fail
  refine (part_F _ _ HX.out h0 h1 _).mono ?_
  rintro e w' ⟨rfl, rfl⟩
  go_wp2_with fail
  refine (part_F _ _ HY.out h2 h3 _).mono ?_
  rintro e w' ⟨rfl, rfl⟩
  go_wp2
  go_ret
  exact ⟨rfl, rfl⟩
theorem mul_bound {a b : Int} (ha : 0 ≤ a) (ha2 : a ≤ 65520) (hb : 0 ≤ b) (hb2 : b ≤ 65520) : 0 ≤ a * b ∧ a * b ≤ 4292870400 := by
  refine ⟨Int.mul_nonneg ha hb, ?_⟩
  have := Int.mul_le_mul ha2 hb2 hb (by decide : (0 : Int) ≤ 65520)
  omega
theorem mul_yes (x y z t : Nat) (a b c d : Int) (hx : Rep x a) (hy : Rep y b) (hz : Rep z c) (ht : Rep t d) (tx : Tells x true) (ty : Tells y true) (tz : Tells z true) (tt : Tells t true)
    (ha : 0 ≤ a) (ha2 : a ≤ 65520) (hb : 0 ≤ b) (hb2 : b ≤ 65520) (hc : 0 ≤ c) (hc2 : c ≤ 65520) (hd : 0 ≤ d) (hd2 : d ≤ 65520) (w : World) :
    Calls Try.prog 8 #[.complex .f64 x y, .complex .f64 z t] w fun e w' => e = .returned (.complex .f64 (floatOfInt .f64 (md (a * c - b * d))) (floatOfInt .f64 (md (a * d + b * c)))) ∧ w = w' := by
  obtain ⟨ac0, ac1⟩ := mul_bound ha ha2 hc hc2
  obtain ⟨bd0, bd1⟩ := mul_bound hb hb2 hd hd2
  obtain ⟨ad0, ad1⟩ := mul_bound ha ha2 hd hd2
  obtain ⟨bc0, bc1⟩ := mul_bound hb hb2 hc hc2
  have f1 := mul_is hx hz ha hc (by omega)
  have f2 := mul_is hy ht hb hd (by omega)
  have f3 := mul_is hx ht ha hd (by omega)
  have f4 := mul_is hy hz hb hc (by omega)
  have r1 := rep_F (a * c) (by omega)
  have r2 := rep_F (b * d) (by omega)
  have r3 := rep_F (a * d) (by omega)
  have r4 := rep_F (b * c) (by omega)
  have s1 := sub_is r1 r2 (by omega)
  have s2 := add_is r3 r4 (by omega)
  have hcm : cMulBits x y z t = some (F (a * c - b * d), F (a * d + b * c)) := by
    unfold cMulBits
    rw [f1, Option.bind_some, f2, Option.bind_some, s1, Option.bind_some, f3, Option.bind_some, f4, Option.bind_some, s2]
    rfl
  have hop : ∀ w, (binOp .mul 23 (.complex .f64 x y) (.complex .f64 z t)).run Try.prog w = .ok (.complex .f64 (F (a * c - b * d)) (F (a * d + b * c))) w := fun w => run_complex_mul w 23 x y z t _ _ hcm
  have R1 := Lib.hid (rep_F (a * c - b * d) (by omega))
  have R2 := Lib.hid (rep_F (a * d + b * c) (by omega))
  have M1 := Lib.hid (may_is x y true true tx ty)
  have M2 := Lib.hid (may_is z t true true tz tt)
  have g1 : -1000000000000 ≤ a * c - b * d := by omega
  have g2 : a * c - b * d ≤ 1000000000000 := by omega
  have g3 : -1000000000000 ≤ a * d + b * c := by omega
  have g4 : a * d + b * c ≤ 1000000000000 := by omega
  clear f1 f2 f3 f4 r1 r2 r3 r4 s1 s2 hcm hx hy hz ht tx ty tz tt
  generalize a * c - b * d = re at *
  generalize a * d + b * c = im at *
  generalize F re = fre at *
  generalize F im = fim at *
  clear ac0 ac1 bd0 bd1 ad0 ad1 bc0 bc1
  go_enter Try.func8, Try.ntmps8
  go_wp2_with fail
  refine (M1.out _).mono ?_
  rintro e w' ⟨rfl, rfl⟩
  go_wp2_with fail
  refine (M2.out _).mono ?_
  rintro e w' ⟨rfl, rfl⟩
  go_wp2_with (go_at_call 14; refine (reduced_F _ _ _ _ R1.out R2.out g1 g2 g3 g4 _).mono ?_; rintro e w' ⟨rfl, rfl⟩)
  go_ret
  exact ⟨rfl, rfl⟩
theorem mul_no1 (x y z t : Nat) (b1 b2 : Bool) (hx : Tells x b1) (hy : Tells y b2) (hb : (b1 && b2) = false) (w : World) : Calls Try.prog 8 #[.complex .f64 x y, .complex .f64 z t] w fun e w' => e = .returned (.complex .f64 0 0) ∧ w = w' := by
  have M1 := may_is x y b1 b2 hx hy
  rw [hb] at M1
  have M1 := Lib.hid M1
  clear hx hy hb
  go_enter Try.func8, Try.ntmps8
  go_wp2_with (go_at_call 13; refine (M1.out _).mono ?_; rintro e w' ⟨rfl, rfl⟩)
  go_ret
  exact ⟨rfl, rfl⟩
theorem mul_no2 (x y z t : Nat) (b1 b2 : Bool) (tx : Tells x true) (ty : Tells y true) (hz : Tells z b1) (ht : Tells t b2) (hb : (b1 && b2) = false) (w : World) : Calls Try.prog 8 #[.complex .f64 x y, .complex .f64 z t] w fun e w' => e = .returned (.complex .f64 0 0) ∧ w = w' := by
  have M1 := Lib.hid (may_is x y true true tx ty)
  have M2 := may_is z t b1 b2 hz ht
  rw [hb] at M2
  have M2 := Lib.hid M2
  clear hz ht hb tx ty
  go_enter Try.func8, Try.ntmps8
  go_wp2_with fail
  refine (M1.out _).mono ?_
  rintro e w' ⟨rfl, rfl⟩
  go_wp2_with (go_at_call 13; refine (M2.out _).mono ?_; rintro e w' ⟨rfl, rfl⟩)
  go_ret
  exact ⟨rfl, rfl⟩
end Go.Proofs.Ytdocfnomcbfbpaa.Gauss
