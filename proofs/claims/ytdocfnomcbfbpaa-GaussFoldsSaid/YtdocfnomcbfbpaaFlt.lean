/- Floats of 64 bits that stand for whole numbers: what float64(n) reads as; sums, differences, products and comparisons of such are those of the numbers; int(x) gives the number back; a half more is told from it. Conditions: the numbers are below 2^53, where a lemma says so. -/
import Derived.Laws.FloatArith
import Derived.Laws.ComplexArith
namespace Go.Proofs.Ytdocfnomcbfbpaa.Flt
open Go

abbrev D : Ieee.Format := Ieee.double
theorem D_binade : D.binade = 2 ^ 52 := rfl
theorem D_least : D.leastPlace = -1074 := by decide
theorem D_sign : D.signWeight = 2 ^ 63 := rfl
theorem D_inf : D.infRung = 2047 * 2 ^ 52 := rfl
theorem D_frac : D.fractionBits = 52 := rfl

theorem log2_mul (m k : Nat) (h : 0 < m) : (m * 2 ^ k).log2 = m.log2 + k := by
  have hp : 0 < 2 ^ k := Nat.two_pow_pos k
  have hm : m * 2 ^ k ≠ 0 := Nat.ne_of_gt (Nat.mul_pos h hp)
  rw [Nat.log2_eq_iff hm, Nat.pow_add]
  refine ⟨Nat.mul_le_mul_right _ (Nat.log2_self_le (Nat.ne_of_gt h)), ?_⟩
  have h1 : m < 2 ^ (m.log2 + 1) := Nat.lt_log2_self
  have h2 : m.log2 + k + 1 = (m.log2 + 1) + k := by omega
  rw [h2, Nat.pow_add]
  exact Nat.mul_lt_mul_of_pos_right h1 hp
theorem log2_lt53 {m : Nat} (h0 : 0 < m) (h : m < 2 ^ 53) : m.log2 ≤ 52 := by
  have := (Nat.log2_lt (Nat.ne_of_gt h0)).2 h
  omega
/-- A number of t's full significand. -/
theorem full {t : Nat} (h0 : 0 < t) (h : t < 2 ^ 53) : 2 ^ 52 ≤ t * 2 ^ (52 - t.log2) ∧ t * 2 ^ (52 - t.log2) < 2 ^ 53 := by
  have hl := log2_lt53 h0 h
  have hp : 0 < 2 ^ (52 - t.log2) := Nat.two_pow_pos _
  constructor
  · have h1 := Nat.mul_le_mul_right (2 ^ (52 - t.log2)) (Nat.log2_self_le (Nat.ne_of_gt h0))
    rwa [← Nat.pow_add, show t.log2 + (52 - t.log2) = 52 by omega] at h1
  · have h1 := Nat.mul_lt_mul_of_pos_right (Nat.lt_log2_self (n := t)) hp
    rwa [← Nat.pow_add, show t.log2 + 1 + (52 - t.log2) = 53 by omega] at h1
/-- To cut what divides. -/
theorem cut_exact (neg : Bool) (q drop : Nat) (hq : 0 < q) : Ieee.Toward.even.cut neg (q * 2 ^ drop) drop = q := by
  have hp : 0 < 2 ^ drop := Nat.two_pow_pos _
  have hm : min drop ((q * 2 ^ drop).log2 + 2) = drop := by
    rw [log2_mul q drop hq]
    omega
  unfold Ieee.Toward.cut
  dsimp only
  rw [hm, Nat.shiftLeft_eq, Nat.one_mul, Nat.mul_div_cancel _ hp, Nat.mul_mod_left]
  have h1 : decide (2 ^ drop < 2 * 0) = false := by simp
  have h2 : (2 ^ drop == 2 * 0) = false := by
    rw [beq_eq_false_iff_ne]
    omega
  simp only [h1, h2]
  rfl
theorem cut_zero (neg : Bool) (q drop : Nat) : Ieee.Toward.zero.cut neg (q * 2 ^ drop) drop = q := by
  have hp : 0 < 2 ^ drop := Nat.two_pow_pos _
  unfold Ieee.Toward.cut
  dsimp only
  rcases Nat.eq_zero_or_pos q with rfl | hq
  · simp
  · have hm : min drop ((q * 2 ^ drop).log2 + 2) = drop := by
      rw [log2_mul q drop hq]
      omega
    rw [hm, Nat.shiftLeft_eq, Nat.one_mul, Nat.mul_div_cancel _ hp]
    rfl
/-- The word of t * 2^(p + j), t having at most 53 digits. -/
theorem near (neg : Bool) (t j : Nat) (p : Int) (h0 : 0 < t) (h : t < 2 ^ 53) (h1 : -1000 ≤ p + j) (h2 : p + j ≤ 900) :
    D.nearest neg (t * 2 ^ j) p = D.word neg ((p + j + t.log2 + 1022).toNat * 2 ^ 52 + t * 2 ^ (52 - t.log2)) := by
  have hl := log2_lt53 h0 h
  obtain ⟨hf1, hf2⟩ := full h0 h
  have hmz : t * 2 ^ j ≠ 0 := Nat.ne_of_gt (Nat.mul_pos h0 (Nat.two_pow_pos j))
  unfold Ieee.Format.nearest
  rw [if_neg hmz, log2_mul t j h0, D_least, D_frac, D_binade, D_inf]
  have hlast : max (p + ((t.log2 + j : Nat) : Int) - ((52 : Nat) : Int)) (-1074) = p + j + t.log2 - 52 := by omega
  simp only [hlast]
  have hkept : Ieee.Toward.even.cut neg ((t * 2 ^ j) <<< (p - (p + j + t.log2 - 52)).toNat) (p + j + t.log2 - 52 - p).toNat = t * 2 ^ (52 - t.log2) := by
    have e1 : (p - (p + j + t.log2 - 52)).toNat = 52 - (j + t.log2) := by omega
    have e2 : (p + j + t.log2 - 52 - p).toNat = (j + t.log2) - 52 := by omega
    rw [e1, e2, Nat.shiftLeft_eq]
    have e3 : t * 2 ^ j * 2 ^ (52 - (j + t.log2)) = t * 2 ^ (52 - t.log2) * 2 ^ ((j + t.log2) - 52) := by
      rw [Nat.mul_assoc, Nat.mul_assoc, ← Nat.pow_add, ← Nat.pow_add]
      congr 2
      omega
    rw [e3]
    exact cut_exact neg _ _ (by omega)
  rw [hkept]
  have e4 : (p + j + t.log2 - 52 - -1074).toNat = (p + j + t.log2 + 1022).toNat := by omega
  rw [e4]
  congr 1
  have : (p + j + t.log2 + 1022).toNat ≤ 1974 := by omega
  omega
theorem read_word (neg : Bool) (e m : Nat) (he : 1 ≤ e) (he2 : e ≤ 2000) (h1 : 2 ^ 52 ≤ m) (h2 : m < 2 ^ 53) : D.read (D.word neg (e * 2 ^ 52 + m)) = .number neg m (-1074 + e) := by
  have hr : D.word neg (e * 2 ^ 52 + m) % 2 ^ 63 = e * 2 ^ 52 + m := by
    unfold Ieee.Format.word
    rw [D_sign]
    cases neg <;> simp <;> omega
  have hn : (D.word neg (e * 2 ^ 52 + m) / 2 ^ 63 % 2 == 1) = neg := by
    unfold Ieee.Format.word
    rw [D_sign]
    cases neg
    · simp
      omega
    · simp
      omega
  unfold Ieee.Format.read
  rw [D_sign, D_binade, D_inf, D_least, hr, hn]
  simp only
  rw [if_neg (by omega), if_pos (by omega)]
  have e1 : (e * 2 ^ 52 + m) % 2 ^ 52 = m - 2 ^ 52 := by omega
  have e2 : (e * 2 ^ 52 + m) / 2 ^ 52 = e + 1 := by omega
  have e3 : 2 ^ 52 + (m - 2 ^ 52) = m := by omega
  have e4 : e + 1 - 1 = e := by omega
  rw [e1, e2, e3, e4]
/-- What that word reads as. -/
theorem read_near (neg : Bool) (t j : Nat) (p : Int) (h0 : 0 < t) (h : t < 2 ^ 53) (h1 : -1000 ≤ p + j) (h2 : p + j ≤ 900) :
    D.read (D.nearest neg (t * 2 ^ j) p) = .number neg (t * 2 ^ (52 - t.log2)) (p + j - ((52 - t.log2 : Nat) : Int)) := by
  have hl := log2_lt53 h0 h
  obtain ⟨hf1, hf2⟩ := full h0 h
  have e : -1074 + (((p + j + t.log2 + 1022).toNat : Nat) : Int) = p + j - ((52 - t.log2 : Nat) : Int) := by omega
  rw [near neg t j p h0 h h1 h2, read_word neg (p + j + t.log2 + 1022).toNat _ (by omega) (by omega) hf1 hf2, e]
theorem near_zero (neg : Bool) (p : Int) : D.nearest neg 0 p = D.word neg 0 := by
  unfold Ieee.Format.nearest
  rw [if_pos rfl]

/-! ### Whole numbers -/
/-- b stands for the number n, at some place. -/
def Rep (b : Nat) (n : Int) : Prop := ∃ k : Nat, k ≤ 1074 ∧ D.read b = .number (decide (n < 0)) (n.natAbs * 2 ^ k) (-(k : Int))
/-- float64(n). -/
def F (n : Int) : Nat := floatOfInt .f64 n
theorem F_is (n : Int) : F n = D.nearest (decide (n < 0)) n.natAbs 0 := rfl
theorem F_zero : F 0 = 0 := by decide
theorem rep_of_zero {b : Nat} (k : Nat) (hk : k ≤ 1074) (h : D.read b = .number false 0 (-(k : Int))) : Rep b 0 := ⟨k, hk, by rw [h]; simp⟩
theorem rep_zero : Rep 0 0 := rep_of_zero 1074 (Nat.le_refl _) (by decide)
theorem rep_F (n : Int) (h : n.natAbs < 2 ^ 53) : Rep (F n) n := by
  rcases Nat.eq_zero_or_pos n.natAbs with h0 | h0
  · have : n = 0 := by omega
    subst this
    rw [F_zero]
    exact rep_zero
  · have hl := log2_lt53 h0 h
    refine ⟨52 - n.natAbs.log2, by omega, ?_⟩
    have := read_near (decide (n < 0)) n.natAbs 0 0 h0 h (by decide) (by decide)
    rw [Nat.pow_zero, Nat.mul_one] at this
    have e : (0 : Int) + ((0 : Nat) : Int) - ((52 - n.natAbs.log2 : Nat) : Int) = -((52 - n.natAbs.log2 : Nat) : Int) := by omega
    rw [F_is, this, e]
/-- Whatever is written at the value n is float64(n). -/
theorem write_at (neg : Bool) (n : Int) (k : Nat) (h : n.natAbs < 2 ^ 53) (hneg : neg = decide (n < 0)) : D.write (.number neg (n.natAbs * 2 ^ k) (-(k : Int))) = F n := by
  subst hneg
  show D.nearest _ _ _ = _
  rw [F_is]
  rcases Nat.eq_zero_or_pos n.natAbs with h0 | h0
  · rw [h0, Nat.zero_mul, near_zero, near_zero]
  · rw [near _ n.natAbs k (-(k : Int)) h0 h (by omega) (by omega)]
    have := near (decide (n < 0)) n.natAbs 0 0 h0 h (by decide) (by decide)
    rw [Nat.pow_zero, Nat.mul_one] at this
    have e : -(k : Int) + k + n.natAbs.log2 + 1022 = 0 + ((0 : Nat) : Int) + n.natAbs.log2 + 1022 := by omega
    rw [this, e]
theorem signed_is (n : Int) (i u : Nat) : Ieee.signed (decide (n < 0)) (n.natAbs * 2 ^ i) u = n * 2 ^ (i + u) := by
  unfold Ieee.signed
  rw [Nat.shiftLeft_eq, Nat.mul_assoc, ← Nat.pow_add]
  by_cases h : n < 0
  · rw [decide_eq_true h]
    simp only [if_true, Int.natCast_mul, Int.natCast_pow]
    rw [show ((n.natAbs : Nat) : Int) = -n by omega]
    simp [Int.neg_mul]
  · rw [decide_eq_false h]
    simp only [Bool.false_eq_true, if_false, Int.natCast_mul, Int.natCast_pow]
    rw [show ((n.natAbs : Nat) : Int) = n by omega]
    rfl

theorem pow2_pos (n : Nat) : (0 : Int) < 2 ^ n := Int.pow_pos (by decide)
theorem split_pow (n : Int) (i j K : Nat) (h : i + j = K) : n * 2 ^ K = n * 2 ^ i * 2 ^ j := by rw [← h, Int.pow_add, Int.mul_assoc]
/-- The sum of two, told at one place. -/
theorem sum_at {a b : Int} {i j : Nat} (na nb : Bool) (A B : Int) (ha : ∀ u, Ieee.signed na (a.natAbs * 2 ^ i) u = A * 2 ^ (i + u)) (hb : ∀ u, Ieee.signed nb (b.natAbs * 2 ^ j) u = B * 2 ^ (j + u)) (hz : A + B = 0 → (na && nb) = false) (h : (A + B).natAbs < 2 ^ 53) :
    ((Ieee.Datum.sum (.number na (a.natAbs * 2 ^ i) (-(i : Int))) (.number nb (b.natAbs * 2 ^ j) (-(j : Int)))).map D.write) = some (F (A + B)) := by
  obtain ⟨K, hK⟩ : ∃ K, K = max i j := ⟨_, rfl⟩
  have hbase : min (-(i : Int)) (-(j : Int)) = -(K : Int) := by omega
  have h1 : i + (-(i : Int) - -(K : Int)).toNat = K := by omega
  have h2 : j + (-(j : Int) - -(K : Int)).toNat = K := by omega
  simp only [Ieee.Datum.sum, hbase, ha, hb, h1, h2, Option.map_some]
  have hs : A * 2 ^ K + B * 2 ^ K = (A + B) * 2 ^ K := by rw [Int.add_mul]
  have hp := pow2_pos K
  have habs : ((A + B) * 2 ^ K).natAbs = (A + B).natAbs * 2 ^ K := by rw [Int.natAbs_mul, Int.natAbs_pow]; rfl
  rw [hs, habs]
  have hneg : (if (A + B) * 2 ^ K = 0 then (na && nb) else decide ((A + B) * 2 ^ K < 0)) = decide (A + B < 0) := by
    by_cases h0 : A + B = 0
    · rw [h0, Int.zero_mul, if_pos rfl, hz h0]
      rfl
    · have hne : (A + B) * 2 ^ K ≠ 0 := by
        intro h3
        rcases Int.mul_eq_zero.1 h3 with h4 | h4
        · exact h0 h4
        · omega
      rw [if_neg hne]
      by_cases hl : A + B < 0
      · rw [decide_eq_true hl, decide_eq_true (Int.mul_neg_of_neg_of_pos hl hp)]
      · rw [decide_eq_false hl, decide_eq_false]
        have := Int.mul_nonneg (by omega : 0 ≤ A + B) (Int.le_of_lt hp)
        omega
  rw [hneg, write_at _ (A + B) K h rfl]
theorem add_is {x y : Nat} {a b : Int} (hx : Rep x a) (hy : Rep y b) (h : (a + b).natAbs < 2 ^ 53) : floatBits .add .f64 x y = some (F (a + b)) := by
  obtain ⟨i, _, hi⟩ := hx
  obtain ⟨j, _, hj⟩ := hy
  show (((D.read x).sum (D.read y)).map D.write) = _
  rw [hi, hj]
  exact sum_at _ _ a b (fun u => signed_is a i u) (fun u => signed_is b j u) (fun h0 => by
    by_cases h1 : a < 0
    · rw [decide_eq_false (show ¬ b < 0 by omega), Bool.and_false]
    · rw [decide_eq_false h1, Bool.false_and]) h
theorem signed_not (n : Int) (i u : Nat) : Ieee.signed (!decide (n < 0)) (n.natAbs * 2 ^ i) u = (-n) * 2 ^ (i + u) := by
  have h := signed_is n i u
  unfold Ieee.signed at h ⊢
  cases hd : decide (n < 0)
  · rw [hd] at h
    simp only [Bool.false_eq_true, if_false, Bool.not_false, if_true] at h ⊢
    rw [h, Int.neg_mul]
  · rw [hd] at h
    simp only [if_true, Bool.not_true, Bool.false_eq_true, if_false] at h ⊢
    rw [Int.neg_mul, ← h, Int.neg_neg]
theorem sub_is {x y : Nat} {a b : Int} (hx : Rep x a) (hy : Rep y b) (h : (a - b).natAbs < 2 ^ 53) : floatBits .sub .f64 x y = some (F (a - b)) := by
  obtain ⟨i, _, hi⟩ := hx
  obtain ⟨j, _, hj⟩ := hy
  show (((D.read x).sum (D.read y).opposite).map D.write) = _
  rw [hi, hj]
  have := sum_at (a := a) (b := b) (i := i) (j := j) (decide (a < 0)) (!decide (b < 0)) a (-b) (fun u => signed_is a i u) (fun u => signed_not b j u) (fun h0 => by
    by_cases h1 : a < 0
    · rw [decide_eq_true (show b < 0 by omega), Bool.not_true, Bool.and_false]
    · rw [decide_eq_false h1, Bool.false_and]) (by rw [← Int.sub_eq_add_neg]; exact h)
  rw [← Int.sub_eq_add_neg] at this
  exact this
theorem mul_is {x y : Nat} {a b : Int} (hx : Rep x a) (hy : Rep y b) (ha : 0 ≤ a) (hb : 0 ≤ b) (h : (a * b).natAbs < 2 ^ 53) : floatBits .mul .f64 x y = some (F (a * b)) := by
  obtain ⟨i, hi', hi⟩ := hx
  obtain ⟨j, hj', hj⟩ := hy
  show (((D.read x).product (D.read y)).map D.write) = _
  rw [hi, hj, decide_eq_false (show ¬ a < 0 by omega), decide_eq_false (show ¬ b < 0 by omega)]
  simp only [Ieee.Datum.product, Option.map_some, Bool.xor_self]
  have e1 : a.natAbs * 2 ^ i * (b.natAbs * 2 ^ j) = (a * b).natAbs * 2 ^ (i + j) := by
    rw [Int.natAbs_mul, Nat.pow_add]
    simp only [Nat.mul_assoc, Nat.mul_left_comm]
  have e2 : -(i : Int) + -(j : Int) = -((i + j : Nat) : Int) := by omega
  rw [e1, e2, write_at false (a * b) (i + j) h]
  rw [decide_eq_false]
  have := Int.mul_nonneg ha hb
  omega
theorem compare_mul (a b c : Int) (hc : 0 < c) : compare (a * c) (b * c) = compare a b := by
  show compareOfLessAndEq _ _ = compareOfLessAndEq _ _
  unfold compareOfLessAndEq
  have h1 : (a * c < b * c) = (a < b) := propext (Int.mul_lt_mul_right hc)
  have h2 : (a * c = b * c) = (a = b) := propext ⟨fun h => Int.eq_of_mul_eq_mul_right (Int.ne_of_gt hc) h, fun h => by rw [h]⟩
  simp only [h1, h2]
theorem order_is {x y : Nat} {a b : Int} (hx : Rep x a) (hy : Rep y b) : D.order x y = some (compare a b) := by
  obtain ⟨i, _, hi⟩ := hx
  obtain ⟨j, _, hj⟩ := hy
  show (D.read x).order (D.read y) = _
  rw [hi, hj]
  obtain ⟨K, hK⟩ : ∃ K, K = max i j := ⟨_, rfl⟩
  have hbase : min (-(i : Int)) (-(j : Int)) = -(K : Int) := by omega
  have h1 : i + (-(i : Int) - -(K : Int)).toNat = K := by omega
  have h2 : j + (-(j : Int) - -(K : Int)).toNat = K := by omega
  simp only [Ieee.Datum.order, hbase, signed_is, h1, h2]
  rw [compare_mul _ _ _ (pow2_pos K)]
theorem toInt_is {x : Nat} {a : Int} (hx : Rep x a) : (FloatKind.f64.decode x).toInt .zero = some a := by
  obtain ⟨i, _, hi⟩ := hx
  show (D.read x).toInt .zero = _
  rw [hi]
  simp only [Ieee.Datum.toInt, Ieee.Datum.integral]
  have e1 : (-(i : Int)).toNat = 0 := by omega
  have e2 : (- -(i : Int)).toNat = i := by omega
  rw [e1, e2, Nat.shiftLeft_zero, cut_zero]
  have := signed_is a 0 0
  simp only [Nat.pow_zero, Nat.mul_one, Nat.add_zero, Int.pow_zero, Int.mul_one] at this
  rw [this]
theorem int_is {x : Nat} {a : Int} (hx : Rep x a) (h0 : -9223372036854775808 ≤ a) (h1 : a ≤ 9223372036854775807) : floatToIntVal .f64 x .i64 = some a := by
  unfold floatToIntVal
  rw [toInt_is hx]
  simp only
  rw [if_pos]
  simp [IntKind.min, IntKind.max, IntKind.signed, IntKind.bits]
  omega

/-! ### Great numbers; a half more -/
theorem cut_between (neg : Bool) (n d : Nat) (h : d ≤ n.log2 + 2) : n / 2 ^ d ≤ Ieee.Toward.even.cut neg n d ∧ Ieee.Toward.even.cut neg n d ≤ n / 2 ^ d + 1 := by
  unfold Ieee.Toward.cut
  dsimp only
  rw [show min d (n.log2 + 2) = d by omega, Nat.shiftLeft_eq, Nat.one_mul]
  generalize (decide (2 ^ d < 2 * (n % 2 ^ d)) || 2 ^ d == 2 * (n % 2 ^ d) && n / 2 ^ d % 2 == 1) = b
  cases b <;> simp
theorem great (neg : Bool) (m : Nat) (h : 2 ^ 53 ≤ m) (h2 : m < 2 ^ 64) : ∃ (mag : Nat) (place : Int), D.read (D.nearest neg m 0) = .number neg mag place ∧ 2 ^ 52 ≤ mag ∧ 1 ≤ place := by
  have hm : m ≠ 0 := by omega
  have hL1 : 53 ≤ m.log2 := (Nat.le_log2 hm).2 h
  have hL2 : m.log2 < 64 := (Nat.log2_lt hm).2 h2
  have h3 : 2 ^ 52 ≤ m / 2 ^ (m.log2 - 52) := by
    rw [Nat.le_div_iff_mul_le (Nat.two_pow_pos _), ← Nat.pow_add, show 52 + (m.log2 - 52) = m.log2 by omega]
    exact Nat.log2_self_le hm
  have h4 : m / 2 ^ (m.log2 - 52) < 2 ^ 53 := by
    rw [Nat.div_lt_iff_lt_mul (Nat.two_pow_pos _), ← Nat.pow_add, show 53 + (m.log2 - 52) = m.log2 + 1 by omega]
    exact Nat.lt_log2_self
  obtain ⟨c1, c2⟩ := cut_between neg m (m.log2 - 52) (by omega)
  have hn : D.nearest neg m 0 = D.word neg ((m.log2 + 1022) * 2 ^ 52 + Ieee.Toward.even.cut neg m (m.log2 - 52)) := by
    unfold Ieee.Format.nearest
    rw [if_neg hm, D_least, D_frac, D_binade, D_inf]
    have hlast : max ((0 : Int) + ((m.log2 : Nat) : Int) - ((52 : Nat) : Int)) (-1074) = (m.log2 : Int) - 52 := by omega
    simp only [hlast]
    have e1 : (0 - ((m.log2 : Int) - 52)).toNat = 0 := by omega
    have e2 : ((m.log2 : Int) - 52 - 0).toNat = m.log2 - 52 := by omega
    have e3 : ((m.log2 : Int) - 52 - -1074).toNat = m.log2 + 1022 := by omega
    rw [e1, e2, e3, Nat.shiftLeft_zero]
    congr 1
    omega
  rw [hn]
  generalize Ieee.Toward.even.cut neg m (m.log2 - 52) = c at c1 c2
  by_cases hc : c < 2 ^ 53
  · exact ⟨c, _, read_word neg _ c (by omega) (by omega) (by omega) hc, by omega, by omega⟩
  · have e : (m.log2 + 1022) * 2 ^ 52 + c = (m.log2 + 1023) * 2 ^ 52 + 2 ^ 52 := by omega
    rw [e]
    exact ⟨2 ^ 52, _, read_word neg _ (2 ^ 52) (by omega) (by omega) (Nat.le_refl _) (by omega), Nat.le_refl _, by omega⟩
theorem order_great {x y : Nat} {neg : Bool} {mag : Nat} {place : Int} {b : Int} (hx : D.read x = .number neg mag place) (h1 : 2 ^ 52 ≤ mag) (h2 : 1 ≤ place) (hy : Rep y b) (hb : b.natAbs < 2 ^ 52) : D.order x y = some (if neg = true then .lt else .gt) := by
  obtain ⟨k, _, hk⟩ := hy
  show (D.read x).order (D.read y) = _
  rw [hx, hk]
  have hbase : min place (-(k : Int)) = -(k : Int) := by omega
  have hz : (-(k : Int) - -(k : Int)).toNat = 0 := by omega
  obtain ⟨u, hu⟩ : ∃ u, u = (place - -(k : Int)).toNat := ⟨_, rfl⟩
  simp only [Ieee.Datum.order, hbase, hz, ← hu]
  have hbs := signed_is b k 0
  rw [Nat.add_zero] at hbs
  rw [hbs]
  have hp : 0 < 2 ^ k := Nat.two_pow_pos k
  have hu2 : 2 ^ k ≤ 2 ^ u := Nat.pow_le_pow_right (by decide) (by omega)
  have hlt : (b * 2 ^ k).natAbs < mag * 2 ^ u := by
    rw [Int.natAbs_mul, Int.natAbs_pow]
    show b.natAbs * 2 ^ k < _
    exact Nat.lt_of_lt_of_le (Nat.mul_lt_mul_of_pos_right hb hp) (Nat.mul_le_mul h1 hu2)
  congr 1
  unfold Ieee.signed
  rw [Nat.shiftLeft_eq]
  generalize mag * 2 ^ u = M at hlt
  generalize b * 2 ^ k = B at hlt
  show compareOfLessAndEq _ _ = _
  unfold compareOfLessAndEq
  cases neg
  · simp only [Bool.false_eq_true, if_false]
    rw [if_neg (by omega), if_neg (by omega)]
  · simp only [if_true]
    rw [if_pos (by omega)]
/-- float64(n) of whatever whole number of 64 bits, held against a small one, as far as 'below' goes. -/
theorem order_any (n : Int) (h0 : -9223372036854775808 ≤ n) (h1 : n ≤ 9223372036854775807) {y : Nat} {b : Int} (hy : Rep y b) (hb : b.natAbs < 2 ^ 52) : D.order (F n) y = some (compare n b) := by
  by_cases h : n.natAbs < 2 ^ 53
  · exact order_is (rep_F n h) hy
  · obtain ⟨mag, place, hr, hm, hp⟩ := great (decide (n < 0)) n.natAbs (by omega) (by omega)
    rw [F_is, order_great hr hm hp hy hb]
    congr 1
    show _ = compareOfLessAndEq _ _
    unfold compareOfLessAndEq
    by_cases hn : n < 0
    · rw [decide_eq_true hn, if_pos rfl, if_pos (by omega)]
    · rw [decide_eq_false hn, if_neg (by decide), if_neg (by omega), if_neg (by omega)]
/-- b stands for n and a half. -/
def Half (b : Nat) (n : Int) : Prop := ∃ k : Nat, D.read b = .number false ((2 * n + 1).natAbs * 2 ^ k) (-((k + 1 : Nat) : Int))
theorem half_lit : D.read 4602678819172646912 = .number false (2 ^ 52) (-53) := by decide
theorem half_is {x : Nat} {a : Int} (hx : Rep x a) (h0 : 0 ≤ a) (h1 : a < 1000000) : ∃ h, floatBits .add .f64 x 4602678819172646912 = some h ∧ Half h a := by
  obtain ⟨i, hi', hi⟩ := hx
  have hneg : ¬ a < 0 := by omega
  obtain ⟨K, hK⟩ : ∃ K, K + 1 = max i 53 := ⟨max i 53 - 1, by omega⟩
  have hbase : min (-(i : Int)) (-53) = -((K + 1 : Nat) : Int) := by omega
  have e1 : i + (-(i : Int) - -((K + 1 : Nat) : Int)).toNat = K + 1 := by omega
  have e2 : (-53 - -((K + 1 : Nat) : Int)).toNat = K - 52 := by omega
  have hs := signed_is a i
  rw [decide_eq_false hneg] at hs
  have hh : Ieee.signed false (2 ^ 52) (K - 52) = 2 ^ K := by
    unfold Ieee.signed
    rw [if_neg (by decide), Nat.shiftLeft_eq, ← Nat.pow_add, show 52 + (K - 52) = K by omega]
    simp
  have htot : a * 2 ^ (K + 1) + 2 ^ K = (2 * a + 1) * 2 ^ K := by
    rw [Int.pow_succ, Int.add_mul, Int.one_mul, Int.mul_comm (2 ^ K) 2, ← Int.mul_assoc, Int.mul_comm a 2]
  have hp := pow2_pos K
  have hpos : 0 < (2 * a + 1) * 2 ^ K := Int.mul_pos (by omega) hp
  have hab : ((2 * a + 1) * 2 ^ K).natAbs = (2 * a + 1).natAbs * 2 ^ K := by rw [Int.natAbs_mul, Int.natAbs_pow]; rfl
  refine ⟨D.nearest false ((2 * a + 1).natAbs * 2 ^ K) (-((K + 1 : Nat) : Int)), ?_, ?_⟩
  · show (((D.read x).sum (D.read 4602678819172646912)).map D.write) = _
    rw [hi, half_lit, decide_eq_false hneg]
    simp only [Ieee.Datum.sum, hbase, hs, e1, e2, hh, Option.map_some]
    rw [htot, if_neg (Int.ne_of_gt hpos), hab, decide_eq_false (by omega)]
    rfl
  · have ht0 : 0 < (2 * a + 1).natAbs := by omega
    have ht1 : (2 * a + 1).natAbs < 2 ^ 53 := by omega
    have hl := log2_lt53 ht0 ht1
    refine ⟨52 - (2 * a + 1).natAbs.log2, ?_⟩
    have e : -((K + 1 : Nat) : Int) + (K : Int) - ((52 - (2 * a + 1).natAbs.log2 : Nat) : Int) = -((52 - (2 * a + 1).natAbs.log2 + 1 : Nat) : Int) := by omega
    rw [read_near false _ K _ ht0 ht1 (by omega) (by omega), e]
theorem half_order {x y : Nat} {a b : Int} (hx : Half x a) (h0 : 0 ≤ a) (hy : Rep y b) : D.order x y = some (compare (2 * a + 1) (2 * b)) := by
  obtain ⟨i, hi⟩ := hx
  obtain ⟨j, _, hj⟩ := hy
  show (D.read x).order (D.read y) = _
  rw [hi, hj]
  obtain ⟨K, hK⟩ : ∃ K, K + 1 = max (i + 1) j := ⟨max (i + 1) j - 1, by omega⟩
  have hbase : min (-((i + 1 : Nat) : Int)) (-(j : Int)) = -((K + 1 : Nat) : Int) := by omega
  have h1 : i + (-((i + 1 : Nat) : Int) - -((K + 1 : Nat) : Int)).toNat = K := by omega
  have h2 : j + (-(j : Int) - -((K + 1 : Nat) : Int)).toNat = K + 1 := by omega
  have hs := signed_is (2 * a + 1) i
  rw [decide_eq_false (show ¬ (2 * a + 1) < 0 by omega)] at hs
  simp only [Ieee.Datum.order, hbase, hs, signed_is, h1, h2]
  have e : b * 2 ^ (K + 1) = (2 * b) * 2 ^ K := by rw [Int.pow_succ, Int.mul_comm (2 ^ K) 2, ← Int.mul_assoc, Int.mul_comm b 2]
  rw [e, compare_mul _ _ _ (pow2_pos K)]
theorem half_int {x : Nat} {a : Int} (hx : Half x a) (h0 : 0 ≤ a) (h1 : a < 1000000) : floatToIntVal .f64 x .i64 = some a := by
  obtain ⟨i, hi⟩ := hx
  have hc : (FloatKind.f64.decode x).toInt .zero = some a := by
    show (D.read x).toInt .zero = _
    rw [hi]
    simp only [Ieee.Datum.toInt, Ieee.Datum.integral]
    have e1 : (-((i + 1 : Nat) : Int)).toNat = 0 := by omega
    have e2 : (- -((i + 1 : Nat) : Int)).toNat = i + 1 := by omega
    rw [e1, e2, Nat.shiftLeft_zero]
    have hcut : Ieee.Toward.zero.cut false ((2 * a + 1).natAbs * 2 ^ i) (i + 1) = a.natAbs := by
      have hn : (2 * a + 1).natAbs = 2 * a.natAbs + 1 := by omega
      rw [hn]
      unfold Ieee.Toward.cut
      dsimp only
      have hm : min (i + 1) (((2 * a.natAbs + 1) * 2 ^ i).log2 + 2) = i + 1 := by
        rw [log2_mul _ i (by omega)]
        omega
      rw [hm, Nat.shiftLeft_eq, Nat.one_mul, Nat.pow_succ, Nat.mul_comm (2 ^ i) 2, Nat.mul_div_mul_right _ _ (Nat.two_pow_pos i)]
      show (2 * a.natAbs + 1) / 2 + 0 = _
      omega
    rw [hcut]
    unfold Ieee.signed
    rw [if_neg (by decide), Nat.shiftLeft_zero]
    congr 1
    omega
  unfold floatToIntVal
  rw [hc]
  simp only
  rw [if_pos]
  simp [IntKind.min, IntKind.max, IntKind.signed, IntKind.bits]
  omega
end Go.Proofs.Ytdocfnomcbfbpaa.Flt
