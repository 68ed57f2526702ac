/- '&' of any whole number with a mask is its rest. No condition. -/
import Derived.Test.YtfohlaeahageaaaBits
namespace Go.Proofs.Ytfohlaeahageaaa.Bits
open Go.RowKit

theorem mask_any (i : Nat) (hi : i ≤ 62) (x : Int) : Go.bits .and .i64 x (2 ^ i - 1) = x % 2 ^ i := by
  have hpos : 0 < 2 ^ i := Nat.two_pow_pos i
  have hm : 2 ^ i ≤ 2 ^ 62 := Nat.pow_le_pow_right (by decide) hi
  have hc : ((2 : Int) ^ i - 1) = ((2 ^ i - 1 : Nat) : Int) := by
    rw [Int.natCast_sub hpos]; simp
  have h64 : (2 : Nat) ^ 62 = 4611686018427387904 := by decide
  have hd : ((2 : Int) ^ i) ∣ 18446744073709551616 := by
    have : (18446744073709551616 : Int) = 2 ^ i * 2 ^ (64 - i) := by
      rw [← Int.pow_add, show i + (64 - i) = 64 by omega]
      decide
    exact ⟨_, this⟩
  obtain ⟨a, ha⟩ : ∃ a : Nat, (a : Int) = x % 18446744073709551616 := ⟨(x % 18446744073709551616).toNat, by omega⟩
  have e1 : (BitVec.ofInt 64 x).toNat = a := by
    rw [BitVec.toNat_ofInt]
    have : ((2 ^ 64 : Nat) : Int) = 18446744073709551616 := by decide
    rw [this, ← ha]
    simp
  have e2 : (BitVec.ofInt 64 (((2 ^ i - 1 : Nat)) : Int)).toNat = 2 ^ i - 1 := by
    rw [BitVec.ofInt_natCast, BitVec.toNat_ofNat]
    exact Nat.mod_eq_of_lt (by rw [show (2 : Nat) ^ 64 = 18446744073709551616 by decide]; omega)
  rw [hc]
  have hw : Go.bits .and .i64 x (((2 ^ i - 1 : Nat)) : Int) = IntKind.i64.wrap (((BitVec.ofInt 64 x).toNat &&& (BitVec.ofInt 64 (((2 ^ i - 1 : Nat)) : Int)).toNat : Nat) : Int) := by
    exact congrArg (fun n : Nat => IntKind.i64.wrap (n : Int)) (BitVec.toNat_and (BitVec.ofInt 64 x) (BitVec.ofInt 64 (((2 ^ i - 1 : Nat)) : Int)))
  rw [hw, e1, e2, Nat.and_two_pow_sub_one_eq_mod, wraps_i64 _ (Int.natCast_nonneg _) (by have := Nat.mod_lt a hpos; omega)]
  have e3 : x % 2 ^ i = (a : Int) % 2 ^ i := by
    rw [ha, Int.emod_emod_of_dvd _ hd]
  rw [e3]
  simp
theorem mask_1 (x : Int) : Go.bits .and .i64 x 1 = x % 2 := mask_any 1 (by decide) x
theorem mask_7 (x : Int) : Go.bits .and .i64 x 7 = x % 8 := mask_any 3 (by decide) x
theorem mask_31 (x : Int) : Go.bits .and .i64 x 31 = x % 32 := mask_any 5 (by decide) x
theorem mask_127 (x : Int) : Go.bits .and .i64 x 127 = x % 128 := mask_any 7 (by decide) x
theorem mask_255 (x : Int) : Go.bits .and .i64 x 255 = x % 256 := mask_any 8 (by decide) x
theorem mask_1023 (x : Int) : Go.bits .and .i64 x 1023 = x % 1024 := mask_any 10 (by decide) x
theorem mask_65535 (x : Int) : Go.bits .and .i64 x 65535 = x % 65536 := mask_any 16 (by decide) x
end Go.Proofs.Ytfohlaeahageaaa.Bits
