/- Small plain facts on Go's bit operations as whole numbers. -/
import Derived.Test.YtfpnoceppjjafaaDoorKit
namespace Go.Proofs.YtfpnoceppjjafaaDoor.Kit
open Go.RowKit Go.Proofs.YtfpnoceppjjafaaDoorW.PrintWords Go.Proofs.YtfpnoceppjjafaaDoorW.PrintLast Go.Proofs.YtfpnoceppjjafaaDoorW.PrintMore
set_option linter.unusedVariables false
set_option linter.unusedSimpArgs false

theorem k8_or (x : Int) (h0 : 0 ≤ x) (h1 : x < 256) : Go.bits .or .u8 x 128 = x % 128 + 128 := by
  obtain ⟨n, rfl⟩ := Int.eq_ofNat_of_zero_le h0
  have key : ∀ n : Fin 256, Go.bits .or .u8 ((n : Nat) : Int) 128 = ((n : Nat) : Int) % 128 + 128 := by decide +kernel
  exact key ⟨n, by omega⟩
theorem k8_clear (x : Int) (h0 : 0 ≤ x) (h1 : x < 256) : Go.bits .andNot .u8 x 128 = x % 128 := by
  obtain ⟨n, rfl⟩ := Int.eq_ofNat_of_zero_le h0
  have key : ∀ n : Fin 256, Go.bits .andNot .u8 ((n : Nat) : Int) 128 = ((n : Nat) : Int) % 128 := by decide +kernel
  exact key ⟨n, by omega⟩
theorem k64_wraps (n : Int) (h₀ : 0 ≤ n) (h₁ : n < 2 ^ 64) : IntKind.u64.wrap n = n := by
  rw [wrapu64]
  omega
theorem k64_id (n : Int) (h₀ : 0 ≤ n) (h₁ : n < 18446744073709551616) : IntKind.u64.wrap n = n := by
  rw [wrapu64]
  omega
/-- What lies below 2^i, and a number of 2^i's: together their sum. -/
theorem k64_or_add (i : Nat) (a b : Int) (ha0 : 0 ≤ a) (ha : a < 2 ^ i) (hb0 : 0 ≤ b) (hb : b % 2 ^ i = 0) (hb1 : b < 2 ^ 64) (ha1 : a < 2 ^ 64) : Go.bits .or .u64 a b = a + b := by
  have h := bits_join .u64 64 (by decide) k64_wraps i b a hb0 hb hb1 ha0 ha ha1
  obtain ⟨x, rfl⟩ := Int.eq_ofNat_of_zero_le ha0
  obtain ⟨y, rfl⟩ := Int.eq_ofNat_of_zero_le hb0
  have hx : x < 2 ^ 64 := by exact_mod_cast ha1
  have hy : y < 2 ^ 64 := by exact_mod_cast hb1
  rw [(bits_nat .u64 64 (by decide) k64_wraps x y hx hy).2, Nat.or_comm, ← (bits_nat .u64 64 (by decide) k64_wraps y x hy hx).2, h, Int.add_comm]
theorem k64_or_add' (i : Nat) (a b : Int) (ha0 : 0 ≤ a) (ha : a < 2 ^ i) (hb0 : 0 ≤ b) (hb : b % 2 ^ i = 0) (hb1 : b < 2 ^ 64) (ha1 : a < 2 ^ 64) : Go.bits .or .u64 b a = b + a := bits_join .u64 64 (by decide) k64_wraps i b a hb0 hb hb1 ha0 ha ha1
theorem k64_and1 (v : Int) (h0 : 0 ≤ v) (h1 : v < 18446744073709551616) : Go.bits .and .u64 v 1 = v % 2 := bits_mask .u64 64 (by decide) k64_wraps 1 (by decide) v h0 (by omega)
theorem k64_mask (i : Nat) (hi : i ≤ 64) (v : Int) (h0 : 0 ≤ v) (h1 : v < 18446744073709551616) : Go.bits .and .u64 v (2 ^ i - 1) = v % 2 ^ i := bits_mask .u64 64 (by decide) k64_wraps i hi v h0 (by omega)
theorem k64_xor_nat (a b : Nat) (ha : a < 2 ^ 64) (hb : b < 2 ^ 64) : Go.bits .xor .u64 (a : Int) (b : Int) = ((a ^^^ b : Nat) : Int) := by
  rw [show Go.bits .xor .u64 (a : Int) (b : Int) = IntKind.u64.wrap ((BitVec.ofInt 64 (a : Int) ^^^ BitVec.ofInt 64 (b : Int)).toNat : Int) from rfl, BitVec.toNat_xor, BitVec.ofInt_natCast, BitVec.ofInt_natCast, BitVec.toNat_ofNat, BitVec.toNat_ofNat, Nat.mod_eq_of_lt ha, Nat.mod_eq_of_lt hb]
  exact k64_wraps _ (Int.natCast_nonneg _) (by exact_mod_cast Nat.xor_lt_two_pow ha hb)
theorem k64_xor0 (a : Int) (h0 : 0 ≤ a) (h1 : a < 18446744073709551616) : Go.bits .xor .u64 a 0 = a := by
  obtain ⟨n, rfl⟩ := Int.eq_ofNat_of_zero_le h0
  have := k64_xor_nat n 0 (by omega) (by decide)
  simpa using this
theorem k64_xor_ones (a : Int) (h0 : 0 ≤ a) (h1 : a < 18446744073709551616) : Go.bits .xor .u64 a 18446744073709551615 = 18446744073709551615 - a := by
  obtain ⟨n, rfl⟩ := Int.eq_ofNat_of_zero_le h0
  have e : BitVec.ofInt 64 18446744073709551615 = BitVec.allOnes 64 := by decide
  rw [show Go.bits .xor .u64 (n : Int) 18446744073709551615 = IntKind.u64.wrap ((BitVec.ofInt 64 (n : Int) ^^^ BitVec.ofInt 64 18446744073709551615).toNat : Int) from rfl, e, BitVec.xor_allOnes, BitVec.toNat_not, BitVec.ofInt_natCast, BitVec.toNat_ofNat, Nat.mod_eq_of_lt (show n < 2 ^ 64 by omega)]
  rw [wrapu64]
  omega
theorem ki64_xor0 (a : Int) (h0 : -9223372036854775808 ≤ a) (h1 : a ≤ 9223372036854775807) : Go.bits .xor .i64 a 0 = a := by
  have e : BitVec.ofInt 64 0 = 0#64 := by decide
  rw [show Go.bits .xor .i64 a 0 = IntKind.i64.wrap ((BitVec.ofInt 64 a ^^^ BitVec.ofInt 64 0).toNat : Int) from rfl, e, BitVec.xor_zero, BitVec.toNat_ofInt]
  rw [IntKind.wrap_i64]
  omega
theorem ki64_xor_ones (a : Int) (h0 : -9223372036854775808 ≤ a) (h1 : a ≤ 9223372036854775807) : Go.bits .xor .i64 a (-1) = -a - 1 := by
  have e : BitVec.ofInt 64 (-1) = BitVec.allOnes 64 := by decide
  rw [show Go.bits .xor .i64 a (-1) = IntKind.i64.wrap ((BitVec.ofInt 64 a ^^^ BitVec.ofInt 64 (-1)).toNat : Int) from rfl, e, BitVec.xor_allOnes, BitVec.toNat_not, BitVec.toNat_ofInt]
  rw [IntKind.wrap_i64]
  omega
theorem k_shl (x y : Int) (n : Nat) (hy : y = (n : Int)) (hn : n ≤ 64) (h0 : 0 ≤ x * 2 ^ n) (h1 : x * 2 ^ n < 18446744073709551616) : shl .u64 x y = x * 2 ^ n := by
  subst hy
  unfold shl
  rw [Int.toNat_natCast, show min n IntKind.u64.bits = n from Nat.min_eq_left hn, k64_id _ h0 h1]
theorem k_tmod (x : Int) (m : Int) (h : 0 ≤ x) : Int.tmod x m = x % m := Int.tmod_eq_emod_of_nonneg h
theorem k_tdiv (x : Int) (m : Int) (h : 0 ≤ x) : Int.tdiv x m = x / m := Int.tdiv_eq_ediv_of_nonneg h
end Go.Proofs.YtfpnoceppjjafaaDoor.Kit
