/- Bytes put together by '|': plain law. -/
import Derived.Laws.BitsAllLaws
import Derived.Laws.BitsLemmas
namespace Go.Proofs.Ytcmfcnljdeddfaa.Crc
theorem i64_or_nat (a b : Nat) (ha : a < 4611686018427387904) (hb : b < 4611686018427387904) : bits .or .i64 (a : Int) (b : Int) = ((a ||| b : Nat) : Int) := by
  have hx : a ||| b < 2 ^ 62 := Nat.or_lt_two_pow (by omega) (by omega)
  show IntKind.i64.wrap ((BitVec.ofInt 64 (a : Int) ||| BitVec.ofInt 64 (b : Int)).toNat : Int) = _
  rw [BitVec.toNat_or, ofInt_u64 a (by omega), ofInt_u64 b (by omega)]
  rw [IntKind.wrap_i64]
  omega
theorem or_i64 (i : Nat) (x y : Int) (c : Int) (hc : c = ((2 ^ i : Nat) : Int)) (x0 : 0 ≤ x) (hx : x < c) (y0 : 0 ≤ y) (hy : y ≤ 255) (hi : i ≤ 24) : bits .or .i64 x (y * c) = x + y * c := by
  subst hc
  obtain ⟨x, rfl⟩ : ∃ n : Nat, x = n := ⟨x.toNat, by omega⟩
  obtain ⟨y, rfl⟩ : ∃ n : Nat, y = n := ⟨y.toNat, by omega⟩
  have hp : 2 ^ i ≤ 2 ^ 24 := Nat.pow_le_pow_right (by decide) hi
  have hxy : y * 2 ^ i ≤ 255 * 2 ^ 24 := Nat.mul_le_mul (by omega) hp
  have hx' : x < 2 ^ i := by omega
  rw [← Int.natCast_mul, i64_or_nat x (y * 2 ^ i) (by omega) (by omega), Nat.or_comm, nat_join i (y * 2 ^ i) x (by simp) hx']
  rw [Int.natCast_add]
  omega
theorem or_i64_8 (x y : Int) (x0 : 0 ≤ x) (hx : x < 256) (y0 : 0 ≤ y) (hy : y ≤ 255) : bits .or .i64 x (y * 256) = x + y * 256 := or_i64 8 x y 256 rfl x0 hx y0 hy (by decide)
theorem or_i64_16 (x y : Int) (x0 : 0 ≤ x) (hx : x < 65536) (y0 : 0 ≤ y) (hy : y ≤ 255) : bits .or .i64 x (y * 65536) = x + y * 65536 := or_i64 16 x y 65536 rfl x0 hx y0 hy (by decide)
theorem or_i64_24 (x y : Int) (x0 : 0 ≤ x) (hx : x < 16777216) (y0 : 0 ≤ y) (hy : y ≤ 255) : bits .or .i64 x (y * 16777216) = x + y * 16777216 := or_i64 24 x y 16777216 rfl x0 hx y0 hy (by decide)
theorem or_u16_8 (x y : Int) (x0 : 0 ≤ x) (hx : x < 256) (y0 : 0 ≤ y) (hy : y ≤ 255) : bits .or .u16 x (y * 256) = x + y * 256 := by
  obtain ⟨x, rfl⟩ : ∃ n : Nat, x = n := ⟨x.toNat, by omega⟩
  obtain ⟨y, rfl⟩ : ∃ n : Nat, y = n := ⟨y.toNat, by omega⟩
  rw [show (y : Int) * 256 = ((y * 256 : Nat) : Int) by omega, u16_or_nat x (y * 256) (by omega) (by omega), Nat.or_comm, nat_join 8 (y * 256) x (by omega) (by omega)]
  omega
end Go.Proofs.Ytcmfcnljdeddfaa.Crc
