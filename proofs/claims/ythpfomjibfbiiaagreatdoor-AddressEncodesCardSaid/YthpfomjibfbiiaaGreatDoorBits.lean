/- 'x<<8 | b': the disjunction of a multiple of 256 and a byte. No program. -/
import Derived.Laws.BitsAllLaws
import Derived.Laws.BitsLemmas
import Derived.IntWalk
namespace Go.Proofs.YthpfomjibfbiiaaGreatDoor
open Go
theorem i64_or_byte (a b : Int) (ha : -36028797018963968 ≤ a) (ha' : a < 36028797018963968) (hb : 0 ≤ b) (hb' : b ≤ 255) : bits .or .i64 (a * 256) b = a * 256 + b := by
  show IntKind.i64.wrap ((BitVec.ofInt 64 (a * 256) ||| BitVec.ofInt 64 b).toNat : Int) = _
  have hX : (BitVec.ofInt 64 (a * 256)).toNat = 2 ^ 8 * (a % 72057594037927936).toNat := by
    rw [BitVec.toNat_ofInt]
    have : (a * 256) % ((2 ^ 64 : Nat) : Int) = 256 * (a % 72057594037927936) := by
      rw [show ((2 ^ 64 : Nat) : Int) = 256 * 72057594037927936 by decide, Int.mul_comm a 256, Int.mul_emod_mul_of_pos _ _ (by decide)]
    rw [this]
    omega
  have hY : (BitVec.ofInt 64 b).toNat = b.toNat := by
    rw [BitVec.toNat_ofInt]
    have : b % ((2 ^ 64 : Nat) : Int) = b := Int.emod_eq_of_lt hb (by omega)
    rw [this]
  rw [BitVec.toNat_or, hX, hY, ← Nat.two_pow_add_eq_or_of_lt (by omega : b.toNat < 2 ^ 8), IntKind.wrap_i64]
  omega
theorem i64_or_byte_nat (a b : Nat) (ha : a < 36028797018963968) (hb : b ≤ 255) : bits .or .i64 ((a : Int) * 256) (b : Int) = ((a * 256 + b : Nat) : Int) := by
  rw [i64_or_byte a b (by omega) (by omega) (by omega) (by omega)]; omega
end Go.Proofs.YthpfomjibfbiiaaGreatDoor
