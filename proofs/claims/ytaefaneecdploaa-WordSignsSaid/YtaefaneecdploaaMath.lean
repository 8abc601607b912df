/- Plain facts on numbers: wraps and bits of 16 and 32 bits. No program in sight. -/
import Derived.Test.YtaefaneecdploaaBase
import Derived.Laws.BitsAllLaws
namespace Go.Proofs.Ytaefaneecdploaa.Math
open Go.RowKit

def B4 (x : Int) : Value := .agg #[.int .u8 (x % 256), .int .u8 (x / 256 % 256), .int .u8 (x / 65536 % 256), .int .u8 (x / 16777216)]
def sgn (x : Int) : Int := if 32768 ≤ x % 65536 then x % 65536 + 4294901760 else x % 65536
def val (x : Int) : Int := if 2147483648 ≤ x then x - 4294967296 else x

theorem nat_or_hi (k a b : Nat) (ha : a < 2 ^ k) : a ||| b * 2 ^ k = a + b * 2 ^ k := by
  have h := Nat.shiftLeft_add_eq_or_of_lt ha b
  rw [Nat.shiftLeft_eq] at h
  rw [Nat.or_comm, ← h]; omega
theorem or_hi8 (a b : Int) (h0 : 0 ≤ a) (h1 : a < 256) (h2 : 0 ≤ b) (h3 : b < 16777216) : bits .or .u32 a (b * 256) = a + b * 256 := by
  rw [u32_or _ _ h0 (by omega) (by omega) (by omega), show (b * 256).toNat = b.toNat * 2 ^ 8 from by omega, nat_or_hi 8 _ _ (by omega)]
  omega
theorem or_hi16 (a b : Int) (h0 : 0 ≤ a) (h1 : a < 65536) (h2 : 0 ≤ b) (h3 : b < 65536) : bits .or .u32 a (b * 65536) = a + b * 65536 := by
  rw [u32_or _ _ h0 (by omega) (by omega) (by omega), show (b * 65536).toNat = b.toNat * 2 ^ 16 from by omega, nat_or_hi 16 _ _ (by omega)]
  omega
theorem or_hi24 (a b : Int) (h0 : 0 ≤ a) (h1 : a < 16777216) (h2 : 0 ≤ b) (h3 : b < 256) : bits .or .u32 a (b * 16777216) = a + b * 16777216 := by
  rw [u32_or _ _ h0 (by omega) (by omega) (by omega), show (b * 16777216).toNat = b.toNat * 2 ^ 24 from by omega, nat_or_hi 24 _ _ (by omega)]
  omega
theorem of_bits (a b c d : Int) (h0 : 0 ≤ a ∧ a < 256) (h1 : 0 ≤ b ∧ b < 256) (h2 : 0 ≤ c ∧ c < 256) (h3 : 0 ≤ d ∧ d < 256) :
    bits .or .u32 (bits .or .u32 (bits .or .u32 a (b * 256)) (c * 65536)) (d * 16777216) = a + b * 256 + c * 65536 + d * 16777216 := by
  rw [or_hi8 a b (by omega) (by omega) (by omega) (by omega), or_hi16 _ c (by omega) (by omega) (by omega) (by omega), or_hi24 _ d (by omega) (by omega) (by omega) (by omega)]
theorem sign_wrap (x : Int) : wrap32 (IntKind.i16.wrap x) % 4294967296 = sgn x := by
  have e : IntKind.i16.wrap x = if x % 65536 < 32768 then x % 65536 else x % 65536 - 65536 := by
    simp [IntKind.wrap, IntKind.bits, IntKind.signed]; split <;> omega
  rw [e, sgn]; unfold wrap32
  split <;> split <;> omega
theorem wrap32_val (x : Int) (h0 : 0 ≤ x) (h1 : x < 4294967296) : wrap32 x = val x := by
  unfold wrap32 val
  split <;> omega
theorem sgn_range (x : Int) : 0 ≤ sgn x ∧ sgn x < 4294967296 := by unfold sgn; split <;> omega
end Go.Proofs.Ytaefaneecdploaa.Math
