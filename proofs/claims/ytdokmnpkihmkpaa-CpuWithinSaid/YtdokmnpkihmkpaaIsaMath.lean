/- Which instructions may be, and their words: in numbers. No program in sight. -/
import Derived.Test.YtdokmnpkihmkpaaIsa2
import Derived.Test.YtdokmnpkihmkpaaMath
set_option linter.unusedVariables false
namespace Go.Proofs.Ytdokmnpkihmkpaa.IsaMath
open Go.RowKit Go.Proofs.Ytdokmnpkihmkpaa.Base Go.Proofs.Ytdokmnpkihmkpaa.Row Go.Proofs.Ytdokmnpkihmkpaa.Once Go.Proofs.Ytdokmnpkihmkpaa.Isa Go.Proofs.Ytdokmnpkihmkpaa.Isa2 Go.Proofs.Ytdokmnpkihmkpaa.Math

theorem or_lo (k : Nat) (h l : Int) (hh : 0 ≤ h) (hl : 0 ≤ l) (hl2 : l < ((2 ^ k : Nat) : Int)) (hs : h * ((2 ^ k : Nat) : Int) + l < 4294967296) : bits .or .u32 (h * ((2 ^ k : Nat) : Int)) l = h * ((2 ^ k : Nat) : Int) + l := by
  have hp : (0 : Int) < ((2 ^ k : Nat) : Int) := by have := Nat.two_pow_pos k; omega
  have h0 : 0 ≤ h * ((2 ^ k : Nat) : Int) := Int.mul_nonneg hh (by omega)
  rw [u32_or _ _ h0 (by omega) hl (by omega)]
  have e : (h * ((2 ^ k : Nat) : Int)).toNat = h.toNat * 2 ^ k := by
    rw [Int.toNat_mul hh (by omega), Int.toNat_natCast]
  rw [e, Nat.or_comm, nat_or_hi k l.toNat h.toNat (by omega)]
  have : ((h.toNat * 2 ^ k : Nat) : Int) = h * ((2 ^ k : Nat) : Int) := by rw [Int.natCast_mul, Int.toNat_of_nonneg hh]
  omega
def encN (op a b n : Int) : Int := ((op * 16 + a) * 16 + b) * 65536 + n % 65536
def encX (op a b n : Int) : Int := bits BinOp.or IntKind.u32 (bits BinOp.or IntKind.u32 (bits BinOp.or IntKind.u32 (op % 4294967296 * 16777216 % 4294967296) (a % 4294967296 * 1048576 % 4294967296)) (b % 4294967296 * 65536 % 4294967296)) (bits BinOp.and IntKind.u32 (n % 4294967296) 65535)
theorem and_mask32 (x : Int) (k m : Nat) (hk : k ≤ 31) (hm : m + 1 = 2 ^ k) (h0 : 0 ≤ x) (h1 : x < 4294967296) : bits .and .u32 x (m : Int) = x % ((m + 1 : Nat) : Int) := by
  have hk2 : (2 : Nat) ^ k ≤ 2 ^ 31 := Nat.pow_le_pow_right (by omega) hk
  rw [u32_and _ _ h0 h1 (by omega) (by omega), Int.toNat_natCast, show m = 2 ^ k - 1 from by omega, Nat.and_two_pow_sub_one_eq_mod, show 2 ^ k - 1 + 1 = 2 ^ k from by omega]
  rw [Int.natCast_emod, Int.toNat_of_nonneg h0]
theorem enc_eq (op a b n : Int) (h1 : 1 ≤ op) (h2 : op ≤ 24) (h3 : 0 ≤ a) (h4 : a ≤ 15) (h5 : 0 ≤ b) (h6 : b ≤ 15) (h7 : -32768 ≤ n) (h8 : n ≤ 32767) : encX op a b n = encN op a b n := by
  unfold encX encN
  have e1 : op % 4294967296 * 16777216 % 4294967296 = op * ((2 ^ 24 : Nat) : Int) := by show _ = op * 16777216; omega
  have e2 : a % 4294967296 * 1048576 % 4294967296 = a * 1048576 := by omega
  have e3 : b % 4294967296 * 65536 % 4294967296 = b * 65536 := by omega
  have e4 : bits BinOp.and IntKind.u32 (n % 4294967296) 65535 = n % 65536 := by
    have := and_mask32 (n % 4294967296) 16 65535 (by omega) rfl (by omega) (by omega)
    rw [show ((65535 : Nat) : Int) = 65535 from rfl] at this
    rw [this]
    show n % 4294967296 % 65536 = _
    omega
  rw [e1, e2, e3, e4, or_lo 24 op (a * 1048576) (by omega) (by omega) (by show _ < (16777216 : Int); omega) (by show op * 16777216 + _ < _; omega)]
  rw [show op * ((2 ^ 24 : Nat) : Int) + a * 1048576 = (op * 16 + a) * ((2 ^ 20 : Nat) : Int) from by show op * 16777216 + a * 1048576 = (op * 16 + a) * 1048576; omega]
  rw [or_lo 20 (op * 16 + a) (b * 65536) (by omega) (by omega) (by show _ < (1048576 : Int); omega) (by show (op * 16 + a) * 1048576 + _ < _; omega)]
  rw [show (op * 16 + a) * ((2 ^ 20 : Nat) : Int) + b * 65536 = ((op * 16 + a) * 16 + b) * ((2 ^ 16 : Nat) : Int) from by show (op * 16 + a) * 1048576 + b * 65536 = ((op * 16 + a) * 16 + b) * 65536; omega]
  rw [or_lo 16 ((op * 16 + a) * 16 + b) (n % 65536) (by omega) (by omega) (by show _ < (65536 : Int); omega) (by show ((op * 16 + a) * 16 + b) * 65536 + _ < _; omega)]
  rfl

/-! ### the reference's words -/
def fk (op : Int) : Bool := decide (1 ≤ op ∧ op ≤ 24)
def fbare (op : Int) : Bool := decide (op = 18 ∨ op = 22 ∨ op = 24)
def ftwo (op : Int) : Bool := decide (3 ≤ op ∧ op ≤ 12)
def fall (op : Int) : Bool := decide (14 ≤ op ∧ op ≤ 17 ∨ op = 21)
def fa (op : Int) : Bool := fk op && !fbare op
def fb (op : Int) : Bool := ftwo op || fall op
def fi (op : Int) : Bool := fk op && !ftwo op && (op != 23)
def rng (a b n : Int) : Bool := decide (0 ≤ a ∧ a ≤ 15 ∧ 0 ≤ b ∧ b ≤ 15 ∧ -32768 ≤ n ∧ n ≤ 32767)
def refB (op a b n : Int) : Bool := fk op && rng a b n && (fa op || a == 0) && (fb op || b == 0) && (fi op || n == 0)
theorem val_case (op f a b n : Int) (x y z : Bool) (hf : fld op = f) (hf0 : (f != 0) = true) (hk : fk op = true) (ha : fa op = x) (hb : fb op = y) (hi : fi op = z)
    (h1 : (bits .and .i64 f 1 = 0) ↔ x = false) (h2 : (bits .and .i64 f 2 = 0) ↔ y = false) (h4 : (bits .and .i64 f 4 = 0) ↔ z = false) : valB op a b n = refB op a b n := by
  unfold valB refB
  rw [hf, hf0, hk, ha, hb, hi]
  unfold fitsB rng
  simp only [h1, h2, h4]
  rw [Bool.eq_iff_iff]
  cases x <;> cases y <;> cases z <;> simp <;> omega
theorem val_eq (op a b n : Int) : valB op a b n = refB op a b n := by
  by_cases h : 1 ≤ op ∧ op ≤ 24
  · have hc : op = 1 ∨ op = 2 ∨ op = 3 ∨ op = 4 ∨ op = 5 ∨ op = 6 ∨ op = 7 ∨ op = 8 ∨ op = 9 ∨ op = 10 ∨ op = 11 ∨ op = 12 ∨ op = 13 ∨ op = 14 ∨ op = 15 ∨ op = 16 ∨ op = 17 ∨ op = 18 ∨ op = 19 ∨ op = 20 ∨ op = 21 ∨ op = 22 ∨ op = 23 ∨ op = 24 := by omega
    rcases hc with rfl | rfl | rfl | rfl | rfl | rfl | rfl | rfl | rfl | rfl | rfl | rfl | rfl | rfl | rfl | rfl | rfl | rfl | rfl | rfl | rfl | rfl | rfl | rfl
    · exact val_case 1 13 a b n true false true (by decide +kernel) rfl (by decide) (by decide) (by decide) (by decide) (by decide +kernel) (by decide +kernel) (by decide +kernel)
    · exact val_case 2 13 a b n true false true (by decide +kernel) rfl (by decide) (by decide) (by decide) (by decide) (by decide +kernel) (by decide +kernel) (by decide +kernel)
    · exact val_case 3 11 a b n true true false (by decide +kernel) rfl (by decide) (by decide) (by decide) (by decide) (by decide +kernel) (by decide +kernel) (by decide +kernel)
    · exact val_case 4 11 a b n true true false (by decide +kernel) rfl (by decide) (by decide) (by decide) (by decide) (by decide +kernel) (by decide +kernel) (by decide +kernel)
    · exact val_case 5 11 a b n true true false (by decide +kernel) rfl (by decide) (by decide) (by decide) (by decide) (by decide +kernel) (by decide +kernel) (by decide +kernel)
    · exact val_case 6 11 a b n true true false (by decide +kernel) rfl (by decide) (by decide) (by decide) (by decide) (by decide +kernel) (by decide +kernel) (by decide +kernel)
    · exact val_case 7 11 a b n true true false (by decide +kernel) rfl (by decide) (by decide) (by decide) (by decide) (by decide +kernel) (by decide +kernel) (by decide +kernel)
    · exact val_case 8 11 a b n true true false (by decide +kernel) rfl (by decide) (by decide) (by decide) (by decide) (by decide +kernel) (by decide +kernel) (by decide +kernel)
    · exact val_case 9 11 a b n true true false (by decide +kernel) rfl (by decide) (by decide) (by decide) (by decide) (by decide +kernel) (by decide +kernel) (by decide +kernel)
    · exact val_case 10 11 a b n true true false (by decide +kernel) rfl (by decide) (by decide) (by decide) (by decide) (by decide +kernel) (by decide +kernel) (by decide +kernel)
    · exact val_case 11 11 a b n true true false (by decide +kernel) rfl (by decide) (by decide) (by decide) (by decide) (by decide +kernel) (by decide +kernel) (by decide +kernel)
    · exact val_case 12 11 a b n true true false (by decide +kernel) rfl (by decide) (by decide) (by decide) (by decide) (by decide +kernel) (by decide +kernel) (by decide +kernel)
    · exact val_case 13 13 a b n true false true (by decide +kernel) rfl (by decide) (by decide) (by decide) (by decide) (by decide +kernel) (by decide +kernel) (by decide +kernel)
    · exact val_case 14 15 a b n true true true (by decide +kernel) rfl (by decide) (by decide) (by decide) (by decide) (by decide +kernel) (by decide +kernel) (by decide +kernel)
    · exact val_case 15 15 a b n true true true (by decide +kernel) rfl (by decide) (by decide) (by decide) (by decide) (by decide +kernel) (by decide +kernel) (by decide +kernel)
    · exact val_case 16 15 a b n true true true (by decide +kernel) rfl (by decide) (by decide) (by decide) (by decide) (by decide +kernel) (by decide +kernel) (by decide +kernel)
    · exact val_case 17 15 a b n true true true (by decide +kernel) rfl (by decide) (by decide) (by decide) (by decide) (by decide +kernel) (by decide +kernel) (by decide +kernel)
    · exact val_case 18 12 a b n false false true (by decide +kernel) rfl (by decide) (by decide) (by decide) (by decide) (by decide +kernel) (by decide +kernel) (by decide +kernel)
    · exact val_case 19 13 a b n true false true (by decide +kernel) rfl (by decide) (by decide) (by decide) (by decide) (by decide +kernel) (by decide +kernel) (by decide +kernel)
    · exact val_case 20 13 a b n true false true (by decide +kernel) rfl (by decide) (by decide) (by decide) (by decide) (by decide +kernel) (by decide +kernel) (by decide +kernel)
    · exact val_case 21 15 a b n true true true (by decide +kernel) rfl (by decide) (by decide) (by decide) (by decide) (by decide +kernel) (by decide +kernel) (by decide +kernel)
    · exact val_case 22 12 a b n false false true (by decide +kernel) rfl (by decide) (by decide) (by decide) (by decide) (by decide +kernel) (by decide +kernel) (by decide +kernel)
    · exact val_case 23 9 a b n true false false (by decide +kernel) rfl (by decide) (by decide) (by decide) (by decide) (by decide +kernel) (by decide +kernel) (by decide +kernel)
    · exact val_case 24 12 a b n false false true (by decide +kernel) rfl (by decide) (by decide) (by decide) (by decide) (by decide +kernel) (by decide +kernel) (by decide +kernel)
  · have h1 : fk op = false := by unfold fk; exact decide_eq_false h
    have h2 : fld op = 0 := by
      unfold fld
      split
      · obtain rfl : op = 0 := by omega
        decide +kernel
      · rfl
    unfold valB refB
    rw [h1, h2]; rfl
theorem ref_ranges {op a b n : Int} (h : refB op a b n = true) : 1 ≤ op ∧ op ≤ 24 ∧ 0 ≤ a ∧ a ≤ 15 ∧ 0 ≤ b ∧ b ≤ 15 ∧ -32768 ≤ n ∧ n ≤ 32767 := by
  unfold refB fk rng at h
  simp only [Bool.and_eq_true, decide_eq_true_eq] at h
  omega
theorem known_eq (op : Int) : (fld op != 0) = fk op := by
  by_cases h : 1 ≤ op ∧ op ≤ 24
  · have hc : op = 1 ∨ op = 2 ∨ op = 3 ∨ op = 4 ∨ op = 5 ∨ op = 6 ∨ op = 7 ∨ op = 8 ∨ op = 9 ∨ op = 10 ∨ op = 11 ∨ op = 12 ∨ op = 13 ∨ op = 14 ∨ op = 15 ∨ op = 16 ∨ op = 17 ∨ op = 18 ∨ op = 19 ∨ op = 20 ∨ op = 21 ∨ op = 22 ∨ op = 23 ∨ op = 24 := by omega
    have hk : fk op = true := by unfold fk; exact decide_eq_true h
    rw [hk]
    rcases hc with rfl | rfl | rfl | rfl | rfl | rfl | rfl | rfl | rfl | rfl | rfl | rfl | rfl | rfl | rfl | rfl | rfl | rfl | rfl | rfl | rfl | rfl | rfl | rfl
    all_goals decide +kernel
  · have h1 : fk op = false := by unfold fk; exact decide_eq_false h
    have h2 : fld op = 0 := by
      unfold fld
      split
      · obtain rfl : op = 0 := by omega
        decide +kernel
      · rfl
    rw [h1, h2]; rfl
end Go.Proofs.Ytdokmnpkihmkpaa.IsaMath
