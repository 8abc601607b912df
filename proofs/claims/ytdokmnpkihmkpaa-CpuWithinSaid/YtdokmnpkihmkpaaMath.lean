/- Plain facts on numbers: wraps and bits of 16 and 32 bits. No program in sight. -/
import Derived.Test.YtdokmnpkihmkpaaBase
import Derived.Laws.BitsAllLaws
namespace Go.Proofs.Ytdokmnpkihmkpaa.Math
open Go.RowKit Go.Proofs.Ytdokmnpkihmkpaa.Base

def B4 (x : Int) : Value := .agg #[.int .u8 (x % 256), .int .u8 (x / 256 % 256), .int .u8 (x / 65536 % 256), .int .u8 (x / 16777216)]
def sgn (x : Int) : Int := if 32768 ≤ x % 65536 then x % 65536 + 4294901760 else x % 65536
def val (x : Int) : Int := if 2147483648 ≤ x then x - 4294967296 else x

theorem nat_or_hi (k a b : Nat) (ha : a < 2 ^ k) : a ||| b * 2 ^ k = a + b * 2 ^ k := by
  have h := Nat.shiftLeft_add_eq_or_of_lt ha b
  rw [Nat.shiftLeft_eq] at h
  rw [Nat.or_comm, ← h]; omega
theorem or_hi8 (a b : Int) (h0 : 0 ≤ a) (h1 : a < 256) (h2 : 0 ≤ b) (h3 : b < 16777216) : bits .or .u32 a (b * 256) = a + b * 256 := by
  rw [u32_or _ _ h0 (by omega) (by omega) (by omega), show (b * 256).toNat = b.toNat * 2 ^ 8 from by omega, nat_or_hi 8 _ _ (by omega)]
  omega
theorem or_hi16 (a b : Int) (h0 : 0 ≤ a) (h1 : a < 65536) (h2 : 0 ≤ b) (h3 : b < 65536) : bits .or .u32 a (b * 65536) = a + b * 65536 := by
  rw [u32_or _ _ h0 (by omega) (by omega) (by omega), show (b * 65536).toNat = b.toNat * 2 ^ 16 from by omega, nat_or_hi 16 _ _ (by omega)]
  omega
theorem or_hi24 (a b : Int) (h0 : 0 ≤ a) (h1 : a < 16777216) (h2 : 0 ≤ b) (h3 : b < 256) : bits .or .u32 a (b * 16777216) = a + b * 16777216 := by
  rw [u32_or _ _ h0 (by omega) (by omega) (by omega), show (b * 16777216).toNat = b.toNat * 2 ^ 24 from by omega, nat_or_hi 24 _ _ (by omega)]
  omega
theorem of_bits (a b c d : Int) (h0 : 0 ≤ a ∧ a < 256) (h1 : 0 ≤ b ∧ b < 256) (h2 : 0 ≤ c ∧ c < 256) (h3 : 0 ≤ d ∧ d < 256) :
    bits .or .u32 (bits .or .u32 (bits .or .u32 a (b * 256)) (c * 65536)) (d * 16777216) = a + b * 256 + c * 65536 + d * 16777216 := by
  rw [or_hi8 a b (by omega) (by omega) (by omega) (by omega), or_hi16 _ c (by omega) (by omega) (by omega) (by omega), or_hi24 _ d (by omega) (by omega) (by omega) (by omega)]
theorem sign_wrap (x : Int) : wrap32 (IntKind.i16.wrap x) % 4294967296 = sgn x := by
  have e : IntKind.i16.wrap x = if x % 65536 < 32768 then x % 65536 else x % 65536 - 65536 := by
    simp [IntKind.wrap, IntKind.bits, IntKind.signed]; split <;> omega
  rw [e, sgn]; unfold wrap32
  split <;> split <;> omega
theorem wrap32_val (x : Int) (h0 : 0 ≤ x) (h1 : x < 4294967296) : wrap32 x = val x := by
  unfold wrap32 val
  split <;> omega
theorem sgn_range (x : Int) : 0 ≤ sgn x ∧ sgn x < 4294967296 := by unfold sgn; split <;> omega
theorem tmod4 (i : Int) : i.tmod 4 = if 0 ≤ i ∨ i % 4 = 0 then i % 4 else i % 4 - 4 := by
  rw [Int.tmod_eq_emod]
  have hd : (4 ∣ i) ↔ i % 4 = 0 := Int.dvd_iff_emod_eq_zero
  by_cases h : 0 ≤ i ∨ i % 4 = 0
  · rw [if_pos h, if_pos (by rcases h with h | h; exact .inl h; exact .inr (hd.2 h))]; omega
  · rw [if_neg h, if_neg (fun hh => h (by rcases hh with hh | hh; exact .inl hh; exact .inr (hd.1 hh)))]; rfl
theorem mod4 (i : Int) : (wrap64 (i.tmod 4 + 4)).tmod 4 = i % 4 := by
  have h1 : 1 ≤ i.tmod 4 + 4 ∧ i.tmod 4 + 4 ≤ 7 := by rw [tmod4]; split <;> omega
  rw [show wrap64 (i.tmod 4 + 4) = i.tmod 4 + 4 from by unfold wrap64; omega, tmod4 (i.tmod 4 + 4), if_pos (.inl (by omega)), tmod4]
  split <;> omega
theorem mod4' (i : Int) : (i.tmod 4 + 4).tmod 4 = i % 4 := by
  have h1 : 1 ≤ i.tmod 4 + 4 ∧ i.tmod 4 + 4 ≤ 7 := by rw [tmod4]; split <;> omega
  rw [tmod4 (i.tmod 4 + 4), if_pos (.inl (by omega)), tmod4]
  split <;> omega
theorem div_pow_succ (x : Int) (r : Nat) : x / 256 ^ r / 256 = x / 256 ^ (r + 1) := by
  rw [Int.pow_succ, Int.ediv_ediv_of_nonneg (Int.pow_nonneg (by omega))]
theorem div_pow_range (x : Int) (h0 : 0 ≤ x) (h1 : x < 4294967296) (r : Nat) : 0 ≤ x / 256 ^ r ∧ x / 256 ^ r < 4294967296 := by
  have hp : (0 : Int) < 256 ^ r := Int.pow_pos (by omega)
  refine ⟨Int.ediv_nonneg h0 (Int.le_of_lt hp), ?_⟩
  exact Int.lt_of_le_of_lt (Int.ediv_le_self _ h0) h1
theorem i64_and_mask (i : Int) (k m : Nat) (hk : k ≤ 62) (hm : m + 1 = 2 ^ k) : bits .and .i64 i (m : Int) = i % ((m + 1 : Nat) : Int) := by
  have hk2 : (2 : Nat) ^ k ≤ 2 ^ 62 := Nat.pow_le_pow_right (by omega) hk
  have hm2 : m < 2 ^ 62 := by omega
  show IntKind.i64.wrap ((BitVec.ofInt 64 i &&& BitVec.ofInt 64 (m : Int)).toNat : Int) = _
  have e1 : (BitVec.ofInt 64 (m : Int)).toNat = m := by
    rw [BitVec.ofInt_natCast, BitVec.toNat_ofNat]; exact Nat.mod_eq_of_lt (by omega)
  have e2 : (BitVec.ofInt 64 i).toNat = (i % 18446744073709551616).toNat := by
    rw [BitVec.toNat_ofInt]; rfl
  rw [BitVec.toNat_and, e1, e2, show m = 2 ^ k - 1 from by omega, Nat.and_two_pow_sub_one_eq_mod, show 2 ^ k - 1 + 1 = 2 ^ k from by omega]
  have hd : ((2 : Int) ^ k) ∣ 18446744073709551616 := ⟨2 ^ (64 - k), by rw [← Int.pow_add, show k + (64 - k) = 64 from by omega]; rfl⟩
  have h3 : (((i % 18446744073709551616).toNat % 2 ^ k : Nat) : Int) = i % ((2 ^ k : Nat) : Int) := by
    rw [Int.natCast_emod, Int.toNat_of_nonneg (by omega), Int.natCast_pow]
    exact Int.emod_emod_of_dvd i hd
  rw [h3, IntKind.wrap_i64]
  have hp : (0 : Int) < ((2 ^ k : Nat) : Int) := by have := Nat.two_pow_pos k; omega
  have h4 := Int.emod_nonneg i (show ((2 ^ k : Nat) : Int) ≠ 0 by omega)
  have h5 := Int.emod_lt_of_pos i hp
  have h6 : ((2 ^ k : Nat) : Int) ≤ 4611686018427387904 := by
    have : (2 : Nat) ^ k ≤ 4611686018427387904 := by simpa using hk2
    omega
  generalize i % ((2 ^ k : Nat) : Int) = y at *
  generalize ((2 ^ k : Nat) : Int) = z at *
  omega
theorem and3 (i : Int) : bits .and .i64 i 3 = i % 4 := i64_and_mask i 2 3 (by omega) rfl
theorem four (i : Int) : i % 4 = 0 ∨ i % 4 = 1 ∨ i % 4 = 2 ∨ i % 4 = 3 := by omega
def b4 (x : Int) : List Int := [x % 256, x / 256 % 256, x / 65536 % 256, x / 16777216]
def flat (xs : List Int) : List Int := xs.flatMap b4
theorem flat_length (xs : List Int) : (flat xs).length = 4 * xs.length := by
  induction xs with
  | nil => rfl
  | cons x xs ih => simp [flat, b4] at ih ⊢; omega
theorem flat_snoc (xs : List Int) (x : Int) : flat (xs ++ [x]) = flat xs ++ b4 x := by simp [flat]
theorem take_snoc (xs : List Int) (k : Nat) (h : k < xs.length) : xs.take (k + 1) = xs.take k ++ [xs[k]?.getD 0] := by
  rw [List.take_succ_eq_append_getElem h, List.getElem?_eq_getElem h]; rfl
def w4 (xs : List Int) (j : Nat) : Int := xs[4 * j]?.getD 0 + xs[4 * j + 1]?.getD 0 * 256 + xs[4 * j + 2]?.getD 0 * 65536 + xs[4 * j + 3]?.getD 0 * 16777216
def words (xs : List Int) : List Int := (List.range ((xs.length + 3) / 4)).map (w4 xs)
def wordsTo (xs : List Int) (k : Nat) : List Int := (List.range k).map (w4 xs)
theorem words_eq (xs : List Int) (k : Nat) (h : k = (xs.length + 3) / 4) : wordsTo xs k = words xs := by subst h; rfl
theorem wordsTo_succ (xs : List Int) (k : Nat) : wordsTo xs (k + 1) = wordsTo xs k ++ [w4 xs k] := by simp [wordsTo, List.range_succ]
theorem splice4 (ys : List Int) : splice [Value.int .u8 0, .int .u8 0, .int .u8 0, .int .u8 0] 0 (nums .u8 (ys.take 4)) =
    [.int .u8 (ys[0]?.getD 0), .int .u8 (ys[1]?.getD 0), .int .u8 (ys[2]?.getD 0), .int .u8 (ys[3]?.getD 0)] := by
  match ys with
  | [] => rfl
  | [a] => rfl
  | [a, b] => rfl
  | [a, b, c] => rfl
  | a :: b :: c :: d :: r => rfl
theorem b4_take (y : Int) (h0 : 0 ≤ y) (h1 : y < 4294967296) (k : Nat) (hk : k < 4) : (b4 y).take (k + 1) = (b4 y).take k ++ [y / 256 ^ ((k : Int) % 4).toNat % 256] := by
  have e3 : y / 16777216 % 256 = y / 16777216 := by omega
  match k, hk with
  | 0, _ => simp [b4]
  | 1, _ => simp [b4]
  | 2, _ => simp [b4]
  | 3, _ => simp [b4, e3]
def wpart (xs : List Int) (i : Nat) : Nat → Int
  | 0 => 0
  | j + 1 => wpart xs i j * 256 + xs[4 * i + (3 - j)]?.getD 0
theorem wpart_range (xs : List Int) (hx : ∀ x ∈ xs, 0 ≤ x ∧ x < 256) (i j : Nat) : 0 ≤ wpart xs i j ∧ wpart xs i j < 256 ^ j := by
  induction j with
  | zero => simp [wpart]
  | succ j ih =>
    have h := getD_mem_range hx (by omega) (4 * i + (3 - j))
    rw [wpart, Int.pow_succ]
    omega
theorem wpart_small (xs : List Int) (hx : ∀ x ∈ xs, 0 ≤ x ∧ x < 256) (i j : Nat) (hj : j < 4) : 0 ≤ wpart xs i j ∧ wpart xs i j < 16777216 := by
  have h := wpart_range xs hx i j
  refine ⟨h.1, Int.lt_of_lt_of_le h.2 ?_⟩
  match j, hj with
  | 0, _ => decide
  | 1, _ => decide
  | 2, _ => decide
  | 3, _ => decide
theorem wpart_four (xs : List Int) (i : Nat) : wpart xs i 4 = w4 xs i := by
  simp only [wpart, w4, Nat.sub_zero, Nat.add_zero, show 3 - 1 = 2 from rfl, show 3 - 2 = 1 from rfl, show 3 - 3 = 0 from rfl]
  omega
theorem getD_out (xs : List Int) (i : Nat) (h : xs.length ≤ i) : xs[i]?.getD 0 = 0 := by rw [List.getElem?_eq_none h]; rfl
theorem b4_range (x : Int) (h0 : 0 ≤ x) (h1 : x < 4294967296) : ∀ y ∈ b4 x, 0 ≤ y ∧ y < 256 := by
  intro y hy
  simp only [b4, List.mem_cons, List.not_mem_nil, or_false] at hy
  omega
theorem flat_range (xs : List Int) (hx : ∀ x ∈ xs, 0 ≤ x ∧ x < 4294967296) : ∀ y ∈ flat xs, 0 ≤ y ∧ y < 256 := by
  intro y hy
  obtain ⟨x, hx1, hy1⟩ := List.mem_flatMap.1 hy
  exact b4_range x (hx x hx1).1 (hx x hx1).2 y hy1
theorem flat_get (xs : List Int) (k j : Nat) (hj : j < 4) (hk : k < xs.length) : (flat xs)[4 * k + j]? = (b4 (xs[k]?.getD 0))[j]? := by
  induction xs generalizing k with
  | nil => simp at hk
  | cons x xs ih =>
    have hf : flat (x :: xs) = b4 x ++ flat xs := by simp [flat]
    rw [hf]
    cases k with
    | zero => rw [List.getElem?_append_left (by show 4 * 0 + j < 4; omega)]; simp
    | succ k =>
      have hl : (b4 x).length = 4 := rfl
      rw [List.getElem?_append_right (by rw [hl]; omega), hl, show 4 * (k + 1) + j - 4 = 4 * k + j from by omega, ih k (by simpa using hk)]
      simp
theorem w4_flat (xs : List Int) (hx : ∀ x ∈ xs, 0 ≤ x ∧ x < 4294967296) (k : Nat) (hk : k < xs.length) : w4 (flat xs) k = xs[k]?.getD 0 := by
  have hr := getD_mem_range hx (by omega) k
  have e0 := flat_get xs k 0 (by omega) hk
  have e1 := flat_get xs k 1 (by omega) hk
  have e2 := flat_get xs k 2 (by omega) hk
  have e3 := flat_get xs k 3 (by omega) hk
  unfold w4
  rw [Nat.add_zero] at e0
  rw [e0, e1, e2, e3]
  simp [b4]
  omega
theorem words_flat (xs : List Int) (hx : ∀ x ∈ xs, 0 ≤ x ∧ x < 4294967296) : words (flat xs) = xs := by
  apply List.ext_getElem
  · simp [words, flat_length]; omega
  · intro i h1 h2
    simp only [words, List.getElem_map, List.getElem_range]
    rw [w4_flat xs hx i h2, List.getElem?_eq_getElem h2]; rfl

end Go.Proofs.Ytdokmnpkihmkpaa.Math
