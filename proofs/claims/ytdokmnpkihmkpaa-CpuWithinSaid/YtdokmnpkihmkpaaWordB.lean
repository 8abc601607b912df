/- Contracts of package word's Byte and WithByte, for another seat (from XWord). -/
import Derived.Test.YtdokmnpkihmkpaaProg
import Derived.Test.YtdokmnpkihmkpaaMath
set_option linter.unusedVariables false
namespace Go.Proofs.Ytdokmnpkihmkpaa.WordB
open Go.RowKit Go.Proofs.Ytdokmnpkihmkpaa.Base Go.Proofs.Ytdokmnpkihmkpaa.Math

theorem bytes_c (x : Int) (h0 : 0 ≤ x) (h1 : x < 4294967296) (w : World) :
    Calls Try.prog 91 #[.int .u32 x] w fun e w' => e = .returned (B4 x) ∧ Below w.heap.size w w' := by
  go_enter Try.func91, Try.ntmps91
  go_wp2
  exact bodyPost_ret (v := B4 x) (by simp [results, Try.results91, go_sem, B4]) rfl ⟨rfl, bl_alloc (bl_refl _) _⟩

theorem of_c (a b c d : Int) (h0 : 0 ≤ a ∧ a < 256) (h1 : 0 ≤ b ∧ b < 256) (h2 : 0 ≤ c ∧ c < 256) (h3 : 0 ≤ d ∧ d < 256) (w : World) :
    Calls Try.prog 92 #[.agg #[.int .u8 a, .int .u8 b, .int .u8 c, .int .u8 d]] w fun e w' => e = .returned (.int .u32 (a + b * 256 + c * 65536 + d * 16777216)) ∧ Below w.heap.size w w' := by
  go_enter Try.func92, Try.ntmps92
  go_wp2
  go_ret
  exact ⟨ret_int (of_bits a b c d h0 h1 h2 h3), bl_alloc (bl_refl _) _⟩

theorem byte_c (x i : Int) (h0 : 0 ≤ x) (h1 : x < 4294967296) (h2 : -9223372036854775808 ≤ i) (h3 : i ≤ 9223372036854775807) (w : World) :
    Calls Try.prog 83 #[.int .u32 x, .int .i64 i] w fun e w' => e = .returned (.int .u8 (x / 256 ^ (i % 4).toNat % 256)) ∧ Below w.heap.size w w' := by
  rcases four i with hj | hj | hj | hj
  · have ha : bits .and .i64 i 3 = 0 := by rw [and3, hj]
    have hi : ∀ (p q r s : Value) (W : World), (Instr.index 162 (.agg #[p, q, r, s]) (.int .i64 0)).run Try.prog W = .ok p W := fun _ _ _ _ _ => by kernel_rfl
    have HJ := Lib.hid hj
    clear hj
    go_enter Try.func83, Try.ntmps83
    go_wp2_with fail
    refine (bytes_c x h0 h1 _).mono ?_
    rintro e w1 ⟨rfl, b1⟩
    unfold B4
    go_wp2_with fail
    go_ret
    exact ⟨ret_int (by rw [HJ.out]; simp), b1⟩
  · have ha : bits .and .i64 i 3 = 1 := by rw [and3, hj]
    have hi : ∀ (p q r s : Value) (W : World), (Instr.index 162 (.agg #[p, q, r, s]) (.int .i64 1)).run Try.prog W = .ok q W := fun _ _ _ _ _ => by kernel_rfl
    have HJ := Lib.hid hj
    clear hj
    go_enter Try.func83, Try.ntmps83
    go_wp2_with fail
    refine (bytes_c x h0 h1 _).mono ?_
    rintro e w1 ⟨rfl, b1⟩
    unfold B4
    go_wp2_with fail
    go_ret
    exact ⟨ret_int (by rw [HJ.out]; simp), b1⟩
  · have ha : bits .and .i64 i 3 = 2 := by rw [and3, hj]
    have hi : ∀ (p q r s : Value) (W : World), (Instr.index 162 (.agg #[p, q, r, s]) (.int .i64 2)).run Try.prog W = .ok r W := fun _ _ _ _ _ => by kernel_rfl
    have HJ := Lib.hid hj
    clear hj
    go_enter Try.func83, Try.ntmps83
    go_wp2_with fail
    refine (bytes_c x h0 h1 _).mono ?_
    rintro e w1 ⟨rfl, b1⟩
    unfold B4
    go_wp2_with fail
    go_ret
    exact ⟨ret_int (by rw [HJ.out]; simp), b1⟩
  · have ha : bits .and .i64 i 3 = 3 := by rw [and3, hj]
    have hi : ∀ (p q r s : Value) (W : World), (Instr.index 162 (.agg #[p, q, r, s]) (.int .i64 3)).run Try.prog W = .ok s W := fun _ _ _ _ _ => by kernel_rfl
    have HJ := Lib.hid hj
    clear hj
    go_enter Try.func83, Try.ntmps83
    go_wp2_with fail
    refine (bytes_c x h0 h1 _).mono ?_
    rintro e w1 ⟨rfl, b1⟩
    unfold B4
    go_wp2_with fail
    go_ret
    exact ⟨ret_int (by rw [HJ.out]; simp; omega), b1⟩

theorem withbyte_c (x i b : Int) (h0 : 0 ≤ x) (h1 : x < 4294967296) (h2 : -9223372036854775808 ≤ i) (h3 : i ≤ 9223372036854775807) (hb0 : 0 ≤ b) (hb1 : b < 256) (w : World) :
    Calls Try.prog 85 #[.int .u32 x, .int .i64 i, .int .u8 b] w fun e w' => e = .returned (.int .u32 (x + (b - x / 256 ^ (i % 4).toNat % 256) * 256 ^ (i % 4).toNat)) ∧ Below w.heap.size w w' := by
  rcases four i with hj | hj | hj | hj
  · have ha : bits .and .i64 i 3 = 0 := by rw [and3, hj]
    have HJ := Lib.hid hj
    clear hj
    go_enter Try.func85, Try.ntmps85
    go_wp2_with fail
    refine (bytes_c x h0 h1 _).mono ?_
    rintro e w1 ⟨rfl, b1⟩
    unfold B4
    go_wp2_with fail
    refine (of_c (b) (x / 256 % 256) (x / 65536 % 256) (x / 16777216) (by omega) (by omega) (by omega) (by omega) _).mono ?_
    rintro e w2 ⟨rfl, b2⟩
    go_wp2_with fail
    go_ret
    exact ⟨ret_int (by rw [HJ.out]; simp; omega), bl_then (bl_alloc b1 _) b2⟩
  · have ha : bits .and .i64 i 3 = 1 := by rw [and3, hj]
    have HJ := Lib.hid hj
    clear hj
    go_enter Try.func85, Try.ntmps85
    go_wp2_with fail
    refine (bytes_c x h0 h1 _).mono ?_
    rintro e w1 ⟨rfl, b1⟩
    unfold B4
    go_wp2_with fail
    refine (of_c (x % 256) (b) (x / 65536 % 256) (x / 16777216) (by omega) (by omega) (by omega) (by omega) _).mono ?_
    rintro e w2 ⟨rfl, b2⟩
    go_wp2_with fail
    go_ret
    exact ⟨ret_int (by rw [HJ.out]; simp; omega), bl_then (bl_alloc b1 _) b2⟩
  · have ha : bits .and .i64 i 3 = 2 := by rw [and3, hj]
    have HJ := Lib.hid hj
    clear hj
    go_enter Try.func85, Try.ntmps85
    go_wp2_with fail
    refine (bytes_c x h0 h1 _).mono ?_
    rintro e w1 ⟨rfl, b1⟩
    unfold B4
    go_wp2_with fail
    refine (of_c (x % 256) (x / 256 % 256) (b) (x / 16777216) (by omega) (by omega) (by omega) (by omega) _).mono ?_
    rintro e w2 ⟨rfl, b2⟩
    go_wp2_with fail
    go_ret
    exact ⟨ret_int (by rw [HJ.out]; simp; omega), bl_then (bl_alloc b1 _) b2⟩
  · have ha : bits .and .i64 i 3 = 3 := by rw [and3, hj]
    have HJ := Lib.hid hj
    clear hj
    go_enter Try.func85, Try.ntmps85
    go_wp2_with fail
    refine (bytes_c x h0 h1 _).mono ?_
    rintro e w1 ⟨rfl, b1⟩
    unfold B4
    go_wp2_with fail
    refine (of_c (x % 256) (x / 256 % 256) (x / 65536 % 256) (b) (by omega) (by omega) (by omega) (by omega) _).mono ?_
    rintro e w2 ⟨rfl, b2⟩
    go_wp2_with fail
    go_ret
    exact ⟨ret_int (by rw [HJ.out]; simp; omega), bl_then (bl_alloc b1 _) b2⟩

end Go.Proofs.Ytdokmnpkihmkpaa.WordB
