/- Contracts of package word's functions, and of the reference's: what each returns at every argument, and that it changes nothing that was there. -/
import Derived.Test.YtaefaneecdploaaProg
import Derived.Test.YtaefaneecdploaaMath
set_option linter.unusedVariables false
namespace Go.Proofs.Ytaefaneecdploaa.Word
open Go.RowKit Go.Proofs.Ytaefaneecdploaa.Base Go.Proofs.Ytaefaneecdploaa.Math


theorem info_u8 : (Try.prog.info? 5).map (fun i => (i.zero, i.size, i.bytes)) = some (some (.int .u8 0), 1, 1) := by kernel_rfl

theorem bytes_c (x : Int) (h0 : 0 ≤ x) (h1 : x < 4294967296) (w : World) :
    Calls Try.prog 17 #[.int .u32 x] w fun e w' => e = .returned (B4 x) ∧ Below w.heap.size w w' := by
  go_enter Try.func17, Try.ntmps17
  go_wp2
  exact bodyPost_ret (v := B4 x) (by simp [results, Try.results17, go_sem, B4]) rfl ⟨rfl, bl_alloc (bl_refl _) _⟩

theorem sign_c (x : Int) (h0 : 0 ≤ x) (h1 : x < 4294967296) (w : World) :
    Calls Try.prog 12 #[.int .u32 x] w fun e w' => e = .returned (.int .u32 (sgn x)) ∧ w = w' := by
  go_enter Try.func12, Try.ntmps12
  go_wp2
  go_ret
  exact ⟨ret_int (sign_wrap x), rfl⟩

theorem refsign_c (x : Int) (h0 : 0 ≤ x) (h1 : x < 4294967296) (w : World) :
    Calls Try.prog 13 #[.int .u32 x] w fun e w' => e = .returned (.int .u32 (sgn x)) ∧ w = w' := by
  go_enter Try.func13, Try.ntmps13
  by_cases h : 32768 ≤ x % 65536
  · go_wp2
    go_ret
    exact ⟨ret_int (by rw [sgn, if_pos h]), rfl⟩
  · go_wp2
    go_ret
    exact ⟨ret_int (by rw [sgn, if_neg (by omega)]), rfl⟩

theorem less_c (x y : Int) (h0 : 0 ≤ x) (h1 : x < 4294967296) (h2 : 0 ≤ y) (h3 : y < 4294967296) (w : World) :
    Calls Try.prog 14 #[.int .u32 x, .int .u32 y] w fun e w' => e = .returned (.bool (decide (val x < val y))) ∧ w = w' := by
  go_enter Try.func14, Try.ntmps14
  go_wp2
  go_ret
  exact ⟨ret_bool (by rw [wrap32_val x h0 h1, wrap32_val y h2 h3]), rfl⟩

theorem refvalue_c (x : Int) (h0 : 0 ≤ x) (h1 : x < 4294967296) (w : World) :
    Calls Try.prog 15 #[.int .u32 x] w fun e w' => e = .returned (.int .i64 (val x)) ∧ w = w' := by
  go_enter Try.func15, Try.ntmps15
  by_cases h : 2147483648 ≤ x
  · go_wp2
    go_ret
    exact ⟨ret_int (by rw [val, if_pos h]), rfl⟩
  · go_wp2
    go_ret
    exact ⟨ret_int (by rw [val, if_neg (by omega)]), rfl⟩

theorem of_c (a b c d : Int) (h0 : 0 ≤ a ∧ a < 256) (h1 : 0 ≤ b ∧ b < 256) (h2 : 0 ≤ c ∧ c < 256) (h3 : 0 ≤ d ∧ d < 256) (w : World) :
    Calls Try.prog 16 #[.agg #[.int .u8 a, .int .u8 b, .int .u8 c, .int .u8 d]] w fun e w' => e = .returned (.int .u32 (a + b * 256 + c * 65536 + d * 16777216)) ∧ Below w.heap.size w w' := by
  go_enter Try.func16, Try.ntmps16
  go_wp2
  go_ret
  exact ⟨ret_int (of_bits a b c d h0 h1 h2 h3), bl_alloc (bl_refl _) _⟩

theorem awake_c (w : World) :
    Calls Try.prog 18 #[] w fun e w' => e = .returned (.bool true) ∧ Below w.heap.size w w' := by
  go_enter Try.func18, Try.ntmps18
  go_wp2_with fail
  refine (bytes_c 258 (by omega) (by omega) _).mono ?_
  rintro e w1 ⟨rfl, b1⟩
  rw [show B4 258 = .agg #[.int .u8 2, .int .u8 1, .int .u8 0, .int .u8 0] from rfl]
  have heq : (Op.equalIn 10000 27 (.agg #[.int .u8 2, .int .u8 1, .int .u8 0, .int .u8 0]) (.agg #[.int .u8 2, .int .u8 1, .int .u8 0, .int .u8 0])).run Try.prog w1 = .ok true w1 := by
    obtain ⟨i0, hi, _, hz1, _⟩ := info_parts info_u8
    exact run_eq_ints 9998 27 4 5 .u8 i0 Try.underlying27 Try.underlying5 hi hz1 [2, 1, 0, 0] [2, 1, 0, 0] rfl rfl
  go_wp2_with fail
  refine (sign_c 65535 (by omega) (by omega) _).mono ?_
  rintro e w2 ⟨rfl, rfl⟩
  rw [show sgn 65535 = 4294967295 from rfl]
  go_wp2_with fail
  refine (less_c 4294967295 0 (by omega) (by omega) (by omega) (by omega) _).mono ?_
  rintro e w3 ⟨rfl, rfl⟩
  rw [show decide (val 4294967295 < val 0) = true from rfl]
  go_wp2_with fail
  go_ret
  exact ⟨rfl, b1⟩
end Go.Proofs.Ytaefaneecdploaa.Word
