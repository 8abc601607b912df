/- WordSigns: at every two numbers the law's text returns true. -/
import Derived.Test.YtaefaneecdploaaWord
set_option linter.unusedVariables false
namespace Go.Proofs.Ytaefaneecdploaa.WordSigns
open Go.RowKit Go.Proofs.Ytaefaneecdploaa.Base Go.Proofs.Ytaefaneecdploaa.Math Go.Proofs.Ytaefaneecdploaa.Word

theorem walk (a0 a1 : Int) (w : World) (w0 : (Lit.int .u32 a0).wf = true) (w1 : (Lit.int .u32 a1).wf = true) :
    Calls Try.prog 3 #[.int .u32 a0, .int .u32 a1] w fun e w' => e = .returned (.bool true) ∧ Below w.heap.size w w' := by
  have h0 : 0 ≤ a0 ∧ a0 < 4294967296 := by simp [Lit.wf, IntKind.min, IntKind.max, IntKind.signed, IntKind.bits] at w0; omega
  have h1 : 0 ≤ a1 ∧ a1 < 4294967296 := by simp [Lit.wf, IntKind.min, IntKind.max, IntKind.signed, IntKind.bits] at w1; omega
  obtain ⟨h0, h0'⟩ := h0
  obtain ⟨h1, h1'⟩ := h1
  clear w0 w1
  go_enter Try.func3, Try.ntmps3
  go_wp2_with fail
  refine (sign_c a0 h0 h0' _).mono ?_
  rintro e w' ⟨rfl, rfl⟩
  go_wp2_with fail
  refine (refsign_c a0 h0 h0' _).mono ?_
  rintro e w' ⟨rfl, rfl⟩
  go_wp2_with fail
  refine (less_c a0 a1 h0 h0' h1 h1' _).mono ?_
  rintro e w' ⟨rfl, rfl⟩
  go_wp2_with fail
  refine (refvalue_c a0 h0 h0' _).mono ?_
  rintro e w' ⟨rfl, rfl⟩
  go_wp2_with fail
  refine (refvalue_c a1 h1 h1' _).mono ?_
  rintro e w' ⟨rfl, rfl⟩
  go_wp2_with fail
  refine (bytes_c a0 h0 h0' _).mono ?_
  rintro e w1 ⟨rfl, b1⟩
  go_wp2_with fail
  refine (of_c (a0 % 256) (a0 / 256 % 256) (a0 / 65536 % 256) (a0 / 16777216) (by omega) (by omega) (by omega) (by omega) _).mono ?_
  rintro e w2 ⟨rfl, b2⟩
  have e1 : a0 % 256 + a0 / 256 % 256 * 256 + a0 / 65536 % 256 * 65536 + a0 / 16777216 * 16777216 = a0 := by omega
  rw [e1]
  clear e1
  go_wp2_with fail
  refine (awake_c _).mono ?_
  rintro e w3 ⟨rfl, b3⟩
  go_wp2_with fail
  go_ret
  exact ⟨rfl, bl_then (bl_then b1 b2) b3⟩
end Go.Proofs.Ytaefaneecdploaa.WordSigns
