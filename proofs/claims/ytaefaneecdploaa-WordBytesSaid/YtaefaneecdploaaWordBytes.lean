/- WordBytes: at every number, two places and a byte the law's text returns true. -/
import Derived.Test.YtaefaneecdploaaRef01
set_option linter.unusedVariables false
namespace Go.Proofs.Ytaefaneecdploaa.WordBytes
open Go.RowKit Go.Proofs.Ytaefaneecdploaa.Base Go.Proofs.Ytaefaneecdploaa.Math Go.Proofs.Ytaefaneecdploaa.Word Go.Proofs.Ytaefaneecdploaa.Ref01

def by4 (x : Int) (j : Nat) : Int := x / 256 ^ j % 256
def put4 (x : Int) (j : Nat) (b : Int) : Int := x + (b - x / 256 ^ j % 256) * 256 ^ j
theorem put4_range (x b : Int) (h0 : 0 ≤ x) (h1 : x < 4294967296) (hb0 : 0 ≤ b) (hb1 : b < 256) (j : Nat) (hj : j < 4) : 0 ≤ put4 x j b ∧ put4 x j b < 4294967296 := by
  unfold put4
  match j, hj with
  | 0, _ => simp; omega
  | 1, _ => simp; omega
  | 2, _ => simp; omega
  | 3, _ => simp; omega
theorem by4_put4 (x b : Int) (h0 : 0 ≤ x) (h1 : x < 4294967296) (hb0 : 0 ≤ b) (hb1 : b < 256) (j : Nat) (hj : j < 4) : by4 (put4 x j b) j = b := by
  unfold by4 put4
  match j, hj with
  | 0, _ => simp; omega
  | 1, _ => simp; omega
  | 2, _ => simp; omega
  | 3, _ => simp; omega
theorem by4_other (x b : Int) (h0 : 0 ≤ x) (h1 : x < 4294967296) (hb0 : 0 ≤ b) (hb1 : b < 256) (j k : Nat) (hj : j < 4) (hk : k < 4) (hne : j ≠ k) : by4 (put4 x j b) k = by4 x k := by
  unfold by4 put4
  rcases (show j = 0 ∨ j = 1 ∨ j = 2 ∨ j = 3 by omega) with rfl | rfl | rfl | rfl <;> rcases (show k = 0 ∨ k = 1 ∨ k = 2 ∨ k = 3 by omega) with rfl | rfl | rfl | rfl <;> first | exact absurd rfl hne | (simp; done) | (simp; omega)

set_option maxHeartbeats 1000000 in
theorem walk (a0 a1 a2 a3 : Int) (w : World) (w0 : (Lit.int .u32 a0).wf = true) (w1 : (Lit.int .i64 a1).wf = true) (w2 : (Lit.int .i64 a2).wf = true) (w3 : (Lit.int .u8 a3).wf = true) :
    Calls Try.prog 4 #[.int .u32 a0, .int .i64 a1, .int .i64 a2, .int .u8 a3] w fun e w' => e = .returned (.bool true) ∧ Below w.heap.size w w' := by
  obtain ⟨h0, h0'⟩ := wf_u32_range w0
  obtain ⟨h1, h1'⟩ := wf_i64_range w1
  obtain ⟨h2, h2'⟩ := wf_i64_range w2
  obtain ⟨h3, h3'⟩ := wf_u8_range w3
  clear w0 w1 w2 w3
  have hJ : (a1 % 4).toNat < 4 := by omega
  have hK : (a2 % 4).toNat < 4 := by omega
  have hput := put4_range a0 a3 h0 h0' h3 h3' _ hJ
  obtain ⟨hp0, hp1⟩ := hput
  have hby := Lib.hid (by4_put4 a0 a3 h0 h0' h3 h3' _ hJ)
  have hot : Hid ((a1 % 4).toNat ≠ (a2 % 4).toNat → by4 (put4 a0 (a1 % 4).toNat a3) (a2 % 4).toNat = by4 a0 (a2 % 4).toNat) := Lib.hid (by4_other a0 a3 h0 h0' h3 h3' _ _ hJ hK)
  have e1 := mod4 a1
  have e2 := mod4 a2
  go_enter Try.func4, Try.ntmps4
  go_wp2_with fail
  refine (withbyte_c a0 a1 a3 h0 h0' h1 h1' h3 h3' _).mono ?_
  rintro e v1 ⟨rfl, b1⟩
  rw [show a0 + (a3 - a0 / 256 ^ (a1 % 4).toNat % 256) * 256 ^ (a1 % 4).toNat = put4 a0 (a1 % 4).toNat a3 from rfl]
  go_wp2_with fail
  refine (byte_c a0 a1 h0 h0' h1 h1' _).mono ?_
  rintro e v2 ⟨rfl, b2⟩
  go_wp2_with fail
  refine (refbyte_c a0 a1 h0 h0' h1 h1' _).mono ?_
  rintro e v3 ⟨rfl, rfl⟩
  go_wp2_with fail
  refine (with_c a0 a1 a3 h0 h0' h1 h1' h3 h3' _).mono ?_
  rintro e v4 ⟨rfl, b4⟩
  rw [show a0 + (a3 - a0 / 256 ^ (a1 % 4).toNat % 256) * 256 ^ (a1 % 4).toNat = put4 a0 (a1 % 4).toNat a3 from rfl]
  go_wp2_with fail
  refine (byte_c (put4 a0 (a1 % 4).toNat a3) a1 hp0 hp1 h1 h1' _).mono ?_
  rintro e v5 ⟨rfl, b5⟩
  rw [show put4 a0 (a1 % 4).toNat a3 / 256 ^ (a1 % 4).toNat % 256 = by4 (put4 a0 (a1 % 4).toNat a3) (a1 % 4).toNat from rfl, hby.out]
  have B5 := bl_then (bl_then (bl_then b1 b2) b4) b5
  clear b1 b2 b4 b5
  by_cases hjk : a1 % 4 = a2 % 4
  · have q : (a1 % 4 == a2 % 4) = true := by simpa using hjk
    clear hjk
    go_wp2_with fail
    refine (awake_c _).mono ?_
    rintro e v6 ⟨rfl, b6⟩
    go_wp2_with fail
    go_ret
    exact ⟨rfl, bl_then B5 b6⟩
  · have q : (a1 % 4 == a2 % 4) = false := by simpa using hjk
    have hne : (a1 % 4).toNat ≠ (a2 % 4).toNat := by omega
    have hot' := Lib.hid (hot.out hne)
    clear hjk hne
    go_wp2_with fail
    refine (byte_c (put4 a0 (a1 % 4).toNat a3) a2 hp0 hp1 h2 h2' _).mono ?_
    rintro e v6 ⟨rfl, b6⟩
    rw [show put4 a0 (a1 % 4).toNat a3 / 256 ^ (a2 % 4).toNat % 256 = by4 (put4 a0 (a1 % 4).toNat a3) (a2 % 4).toNat from rfl, hot'.out]
    go_wp2_with fail
    refine (byte_c a0 a2 h0 h0' h2 h2' _).mono ?_
    rintro e v7 ⟨rfl, b7⟩
    rw [show a0 / 256 ^ (a2 % 4).toNat % 256 = by4 a0 (a2 % 4).toNat from rfl]
    go_wp2_with fail
    refine (awake_c _).mono ?_
    rintro e v8 ⟨rfl, b8⟩
    go_wp2_with fail
    go_ret
    exact ⟨rfl, bl_then (bl_then (bl_then B5 b6) b7) b8⟩
end Go.Proofs.Ytaefaneecdploaa.WordBytes
