/- ClockOnce: at every time and all asks the law's text returns true. -/
import Derived.Test.YtcomgmgmpmjnkaaClock
set_option linter.unusedVariables false
namespace Go.Proofs.Ytcomgmgmpmjnkaa.ClockOnce
open Go.RowKit Go.Proofs.Ytcomgmgmpmjnkaa.Base Go.Proofs.Ytcomgmgmpmjnkaa.Row Go.Proofs.Ytcomgmgmpmjnkaa.Clock

def cnt (b : Bool) : Int := if b then 0 else 1
set_option maxHeartbeats 2000000 in
theorem main (x : Int) (A : Option Addr) (m c : Nat) (xs : List Int) (w : World) (hr : Rd w .u64 A m xs) :
    Calls Try.prog 3 #[.int .u64 x, .slice A m c] w fun e w' => e = .returned (.bool true) ∧ Below w.heap.size w w' := by
  have hmx := hr.max
  go_enter Try.func3, Try.ntmps3
  go_wp2_with (first
    | ((with_reducible refine wl_box rfl 34 _ rfl (#[.int .u64 0, .int .u32 0]) rfl ?_); intro w1 k1 b1 s1))
  refine (set_c w.heap.size w1 0 x false k1).mono ?_
  rintro e w2 ⟨rfl, k2, g2⟩
  have B2 := below_grown b1 b1.size g2 (Nat.le_refl _)
  clear k1 b1 g2
  go_wp2_with fail
  go_loopw [6, 7] (fun n i wr => ∃ (k : Nat) (b : Bool), k ≤ m ∧ k ≤ 100 ∧ n = .int .i64 (cnt b) ∧ i = .int .i64 k ∧ Al wr w.heap.size x b ∧ Below w.heap.size w wr) (fun _ i _ => 100 - (intOf i).toNat)
  case atStart => exact ⟨0, true, by omega, by omega, rfl, rfl, k2, B2⟩
  case round =>
    clear k2 B2
    obtain ⟨k, b, hkm, hk1, rfl, rfl, KA, HB⟩ := hrel
    by_cases hlt : k < m
    · have hq1 : decide ((k : Int) < (m : Int)) = true := by simp; omega
      by_cases hlt1 : k < 100
      · have hq2 : decide ((k : Int) < 100) = true := by simp; omega
        have hrw := hr.below HB
        obtain ⟨ad, rfl, hca⟩ := hrw.at_ k hlt
        obtain ⟨y, hy⟩ : ∃ y, xs[k]?.getD 0 = y := ⟨_, rfl⟩
        rw [hy] at hca
        obtain ⟨wo, rfl⟩ : ∃ wo : World, wo = wr := ⟨_, rfl⟩
        have hrd : Hid (∀ w', Below w.heap.size w w' → w'.cell? (ad.add k) = some (.int .u64 y)) := Lib.hid (by
          intro w' hb
          obtain ⟨ad', e', hc'⟩ := (hr.below hb).at_ k hlt
          cases e'
          rw [hc', hy])
        clear hr hrw hy
        cases b with
        | false =>
          have hg : Hid (goes false x y = false) := Lib.hid rfl
          go_wp2_with fail
          refine (due_c w.heap.size wo x y false KA).mono ?_
          rintro e w4 ⟨rfl, K4, g4⟩
          have B4 := below_grown HB HB.size g4 (Nat.le_refl _)
          rw [hg.out] at K4 ⊢
          clear g4 KA HB
          go_wp2_with fail
          go_roundw
          case rel => exact ⟨k + 1, false, by omega, by omega, (by first | rfl | (show Value.int IntKind.i64 (wrap64 (0 + 1)) = Value.int IntKind.i64 1; rw [show wrap64 (0 + 1) = 1 from by simp [wrap64]])), by go_num, K4, B4⟩
          case measure => first | (simp [intOf]; done) | (simp [intOf]; omega)
        | true =>
          by_cases hxy : x ≤ y
          · have hg : Hid (goes true x y = true) := Lib.hid (by simp [goes, hxy])
            have hq3 : decide (y < x) = false := by simpa using hxy
            clear hxy
            go_wp2_with fail
            refine (due_c w.heap.size wo x y true KA).mono ?_
            rintro e w4 ⟨rfl, K4, g4⟩
            have B4 := below_grown HB HB.size g4 (Nat.le_refl _)
            have hca4 := hrd.out w4 B4
            rw [hg.out] at K4 ⊢
            clear g4 KA HB hca
            go_wp2_with fail
            go_roundw
            case rel => exact ⟨k + 1, false, by omega, by omega, (by first | rfl | (show Value.int IntKind.i64 (wrap64 (0 + 1)) = Value.int IntKind.i64 1; rw [show wrap64 (0 + 1) = 1 from by simp [wrap64]])), by go_num, K4, B4⟩
            case measure => first | (simp [intOf]; done) | (simp [intOf]; omega)
          · have hg : Hid (goes true x y = false) := Lib.hid (by simp [goes, hxy])
            clear hxy
            go_wp2_with fail
            refine (due_c w.heap.size wo x y true KA).mono ?_
            rintro e w4 ⟨rfl, K4, g4⟩
            have B4 := below_grown HB HB.size g4 (Nat.le_refl _)
            rw [hg.out] at K4 ⊢
            clear g4 KA HB
            go_wp2_with fail
            go_roundw
            case rel => exact ⟨k + 1, true, by omega, by omega, rfl, by go_num, K4, B4⟩
            case measure => first | (simp [intOf]; done) | (simp [intOf]; omega)

      · have hq2 : decide ((k : Int) < 100) = false := by simp; omega
        clear hr
        obtain ⟨wo, rfl⟩ : ∃ wo : World, wo = wr := ⟨_, rfl⟩
        go_wp2_with fail
        refine (off_c w.heap.size wo x b KA).mono ?_
        rintro e w4 ⟨rfl, K4, g4⟩
        have B4 := below_grown HB HB.size g4 (Nat.le_refl _)
        clear KA HB g4
        have hq5 : decide (cnt b ≤ 1) = true := by cases b <;> rfl
        have hq6 : (cnt b == 0) = b := by cases b <;> rfl
        have hq7 : (b == b) = true := by cases b <;> rfl
        go_wp2_with fail
        refine (off_c w.heap.size w4 x false K4).mono ?_
        rintro e w5 ⟨rfl, K5, g5⟩
        have B5 := below_grown B4 B4.size g5 (Nat.le_refl _)
        clear K4 B4 g5
        go_wp2_with fail
        refine (awake_c _).mono ?_
        rintro e w6 ⟨rfl, b6⟩
        go_wp2
        go_ret
        exact ⟨rfl, bl_then B5 b6⟩
    · have hq1 : decide ((k : Int) < (m : Int)) = false := by simp; omega
      clear hr
      obtain ⟨wo, rfl⟩ : ∃ wo : World, wo = wr := ⟨_, rfl⟩
      go_wp2_with fail
      refine (off_c w.heap.size wo x b KA).mono ?_
      rintro e w4 ⟨rfl, K4, g4⟩
      have B4 := below_grown HB HB.size g4 (Nat.le_refl _)
      clear KA HB g4
      have hq5 : decide (cnt b ≤ 1) = true := by cases b <;> rfl
      have hq6 : (cnt b == 0) = b := by cases b <;> rfl
      have hq7 : (b == b) = true := by cases b <;> rfl
      go_wp2_with fail
      refine (off_c w.heap.size w4 x false K4).mono ?_
      rintro e w5 ⟨rfl, K5, g5⟩
      have B5 := below_grown B4 B4.size g5 (Nat.le_refl _)
      clear K4 B4 g5
      go_wp2_with fail
      refine (awake_c _).mono ?_
      rintro e w6 ⟨rfl, b6⟩
      go_wp2
      go_ret
      exact ⟨rfl, bl_then B5 b6⟩

theorem walk (a0 : Int) (a1 : Option Addr) (len cap : Nat) (z : List Int) (w : World) (w0 : (Lit.int .u64 a0).wf = true) (w1 : IsRow .u64 w a1 len cap z) (y1 : len * 8 ≤ 140737488351232) :
    Calls Try.prog 3 #[.int .u64 a0, .slice a1 len cap] w fun e w' => e = .returned (.bool true) ∧ Below w.heap.size w w' := by
  obtain ⟨hr, hl, hm, hw⟩ := Rd.of_row w1
  exact main a0 a1 len cap (z.take len) w hr
end Go.Proofs.Ytcomgmgmpmjnkaa.ClockOnce
