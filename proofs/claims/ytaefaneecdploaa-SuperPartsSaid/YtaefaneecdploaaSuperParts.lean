/- SuperParts: at every two numbers the law's text returns true. -/
import Derived.Test.YtaefaneecdploaaSuper
set_option linter.unusedVariables false
namespace Go.Proofs.Ytaefaneecdploaa.SuperParts
open Go.RowKit Go.Proofs.Ytaefaneecdploaa.Base Go.Proofs.Ytaefaneecdploaa.Math Go.Proofs.Ytaefaneecdploaa.Super

def P (p0 b : Int) (i : Nat) : Int := if 2 ≤ b ∧ b < 2 + (i : Int) then p0 + 1 else p0
def H (b : Int) (i : Nat) : Int := if b < 19 ∨ 34 < b then 0 else if (i : Int) ≤ 2 * (b - 19) then 0 else if (i : Int) = 2 * (b - 19) + 1 then 1 else 3
theorem P_hit (p0 b : Int) (i : Nat) (h : 2 + (i : Int) = b) : P p0 b (i + 1) = P p0 b i + 1 ∧ P p0 b i = p0 := by
  unfold P
  rw [if_pos (by omega), if_neg (by omega)]; omega
theorem P_miss (p0 b : Int) (i : Nat) (h : ¬ 2 + (i : Int) = b) : P p0 b (i + 1) = P p0 b i := by
  unfold P
  split <;> split <;> omega
theorem H_hit (b : Int) (i : Nat) (hi : i < 32) (h : 19 + (i : Int) / 2 = b) : H b (i + 1) = H b i + 1 + (i : Int) % 2 ∧ 0 ≤ H b i ∧ H b i ≤ 3 := by
  unfold H
  rw [if_neg (by omega), if_neg (by omega)]
  split <;> split <;> (try split) <;> (try split) <;> omega
theorem H_miss (b : Int) (i : Nat) (hi : i < 32) (h : ¬ 19 + (i : Int) / 2 = b) : H b (i + 1) = H b i := by
  unfold H
  split
  · rfl
  · split <;> split <;> (try split) <;> (try split) <;> omega

theorem wrong (a0 a1 : Int) (h : a0 < 39 ∨ 512 < a0) (w : World) :
    Calls Try.prog 8 #[.int .i64 a0, .int .i64 a1] w fun e w' => e = .returned (.bool true) ∧ Below w.heap.size w w' := by
  have HH := Lib.hid h
  clear h
  go_enter Try.func8, Try.ntmps8
  go_wp2_with fail
  refine (right_no a0 HH.out _).mono ?_
  rintro e w1 ⟨rfl, b1⟩
  have c1 : w1.cell? ⟨w.heap.size, 0, none⟩ = some (.int .i64 a0) := bl_cell b1 (cell_of_row _ _ 0 _ _ _ (heap_alloc_new _ _))
  have B1 := bl_then (bl_alloc (bl_refl w) _) b1
  clear b1
  go_wp2_with fail
  refine (room_no a0 HH.out _).mono ?_
  rintro e w2 ⟨rfl, b2⟩
  have c2 := bl_cell b2 c1
  clear c1
  go_wp2_with fail
  refine (data_wrong a0 a1 HH.out _).mono ?_
  rintro e w3 ⟨rfl, b3⟩
  clear c2
  go_wp2_with fail
  refine (awake_c _).mono ?_
  rintro e w4 ⟨rfl, rfl⟩
  go_wp2
  go_ret
  exact ⟨rfl, bl_then (bl_then B1 b2) b3⟩

theorem outside (a0 a1 : Int) (h0 : 39 ≤ a0) (h1 : a0 ≤ 512) (h : a1 < 0 ∨ a0 ≤ a1) (w : World) :
    Calls Try.prog 8 #[.int .i64 a0, .int .i64 a1] w fun e w' => e = .returned (.bool true) ∧ Below w.heap.size w w' := by
  have HD := Lib.hid (show a1 < 35 ∨ a0 ≤ a1 by omega)
  by_cases hb : a1 < 0
  · have q : decide (a1 < 0) = true := by simp; omega
    clear h
    go_enter Try.func8, Try.ntmps8
    go_wp2_with fail
    refine (right_yes a0 h0 h1 _).mono ?_
    rintro e w1 ⟨rfl, b1⟩
    have c1 : w1.cell? ⟨w.heap.size, 0, none⟩ = some (.int .i64 a0) := bl_cell b1 (cell_of_row _ _ 0 _ _ _ (heap_alloc_new _ _))
    have B1 := bl_then (bl_alloc (bl_refl w) _) b1
    clear b1
    go_wp2_with fail
    refine (data_no a0 a1 h0 h1 HD.out _).mono ?_
    rintro e w3 ⟨rfl, b3⟩
    clear c1
    go_wp2_with fail
    refine (awake_c _).mono ?_
    rintro e w4 ⟨rfl, rfl⟩
    go_wp2
    go_ret
    exact ⟨rfl, bl_then B1 b3⟩
  · have q : decide (a1 < 0) = false := by simp; omega
    have q2 : decide (a0 ≤ a1) = true := by simp; omega
    clear h
    go_enter Try.func8, Try.ntmps8
    go_wp2_with fail
    refine (right_yes a0 h0 h1 _).mono ?_
    rintro e w1 ⟨rfl, b1⟩
    have c1 : w1.cell? ⟨w.heap.size, 0, none⟩ = some (.int .i64 a0) := bl_cell b1 (cell_of_row _ _ 0 _ _ _ (heap_alloc_new _ _))
    have B1 := bl_then (bl_alloc (bl_refl w) _) b1
    clear b1
    go_wp2_with fail
    refine (data_no a0 a1 h0 h1 HD.out _).mono ?_
    rintro e w3 ⟨rfl, b3⟩
    clear c1
    go_wp2_with fail
    refine (awake_c _).mono ?_
    rintro e w4 ⟨rfl, rfl⟩
    go_wp2
    go_ret
    exact ⟨rfl, bl_then B1 b3⟩

set_option maxRecDepth 100000 in
set_option maxHeartbeats 1000000 in
theorem in_zero (a0 : Int) (h0 : 39 ≤ a0) (h1 : a0 ≤ 512) (w : World) :
    Calls Try.prog 8 #[.int .i64 a0, .int .i64 0] w fun e w' => e = .returned (.bool true) ∧ Below w.heap.size w w' := by
  have qn : decide (0 < (0 : Int)) = false := by simp; try omega
  have qa : decide (a0 ≤ (0 : Int)) = false := by simp; omega
  go_enter Try.func8, Try.ntmps8
  go_wp2_with fail
  refine (right_yes a0 h0 h1 _).mono ?_
  rintro e w1 ⟨rfl, b1⟩
  have c1 : w1.cell? ⟨w.heap.size, 0, none⟩ = some (.int .i64 a0) := bl_cell b1 (cell_of_row _ _ 0 _ _ _ (heap_alloc_new _ _))
  have B1 := bl_then (bl_alloc (bl_refl w) _) b1
  clear b1
  go_wp2_with fail
  go_loopw [6, 7] (fun p i wr => ∃ (k : Nat) (pv : Int), k ≤ 16 ∧ i = .int .i64 k ∧ p = .int .i64 pv ∧ 0 ≤ pv ∧ pv ≤ 2 ∧ Hid (pv = P 1 0 k) ∧ w1 = wr) (fun _ i _ => 16 - (intOf i).toNat)
  case atStart => exact ⟨0, 1, by omega, rfl, rfl, by omega, by omega, Lib.hid (by unfold P; rw [if_neg (by omega)]), rfl⟩
  case round =>
    obtain ⟨k, pv, hk, rfl, rfl, hp0, hp1, HP, rfl⟩ := hrel
    by_cases hlt : k < 16
    · by_cases hit : 2 + (k : Int) = 0
      · have hq : (2 + (k : Int) == 0) = true := by simpa using hit
        have hP := P_hit 1 0 k hit
        have hP1 : Hid (pv + 1 = P 1 0 (k + 1)) := Lib.hid (by rw [hP.1, ← HP.out])
        have hP2 : pv ≤ 1 := by rw [HP.out, hP.2]; omega
        clear hP hit HP
        go_wp2_with fail
        refine (log_in k (by omega) (by omega) _).mono ?_
        rintro e w5 ⟨rfl, rfl⟩
        go_wp2_with fail
        go_roundw
        case rel => exact ⟨k + 1, pv + 1, by omega, by go_num, rfl, by omega, by omega, hP1, trivial⟩
        case measure => first | (simp [intOf]; done) | (simp [intOf]; omega)
      · have hq : (2 + (k : Int) == 0) = false := by simpa using hit
        have hP1 : Hid (pv = P 1 0 (k + 1)) := Lib.hid (by rw [P_miss 1 0 k hit, ← HP.out])
        clear hit HP
        go_wp2_with fail
        refine (log_in k (by omega) (by omega) _).mono ?_
        rintro e w5 ⟨rfl, rfl⟩
        go_wp2_with fail
        go_roundw
        case rel => exact ⟨k + 1, pv, by omega, by go_num, rfl, by omega, by omega, hP1, trivial⟩
        case measure => first | (simp [intOf]; done) | (simp [intOf]; omega)
    · obtain rfl : k = 16 := by omega
      obtain rfl : pv = 1 := by rw [HP.out]; unfold P; split <;> omega
      clear HP
      simp only [Int.cast_ofNat_Int]
      go_wp2_with fail
      go_loopw [10, 11] (fun p i wr => ∃ (k : Nat) (pv : Int), k ≤ 32 ∧ i = .int .i64 k ∧ p = .int .i64 pv ∧ 0 ≤ pv ∧ pv ≤ 6 ∧ Hid (pv = H 0 k) ∧ w1 = wr) (fun _ i _ => 32 - (intOf i).toNat)
      case atStart => exact ⟨0, 0, by omega, rfl, rfl, by omega, by omega, Lib.hid (by unfold H; split; rfl; rw [if_pos (by omega)]), rfl⟩
      case round =>
        obtain ⟨k, pv, hk, rfl, rfl, hp0, hp1, HP, rfl⟩ := hrel
        by_cases hlt : k < 32
        · by_cases hit : 19 + (k : Int) / 2 = 0
          · have hq : (19 + (k : Int) / 2 == 0) = true := by simpa using hit
            have hP := H_hit 0 k hlt hit
            have hP1 : Hid (pv + 1 + (k : Int) % 2 = H 0 (k + 1)) := Lib.hid (by rw [hP.1, ← HP.out])
            have hP2 : pv ≤ 3 := by rw [HP.out]; exact hP.2.2
            clear hP hit HP
            go_wp2_with fail
            refine (inode_in k (by omega) (by omega) _).mono ?_
            rintro e w5 ⟨rfl, rfl⟩
            go_wp2_with fail
            go_roundw
            case rel => exact ⟨k + 1, _, by omega, by go_num, rfl, by omega, by omega, hP1, trivial⟩
            case measure => first | (simp [intOf]; done) | (simp [intOf]; omega)
          · have hq : (19 + (k : Int) / 2 == 0) = false := by simpa using hit
            have hP1 : Hid (pv = H 0 (k + 1)) := Lib.hid (by rw [H_miss 0 k hlt hit, ← HP.out])
            clear hit HP
            go_wp2_with fail
            refine (inode_in k (by omega) (by omega) _).mono ?_
            rintro e w5 ⟨rfl, rfl⟩
            go_wp2_with fail
            go_roundw
            case rel => exact ⟨k + 1, pv, by omega, by go_num, rfl, by omega, by omega, hP1, trivial⟩
            case measure => first | (simp [intOf]; done) | (simp [intOf]; omega)
        · obtain rfl : k = 32 := by omega
          obtain rfl : pv = 0 := by rw [HP.out]; unfold H; first | (rw [if_neg (by omega), if_neg (by omega), if_neg (by omega)]) | (rw [if_pos (by omega)])
          clear HP
          go_wp2_with fail
          refine (data_no a0 0 h0 h1 (.inl (by omega)) _).mono ?_
          rintro e w6 ⟨rfl, b6⟩
          have c6 := bl_cell b6 c1
          have B6 := bl_then B1 b6
          clear c1
          go_wp2_with fail
          refine (room_yes a0 h0 h1 _).mono ?_
          rintro e w7 ⟨rfl, b7⟩
          have qe : (a0 - 35 == a0 - 35) = true := by simp
          clear c6
          go_wp2_with fail
          refine (awake_c _).mono ?_
          rintro e w8 ⟨rfl, rfl⟩
          go_wp2
          go_ret
          exact ⟨rfl, bl_then B6 b7⟩

set_option maxRecDepth 100000 in
set_option maxHeartbeats 1000000 in
theorem in_one (a0 : Int) (h0 : 39 ≤ a0) (h1 : a0 ≤ 512) (w : World) :
    Calls Try.prog 8 #[.int .i64 a0, .int .i64 1] w fun e w' => e = .returned (.bool true) ∧ Below w.heap.size w w' := by
  have qn : decide (1 < (0 : Int)) = false := by simp; try omega
  have qa : decide (a0 ≤ (1 : Int)) = false := by simp; omega
  go_enter Try.func8, Try.ntmps8
  go_wp2_with fail
  refine (right_yes a0 h0 h1 _).mono ?_
  rintro e w1 ⟨rfl, b1⟩
  have c1 : w1.cell? ⟨w.heap.size, 0, none⟩ = some (.int .i64 a0) := bl_cell b1 (cell_of_row _ _ 0 _ _ _ (heap_alloc_new _ _))
  have B1 := bl_then (bl_alloc (bl_refl w) _) b1
  clear b1
  go_wp2_with fail
  refine (header_c _).mono ?_
  rintro e w4 ⟨rfl, rfl⟩
  go_wp2_with fail
  go_loopw [6, 7] (fun p i wr => ∃ (k : Nat) (pv : Int), k ≤ 16 ∧ i = .int .i64 k ∧ p = .int .i64 pv ∧ 0 ≤ pv ∧ pv ≤ 2 ∧ Hid (pv = P 1 1 k) ∧ w1 = wr) (fun _ i _ => 16 - (intOf i).toNat)
  case atStart => exact ⟨0, 1, by omega, rfl, rfl, by omega, by omega, Lib.hid (by unfold P; rw [if_neg (by omega)]), rfl⟩
  case round =>
    obtain ⟨k, pv, hk, rfl, rfl, hp0, hp1, HP, rfl⟩ := hrel
    by_cases hlt : k < 16
    · by_cases hit : 2 + (k : Int) = 1
      · have hq : (2 + (k : Int) == 1) = true := by simpa using hit
        have hP := P_hit 1 1 k hit
        have hP1 : Hid (pv + 1 = P 1 1 (k + 1)) := Lib.hid (by rw [hP.1, ← HP.out])
        have hP2 : pv ≤ 1 := by rw [HP.out, hP.2]; omega
        clear hP hit HP
        go_wp2_with fail
        refine (log_in k (by omega) (by omega) _).mono ?_
        rintro e w5 ⟨rfl, rfl⟩
        go_wp2_with fail
        go_roundw
        case rel => exact ⟨k + 1, pv + 1, by omega, by go_num, rfl, by omega, by omega, hP1, trivial⟩
        case measure => first | (simp [intOf]; done) | (simp [intOf]; omega)
      · have hq : (2 + (k : Int) == 1) = false := by simpa using hit
        have hP1 : Hid (pv = P 1 1 (k + 1)) := Lib.hid (by rw [P_miss 1 1 k hit, ← HP.out])
        clear hit HP
        go_wp2_with fail
        refine (log_in k (by omega) (by omega) _).mono ?_
        rintro e w5 ⟨rfl, rfl⟩
        go_wp2_with fail
        go_roundw
        case rel => exact ⟨k + 1, pv, by omega, by go_num, rfl, by omega, by omega, hP1, trivial⟩
        case measure => first | (simp [intOf]; done) | (simp [intOf]; omega)
    · obtain rfl : k = 16 := by omega
      obtain rfl : pv = 1 := by rw [HP.out]; unfold P; split <;> omega
      clear HP
      simp only [Int.cast_ofNat_Int]
      go_wp2_with fail
      go_loopw [10, 11] (fun p i wr => ∃ (k : Nat) (pv : Int), k ≤ 32 ∧ i = .int .i64 k ∧ p = .int .i64 pv ∧ 0 ≤ pv ∧ pv ≤ 6 ∧ Hid (pv = H 1 k) ∧ w1 = wr) (fun _ i _ => 32 - (intOf i).toNat)
      case atStart => exact ⟨0, 0, by omega, rfl, rfl, by omega, by omega, Lib.hid (by unfold H; split; rfl; rw [if_pos (by omega)]), rfl⟩
      case round =>
        obtain ⟨k, pv, hk, rfl, rfl, hp0, hp1, HP, rfl⟩ := hrel
        by_cases hlt : k < 32
        · by_cases hit : 19 + (k : Int) / 2 = 1
          · have hq : (19 + (k : Int) / 2 == 1) = true := by simpa using hit
            have hP := H_hit 1 k hlt hit
            have hP1 : Hid (pv + 1 + (k : Int) % 2 = H 1 (k + 1)) := Lib.hid (by rw [hP.1, ← HP.out])
            have hP2 : pv ≤ 3 := by rw [HP.out]; exact hP.2.2
            clear hP hit HP
            go_wp2_with fail
            refine (inode_in k (by omega) (by omega) _).mono ?_
            rintro e w5 ⟨rfl, rfl⟩
            go_wp2_with fail
            go_roundw
            case rel => exact ⟨k + 1, _, by omega, by go_num, rfl, by omega, by omega, hP1, trivial⟩
            case measure => first | (simp [intOf]; done) | (simp [intOf]; omega)
          · have hq : (19 + (k : Int) / 2 == 1) = false := by simpa using hit
            have hP1 : Hid (pv = H 1 (k + 1)) := Lib.hid (by rw [H_miss 1 k hlt hit, ← HP.out])
            clear hit HP
            go_wp2_with fail
            refine (inode_in k (by omega) (by omega) _).mono ?_
            rintro e w5 ⟨rfl, rfl⟩
            go_wp2_with fail
            go_roundw
            case rel => exact ⟨k + 1, pv, by omega, by go_num, rfl, by omega, by omega, hP1, trivial⟩
            case measure => first | (simp [intOf]; done) | (simp [intOf]; omega)
        · obtain rfl : k = 32 := by omega
          obtain rfl : pv = 0 := by rw [HP.out]; unfold H; first | (rw [if_neg (by omega), if_neg (by omega), if_neg (by omega)]) | (rw [if_pos (by omega)])
          clear HP
          go_wp2_with fail
          refine (data_no a0 1 h0 h1 (.inl (by omega)) _).mono ?_
          rintro e w6 ⟨rfl, b6⟩
          have c6 := bl_cell b6 c1
          have B6 := bl_then B1 b6
          clear c1
          go_wp2_with fail
          refine (room_yes a0 h0 h1 _).mono ?_
          rintro e w7 ⟨rfl, b7⟩
          have qe : (a0 - 35 == a0 - 35) = true := by simp
          clear c6
          go_wp2_with fail
          refine (awake_c _).mono ?_
          rintro e w8 ⟨rfl, rfl⟩
          go_wp2
          go_ret
          exact ⟨rfl, bl_then B6 b7⟩

set_option maxRecDepth 100000 in
set_option maxHeartbeats 1000000 in
theorem in_log (a0 b : Int) (h0 : 39 ≤ a0) (h1 : a0 ≤ 512) (hb0 : 2 ≤ b) (hb1 : b ≤ 17) (w : World) :
    Calls Try.prog 8 #[.int .i64 a0, .int .i64 b] w fun e w' => e = .returned (.bool true) ∧ Below w.heap.size w w' := by
  have q0 : (b == 0) = false := by simp; omega
  have q1 : (b == 1) = false := by simp; omega
  have q18 : (b == 18) = false := by simp; omega
  have qn : decide (b < (0 : Int)) = false := by simp; try omega
  have qa : decide (a0 ≤ (b : Int)) = false := by simp; omega
  go_enter Try.func8, Try.ntmps8
  go_wp2_with fail
  refine (right_yes a0 h0 h1 _).mono ?_
  rintro e w1 ⟨rfl, b1⟩
  have c1 : w1.cell? ⟨w.heap.size, 0, none⟩ = some (.int .i64 a0) := bl_cell b1 (cell_of_row _ _ 0 _ _ _ (heap_alloc_new _ _))
  have B1 := bl_then (bl_alloc (bl_refl w) _) b1
  clear b1
  go_wp2_with fail
  refine (header_c _).mono ?_
  rintro e w4 ⟨rfl, rfl⟩
  go_wp2_with fail
  refine (bitmap_c _).mono ?_
  rintro e w4 ⟨rfl, rfl⟩
  go_wp2_with fail
  go_loopw [6, 7] (fun p i wr => ∃ (k : Nat) (pv : Int), k ≤ 16 ∧ i = .int .i64 k ∧ p = .int .i64 pv ∧ 0 ≤ pv ∧ pv ≤ 2 ∧ Hid (pv = P 0 b k) ∧ w1 = wr) (fun _ i _ => 16 - (intOf i).toNat)
  case atStart => exact ⟨0, 0, by omega, rfl, rfl, by omega, by omega, Lib.hid (by unfold P; rw [if_neg (by omega)]), rfl⟩
  case round =>
    obtain ⟨k, pv, hk, rfl, rfl, hp0, hp1, HP, rfl⟩ := hrel
    by_cases hlt : k < 16
    · by_cases hit : 2 + (k : Int) = b
      · have hq : (2 + (k : Int) == b) = true := by simpa using hit
        have hP := P_hit 0 b k hit
        have hP1 : Hid (pv + 1 = P 0 b (k + 1)) := Lib.hid (by rw [hP.1, ← HP.out])
        have hP2 : pv ≤ 1 := by rw [HP.out, hP.2]; omega
        clear hP hit HP
        go_wp2_with fail
        refine (log_in k (by omega) (by omega) _).mono ?_
        rintro e w5 ⟨rfl, rfl⟩
        go_wp2_with fail
        go_roundw
        case rel => exact ⟨k + 1, pv + 1, by omega, by go_num, rfl, by omega, by omega, hP1, trivial⟩
        case measure => first | (simp [intOf]; done) | (simp [intOf]; omega)
      · have hq : (2 + (k : Int) == b) = false := by simpa using hit
        have hP1 : Hid (pv = P 0 b (k + 1)) := Lib.hid (by rw [P_miss 0 b k hit, ← HP.out])
        clear hit HP
        go_wp2_with fail
        refine (log_in k (by omega) (by omega) _).mono ?_
        rintro e w5 ⟨rfl, rfl⟩
        go_wp2_with fail
        go_roundw
        case rel => exact ⟨k + 1, pv, by omega, by go_num, rfl, by omega, by omega, hP1, trivial⟩
        case measure => first | (simp [intOf]; done) | (simp [intOf]; omega)
    · obtain rfl : k = 16 := by omega
      obtain rfl : pv = 1 := by rw [HP.out]; unfold P; split <;> omega
      clear HP
      simp only [Int.cast_ofNat_Int]
      go_wp2_with fail
      go_loopw [10, 11] (fun p i wr => ∃ (k : Nat) (pv : Int), k ≤ 32 ∧ i = .int .i64 k ∧ p = .int .i64 pv ∧ 0 ≤ pv ∧ pv ≤ 6 ∧ Hid (pv = H b k) ∧ w1 = wr) (fun _ i _ => 32 - (intOf i).toNat)
      case atStart => exact ⟨0, 0, by omega, rfl, rfl, by omega, by omega, Lib.hid (by unfold H; split; rfl; rw [if_pos (by omega)]), rfl⟩
      case round =>
        obtain ⟨k, pv, hk, rfl, rfl, hp0, hp1, HP, rfl⟩ := hrel
        by_cases hlt : k < 32
        · by_cases hit : 19 + (k : Int) / 2 = b
          · have hq : (19 + (k : Int) / 2 == b) = true := by simpa using hit
            have hP := H_hit b k hlt hit
            have hP1 : Hid (pv + 1 + (k : Int) % 2 = H b (k + 1)) := Lib.hid (by rw [hP.1, ← HP.out])
            have hP2 : pv ≤ 3 := by rw [HP.out]; exact hP.2.2
            clear hP hit HP
            go_wp2_with fail
            refine (inode_in k (by omega) (by omega) _).mono ?_
            rintro e w5 ⟨rfl, rfl⟩
            go_wp2_with fail
            go_roundw
            case rel => exact ⟨k + 1, _, by omega, by go_num, rfl, by omega, by omega, hP1, trivial⟩
            case measure => first | (simp [intOf]; done) | (simp [intOf]; omega)
          · have hq : (19 + (k : Int) / 2 == b) = false := by simpa using hit
            have hP1 : Hid (pv = H b (k + 1)) := Lib.hid (by rw [H_miss b k hlt hit, ← HP.out])
            clear hit HP
            go_wp2_with fail
            refine (inode_in k (by omega) (by omega) _).mono ?_
            rintro e w5 ⟨rfl, rfl⟩
            go_wp2_with fail
            go_roundw
            case rel => exact ⟨k + 1, pv, by omega, by go_num, rfl, by omega, by omega, hP1, trivial⟩
            case measure => first | (simp [intOf]; done) | (simp [intOf]; omega)
        · obtain rfl : k = 32 := by omega
          obtain rfl : pv = 0 := by rw [HP.out]; unfold H; first | (rw [if_neg (by omega), if_neg (by omega), if_neg (by omega)]) | (rw [if_pos (by omega)])
          clear HP
          go_wp2_with fail
          refine (data_no a0 b h0 h1 (.inl (by omega)) _).mono ?_
          rintro e w6 ⟨rfl, b6⟩
          have c6 := bl_cell b6 c1
          have B6 := bl_then B1 b6
          clear c1
          go_wp2_with fail
          refine (room_yes a0 h0 h1 _).mono ?_
          rintro e w7 ⟨rfl, b7⟩
          have qe : (a0 - 35 == a0 - 35) = true := by simp
          clear c6
          go_wp2_with fail
          refine (awake_c _).mono ?_
          rintro e w8 ⟨rfl, rfl⟩
          go_wp2
          go_ret
          exact ⟨rfl, bl_then B6 b7⟩

set_option maxRecDepth 100000 in
set_option maxHeartbeats 1000000 in
theorem in_map (a0 : Int) (h0 : 39 ≤ a0) (h1 : a0 ≤ 512) (w : World) :
    Calls Try.prog 8 #[.int .i64 a0, .int .i64 18] w fun e w' => e = .returned (.bool true) ∧ Below w.heap.size w w' := by
  have qn : decide (18 < (0 : Int)) = false := by simp; try omega
  have qa : decide (a0 ≤ (18 : Int)) = false := by simp; omega
  go_enter Try.func8, Try.ntmps8
  go_wp2_with fail
  refine (right_yes a0 h0 h1 _).mono ?_
  rintro e w1 ⟨rfl, b1⟩
  have c1 : w1.cell? ⟨w.heap.size, 0, none⟩ = some (.int .i64 a0) := bl_cell b1 (cell_of_row _ _ 0 _ _ _ (heap_alloc_new _ _))
  have B1 := bl_then (bl_alloc (bl_refl w) _) b1
  clear b1
  go_wp2_with fail
  refine (header_c _).mono ?_
  rintro e w4 ⟨rfl, rfl⟩
  go_wp2_with fail
  refine (bitmap_c _).mono ?_
  rintro e w4 ⟨rfl, rfl⟩
  go_wp2_with fail
  go_loopw [6, 7] (fun p i wr => ∃ (k : Nat) (pv : Int), k ≤ 16 ∧ i = .int .i64 k ∧ p = .int .i64 pv ∧ 0 ≤ pv ∧ pv ≤ 2 ∧ Hid (pv = P 1 18 k) ∧ w1 = wr) (fun _ i _ => 16 - (intOf i).toNat)
  case atStart => exact ⟨0, 1, by omega, rfl, rfl, by omega, by omega, Lib.hid (by unfold P; rw [if_neg (by omega)]), rfl⟩
  case round =>
    obtain ⟨k, pv, hk, rfl, rfl, hp0, hp1, HP, rfl⟩ := hrel
    by_cases hlt : k < 16
    · by_cases hit : 2 + (k : Int) = 18
      · have hq : (2 + (k : Int) == 18) = true := by simpa using hit
        have hP := P_hit 1 18 k hit
        have hP1 : Hid (pv + 1 = P 1 18 (k + 1)) := Lib.hid (by rw [hP.1, ← HP.out])
        have hP2 : pv ≤ 1 := by rw [HP.out, hP.2]; omega
        clear hP hit HP
        go_wp2_with fail
        refine (log_in k (by omega) (by omega) _).mono ?_
        rintro e w5 ⟨rfl, rfl⟩
        go_wp2_with fail
        go_roundw
        case rel => exact ⟨k + 1, pv + 1, by omega, by go_num, rfl, by omega, by omega, hP1, trivial⟩
        case measure => first | (simp [intOf]; done) | (simp [intOf]; omega)
      · have hq : (2 + (k : Int) == 18) = false := by simpa using hit
        have hP1 : Hid (pv = P 1 18 (k + 1)) := Lib.hid (by rw [P_miss 1 18 k hit, ← HP.out])
        clear hit HP
        go_wp2_with fail
        refine (log_in k (by omega) (by omega) _).mono ?_
        rintro e w5 ⟨rfl, rfl⟩
        go_wp2_with fail
        go_roundw
        case rel => exact ⟨k + 1, pv, by omega, by go_num, rfl, by omega, by omega, hP1, trivial⟩
        case measure => first | (simp [intOf]; done) | (simp [intOf]; omega)
    · obtain rfl : k = 16 := by omega
      obtain rfl : pv = 1 := by rw [HP.out]; unfold P; split <;> omega
      clear HP
      simp only [Int.cast_ofNat_Int]
      go_wp2_with fail
      go_loopw [10, 11] (fun p i wr => ∃ (k : Nat) (pv : Int), k ≤ 32 ∧ i = .int .i64 k ∧ p = .int .i64 pv ∧ 0 ≤ pv ∧ pv ≤ 6 ∧ Hid (pv = H 18 k) ∧ w1 = wr) (fun _ i _ => 32 - (intOf i).toNat)
      case atStart => exact ⟨0, 0, by omega, rfl, rfl, by omega, by omega, Lib.hid (by unfold H; split; rfl; rw [if_pos (by omega)]), rfl⟩
      case round =>
        obtain ⟨k, pv, hk, rfl, rfl, hp0, hp1, HP, rfl⟩ := hrel
        by_cases hlt : k < 32
        · by_cases hit : 19 + (k : Int) / 2 = 18
          · have hq : (19 + (k : Int) / 2 == 18) = true := by simpa using hit
            have hP := H_hit 18 k hlt hit
            have hP1 : Hid (pv + 1 + (k : Int) % 2 = H 18 (k + 1)) := Lib.hid (by rw [hP.1, ← HP.out])
            have hP2 : pv ≤ 3 := by rw [HP.out]; exact hP.2.2
            clear hP hit HP
            go_wp2_with fail
            refine (inode_in k (by omega) (by omega) _).mono ?_
            rintro e w5 ⟨rfl, rfl⟩
            go_wp2_with fail
            go_roundw
            case rel => exact ⟨k + 1, _, by omega, by go_num, rfl, by omega, by omega, hP1, trivial⟩
            case measure => first | (simp [intOf]; done) | (simp [intOf]; omega)
          · have hq : (19 + (k : Int) / 2 == 18) = false := by simpa using hit
            have hP1 : Hid (pv = H 18 (k + 1)) := Lib.hid (by rw [H_miss 18 k hlt hit, ← HP.out])
            clear hit HP
            go_wp2_with fail
            refine (inode_in k (by omega) (by omega) _).mono ?_
            rintro e w5 ⟨rfl, rfl⟩
            go_wp2_with fail
            go_roundw
            case rel => exact ⟨k + 1, pv, by omega, by go_num, rfl, by omega, by omega, hP1, trivial⟩
            case measure => first | (simp [intOf]; done) | (simp [intOf]; omega)
        · obtain rfl : k = 32 := by omega
          obtain rfl : pv = 0 := by rw [HP.out]; unfold H; first | (rw [if_neg (by omega), if_neg (by omega), if_neg (by omega)]) | (rw [if_pos (by omega)])
          clear HP
          go_wp2_with fail
          refine (data_no a0 18 h0 h1 (.inl (by omega)) _).mono ?_
          rintro e w6 ⟨rfl, b6⟩
          have c6 := bl_cell b6 c1
          have B6 := bl_then B1 b6
          clear c1
          go_wp2_with fail
          refine (room_yes a0 h0 h1 _).mono ?_
          rintro e w7 ⟨rfl, b7⟩
          have qe : (a0 - 35 == a0 - 35) = true := by simp
          clear c6
          go_wp2_with fail
          refine (awake_c _).mono ?_
          rintro e w8 ⟨rfl, rfl⟩
          go_wp2
          go_ret
          exact ⟨rfl, bl_then B6 b7⟩

set_option maxRecDepth 100000 in
set_option maxHeartbeats 1000000 in
theorem in_ino (a0 b : Int) (h0 : 39 ≤ a0) (h1 : a0 ≤ 512) (hb0 : 19 ≤ b) (hb1 : b ≤ 34) (w : World) :
    Calls Try.prog 8 #[.int .i64 a0, .int .i64 b] w fun e w' => e = .returned (.bool true) ∧ Below w.heap.size w w' := by
  have q0 : (b == 0) = false := by simp; omega
  have q1 : (b == 1) = false := by simp; omega
  have q18 : (b == 18) = false := by simp; omega
  have qn : decide (b < (0 : Int)) = false := by simp; try omega
  have qa : decide (a0 ≤ (b : Int)) = false := by simp; omega
  go_enter Try.func8, Try.ntmps8
  go_wp2_with fail
  refine (right_yes a0 h0 h1 _).mono ?_
  rintro e w1 ⟨rfl, b1⟩
  have c1 : w1.cell? ⟨w.heap.size, 0, none⟩ = some (.int .i64 a0) := bl_cell b1 (cell_of_row _ _ 0 _ _ _ (heap_alloc_new _ _))
  have B1 := bl_then (bl_alloc (bl_refl w) _) b1
  clear b1
  go_wp2_with fail
  refine (header_c _).mono ?_
  rintro e w4 ⟨rfl, rfl⟩
  go_wp2_with fail
  refine (bitmap_c _).mono ?_
  rintro e w4 ⟨rfl, rfl⟩
  go_wp2_with fail
  go_loopw [6, 7] (fun p i wr => ∃ (k : Nat) (pv : Int), k ≤ 16 ∧ i = .int .i64 k ∧ p = .int .i64 pv ∧ 0 ≤ pv ∧ pv ≤ 2 ∧ Hid (pv = P 0 b k) ∧ w1 = wr) (fun _ i _ => 16 - (intOf i).toNat)
  case atStart => exact ⟨0, 0, by omega, rfl, rfl, by omega, by omega, Lib.hid (by unfold P; rw [if_neg (by omega)]), rfl⟩
  case round =>
    obtain ⟨k, pv, hk, rfl, rfl, hp0, hp1, HP, rfl⟩ := hrel
    by_cases hlt : k < 16
    · by_cases hit : 2 + (k : Int) = b
      · have hq : (2 + (k : Int) == b) = true := by simpa using hit
        have hP := P_hit 0 b k hit
        have hP1 : Hid (pv + 1 = P 0 b (k + 1)) := Lib.hid (by rw [hP.1, ← HP.out])
        have hP2 : pv ≤ 1 := by rw [HP.out, hP.2]; omega
        clear hP hit HP
        go_wp2_with fail
        refine (log_in k (by omega) (by omega) _).mono ?_
        rintro e w5 ⟨rfl, rfl⟩
        go_wp2_with fail
        go_roundw
        case rel => exact ⟨k + 1, pv + 1, by omega, by go_num, rfl, by omega, by omega, hP1, trivial⟩
        case measure => first | (simp [intOf]; done) | (simp [intOf]; omega)
      · have hq : (2 + (k : Int) == b) = false := by simpa using hit
        have hP1 : Hid (pv = P 0 b (k + 1)) := Lib.hid (by rw [P_miss 0 b k hit, ← HP.out])
        clear hit HP
        go_wp2_with fail
        refine (log_in k (by omega) (by omega) _).mono ?_
        rintro e w5 ⟨rfl, rfl⟩
        go_wp2_with fail
        go_roundw
        case rel => exact ⟨k + 1, pv, by omega, by go_num, rfl, by omega, by omega, hP1, trivial⟩
        case measure => first | (simp [intOf]; done) | (simp [intOf]; omega)
    · obtain rfl : k = 16 := by omega
      obtain rfl : pv = 0 := by rw [HP.out]; unfold P; split <;> omega
      clear HP
      simp only [Int.cast_ofNat_Int]
      go_wp2_with fail
      go_loopw [10, 11] (fun p i wr => ∃ (k : Nat) (pv : Int), k ≤ 32 ∧ i = .int .i64 k ∧ p = .int .i64 pv ∧ 0 ≤ pv ∧ pv ≤ 6 ∧ Hid (pv = H b k) ∧ w1 = wr) (fun _ i _ => 32 - (intOf i).toNat)
      case atStart => exact ⟨0, 0, by omega, rfl, rfl, by omega, by omega, Lib.hid (by unfold H; split; rfl; rw [if_pos (by omega)]), rfl⟩
      case round =>
        obtain ⟨k, pv, hk, rfl, rfl, hp0, hp1, HP, rfl⟩ := hrel
        by_cases hlt : k < 32
        · by_cases hit : 19 + (k : Int) / 2 = b
          · have hq : (19 + (k : Int) / 2 == b) = true := by simpa using hit
            have hP := H_hit b k hlt hit
            have hP1 : Hid (pv + 1 + (k : Int) % 2 = H b (k + 1)) := Lib.hid (by rw [hP.1, ← HP.out])
            have hP2 : pv ≤ 3 := by rw [HP.out]; exact hP.2.2
            clear hP hit HP
            go_wp2_with fail
            refine (inode_in k (by omega) (by omega) _).mono ?_
            rintro e w5 ⟨rfl, rfl⟩
            go_wp2_with fail
            go_roundw
            case rel => exact ⟨k + 1, _, by omega, by go_num, rfl, by omega, by omega, hP1, trivial⟩
            case measure => first | (simp [intOf]; done) | (simp [intOf]; omega)
          · have hq : (19 + (k : Int) / 2 == b) = false := by simpa using hit
            have hP1 : Hid (pv = H b (k + 1)) := Lib.hid (by rw [H_miss b k hlt hit, ← HP.out])
            clear hit HP
            go_wp2_with fail
            refine (inode_in k (by omega) (by omega) _).mono ?_
            rintro e w5 ⟨rfl, rfl⟩
            go_wp2_with fail
            go_roundw
            case rel => exact ⟨k + 1, pv, by omega, by go_num, rfl, by omega, by omega, hP1, trivial⟩
            case measure => first | (simp [intOf]; done) | (simp [intOf]; omega)
        · obtain rfl : k = 32 := by omega
          obtain rfl : pv = 3 := by rw [HP.out]; unfold H; first | (rw [if_neg (by omega), if_neg (by omega), if_neg (by omega)]) | (rw [if_pos (by omega)])
          clear HP
          go_wp2_with fail
          refine (data_no a0 b h0 h1 (.inl (by omega)) _).mono ?_
          rintro e w6 ⟨rfl, b6⟩
          have c6 := bl_cell b6 c1
          have B6 := bl_then B1 b6
          clear c1
          go_wp2_with fail
          refine (room_yes a0 h0 h1 _).mono ?_
          rintro e w7 ⟨rfl, b7⟩
          have qe : (a0 - 35 == a0 - 35) = true := by simp
          clear c6
          go_wp2_with fail
          refine (awake_c _).mono ?_
          rintro e w8 ⟨rfl, rfl⟩
          go_wp2
          go_ret
          exact ⟨rfl, bl_then B6 b7⟩

set_option maxRecDepth 100000 in
set_option maxHeartbeats 1000000 in
theorem in_data (a0 b : Int) (h0 : 39 ≤ a0) (h1 : a0 ≤ 512) (hb0 : 35 ≤ b) (hb1 : b < a0) (w : World) :
    Calls Try.prog 8 #[.int .i64 a0, .int .i64 b] w fun e w' => e = .returned (.bool true) ∧ Below w.heap.size w w' := by
  have q0 : (b == 0) = false := by simp; omega
  have q1 : (b == 1) = false := by simp; omega
  have q18 : (b == 18) = false := by simp; omega
  have qn : decide (b < (0 : Int)) = false := by simp; try omega
  have qa : decide (a0 ≤ (b : Int)) = false := by simp; omega
  go_enter Try.func8, Try.ntmps8
  go_wp2_with fail
  refine (right_yes a0 h0 h1 _).mono ?_
  rintro e w1 ⟨rfl, b1⟩
  have c1 : w1.cell? ⟨w.heap.size, 0, none⟩ = some (.int .i64 a0) := bl_cell b1 (cell_of_row _ _ 0 _ _ _ (heap_alloc_new _ _))
  have B1 := bl_then (bl_alloc (bl_refl w) _) b1
  clear b1
  go_wp2_with fail
  refine (header_c _).mono ?_
  rintro e w4 ⟨rfl, rfl⟩
  go_wp2_with fail
  refine (bitmap_c _).mono ?_
  rintro e w4 ⟨rfl, rfl⟩
  go_wp2_with fail
  go_loopw [6, 7] (fun p i wr => ∃ (k : Nat) (pv : Int), k ≤ 16 ∧ i = .int .i64 k ∧ p = .int .i64 pv ∧ 0 ≤ pv ∧ pv ≤ 2 ∧ Hid (pv = P 0 b k) ∧ w1 = wr) (fun _ i _ => 16 - (intOf i).toNat)
  case atStart => exact ⟨0, 0, by omega, rfl, rfl, by omega, by omega, Lib.hid (by unfold P; rw [if_neg (by omega)]), rfl⟩
  case round =>
    obtain ⟨k, pv, hk, rfl, rfl, hp0, hp1, HP, rfl⟩ := hrel
    by_cases hlt : k < 16
    · by_cases hit : 2 + (k : Int) = b
      · have hq : (2 + (k : Int) == b) = true := by simpa using hit
        have hP := P_hit 0 b k hit
        have hP1 : Hid (pv + 1 = P 0 b (k + 1)) := Lib.hid (by rw [hP.1, ← HP.out])
        have hP2 : pv ≤ 1 := by rw [HP.out, hP.2]; omega
        clear hP hit HP
        go_wp2_with fail
        refine (log_in k (by omega) (by omega) _).mono ?_
        rintro e w5 ⟨rfl, rfl⟩
        go_wp2_with fail
        go_roundw
        case rel => exact ⟨k + 1, pv + 1, by omega, by go_num, rfl, by omega, by omega, hP1, trivial⟩
        case measure => first | (simp [intOf]; done) | (simp [intOf]; omega)
      · have hq : (2 + (k : Int) == b) = false := by simpa using hit
        have hP1 : Hid (pv = P 0 b (k + 1)) := Lib.hid (by rw [P_miss 0 b k hit, ← HP.out])
        clear hit HP
        go_wp2_with fail
        refine (log_in k (by omega) (by omega) _).mono ?_
        rintro e w5 ⟨rfl, rfl⟩
        go_wp2_with fail
        go_roundw
        case rel => exact ⟨k + 1, pv, by omega, by go_num, rfl, by omega, by omega, hP1, trivial⟩
        case measure => first | (simp [intOf]; done) | (simp [intOf]; omega)
    · obtain rfl : k = 16 := by omega
      obtain rfl : pv = 0 := by rw [HP.out]; unfold P; split <;> omega
      clear HP
      simp only [Int.cast_ofNat_Int]
      go_wp2_with fail
      go_loopw [10, 11] (fun p i wr => ∃ (k : Nat) (pv : Int), k ≤ 32 ∧ i = .int .i64 k ∧ p = .int .i64 pv ∧ 0 ≤ pv ∧ pv ≤ 6 ∧ Hid (pv = H b k) ∧ w1 = wr) (fun _ i _ => 32 - (intOf i).toNat)
      case atStart => exact ⟨0, 0, by omega, rfl, rfl, by omega, by omega, Lib.hid (by unfold H; split; rfl; rw [if_pos (by omega)]), rfl⟩
      case round =>
        obtain ⟨k, pv, hk, rfl, rfl, hp0, hp1, HP, rfl⟩ := hrel
        by_cases hlt : k < 32
        · by_cases hit : 19 + (k : Int) / 2 = b
          · have hq : (19 + (k : Int) / 2 == b) = true := by simpa using hit
            have hP := H_hit b k hlt hit
            have hP1 : Hid (pv + 1 + (k : Int) % 2 = H b (k + 1)) := Lib.hid (by rw [hP.1, ← HP.out])
            have hP2 : pv ≤ 3 := by rw [HP.out]; exact hP.2.2
            clear hP hit HP
            go_wp2_with fail
            refine (inode_in k (by omega) (by omega) _).mono ?_
            rintro e w5 ⟨rfl, rfl⟩
            go_wp2_with fail
            go_roundw
            case rel => exact ⟨k + 1, _, by omega, by go_num, rfl, by omega, by omega, hP1, trivial⟩
            case measure => first | (simp [intOf]; done) | (simp [intOf]; omega)
          · have hq : (19 + (k : Int) / 2 == b) = false := by simpa using hit
            have hP1 : Hid (pv = H b (k + 1)) := Lib.hid (by rw [H_miss b k hlt hit, ← HP.out])
            clear hit HP
            go_wp2_with fail
            refine (inode_in k (by omega) (by omega) _).mono ?_
            rintro e w5 ⟨rfl, rfl⟩
            go_wp2_with fail
            go_roundw
            case rel => exact ⟨k + 1, pv, by omega, by go_num, rfl, by omega, by omega, hP1, trivial⟩
            case measure => first | (simp [intOf]; done) | (simp [intOf]; omega)
        · obtain rfl : k = 32 := by omega
          obtain rfl : pv = 0 := by rw [HP.out]; unfold H; first | (rw [if_neg (by omega), if_neg (by omega), if_neg (by omega)]) | (rw [if_pos (by omega)])
          clear HP
          go_wp2_with fail
          refine (data_yes a0 b h0 h1 hb0 hb1 _).mono ?_
          rintro e w6 ⟨rfl, b6⟩
          have c6 := bl_cell b6 c1
          have B6 := bl_then B1 b6
          clear c1
          go_wp2_with fail
          refine (room_yes a0 h0 h1 _).mono ?_
          rintro e w7 ⟨rfl, b7⟩
          have qe : (a0 - 35 == a0 - 35) = true := by simp
          clear c6
          go_wp2_with fail
          refine (awake_c _).mono ?_
          rintro e w8 ⟨rfl, rfl⟩
          go_wp2
          go_ret
          exact ⟨rfl, bl_then B6 b7⟩

theorem walk (a0 a1 : Int) (w : World) (w0 : (Lit.int .i64 a0).wf = true) (w1 : (Lit.int .i64 a1).wf = true) :
    Calls Try.prog 8 #[.int .i64 a0, .int .i64 a1] w fun e w' => e = .returned (.bool true) ∧ Below w.heap.size w w' := by
  by_cases h : a0 < 39 ∨ 512 < a0
  · exact wrong a0 a1 h w
  · have h0 : 39 ≤ a0 := by omega
    have h1 : a0 ≤ 512 := by omega
    by_cases h2 : a1 < 0 ∨ a0 ≤ a1
    · exact outside a0 a1 h0 h1 h2 w
    · by_cases c0 : a1 = 0
      · subst c0; exact in_zero a0 h0 h1 w
      · by_cases c1 : a1 = 1
        · subst c1; exact in_one a0 h0 h1 w
        · by_cases c2 : a1 ≤ 17
          · exact in_log a0 a1 h0 h1 (by omega) c2 w
          · by_cases c3 : a1 = 18
            · subst c3; exact in_map a0 h0 h1 w
            · by_cases c4 : a1 ≤ 34
              · exact in_ino a0 a1 h0 h1 (by omega) c4 w
              · exact in_data a0 a1 h0 h1 (by omega) (by omega) w
end Go.Proofs.Ytaefaneecdploaa.SuperParts
