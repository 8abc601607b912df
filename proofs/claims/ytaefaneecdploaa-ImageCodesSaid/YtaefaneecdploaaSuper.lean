/- Contracts of package super's plain functions. -/
import Derived.Test.YtaefaneecdploaaProg
import Derived.Test.YtaefaneecdploaaMath
set_option linter.unusedVariables false
namespace Go.Proofs.Ytaefaneecdploaa.Super
open Go.RowKit Go.Proofs.Ytaefaneecdploaa.Base Go.Proofs.Ytaefaneecdploaa.Math

theorem right_yes (s : Int) (h0 : 39 ≤ s) (h1 : s ≤ 512) (w : World) :
    Calls Try.prog 32 #[.agg #[.int .i64 s]] w fun e w' => e = .returned (.bool true) ∧ Below w.heap.size w w' := by
  go_enter Try.func32, Try.ntmps32
  go_wp2
  go_ret
  exact ⟨rfl, bl_alloc (bl_refl _) _⟩
theorem right_no (s : Int) (h : s < 39 ∨ 512 < s) (w : World) :
    Calls Try.prog 32 #[.agg #[.int .i64 s]] w fun e w' => e = .returned (.bool false) ∧ Below w.heap.size w w' := by
  by_cases h1 : s < 39
  · clear h
    have q : decide (39 ≤ s) = false := by simp; omega
    go_enter Try.func32, Try.ntmps32
    go_wp2
    go_ret
    exact ⟨rfl, bl_alloc (bl_refl _) _⟩
  · have h2 : 512 < s := by omega
    clear h
    have q : decide (39 ≤ s) = true := by simp; omega
    have q2 : decide (s ≤ 512) = false := by simp; omega
    go_enter Try.func32, Try.ntmps32
    go_wp2
    go_ret
    exact ⟨rfl, bl_alloc (bl_refl _) _⟩
theorem room_yes (s : Int) (h0 : 39 ≤ s) (h1 : s ≤ 512) (w : World) :
    Calls Try.prog 33 #[.agg #[.int .i64 s]] w fun e w' => e = .returned (.int .i64 (s - 35)) ∧ Below w.heap.size w w' := by
  go_enter Try.func33, Try.ntmps33
  go_wp2_with fail
  refine (right_yes s h0 h1 _).mono ?_
  rintro e w1 ⟨rfl, b1⟩
  have c1 : w1.cell? ⟨w.heap.size, 0, none⟩ = some (.int .i64 s) := bl_cell b1 (cell_of_row _ _ 0 _ _ _ (heap_alloc_new _ _))
  go_wp2
  go_ret
  exact ⟨rfl, bl_then (bl_alloc (bl_refl _) _) b1⟩
theorem room_no (s : Int) (h : s < 39 ∨ 512 < s) (w : World) :
    Calls Try.prog 33 #[.agg #[.int .i64 s]] w fun e w' => e = .returned (.int .i64 0) ∧ Below w.heap.size w w' := by
  go_enter Try.func33, Try.ntmps33
  go_wp2_with fail
  refine (right_no s h _).mono ?_
  rintro e w1 ⟨rfl, b1⟩
  clear h
  go_wp2
  go_ret
  exact ⟨rfl, bl_then (bl_alloc (bl_refl _) _) b1⟩
theorem data_wrong (s b : Int) (h : s < 39 ∨ 512 < s) (w : World) :
    Calls Try.prog 34 #[.agg #[.int .i64 s], .int .i64 b] w fun e w' => e = .returned (.bool false) ∧ Below w.heap.size w w' := by
  go_enter Try.func34, Try.ntmps34
  go_wp2_with fail
  refine (right_no s h _).mono ?_
  rintro e w1 ⟨rfl, b1⟩
  clear h
  go_wp2
  go_ret
  exact ⟨rfl, bl_then (bl_alloc (bl_refl _) _) b1⟩
theorem data_yes (s b : Int) (h0 : 39 ≤ s) (h1 : s ≤ 512) (h2 : 35 ≤ b) (h3 : b < s) (w : World) :
    Calls Try.prog 34 #[.agg #[.int .i64 s], .int .i64 b] w fun e w' => e = .returned (.bool true) ∧ Below w.heap.size w w' := by
  have q : decide (35 ≤ b) = true := by simp; omega
  have q2 : decide (b < s) = true := by simp; omega
  go_enter Try.func34, Try.ntmps34
  go_wp2_with fail
  refine (right_yes s h0 h1 _).mono ?_
  rintro e w1 ⟨rfl, b1⟩
  have c1 : w1.cell? ⟨w.heap.size, 0, none⟩ = some (.int .i64 s) := bl_cell b1 (cell_of_row _ _ 0 _ _ _ (heap_alloc_new _ _))
  go_wp2
  go_ret
  exact ⟨rfl, bl_then (bl_alloc (bl_refl _) _) b1⟩
theorem data_no (s b : Int) (h0 : 39 ≤ s) (h1 : s ≤ 512) (h2 : b < 35 ∨ s ≤ b) (w : World) :
    Calls Try.prog 34 #[.agg #[.int .i64 s], .int .i64 b] w fun e w' => e = .returned (.bool false) ∧ Below w.heap.size w w' := by
  by_cases h3 : b < 35
  · clear h2
    have q : decide (35 ≤ b) = false := by simp; omega
    go_enter Try.func34, Try.ntmps34
    go_wp2_with fail
    refine (right_yes s h0 h1 _).mono ?_
    rintro e w1 ⟨rfl, b1⟩
    go_wp2
    go_ret
    exact ⟨rfl, bl_then (bl_alloc (bl_refl _) _) b1⟩
  · have h4 : s ≤ b := by omega
    clear h2
    have q : decide (35 ≤ b) = true := by simp; omega
    have q2 : decide (b < s) = false := by simp; omega
    go_enter Try.func34, Try.ntmps34
    go_wp2_with fail
    refine (right_yes s h0 h1 _).mono ?_
    rintro e w1 ⟨rfl, b1⟩
    have c1 : w1.cell? ⟨w.heap.size, 0, none⟩ = some (.int .i64 s) := bl_cell b1 (cell_of_row _ _ 0 _ _ _ (heap_alloc_new _ _))
    go_wp2
    go_ret
    exact ⟨rfl, bl_then (bl_alloc (bl_refl _) _) b1⟩
theorem log_in (i : Int) (h0 : 0 ≤ i) (h1 : i < 16) (w : World) :
    Calls Try.prog 29 #[.int .i64 i] w fun e w' => e = .returned (.tuple #[.int .i64 (2 + i), .bool true]) ∧ w = w' := by
  go_enter Try.func29, Try.ntmps29
  go_wp2
  go_ret2
  exact ⟨rfl, rfl⟩
theorem header_c (w : World) : Calls Try.prog 35 #[] w fun e w' => e = .returned (.int .i64 1) ∧ w = w' := by
  go_enter Try.func35, Try.ntmps35
  go_wp2
  go_ret
  exact ⟨rfl, rfl⟩
theorem bitmap_c (w : World) : Calls Try.prog 36 #[] w fun e w' => e = .returned (.int .i64 18) ∧ w = w' := by
  go_enter Try.func36, Try.ntmps36
  go_wp2
  go_ret
  exact ⟨rfl, rfl⟩
theorem inode_in (i : Int) (h0 : 0 ≤ i) (h1 : i < 32) (w : World) :
    Calls Try.prog 30 #[.int .i64 i] w fun e w' => e = .returned (.tuple #[.int .i64 (19 + i / 2), .int .i64 (i % 2 * 32), .bool true]) ∧ w = w' := by
  go_enter Try.func30, Try.ntmps30
  go_wp2_with fail
  refine (bitmap_c _).mono ?_
  rintro e w1 ⟨rfl, rfl⟩
  go_wp2
  go_ret3
  exact ⟨rfl, rfl⟩
theorem awake_c (w : World) : Calls Try.prog 31 #[] w fun e w' => e = .returned (.bool true) ∧ w = w' := by
  go_enter Try.func31, Try.ntmps31
  go_wp2_with fail
  refine (inode_in 3 (by omega) (by omega) _).mono ?_
  rintro e w1 ⟨rfl, rfl⟩
  rw [show (19 : Int) + 3 / 2 = 20 from rfl, show (3 : Int) % 2 * 32 = 32 from rfl]
  go_wp2_with fail
  refine (bitmap_c _).mono ?_
  rintro e w1 ⟨rfl, rfl⟩
  go_wp2_with fail
  refine (header_c _).mono ?_
  rintro e w1 ⟨rfl, rfl⟩
  go_wp2
  go_ret
  exact ⟨rfl, rfl⟩
end Go.Proofs.Ytaefaneecdploaa.Super
