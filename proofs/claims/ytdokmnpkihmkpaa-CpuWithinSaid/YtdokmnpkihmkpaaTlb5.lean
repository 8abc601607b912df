/- The chapter's example of package tlb, and nil ones. -/
import Derived.Test.YtdokmnpkihmkpaaTlb4
set_option linter.unusedVariables false
namespace Go.Proofs.Ytdokmnpkihmkpaa.Tlb5
open Go.RowKit Go.Proofs.Ytdokmnpkihmkpaa.Base Go.Proofs.Ytdokmnpkihmkpaa.Row Go.Proofs.Ytdokmnpkihmkpaa.App Go.Proofs.Ytdokmnpkihmkpaa.Multi Go.Proofs.Ytdokmnpkihmkpaa.TlbMath Go.Proofs.Ytdokmnpkihmkpaa.Tlb Go.Proofs.Ytdokmnpkihmkpaa.Tlb2 Go.Proofs.Ytdokmnpkihmkpaa.Tlb3 Go.Proofs.Ytdokmnpkihmkpaa.Tlb4

set_option maxRecDepth 100000 in
theorem entry_c (x : En) (w : World) :
    Calls Try.prog 31 #[.agg (ea x)] w fun r w' => r = .returned (.agg (ea x)) ∧ Below w.heap.size w w' := by
  obtain ⟨a, b, c, d⟩ := x
  simp only [ea]
  go_enter Try.func31, Try.ntmps31
  go_wp2
  refine bodyPost_ret (v := .agg #[.int .i64 a, .int .i64 b, .int .i64 c, .bool d]) (by simp [results, Try.results31, go_sem]) rfl ⟨rfl, ?_⟩
  exact bl_alloc (bl_alloc (bl_refl w) _) _

set_option maxRecDepth 100000 in
theorem put_nil (e : En) (w : World) :
    Calls Try.prog 30 #[.pointer none, .agg (ea e)] w fun r w' => r = .returned (.tuple #[]) ∧ Below w.heap.size w w' := by
  go_enter Try.func30, Try.ntmps30
  go_wp2_with (first
    | ((with_reducible refine wl_box rfl 52 _ rfl (ea e) rfl ?_); intro w1 k1 b1 s1))
  exact bodyPost_ret (results_none rfl _ _ _) rfl ⟨rfl, b1⟩
set_option maxRecDepth 100000 in
theorem get_nil (s p : Int) (w : World) :
    Calls Try.prog 39 #[.pointer none, .int .i64 s, .int .i64 p] w fun r w' => r = .returned (.tuple #[.agg (ea ez), .bool false]) ∧ Below w.heap.size w w' := by
  go_enter Try.func39, Try.ntmps39
  go_wp2_with (first
    | ((with_reducible refine wl_alloc rfl 52 rfl (ea ez) new_e ?_); intro w1 k1 b1 s1)
    | ((refine wl_store rfl 52 _ _ rfl w.heap.size rfl (ea ez) rfl 52 (ea ez) k1 (size_ea _) rfl (ea_one _) ?_); intro w3 k3 g3 s3))
  refine bodyPost_ret (res_cell_tmp rfl _ _ _ w.heap.size 52 (ea ez) _ rfl k3 Try.underlying52 rfl (size_ea _)) rfl ⟨rfl, ?_⟩
  exact below_grown b1 b1.size g3 (Nat.le_refl _)
set_option maxRecDepth 100000 in
theorem drop_nil (f : Value) (w : World) :
    Calls Try.prog 62 #[.pointer none, f] w fun r w' => r = .returned (.int .i64 0) ∧ w = w' := by
  go_enter Try.func62, Try.ntmps62
  go_wp2
  go_ret
  exact ⟨rfl, rfl⟩
set_option maxRecDepth 100000 in
theorem frame_nil (a : Int) (w : World) :
    Calls Try.prog 33 #[.pointer none, .int .i64 a] w fun r w' => r = .returned (.int .i64 0) ∧ Below w.heap.size w w' := by
  go_enter Try.func33, Try.ntmps33
  go_wp2_with fail
  refine (drop_nil _ _).mono ?_
  rintro r w1 ⟨rfl, rfl⟩
  go_wp2
  go_ret
  exact ⟨rfl, bl_alloc (bl_refl w) _⟩
set_option maxRecDepth 100000 in
theorem space_nil (a : Int) (w : World) :
    Calls Try.prog 37 #[.pointer none, .int .i64 a] w fun r w' => r = .returned (.int .i64 0) ∧ Below w.heap.size w w' := by
  go_enter Try.func37, Try.ntmps37
  go_wp2_with fail
  refine (drop_nil _ _).mono ?_
  rintro r w1 ⟨rfl, rfl⟩
  go_wp2
  go_ret
  exact ⟨rfl, bl_alloc (bl_refl w) _⟩
set_option maxRecDepth 100000 in
theorem page_nil (a b : Int) (w : World) :
    Calls Try.prog 38 #[.pointer none, .int .i64 a, .int .i64 b] w fun r w' => r = .returned (.int .i64 0) ∧ Below w.heap.size w w' := by
  go_enter Try.func38, Try.ntmps38
  go_wp2_with fail
  refine (drop_nil _ _).mono ?_
  rintro r w1 ⟨rfl, rfl⟩
  go_wp2
  go_ret
  exact ⟨rfl, bl_alloc (bl_alloc (bl_refl w) _) _⟩
set_option maxRecDepth 100000 in
theorem all_nil (w : World) :
    Calls Try.prog 32 #[.pointer none] w fun r w' => r = .returned (.slice none 0 0) ∧ w = w' := by
  go_enter Try.func32, Try.ntmps32
  go_wp2
  go_ret
  exact ⟨rfl, rfl⟩
set_option maxRecDepth 100000 in
theorem misses_nil (w : World) :
    Calls Try.prog 42 #[.pointer none] w fun r w' => r = .returned (.int .i64 0) ∧ w = w' := by
  go_enter Try.func42, Try.ntmps42
  go_wp2
  go_ret
  exact ⟨rfl, rfl⟩

/-- The example's entries. -/
def aw : Nat → List En
  | 0 => []
  | k + 1 => put (aw k) ⟨0, ((k + 1 : Nat) : Int), 3, false⟩
theorem aw_uni : ∀ k, Uni (aw k)
  | 0 => uni_nil
  | k + 1 => put_uni (aw_uni k) _
theorem tc_zero : tc [] 0 = t8 (List.replicate 8 ez) 0 0 := rfl
theorem zero_t : Try.prog.built 55 [] = some (tc [] 0) := by kernel_rfl
theorem put_at (g : Nat) (k : Nat) (w : World) (h : Tl w g (aw k) 0) :
    Calls Try.prog 30 #[.pointer (some ⟨g, 0, none⟩), .agg #[.int .i64 0, .int .i64 ((k : Int) + 1), .int .i64 3, .bool false]] w fun r w' => r = .returned (.tuple #[]) ∧ Tl w' g (aw (k + 1)) 0 ∧ w.grownBy w' (some g) := by
  have := put_c g (aw k) 0 ⟨0, ((k + 1 : Nat) : Int), 3, false⟩ w h (aw_uni k)
  exact this
theorem zero_cells (v : Value) (h : v.cells = tc [] 0) : v.cells = tc [] 0 := h
set_option maxRecDepth 100000 in
set_option maxHeartbeats 4000000 in
theorem awake_c (w : World) : Calls Try.prog 34 #[] w fun e w' => e = .returned (.bool true) ∧ Below w.heap.size w w' := by
  have hP := Lib.hid put_at
  have hG1 := Lib.hid (fun g w h => get_c g (aw 9) 0 0 1 w h (aw_uni 9).1)
  rw [show getE (aw 9) 0 1 = ez from by decide, show getB (aw 9) 0 1 = false from by decide, show getM (aw 9) 0 1 0 = 1 from by decide +kernel] at hG1
  have hG2 := Lib.hid (fun g w h => get_c g (aw 9) 1 0 2 w h (aw_uni 9).1)
  rw [show getE (aw 9) 0 2 = ⟨0, 2, 3, false⟩ from by decide, show getB (aw 9) 0 2 = true from by decide, show getM (aw 9) 0 2 1 = 1 from by decide +kernel] at hG2
  have hD := Lib.hid (fun g w h => frame_c g (aw 9) 1 3 w h (aw_uni 9).1)
  rw [show without (aw 9) 0 3 0 = [] from by decide, show ((aw 9).length : Int) - (([] : List En).length : Int) = 8 from by decide] at hD
  have hA := Lib.hid (fun g w h => all_c g [] 1 w h (by simp))
  go_enter Try.func34, Try.ntmps34
  go_wp2_with (first
    | (with_reducible refine wl_build0 rfl 55 rfl (tc [] 0) zero_t ?_)
    | ((refine wl_box rfl 55 _ rfl (tc [] 0) rfl ?_); intro w1 k1 b1 s1))
  go_loopw [2] (fun i wr => ∃ (k : Nat), k ≤ 9 ∧ i = .int .i64 ((k : Int) + 1) ∧ Tl wr w.heap.size (aw k) 0 ∧ Below w.heap.size w wr) (fun i _ => 10 - (intOf i).toNat)
  case atStart => exact ⟨0, by omega, rfl, k1, b1⟩
  case round =>
    clear k1 b1
    obtain ⟨k, hk, rfl, HT, HB⟩ := hrel
    obtain ⟨wo, rfl⟩ : ∃ wo : World, wo = wr := ⟨_, rfl⟩
    by_cases hlt : k < 9
    · have hq : decide ((k : Int) + 1 < 10) = true := by simp; omega
      have h1 := Lib.hid (hP.out w.heap.size k wo HT)
      go_wp2_with fail
      refine (h1.out).mono ?_
      rintro r w2 ⟨rfl, h2, g2⟩
      have B2 := below_grown HB HB.size g2 (Nat.le_refl _)
      go_wp2_with fail
      go_roundw
      case rel => exact ⟨k + 1, by omega, by go_num, h2, B2⟩
      case measure => first | (simp [intOf]; done) | (simp [intOf]; omega)
    · obtain rfl : k = 9 := by omega
      have hq : decide (((9 : Nat) : Int) + 1 < 10) = false := by simp
      go_wp2_with fail
      refine (hG1.out _ _ HT).mono ?_
      rintro r w2 ⟨rfl, h2, g2⟩
      have B2 := below_grown HB HB.size g2 (Nat.le_refl _)
      go_wp2_with (first
        | ((with_reducible refine wl_alloc rfl 52 rfl (ea ez) new_e ?_); intro w3 k3 b3 s3)
        | ((refine wl_store rfl 52 _ _ rfl w2.heap.size rfl (ea ez) rfl 52 (ea ez) k3 (size_ea _) rfl (ea_one _) ?_); intro w4 k4 g4 s4))
      have z2 := B2.size
      have zl := h2.lt
      have h4 := (Blk.below h2 b3).grown g4 (fun e => by injection e with e; omega)
      have B4 := below_grown (bl_then B2 b3) (by have := b3.size; omega) g4 z2
      refine (hG2.out _ _ h4).mono ?_
      rintro r w5 ⟨rfl, h5, g5⟩
      have B5 := below_grown B4 B4.size g5 (Nat.le_refl _)
      go_wp2_with (first
        | ((with_reducible refine wl_alloc rfl 52 rfl (ea ez) new_e ?_); intro w6 k6 b6 s6)
        | ((refine wl_store rfl 52 _ _ rfl w5.heap.size rfl (ea ⟨0, 2, 3, false⟩) rfl 52 (ea ez) k6 (size_ea _) rfl (ea_one _) ?_); intro w7 k7 g7 s7; have c7 := k7.cellv 2 (.int .i64 3) rfl))
      have z5 := B5.size
      have zl5 := h5.lt
      have h7 := (Blk.below h5 b6).grown g7 (fun e => by injection e with e; omega)
      have B7 := below_grown (bl_then B5 b6) (by have := b6.size; omega) g7 z5
      refine (hD.out _ _ h7).mono ?_
      rintro r w8 ⟨rfl, h8, g8⟩
      have B8 := below_grown B7 B7.size g8 (Nat.le_refl _)
      go_wp2_with fail
      refine (hA.out _ _ h8).mono ?_
      rintro r w9 ⟨⟨A1, c1, rfl, _⟩, b9⟩
      go_wp2
      go_ret
      exact ⟨rfl, bl_then B8 b9⟩
end Go.Proofs.Ytdokmnpkihmkpaa.Tlb5
