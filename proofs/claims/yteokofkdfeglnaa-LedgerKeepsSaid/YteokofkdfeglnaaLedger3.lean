/- Contracts of package ledger (Close). -/
import Derived.Test.YteokofkdfeglnaaLedger2
set_option linter.unusedVariables false
namespace Go.Proofs.Yteokofkdfeglnaa.Ledger3
open Go.RowKit Go.Proofs.Yteokofkdfeglnaa.Base Go.Proofs.Yteokofkdfeglnaa.Row Go.Proofs.Yteokofkdfeglnaa.Ledger Go.Proofs.Yteokofkdfeglnaa.Ledger2

theorem size_row : (Try.prog.info? 22).map (·.size) = some 4 := by kernel_rfl
theorem size_r : (Try.prog.info? 77).map (·.size) = some 8 := by kernel_rfl
def zr : Array Value := #[.int .i64 0, .int .i64 0, .int .i64 0, .int .i64 0, .int .i64 0, .int .i64 0, .int .i64 0, .int .i64 0]
theorem zero_r : Try.prog.built 77 [] = some zr := by kernel_rfl
theorem zr_one : ∀ v ∈ zr, v.oneCell' = true := by
  intro v hv
  simp [zr] at hv
  subst hv
  rfl
theorem lay_z8 (m : Int) (L : List Int) (e : Nat) : lay (lc m L) (2 + e * 8) zr.toList = lc m (z8 L e) := by
  simp only [zr, lay, Nat.add_assoc, lc_set]
  simp only [z8, Nat.reduceAdd]
def q4 (L : List Int) (e : Nat) : List Value := [.int .i64 (qat L e 0), .int .i64 (qat L e 1), .int .i64 (qat L e 2), .int .i64 (qat L e 3)]
theorem q4_in (m : Int) (L : List Int) (e : Nat) (hl : L.length = 128) (he : e < 16) : ∀ j v, (q4 L e)[j]? = some v → (lc m L)[2 + e * 8 + j]? = some v := by
  intro j v hv
  match j, hv with
  | 0, hv => injection hv with hv; subst hv; exact lc_q m L e 0 hl he (by omega)
  | 1, hv => injection hv with hv; subst hv; exact lc_q m L e 1 hl he (by omega)
  | 2, hv => injection hv with hv; subst hv; exact lc_q m L e 2 hl he (by omega)
  | 3, hv => injection hv with hv; subst hv; exact lc_q m L e 3 hl he (by omega)

set_option maxRecDepth 100000 in
set_option maxHeartbeats 4000000 in
theorem close_yes (g e t : Nat) (L : List Int) (w : World) (h : Lg w g 0 L) (hl : L.length = 128) (he : e < 16) (ht : t < 16) (hne : ¬ e = t) :
    Calls Try.prog 33 #[.pointer (some ⟨g, 0, none⟩), .int .i64 e, .int .i64 t] w fun r w' => r = .returned (.int .i64 0) ∧ Lg w' g 0 (z8 (clk L e t 4) e) ∧ w.grownBy w' (some g) := by
  have hm1 : lmay e 0 0 = true := by unfold lmay; rw [decide_eq_true_eq]; omega
  have hm2 : lmay t 0 0 = true := by unfold lmay; rw [decide_eq_true_eq]; omega
  have hM1 := Lib.hid (fun w => may_c e 0 0 w)
  have hM2 := Lib.hid (fun w => may_c t 0 0 w)
  rw [hm1] at hM1
  rw [hm2] at hM2
  clear hm1 hm2
  have i1 : (e : Int) < 16 := by omega
  have i3 : (t : Int) < 16 := by omega
  have i4 : ((e : Int) == (t : Int)) = false := by simp; omega
  go_enter_defers Try.func33, Try.ntmps33
  go_wp2_with fail
  refine (hM1.out _).mono ?_
  rintro r w1 ⟨rfl, rfl⟩
  go_wp2_with fail
  refine (hM2.out _).mono ?_
  rintro r w1 ⟨rfl, rfl⟩
  go_wp2_with fail
  refine (lock_c g L w h).mono ?_
  rintro r w1 ⟨rfl, k1, g1⟩
  have c0 : w1.cell? ⟨g, 2 + e * 8, none⟩ = some (.int .i64 (qat L e 0)) := Blk.cellv k1 _ _ (lc_q 1 L e 0 hl he (by omega))
  have c1 : w1.cell? ⟨g, 2 + e * 8 + 1, none⟩ = some (.int .i64 (qat L e 1)) := Blk.cellv k1 _ _ (lc_q 1 L e 1 hl he (by omega))
  have c2 : w1.cell? ⟨g, 2 + e * 8 + 2, none⟩ = some (.int .i64 (qat L e 2)) := Blk.cellv k1 _ _ (lc_q 1 L e 2 hl he (by omega))
  have c3 : w1.cell? ⟨g, 2 + e * 8 + 3, none⟩ = some (.int .i64 (qat L e 3)) := Blk.cellv k1 _ _ (lc_q 1 L e 3 hl he (by omega))
  go_wp2_with fail
  clear c0 c1 c2 c3
  go_loopw [40] (fun i wr => ∃ (j : Nat), j ≤ 4 ∧ i = .int .i64 j ∧ Lg wr g 1 (clk L e t j) ∧ w1.grownBy wr (some g)) (fun i _ => 4 - (intOf i).toNat)
  case atStart => exact ⟨0, by omega, rfl, k1, World.grownBy.refl _ _⟩
  case round =>
    obtain ⟨j, hj, rfl, KV, HG⟩ := hrel
    obtain ⟨wo, rfl⟩ : ∃ wo : World, wo = wr := ⟨_, rfl⟩
    clear k1
    by_cases hlt : j < 4
    · have hcases : j = 0 ∨ j = 1 ∨ j = 2 ∨ j = 3 := by omega
      clear hj hlt
      obtain rfl | rfl | rfl | rfl := hcases
      · have hCL : (clk L e t 0).length = 128 := by rw [clk_len, hl]
        have cq3 : wo.cell? ⟨g, 2 + t * 8, none⟩ = some (.int .i64 (qat (clk L e t 0) t 0)) := Blk.cellv KV _ _ (lc_q 1 (clk L e t 0) t 0 hCL ht (by omega))
        have hsz : 2 + t * 8 < (lc 1 (clk L e t 0)).size := by rw [lc_size, hCL]; omega
        have hi : ∀ (p q r s : Value) (W : World), (Instr.index 22 (.agg #[p, q, r, s]) (.int .i64 0)).run Try.prog W = .ok p W := fun _ _ _ _ _ => by kernel_rfl
        go_wp2
        refine wp_region_still_tail 16 (by kernel_rfl) (by kernel_rfl) ?_
        simp only [List.take_succ_cons, List.take_zero, List.drop_succ_cons, List.drop_zero]
        repeat still_step
        refine wpStill_nil ?_
        change wpList _ _ _ _ _ wo.drew
        have k3d : Lg wo.drew g 1 (clk L e t 0) := KV
        refine wl_set (by rfl) 3 _ _ (by rfl) g (2 + t * 8) (by rfl) (.int .i64 (wrap64 (qat (clk L e t 0) t 0 + qat L e 0))) (by show Value.int .i64 (IntKind.i64.wrap (qat (clk L e t 0) t 0 + qat L e 0)) = _; rw [wrap_eq]) rfl 80 (lc 1 (clk L e t 0)) k3d size_int hsz ?_
        intro w4 k4 g4 s4
        have k5 : Lg w4 g 1 (clk L e t (0 + 1)) := (congrArg (fun a => Blk w4 g 80 a) (lc_set8 1 (clk L e t 0) t 0 _)).mp k4
        clear cq3 hsz k4
        go_wp2
        go_roundw
        case rel => exact ⟨0 + 1, by omega, by go_num, k5, World.grownBy.trans HG (World.grownBy.trans (grown_drew _ _) g4)⟩
        case measure => first | (simp [intOf]; done) | (simp [intOf]; omega)
      · have hCL : (clk L e t 1).length = 128 := by rw [clk_len, hl]
        have cq3 : wo.cell? ⟨g, 2 + t * 8 + 1, none⟩ = some (.int .i64 (qat (clk L e t 1) t 1)) := Blk.cellv KV _ _ (lc_q 1 (clk L e t 1) t 1 hCL ht (by omega))
        have hsz : 2 + t * 8 + 1 < (lc 1 (clk L e t 1)).size := by rw [lc_size, hCL]; omega
        have hi : ∀ (p q r s : Value) (W : World), (Instr.index 22 (.agg #[p, q, r, s]) (.int .i64 1)).run Try.prog W = .ok q W := fun _ _ _ _ _ => by kernel_rfl
        go_wp2
        refine wp_region_still_tail 16 (by kernel_rfl) (by kernel_rfl) ?_
        simp only [List.take_succ_cons, List.take_zero, List.drop_succ_cons, List.drop_zero]
        repeat still_step
        refine wpStill_nil ?_
        change wpList _ _ _ _ _ wo.drew
        have k3d : Lg wo.drew g 1 (clk L e t 1) := KV
        refine wl_set (by rfl) 3 _ _ (by rfl) g (2 + t * 8 + 1) (by rfl) (.int .i64 (wrap64 (qat (clk L e t 1) t 1 + qat L e 1))) (by show Value.int .i64 (IntKind.i64.wrap (qat (clk L e t 1) t 1 + qat L e 1)) = _; rw [wrap_eq]) rfl 80 (lc 1 (clk L e t 1)) k3d size_int hsz ?_
        intro w4 k4 g4 s4
        have k5 : Lg w4 g 1 (clk L e t (1 + 1)) := (congrArg (fun a => Blk w4 g 80 a) (lc_set8 1 (clk L e t 1) t 1 _)).mp k4
        clear cq3 hsz k4
        go_wp2
        go_roundw
        case rel => exact ⟨1 + 1, by omega, by go_num, k5, World.grownBy.trans HG (World.grownBy.trans (grown_drew _ _) g4)⟩
        case measure => first | (simp [intOf]; done) | (simp [intOf]; omega)
      · have hCL : (clk L e t 2).length = 128 := by rw [clk_len, hl]
        have cq3 : wo.cell? ⟨g, 2 + t * 8 + 2, none⟩ = some (.int .i64 (qat (clk L e t 2) t 2)) := Blk.cellv KV _ _ (lc_q 1 (clk L e t 2) t 2 hCL ht (by omega))
        have hsz : 2 + t * 8 + 2 < (lc 1 (clk L e t 2)).size := by rw [lc_size, hCL]; omega
        have hi : ∀ (p q r s : Value) (W : World), (Instr.index 22 (.agg #[p, q, r, s]) (.int .i64 2)).run Try.prog W = .ok r W := fun _ _ _ _ _ => by kernel_rfl
        go_wp2
        refine wp_region_still_tail 16 (by kernel_rfl) (by kernel_rfl) ?_
        simp only [List.take_succ_cons, List.take_zero, List.drop_succ_cons, List.drop_zero]
        repeat still_step
        refine wpStill_nil ?_
        change wpList _ _ _ _ _ wo.drew
        have k3d : Lg wo.drew g 1 (clk L e t 2) := KV
        refine wl_set (by rfl) 3 _ _ (by rfl) g (2 + t * 8 + 2) (by rfl) (.int .i64 (wrap64 (qat (clk L e t 2) t 2 + qat L e 2))) (by show Value.int .i64 (IntKind.i64.wrap (qat (clk L e t 2) t 2 + qat L e 2)) = _; rw [wrap_eq]) rfl 80 (lc 1 (clk L e t 2)) k3d size_int hsz ?_
        intro w4 k4 g4 s4
        have k5 : Lg w4 g 1 (clk L e t (2 + 1)) := (congrArg (fun a => Blk w4 g 80 a) (lc_set8 1 (clk L e t 2) t 2 _)).mp k4
        clear cq3 hsz k4
        go_wp2
        go_roundw
        case rel => exact ⟨2 + 1, by omega, by go_num, k5, World.grownBy.trans HG (World.grownBy.trans (grown_drew _ _) g4)⟩
        case measure => first | (simp [intOf]; done) | (simp [intOf]; omega)
      · have hCL : (clk L e t 3).length = 128 := by rw [clk_len, hl]
        have cq3 : wo.cell? ⟨g, 2 + t * 8 + 3, none⟩ = some (.int .i64 (qat (clk L e t 3) t 3)) := Blk.cellv KV _ _ (lc_q 1 (clk L e t 3) t 3 hCL ht (by omega))
        have hsz : 2 + t * 8 + 3 < (lc 1 (clk L e t 3)).size := by rw [lc_size, hCL]; omega
        have hi : ∀ (p q r s : Value) (W : World), (Instr.index 22 (.agg #[p, q, r, s]) (.int .i64 3)).run Try.prog W = .ok s W := fun _ _ _ _ _ => by kernel_rfl
        go_wp2
        refine wp_region_still_tail 16 (by kernel_rfl) (by kernel_rfl) ?_
        simp only [List.take_succ_cons, List.take_zero, List.drop_succ_cons, List.drop_zero]
        repeat still_step
        refine wpStill_nil ?_
        change wpList _ _ _ _ _ wo.drew
        have k3d : Lg wo.drew g 1 (clk L e t 3) := KV
        refine wl_set (by rfl) 3 _ _ (by rfl) g (2 + t * 8 + 3) (by rfl) (.int .i64 (wrap64 (qat (clk L e t 3) t 3 + qat L e 3))) (by show Value.int .i64 (IntKind.i64.wrap (qat (clk L e t 3) t 3 + qat L e 3)) = _; rw [wrap_eq]) rfl 80 (lc 1 (clk L e t 3)) k3d size_int hsz ?_
        intro w4 k4 g4 s4
        have k5 : Lg w4 g 1 (clk L e t (3 + 1)) := (congrArg (fun a => Blk w4 g 80 a) (lc_set8 1 (clk L e t 3) t 3 _)).mp k4
        clear cq3 hsz k4
        go_wp2
        go_roundw
        case rel => exact ⟨3 + 1, by omega, by go_num, k5, World.grownBy.trans HG (World.grownBy.trans (grown_drew _ _) g4)⟩
        case measure => first | (simp [intOf]; done) | (simp [intOf]; omega)
    · obtain rfl : j = 4 := by omega
      have hKL : (clk L e t 4).length = 128 := by rw [clk_len, hl]
      have hsz : 2 + e * 8 + zr.size ≤ (lc 1 (clk L e t 4)).size := by rw [lc_size, hKL]; show 2 + e * 8 + 8 ≤ _; omega
      have hszh := Lib.hid hsz
      clear hsz hlt hj
      go_wp2_with (first
        | (with_reducible refine wl_build0 rfl 77 rfl zr zero_r ?_)
        | ((refine wl_store_mid (by rfl) 77 _ _ (by rfl) g (2 + e * 8) (by rfl) zr (by rfl) 80 (lc 1 (clk L e t 4)) KV size_r hszh.out zr_one ?_); intro w4 k4 g4 s4))
      rw [lay_z8] at k4
      refine leaves_cons (f := 43) (args := #[.pointer (some ⟨g, 0, none⟩)]) (by simp) (by simp [go_sem]) ?_
      refine (unlock_d g (z8 (clk L e t 4) e) .returning _ k4).mono ?_
      rintro r u' w9 ⟨rfl, rfl, k9, g9⟩
      exact ⟨_, results_tmp rfl _ _ _, rfl, k9, World.grownBy.trans g1 (World.grownBy.trans HG (World.grownBy.trans g4 g9))⟩
end Go.Proofs.Yteokofkdfeglnaa.Ledger3
