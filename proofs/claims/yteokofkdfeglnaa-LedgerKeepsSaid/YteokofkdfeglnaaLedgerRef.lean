/- Contracts of the reference's ledger. -/
import Derived.Test.YteokofkdfeglnaaLedger3
import Derived.StillTailTactics
set_option linter.unusedVariables false
namespace Go.Proofs.Yteokofkdfeglnaa.LedgerRef
open Go.RowKit Go.Proofs.Yteokofkdfeglnaa.Base Go.Proofs.Yteokofkdfeglnaa.Row Go.Proofs.Yteokofkdfeglnaa.Ledger Go.Proofs.Yteokofkdfeglnaa.Ledger2 Go.Proofs.Yteokofkdfeglnaa.Ledger3

theorem rc_size (L : List Int) : (rc L).size = L.length := by simp [rc, nums]

set_option maxRecDepth 100000 in
theorem rleft_yes (g e k : Nat) (L : List Int) (w : World) (h : Rg w g L) (hl : L.length = 128) (he : e < 16) (hk : k < 4) :
    Calls Try.prog 28 #[.pointer (some ⟨g, 0, none⟩), .int .i64 e, .int .i64 k] w fun r w' => r = .returned (.int .i64 (left L e k)) ∧ Rg w' g L ∧ w.grownBy w' (some g) := by
  have hm : lmay e k 0 = true := by unfold lmay; rw [decide_eq_true_eq]; omega
  have hM := Lib.hid (fun w => refmay_c e k 0 w)
  rw [hm] at hM
  clear hm
  have i1 : (e : Int) < 16 := by omega
  have i2 : (k : Int) < 4 := by omega
  have cq := Blk.cellv h _ _ (rc_q L e k hl he hk)
  have cu := Blk.cellv h _ _ (rc_u L e k hl he hk)
  go_enter Try.func28, Try.ntmps28
  go_wp2_with fail
  refine (hM.out _).mono ?_
  rintro r w1 ⟨rfl, rfl⟩
  go_wp2
  go_quiet (fail)
  go_wp2
  go_ret
  exact ⟨rfl, Blk.drewN h _, grown_drewN _ _ _⟩
set_option maxRecDepth 100000 in
theorem rleft_no (g : Nat) (e k : Int) (w : World) (hm : lmay e k 0 = false) :
    Calls Try.prog 28 #[.pointer (some ⟨g, 0, none⟩), .int .i64 e, .int .i64 k] w fun r w' => r = .returned (.int .i64 0) ∧ w = w' := by
  have hM := Lib.hid (fun w => refmay_c e k 0 w)
  rw [hm] at hM
  clear hm
  go_enter Try.func28, Try.ntmps28
  go_wp2_with fail
  refine (hM.out _).mono ?_
  rintro r w1 ⟨rfl, rfl⟩
  go_wp2
  go_ret
  exact ⟨rfl, rfl⟩
theorem rleft_c (g : Nat) (e k : Int) (L : List Int) (w : World) (h : Rg w g L) (hl : L.length = 128) :
    Calls Try.prog 28 #[.pointer (some ⟨g, 0, none⟩), .int .i64 e, .int .i64 k] w fun r w' => r = .returned (.int .i64 (pLeft L e k)) ∧ Rg w' g L ∧ w.grownBy w' (some g) := by
  cases hm : lmay e k 0 with
  | true =>
    obtain ⟨e, k, rfl, rfl, he, hk, _, _⟩ := lmay_nat hm
    have := rleft_yes g e k L w h hl he hk
    simpa [pLeft, hm] using this
  | false =>
    refine (rleft_no g e k w hm).mono ?_
    rintro r w1 ⟨rfl, rfl⟩
    exact ⟨by simp [pLeft, hm], h, World.grownBy.refl _ _⟩

set_option maxRecDepth 100000 in
set_option maxHeartbeats 2000000 in
theorem rtake_yes (g e k : Nat) (n : Int) (L : List Int) (w : World) (h : Rg w g L) (hl : L.length = 128) (he : e < 16) (hk : k < 4) (hn0 : 0 ≤ n) (hn1 : n ≤ 512) :
    Calls Try.prog 38 #[.pointer (some ⟨g, 0, none⟩), .int .i64 e, .int .i64 k, .int .i64 n, .bool false] w fun r w' => r = .returned (.int .i64 (pTake L e k n).1) ∧ Rg w' g (pTake L e k n).2 ∧ w.grownBy w' (some g) := by
  have hm : lmay e k n = true := by unfold lmay; rw [decide_eq_true_eq]; omega
  have hM := Lib.hid (fun w => refmay_c e k n w)
  rw [hm] at hM
  have hm' := Lib.hid hm
  clear hm
  have i1 : (e : Int) < 16 := by omega
  have i2 : (k : Int) < 4 := by omega
  have cu := Blk.cellv h _ _ (rc_u L e k hl he hk)
  by_cases hlt : left L e k < n
  · have hp : Hid (pTake L e k n = (21, L)) := Lib.hid (by simp [pTake, hm'.out, hlt])
    rw [hp.out]
    have hq : decide (left L e k < n) = true := by simpa using hlt
    clear hlt
    go_enter Try.func38, Try.ntmps38
    go_wp2_with fail
    refine (hM.out _).mono ?_
    rintro r w1 ⟨rfl, rfl⟩
    go_wp2_with fail
    refine (rleft_yes g e k L w h hl he hk).mono ?_
    rintro r w2 ⟨rfl, k2, g2⟩
    go_wp2
    go_ret
    exact ⟨rfl, k2, g2⟩
  · have hp : Hid (pTake L e k n = (0, L.set (e * 8 + (4 + k)) (wrap64 (uat L e k + n)))) := Lib.hid (by simp [pTake, hm'.out, hlt])
    rw [hp.out]
    have hq : decide (left L e k < n) = false := by simpa using hlt
    clear hlt
    go_enter Try.func38, Try.ntmps38
    go_wp2_with fail
    refine (hM.out _).mono ?_
    rintro r w1 ⟨rfl, rfl⟩
    go_wp2_with fail
    refine (rleft_yes g e k L w h hl he hk).mono ?_
    rintro r w2 ⟨rfl, k2, g2⟩
    have cu2 := Blk.cellv k2 _ _ (rc_u L e k hl he hk)
    clear cu
    go_wp2
    refine wp_region_still_tail 19 (by kernel_rfl) (by kernel_rfl) ?_
    simp only [List.take_succ_cons, List.take_zero, List.drop_succ_cons, List.drop_zero]
    repeat still_step
    refine wpStill_nil ?_
    change wpList _ _ _ _ _ w2.drew
    have k3d : Rg w2.drew g L := k2
    refine wl_set (by rfl) 3 _ _ (by rfl) g (e * 8 + 4 + k) (by rfl) (.int .i64 (wrap64 (uat L e k + n))) (by show Value.int .i64 (IntKind.i64.wrap (uat L e k + n)) = _; rw [wrap_eq]) rfl 59 (rc L) k3d size_int (by rw [rc_size, hl]; omega) ?_
    intro w4 k4 g4 s4
    rw [rc_set84] at k4
    clear cu2
    go_wp2
    go_ret
    exact ⟨rfl, k4, World.grownBy.trans g2 (World.grownBy.trans (grown_drew _ _) g4)⟩

set_option maxRecDepth 100000 in
theorem rtake_no (g : Nat) (e k n : Int) (w : World) (hm : lmay e k n = false) :
    Calls Try.prog 38 #[.pointer (some ⟨g, 0, none⟩), .int .i64 e, .int .i64 k, .int .i64 n, .bool false] w fun r w' => r = .returned (.int .i64 1) ∧ w = w' := by
  have hM := Lib.hid (fun w => refmay_c e k n w)
  rw [hm] at hM
  clear hm
  go_enter Try.func38, Try.ntmps38
  go_wp2_with fail
  refine (hM.out _).mono ?_
  rintro r w1 ⟨rfl, rfl⟩
  go_wp2
  go_ret
  exact ⟨rfl, rfl⟩
theorem rtake_c (g : Nat) (e k n : Int) (L : List Int) (w : World) (h : Rg w g L) (hl : L.length = 128) :
    Calls Try.prog 38 #[.pointer (some ⟨g, 0, none⟩), .int .i64 e, .int .i64 k, .int .i64 n, .bool false] w fun r w' => r = .returned (.int .i64 (pTake L e k n).1) ∧ Rg w' g (pTake L e k n).2 ∧ w.grownBy w' (some g) := by
  cases hm : lmay e k n with
  | true =>
    obtain ⟨e, k, rfl, rfl, he, hk, h0, h1⟩ := lmay_nat hm
    exact rtake_yes g e k n L w h hl he hk h0 h1
  | false =>
    refine (rtake_no g e k n w hm).mono ?_
    rintro r w1 ⟨rfl, rfl⟩
    exact ⟨by simp [pTake, hm], by simpa [pTake, hm] using h, World.grownBy.refl _ _⟩

set_option maxRecDepth 100000 in
set_option maxHeartbeats 2000000 in
theorem rfree_yes (g e k : Nat) (n : Int) (L : List Int) (w : World) (h : Rg w g L) (hl : L.length = 128) (he : e < 16) (hk : k < 4) (hn0 : 0 ≤ n) (hn1 : n ≤ 512) :
    Calls Try.prog 38 #[.pointer (some ⟨g, 0, none⟩), .int .i64 e, .int .i64 k, .int .i64 n, .bool true] w fun r w' => r = .returned (.int .i64 (pFree L e k n).1) ∧ Rg w' g (pFree L e k n).2 ∧ w.grownBy w' (some g) := by
  have hm : lmay e k n = true := by unfold lmay; rw [decide_eq_true_eq]; omega
  have hM := Lib.hid (fun w => refmay_c e k n w)
  rw [hm] at hM
  have hm' := Lib.hid hm
  clear hm
  have i1 : (e : Int) < 16 := by omega
  have i2 : (k : Int) < 4 := by omega
  have cu := Blk.cellv h _ _ (rc_u L e k hl he hk)
  by_cases hlt : uat L e k < n
  · have hp : Hid (pFree L e k n = (1, L)) := Lib.hid (by simp [pFree, hm'.out, hlt])
    rw [hp.out]
    have hq : decide (uat L e k < n) = true := by simpa using hlt
    clear hlt
    go_enter Try.func38, Try.ntmps38
    go_wp2_with fail
    refine (hM.out _).mono ?_
    rintro r w1 ⟨rfl, rfl⟩
    go_wp2_with fail
    go_ret
    exact ⟨rfl, h, World.grownBy.refl _ _⟩
  · have hp : Hid (pFree L e k n = (0, L.set (e * 8 + (4 + k)) (wrap64 (uat L e k - n)))) := Lib.hid (by simp [pFree, hm'.out, hlt])
    rw [hp.out]
    have hq : decide (uat L e k < n) = false := by simpa using hlt
    clear hlt
    go_enter Try.func38, Try.ntmps38
    go_wp2_with fail
    refine (hM.out _).mono ?_
    rintro r w1 ⟨rfl, rfl⟩
    go_wp2_with fail
    refine wp_region_still_tail 19 (by kernel_rfl) (by kernel_rfl) ?_
    simp only [List.take_succ_cons, List.take_zero, List.drop_succ_cons, List.drop_zero]
    repeat still_step
    refine wpStill_nil ?_
    change wpList _ _ _ _ _ w.drew
    have k3d : Rg w.drew g L := h
    refine wl_set (by rfl) 3 _ _ (by rfl) g (e * 8 + 4 + k) (by rfl) (.int .i64 (wrap64 (uat L e k - n))) (by show Value.int .i64 (IntKind.i64.wrap (uat L e k - n)) = _; rw [wrap_eq]) rfl 59 (rc L) k3d size_int (by rw [rc_size, hl]; omega) ?_
    intro w4 k4 g4 s4
    rw [rc_set84] at k4
    clear cu
    go_wp2
    go_ret
    exact ⟨rfl, k4, World.grownBy.trans (grown_drew _ _) g4⟩

set_option maxRecDepth 100000 in
theorem rfree_no (g : Nat) (e k n : Int) (w : World) (hm : lmay e k n = false) :
    Calls Try.prog 38 #[.pointer (some ⟨g, 0, none⟩), .int .i64 e, .int .i64 k, .int .i64 n, .bool true] w fun r w' => r = .returned (.int .i64 1) ∧ w = w' := by
  have hM := Lib.hid (fun w => refmay_c e k n w)
  rw [hm] at hM
  clear hm
  go_enter Try.func38, Try.ntmps38
  go_wp2_with fail
  refine (hM.out _).mono ?_
  rintro r w1 ⟨rfl, rfl⟩
  go_wp2
  go_ret
  exact ⟨rfl, rfl⟩
theorem rfree_c (g : Nat) (e k n : Int) (L : List Int) (w : World) (h : Rg w g L) (hl : L.length = 128) :
    Calls Try.prog 38 #[.pointer (some ⟨g, 0, none⟩), .int .i64 e, .int .i64 k, .int .i64 n, .bool true] w fun r w' => r = .returned (.int .i64 (pFree L e k n).1) ∧ Rg w' g (pFree L e k n).2 ∧ w.grownBy w' (some g) := by
  cases hm : lmay e k n with
  | true =>
    obtain ⟨e, k, rfl, rfl, he, hk, h0, h1⟩ := lmay_nat hm
    exact rfree_yes g e k n L w h hl he hk h0 h1
  | false =>
    refine (rfree_no g e k n w hm).mono ?_
    rintro r w1 ⟨rfl, rfl⟩
    exact ⟨by simp [pFree, hm], by simpa [pFree, hm] using h, World.grownBy.refl _ _⟩

set_option maxRecDepth 100000 in
set_option maxHeartbeats 2000000 in
theorem rmove_yes (g e t k : Nat) (n : Int) (L : List Int) (w : World) (h : Rg w g L) (hl : L.length = 128) (he : e < 16) (ht : t < 16) (hk : k < 4) (hn0 : 0 ≤ n) (hn1 : n ≤ 512) :
    Calls Try.prog 39 #[.pointer (some ⟨g, 0, none⟩), .int .i64 e, .int .i64 t, .int .i64 k, .int .i64 n] w fun r w' => r = .returned (.int .i64 (pMove L e t k n).1) ∧ Rg w' g (pMove L e t k n).2 ∧ w.grownBy w' (some g) := by
  have hm1 : lmay e k n = true := by unfold lmay; rw [decide_eq_true_eq]; omega
  have hm2 : lmay t k n = true := by unfold lmay; rw [decide_eq_true_eq]; omega
  have hM1 := Lib.hid (fun w => refmay_c e k n w)
  have hM2 := Lib.hid (fun w => refmay_c t k n w)
  rw [hm1] at hM1
  rw [hm2] at hM2
  have hm1' := Lib.hid hm1
  have hm2' := Lib.hid hm2
  clear hm1 hm2
  have i1 : (e : Int) < 16 := by omega
  have i2 : (k : Int) < 4 := by omega
  have i3 : (t : Int) < 16 := by omega
  by_cases hlt : left L e k < n
  · have hp : Hid (pMove L e t k n = (21, L)) := Lib.hid (by simp [pMove, hm1'.out, hm2'.out, hlt])
    rw [hp.out]
    have hq : decide (left L e k < n) = true := by simpa using hlt
    clear hlt
    go_enter Try.func39, Try.ntmps39
    go_wp2_with fail
    refine (hM1.out _).mono ?_
    rintro r w1 ⟨rfl, rfl⟩
    go_wp2_with fail
    refine (hM2.out _).mono ?_
    rintro r w1 ⟨rfl, rfl⟩
    go_wp2_with fail
    refine (rleft_yes g e k L w h hl he hk).mono ?_
    rintro r w2 ⟨rfl, k2, g2⟩
    go_wp2
    go_ret
    exact ⟨rfl, k2, g2⟩
  · have hp : Hid (pMove L e t k n = (0, mv L e t k n)) := Lib.hid (by simp [pMove, hm1'.out, hm2'.out, hlt])
    rw [hp.out]
    have hq : decide (left L e k < n) = false := by simpa using hlt
    clear hlt
    obtain ⟨M, hM⟩ : ∃ M, L.set (e * 8 + k) (wrap64 (qat L e k - n)) = M := ⟨_, rfl⟩
    have hML : M.length = 128 := by rw [← hM, List.length_set, hl]
    go_enter Try.func39, Try.ntmps39
    go_wp2_with fail
    refine (hM1.out _).mono ?_
    rintro r w1 ⟨rfl, rfl⟩
    go_wp2_with fail
    refine (hM2.out _).mono ?_
    rintro r w1 ⟨rfl, rfl⟩
    go_wp2_with fail
    refine (rleft_yes g e k L w h hl he hk).mono ?_
    rintro r w2 ⟨rfl, k2, g2⟩
    have cq2 := Blk.cellv k2 _ _ (rc_q L e k hl he hk)
    go_wp2
    refine wp_region_still_tail 19 (by kernel_rfl) (by kernel_rfl) ?_
    simp only [List.take_succ_cons, List.take_zero, List.drop_succ_cons, List.drop_zero]
    repeat still_step
    refine wpStill_nil ?_
    change wpList _ _ _ _ _ w2.drew
    have k3d : Rg w2.drew g L := k2
    refine wl_set (by rfl) 3 _ _ (by rfl) g (e * 8 + k) (by rfl) (.int .i64 (wrap64 (qat L e k - n))) (by show Value.int .i64 (IntKind.i64.wrap (qat L e k - n)) = _; rw [wrap_eq]) rfl 59 (rc L) k3d size_int (by rw [rc_size, hl]; omega) ?_
    intro w4 k4 g4 s4
    rw [rc_set, hM] at k4
    clear cq2
    have cq4 := Blk.cellv k4 _ _ (rc_q M t k hML ht hk)
    go_wp2
    refine wp_region_still_tail 19 (by kernel_rfl) (by kernel_rfl) ?_
    simp only [List.take_succ_cons, List.take_zero, List.drop_succ_cons, List.drop_zero]
    repeat still_step
    refine wpStill_nil ?_
    change wpList _ _ _ _ _ w4.drew
    have k4d : Rg w4.drew g M := k4
    refine wl_set (by rfl) 3 _ _ (by rfl) g (t * 8 + k) (by rfl) (.int .i64 (wrap64 (qat M t k + n))) (by show Value.int .i64 (IntKind.i64.wrap (qat M t k + n)) = _; rw [wrap_eq]) rfl 59 (rc M) k4d size_int (by rw [rc_size, hML]; omega) ?_
    intro w5 k5 g5 s4
    rw [rc_set] at k5
    clear cq4
    go_wp2
    go_ret
    refine ⟨rfl, ?_, World.grownBy.trans g2 (World.grownBy.trans (grown_drew _ _) (World.grownBy.trans g4 (World.grownBy.trans (grown_drew _ _) g5)))⟩
    unfold mv
    rw [hM]
    exact k5
set_option maxRecDepth 100000 in
theorem rmove_no1 (g : Nat) (e t k n : Int) (w : World) (hm : lmay e k n = false) :
    Calls Try.prog 39 #[.pointer (some ⟨g, 0, none⟩), .int .i64 e, .int .i64 t, .int .i64 k, .int .i64 n] w fun r w' => r = .returned (.int .i64 1) ∧ w = w' := by
  have hM := Lib.hid (fun w => refmay_c e k n w)
  rw [hm] at hM
  clear hm
  go_enter Try.func39, Try.ntmps39
  go_wp2_with fail
  refine (hM.out _).mono ?_
  rintro r w1 ⟨rfl, rfl⟩
  go_wp2
  go_ret
  exact ⟨rfl, rfl⟩
set_option maxRecDepth 100000 in
theorem rmove_no2 (g : Nat) (e t k n : Int) (w : World) (hm1 : lmay e k n = true) (hm : lmay t k n = false) :
    Calls Try.prog 39 #[.pointer (some ⟨g, 0, none⟩), .int .i64 e, .int .i64 t, .int .i64 k, .int .i64 n] w fun r w' => r = .returned (.int .i64 1) ∧ w = w' := by
  have hM1 := Lib.hid (fun w => refmay_c e k n w)
  rw [hm1] at hM1
  have hM := Lib.hid (fun w => refmay_c t k n w)
  rw [hm] at hM
  clear hm hm1
  go_enter Try.func39, Try.ntmps39
  go_wp2_with fail
  refine (hM1.out _).mono ?_
  rintro r w1 ⟨rfl, rfl⟩
  go_wp2_with fail
  refine (hM.out _).mono ?_
  rintro r w1 ⟨rfl, rfl⟩
  go_wp2
  go_ret
  exact ⟨rfl, rfl⟩
theorem rmove_c (g : Nat) (e t k n : Int) (L : List Int) (w : World) (h : Rg w g L) (hl : L.length = 128) :
    Calls Try.prog 39 #[.pointer (some ⟨g, 0, none⟩), .int .i64 e, .int .i64 t, .int .i64 k, .int .i64 n] w fun r w' => r = .returned (.int .i64 (pMove L e t k n).1) ∧ Rg w' g (pMove L e t k n).2 ∧ w.grownBy w' (some g) := by
  cases hm : lmay e k n with
  | true =>
    cases hm2 : lmay t k n with
    | true =>
      obtain ⟨e, k, rfl, rfl, he, hk, h0, h1⟩ := lmay_nat hm
      obtain ⟨t, k', rfl, hk', ht, _, _, _⟩ := lmay_nat hm2
      exact rmove_yes g e t k n L w h hl he ht hk h0 h1
    | false =>
      refine (rmove_no2 g e t k n w hm hm2).mono ?_
      rintro r w1 ⟨rfl, rfl⟩
      exact ⟨by simp [pMove, hm2], by simpa [pMove, hm2] using h, World.grownBy.refl _ _⟩
  | false =>
    refine (rmove_no1 g e t k n w hm).mono ?_
    rintro r w1 ⟨rfl, rfl⟩
    exact ⟨by simp [pMove, hm], by simpa [pMove, hm] using h, World.grownBy.refl _ _⟩
end Go.Proofs.Yteokofkdfeglnaa.LedgerRef
