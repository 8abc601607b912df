/- Contracts of package ledger (Move, Close, New). -/
import Derived.Test.YteokofkdfeglnaaLedger
import Derived.StillTailTactics
set_option linter.unusedVariables false
namespace Go.Proofs.Yteokofkdfeglnaa.Ledger2
open Go.RowKit Go.Proofs.Yteokofkdfeglnaa.Base Go.Proofs.Yteokofkdfeglnaa.Row Go.Proofs.Yteokofkdfeglnaa.Ledger

theorem size_int : (Try.prog.info? 3).map (·.size) = some 1 := by kernel_rfl
theorem wrap_eq (x : Int) : IntKind.i64.wrap x = wrap64 x := by rw [IntKind.wrap_i64]; unfold wrap64; omega
def mv (L : List Int) (e t k : Nat) (n : Int) : List Int :=
  let M := L.set (e * 8 + k) (wrap64 (qat L e k - n))
  M.set (t * 8 + k) (wrap64 (qat M t k + n))
def pMove (L : List Int) (e t k n : Int) : Int × List Int :=
  if lmay e k n && lmay t k n then (if left L e.toNat k.toNat < n then (21, L) else (0, mv L e.toNat t.toNat k.toNat n)) else (1, L)
/-- The quotas added, j of four. -/
def clk (L : List Int) (e t : Nat) : Nat → List Int
  | 0 => L
  | j + 1 => (clk L e t j).set (t * 8 + j) (wrap64 (qat (clk L e t j) t j + qat L e j))
def z8 (L : List Int) (e : Nat) : List Int := (((((((L.set (e * 8) 0).set (e * 8 + 1) 0).set (e * 8 + 2) 0).set (e * 8 + 3) 0).set (e * 8 + 4) 0).set (e * 8 + 5) 0).set (e * 8 + 6) 0).set (e * 8 + 7) 0
def pClose (L : List Int) (e t : Int) : Int × List Int :=
  if lmay e 0 0 && lmay t 0 0 && !(e == t) then (0, z8 (clk L e.toNat t.toNat 4) e.toNat) else (1, L)
theorem clk_len (L : List Int) (e t j : Nat) : (clk L e t j).length = L.length := by
  induction j with
  | zero => rfl
  | succ j ih => rw [clk, List.length_set, ih]
theorem mv_len (L : List Int) (e t k : Nat) (n : Int) : (mv L e t k n).length = L.length := by simp [mv]
theorem z8_len (L : List Int) (e : Nat) : (z8 L e).length = L.length := by simp [z8]
theorem take_len (L : List Int) (e k n : Int) : (pTake L e k n).2.length = L.length := by unfold pTake; split <;> (try split) <;> simp
theorem free_len (L : List Int) (e k n : Int) : (pFree L e k n).2.length = L.length := by unfold pFree; split <;> (try split) <;> simp
theorem move_len (L : List Int) (e t k n : Int) : (pMove L e t k n).2.length = L.length := by unfold pMove; split <;> (try split) <;> simp [mv_len]
theorem close_len (L : List Int) (e t : Int) : (pClose L e t).2.length = L.length := by unfold pClose; split <;> simp [z8_len, clk_len]


set_option maxRecDepth 100000 in
set_option maxHeartbeats 2000000 in
theorem move_yes (g e t k : Nat) (n : Int) (L : List Int) (w : World) (h : Lg w g 0 L) (hl : L.length = 128) (he : e < 16) (ht : t < 16) (hk : k < 4) (hn0 : 0 ≤ n) (hn1 : n ≤ 512) :
    Calls Try.prog 32 #[.pointer (some ⟨g, 0, none⟩), .int .i64 e, .int .i64 t, .int .i64 k, .int .i64 n] w fun r w' => r = .returned (.int .i64 (pMove L e t k n).1) ∧ Lg w' g 0 (pMove L e t k n).2 ∧ w.grownBy w' (some g) := by
  have hm1 : lmay e k n = true := by unfold lmay; rw [decide_eq_true_eq]; omega
  have hm2 : lmay t k n = true := by unfold lmay; rw [decide_eq_true_eq]; omega
  have hM1 := Lib.hid (fun w => may_c e k n w)
  have hM2 := Lib.hid (fun w => may_c t k n w)
  rw [hm1] at hM1
  rw [hm2] at hM2
  have hm1' := Lib.hid hm1
  have hm2' := Lib.hid hm2
  clear hm1 hm2
  have i1 : (e : Int) < 16 := by omega
  have i2 : (k : Int) < 4 := by omega
  have i3 : (t : Int) < 16 := by omega
  by_cases hlt : left L e k < n
  · have hp : Hid (pMove L e t k n = (21, L)) := Lib.hid (by simp [pMove, hm1'.out, hm2'.out, hlt])
    rw [hp.out]
    have hq : decide (left L e k < n) = true := by simpa using hlt
    clear hlt
    go_enter_defers Try.func32, Try.ntmps32
    go_wp2_with fail
    refine (hM1.out _).mono ?_
    rintro r w1 ⟨rfl, rfl⟩
    go_wp2_with fail
    refine (hM2.out _).mono ?_
    rintro r w1 ⟨rfl, rfl⟩
    go_wp2_with fail
    refine (lock_c g L w h).mono ?_
    rintro r w1 ⟨rfl, k1, g1⟩
    have cq := Blk.cellv k1 _ _ (lc_q 1 L e k hl he hk)
    have cu := Blk.cellv k1 _ _ (lc_u 1 L e k hl he hk)
    unfold left at hq
    go_wp2
    go_quiet (fail)
    go_wp2
    refine leaves_cons (f := 43) (args := #[.pointer (some ⟨g, 0, none⟩)]) (by simp) (by simp [go_sem]) ?_
    refine (unlock_d g L .returning _ (Blk.drewN k1 _)).mono ?_
    rintro r u' w9 ⟨rfl, rfl, k9, g9⟩
    exact ⟨_, results_tmp rfl _ _ _, rfl, k9, World.grownBy.trans g1 (World.grownBy.trans (grown_drewN _ _ _) g9)⟩
  · have hp : Hid (pMove L e t k n = (0, mv L e t k n)) := Lib.hid (by simp [pMove, hm1'.out, hm2'.out, hlt])
    rw [hp.out]
    have hq : decide (left L e k < n) = false := by simpa using hlt
    clear hlt
    obtain ⟨M, hM⟩ : ∃ M, L.set (e * 8 + k) (wrap64 (qat L e k - n)) = M := ⟨_, rfl⟩
    have hML : M.length = 128 := by rw [← hM, List.length_set, hl]
    go_enter_defers Try.func32, Try.ntmps32
    go_wp2_with fail
    refine (hM1.out _).mono ?_
    rintro r w1 ⟨rfl, rfl⟩
    go_wp2_with fail
    refine (hM2.out _).mono ?_
    rintro r w1 ⟨rfl, rfl⟩
    go_wp2_with fail
    refine (lock_c g L w h).mono ?_
    rintro r w1 ⟨rfl, k1, g1⟩
    have cq := Blk.cellv k1 _ _ (lc_q 1 L e k hl he hk)
    have cu := Blk.cellv k1 _ _ (lc_u 1 L e k hl he hk)
    have zq := Blk.frozen k1 (2 + e * 8 + k)
    unfold left at hq
    go_wp2
    go_quiet (fail)
    go_wp2
    go_region
    generalize hW : (w1.drewN (nq + 1)).setCell ⟨g, 2 + e * 8 + k, none⟩ (.int .i64 (wrap64 (qat L e k - n))) = w3
    have k3 : Lg w3 g 1 M := by
      have K := Blk.set_ k1 (2 + e * 8 + k) (.int .i64 (wrap64 (qat L e k - n)))
      rw [lc_set8, hM] at K
      rw [← hW]
      exact K
    have g3 : w1.grownBy w3 (some g) := by
      rw [← hW]
      exact World.grownBy.trans (grown_drewN _ _ _) (grownBy_set _ _ _ _)
    clear hW cq cu zq
    have cq3 := Blk.cellv k3 _ _ (lc_q 1 M t k hML ht hk)
    have zq3 := Blk.frozen k3 (2 + t * 8 + k)
    go_wp2
    refine wp_region_still_tail 16 (by kernel_rfl) (by kernel_rfl) ?_
    simp only [List.take_succ_cons, List.take_zero, List.drop_succ_cons, List.drop_zero]
    repeat still_step
    refine wpStill_nil ?_
    change wpList _ _ _ _ _ w3.drew
    have k3d : Lg w3.drew g 1 M := k3
    clear cq3 zq3
    have hsz : 2 + t * 8 + k < (lc 1 M).size := by rw [lc_size, hML]; omega
    refine wl_set (by rfl) 3 _ _ (by rfl) g (2 + t * 8 + k) (by rfl) (.int .i64 (wrap64 (qat M t k + n))) (by show Value.int .i64 (IntKind.i64.wrap (qat M t k + n)) = _; rw [wrap_eq]) rfl 80 (lc 1 M) k3d size_int hsz ?_
    intro w4 k4 g4 s4
    rw [lc_set8] at k4
    go_wp2
    refine leaves_cons (f := 43) (args := #[.pointer (some ⟨g, 0, none⟩)]) (by simp) (by simp [go_sem]) ?_
    refine (unlock_d g (mv L e t k n) .returning _ (by unfold mv; rw [hM]; exact k4)).mono ?_
    rintro r u' w9 ⟨rfl, rfl, k9, g9⟩
    exact ⟨_, results_tmp rfl _ _ _, rfl, k9, World.grownBy.trans g1 (World.grownBy.trans g3 (World.grownBy.trans (grown_drew _ _) (World.grownBy.trans g4 g9)))⟩

set_option maxRecDepth 100000 in
theorem move_no1 (g : Nat) (e t k n : Int) (w : World) (hm : lmay e k n = false) :
    Calls Try.prog 32 #[.pointer (some ⟨g, 0, none⟩), .int .i64 e, .int .i64 t, .int .i64 k, .int .i64 n] w fun r w' => r = .returned (.int .i64 1) ∧ w = w' := by
  have hM := Lib.hid (fun w => may_c e k n w)
  rw [hm] at hM
  clear hm
  go_enter_defers Try.func32, Try.ntmps32
  go_wp2_with fail
  refine (hM.out _).mono ?_
  rintro r w1 ⟨rfl, rfl⟩
  go_wp2
  exact ⟨_, results_tmp rfl _ _ _, rfl, rfl⟩
set_option maxRecDepth 100000 in
theorem move_no2 (g : Nat) (e t k n : Int) (w : World) (hm1 : lmay e k n = true) (hm : lmay t k n = false) :
    Calls Try.prog 32 #[.pointer (some ⟨g, 0, none⟩), .int .i64 e, .int .i64 t, .int .i64 k, .int .i64 n] w fun r w' => r = .returned (.int .i64 1) ∧ w = w' := by
  have hM1 := Lib.hid (fun w => may_c e k n w)
  rw [hm1] at hM1
  have hM := Lib.hid (fun w => may_c t k n w)
  rw [hm] at hM
  clear hm hm1
  go_enter_defers Try.func32, Try.ntmps32
  go_wp2_with fail
  refine (hM1.out _).mono ?_
  rintro r w1 ⟨rfl, rfl⟩
  go_wp2_with fail
  refine (hM.out _).mono ?_
  rintro r w1 ⟨rfl, rfl⟩
  go_wp2
  exact ⟨_, results_tmp rfl _ _ _, rfl, rfl⟩
set_option maxRecDepth 100000 in
theorem move_nil (e t k n : Int) (w : World) :
    Calls Try.prog 32 #[.pointer none, .int .i64 e, .int .i64 t, .int .i64 k, .int .i64 n] w fun r w' => r = .returned (.int .i64 1) ∧ w = w' := by
  go_enter_defers Try.func32, Try.ntmps32
  go_wp2
  exact ⟨_, results_tmp rfl _ _ _, rfl, rfl⟩
theorem move_c (g : Nat) (e t k n : Int) (L : List Int) (w : World) (h : Lg w g 0 L) (hl : L.length = 128) :
    Calls Try.prog 32 #[.pointer (some ⟨g, 0, none⟩), .int .i64 e, .int .i64 t, .int .i64 k, .int .i64 n] w fun r w' => r = .returned (.int .i64 (pMove L e t k n).1) ∧ Lg w' g 0 (pMove L e t k n).2 ∧ w.grownBy w' (some g) := by
  cases hm : lmay e k n with
  | true =>
    cases hm2 : lmay t k n with
    | true =>
      obtain ⟨e, k, rfl, rfl, he, hk, h0, h1⟩ := lmay_nat hm
      obtain ⟨t, k', rfl, hk', ht, _, _, _⟩ := lmay_nat hm2
      exact move_yes g e t k n L w h hl he ht hk h0 h1
    | false =>
      refine (move_no2 g e t k n w hm hm2).mono ?_
      rintro r w1 ⟨rfl, rfl⟩
      exact ⟨by simp [pMove, hm2], by simpa [pMove, hm2] using h, World.grownBy.refl _ _⟩
  | false =>
    refine (move_no1 g e t k n w hm).mono ?_
    rintro r w1 ⟨rfl, rfl⟩
    exact ⟨by simp [pMove, hm], by simpa [pMove, hm] using h, World.grownBy.refl _ _⟩
end Go.Proofs.Yteokofkdfeglnaa.Ledger2
