/- AbortMost: at every number the law's text returns true. -/
import Derived.Test.YtcomgmgmpmjnkaaAbort5
import Derived.Test.YtcomgmgmpmjnkaaMath
set_option linter.unusedVariables false
namespace Go.Proofs.Ytcomgmgmpmjnkaa.AbortMost
open Go.RowKit Go.Proofs.Ytcomgmgmpmjnkaa.Base Go.Proofs.Ytcomgmgmpmjnkaa.Row Go.Proofs.Ytcomgmgmpmjnkaa.App Go.Proofs.Ytcomgmgmpmjnkaa.Multi Go.Proofs.Ytcomgmgmpmjnkaa.AbortMath Go.Proofs.Ytcomgmgmpmjnkaa.Abort Go.Proofs.Ytcomgmgmpmjnkaa.Abort2 Go.Proofs.Ytcomgmgmpmjnkaa.Abort3 Go.Proofs.Ytcomgmgmpmjnkaa.Abort4 Go.Proofs.Ytcomgmgmpmjnkaa.Abort5

theorem ask_at (A : Option Addr) (c k : Nat) (w : World) (h : IsL w A (min k 64) c (mks (min k 64))) (hk : k < 127) :
    Calls Try.prog 25 #[.agg (lv A (min k 64) c), .agg #[.int .i64 ((k : Int) % 16), .int .i64 0, .int .i64 k, .int .i64 5]] w fun r w' => (∃ A1 c1, r = .returned (.tuple #[.agg (lv A1 (min (k + 1) 64) c1), .int .i64 (if k < 64 then 0 else 7)]) ∧ IsL w' A1 (min (k + 1) 64) c1 (mks (min (k + 1) 64))) ∧ Below w.heap.size w w' := by
  have := ask_c A (min k 64) c (mks (min k 64)) (mk k) w h (by omega)
  have e := mks_ask (min k 64) k rfl hk
  refine this.mono ?_
  rintro r w1 ⟨⟨A1, n1, c1, rfl, hI⟩, b1⟩
  rw [e] at hI ⊢
  obtain rfl : n1 = min (k + 1) 64 := by rw [isl_len hI, mks_len]
  exact ⟨⟨A1, c1, rfl, hI⟩, b1⟩

set_option maxRecDepth 100000 in
set_option maxHeartbeats 4000000 in
theorem walk (n : Int) (w : World) (w0 : (Lit.int .i64 n).wf = true) :
    Calls Try.prog 7 #[.int .i64 n] w fun e w' => e = .returned (.bool true) ∧ Below w.heap.size w w' := by
  clear w0
  obtain ⟨N, hN, hb⟩ : ∃ N : Nat, N ≤ 127 ∧ bits .and .i64 n 127 = N := ⟨(n % 128).toNat, by omega, by
    have := Math.i64_and_mask n 7 127 (by omega) rfl
    rw [show ((127 : Nat) : Int) = 127 from rfl] at this
    rw [this, Int.toNat_of_nonneg (by omega)]; rfl⟩
  go_enter Try.func7, Try.ntmps7
  go_wp2_with (first
    | ((with_reducible refine wl_alloc rfl 67 rfl (lv none 0 0) new_l ?_); intro w1 k1 b1 s1))
  clear hb
  go_loopw [4] (fun i wr => ∃ (k : Nat) (A : Option Addr) (c : Nat), k ≤ N ∧ i = .int .i64 k ∧ Blk wr w.heap.size 67 (lv A (min k 64) c) ∧ IsL wr A (min k 64) c (mks (min k 64)) ∧ Below w.heap.size w wr) (fun i _ => N - (intOf i).toNat)
  case atStart => exact ⟨0, none, 0, by omega, rfl, k1, isl_nil _, b1⟩
  case round =>
    clear k1 b1
    obtain ⟨k, A, c, hk, rfl, KX, HL, HB⟩ := hrel
    obtain ⟨wo, rfl⟩ : ∃ wo : World, wo = wr := ⟨_, rfl⟩
    by_cases hlt : k < N
    · have hq : decide ((k : Int) < (N : Int)) = true := by simp; omega
      have hA := Lib.hid (ask_at A c k wo HL (by omega))
      have hm : bits .and .i64 (k : Int) 15 = (k : Int) % 16 := Math.i64_and_mask k 4 15 (by omega) rfl
      go_wp2_with (first
        | (with_reducible refine wl_load rfl 67 _ rfl w.heap.size rfl 67 (lv A (min k 64) c) _ KX Try.underlying67 rfl (lv_size _ _ _) ?_))
      refine (hA.out).mono ?_
      rintro r w2 ⟨⟨A1, c1, rfl, hI⟩, b2⟩
      have K2 := KX.below b2
      have B2 := bl_then HB b2
      have z2 := B2.size
      have zl := K2.lt
      obtain ⟨e, he⟩ : ∃ e : Int, (if k < 64 then 0 else 7) = e := ⟨_, rfl⟩
      rw [he]
      have hcase : (e = 0 ∧ decide ((k : Int) < 64) = true) ∨ (e = 7 ∧ decide ((k : Int) < 64) = false) := by
        by_cases h : k < 64
        · rw [if_pos h] at he
          exact .inl ⟨he.symm, by simp; omega⟩
        · rw [if_neg h] at he
          exact .inr ⟨he.symm, by simp; omega⟩
      have hM := Lib.hid (show min (k + 1) 64 = min (k + 1) 64 from rfl)
      clear he KX HB HL hm
      generalize hmm : min (k + 1) 64 = M at *
      generalize min k 64 = M0 at *
      have hmm' := Lib.hid hmm
      clear hmm hM
      rcases hcase with ⟨rfl, q1⟩ | ⟨rfl, q1⟩
      all_goals (
        go_wp2_with (first
          | ((with_reducible refine wl_alloc rfl 67 rfl (lv none 0 0) new_l ?_); intro w3 k3 b3 s3)
          | ((refine wl_store rfl 67 _ _ rfl w2.heap.size rfl (lv A1 M c1) rfl 67 (lv none 0 0) k3 (lv_size _ _ _) rfl (lv_one _ _ _) ?_); intro w4 k4 g4 s4; have K4 := (K2.below b3).grown g4 (fun e => by injection e with e; omega); have I4 := isl_far (ist_below hI b3) g4 k3; have B4 := below_grown (bl_then B2 b3) (by have := b3.size; omega) g4 z2)
          | (with_reducible refine wl_load rfl 67 _ rfl w2.heap.size rfl 67 (lv A1 M c1) _ k4 Try.underlying67 rfl (lv_size _ _ _) ?_)
          | ((refine wl_store rfl 67 _ _ rfl w.heap.size rfl (lv A1 M c1) rfl 67 (lv A M0 c) K4 (lv_size _ _ _) rfl (lv_one _ _ _) ?_); intro w5 k5 g5 s5))
        go_roundw
        case rel => exact ⟨k + 1, A1, c1, by omega, by go_num, by rw [hmm'.out]; exact k5, by rw [hmm'.out]; exact isl_far I4 g5 K4, below_grown B4 B4.size g5 (Nat.le_refl _)⟩
        case measure => first | (simp [intOf]; done) | (simp [intOf]; omega))
    · obtain rfl : k = N := by omega
      have hq : decide ((k : Int) < (k : Int)) = false := by simp
      have hC := Lib.hid (all_c 0 A (min k 64) c (mks (min k 64)) wo HL.1 HL.2.1 (by omega) (by omega))
      have hcase : (min k 64 = 64 ∧ decide (64 < (k : Int)) = true) ∨ (min k 64 = k ∧ decide (64 < (k : Int)) = false) := by
        by_cases h : 64 < k
        · exact .inl ⟨by omega, by simp; omega⟩
        · exact .inr ⟨by omega, by simp; omega⟩
      rcases hcase with ⟨hm, q1⟩ | ⟨hm, q1⟩
      all_goals (
        rw [hm] at KX hC
        clear hm HL
        go_wp2_with (first
          | (with_reducible refine wl_load rfl 67 _ rfl w.heap.size rfl 67 (lv A _ c) _ KX Try.underlying67 rfl (lv_size _ _ _) ?_))
        refine (hC.out).mono ?_
        rintro r w2 ⟨⟨A1, c1, rfl, _⟩, b2⟩
        go_wp2_with fail
        refine (awake_c _).mono ?_
        rintro r w3 ⟨rfl, b3⟩
        go_wp2
        go_ret
        exact ⟨rfl, bl_then (bl_then HB b2) b3⟩)
end Go.Proofs.Ytcomgmgmpmjnkaa.AbortMost
