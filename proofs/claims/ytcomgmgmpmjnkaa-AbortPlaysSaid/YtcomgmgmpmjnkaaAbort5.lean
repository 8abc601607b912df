/- The chapter's example of package abort. -/
import Derived.Test.YtcomgmgmpmjnkaaAbort4
set_option linter.unusedVariables false
namespace Go.Proofs.Ytcomgmgmpmjnkaa.Abort5
open Go.RowKit Go.Proofs.Ytcomgmgmpmjnkaa.Base Go.Proofs.Ytcomgmgmpmjnkaa.Row Go.Proofs.Ytcomgmgmpmjnkaa.App Go.Proofs.Ytcomgmgmpmjnkaa.Multi Go.Proofs.Ytcomgmgmpmjnkaa.AbortMath Go.Proofs.Ytcomgmgmpmjnkaa.Abort Go.Proofs.Ytcomgmgmpmjnkaa.Abort2 Go.Proofs.Ytcomgmgmpmjnkaa.Abort3 Go.Proofs.Ytcomgmgmpmjnkaa.Abort4

theorem isl_nil (w : World) : IsL w none 0 0 [] := ist_nil _ _ _ _
theorem isl_len {w : World} {A : Option Addr} {n c : Nat} {l : List Wt} (h : IsL w A n c l) : n = l.length := ist_len h
theorem isl_far {w w1 : World} {A : Option Addr} {n c : Nat} {l : List Wt} (h : IsL w A n c l) {g : Nat} {cs' : Array Value} (hg : w.grownBy w1 (some g)) (hk : Blk w g 67 cs') : IsL w1 A n c l := ist_far h hg hk (by decide)
theorem isl_one {w : World} {A : Option Addr} {n c : Nat} {x : Wt} (h : IsL w A n c [x]) : ∃ g o, A = some ⟨g, o, none⟩ ∧ w.cell? ⟨g, o + 2, none⟩ = some (.int .i64 x.n) := by
  obtain rfl := isl_len h
  obtain ⟨g, o, y, e, hy, hr⟩ := h.1.at_ 0 (by simp)
  simp at hy
  subst hy
  rw [Nat.zero_mul, Nat.add_zero] at hr
  exact ⟨g, o, e, hr 2 _ rfl⟩
def wz : Wt := ⟨0, 0, 3, 2⟩
theorem wz_ask : pask [] wz = (0, [wz]) := by decide
theorem wz_out : outs [wz] = [⟨0, 0, 3, 1⟩] := by decide
theorem wz_due : dues [wz] = [] := by decide
theorem wz_due2 : dues [⟨0, 0, 3, 1⟩] = [⟨0, 0, 3, 0⟩] := by decide
theorem fit_one (x : Wt) (h : may x = true) : Fit [x] := ⟨by simp, by intro y hy; rw [List.mem_singleton] at hy; rw [hy]; exact h⟩

set_option maxRecDepth 100000 in
set_option maxHeartbeats 4000000 in
theorem awake_c (w : World) : Calls Try.prog 27 #[] w fun e w' => e = .returned (.bool true) ∧ Below w.heap.size w w' := by
  have hA := Lib.hid (fun w => ask_c none 0 0 [] wz w (isl_nil w) (by omega))
  have hT := Lib.hid (fun A c w h => turn_c A 1 c [wz] w h (by omega) (fit_one _ (by decide)))
  have hT2 := Lib.hid (fun A c w h => turn_c A 1 c [⟨0, 0, 3, 1⟩] w h (by omega) (fit_one _ (by decide)))
  go_enter Try.func27, Try.ntmps27
  go_wp2_with (first
    | ((with_reducible refine wl_alloc rfl 67 rfl (lv none 0 0) new_l ?_); intro w1 k1 b1 s1)
    | (with_reducible refine wl_load rfl 67 _ rfl w.heap.size rfl 67 (lv none 0 0) _ k1 Try.underlying67 rfl (lv_size _ _ _) ?_))
  refine (hA.out _).mono ?_
  rintro r w2 ⟨⟨A1, n1, c1, rfl, hI⟩, b2⟩
  rw [wz_ask] at hI ⊢
  obtain rfl : n1 = 1 := isl_len hI
  have k2 := k1.below b2
  have B2 := bl_then b1 b2
  clear k1
  go_wp2_with (first
    | ((refine wl_store rfl 67 _ _ rfl w.heap.size rfl (lv A1 1 c1) rfl 67 (lv none 0 0) k2 (lv_size _ _ _) rfl (lv_one _ _ _) ?_); intro w3 k3 g3 s3)
    | (with_reducible refine wl_load rfl 67 _ rfl w.heap.size rfl 67 (lv A1 1 c1) _ k3 Try.underlying67 rfl (lv_size _ _ _) ?_))
  have B3 := below_grown B2 B2.size g3 (Nat.le_refl _)
  have hI3 := isl_far hI g3 k2
  clear hI k2 B2 g3
  refine (hT.out A1 c1 w3 hI3).mono ?_
  rintro r w4 ⟨⟨A2, c2, A3, c3, rfl, hI2, _⟩, b4⟩
  rw [wz_out] at hI2 ⊢
  rw [wz_due]
  have k4 := k3.below b4
  have B4 := bl_then B3 b4
  clear k3 B3 hI3
  go_wp2_with (first
    | ((refine wl_store rfl 67 _ _ rfl w.heap.size rfl (lv A2 1 c2) rfl 67 (lv A1 1 c1) k4 (lv_size _ _ _) rfl (lv_one _ _ _) ?_); intro w5 k5 g5 s5)
    | (with_reducible refine wl_load rfl 67 _ rfl w.heap.size rfl 67 (lv A2 1 c2) _ k5 Try.underlying67 rfl (lv_size _ _ _) ?_))
  have B5 := below_grown B4 B4.size g5 (Nat.le_refl _)
  have hI5 := isl_far hI2 g5 k4
  clear hI2 k4 B4 g5
  refine (hT2.out A2 c2 w5 hI5).mono ?_
  rintro r w6 ⟨⟨A4, c4, A5, c5, rfl, _, hI6⟩, b6⟩
  rw [wz_due2] at hI6 ⊢
  have B6 := bl_then B5 b6
  clear k5 B5 hI5 b6 hA hT hT2
  go_wp2_with (first
    | ((with_reducible refine wl_alloc rfl 67 rfl (lv none 0 0) new_l ?_); intro w7 k7 b7 s7)
    | ((refine wl_store rfl 67 _ _ rfl w6.heap.size rfl (lv A4 (outs [⟨0, 0, 3, 1⟩]).length c4) rfl 67 (lv none 0 0) k7 (lv_size _ _ _) rfl (lv_one _ _ _) ?_); intro w8 k8 g8 s8; have hI8 := isl_far (ist_below hI6 b7) g8 k7; obtain ⟨gg, oo, rfl, cc⟩ := isl_one hI8))
  go_ret
  exact ⟨rfl, below_grown (bl_then B6 b7) (by have := B6.size; have := b7.size; omega) g8 B6.size⟩
end Go.Proofs.Ytcomgmgmpmjnkaa.Abort5
