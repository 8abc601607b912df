/- Contract of package abort's Back. -/
import Derived.Test.YtcomgmgmpmjnkaaAbort9
set_option linter.unusedVariables false
namespace Go.Proofs.Ytcomgmgmpmjnkaa.AbortB
open Go.RowKit Go.Proofs.Ytcomgmgmpmjnkaa.Base Go.Proofs.Ytcomgmgmpmjnkaa.Row Go.Proofs.Ytcomgmgmpmjnkaa.App Go.Proofs.Ytcomgmgmpmjnkaa.Multi Go.Proofs.Ytcomgmgmpmjnkaa.Del Go.Proofs.Ytcomgmgmpmjnkaa.AbortMath Go.Proofs.Ytcomgmgmpmjnkaa.Abort Go.Proofs.Ytcomgmgmpmjnkaa.Abort2 Go.Proofs.Ytcomgmgmpmjnkaa.Abort3 Go.Proofs.Ytcomgmgmpmjnkaa.Abort4 Go.Proofs.Ytcomgmgmpmjnkaa.Abort5 Go.Proofs.Ytcomgmgmpmjnkaa.Abort6 Go.Proofs.Ytcomgmgmpmjnkaa.Abort7 Go.Proofs.Ytcomgmgmpmjnkaa.Abort8 Go.Proofs.Ytcomgmgmpmjnkaa.Abort9

/-- The list in which a name is wanted no more. -/
def pback (l : List Wt) (e k n : Int) : List Wt := if has l e k n then l.eraseIdx (at_ l e k n) else l
def BackPost (l : List Wt) (e k nm : Int) (w w' : World) (r : Ending) : Prop := (∃ A1 n1 c1, r = .returned (.tuple #[.agg (lv A1 n1 c1), .bool (has l e k nm)]) ∧ IsL w' A1 n1 c1 (pback l e k nm)) ∧ Below w.heap.size w w'
theorem wI_neg {n m : Nat} (h : m < n) : decide (wI n m < 0) = false := by simp [wI, h]
theorem wI_pos {n m : Nat} (h : ¬ m < n) : decide (wI n m < 0) = true := by simp [wI, h]
theorem wI_is {n m : Nat} (h : m < n) : wI n m = (m : Int) := by simp [wI, h]
theorem own_no {w : World} {B : Nat} {e : TypeId} {sz n c : Nat} {xs : List Value} (h : w.ownsRow B e sz (.slice none n c) n xs) : n = 0 := by
  rcases h.2 with ⟨_, h2⟩ | ⟨g, cap, cur, hv, _⟩
  · exact h2
  · cases hv
theorem own_at0 {w : World} {B : Nat} {e : TypeId} {sz n c : Nat} {ad : Addr} {xs : List Value} (h : w.ownsRow B e sz (.slice (some ad) n c) n xs) : ∃ g, ad = ⟨g, 0, none⟩ := by
  rcases h.2 with ⟨h1, _⟩ | ⟨g, cap, cur, hv, _⟩
  · cases h1
  · injection hv with h1 _ _
    injection h1 with h1
    exact ⟨g, h1⟩
set_option maxRecDepth 100000 in
set_option maxHeartbeats 2000000 in
theorem back_c (A : Option Addr) (n c : Nat) (l : List Wt) (e k nm : Int) (w : World) (hl : IsL w A n c l) (hn : n ≤ 64) :
    Calls Try.prog 31 #[.agg (lv A n c), .int .i64 e, .int .i64 k, .int .i64 nm] w fun r w' => BackPost l e k nm w w' r := by
  have hAt := Lib.hid (fun w' (h : RF wv 4 w' A n l) => at_c A n c l e k nm w' h)
  have hll := Lib.hid hl
  have hlen := Lib.hid hl.1.len
  have hat := Lib.hid (at_has l e k nm)
  clear hl
  cases hh : has l e k nm with
  | false =>
    have hr := Lib.hid (show pback l e k nm = l by unfold pback; rw [hh]; rfl)
    have q := wI_pos (n := n) (m := at_ l e k nm) (by have h := hat.out; rw [hh] at h; have := of_decide_eq_false h.symm; have := hlen.out; omega)
    have hh' := Lib.hid hh
    clear hh
    generalize wI n (at_ l e k nm) = y at *
    go_enter Try.func31, Try.ntmps31
    go_wp2_with (first
      | ((with_reducible refine wl_box rfl 67 _ rfl (lv A n c) rfl ?_); intro w1 k1 b1 s1)
      | ((with_reducible refine wl_alloc rfl 67 rfl (lv none 0 0) new_l ?_); intro w3 k3 b3 s3; have K1 := k1.below b3)
      | (refine wl_load rfl 67 _ rfl w.heap.size rfl 67 (lv A n c) _ K1 Try.underlying67 rfl (lv_size _ _ _) ?_))
    have B3 := bl_then b1 b3
    refine (hAt.out _ (hll.out.1.below B3)).mono ?_
    rintro r w4 ⟨rfl, b4⟩
    have K1 := K1.below b4
    have K3 := k3.below b4
    have B4 := bl_then B3 b4
    have z1 := b1.size
    have z3 := b3.size
    have z4 := b4.size
    clear k1 k3 b1 b3 b4 B3
    go_wp2_with (first
      | (refine wl_load rfl 67 _ rfl w.heap.size rfl 67 (lv A n c) _ K1 Try.underlying67 rfl (lv_size _ _ _) ?_)
      | ((refine wl_store rfl 67 _ _ rfl w1.heap.size rfl (lv A n c) rfl 67 (lv none 0 0) K3 (lv_size _ _ _) rfl (lv_one _ _ _) ?_); intro w6 k6 g6 s6))
    have B6 := below_grown B4 B4.size g6 (by omega)
    refine bodyPost_ret (res_cell_tmp rfl _ _ _ w1.heap.size 67 (lv A n c) _ rfl k6 Try.underlying67 rfl (lv_size _ _ _)) rfl ?_
    refine ⟨⟨A, n, c, ?_, ?_⟩, B6⟩
    · rw [hh'.out]; rfl
    · rw [hr.out]; exact hll.out.below B6
  | true =>
    have hr := Lib.hid (show pback l e k nm = l.eraseIdx (at_ l e k nm) by unfold pback; rw [hh]; rfl)
    have hlt : at_ l e k nm < n := by have h := hat.out; rw [hh] at h; have := of_decide_eq_true h.symm; have := hlen.out; omega
    have hI := wI_is hlt
    have q := wI_neg hlt
    rw [hI] at q hAt
    have hh' := Lib.hid hh
    clear hh hI
    obtain ⟨m, hm⟩ : ∃ m, m = at_ l e k nm := ⟨_, rfl⟩
    rw [← hm] at hr hlt q hAt
    have e1 : wrap64 ((m : Int) + 1) = ((m + 1 : Nat) : Int) := by unfold wrap64; omega
    obtain ⟨j, hj⟩ : ∃ j, j = m + 1 := ⟨_, rfl⟩
    rw [← hj] at e1
    have hj' := Lib.hid hj
    have hm' := Lib.hid hm
    clear hm hj
    go_enter Try.func31, Try.ntmps31
    go_wp2_with (first
      | ((with_reducible refine wl_box rfl 67 _ rfl (lv A n c) rfl ?_); intro w1 k1 b1 s1)
      | ((with_reducible refine wl_alloc rfl 67 rfl (lv none 0 0) new_l ?_); intro w3 k3 b3 s3; have K1 := k1.below b3)
      | (refine wl_load rfl 67 _ rfl w.heap.size rfl 67 (lv A n c) _ K1 Try.underlying67 rfl (lv_size _ _ _) ?_))
    have B3 := bl_then b1 b3
    refine (hAt.out _ (hll.out.1.below B3)).mono ?_
    rintro r w4 ⟨rfl, b4⟩
    have K1 := K1.below b4
    have K3 := k3.below b4
    have B4 := bl_then B3 b4
    have z1 := b1.size
    have z3 := b3.size
    have z4 := b4.size
    clear k1 k3 b1 b3 b4 B3
    have f0 := K1.cellv 0 (.slice A n c) rfl
    go_wp2_with fail
    refine (clone_c w4.heap.size A n c l _ (hll.out.1.below B4) hll.out.2.1 (by omega) (Nat.le_refl _)).mono ?_
    rintro r w5 ⟨⟨A5, c5, rfl, HO5⟩, b5⟩
    have K3 := K3.below b5
    have B5 := bl_then B4 b5
    have z5 := b5.size
    clear f0 K1
    cases A5 with
    | none => exact absurd (own_no HO5) (by omega)
    | some ad =>
    obtain ⟨g, rfl⟩ := own_at0 HO5
    go_wp2_with fail
    have hD := delete_c w4.heap.size g c5 n m l _ HO5 hlt hn z5 (m + 1) rfl
    rw [show ((m + 1 : Nat) : Int) = (m : Int) + 1 by omega] at hD
    refine hD.mono ?_
    rintro r w6 ⟨⟨rfl, HO6⟩, b6⟩
    have K6 : Blk w6 w1.heap.size 67 (lv none 0 0) := (b6.block w1.heap.size (by omega)).trans K3
    have z6 := b6.size
    have u2 := K6.cellv 0 _ rfl
    have u3 := K6.frozen 0
    have hZ : Blk (w6.setCell ⟨w1.heap.size, 0, none⟩ (.slice (some ⟨g, 0, none⟩) (n - 1) c5)) w1.heap.size 67 (lv (some ⟨g, 0, none⟩) (n - 1) c5) := K6.set_ 0 _
    have hI := Lib.hid (IsL.own (own_kept HO6 (grownBy_set w6 w1.heap.size 0 (.slice (some ⟨g, 0, none⟩) (n - 1) c5)) (by omega)))
    have hF := Lib.hid (bl_set (B5.trans (b6.mono (by omega))) (p := ⟨w1.heap.size, 0, none⟩) (by show w.heap.size ≤ w1.heap.size; omega) (.slice (some ⟨g, 0, none⟩) (n - 1) c5))
    obtain ⟨n9, hn9⟩ : ∃ n9, n9 = n - 1 := ⟨_, rfl⟩
    rw [← hn9] at hZ hI hF ⊢
    clear hn9 K3 K6 HO5 HO6 B4 B5 b5 b6
    go_wp2
    refine bodyPost_ret (res_cell_tmp rfl _ _ _ w1.heap.size 67 (lv (some ⟨g, 0, none⟩) n9 c5) _ rfl hZ Try.underlying67 rfl (lv_size _ _ _)) rfl ?_
    refine ⟨⟨some ⟨g, 0, none⟩, n9, c5, ?_, ?_⟩, hF.out⟩
    · rw [hh'.out]; rfl
    · rw [hr.out]; exact hI.out
end Go.Proofs.Ytcomgmgmpmjnkaa.AbortB
