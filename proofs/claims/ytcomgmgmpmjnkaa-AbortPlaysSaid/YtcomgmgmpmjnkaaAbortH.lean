/- Contract of package abort's Gone. -/
import Derived.Test.YtcomgmgmpmjnkaaAbortG
set_option linter.unusedVariables false
namespace Go.Proofs.Ytcomgmgmpmjnkaa.AbortH
open Go.RowKit Go.Proofs.Ytcomgmgmpmjnkaa.Base Go.Proofs.Ytcomgmgmpmjnkaa.Row Go.Proofs.Ytcomgmgmpmjnkaa.App Go.Proofs.Ytcomgmgmpmjnkaa.Multi Go.Proofs.Ytcomgmgmpmjnkaa.Out Go.Proofs.Ytcomgmgmpmjnkaa.Del Go.Proofs.Ytcomgmgmpmjnkaa.AbortMath Go.Proofs.Ytcomgmgmpmjnkaa.Abort Go.Proofs.Ytcomgmgmpmjnkaa.Abort2 Go.Proofs.Ytcomgmgmpmjnkaa.Abort3 Go.Proofs.Ytcomgmgmpmjnkaa.Abort4 Go.Proofs.Ytcomgmgmpmjnkaa.Abort6 Go.Proofs.Ytcomgmgmpmjnkaa.Abort9 Go.Proofs.Ytcomgmgmpmjnkaa.AbortB Go.Proofs.Ytcomgmgmpmjnkaa.AbortE Go.Proofs.Ytcomgmgmpmjnkaa.AbortF Go.Proofs.Ytcomgmgmpmjnkaa.AbortG

def GonePost (l : List Wt) (w w' : World) (r : Ending) : Prop := (∃ A1 n1 c1, r = .returned (.agg (lv A1 n1 c1)) ∧ IsL w' A1 n1 c1 l) ∧ Below w.heap.size w w'
set_option maxRecDepth 100000 in
set_option maxHeartbeats 2000000 in
theorem gone_c (A : Option Addr) (n c : Nat) (l : List Wt) (e : Int) (w : World) (hl : IsL w A n c l) (hn : n ≤ 64) :
    Calls Try.prog 33 #[.agg (lv A n c), .int .i64 e] w fun r w' => GonePost (gone l e) w w' r := by
  have hll := Lib.hid hl
  clear hl
  go_enter Try.func33, Try.ntmps33
  go_wp2_with (first
    | ((with_reducible refine wl_box rfl 67 _ rfl (lv A n c) rfl ?_); intro w1 k1 b1 s1)
    | ((with_reducible refine wl_box rfl 3 _ rfl #[.int .i64 e] rfl ?_); intro w2 k2 b2 s2)
    | ((with_reducible refine wl_alloc rfl 67 rfl (lv none 0 0) new_l ?_); intro w3 k3 b3 s3; have f0 := ((k1.below b2).below b3).cellv 0 (.slice A n c) rfl))
  have B3 := bl_then (bl_then b1 b2) b3
  have K2 := k2.below b3
  have z1 := b1.size
  have z2 := b2.size
  have z3 := b3.size
  clear k1 k2 b1 b2 b3
  go_wp2_with fail
  refine (clone_c w3.heap.size A n c l _ (hll.out.1.below B3) hll.out.2.1 (by omega) (Nat.le_refl _)).mono ?_
  rintro r w5 ⟨⟨A5, c5, rfl, HO5⟩, b5⟩
  have K3 := k3.below b5
  have K2 := K2.below b5
  have B5 := bl_then B3 b5
  have z5 := b5.size
  have zk := k3.lt
  clear f0 k3
  go_wp2_with fail
  refine (delf_c w3.heap.size A5 n c5 l e w1.heap.size _ HO5 hn z5 (by omega) (K2.cellv 0 _ rfl)).mono ?_
  rintro r w6 ⟨⟨A6, c6, rfl, HO6⟩, b6⟩
  have K6 : Blk w6 w2.heap.size 67 (lv none 0 0) := (b6.block w2.heap.size (by omega)).trans K3
  have z6 := b6.size
  have u2 := K6.cellv 0 _ rfl
  have u3 := K6.frozen 0
  obtain ⟨n9, hn9⟩ : ∃ n9, n9 = (gone l e).length := ⟨_, rfl⟩
  rw [← hn9] at HO6 ⊢
  have hZ : Blk (w6.setCell ⟨w2.heap.size, 0, none⟩ (.slice A6 n9 c6)) w2.heap.size 67 (lv A6 n9 c6) := K6.set_ 0 _
  have hI := Lib.hid (IsL.own (own_kept HO6 (grownBy_set w6 w2.heap.size 0 (.slice A6 n9 c6)) (by omega)))
  have hF := Lib.hid (bl_set (B5.trans (b6.mono (by omega))) (p := ⟨w2.heap.size, 0, none⟩) (by show w.heap.size ≤ w2.heap.size; omega) (.slice A6 n9 c6))
  clear hn9 K3 K6 HO5 HO6 B3 B5 b5 b6 K2
  go_wp2
  refine bodyPost_ret (res_cell rfl _ _ _ w2.heap.size 67 (lv A6 n9 c6) _ rfl hZ Try.underlying67 rfl (lv_size _ _ _)) rfl ?_
  exact ⟨⟨A6, n9, c6, rfl, hI.out⟩, hF.out⟩
end Go.Proofs.Ytcomgmgmpmjnkaa.AbortH
