/- Contracts of package disk: nil disks; blocks that there are not. -/
import Derived.Test.YthihpejhhimkaaaDiskR
set_option linter.unusedVariables false
namespace Go.Proofs.Ythihpejhhimkaaa.DiskN
open Go.RowKit Go.Shelf Go.Proofs.Ythihpejhhimkaaa.Base Go.Proofs.Ythihpejhhimkaaa.Row Go.Proofs.Ythihpejhhimkaaa.App Go.Proofs.Ythihpejhhimkaaa.Multi Go.Proofs.Ythihpejhhimkaaa.StEq Go.Proofs.Ythihpejhhimkaaa.Held Go.Proofs.Ythihpejhhimkaaa.Out Go.Proofs.Ythihpejhhimkaaa.HeldW Go.Proofs.Ythihpejhhimkaaa.DiskMath Go.Proofs.Ythihpejhhimkaaa.Disk Go.Proofs.Ythihpejhhimkaaa.Disk3 Go.Proofs.Ythihpejhhimkaaa.Disk4 Go.Proofs.Ythihpejhhimkaaa.DiskR

theorem zero_d : Try.prog.built 34 [] = some (bc zb) := by kernel_rfl
set_option maxRecDepth 100000 in
set_option maxHeartbeats 2000000 in
theorem read_neg (p : Option Addr) (b : Int) (w : World) (hb : b < 0) :
    Calls Try.prog 12 #[.pointer p, .int .i64 b] w fun r w' => r = .returned (.tuple #[.agg (bc zb), .bool false]) ∧ Below w.heap.size w w' := by
  have q1 : decide (b < 0) = true := by simpa using hb
  clear hb
  go_enter Try.func12, Try.ntmps12
  go_wp2_with (first
    | ((refine wl_box rfl 3 (.tmp 1) rfl #[.int .i64 b] rfl ?_); intro w1 k1 b1 s1)
    | ((with_reducible refine wl_alloc rfl 34 rfl (bc zb) new_d ?_); intro w2 k2 b2 s2)
    | ((with_reducible refine wl_alloc rfl 4 rfl #[.bool false] new_b ?_); intro w3 k3 b3 s3))
  have f1 := ((k1.below b2).below b3).cellv 0 (.int .i64 b) rfl
  have K2 := k2.below b3
  have B3 := bl_then (bl_then b1 b2) b3
  have z1 := b1.size
  have z2 := b2.size
  clear k1 k2 b1 b2 b3
  go_quiet (fail)
  replace K2 := K2.drewN nq
  replace k3 := k3.drewN nq
  replace B3 := bl_drewN B3 nq
  clear f1
  obtain ⟨w4, hw4⟩ : ∃ w4, w4 = w3.drewN nq := ⟨_, rfl⟩
  rw [← hw4] at K2 k3 B3 ⊢
  clear hw4
  go_wp2_with (first
    | (with_reducible refine wl_build0 rfl 34 rfl (bc zb) zero_d ?_)
    | ((refine wl_store rfl 34 (.tmp 4) (.tmp 16) rfl w1.heap.size rfl (bc zb) rfl 34 (bc zb) K2 (sz_bc zb) rfl (bc_one zb) ?_); intro w5 k5 g5 s5; have J3 := k3.grown g5 (fun e => by injection e with e; omega))
    | ((refine wl_set rfl 4 (.tmp 5) (.const (.bool false)) rfl w2.heap.size 0 rfl (.bool false) rfl rfl 4 #[.bool false] J3 (by kernel_rfl) (by simp) ?_); intro w6 k6 g6 s6))
  have k5' := k5.grown g6 (fun e => by injection e with e; omega)
  refine bodyPost_ret (res_cell_cell rfl _ _ _ w1.heap.size w2.heap.size 34 4 (bc zb) _ _ rfl k5' Try.underlying34 rfl (sz_bc zb) rfl (load_bool _ _ _ k6)) rfl ?_
  exact ⟨rfl, below_grown (below_grown B3 B3.size g5 (by omega)) (Nat.le_trans B3.size g5.size) g6 (by omega)⟩
set_option maxRecDepth 100000 in
set_option maxHeartbeats 2000000 in
theorem read_off (p : Option Addr) (n : Nat) (b : Int) (w : World) (hb : 0 ≤ b) (hn : (n : Int) ≤ b) (hlen : ∀ w', Below w.heap.size w w' → Calls Try.prog 21 #[.pointer p] w' fun r w'' => r = .returned (.int .i64 n) ∧ w' = w'') :
    Calls Try.prog 12 #[.pointer p, .int .i64 b] w fun r w' => r = .returned (.tuple #[.agg (bc zb), .bool false]) ∧ Below w.heap.size w w' := by
  have q1 : decide (b < 0) = false := by simp; omega
  have q2 : decide ((n : Int) ≤ b) = true := by simpa using hn
  have hlen' := Lib.hid hlen
  clear hb hn hlen
  go_enter Try.func12, Try.ntmps12
  go_wp2_with (first
    | ((refine wl_box rfl 3 (.tmp 1) rfl #[.int .i64 b] rfl ?_); intro w1 k1 b1 s1)
    | ((with_reducible refine wl_alloc rfl 34 rfl (bc zb) new_d ?_); intro w2 k2 b2 s2)
    | ((with_reducible refine wl_alloc rfl 4 rfl #[.bool false] new_b ?_); intro w3 k3 b3 s3))
  have f1 := ((k1.below b2).below b3).cellv 0 (.int .i64 b) rfl
  have K2 := k2.below b3
  have B3 := bl_then (bl_then b1 b2) b3
  have z1 := b1.size
  have z2 := b2.size
  clear k1 k2 b1 b2 b3
  go_quiet (exact Calls.quiet_of_same (flip (hlen'.out _ (bl_drewN B3 _))))
  replace K2 := K2.drewN nq
  replace k3 := k3.drewN nq
  replace B3 := bl_drewN B3 nq
  clear f1
  obtain ⟨w4, hw4⟩ : ∃ w4, w4 = w3.drewN nq := ⟨_, rfl⟩
  rw [← hw4] at K2 k3 B3 ⊢
  clear hw4
  go_wp2_with (first
    | (with_reducible refine wl_build0 rfl 34 rfl (bc zb) zero_d ?_)
    | ((refine wl_store rfl 34 (.tmp 4) (.tmp 16) rfl w1.heap.size rfl (bc zb) rfl 34 (bc zb) K2 (sz_bc zb) rfl (bc_one zb) ?_); intro w5 k5 g5 s5; have J3 := k3.grown g5 (fun e => by injection e with e; omega))
    | ((refine wl_set rfl 4 (.tmp 5) (.const (.bool false)) rfl w2.heap.size 0 rfl (.bool false) rfl rfl 4 #[.bool false] J3 (by kernel_rfl) (by simp) ?_); intro w6 k6 g6 s6))
  have k5' := k5.grown g6 (fun e => by injection e with e; omega)
  refine bodyPost_ret (res_cell_cell rfl _ _ _ w1.heap.size w2.heap.size 34 4 (bc zb) _ _ rfl k5' Try.underlying34 rfl (sz_bc zb) rfl (load_bool _ _ _ k6)) rfl ?_
  exact ⟨rfl, below_grown (below_grown B3 B3.size g5 (by omega)) (Nat.le_trans B3.size g5.size) g6 (by omega)⟩
theorem read_nil (b : Int) (w : World) : Calls Try.prog 12 #[.pointer none, .int .i64 b] w fun r w' => r = .returned (.tuple #[.agg (bc zb), .bool false]) ∧ Below w.heap.size w w' := by
  by_cases h : b < 0
  · exact read_neg none b w h
  · exact read_off none 0 b w (by omega) (by omega) (fun w' _ => len_nil w')
set_option maxRecDepth 100000 in
theorem flush_nil (w : World) : Calls Try.prog 15 #[.pointer none] w fun r w' => r = .returned (.tuple #[]) ∧ w = w' := by
  go_enter Try.func15, Try.ntmps15
  go_wp2
  exact bodyPost_ret (results_none rfl _ _ _) rfl ⟨rfl, rfl⟩
theorem waiting_nil (w : World) : Calls Try.prog 20 #[.pointer none] w fun r w' => r = .returned (.slice none 0 0) ∧ w = w' := by
  go_enter Try.func20, Try.ntmps20
  go_wp2
  go_ret
  exact ⟨rfl, rfl⟩
theorem crash_nil (v : Value) (w : World) : Calls Try.prog 19 #[.pointer none, v] w fun r w' => r = .returned (.int .i64 0) ∧ w = w' := by
  go_enter Try.func19, Try.ntmps19
  go_wp2
  go_ret
  exact ⟨rfl, rfl⟩
theorem twin_nil (w : World) : Calls Try.prog 16 #[.pointer none] w fun r w' => r = .returned (.pointer none) ∧ w = w' := by
  go_enter Try.func16, Try.ntmps16
  go_wp2
  go_ret
  exact ⟨rfl, rfl⟩
end Go.Proofs.Ythihpejhhimkaaa.DiskN
