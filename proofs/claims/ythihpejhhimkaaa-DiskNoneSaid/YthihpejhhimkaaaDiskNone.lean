/- The law DiskNone. -/
import Derived.Test.YthihpejhhimkaaaDiskA
import Derived.Test.YthihpejhhimkaaaFlat
import Derived.Lib.SmallJoins
import Derived.ChangeArms
set_option linter.unusedVariables false
namespace Go.Proofs.Ythihpejhhimkaaa.DiskNone
open Go.RowKit Go.ChangeShapes Go.WideShapes Go.Deep Go.Joins Go.Proofs.Ythihpejhhimkaaa.Base Go.Proofs.Ythihpejhhimkaaa.Row Go.Proofs.Ythihpejhhimkaaa.App Go.Proofs.Ythihpejhhimkaaa.Multi Go.Proofs.Ythihpejhhimkaaa.StEq Go.Proofs.Ythihpejhhimkaaa.Held Go.Proofs.Ythihpejhhimkaaa.Out Go.Proofs.Ythihpejhhimkaaa.HeldW Go.Proofs.Ythihpejhhimkaaa.DiskMath Go.Proofs.Ythihpejhhimkaaa.Disk Go.Proofs.Ythihpejhhimkaaa.Disk2 Go.Proofs.Ythihpejhhimkaaa.Disk3 Go.Proofs.Ythihpejhhimkaaa.DiskR Go.Proofs.Ythihpejhhimkaaa.DiskN Go.Proofs.Ythihpejhhimkaaa.DiskA

theorem eq_d (x y : Bk) (w : World) : (Op.equalIn 10000 34 (.agg (bc x)) (.agg (bc y))).run Try.prog w = .ok (x.l == y.l) w := by
  obtain ⟨i0, hi, _, hz1, _⟩ := info_parts (show (Try.prog.info? 5).map (fun i => (i.zero, i.size, i.bytes)) = some (some (.int .u8 0), 1, 1) by kernel_rfl)
  exact run_eq_ints 9998 34 64 5 .u8 i0 Try.underlying34 Try.underlying5 hi hz1 x.l y.l x.h y.h
set_option maxRecDepth 100000 in
set_option maxHeartbeats 4000000 in
theorem main (n k b : Int) (v2 v3 : Value) (w : World) (hv2 : v2.oneCell' = true) (hv3 : v3.oneCell' = true) :
    Calls Try.prog 6 #[.int .i64 n, .agg #[.int .i64 k, .int .i64 b, v2, v3]] w fun e w' => e = .returned (.bool true) ∧ Below w.heap.size w w' := by
  go_enter Try.func6, Try.ntmps6
  go_wp2_with ((with_reducible refine wl_box rfl 31 (.tmp 1) rfl #[.int .i64 k, .int .i64 b, v2, v3] rfl ?_); intro w1 k1 b1 s1)
  refine (flush_nil w1).mono ?_
  rintro r w2 ⟨rfl, rfl⟩
  have f1 := k1.cellv 1 (.int .i64 b) rfl
  go_wp2_with fail
  refine (read_nil b w1).mono ?_
  rintro r w2 ⟨rfl, b2⟩
  have KE0 := k1.below b2
  have B2 := bl_then b1 b2
  clear f1 k1 b1 b2
  go_wp2_with (first
    | ((with_reducible refine wl_alloc rfl 34 rfl (bc zb) new_d ?_); intro w3 k3 b3 s3)
    | ((refine wl_store rfl 34 (.tmp 6) (.tmp 15) rfl w2.heap.size rfl (bc zb) rfl 34 (bc zb) k3 (sz_bc _) rfl (bc_one _) ?_); intro w4 k4 g4 s4))
  have b4 := below_grown b3 b3.size g4 (Nat.le_refl _)
  have KE := KE0.below b4
  have KB := k4
  have B := bl_drew (bl_then B2 b4)
  generalize w2.heap.size = gb at *
  clear KE0 k3 b3 g4 b4 k4
  refine wp_region_held_drew (S := (fun w' => Blk w' w.heap.size 31 #[.int .i64 k, .int .i64 b, v2, v3] ∧ Blk w' gb 34 (bc zb))) (by kernel_rfl) (⟨KE.drew, KB.drew⟩) (fun hHeld => ?_)
  refine wpAnyH_take (i := 0) (oi := { dst := some 17, op := Op.load 34 (Operand.tmp 6), type := 34, pos := "law.go:142", after := #[], guard := none }) (v := ?_) rfl (by kernel_rfl) (by kernel_rfl) (by kernel_rfl) (fun _ _ _ h => h) ?_ hHeld ?_
  rotate_left
  · refine yIf_load 34 (.tmp 6) gb 34 (bc zb) _ ?_ Try.underlying34 rfl (sz_bc zb) ?_ ?_ ?_
    · exact fun _ h => h.2
    · rfl
    · rfl
    · rfl
  try simp only [Act.put, List.setIfInBounds_toArray, List.set_cons_zero, List.set_cons_succ]
  refine wpAnyH_take (i := 1) (oi := { dst := some 18, op := Op.build 34 #[], type := 34, pos := "law.go:142", after := #[], guard := none }) (v := ?_) rfl (by kernel_rfl) (by kernel_rfl) (by kernel_rfl) (fun _ _ _ h => h) ?_ hHeld ?_
  rotate_left
  · refine yIf_build0 34 (bc zb) zero_d ?_ ?_
    · rfl
    · rfl
  try simp only [Act.put, List.setIfInBounds_toArray, List.set_cons_zero, List.set_cons_succ]
  refine wpAnyH_take (i := 2) (oi := { dst := some 19, op := Op.binOp BinOp.neq 34 (Operand.tmp 17) (Operand.tmp 18) 34, type := 4, pos := "law.go:142", after := #[{ on := 0, ground := Ground.data }, { on := 1, ground := Ground.data }], guard := none }) (v := ?_) rfl (by kernel_rfl) (by kernel_rfl) (by kernel_rfl) (fun _ _ _ h => h) ?_ hHeld ?_
  rotate_left
  · refine yIf_neq 34 (.tmp 17) (.tmp 18) 34 (bc zb) (bc zb) (by kernel_rfl) true (fun w => by rw [eq_d]; simp) ?_ ?_ ?_ ?_
    · rfl
    · rfl
    · rfl
    · rfl
  try simp only [Act.put, List.setIfInBounds_toArray, List.set_cons_zero, List.set_cons_succ]
  refine wpAnyH_take (i := 3) (oi := { dst := some 20, op := Op.move (Operand.tmp 19), type := 4, pos := "law.go:142", after := #[{ on := 2, ground := Ground.data }], guard := none }) (v := ?_) rfl (by kernel_rfl) (by kernel_rfl) (by kernel_rfl) (fun _ _ _ h => h) ?_ hHeld ?_
  rotate_left
  · refine Or.inl ⟨by rfl, fun w hSw => ?_⟩; skip; go_simp; (try with_reducible rfl)
  try simp only [Act.put, List.setIfInBounds_toArray, List.set_cons_zero, List.set_cons_succ]
  refine wpAnyH_take (i := 4) (oi := { dst := some 21, op := Op.move (Operand.tmp 7), type := 4, pos := "law.go:142", after := #[{ on := 3, ground := Ground.guard }], guard := some (3, false) }) (v := ?_) rfl (by kernel_rfl) (by kernel_rfl) (by kernel_rfl) (fun _ _ _ h => h) ?_ hHeld ?_
  rotate_left
  · refine Or.inl ⟨by rfl, fun w hSw => ?_⟩; skip; go_simp; (try with_reducible rfl)
  try simp only [Act.put, List.setIfInBounds_toArray, List.set_cons_zero, List.set_cons_succ]
  refine wpAnyH_take (i := 5) (oi := { dst := some 22, op := Op.pick (Operand.tmp 20) (Operand.const (Value.bool true)) (Operand.tmp 21), type := 4, pos := "law.go:142", after := #[{ on := 3, ground := Ground.data }, { on := 4, ground := Ground.data }], guard := none }) (v := ?_) rfl (by kernel_rfl) (by kernel_rfl) (by kernel_rfl) (fun _ _ _ h => h) ?_ hHeld ?_
  rotate_left
  · refine Or.inl ⟨by rfl, fun w hSw => ?_⟩; skip; go_simp; (try with_reducible rfl)
  try simp only [Act.put, List.setIfInBounds_toArray, List.set_cons_zero, List.set_cons_succ]
  refine wpAnyH_take (i := 6) (oi := { dst := some 23, op := Op.move (Operand.tmp 22), type := 4, pos := "law.go:142", after := #[{ on := 5, ground := Ground.data }, { on := 3, ground := Ground.chain }], guard := none }) (v := ?_) rfl (by kernel_rfl) (by kernel_rfl) (by kernel_rfl) (fun _ _ _ h => h) ?_ hHeld ?_
  rotate_left
  · refine Or.inl ⟨by rfl, fun w hSw => ?_⟩; skip; go_simp; (try with_reducible rfl)
  try simp only [Act.put, List.setIfInBounds_toArray, List.set_cons_zero, List.set_cons_succ]
  refine wpAnyH_take (i := 7) (oi := { dst := some 24, op := Op.move (Operand.tmp 5), type := 23, pos := "law.go:142", after := #[{ on := 6, ground := Ground.guard }], guard := some (6, false) }) (v := ?_) rfl (by kernel_rfl) (by kernel_rfl) (by kernel_rfl) (fun _ _ _ h => h) ?_ hHeld ?_
  rotate_left
  · refine Or.inl ⟨by rfl, fun w hSw => ?_⟩; skip; go_simp; (try with_reducible rfl)
  try simp only [Act.put, List.setIfInBounds_toArray, List.set_cons_zero, List.set_cons_succ]
  refine wpAnyH_take (i := 8) (oi := { dst := some 25, op := Op.fieldAddr 31 (Operand.tmp 3) 1, type := 0, pos := "law.go:142", after := #[{ on := 6, ground := Ground.guard }], guard := some (6, false) }) (v := ?_) rfl (by kernel_rfl) (by kernel_rfl) (by kernel_rfl) (fun _ _ _ h => h) ?_ hHeld ?_
  rotate_left
  · refine Or.inl ⟨by rfl, fun w hSw => ?_⟩; skip; go_simp; (try with_reducible rfl)
  try simp only [Act.put, List.setIfInBounds_toArray, List.set_cons_zero, List.set_cons_succ]
  refine wpAnyH_take (i := 9) (oi := { dst := some 26, op := Op.load 3 (Operand.tmp 25), type := 3, pos := "law.go:142", after := #[{ on := 8, ground := Ground.data }, { on := 6, ground := Ground.guard }], guard := some (6, false) }) (v := ?_) rfl (by kernel_rfl) (by kernel_rfl) (by kernel_rfl) (fun _ _ _ h => h) ?_ hHeld ?_
  rotate_left
  · refine Or.inl ⟨by rfl, fun w hSw => ?_⟩; have c0 := Blk.cellv hSw.1 1 (.int .i64 b) rfl; go_simp; (try with_reducible rfl)
  try simp only [Act.put, List.setIfInBounds_toArray, List.set_cons_zero, List.set_cons_succ]
  refine wpAnyH_take (i := 10) (oi := { dst := some 27, op := Op.build 34 #[], type := 34, pos := "law.go:142", after := #[{ on := 6, ground := Ground.guard }], guard := some (6, false) }) (v := ?_) rfl (by kernel_rfl) (by kernel_rfl) (by kernel_rfl) (fun _ _ _ h => h) ?_ hHeld ?_
  rotate_left
  · refine yIf_build0 34 (bc zb) zero_d ?_ ?_
    · rfl
    · rfl
  try simp only [Act.put, List.setIfInBounds_toArray, List.set_cons_zero, List.set_cons_succ]
  refine wpAnyH_ready (rs := [11]) (by kernel_rfl) (by simp) ?_
  refine AllReadyH.cons (o := { dst := some 28, op := Op.call { callee := Callee.value (Operand.func 17), args := #[Operand.tmp 24, Operand.tmp 26, Operand.tmp 27], argTypes := #[23, 3, 34] }, type := 4, pos := "law.go:142", after := #[{ on := 7, ground := Ground.data }, { on := 9, ground := Ground.data }, { on := 10, ground := Ground.data }, { on := 6, ground := Ground.chain }, { on := 6, ground := Ground.guard }], guard := some (6, false) }) rfl (fun Kc hKc => ?_) AllReadyH.nil
  go_simp
  refine (write_nil b zb _).mono ?_
  rintro r wa ⟨rfl, ba⟩
  have B := bl_then B ba
  refine hKc.out _ _ (⟨Blk.below hHeld.1 ba, Blk.below hHeld.2 ba⟩) (fun hHeld => ?_)
  clear hKc Kc
  try simp only [Act.put, List.setIfInBounds_toArray, List.set_cons_zero, List.set_cons_succ]
  refine wpAnyH_take (i := 12) (oi := { dst := some 29, op := Op.pick (Operand.tmp 23) (Operand.const (Value.bool true)) (Operand.tmp 28), type := 4, pos := "law.go:142", after := #[{ on := 6, ground := Ground.data }, { on := 11, ground := Ground.data }], guard := none }) (v := ?_) rfl (by kernel_rfl) (by kernel_rfl) (by kernel_rfl) (fun _ _ _ h => h) ?_ hHeld ?_
  rotate_left
  · refine Or.inl ⟨by rfl, fun w hSw => ?_⟩; skip; go_simp; (try with_reducible rfl)
  try simp only [Act.put, List.setIfInBounds_toArray, List.set_cons_zero, List.set_cons_succ]
  refine wpAnyH_take (i := 13) (oi := { dst := some 30, op := Op.move (Operand.tmp 29), type := 4, pos := "law.go:142", after := #[{ on := 12, ground := Ground.data }, { on := 11, ground := Ground.chain }], guard := none }) (v := ?_) rfl (by kernel_rfl) (by kernel_rfl) (by kernel_rfl) (fun _ _ _ h => h) ?_ hHeld ?_
  rotate_left
  · refine Or.inl ⟨by rfl, fun w hSw => ?_⟩; skip; go_simp; (try with_reducible rfl)
  try simp only [Act.put, List.setIfInBounds_toArray, List.set_cons_zero, List.set_cons_succ]
  refine wpAnyH_take (i := 14) (oi := { dst := some 31, op := Op.move (Operand.tmp 5), type := 23, pos := "law.go:142", after := #[{ on := 13, ground := Ground.guard }], guard := some (13, false) }) (v := ?_) rfl (by kernel_rfl) (by kernel_rfl) (by kernel_rfl) (fun _ _ _ h => h) ?_ hHeld ?_
  rotate_left
  · refine Or.inl ⟨by rfl, fun w hSw => ?_⟩; skip; go_simp; (try with_reducible rfl)
  try simp only [Act.put, List.setIfInBounds_toArray, List.set_cons_zero, List.set_cons_succ]
  refine wpAnyH_take (i := 16) (oi := { dst := some 33, op := Op.move (Operand.tmp 5), type := 23, pos := "law.go:142", after := #[{ on := 13, ground := Ground.guard }], guard := some (13, false) }) (v := ?_) rfl (by kernel_rfl) (by kernel_rfl) (by kernel_rfl) (fun _ _ _ h => h) ?_ hHeld ?_
  rotate_left
  · refine Or.inl ⟨by rfl, fun w hSw => ?_⟩; skip; go_simp; (try with_reducible rfl)
  try simp only [Act.put, List.setIfInBounds_toArray, List.set_cons_zero, List.set_cons_succ]
  refine wpAnyH_take (i := 20) (oi := { dst := some 37, op := Op.move (Operand.tmp 5), type := 23, pos := "law.go:142", after := #[{ on := 13, ground := Ground.guard }], guard := some (13, false) }) (v := ?_) rfl (by kernel_rfl) (by kernel_rfl) (by kernel_rfl) (fun _ _ _ h => h) ?_ hHeld ?_
  rotate_left
  · refine Or.inl ⟨by rfl, fun w hSw => ?_⟩; skip; go_simp; (try with_reducible rfl)
  try simp only [Act.put, List.setIfInBounds_toArray, List.set_cons_zero, List.set_cons_succ]
  refine wpAnyH_take (i := 21) (oi := { dst := some 38, op := Op.fieldAddr 31 (Operand.tmp 3) 3, type := 0, pos := "law.go:142", after := #[{ on := 13, ground := Ground.guard }], guard := some (13, false) }) (v := ?_) rfl (by kernel_rfl) (by kernel_rfl) (by kernel_rfl) (fun _ _ _ h => h) ?_ hHeld ?_
  rotate_left
  · refine Or.inl ⟨by rfl, fun w hSw => ?_⟩; skip; go_simp; (try with_reducible rfl)
  try simp only [Act.put, List.setIfInBounds_toArray, List.set_cons_zero, List.set_cons_succ]
  refine wpAnyH_take (i := 22) (oi := { dst := some 39, op := Op.load 29 (Operand.tmp 38), type := 29, pos := "law.go:142", after := #[{ on := 21, ground := Ground.data }, { on := 13, ground := Ground.guard }], guard := some (13, false) }) (v := ?_) rfl (by kernel_rfl) (by kernel_rfl) (by kernel_rfl) (fun _ _ _ h => h) ?_ hHeld ?_
  rotate_left
  · refine Or.inl ⟨by rfl, fun w hSw => ?_⟩; have c0 := Blk.cellv hSw.1 3 v3 rfl; go_simp; (try with_reducible rfl)
  try simp only [Act.put, List.setIfInBounds_toArray, List.set_cons_zero, List.set_cons_succ]
  refine wpAnyH_ready (rs := [15]) (by kernel_rfl) (by simp) ?_
  refine AllReadyH.cons (o := { dst := some 32, op := Op.call { callee := Callee.value (Operand.func 21), args := #[Operand.tmp 31], argTypes := #[23] }, type := 3, pos := "law.go:142", after := #[{ on := 14, ground := Ground.data }, { on := 13, ground := Ground.chain }, { on := 13, ground := Ground.guard }], guard := some (13, false) }) rfl (fun Kc hKc => ?_) AllReadyH.nil
  go_simp
  refine (len_nil _).mono ?_
  rintro r wx ⟨rfl, rfl⟩
  refine hKc.out _ _ (hHeld) (fun hHeld => ?_)
  clear hKc Kc
  try simp only [Act.put, List.setIfInBounds_toArray, List.set_cons_zero, List.set_cons_succ]
  refine wpAnyH_ready (rs := [17]) (by kernel_rfl) (by simp) ?_
  refine AllReadyH.cons (o := { dst := some 34, op := Op.call { callee := Callee.value (Operand.func 20), args := #[Operand.tmp 33], argTypes := #[23] }, type := 46, pos := "law.go:142", after := #[{ on := 16, ground := Ground.data }, { on := 15, ground := Ground.chain }, { on := 13, ground := Ground.guard }], guard := some (13, false) }) rfl (fun Kc hKc => ?_) AllReadyH.nil
  go_simp
  refine (waiting_nil _).mono ?_
  rintro r wx ⟨rfl, rfl⟩
  refine hKc.out _ _ (hHeld) (fun hHeld => ?_)
  clear hKc Kc
  try simp only [Act.put, List.setIfInBounds_toArray, List.set_cons_zero, List.set_cons_succ]
  refine wpAnyH_take (i := 18) (oi := { dst := some 35, op := Op.call { callee := Callee.builtin Builtin.len, args := #[Operand.tmp 34], argTypes := #[46] }, type := 3, pos := "law.go:142", after := #[{ on := 17, ground := Ground.data }, { on := 13, ground := Ground.guard }], guard := some (13, false) }) (v := ?_) rfl (by kernel_rfl) (by kernel_rfl) (by kernel_rfl) (fun _ _ _ h => h) ?_ hHeld ?_
  rotate_left
  · refine Or.inl ⟨by rfl, fun w hSw => ?_⟩; skip; go_simp; (try with_reducible rfl)
  try simp only [Act.put, List.setIfInBounds_toArray, List.set_cons_zero, List.set_cons_succ]
  refine wpAnyH_take (i := 19) (oi := { dst := some 36, op := Op.binOp BinOp.add 3 (Operand.tmp 32) (Operand.tmp 35) 3, type := 3, pos := "law.go:142", after := #[{ on := 15, ground := Ground.data }, { on := 18, ground := Ground.data }, { on := 13, ground := Ground.guard }], guard := some (13, false) }) (v := ?_) rfl (by kernel_rfl) (by kernel_rfl) (by kernel_rfl) (fun _ _ _ h => h) ?_ hHeld ?_
  rotate_left
  · refine Or.inl ⟨by rfl, fun w hSw => ?_⟩; skip; go_simp; (try with_reducible rfl)
  try simp only [Act.put, List.setIfInBounds_toArray, List.set_cons_zero, List.set_cons_succ]
  refine wpAnyH_ready (rs := [23]) (by kernel_rfl) (by simp) ?_
  refine AllReadyH.cons (o := { dst := some 40, op := Op.call { callee := Callee.value (Operand.func 19), args := #[Operand.tmp 37, Operand.tmp 39], argTypes := #[23, 29] }, type := 3, pos := "law.go:142", after := #[{ on := 20, ground := Ground.data }, { on := 22, ground := Ground.data }, { on := 17, ground := Ground.chain }, { on := 13, ground := Ground.guard }], guard := some (13, false) }) rfl (fun Kc hKc => ?_) AllReadyH.nil
  go_simp
  refine (crash_nil v3 _).mono ?_
  rintro r wx ⟨rfl, rfl⟩
  refine hKc.out _ _ (hHeld) (fun hHeld => ?_)
  clear hKc Kc
  try simp only [Act.put, List.setIfInBounds_toArray, List.set_cons_zero, List.set_cons_succ]
  refine wpAnyH_take (i := 24) (oi := { dst := some 41, op := Op.binOp BinOp.add 3 (Operand.tmp 36) (Operand.tmp 40) 3, type := 3, pos := "law.go:142", after := #[{ on := 19, ground := Ground.data }, { on := 23, ground := Ground.data }, { on := 13, ground := Ground.guard }], guard := some (13, false) }) (v := ?_) rfl (by kernel_rfl) (by kernel_rfl) (by kernel_rfl) (fun _ _ _ h => h) ?_ hHeld ?_
  rotate_left
  · refine Or.inl ⟨by rfl, fun w hSw => ?_⟩; skip; go_simp; (try with_reducible rfl)
  try simp only [Act.put, List.setIfInBounds_toArray, List.set_cons_zero, List.set_cons_succ]
  refine wpAnyH_take (i := 25) (oi := { dst := some 42, op := Op.binOp BinOp.neq 3 (Operand.tmp 41) (Operand.const (Value.int IntKind.i64 0)) 3, type := 4, pos := "law.go:142", after := #[{ on := 24, ground := Ground.data }, { on := 13, ground := Ground.guard }], guard := some (13, false) }) (v := ?_) rfl (by kernel_rfl) (by kernel_rfl) (by kernel_rfl) (fun _ _ _ h => h) ?_ hHeld ?_
  rotate_left
  · refine Or.inl ⟨by rfl, fun w hSw => ?_⟩; skip; go_simp; (try with_reducible rfl)
  try simp only [Act.put, List.setIfInBounds_toArray, List.set_cons_zero, List.set_cons_succ]
  refine wpAnyH_take (i := 26) (oi := { dst := some 43, op := Op.pick (Operand.tmp 30) (Operand.const (Value.bool true)) (Operand.tmp 42), type := 4, pos := "law.go:142", after := #[{ on := 13, ground := Ground.data }, { on := 25, ground := Ground.data }], guard := none }) (v := ?_) rfl (by kernel_rfl) (by kernel_rfl) (by kernel_rfl) (fun _ _ _ h => h) ?_ hHeld ?_
  rotate_left
  · refine Or.inl ⟨by rfl, fun w hSw => ?_⟩; skip; go_simp; (try with_reducible rfl)
  try simp only [Act.put, List.setIfInBounds_toArray, List.set_cons_zero, List.set_cons_succ]
  refine wpAnyH_take (i := 27) (oi := { dst := some 44, op := Op.move (Operand.tmp 43), type := 4, pos := "law.go:142", after := #[{ on := 26, ground := Ground.data }, { on := 23, ground := Ground.chain }], guard := none }) (v := ?_) rfl (by kernel_rfl) (by kernel_rfl) (by kernel_rfl) (fun _ _ _ h => h) ?_ hHeld ?_
  rotate_left
  · refine Or.inl ⟨by rfl, fun w hSw => ?_⟩; skip; go_simp; (try with_reducible rfl)
  try simp only [Act.put, List.setIfInBounds_toArray, List.set_cons_zero, List.set_cons_succ]
  refine wpAnyH_take (i := 28) (oi := { dst := some 45, op := Op.move (Operand.tmp 5), type := 23, pos := "law.go:142", after := #[{ on := 27, ground := Ground.guard }], guard := some (27, false) }) (v := ?_) rfl (by kernel_rfl) (by kernel_rfl) (by kernel_rfl) (fun _ _ _ h => h) ?_ hHeld ?_
  rotate_left
  · refine Or.inl ⟨by rfl, fun w hSw => ?_⟩; skip; go_simp; (try with_reducible rfl)
  try simp only [Act.put, List.setIfInBounds_toArray, List.set_cons_zero, List.set_cons_succ]
  refine wpAnyH_ready (rs := [29]) (by kernel_rfl) (by simp) ?_
  refine AllReadyH.cons (o := { dst := some 46, op := Op.call { callee := Callee.value (Operand.func 16), args := #[Operand.tmp 45], argTypes := #[23] }, type := 23, pos := "law.go:142", after := #[{ on := 28, ground := Ground.data }, { on := 27, ground := Ground.chain }, { on := 27, ground := Ground.guard }], guard := some (27, false) }) rfl (fun Kc hKc => ?_) AllReadyH.nil
  go_simp
  refine (twin_nil _).mono ?_
  rintro r wx ⟨rfl, rfl⟩
  refine hKc.out _ _ (hHeld) (fun hHeld => ?_)
  clear hKc Kc
  try simp only [Act.put, List.setIfInBounds_toArray, List.set_cons_zero, List.set_cons_succ]
  refine wpAnyH_take (i := 30) (oi := { dst := some 47, op := Op.binOp BinOp.neq 23 (Operand.tmp 46) (Operand.const (Value.pointer none)) 23, type := 4, pos := "law.go:142", after := #[{ on := 29, ground := Ground.data }, { on := 27, ground := Ground.guard }], guard := some (27, false) }) (v := ?_) rfl (by kernel_rfl) (by kernel_rfl) (by kernel_rfl) (fun _ _ _ h => h) ?_ hHeld ?_
  rotate_left
  · refine Or.inl ⟨by rfl, fun w hSw => ?_⟩; skip; go_simp; (try with_reducible rfl)
  try simp only [Act.put, List.setIfInBounds_toArray, List.set_cons_zero, List.set_cons_succ]
  refine wpAnyH_take (i := 31) (oi := { dst := some 48, op := Op.pick (Operand.tmp 44) (Operand.const (Value.bool true)) (Operand.tmp 47), type := 4, pos := "law.go:142", after := #[{ on := 27, ground := Ground.data }, { on := 30, ground := Ground.data }], guard := none }) (v := ?_) rfl (by kernel_rfl) (by kernel_rfl) (by kernel_rfl) (fun _ _ _ h => h) ?_ hHeld ?_
  rotate_left
  · refine Or.inl ⟨by rfl, fun w hSw => ?_⟩; skip; go_simp; (try with_reducible rfl)
  try simp only [Act.put, List.setIfInBounds_toArray, List.set_cons_zero, List.set_cons_succ]
  refine wpAnyH_done (by kernel_rfl) ?_ _
  have hcase : (decide (n < 1) = true ∧ (n < 1 ∨ 512 < n)) ∨ (decide (n < 1) = false ∧ decide (512 < n) = true ∧ (n < 1 ∨ 512 < n)) ∨ (decide (n < 1) = false ∧ decide (512 < n) = false ∧ 1 ≤ n ∧ n ≤ 512) := by
    by_cases h1 : n < 1
    · exact .inl ⟨by simpa using h1, .inl h1⟩
    · by_cases h2 : 512 < n
      · exact .inr (.inl ⟨by simpa using h1, by simpa using h2, .inr h2⟩)
      · exact .inr (.inr ⟨by simpa using h1, by simpa using h2, by omega, by omega⟩)
  rcases hcase with ⟨q1, h⟩ | ⟨q1, q2, h⟩ | ⟨q1, q2, h1, h2⟩
  · go_wp2_with fail
    refine (new_no n h _).mono ?_
    rintro r wx ⟨rfl, rfl⟩
    clear h
    go_wp2_with fail
    refine (awake_c _).mono ?_
    rintro r wz ⟨rfl, bz⟩
    go_wp2_with fail
    go_ret
    exact ⟨rfl, bl_then B bz⟩
  · go_wp2_with fail
    refine (new_no n h _).mono ?_
    rintro r wx ⟨rfl, rfl⟩
    clear h
    go_wp2_with fail
    refine (awake_c _).mono ?_
    rintro r wz ⟨rfl, bz⟩
    go_wp2_with fail
    go_ret
    exact ⟨rfl, bl_then B bz⟩
  · obtain ⟨m, rfl⟩ : ∃ m : Nat, n = m := ⟨n.toNat, by omega⟩
    go_wp2_with fail
    refine (mine_new m (by omega) (by omega) _).mono ?_
    rintro r wx ⟨g, rfl, M⟩
    have bx := M.bl
    clear M h1 h2
    go_wp2_with fail
    refine (awake_c _).mono ?_
    rintro r wz ⟨rfl, bz⟩
    go_wp2_with fail
    go_ret
    exact ⟨rfl, bl_then (bl_then B bx) bz⟩

/-- What the second argument is. -/
def Arg (i : Nat) (w : World) (v : Value) : Prop := ∃ k b v2 v3, v = .agg #[.int .i64 k, .int .i64 b, v2, v3] ∧ v2.oneCell' = true ∧ v3.oneCell' = true
theorem arg1 {H : Type} {enc : TypeId × Value → H} {W : World} {base : Nat} {v : Value} {d : DataW H} {p : List MemPlace} (hv : Value.okWide Try.prog W .any base 31 v)
    (h : DataW.Trod enc Try.prog W 0 (fun _ => true) true 31 v d p) : Arg 1 W v := by
  obtain ⟨v0, v1, v2, v3, y0, y1, y2, y3, n, rfl, _, _, h0, h1, h2, h3⟩ := open_agg4 Try.underlying31 (by kernel_rfl) (by kernel_rfl) hv h
  obtain ⟨a, ha, _, _⟩ := DataW.trod_int Try.underlying3 h0
  obtain ⟨b, hb, _, _⟩ := DataW.trod_int Try.underlying3 h1
  injection ha with ha
  injection hb with hb
  subst ha hb
  refine ⟨a, b, v2, v3, rfl, ?_, ?_⟩
  · rcases open_slice Try.underlying28 h2 with ⟨hcs, _⟩ | ⟨x, l, c, m, n', D, Pl, hcs, _⟩
    · injection hcs with hcs
      subst hcs; rfl
    · injection hcs with hcs
      subst hcs; rfl
  · rcases open_slice Try.underlying29 h3 with ⟨hcs, _⟩ | ⟨x, l, c, m, n', D, Pl, hcs, _⟩
    · injection hcs with hcs
      subst hcs; rfl
    · injection hcs with hcs
      subst hcs; rfl
theorem walk (n : Int) (v : Value) (w : World) (_ : (Lit.int .i64 n).wf = true) (h1 : Arg 1 w v) :
    Calls Try.prog 6 #[.int .i64 n, v] w fun e w' => e = .returned (.bool true) ∧ Below w.heap.size w w' := by
  obtain ⟨k, b, v2, v3, rfl, h2, h3⟩ := h1
  exact main n k b v2 v3 w h2 h3
end Go.Proofs.Ythihpejhhimkaaa.DiskNone
