/- The law AbiChecks. -/
import Derived.Test.YteokofkdfeglnaaAbi7
import Derived.Test.YteokofkdfeglnaaAbiArg
import Derived.Test.YteokofkdfeglnaaHeld
set_option linter.unusedVariables false
namespace Go.Proofs.Yteokofkdfeglnaa.AbiChecks
open Go.RowKit Go.ChangeShapes Go.WideShapes Go.Deep Go.Proofs.Yteokofkdfeglnaa.Base Go.Proofs.Yteokofkdfeglnaa.Row Go.Proofs.Yteokofkdfeglnaa.App Go.Proofs.Yteokofkdfeglnaa.Multi Go.Proofs.Yteokofkdfeglnaa.Abi Go.Proofs.Yteokofkdfeglnaa.Abi2 Go.Proofs.Yteokofkdfeglnaa.Abi3 Go.Proofs.Yteokofkdfeglnaa.Abi4 Go.Proofs.Yteokofkdfeglnaa.StEq Go.Proofs.Yteokofkdfeglnaa.Held Go.Proofs.Yteokofkdfeglnaa.Abi5 Go.Proofs.Yteokofkdfeglnaa.Abi6 Go.Proofs.Yteokofkdfeglnaa.Abi7 Go.Proofs.Yteokofkdfeglnaa.AbiArg

theorem sz_ca (op n0 n1 n2 n3 : Int) (ws rs : List Int) (pc : Int) (hw : ws.length = 16) (hr : rs.length = 16) : (Try.prog.info? 29).map (·.size) = some (ca op n0 n1 n2 n3 ws rs pc).size := by rw [ca_size _ _ _ _ _ _ _ _ hw hr]; kernel_rfl
set_option maxRecDepth 100000 in
set_option maxHeartbeats 4000000 in
theorem mainF (op n0 n1 n2 n3 : Int) (ws rs : List Int) (pc : Int) (hw : ws.length = 16) (hr : rs.length = 16) (w : World) (hv : okc (F op) op n0 n1 n2 n3 ws rs pc = false) :
    Calls Try.prog 3 #[.agg (ca op n0 n1 n2 n3 ws rs pc)] w fun e w' => e = .returned (.bool true) ∧ Below w.heap.size w w' := by
  have hR := Lib.hid (fun w => right_c op n0 n1 n2 n3 ws rs pc hw hr w)
  have hC := Lib.hid (fun w => check_c op n0 n1 n2 n3 ws rs pc hw hr w)
  have hK := Lib.hid (fun w => known_c op w)
  have hF := Lib.hid (fun w => rform_c op w)
  have hz := Lib.hid (sz_ca op n0 n1 n2 n3 ws rs pc hw hr)
  have hA := Lib.hid (fun w => awake_c w)
  have hkn : Hid (Kn (F op) = !((F op).toList == [45])) := Lib.hid rfl
  rw [hv] at hR hC
  clear hv hw hr
  generalize Kn (F op) = u at *
  generalize F op = s at *
  rw [show ckv false = 1 from rfl] at hC
  go_enter Try.func3, Try.ntmps3
  go_wp2_with (first
    | ((with_reducible refine wl_box rfl 29 _ rfl (ca op n0 n1 n2 n3 ws rs pc) rfl ?_); intro w1 k1 b1 s1)
    | (with_reducible refine wl_load rfl 29 _ rfl w.heap.size rfl 29 (ca op n0 n1 n2 n3 ws rs pc) _ k1 Try.underlying29 rfl hz.out ?_))
  refine (hR.out _).mono ?_
  rintro r w2 ⟨rfl, b2⟩
  have K := k1.below b2
  have B := bl_then b1 b2
  clear k1 b1 b2 hR s1
  go_wp2_with fail
  replace K := K.drew
  replace B := bl_drew B
  have hu : (u == !(s.toList == [45])) = true := by rw [hkn.out]; simp
  refine wp_region_held_drew (S := (fun w' => Blk w' w.heap.size 29 (ca op n0 n1 n2 n3 ws rs pc))) (by kernel_rfl) (K) (fun hHeld => ?_)
  refine wpAnyH_take (i := 0) (oi := { dst := some 6, op := Op.load 29 (Operand.tmp 1), type := 29, pos := "law.go:22", after := #[], guard := none }) (v := ?_) rfl (by kernel_rfl) (by kernel_rfl) (by kernel_rfl) (fun _ _ _ h => h) ?_ hHeld ?_
  rotate_left
  · refine yIf_load 29 (.tmp 1) w.heap.size 29 (ca op n0 n1 n2 n3 ws rs pc) _ ?_ Try.underlying29 rfl hz.out ?_ ?_ ?_
    · exact fun _ h => h
    · rfl
    · rfl
    · rfl
  try simp only [Act.put, List.setIfInBounds_toArray, List.set_cons_zero, List.set_cons_succ]
  refine wpAnyH_take (i := 2) (oi := { dst := some 8, op := Op.move (Operand.tmp 3), type := 30, pos := "law.go:22", after := #[], guard := none }) (v := ?_) rfl (by kernel_rfl) (by kernel_rfl) (by kernel_rfl) (fun _ _ _ h => h) ?_ hHeld ?_
  rotate_left
  · refine Or.inl ⟨by rfl, fun w hSw => ?_⟩; have c0 := Blk.cellv hSw 0 (.int .i64 op) rfl; go_simp; (try with_reducible rfl)
  try simp only [Act.put, List.setIfInBounds_toArray, List.set_cons_zero, List.set_cons_succ]
  refine wpAnyH_ready (rs := [1]) (by kernel_rfl) (by simp) ?_
  refine AllReadyH.cons (o := { dst := some 7, op := Op.call { callee := Callee.value (Operand.func 11), args := #[Operand.tmp 6], argTypes := #[29] }, type := 30, pos := "law.go:22", after := #[{ on := 0, ground := Ground.data }], guard := none }) rfl (fun Kc hKc => ?_) AllReadyH.nil
  go_simp; refine (hC.out _).mono ?_; rintro r wa ⟨rfl, ba⟩; have K := Blk.below hHeld ba; have B := bl_then B ba
  refine hKc.out _ _ (K) (fun hHeld => ?_)
  clear hKc Kc
  try simp only [Act.put, List.setIfInBounds_toArray, List.set_cons_zero, List.set_cons_succ]
  refine wpAnyH_take (i := 3) (oi := { dst := some 9, op := Op.binOp BinOp.eql 30 (Operand.tmp 7) (Operand.tmp 8) 30, type := 4, pos := "law.go:22", after := #[{ on := 1, ground := Ground.data }, { on := 2, ground := Ground.data }], guard := none }) (v := ?_) rfl (by kernel_rfl) (by kernel_rfl) (by kernel_rfl) (fun _ _ _ h => h) ?_ hHeld ?_
  rotate_left
  · refine Or.inl ⟨by rfl, fun w hSw => ?_⟩; have c0 := Blk.cellv hSw 0 (.int .i64 op) rfl; go_simp; (try with_reducible rfl)
  try simp only [Act.put, List.setIfInBounds_toArray, List.set_cons_zero, List.set_cons_succ]
  refine wpAnyH_take (i := 4) (oi := { dst := some 10, op := Op.move (Operand.tmp 9), type := 4, pos := "law.go:22", after := #[{ on := 3, ground := Ground.data }, { on := 1, ground := Ground.chain }], guard := none }) (v := ?_) rfl (by kernel_rfl) (by kernel_rfl) (by kernel_rfl) (fun _ _ _ h => h) ?_ hHeld ?_
  rotate_left
  · refine Or.inl ⟨by rfl, fun w hSw => ?_⟩; have c0 := Blk.cellv hSw 0 (.int .i64 op) rfl; go_simp; (try with_reducible rfl)
  try simp only [Act.put, List.setIfInBounds_toArray, List.set_cons_zero, List.set_cons_succ]
  refine wpAnyH_take (i := 5) (oi := { dst := some 11, op := Op.fieldAddr 29 (Operand.tmp 1) 0, type := 0, pos := "law.go:22", after := #[{ on := 4, ground := Ground.guard }], guard := some (4, true) }) (v := ?_) rfl (by kernel_rfl) (by kernel_rfl) (by kernel_rfl) (fun _ _ _ h => h) ?_ hHeld ?_
  rotate_left
  · refine Or.inl ⟨by rfl, fun w hSw => ?_⟩; have c0 := Blk.cellv hSw 0 (.int .i64 op) rfl; go_simp; (try with_reducible rfl)
  try simp only [Act.put, List.setIfInBounds_toArray, List.set_cons_zero, List.set_cons_succ]
  refine wpAnyH_take (i := 6) (oi := { dst := some 12, op := Op.load 3 (Operand.tmp 11), type := 3, pos := "law.go:22", after := #[{ on := 5, ground := Ground.data }, { on := 4, ground := Ground.guard }], guard := some (4, true) }) (v := ?_) rfl (by kernel_rfl) (by kernel_rfl) (by kernel_rfl) (fun _ _ _ h => h) ?_ hHeld ?_
  rotate_left
  · refine Or.inl ⟨by rfl, fun w hSw => ?_⟩; have c0 := Blk.cellv hSw 0 (.int .i64 op) rfl; go_simp; (try with_reducible rfl)
  try simp only [Act.put, List.setIfInBounds_toArray, List.set_cons_zero, List.set_cons_succ]
  refine wpAnyH_take (i := 8) (oi := { dst := some 14, op := Op.fieldAddr 29 (Operand.tmp 1) 0, type := 0, pos := "law.go:22", after := #[{ on := 4, ground := Ground.guard }], guard := some (4, true) }) (v := ?_) rfl (by kernel_rfl) (by kernel_rfl) (by kernel_rfl) (fun _ _ _ h => h) ?_ hHeld ?_
  rotate_left
  · refine Or.inl ⟨by rfl, fun w hSw => ?_⟩; have c0 := Blk.cellv hSw 0 (.int .i64 op) rfl; go_simp; (try with_reducible rfl)
  try simp only [Act.put, List.setIfInBounds_toArray, List.set_cons_zero, List.set_cons_succ]
  refine wpAnyH_take (i := 9) (oi := { dst := some 15, op := Op.load 3 (Operand.tmp 14), type := 3, pos := "law.go:22", after := #[{ on := 8, ground := Ground.data }, { on := 4, ground := Ground.guard }], guard := some (4, true) }) (v := ?_) rfl (by kernel_rfl) (by kernel_rfl) (by kernel_rfl) (fun _ _ _ h => h) ?_ hHeld ?_
  rotate_left
  · refine Or.inl ⟨by rfl, fun w hSw => ?_⟩; have c0 := Blk.cellv hSw 0 (.int .i64 op) rfl; go_simp; (try with_reducible rfl)
  try simp only [Act.put, List.setIfInBounds_toArray, List.set_cons_zero, List.set_cons_succ]
  refine wpAnyH_ready (rs := [7]) (by kernel_rfl) (by simp) ?_
  refine AllReadyH.cons (o := { dst := some 13, op := Op.call { callee := Callee.value (Operand.func 12), args := #[Operand.tmp 12], argTypes := #[3] }, type := 4, pos := "law.go:22", after := #[{ on := 6, ground := Ground.data }, { on := 4, ground := Ground.chain }, { on := 4, ground := Ground.guard }], guard := some (4, true) }) rfl (fun Kc hKc => ?_) AllReadyH.nil
  go_simp; refine (hK.out _).mono ?_; rintro r wa ⟨rfl, rfl⟩
  refine hKc.out _ _ (hHeld) (fun hHeld => ?_)
  clear hKc Kc
  try simp only [Act.put, List.setIfInBounds_toArray, List.set_cons_zero, List.set_cons_succ]
  refine wpAnyH_ready (rs := [10]) (by kernel_rfl) (by simp) ?_
  refine AllReadyH.cons (o := { dst := some 16, op := Op.call { callee := Callee.value (Operand.func 13), args := #[Operand.tmp 15], argTypes := #[3] }, type := 9, pos := "law.go:22", after := #[{ on := 9, ground := Ground.data }, { on := 7, ground := Ground.chain }, { on := 4, ground := Ground.guard }], guard := some (4, true) }) rfl (fun Kc hKc => ?_) AllReadyH.nil
  go_simp; refine (hF.out _).mono ?_; rintro r wa ⟨rfl, ba⟩; have K := Blk.below hHeld ba; have B := bl_then B ba
  refine hKc.out _ _ (K) (fun hHeld => ?_)
  clear hKc Kc
  try simp only [Act.put, List.setIfInBounds_toArray, List.set_cons_zero, List.set_cons_succ]
  refine wpAnyH_take (i := 11) (oi := { dst := some 17, op := Op.binOp BinOp.neq 9 (Operand.tmp 16) (Operand.const (Value.string { data := #[45] })) 9, type := 4, pos := "law.go:22", after := #[{ on := 10, ground := Ground.data }, { on := 4, ground := Ground.guard }], guard := some (4, true) }) (v := ?_) rfl (by kernel_rfl) (by kernel_rfl) (by kernel_rfl) (fun _ _ _ h => h) ?_ hHeld ?_
  rotate_left
  · refine Or.inl ⟨by rfl, fun w hSw => ?_⟩; have c0 := Blk.cellv hSw 0 (.int .i64 op) rfl; go_simp; (try with_reducible rfl)
  try simp only [Act.put, List.setIfInBounds_toArray, List.set_cons_zero, List.set_cons_succ]
  refine wpAnyH_take (i := 12) (oi := { dst := some 18, op := Op.binOp BinOp.eql 4 (Operand.tmp 13) (Operand.tmp 17) 4, type := 4, pos := "law.go:22", after := #[{ on := 7, ground := Ground.data }, { on := 11, ground := Ground.data }, { on := 4, ground := Ground.guard }], guard := some (4, true) }) (v := ?_) rfl (by kernel_rfl) (by kernel_rfl) (by kernel_rfl) (fun _ _ _ h => h) ?_ hHeld ?_
  rotate_left
  · refine Or.inl ⟨by rfl, fun w hSw => ?_⟩; have c0 := Blk.cellv hSw 0 (.int .i64 op) rfl; go_simp; (try with_reducible rfl)
  try simp only [Act.put, List.setIfInBounds_toArray, List.set_cons_zero, List.set_cons_succ]
  refine wpAnyH_take (i := 13) (oi := { dst := some 19, op := Op.pick (Operand.tmp 10) (Operand.tmp 18) (Operand.const (Value.bool false)), type := 4, pos := "law.go:22", after := #[{ on := 4, ground := Ground.data }, { on := 12, ground := Ground.data }], guard := none }) (v := ?_) rfl (by kernel_rfl) (by kernel_rfl) (by kernel_rfl) (fun _ _ _ h => h) ?_ hHeld ?_
  rotate_left
  · refine Or.inl ⟨by rfl, fun w hSw => ?_⟩; have c0 := Blk.cellv hSw 0 (.int .i64 op) rfl; go_simp; (try with_reducible rfl)
  try simp only [Act.put, List.setIfInBounds_toArray, List.set_cons_zero, List.set_cons_succ]
  refine wpAnyH_take (i := 14) (oi := { dst := some 20, op := Op.move (Operand.tmp 19), type := 4, pos := "law.go:22", after := #[{ on := 13, ground := Ground.data }, { on := 10, ground := Ground.chain }], guard := none }) (v := ?_) rfl (by kernel_rfl) (by kernel_rfl) (by kernel_rfl) (fun _ _ _ h => h) ?_ hHeld ?_
  rotate_left
  · refine Or.inl ⟨by rfl, fun w hSw => ?_⟩; have c0 := Blk.cellv hSw 0 (.int .i64 op) rfl; go_simp; (try with_reducible rfl)
  try simp only [Act.put, List.setIfInBounds_toArray, List.set_cons_zero, List.set_cons_succ]
  refine wpAnyH_ready (rs := [15]) (by kernel_rfl) (by simp) ?_
  refine AllReadyH.cons (o := { dst := some 21, op := Op.call { callee := Callee.value (Operand.func 14), args := #[], argTypes := #[] }, type := 4, pos := "law.go:22", after := #[{ on := 14, ground := Ground.chain }, { on := 14, ground := Ground.guard }], guard := some (14, true) }) rfl (fun Kc hKc => ?_) AllReadyH.nil
  go_simp; refine (hA.out _).mono ?_; rintro r wa ⟨rfl, ba⟩; have K := Blk.below hHeld ba; have B := bl_then B ba
  refine hKc.out _ _ (K) (fun hHeld => ?_)
  clear hKc Kc
  try simp only [Act.put, List.setIfInBounds_toArray, List.set_cons_zero, List.set_cons_succ]
  refine wpAnyH_take (i := 16) (oi := { dst := some 22, op := Op.pick (Operand.tmp 20) (Operand.tmp 21) (Operand.const (Value.bool false)), type := 4, pos := "law.go:22", after := #[{ on := 14, ground := Ground.data }, { on := 15, ground := Ground.data }], guard := none }) (v := ?_) rfl (by kernel_rfl) (by kernel_rfl) (by kernel_rfl) (fun _ _ _ h => h) ?_ hHeld ?_
  rotate_left
  · refine Or.inl ⟨by rfl, fun w hSw => ?_⟩; have c0 := Blk.cellv hSw 0 (.int .i64 op) rfl; go_simp; (try with_reducible rfl)
  try simp only [Act.put, List.setIfInBounds_toArray, List.set_cons_zero, List.set_cons_succ]
  refine wpAnyH_take (i := 17) (oi := { dst := some 2, op := Op.assign (Operand.tmp 22), type := 4, pos := "law.go:22", after := #[{ on := 16, ground := Ground.data }, { on := 15, ground := Ground.chain }, { on := 0, ground := Ground.phase }, { on := 1, ground := Ground.phase }, { on := 2, ground := Ground.phase }, { on := 3, ground := Ground.phase }, { on := 4, ground := Ground.phase }, { on := 5, ground := Ground.phase }, { on := 6, ground := Ground.phase }, { on := 7, ground := Ground.phase }, { on := 8, ground := Ground.phase }, { on := 9, ground := Ground.phase }, { on := 10, ground := Ground.phase }, { on := 11, ground := Ground.phase }, { on := 12, ground := Ground.phase }, { on := 13, ground := Ground.phase }, { on := 14, ground := Ground.phase }, { on := 15, ground := Ground.phase }, { on := 16, ground := Ground.phase }], guard := none }) (v := ?_) rfl (by kernel_rfl) (by kernel_rfl) (by kernel_rfl) (fun _ _ _ h => h) ?_ hHeld ?_
  rotate_left
  · refine Or.inl ⟨by rfl, fun w hSw => ?_⟩; have c0 := Blk.cellv hSw 0 (.int .i64 op) rfl; go_simp; (try with_reducible rfl)
  try simp only [Act.put, List.setIfInBounds_toArray, List.set_cons_zero, List.set_cons_succ]
  refine wpAnyH_done (by kernel_rfl) ?_ _
  go_wp2_with fail
  go_ret
  exact ⟨rfl, B⟩
set_option maxRecDepth 100000 in
set_option maxHeartbeats 4000000 in
theorem mainT (op n0 n1 n2 n3 : Int) (ws rs : List Int) (pc : Int) (hw : ws.length = 16) (hr : rs.length = 16) (w : World) (hv : okc (F op) op n0 n1 n2 n3 ws rs pc = true) :
    Calls Try.prog 3 #[.agg (ca op n0 n1 n2 n3 ws rs pc)] w fun e w' => e = .returned (.bool true) ∧ Below w.heap.size w w' := by
  have hR := Lib.hid (fun w => right_c op n0 n1 n2 n3 ws rs pc hw hr w)
  have hC := Lib.hid (fun w => check_c op n0 n1 n2 n3 ws rs pc hw hr w)
  have hK := Lib.hid (fun w => known_c op w)
  have hF := Lib.hid (fun w => rform_c op w)
  have hz := Lib.hid (sz_ca op n0 n1 n2 n3 ws rs pc hw hr)
  have hA := Lib.hid (fun w => awake_c w)
  have hkn : Hid (Kn (F op) = !((F op).toList == [45])) := Lib.hid rfl
  rw [hv] at hR hC
  clear hv hw hr
  generalize Kn (F op) = u at *
  generalize F op = s at *
  rw [show ckv true = 0 from rfl] at hC
  go_enter Try.func3, Try.ntmps3
  go_wp2_with (first
    | ((with_reducible refine wl_box rfl 29 _ rfl (ca op n0 n1 n2 n3 ws rs pc) rfl ?_); intro w1 k1 b1 s1)
    | (with_reducible refine wl_load rfl 29 _ rfl w.heap.size rfl 29 (ca op n0 n1 n2 n3 ws rs pc) _ k1 Try.underlying29 rfl hz.out ?_))
  refine (hR.out _).mono ?_
  rintro r w2 ⟨rfl, b2⟩
  have K := k1.below b2
  have B := bl_then b1 b2
  clear k1 b1 b2 hR s1
  go_wp2_with fail
  replace K := K.drew
  replace B := bl_drew B
  have hu : (u == !(s.toList == [45])) = true := by rw [hkn.out]; simp
  refine wp_region_held_drew (S := (fun w' => Blk w' w.heap.size 29 (ca op n0 n1 n2 n3 ws rs pc))) (by kernel_rfl) (K) (fun hHeld => ?_)
  refine wpAnyH_take (i := 0) (oi := { dst := some 6, op := Op.load 29 (Operand.tmp 1), type := 29, pos := "law.go:22", after := #[], guard := none }) (v := ?_) rfl (by kernel_rfl) (by kernel_rfl) (by kernel_rfl) (fun _ _ _ h => h) ?_ hHeld ?_
  rotate_left
  · refine yIf_load 29 (.tmp 1) w.heap.size 29 (ca op n0 n1 n2 n3 ws rs pc) _ ?_ Try.underlying29 rfl hz.out ?_ ?_ ?_
    · exact fun _ h => h
    · rfl
    · rfl
    · rfl
  try simp only [Act.put, List.setIfInBounds_toArray, List.set_cons_zero, List.set_cons_succ]
  refine wpAnyH_take (i := 2) (oi := { dst := some 8, op := Op.move (Operand.tmp 3), type := 30, pos := "law.go:22", after := #[], guard := none }) (v := ?_) rfl (by kernel_rfl) (by kernel_rfl) (by kernel_rfl) (fun _ _ _ h => h) ?_ hHeld ?_
  rotate_left
  · refine Or.inl ⟨by rfl, fun w hSw => ?_⟩; have c0 := Blk.cellv hSw 0 (.int .i64 op) rfl; go_simp; (try with_reducible rfl)
  try simp only [Act.put, List.setIfInBounds_toArray, List.set_cons_zero, List.set_cons_succ]
  refine wpAnyH_ready (rs := [1]) (by kernel_rfl) (by simp) ?_
  refine AllReadyH.cons (o := { dst := some 7, op := Op.call { callee := Callee.value (Operand.func 11), args := #[Operand.tmp 6], argTypes := #[29] }, type := 30, pos := "law.go:22", after := #[{ on := 0, ground := Ground.data }], guard := none }) rfl (fun Kc hKc => ?_) AllReadyH.nil
  go_simp; refine (hC.out _).mono ?_; rintro r wa ⟨rfl, ba⟩; have K := Blk.below hHeld ba; have B := bl_then B ba
  refine hKc.out _ _ (K) (fun hHeld => ?_)
  clear hKc Kc
  try simp only [Act.put, List.setIfInBounds_toArray, List.set_cons_zero, List.set_cons_succ]
  refine wpAnyH_take (i := 3) (oi := { dst := some 9, op := Op.binOp BinOp.eql 30 (Operand.tmp 7) (Operand.tmp 8) 30, type := 4, pos := "law.go:22", after := #[{ on := 1, ground := Ground.data }, { on := 2, ground := Ground.data }], guard := none }) (v := ?_) rfl (by kernel_rfl) (by kernel_rfl) (by kernel_rfl) (fun _ _ _ h => h) ?_ hHeld ?_
  rotate_left
  · refine Or.inl ⟨by rfl, fun w hSw => ?_⟩; have c0 := Blk.cellv hSw 0 (.int .i64 op) rfl; go_simp; (try with_reducible rfl)
  try simp only [Act.put, List.setIfInBounds_toArray, List.set_cons_zero, List.set_cons_succ]
  refine wpAnyH_take (i := 4) (oi := { dst := some 10, op := Op.move (Operand.tmp 9), type := 4, pos := "law.go:22", after := #[{ on := 3, ground := Ground.data }, { on := 1, ground := Ground.chain }], guard := none }) (v := ?_) rfl (by kernel_rfl) (by kernel_rfl) (by kernel_rfl) (fun _ _ _ h => h) ?_ hHeld ?_
  rotate_left
  · refine Or.inl ⟨by rfl, fun w hSw => ?_⟩; have c0 := Blk.cellv hSw 0 (.int .i64 op) rfl; go_simp; (try with_reducible rfl)
  try simp only [Act.put, List.setIfInBounds_toArray, List.set_cons_zero, List.set_cons_succ]
  refine wpAnyH_take (i := 5) (oi := { dst := some 11, op := Op.fieldAddr 29 (Operand.tmp 1) 0, type := 0, pos := "law.go:22", after := #[{ on := 4, ground := Ground.guard }], guard := some (4, true) }) (v := ?_) rfl (by kernel_rfl) (by kernel_rfl) (by kernel_rfl) (fun _ _ _ h => h) ?_ hHeld ?_
  rotate_left
  · refine Or.inl ⟨by rfl, fun w hSw => ?_⟩; have c0 := Blk.cellv hSw 0 (.int .i64 op) rfl; go_simp; (try with_reducible rfl)
  try simp only [Act.put, List.setIfInBounds_toArray, List.set_cons_zero, List.set_cons_succ]
  refine wpAnyH_take (i := 6) (oi := { dst := some 12, op := Op.load 3 (Operand.tmp 11), type := 3, pos := "law.go:22", after := #[{ on := 5, ground := Ground.data }, { on := 4, ground := Ground.guard }], guard := some (4, true) }) (v := ?_) rfl (by kernel_rfl) (by kernel_rfl) (by kernel_rfl) (fun _ _ _ h => h) ?_ hHeld ?_
  rotate_left
  · refine Or.inl ⟨by rfl, fun w hSw => ?_⟩; have c0 := Blk.cellv hSw 0 (.int .i64 op) rfl; go_simp; (try with_reducible rfl)
  try simp only [Act.put, List.setIfInBounds_toArray, List.set_cons_zero, List.set_cons_succ]
  refine wpAnyH_take (i := 8) (oi := { dst := some 14, op := Op.fieldAddr 29 (Operand.tmp 1) 0, type := 0, pos := "law.go:22", after := #[{ on := 4, ground := Ground.guard }], guard := some (4, true) }) (v := ?_) rfl (by kernel_rfl) (by kernel_rfl) (by kernel_rfl) (fun _ _ _ h => h) ?_ hHeld ?_
  rotate_left
  · refine Or.inl ⟨by rfl, fun w hSw => ?_⟩; have c0 := Blk.cellv hSw 0 (.int .i64 op) rfl; go_simp; (try with_reducible rfl)
  try simp only [Act.put, List.setIfInBounds_toArray, List.set_cons_zero, List.set_cons_succ]
  refine wpAnyH_take (i := 9) (oi := { dst := some 15, op := Op.load 3 (Operand.tmp 14), type := 3, pos := "law.go:22", after := #[{ on := 8, ground := Ground.data }, { on := 4, ground := Ground.guard }], guard := some (4, true) }) (v := ?_) rfl (by kernel_rfl) (by kernel_rfl) (by kernel_rfl) (fun _ _ _ h => h) ?_ hHeld ?_
  rotate_left
  · refine Or.inl ⟨by rfl, fun w hSw => ?_⟩; have c0 := Blk.cellv hSw 0 (.int .i64 op) rfl; go_simp; (try with_reducible rfl)
  try simp only [Act.put, List.setIfInBounds_toArray, List.set_cons_zero, List.set_cons_succ]
  refine wpAnyH_ready (rs := [7]) (by kernel_rfl) (by simp) ?_
  refine AllReadyH.cons (o := { dst := some 13, op := Op.call { callee := Callee.value (Operand.func 12), args := #[Operand.tmp 12], argTypes := #[3] }, type := 4, pos := "law.go:22", after := #[{ on := 6, ground := Ground.data }, { on := 4, ground := Ground.chain }, { on := 4, ground := Ground.guard }], guard := some (4, true) }) rfl (fun Kc hKc => ?_) AllReadyH.nil
  go_simp; refine (hK.out _).mono ?_; rintro r wa ⟨rfl, rfl⟩
  refine hKc.out _ _ (hHeld) (fun hHeld => ?_)
  clear hKc Kc
  try simp only [Act.put, List.setIfInBounds_toArray, List.set_cons_zero, List.set_cons_succ]
  refine wpAnyH_ready (rs := [10]) (by kernel_rfl) (by simp) ?_
  refine AllReadyH.cons (o := { dst := some 16, op := Op.call { callee := Callee.value (Operand.func 13), args := #[Operand.tmp 15], argTypes := #[3] }, type := 9, pos := "law.go:22", after := #[{ on := 9, ground := Ground.data }, { on := 7, ground := Ground.chain }, { on := 4, ground := Ground.guard }], guard := some (4, true) }) rfl (fun Kc hKc => ?_) AllReadyH.nil
  go_simp; refine (hF.out _).mono ?_; rintro r wa ⟨rfl, ba⟩; have K := Blk.below hHeld ba; have B := bl_then B ba
  refine hKc.out _ _ (K) (fun hHeld => ?_)
  clear hKc Kc
  try simp only [Act.put, List.setIfInBounds_toArray, List.set_cons_zero, List.set_cons_succ]
  refine wpAnyH_take (i := 11) (oi := { dst := some 17, op := Op.binOp BinOp.neq 9 (Operand.tmp 16) (Operand.const (Value.string { data := #[45] })) 9, type := 4, pos := "law.go:22", after := #[{ on := 10, ground := Ground.data }, { on := 4, ground := Ground.guard }], guard := some (4, true) }) (v := ?_) rfl (by kernel_rfl) (by kernel_rfl) (by kernel_rfl) (fun _ _ _ h => h) ?_ hHeld ?_
  rotate_left
  · refine Or.inl ⟨by rfl, fun w hSw => ?_⟩; have c0 := Blk.cellv hSw 0 (.int .i64 op) rfl; go_simp; (try with_reducible rfl)
  try simp only [Act.put, List.setIfInBounds_toArray, List.set_cons_zero, List.set_cons_succ]
  refine wpAnyH_take (i := 12) (oi := { dst := some 18, op := Op.binOp BinOp.eql 4 (Operand.tmp 13) (Operand.tmp 17) 4, type := 4, pos := "law.go:22", after := #[{ on := 7, ground := Ground.data }, { on := 11, ground := Ground.data }, { on := 4, ground := Ground.guard }], guard := some (4, true) }) (v := ?_) rfl (by kernel_rfl) (by kernel_rfl) (by kernel_rfl) (fun _ _ _ h => h) ?_ hHeld ?_
  rotate_left
  · refine Or.inl ⟨by rfl, fun w hSw => ?_⟩; have c0 := Blk.cellv hSw 0 (.int .i64 op) rfl; go_simp; (try with_reducible rfl)
  try simp only [Act.put, List.setIfInBounds_toArray, List.set_cons_zero, List.set_cons_succ]
  refine wpAnyH_take (i := 13) (oi := { dst := some 19, op := Op.pick (Operand.tmp 10) (Operand.tmp 18) (Operand.const (Value.bool false)), type := 4, pos := "law.go:22", after := #[{ on := 4, ground := Ground.data }, { on := 12, ground := Ground.data }], guard := none }) (v := ?_) rfl (by kernel_rfl) (by kernel_rfl) (by kernel_rfl) (fun _ _ _ h => h) ?_ hHeld ?_
  rotate_left
  · refine Or.inl ⟨by rfl, fun w hSw => ?_⟩; have c0 := Blk.cellv hSw 0 (.int .i64 op) rfl; go_simp; (try with_reducible rfl)
  try simp only [Act.put, List.setIfInBounds_toArray, List.set_cons_zero, List.set_cons_succ]
  refine wpAnyH_take (i := 14) (oi := { dst := some 20, op := Op.move (Operand.tmp 19), type := 4, pos := "law.go:22", after := #[{ on := 13, ground := Ground.data }, { on := 10, ground := Ground.chain }], guard := none }) (v := ?_) rfl (by kernel_rfl) (by kernel_rfl) (by kernel_rfl) (fun _ _ _ h => h) ?_ hHeld ?_
  rotate_left
  · refine Or.inl ⟨by rfl, fun w hSw => ?_⟩; have c0 := Blk.cellv hSw 0 (.int .i64 op) rfl; go_simp; (try with_reducible rfl)
  try simp only [Act.put, List.setIfInBounds_toArray, List.set_cons_zero, List.set_cons_succ]
  refine wpAnyH_ready (rs := [15]) (by kernel_rfl) (by simp) ?_
  refine AllReadyH.cons (o := { dst := some 21, op := Op.call { callee := Callee.value (Operand.func 14), args := #[], argTypes := #[] }, type := 4, pos := "law.go:22", after := #[{ on := 14, ground := Ground.chain }, { on := 14, ground := Ground.guard }], guard := some (14, true) }) rfl (fun Kc hKc => ?_) AllReadyH.nil
  go_simp; refine (hA.out _).mono ?_; rintro r wa ⟨rfl, ba⟩; have K := Blk.below hHeld ba; have B := bl_then B ba
  refine hKc.out _ _ (K) (fun hHeld => ?_)
  clear hKc Kc
  try simp only [Act.put, List.setIfInBounds_toArray, List.set_cons_zero, List.set_cons_succ]
  refine wpAnyH_take (i := 16) (oi := { dst := some 22, op := Op.pick (Operand.tmp 20) (Operand.tmp 21) (Operand.const (Value.bool false)), type := 4, pos := "law.go:22", after := #[{ on := 14, ground := Ground.data }, { on := 15, ground := Ground.data }], guard := none }) (v := ?_) rfl (by kernel_rfl) (by kernel_rfl) (by kernel_rfl) (fun _ _ _ h => h) ?_ hHeld ?_
  rotate_left
  · refine Or.inl ⟨by rfl, fun w hSw => ?_⟩; have c0 := Blk.cellv hSw 0 (.int .i64 op) rfl; go_simp; (try with_reducible rfl)
  try simp only [Act.put, List.setIfInBounds_toArray, List.set_cons_zero, List.set_cons_succ]
  refine wpAnyH_take (i := 17) (oi := { dst := some 2, op := Op.assign (Operand.tmp 22), type := 4, pos := "law.go:22", after := #[{ on := 16, ground := Ground.data }, { on := 15, ground := Ground.chain }, { on := 0, ground := Ground.phase }, { on := 1, ground := Ground.phase }, { on := 2, ground := Ground.phase }, { on := 3, ground := Ground.phase }, { on := 4, ground := Ground.phase }, { on := 5, ground := Ground.phase }, { on := 6, ground := Ground.phase }, { on := 7, ground := Ground.phase }, { on := 8, ground := Ground.phase }, { on := 9, ground := Ground.phase }, { on := 10, ground := Ground.phase }, { on := 11, ground := Ground.phase }, { on := 12, ground := Ground.phase }, { on := 13, ground := Ground.phase }, { on := 14, ground := Ground.phase }, { on := 15, ground := Ground.phase }, { on := 16, ground := Ground.phase }], guard := none }) (v := ?_) rfl (by kernel_rfl) (by kernel_rfl) (by kernel_rfl) (fun _ _ _ h => h) ?_ hHeld ?_
  rotate_left
  · refine Or.inl ⟨by rfl, fun w hSw => ?_⟩; have c0 := Blk.cellv hSw 0 (.int .i64 op) rfl; go_simp; (try with_reducible rfl)
  try simp only [Act.put, List.setIfInBounds_toArray, List.set_cons_zero, List.set_cons_succ]
  refine wpAnyH_done (by kernel_rfl) ?_ _
  go_wp2_with fail
  go_ret
  exact ⟨rfl, B⟩
/-- What the argument is. -/
def Arg (i : Nat) (w : World) (v : Value) : Prop := Call1 v
theorem arg0 {H : Type} {enc : TypeId × Value → H} {W : World} {base : Nat} {v : Value} {d : DataW H} {p : List MemPlace} (hv : Value.okWide Try.prog W .any base 29 v)
    (h : DataW.Trod enc Try.prog W 0 (fun _ => true) true 29 v d p) : Arg 0 W v := call_of hv h
theorem walk (v : Value) (w : World) (h0 : Arg 0 w v) : Calls Try.prog 3 #[v] w fun e w' => e = .returned (.bool true) ∧ Below w.heap.size w w' := by
  obtain ⟨op, n0, n1, n2, n3, ws, rs, pc, hw, hr, rfl⟩ := h0
  cases hv : okc (F op) op n0 n1 n2 n3 ws rs pc with
  | false => exact mainF op n0 n1 n2 n3 ws rs pc hw hr w hv
  | true => exact mainT op n0 n1 n2 n3 ws rs pc hw hr w hv
end Go.Proofs.Yteokofkdfeglnaa.AbiChecks
