/- Contract of package dir's Get. -/
import Derived.Test.YthihpejhhimkaaaDoorDir4
set_option linter.unusedVariables false
namespace Go.Proofs.YthihpejhhimkaaaDoor.Dir5
open Go.RowKit Go.Proofs.YthihpejhhimkaaaDoor.Base Go.Proofs.YthihpejhhimkaaaDoor.Row Go.Proofs.YthihpejhhimkaaaDoor.App Go.Proofs.YthihpejhhimkaaaDoor.Multi Go.Proofs.YthihpejhhimkaaaDoor.StEq Go.Proofs.YthihpejhhimkaaaDoor.Held Go.Proofs.YthihpejhhimkaaaDoor.Out Go.Proofs.YthihpejhhimkaaaDoor.HeldW Go.Proofs.YthihpejhhimkaaaDoor.HeldX Go.Proofs.YthihpejhhimkaaaDoor.DiskMath Go.Proofs.YthihpejhhimkaaaDoor.Dir Go.Proofs.YthihpejhhimkaaaDoor.Dir2 Go.Proofs.YthihpejhhimkaaaDoor.Dir3 Go.Proofs.YthihpejhhimkaaaDoor.Dir4

/-- For an arm that is meant for one operation alone. -/
theorem at_slot {P : Program} {ops : Array Oper} {Q : Exit → Act → World → Prop} {rest : List Oper} {o : Oper} {a : Act} {W : World} (n : Nat) (h : o.dst = some n) (k : wpList P ops Q (o :: rest) a W) : wpList P ops Q (o :: rest) a W := k
theorem at_none {P : Program} {ops : Array Oper} {Q : Exit → Act → World → Prop} {rest : List Oper} {o : Oper} {a : Act} {W : World} (h : o.dst = none) (k : wpList P ops Q (o :: rest) a W) : wpList P ops Q (o :: rest) a W := k
theorem or_hi (a b : Int) (h0 : 0 ≤ a) (h1 : a < 256) (h2 : 0 ≤ b) (h3 : b < 256) : Go.bits BinOp.or IntKind.i64 a (b * 256) = a + b * 256 := by
  have e : Go.bits BinOp.or IntKind.i64 a (b * 256) = IntKind.i64.wrap ((BitVec.ofInt 64 a ||| BitVec.ofInt 64 (b * 256)).toNat : Int) := rfl
  rw [e, BitVec.toNat_or]
  obtain ⟨x, rfl⟩ := Int.eq_ofNat_of_zero_le h0
  obtain ⟨y, rfl⟩ := Int.eq_ofNat_of_zero_le h2
  have e1 : (BitVec.ofInt 64 (x : Int)).toNat = x := by
    rw [BitVec.toNat_ofInt]
    omega
  have e2 : (BitVec.ofInt 64 ((y : Int) * 256)).toNat = y * 2 ^ 8 := by
    rw [BitVec.toNat_ofInt]
    omega
  rw [e1, e2, Math.nat_or_hi 8 x y (by omega)]
  simp [IntKind.wrap, IntKind.signed, IntKind.bits]
  omega
theorem new_e : (Tryd.prog.info? 30).map (fun i => i.zero.map (·.cells)) = some (some (ea ⟨⟨#[]⟩, 0⟩)) := by kernel_rfl
theorem sz_ea (e : En) : (Tryd.prog.info? 30).map (·.size) = some (ea e).size := by kernel_rfl
theorem conv14 (d : Bk) (n : Nat) (hn : n < 4) (g OFF cap : Nat) (w : World) (hO : OFF = n * 16 + 2) (h : Blk w g 27 (bc d)) : (convert 22 9 (.slice (some ⟨g, OFF, none⟩) 14 cap)).run Tryd.prog w = .ok (.string (strOfNums (tl d n))) w := by
  subst hO
  refine run_convert_bytes_arg w 22 5 Tryd.underlying22 Tryd.underlying5 g (n * 16 + 2) 14 cap (tl d n) (tl_len hn) (fun i hi => ?_) 9 Tryd.underlying9
  have hd := d.h
  have h1 : d.l[n * 16 + 2 + i]? = some (d.l[n * 16 + 2 + i]'(by omega)) := List.getElem?_eq_getElem _
  rw [h.cell, bc, List.getElem?_toArray]
  unfold bv nums
  rw [List.getElem?_map, List.getD_eq_getElem?_getD, tl_get i hi, h1]
  rfl
theorem cellb (d : Bk) (k g : Nat) (w : World) (hk : k < 64) (h : Blk w g 27 (bc d)) : w.cell? ⟨g, k, none⟩ = some (.int .u8 (d.l[k]?.getD 0)) := by
  have hd := d.h
  have h1 : d.l[k]? = some (d.l[k]'(by omega)) := List.getElem?_eq_getElem _
  rw [h.cell, bc, List.getElem?_toArray]
  unfold bv nums
  rw [List.getElem?_map, h1]
  rfl
theorem eq_d (x y : Bk) (w : World) : (Op.equalIn 10000 27 (.agg (bc x)) (.agg (bc y))).run Tryd.prog w = .ok (x.l == y.l) w := by
  obtain ⟨i0, hi, _, hz1, _⟩ := info_parts (show (Tryd.prog.info? 5).map (fun i => (i.zero, i.size, i.bytes)) = some (some (.int .u8 0), 1, 1) by kernel_rfl)
  exact run_eq_ints 9998 27 64 5 .u8 i0 Tryd.underlying27 Tryd.underlying5 hi hz1 x.l y.l x.h y.h
set_option maxRecDepth 100000 in
set_option maxHeartbeats 4000000 in
theorem get_no (d : Bk) (a : Int) (w : World) (h : a < 0 ∨ 4 ≤ a) :
    Calls Tryd.prog 14 #[.agg (bc d), .int .i64 a] w fun r w' => r = .returned (.tuple #[.agg (ea ⟨⟨#[]⟩, 0⟩), .bool false]) ∧ Below w.heap.size w w' := by
  have hcase : a < 0 ∨ (¬ a < 0 ∧ 4 ≤ a) := by omega
  clear h
  rcases hcase with q | ⟨q, q1⟩
  all_goals (
    go_enter Tryd.func14, Tryd.ntmps14
    go_wp2_with (first
      | ((with_reducible refine wl_box rfl 27 _ rfl (bc d) rfl ?_); intro w1 k1 b1 s1)
      | ((with_reducible refine wl_alloc rfl 30 rfl (ea ⟨⟨#[]⟩, 0⟩) new_e ?_); intro w3 k3 b3 s3)
      | ((refine wl_store rfl 30 (.tmp 4) (.tmp 16) rfl w1.heap.size rfl (ea ⟨⟨#[]⟩, 0⟩) rfl 30 (ea ⟨⟨#[]⟩, 0⟩) k3 (sz_ea _) rfl (ea_one _) ?_); intro w5 k5 g5 s5))
    have z1 := b1.size
    have B4 := bl_then b1 b3
    refine bodyPost_ret (res_cell_tmp rfl _ _ _ w1.heap.size 30 (ea ⟨⟨#[]⟩, 0⟩) _ rfl k5 Tryd.underlying30 rfl (sz_ea _)) rfl ⟨rfl, below_grown B4 B4.size g5 (by omega)⟩)
/-- What Get tells. -/
def gotE (d : Bk) (n : Nat) : En := if rightB (getE d n) then getE d n else ⟨⟨#[]⟩, 0⟩
set_option maxRecDepth 100000 in
set_option maxHeartbeats 4000000 in
theorem get_yes (d : Bk) (a : Int) (n : Nat) (w : World) (hn : n < 4) (haa : (n : Int) = a) (hd : Okb d) (hr : rightB (getE d n) = true) :
    Calls Tryd.prog 14 #[.agg (bc d), .int .i64 a] w fun r w' => r = .returned (.tuple #[.agg (ea (gotE d n)), .bool (rightB (getE d n))]) ∧ Below w.heap.size w w' := by
  have hcv := Lib.hid (fun OFF cap w' hO h => conv14 d n hn w.heap.size OFF cap w' hO h)
  have hb0 := Lib.hid (fun OFF w' (hO : OFF = n * 16) (h : Blk w' w.heap.size 27 (bc d)) => (show w'.cell? ⟨w.heap.size, OFF, none⟩ = some (.int .u8 (b0 d n)) by subst hO; exact cellb d _ _ w' (by omega) h))
  have hb1 := Lib.hid (fun OFF w' (hO : OFF = n * 16 + 1) (h : Blk w' w.heap.size 27 (bc d)) => (show w'.cell? ⟨w.heap.size, OFF, none⟩ = some (.int .u8 (b1 d n)) by subst hO; exact cellb d _ _ w' (by omega) h))
  have r0 : 0 ≤ b0 d n ∧ b0 d n < 256 := okb_at hd _
  have r1 : 0 ≤ b1 d n ∧ b1 d n < 256 := okb_at hd _
  have hor := Lib.hid (or_hi _ _ r0.1 r0.2 r1.1 r1.2)
  have hw0 : Hid (IntKind.i64.wrap (b0 d n) = b0 d n) := Lib.hid (by simp only [IntKind.wrap, IntKind.signed, IntKind.bits]; simp; omega)
  have hw1 : Hid (IntKind.i64.wrap (b1 d n) = b1 d n) := Lib.hid (by simp only [IntKind.wrap, IntKind.signed, IntKind.bits]; simp; omega)
  have hsl : Hid (IntKind.i64.wrap (b1 d n * 256) = b1 d n * 256) := Lib.hid (by simp only [IntKind.wrap, IntKind.signed, IntKind.bits]; simp; omega)
  have hTr := Lib.hid (fun w' => Trim.trim0_c (strOfNums (tl d n)) w' (by
    show (strOfNums (tl d n)).data.size ≤ _
    rw [← Array.length_toList, str_data, List.length_map, tl_len hn]; decide))
  have hPn := Lib.hid (fun (h : rightB (getE d n) = false) w' => put_no d a (getE d n) w' (by unfold maxLen; have := nm_size (d := d) hn; omega) (.inr (.inr h)))
  have hPy := fun (h : rightB (getE d n) = true) w' => put_yes d a n (getE d n) w' hn haa h
  have hPG := fun h => put_get hn hd h
  have hg : getE d n = ⟨⟨(Lib.trimRightB (strOfNums (tl d n)).data.toList 0).toArray⟩, b0 d n + b1 d n * 256⟩ := rfl
  obtain ⟨T, hT⟩ : ∃ T : ByteArray, T = ⟨(Lib.trimRightB (strOfNums (tl d n)).data.toList 0).toArray⟩ := ⟨_, rfl⟩
  rw [← hT] at hg hTr
  have hgot : gotE d n = if rightB (getE d n) then getE d n else ⟨⟨#[]⟩, 0⟩ := rfl
  rw [hgot, hr]
  simp only [if_true, if_false, Bool.false_eq_true]
  clear hT hgot hd
  generalize getE d n = e at *
  subst hg
  generalize b0 d n = x0 at *
  generalize b1 d n = x1 at *
  obtain ⟨r00, r01⟩ := r0
  obtain ⟨r10, r11⟩ := r1
  generalize strOfNums (tl d n) = Z at *
  have hPy2 : Hid (rightB ⟨T, x0 + x1 * 256⟩ = true → ∀ w', Calls Tryd.prog 9 #[.agg (bc d), .int .i64 a, .agg (ea ⟨T, x0 + x1 * 256⟩)] w' fun r w'' => r = .returned (.tuple #[.agg (bc d), .bool true]) ∧ Below w'.heap.size w' w'') := Lib.hid (fun h w' => by
    have h1 := hPy h w'
    rw [hPG h] at h1
    exact h1)
  clear hPy hPG
  have hP := Lib.hid (hPy2.out hr)
  clear hr hPy2 hPn
  have h4 : (a = 0 ∧ n = 0) ∨ (a = 1 ∧ n = 1) ∨ (a = 2 ∧ n = 2) ∨ (a = 3 ∧ n = 3) := by omega
  clear hn haa
  rcases h4 with ⟨rfl, rfl⟩ | ⟨rfl, rfl⟩ | ⟨rfl, rfl⟩ | ⟨rfl, rfl⟩
  all_goals (
    go_enter Tryd.func14, Tryd.ntmps14
    go_upto_region 4 with (first
      | ((with_reducible refine wl_box rfl 27 _ rfl (bc d) rfl ?_); intro w1 k1 b1 s1)
      | ((with_reducible refine wl_alloc rfl 30 rfl (ea ⟨⟨#[]⟩, 0⟩) new_e ?_); intro w3 k3 b3 s3))
    have z1 := b1.size
    have K1 := (k1.below b3).drew
    have K3 := k3.drew
    have BB := bl_drew (bl_then b1 b3)
    have hgw : w.heap.size < w3.heap.size := (k1.below b3).lt
    have hgw1 : w1.heap.size < w3.heap.size := k3.lt
    clear k1 k3 b1 b3
    go_cut [7] (fun s7 wx => ∃ g7, s7 = .pointer (some ⟨g7, 0, none⟩) ∧ Blk wx g7 30 (ea ⟨T, x0 + x1 * 256⟩) ∧ Blk wx w.heap.size 27 (bc d) ∧ Blk wx w1.heap.size 30 (ea ⟨⟨#[]⟩, 0⟩) ∧ Below w.heap.size w wx)
    case first =>
      refine wp_region_held_drew (S := (fun w' => Blk w' w.heap.size 27 (bc d))) (by kernel_rfl) (K1) (fun hHeld => ?_)
      refine wpAnyH_take (i := 0) (oi := { dst := some 23, op := Op.move (Operand.tmp 6), type := 22, pos := "dir.go:65", after := #[], guard := none }) (v := ?_) rfl (by kernel_rfl) (by kernel_rfl) (by kernel_rfl) (fun _ _ _ h => h) ?_ hHeld ?_
      rotate_left
      · refine Or.inl ⟨by rfl, fun w hSw => ?_⟩; skip; go_simp; (try with_reducible rfl)
      try simp only [Act.put, List.setIfInBounds_toArray, List.set_cons_zero, List.set_cons_succ]
      refine wpAnyH_take (i := 1) (oi := { dst := some 24, op := Op.slice 22 (Operand.tmp 23) (some (Operand.const (Value.int IntKind.i64 2))) none none, type := 22, pos := "dir.go:65", after := #[{ on := 0, ground := Ground.data }], guard := none }) (v := ?_) rfl (by kernel_rfl) (by kernel_rfl) (by kernel_rfl) (fun _ _ _ h => h) ?_ hHeld ?_
      rotate_left
      · refine Or.inl ⟨by rfl, fun w hSw => ?_⟩; skip; go_simp; (try with_reducible rfl)
      try simp only [Act.put, List.setIfInBounds_toArray, List.set_cons_zero, List.set_cons_succ]
      refine wpAnyH_take (i := 2) (oi := { dst := some 25, op := Op.convert 22 9 (Operand.tmp 24), type := 9, pos := "dir.go:65", after := #[{ on := 1, ground := Ground.data }], guard := none }) (v := ?_) rfl (by kernel_rfl) (by kernel_rfl) (by kernel_rfl) (fun _ _ _ h => h) ?_ hHeld ?_
      rotate_left
      · refine Or.inl ⟨by rfl, fun w hSw => ?_⟩; (first | have c0 := (fun cap => hcv.out 2 cap _ rfl hSw) | have c0 := (fun cap => hcv.out 18 cap _ rfl hSw) | have c0 := (fun cap => hcv.out 34 cap _ rfl hSw) | have c0 := (fun cap => hcv.out 50 cap _ rfl hSw)); go_simp; (try with_reducible rfl)
      try simp only [Act.put, List.setIfInBounds_toArray, List.set_cons_zero, List.set_cons_succ]
      refine wpAnyH_take (i := 4) (oi := { dst := some 27, op := Op.move (Operand.tmp 6), type := 22, pos := "dir.go:65", after := #[], guard := none }) (v := ?_) rfl (by kernel_rfl) (by kernel_rfl) (by kernel_rfl) (fun _ _ _ h => h) ?_ hHeld ?_
      rotate_left
      · refine Or.inl ⟨by rfl, fun w hSw => ?_⟩; skip; go_simp; (try with_reducible rfl)
      try simp only [Act.put, List.setIfInBounds_toArray, List.set_cons_zero, List.set_cons_succ]
      refine wpAnyH_take (i := 5) (oi := { dst := some 28, op := Op.indexAddr 22 (Operand.tmp 27) (Operand.const (Value.int IntKind.i64 0)), type := 0, pos := "dir.go:65", after := #[{ on := 4, ground := Ground.data }], guard := none }) (v := ?_) rfl (by kernel_rfl) (by kernel_rfl) (by kernel_rfl) (fun _ _ _ h => h) ?_ hHeld ?_
      rotate_left
      · refine Or.inl ⟨by rfl, fun w hSw => ?_⟩; skip; go_simp; (try with_reducible rfl)
      try simp only [Act.put, List.setIfInBounds_toArray, List.set_cons_zero, List.set_cons_succ]
      refine wpAnyH_take (i := 6) (oi := { dst := some 29, op := Op.load 5 (Operand.tmp 28), type := 5, pos := "dir.go:65", after := #[{ on := 5, ground := Ground.data }], guard := none }) (v := ?_) rfl (by kernel_rfl) (by kernel_rfl) (by kernel_rfl) (fun _ _ _ h => h) ?_ hHeld ?_
      rotate_left
      · refine Or.inl ⟨by rfl, fun w hSw => ?_⟩; (first | have c0 := hb0.out 0 _ rfl hSw | have c0 := hb0.out 16 _ rfl hSw | have c0 := hb0.out 32 _ rfl hSw | have c0 := hb0.out 48 _ rfl hSw); go_simp; (try with_reducible rfl)
      try simp only [Act.put, List.setIfInBounds_toArray, List.set_cons_zero, List.set_cons_succ]
      refine wpAnyH_take (i := 7) (oi := { dst := some 30, op := Op.convert 5 3 (Operand.tmp 29), type := 3, pos := "dir.go:65", after := #[{ on := 6, ground := Ground.data }], guard := none }) (v := ?_) rfl (by kernel_rfl) (by kernel_rfl) (by kernel_rfl) (fun _ _ _ h => h) ?_ hHeld ?_
      rotate_left
      · refine Or.inl ⟨by rfl, fun w hSw => ?_⟩; have c0 := hw0.out; go_simp; (try with_reducible rfl)
      try simp only [Act.put, List.setIfInBounds_toArray, List.set_cons_zero, List.set_cons_succ]
      refine wpAnyH_take (i := 8) (oi := { dst := some 31, op := Op.move (Operand.tmp 6), type := 22, pos := "dir.go:65", after := #[], guard := none }) (v := ?_) rfl (by kernel_rfl) (by kernel_rfl) (by kernel_rfl) (fun _ _ _ h => h) ?_ hHeld ?_
      rotate_left
      · refine Or.inl ⟨by rfl, fun w hSw => ?_⟩; skip; go_simp; (try with_reducible rfl)
      try simp only [Act.put, List.setIfInBounds_toArray, List.set_cons_zero, List.set_cons_succ]
      refine wpAnyH_take (i := 9) (oi := { dst := some 32, op := Op.indexAddr 22 (Operand.tmp 31) (Operand.const (Value.int IntKind.i64 1)), type := 0, pos := "dir.go:65", after := #[{ on := 8, ground := Ground.data }], guard := none }) (v := ?_) rfl (by kernel_rfl) (by kernel_rfl) (by kernel_rfl) (fun _ _ _ h => h) ?_ hHeld ?_
      rotate_left
      · refine Or.inl ⟨by rfl, fun w hSw => ?_⟩; skip; go_simp; (try with_reducible rfl)
      try simp only [Act.put, List.setIfInBounds_toArray, List.set_cons_zero, List.set_cons_succ]
      refine wpAnyH_take (i := 10) (oi := { dst := some 33, op := Op.load 5 (Operand.tmp 32), type := 5, pos := "dir.go:65", after := #[{ on := 9, ground := Ground.data }], guard := none }) (v := ?_) rfl (by kernel_rfl) (by kernel_rfl) (by kernel_rfl) (fun _ _ _ h => h) ?_ hHeld ?_
      rotate_left
      · refine Or.inl ⟨by rfl, fun w hSw => ?_⟩; (first | have c0 := hb1.out 1 _ rfl hSw | have c0 := hb1.out 17 _ rfl hSw | have c0 := hb1.out 33 _ rfl hSw | have c0 := hb1.out 49 _ rfl hSw); go_simp; (try with_reducible rfl)
      try simp only [Act.put, List.setIfInBounds_toArray, List.set_cons_zero, List.set_cons_succ]
      refine wpAnyH_take (i := 11) (oi := { dst := some 34, op := Op.convert 5 3 (Operand.tmp 33), type := 3, pos := "dir.go:65", after := #[{ on := 10, ground := Ground.data }], guard := none }) (v := ?_) rfl (by kernel_rfl) (by kernel_rfl) (by kernel_rfl) (fun _ _ _ h => h) ?_ hHeld ?_
      rotate_left
      · refine Or.inl ⟨by rfl, fun w hSw => ?_⟩; have c0 := hw1.out; go_simp; (try with_reducible rfl)
      try simp only [Act.put, List.setIfInBounds_toArray, List.set_cons_zero, List.set_cons_succ]
      refine wpAnyH_take (i := 12) (oi := { dst := some 35, op := Op.binOp BinOp.shl 3 (Operand.tmp 34) (Operand.const (Value.int IntKind.u64 8)) 60, type := 3, pos := "dir.go:65", after := #[{ on := 11, ground := Ground.data }], guard := none }) (v := ?_) rfl (by kernel_rfl) (by kernel_rfl) (by kernel_rfl) (fun _ _ _ h => h) ?_ hHeld ?_
      rotate_left
      · refine Or.inl ⟨by rfl, fun w hSw => ?_⟩; have c0 := hw1.out; have c1 := hsl.out; go_simp; (try with_reducible rfl)
      try simp only [Act.put, List.setIfInBounds_toArray, List.set_cons_zero, List.set_cons_succ]
      refine wpAnyH_take (i := 13) (oi := { dst := some 36, op := Op.binOp BinOp.or 3 (Operand.tmp 30) (Operand.tmp 35) 3, type := 3, pos := "dir.go:65", after := #[{ on := 7, ground := Ground.data }, { on := 12, ground := Ground.data }], guard := none }) (v := ?_) rfl (by kernel_rfl) (by kernel_rfl) (by kernel_rfl) (fun _ _ _ h => h) ?_ hHeld ?_
      rotate_left
      · refine Or.inl ⟨by rfl, fun w hSw => ?_⟩; have c0 := hw0.out; have c1 := hw1.out; have c2 := hsl.out; have c3 := hor.out; go_simp; (try with_reducible rfl)
      try simp only [Act.put, List.setIfInBounds_toArray, List.set_cons_zero, List.set_cons_succ]
      refine wpAnyH_ready (rs := [3, 15]) (by kernel_rfl) (by simp) ?_
      refine AllReadyH.cons (o := { dst := some 26, op := Op.call { callee := Callee.value (Operand.func 29), args := #[Operand.tmp 25, Operand.const (Value.string { data := #[0] })], argTypes := #[9, 9] }, type := 9, pos := "dir.go:65", after := #[{ on := 2, ground := Ground.data }], guard := none }) rfl (fun Kc hKc => ?_) ?_
      · go_simp
        refine (hTr.out _).mono ?_
        rintro r wt ⟨rfl, rfl⟩
        refine hKc.out _ _ (hHeld) (fun hHeld => ?_)
        clear hKc Kc
        try simp only [Act.put, List.setIfInBounds_toArray, List.set_cons_zero, List.set_cons_succ]
        refine wpAnyH_take (i := 14) (oi := { dst := some 37, op := Op.build 30 #[(0, Operand.tmp 26), (1, Operand.tmp 36)], type := 30, pos := "dir.go:65", after := #[{ on := 3, ground := Ground.data }, { on := 13, ground := Ground.data }], guard := none }) (v := ?_) rfl (by kernel_rfl) (by kernel_rfl) (by kernel_rfl) (fun _ _ _ h => h) ?_ hHeld ?_
        rotate_left
        · refine Or.inl ⟨by rfl, fun w hSw => ?_⟩; skip; go_simp; (try with_reducible rfl)
        try simp only [Act.put, List.setIfInBounds_toArray, List.set_cons_zero, List.set_cons_succ]
        refine wpAnyH_ready (rs := [15]) (by kernel_rfl) (by simp) ?_
        refine AllReadyH.cons (o := { dst := some 7, op := Op.alloc 30, type := 0, pos := "dir.go:65", after := #[], guard := none }) rfl (fun Kc hKc => ?_) AllReadyH.nil
        refine step_of (by rfl) (wp_alloc 30 rfl (ea ⟨⟨#[]⟩, 0⟩) new_e ?_)
        intro gN wN zN sN kN bN
        have zg := hHeld.lt
        have zg3 := K3.lt
        have K3 := K3.below bN
        have BB := bl_then BB bN
        refine hKc.out _ _ (Blk.below hHeld bN) (fun hHeld => ?_)
        clear hKc Kc
        try simp only [Act.put, List.setIfInBounds_toArray, List.set_cons_zero, List.set_cons_succ]
        refine wpAnyH_ready (rs := [16]) (by kernel_rfl) (by simp) ?_
        refine AllReadyH.cons (o := { dst := none, op := Op.store 30 (Operand.tmp 7) (Operand.tmp 37), type := 0, pos := "dir.go:65", after := #[{ on := 15, ground := Ground.data }, { on := 14, ground := Ground.data }, { on := 3, ground := Ground.chain }, { on := 0, ground := Ground.phase }, { on := 1, ground := Ground.phase }, { on := 2, ground := Ground.phase }, { on := 3, ground := Ground.phase }, { on := 4, ground := Ground.phase }, { on := 5, ground := Ground.phase }, { on := 6, ground := Ground.phase }, { on := 7, ground := Ground.phase }, { on := 8, ground := Ground.phase }, { on := 9, ground := Ground.phase }, { on := 10, ground := Ground.phase }, { on := 11, ground := Ground.phase }, { on := 12, ground := Ground.phase }, { on := 13, ground := Ground.phase }, { on := 14, ground := Ground.phase }, { on := 15, ground := Ground.phase }], guard := none }) rfl (fun Kc hKc => ?_) AllReadyH.nil
        refine step_of (by rfl) (wp_whole 30 (.tmp 7) (.tmp 37) (by rfl) gN (by rfl) (ea ⟨T, x0 + x1 * 256⟩) (by rfl) 30 (ea ⟨⟨#[]⟩, 0⟩) kN (sz_ea _) rfl (ea_one _) ?_)
        intro wS kS gS sS
        have K3 := K3.grown gS (fun e => by injection e with e; omega)
        have BB := below_grown BB BB.size gS (by omega)
        refine hKc.out _ _ (Blk.grown hHeld gS (fun e => by injection e with e; omega)) (fun hHeld => ?_)
        clear hKc Kc
        try simp only [Act.put]
        refine wpAnyH_done (by kernel_rfl) ?_ _
        go_wp2_with fail
        go_meet
        exact ⟨gN, rfl, kS, hHeld, K3, BB⟩
      refine AllReadyH.cons (o := { dst := some 7, op := Op.alloc 30, type := 0, pos := "dir.go:65", after := #[], guard := none }) rfl (fun Kc hKc => ?_) ?_
      · refine step_of (by rfl) (wp_alloc 30 rfl (ea ⟨⟨#[]⟩, 0⟩) new_e ?_)
        intro gN wN zN sN kN bN
        have zg := hHeld.lt
        have zg3 := K3.lt
        have K3 := K3.below bN
        have BB := bl_then BB bN
        refine hKc.out _ _ (Blk.below hHeld bN) (fun hHeld => ?_)
        clear hKc Kc
        try simp only [Act.put, List.setIfInBounds_toArray, List.set_cons_zero, List.set_cons_succ]
        refine wpAnyH_ready (rs := [3]) (by kernel_rfl) (by simp) ?_
        refine AllReadyH.cons (o := { dst := some 26, op := Op.call { callee := Callee.value (Operand.func 29), args := #[Operand.tmp 25, Operand.const (Value.string { data := #[0] })], argTypes := #[9, 9] }, type := 9, pos := "dir.go:65", after := #[{ on := 2, ground := Ground.data }], guard := none }) rfl (fun Kc hKc => ?_) AllReadyH.nil
        go_simp
        refine (hTr.out _).mono ?_
        rintro r wt ⟨rfl, rfl⟩
        refine hKc.out _ _ (hHeld) (fun hHeld => ?_)
        clear hKc Kc
        try simp only [Act.put, List.setIfInBounds_toArray, List.set_cons_zero, List.set_cons_succ]
        refine wpAnyH_take (i := 14) (oi := { dst := some 37, op := Op.build 30 #[(0, Operand.tmp 26), (1, Operand.tmp 36)], type := 30, pos := "dir.go:65", after := #[{ on := 3, ground := Ground.data }, { on := 13, ground := Ground.data }], guard := none }) (v := ?_) rfl (by kernel_rfl) (by kernel_rfl) (by kernel_rfl) (fun _ _ _ h => h) ?_ hHeld ?_
        rotate_left
        · refine Or.inl ⟨by rfl, fun w hSw => ?_⟩; skip; go_simp; (try with_reducible rfl)
        try simp only [Act.put, List.setIfInBounds_toArray, List.set_cons_zero, List.set_cons_succ]
        refine wpAnyH_ready (rs := [16]) (by kernel_rfl) (by simp) ?_
        refine AllReadyH.cons (o := { dst := none, op := Op.store 30 (Operand.tmp 7) (Operand.tmp 37), type := 0, pos := "dir.go:65", after := #[{ on := 15, ground := Ground.data }, { on := 14, ground := Ground.data }, { on := 3, ground := Ground.chain }, { on := 0, ground := Ground.phase }, { on := 1, ground := Ground.phase }, { on := 2, ground := Ground.phase }, { on := 3, ground := Ground.phase }, { on := 4, ground := Ground.phase }, { on := 5, ground := Ground.phase }, { on := 6, ground := Ground.phase }, { on := 7, ground := Ground.phase }, { on := 8, ground := Ground.phase }, { on := 9, ground := Ground.phase }, { on := 10, ground := Ground.phase }, { on := 11, ground := Ground.phase }, { on := 12, ground := Ground.phase }, { on := 13, ground := Ground.phase }, { on := 14, ground := Ground.phase }, { on := 15, ground := Ground.phase }], guard := none }) rfl (fun Kc hKc => ?_) AllReadyH.nil
        refine step_of (by rfl) (wp_whole 30 (.tmp 7) (.tmp 37) (by rfl) gN (by rfl) (ea ⟨T, x0 + x1 * 256⟩) (by rfl) 30 (ea ⟨⟨#[]⟩, 0⟩) kN (sz_ea _) rfl (ea_one _) ?_)
        intro wS kS gS sS
        have K3 := K3.grown gS (fun e => by injection e with e; omega)
        have BB := below_grown BB BB.size gS (by omega)
        refine hKc.out _ _ (Blk.grown hHeld gS (fun e => by injection e with e; omega)) (fun hHeld => ?_)
        clear hKc Kc
        try simp only [Act.put]
        refine wpAnyH_done (by kernel_rfl) ?_ _
        go_wp2_with fail
        go_meet
        exact ⟨gN, rfl, kS, hHeld, K3, BB⟩
      exact AllReadyH.nil
    case rest =>
      clear K1 K3 BB
      obtain ⟨g7, rfl, K7, K1, K3, BB⟩ := hcut
      go_wp2_with (first
        | (refine wl_load rfl 27 (.tmp 2) rfl w.heap.size rfl 27 (bc d) _ K1 Tryd.underlying27 rfl (sz_bc _) ?_)
        | (refine wl_load rfl 30 (.tmp 7) rfl g7 rfl 30 (ea ⟨T, x0 + x1 * 256⟩) _ K7 Tryd.underlying30 rfl (sz_ea _) ?_))
      refine (hP.out _).mono ?_
      rintro r w4 ⟨rfl, b4⟩
      have K7 := K7.below b4
      have K1 := K1.below b4
      have K3 := K3.below b4
      have BB := bl_then BB b4
      clear hP b4
      have zk1 := K1.lt
      have zk3 := K3.lt
      have zk7 := K7.lt
      go_wp2_with (first
        | ((with_reducible refine wl_alloc rfl 27 rfl (bc zb) new_d ?_); intro w5 k5 b5 s5)
        | ((refine wl_store rfl 27 (.tmp 8) (.tmp 43) rfl w4.heap.size rfl (bc d) rfl 27 (bc zb) k5 (sz_bc _) (by rw [bc_size, bc_size]) (bc_one _) ?_); intro w6 k6 g6 s6; have b6 := below_grown b5 b5.size g6 (Nat.le_refl _); have K7 := K7.below b6; have K1 := K1.below b6; have K3 := K3.below b6; have BB := bl_then BB b6)
        | (refine at_slot 48 rfl ?_; refine wl_load_on rfl 27 (.tmp 8) rfl w4.heap.size rfl 27 (bc d) _ k6 Tryd.underlying27 rfl (sz_bc _) ?hop ?_; case hop => exact ⟨_, _, rfl, rfl, rfl⟩)
        | (refine at_slot 49 rfl ?_; refine wl_load_on rfl 27 (.tmp 2) rfl w.heap.size rfl 27 (bc d) _ K1 Tryd.underlying27 rfl (sz_bc _) ?hop2 ?_; case hop2 => exact ⟨_, _, rfl, rfl, rfl⟩)
        | (refine at_slot 50 rfl ?_; refine wl_neq_on rfl ?hop3 27 (.tmp 48) (.tmp 49) 27 rfl (bc d) (bc d) rfl rfl (by kernel_rfl) true (by rw [eq_d]; simp) ?_; case hop3 => exact ⟨_, _, rfl, rfl, rfl⟩)
        | (refine at_slot 53 rfl ?_; refine wl_load rfl 30 (.tmp 7) rfl g7 rfl 30 (ea ⟨T, x0 + x1 * 256⟩) _ K7 Tryd.underlying30 rfl (sz_ea _) ?_)
        | (refine at_none rfl ?_; refine wl_store rfl 30 (.tmp 4) (.tmp 53) rfl w1.heap.size rfl (ea ⟨T, x0 + x1 * 256⟩) rfl 30 (ea ⟨⟨#[]⟩, 0⟩) K3 (sz_ea _) rfl (ea_one _) ?_; intro w7 k7 gg7 s7))
      refine bodyPost_ret (res_cell_tmp rfl _ _ _ w1.heap.size 30 (ea ⟨T, x0 + x1 * 256⟩) _ rfl k7 Tryd.underlying30 rfl (sz_ea _)) rfl ⟨rfl, below_grown BB BB.size gg7 (by omega)⟩)
set_option maxRecDepth 100000 in
set_option maxHeartbeats 4000000 in
theorem get_bad (d : Bk) (a : Int) (n : Nat) (w : World) (hn : n < 4) (haa : (n : Int) = a) (hd : Okb d) (hr : rightB (getE d n) = false) :
    Calls Tryd.prog 14 #[.agg (bc d), .int .i64 a] w fun r w' => r = .returned (.tuple #[.agg (ea (gotE d n)), .bool (rightB (getE d n))]) ∧ Below w.heap.size w w' := by
  have hcv := Lib.hid (fun OFF cap w' hO h => conv14 d n hn w.heap.size OFF cap w' hO h)
  have hb0 := Lib.hid (fun OFF w' (hO : OFF = n * 16) (h : Blk w' w.heap.size 27 (bc d)) => (show w'.cell? ⟨w.heap.size, OFF, none⟩ = some (.int .u8 (b0 d n)) by subst hO; exact cellb d _ _ w' (by omega) h))
  have hb1 := Lib.hid (fun OFF w' (hO : OFF = n * 16 + 1) (h : Blk w' w.heap.size 27 (bc d)) => (show w'.cell? ⟨w.heap.size, OFF, none⟩ = some (.int .u8 (b1 d n)) by subst hO; exact cellb d _ _ w' (by omega) h))
  have r0 : 0 ≤ b0 d n ∧ b0 d n < 256 := okb_at hd _
  have r1 : 0 ≤ b1 d n ∧ b1 d n < 256 := okb_at hd _
  have hor := Lib.hid (or_hi _ _ r0.1 r0.2 r1.1 r1.2)
  have hw0 : Hid (IntKind.i64.wrap (b0 d n) = b0 d n) := Lib.hid (by simp only [IntKind.wrap, IntKind.signed, IntKind.bits]; simp; omega)
  have hw1 : Hid (IntKind.i64.wrap (b1 d n) = b1 d n) := Lib.hid (by simp only [IntKind.wrap, IntKind.signed, IntKind.bits]; simp; omega)
  have hsl : Hid (IntKind.i64.wrap (b1 d n * 256) = b1 d n * 256) := Lib.hid (by simp only [IntKind.wrap, IntKind.signed, IntKind.bits]; simp; omega)
  have hTr := Lib.hid (fun w' => Trim.trim0_c (strOfNums (tl d n)) w' (by
    show (strOfNums (tl d n)).data.size ≤ _
    rw [← Array.length_toList, str_data, List.length_map, tl_len hn]; decide))
  have hPn := Lib.hid (fun (h : rightB (getE d n) = false) w' => put_no d a (getE d n) w' (by unfold maxLen; have := nm_size (d := d) hn; omega) (.inr (.inr h)))
  have hPy := fun (h : rightB (getE d n) = true) w' => put_yes d a n (getE d n) w' hn haa h
  have hPG := fun h => put_get hn hd h
  have hg : getE d n = ⟨⟨(Lib.trimRightB (strOfNums (tl d n)).data.toList 0).toArray⟩, b0 d n + b1 d n * 256⟩ := rfl
  obtain ⟨T, hT⟩ : ∃ T : ByteArray, T = ⟨(Lib.trimRightB (strOfNums (tl d n)).data.toList 0).toArray⟩ := ⟨_, rfl⟩
  rw [← hT] at hg hTr
  have hgot : gotE d n = if rightB (getE d n) then getE d n else ⟨⟨#[]⟩, 0⟩ := rfl
  rw [hgot, hr]
  simp only [if_true, if_false, Bool.false_eq_true]
  clear hT hgot hd
  generalize getE d n = e at *
  subst hg
  generalize b0 d n = x0 at *
  generalize b1 d n = x1 at *
  obtain ⟨r00, r01⟩ := r0
  obtain ⟨r10, r11⟩ := r1
  generalize strOfNums (tl d n) = Z at *
  have hPy2 : Hid (rightB ⟨T, x0 + x1 * 256⟩ = true → ∀ w', Calls Tryd.prog 9 #[.agg (bc d), .int .i64 a, .agg (ea ⟨T, x0 + x1 * 256⟩)] w' fun r w'' => r = .returned (.tuple #[.agg (bc d), .bool true]) ∧ Below w'.heap.size w' w'') := Lib.hid (fun h w' => by
    have h1 := hPy h w'
    rw [hPG h] at h1
    exact h1)
  clear hPy hPG
  have hP := Lib.hid (hPn.out hr)
  clear hr hPy2 hPn
  have h4 : (a = 0 ∧ n = 0) ∨ (a = 1 ∧ n = 1) ∨ (a = 2 ∧ n = 2) ∨ (a = 3 ∧ n = 3) := by omega
  clear hn haa
  rcases h4 with ⟨rfl, rfl⟩ | ⟨rfl, rfl⟩ | ⟨rfl, rfl⟩ | ⟨rfl, rfl⟩
  all_goals (
    go_enter Tryd.func14, Tryd.ntmps14
    go_upto_region 4 with (first
      | ((with_reducible refine wl_box rfl 27 _ rfl (bc d) rfl ?_); intro w1 k1 b1 s1)
      | ((with_reducible refine wl_alloc rfl 30 rfl (ea ⟨⟨#[]⟩, 0⟩) new_e ?_); intro w3 k3 b3 s3))
    have z1 := b1.size
    have K1 := (k1.below b3).drew
    have K3 := k3.drew
    have BB := bl_drew (bl_then b1 b3)
    have hgw : w.heap.size < w3.heap.size := (k1.below b3).lt
    have hgw1 : w1.heap.size < w3.heap.size := k3.lt
    clear k1 k3 b1 b3
    go_cut [7] (fun s7 wx => ∃ g7, s7 = .pointer (some ⟨g7, 0, none⟩) ∧ Blk wx g7 30 (ea ⟨T, x0 + x1 * 256⟩) ∧ Blk wx w.heap.size 27 (bc d) ∧ Blk wx w1.heap.size 30 (ea ⟨⟨#[]⟩, 0⟩) ∧ Below w.heap.size w wx)
    case first =>
      refine wp_region_held_drew (S := (fun w' => Blk w' w.heap.size 27 (bc d))) (by kernel_rfl) (K1) (fun hHeld => ?_)
      refine wpAnyH_take (i := 0) (oi := { dst := some 23, op := Op.move (Operand.tmp 6), type := 22, pos := "dir.go:65", after := #[], guard := none }) (v := ?_) rfl (by kernel_rfl) (by kernel_rfl) (by kernel_rfl) (fun _ _ _ h => h) ?_ hHeld ?_
      rotate_left
      · refine Or.inl ⟨by rfl, fun w hSw => ?_⟩; skip; go_simp; (try with_reducible rfl)
      try simp only [Act.put, List.setIfInBounds_toArray, List.set_cons_zero, List.set_cons_succ]
      refine wpAnyH_take (i := 1) (oi := { dst := some 24, op := Op.slice 22 (Operand.tmp 23) (some (Operand.const (Value.int IntKind.i64 2))) none none, type := 22, pos := "dir.go:65", after := #[{ on := 0, ground := Ground.data }], guard := none }) (v := ?_) rfl (by kernel_rfl) (by kernel_rfl) (by kernel_rfl) (fun _ _ _ h => h) ?_ hHeld ?_
      rotate_left
      · refine Or.inl ⟨by rfl, fun w hSw => ?_⟩; skip; go_simp; (try with_reducible rfl)
      try simp only [Act.put, List.setIfInBounds_toArray, List.set_cons_zero, List.set_cons_succ]
      refine wpAnyH_take (i := 2) (oi := { dst := some 25, op := Op.convert 22 9 (Operand.tmp 24), type := 9, pos := "dir.go:65", after := #[{ on := 1, ground := Ground.data }], guard := none }) (v := ?_) rfl (by kernel_rfl) (by kernel_rfl) (by kernel_rfl) (fun _ _ _ h => h) ?_ hHeld ?_
      rotate_left
      · refine Or.inl ⟨by rfl, fun w hSw => ?_⟩; (first | have c0 := (fun cap => hcv.out 2 cap _ rfl hSw) | have c0 := (fun cap => hcv.out 18 cap _ rfl hSw) | have c0 := (fun cap => hcv.out 34 cap _ rfl hSw) | have c0 := (fun cap => hcv.out 50 cap _ rfl hSw)); go_simp; (try with_reducible rfl)
      try simp only [Act.put, List.setIfInBounds_toArray, List.set_cons_zero, List.set_cons_succ]
      refine wpAnyH_take (i := 4) (oi := { dst := some 27, op := Op.move (Operand.tmp 6), type := 22, pos := "dir.go:65", after := #[], guard := none }) (v := ?_) rfl (by kernel_rfl) (by kernel_rfl) (by kernel_rfl) (fun _ _ _ h => h) ?_ hHeld ?_
      rotate_left
      · refine Or.inl ⟨by rfl, fun w hSw => ?_⟩; skip; go_simp; (try with_reducible rfl)
      try simp only [Act.put, List.setIfInBounds_toArray, List.set_cons_zero, List.set_cons_succ]
      refine wpAnyH_take (i := 5) (oi := { dst := some 28, op := Op.indexAddr 22 (Operand.tmp 27) (Operand.const (Value.int IntKind.i64 0)), type := 0, pos := "dir.go:65", after := #[{ on := 4, ground := Ground.data }], guard := none }) (v := ?_) rfl (by kernel_rfl) (by kernel_rfl) (by kernel_rfl) (fun _ _ _ h => h) ?_ hHeld ?_
      rotate_left
      · refine Or.inl ⟨by rfl, fun w hSw => ?_⟩; skip; go_simp; (try with_reducible rfl)
      try simp only [Act.put, List.setIfInBounds_toArray, List.set_cons_zero, List.set_cons_succ]
      refine wpAnyH_take (i := 6) (oi := { dst := some 29, op := Op.load 5 (Operand.tmp 28), type := 5, pos := "dir.go:65", after := #[{ on := 5, ground := Ground.data }], guard := none }) (v := ?_) rfl (by kernel_rfl) (by kernel_rfl) (by kernel_rfl) (fun _ _ _ h => h) ?_ hHeld ?_
      rotate_left
      · refine Or.inl ⟨by rfl, fun w hSw => ?_⟩; (first | have c0 := hb0.out 0 _ rfl hSw | have c0 := hb0.out 16 _ rfl hSw | have c0 := hb0.out 32 _ rfl hSw | have c0 := hb0.out 48 _ rfl hSw); go_simp; (try with_reducible rfl)
      try simp only [Act.put, List.setIfInBounds_toArray, List.set_cons_zero, List.set_cons_succ]
      refine wpAnyH_take (i := 7) (oi := { dst := some 30, op := Op.convert 5 3 (Operand.tmp 29), type := 3, pos := "dir.go:65", after := #[{ on := 6, ground := Ground.data }], guard := none }) (v := ?_) rfl (by kernel_rfl) (by kernel_rfl) (by kernel_rfl) (fun _ _ _ h => h) ?_ hHeld ?_
      rotate_left
      · refine Or.inl ⟨by rfl, fun w hSw => ?_⟩; have c0 := hw0.out; go_simp; (try with_reducible rfl)
      try simp only [Act.put, List.setIfInBounds_toArray, List.set_cons_zero, List.set_cons_succ]
      refine wpAnyH_take (i := 8) (oi := { dst := some 31, op := Op.move (Operand.tmp 6), type := 22, pos := "dir.go:65", after := #[], guard := none }) (v := ?_) rfl (by kernel_rfl) (by kernel_rfl) (by kernel_rfl) (fun _ _ _ h => h) ?_ hHeld ?_
      rotate_left
      · refine Or.inl ⟨by rfl, fun w hSw => ?_⟩; skip; go_simp; (try with_reducible rfl)
      try simp only [Act.put, List.setIfInBounds_toArray, List.set_cons_zero, List.set_cons_succ]
      refine wpAnyH_take (i := 9) (oi := { dst := some 32, op := Op.indexAddr 22 (Operand.tmp 31) (Operand.const (Value.int IntKind.i64 1)), type := 0, pos := "dir.go:65", after := #[{ on := 8, ground := Ground.data }], guard := none }) (v := ?_) rfl (by kernel_rfl) (by kernel_rfl) (by kernel_rfl) (fun _ _ _ h => h) ?_ hHeld ?_
      rotate_left
      · refine Or.inl ⟨by rfl, fun w hSw => ?_⟩; skip; go_simp; (try with_reducible rfl)
      try simp only [Act.put, List.setIfInBounds_toArray, List.set_cons_zero, List.set_cons_succ]
      refine wpAnyH_take (i := 10) (oi := { dst := some 33, op := Op.load 5 (Operand.tmp 32), type := 5, pos := "dir.go:65", after := #[{ on := 9, ground := Ground.data }], guard := none }) (v := ?_) rfl (by kernel_rfl) (by kernel_rfl) (by kernel_rfl) (fun _ _ _ h => h) ?_ hHeld ?_
      rotate_left
      · refine Or.inl ⟨by rfl, fun w hSw => ?_⟩; (first | have c0 := hb1.out 1 _ rfl hSw | have c0 := hb1.out 17 _ rfl hSw | have c0 := hb1.out 33 _ rfl hSw | have c0 := hb1.out 49 _ rfl hSw); go_simp; (try with_reducible rfl)
      try simp only [Act.put, List.setIfInBounds_toArray, List.set_cons_zero, List.set_cons_succ]
      refine wpAnyH_take (i := 11) (oi := { dst := some 34, op := Op.convert 5 3 (Operand.tmp 33), type := 3, pos := "dir.go:65", after := #[{ on := 10, ground := Ground.data }], guard := none }) (v := ?_) rfl (by kernel_rfl) (by kernel_rfl) (by kernel_rfl) (fun _ _ _ h => h) ?_ hHeld ?_
      rotate_left
      · refine Or.inl ⟨by rfl, fun w hSw => ?_⟩; have c0 := hw1.out; go_simp; (try with_reducible rfl)
      try simp only [Act.put, List.setIfInBounds_toArray, List.set_cons_zero, List.set_cons_succ]
      refine wpAnyH_take (i := 12) (oi := { dst := some 35, op := Op.binOp BinOp.shl 3 (Operand.tmp 34) (Operand.const (Value.int IntKind.u64 8)) 60, type := 3, pos := "dir.go:65", after := #[{ on := 11, ground := Ground.data }], guard := none }) (v := ?_) rfl (by kernel_rfl) (by kernel_rfl) (by kernel_rfl) (fun _ _ _ h => h) ?_ hHeld ?_
      rotate_left
      · refine Or.inl ⟨by rfl, fun w hSw => ?_⟩; have c0 := hw1.out; have c1 := hsl.out; go_simp; (try with_reducible rfl)
      try simp only [Act.put, List.setIfInBounds_toArray, List.set_cons_zero, List.set_cons_succ]
      refine wpAnyH_take (i := 13) (oi := { dst := some 36, op := Op.binOp BinOp.or 3 (Operand.tmp 30) (Operand.tmp 35) 3, type := 3, pos := "dir.go:65", after := #[{ on := 7, ground := Ground.data }, { on := 12, ground := Ground.data }], guard := none }) (v := ?_) rfl (by kernel_rfl) (by kernel_rfl) (by kernel_rfl) (fun _ _ _ h => h) ?_ hHeld ?_
      rotate_left
      · refine Or.inl ⟨by rfl, fun w hSw => ?_⟩; have c0 := hw0.out; have c1 := hw1.out; have c2 := hsl.out; have c3 := hor.out; go_simp; (try with_reducible rfl)
      try simp only [Act.put, List.setIfInBounds_toArray, List.set_cons_zero, List.set_cons_succ]
      refine wpAnyH_ready (rs := [3, 15]) (by kernel_rfl) (by simp) ?_
      refine AllReadyH.cons (o := { dst := some 26, op := Op.call { callee := Callee.value (Operand.func 29), args := #[Operand.tmp 25, Operand.const (Value.string { data := #[0] })], argTypes := #[9, 9] }, type := 9, pos := "dir.go:65", after := #[{ on := 2, ground := Ground.data }], guard := none }) rfl (fun Kc hKc => ?_) ?_
      · go_simp
        refine (hTr.out _).mono ?_
        rintro r wt ⟨rfl, rfl⟩
        refine hKc.out _ _ (hHeld) (fun hHeld => ?_)
        clear hKc Kc
        try simp only [Act.put, List.setIfInBounds_toArray, List.set_cons_zero, List.set_cons_succ]
        refine wpAnyH_take (i := 14) (oi := { dst := some 37, op := Op.build 30 #[(0, Operand.tmp 26), (1, Operand.tmp 36)], type := 30, pos := "dir.go:65", after := #[{ on := 3, ground := Ground.data }, { on := 13, ground := Ground.data }], guard := none }) (v := ?_) rfl (by kernel_rfl) (by kernel_rfl) (by kernel_rfl) (fun _ _ _ h => h) ?_ hHeld ?_
        rotate_left
        · refine Or.inl ⟨by rfl, fun w hSw => ?_⟩; skip; go_simp; (try with_reducible rfl)
        try simp only [Act.put, List.setIfInBounds_toArray, List.set_cons_zero, List.set_cons_succ]
        refine wpAnyH_ready (rs := [15]) (by kernel_rfl) (by simp) ?_
        refine AllReadyH.cons (o := { dst := some 7, op := Op.alloc 30, type := 0, pos := "dir.go:65", after := #[], guard := none }) rfl (fun Kc hKc => ?_) AllReadyH.nil
        refine step_of (by rfl) (wp_alloc 30 rfl (ea ⟨⟨#[]⟩, 0⟩) new_e ?_)
        intro gN wN zN sN kN bN
        have zg := hHeld.lt
        have zg3 := K3.lt
        have K3 := K3.below bN
        have BB := bl_then BB bN
        refine hKc.out _ _ (Blk.below hHeld bN) (fun hHeld => ?_)
        clear hKc Kc
        try simp only [Act.put, List.setIfInBounds_toArray, List.set_cons_zero, List.set_cons_succ]
        refine wpAnyH_ready (rs := [16]) (by kernel_rfl) (by simp) ?_
        refine AllReadyH.cons (o := { dst := none, op := Op.store 30 (Operand.tmp 7) (Operand.tmp 37), type := 0, pos := "dir.go:65", after := #[{ on := 15, ground := Ground.data }, { on := 14, ground := Ground.data }, { on := 3, ground := Ground.chain }, { on := 0, ground := Ground.phase }, { on := 1, ground := Ground.phase }, { on := 2, ground := Ground.phase }, { on := 3, ground := Ground.phase }, { on := 4, ground := Ground.phase }, { on := 5, ground := Ground.phase }, { on := 6, ground := Ground.phase }, { on := 7, ground := Ground.phase }, { on := 8, ground := Ground.phase }, { on := 9, ground := Ground.phase }, { on := 10, ground := Ground.phase }, { on := 11, ground := Ground.phase }, { on := 12, ground := Ground.phase }, { on := 13, ground := Ground.phase }, { on := 14, ground := Ground.phase }, { on := 15, ground := Ground.phase }], guard := none }) rfl (fun Kc hKc => ?_) AllReadyH.nil
        refine step_of (by rfl) (wp_whole 30 (.tmp 7) (.tmp 37) (by rfl) gN (by rfl) (ea ⟨T, x0 + x1 * 256⟩) (by rfl) 30 (ea ⟨⟨#[]⟩, 0⟩) kN (sz_ea _) rfl (ea_one _) ?_)
        intro wS kS gS sS
        have K3 := K3.grown gS (fun e => by injection e with e; omega)
        have BB := below_grown BB BB.size gS (by omega)
        refine hKc.out _ _ (Blk.grown hHeld gS (fun e => by injection e with e; omega)) (fun hHeld => ?_)
        clear hKc Kc
        try simp only [Act.put]
        refine wpAnyH_done (by kernel_rfl) ?_ _
        go_wp2_with fail
        go_meet
        exact ⟨gN, rfl, kS, hHeld, K3, BB⟩
      refine AllReadyH.cons (o := { dst := some 7, op := Op.alloc 30, type := 0, pos := "dir.go:65", after := #[], guard := none }) rfl (fun Kc hKc => ?_) ?_
      · refine step_of (by rfl) (wp_alloc 30 rfl (ea ⟨⟨#[]⟩, 0⟩) new_e ?_)
        intro gN wN zN sN kN bN
        have zg := hHeld.lt
        have zg3 := K3.lt
        have K3 := K3.below bN
        have BB := bl_then BB bN
        refine hKc.out _ _ (Blk.below hHeld bN) (fun hHeld => ?_)
        clear hKc Kc
        try simp only [Act.put, List.setIfInBounds_toArray, List.set_cons_zero, List.set_cons_succ]
        refine wpAnyH_ready (rs := [3]) (by kernel_rfl) (by simp) ?_
        refine AllReadyH.cons (o := { dst := some 26, op := Op.call { callee := Callee.value (Operand.func 29), args := #[Operand.tmp 25, Operand.const (Value.string { data := #[0] })], argTypes := #[9, 9] }, type := 9, pos := "dir.go:65", after := #[{ on := 2, ground := Ground.data }], guard := none }) rfl (fun Kc hKc => ?_) AllReadyH.nil
        go_simp
        refine (hTr.out _).mono ?_
        rintro r wt ⟨rfl, rfl⟩
        refine hKc.out _ _ (hHeld) (fun hHeld => ?_)
        clear hKc Kc
        try simp only [Act.put, List.setIfInBounds_toArray, List.set_cons_zero, List.set_cons_succ]
        refine wpAnyH_take (i := 14) (oi := { dst := some 37, op := Op.build 30 #[(0, Operand.tmp 26), (1, Operand.tmp 36)], type := 30, pos := "dir.go:65", after := #[{ on := 3, ground := Ground.data }, { on := 13, ground := Ground.data }], guard := none }) (v := ?_) rfl (by kernel_rfl) (by kernel_rfl) (by kernel_rfl) (fun _ _ _ h => h) ?_ hHeld ?_
        rotate_left
        · refine Or.inl ⟨by rfl, fun w hSw => ?_⟩; skip; go_simp; (try with_reducible rfl)
        try simp only [Act.put, List.setIfInBounds_toArray, List.set_cons_zero, List.set_cons_succ]
        refine wpAnyH_ready (rs := [16]) (by kernel_rfl) (by simp) ?_
        refine AllReadyH.cons (o := { dst := none, op := Op.store 30 (Operand.tmp 7) (Operand.tmp 37), type := 0, pos := "dir.go:65", after := #[{ on := 15, ground := Ground.data }, { on := 14, ground := Ground.data }, { on := 3, ground := Ground.chain }, { on := 0, ground := Ground.phase }, { on := 1, ground := Ground.phase }, { on := 2, ground := Ground.phase }, { on := 3, ground := Ground.phase }, { on := 4, ground := Ground.phase }, { on := 5, ground := Ground.phase }, { on := 6, ground := Ground.phase }, { on := 7, ground := Ground.phase }, { on := 8, ground := Ground.phase }, { on := 9, ground := Ground.phase }, { on := 10, ground := Ground.phase }, { on := 11, ground := Ground.phase }, { on := 12, ground := Ground.phase }, { on := 13, ground := Ground.phase }, { on := 14, ground := Ground.phase }, { on := 15, ground := Ground.phase }], guard := none }) rfl (fun Kc hKc => ?_) AllReadyH.nil
        refine step_of (by rfl) (wp_whole 30 (.tmp 7) (.tmp 37) (by rfl) gN (by rfl) (ea ⟨T, x0 + x1 * 256⟩) (by rfl) 30 (ea ⟨⟨#[]⟩, 0⟩) kN (sz_ea _) rfl (ea_one _) ?_)
        intro wS kS gS sS
        have K3 := K3.grown gS (fun e => by injection e with e; omega)
        have BB := below_grown BB BB.size gS (by omega)
        refine hKc.out _ _ (Blk.grown hHeld gS (fun e => by injection e with e; omega)) (fun hHeld => ?_)
        clear hKc Kc
        try simp only [Act.put]
        refine wpAnyH_done (by kernel_rfl) ?_ _
        go_wp2_with fail
        go_meet
        exact ⟨gN, rfl, kS, hHeld, K3, BB⟩
      exact AllReadyH.nil
    case rest =>
      clear K1 K3 BB
      obtain ⟨g7, rfl, K7, K1, K3, BB⟩ := hcut
      go_wp2_with (first
        | (refine wl_load rfl 27 (.tmp 2) rfl w.heap.size rfl 27 (bc d) _ K1 Tryd.underlying27 rfl (sz_bc _) ?_)
        | (refine wl_load rfl 30 (.tmp 7) rfl g7 rfl 30 (ea ⟨T, x0 + x1 * 256⟩) _ K7 Tryd.underlying30 rfl (sz_ea _) ?_))
      refine (hP.out _).mono ?_
      rintro r w4 ⟨rfl, b4⟩
      have K3 := K3.below b4
      have BB := bl_then BB b4
      clear hP b4
      have zk3 := K3.lt
      go_wp2_with (first
        | ((with_reducible refine wl_alloc rfl 27 rfl (bc zb) new_d ?_); intro w5 k5 b5 s5)
        | ((refine wl_store rfl 27 (.tmp 8) (.tmp 43) rfl w4.heap.size rfl (bc d) rfl 27 (bc zb) k5 (sz_bc _) (by rw [bc_size, bc_size]) (bc_one _) ?_); intro w6 k6 g6 s6; have b6 := below_grown b5 b5.size g6 (Nat.le_refl _); have K3 := K3.below b6; have BB := bl_then BB b6)
        | (refine at_none rfl ?_; refine wl_store rfl 30 (.tmp 4) (.tmp 52) rfl w1.heap.size rfl (ea ⟨⟨#[]⟩, 0⟩) rfl 30 (ea ⟨⟨#[]⟩, 0⟩) K3 (sz_ea _) rfl (ea_one _) ?_; intro w7 k7 gg7 s7))
      refine bodyPost_ret (res_cell_tmp rfl _ _ _ w1.heap.size 30 (ea ⟨⟨#[]⟩, 0⟩) _ rfl k7 Tryd.underlying30 rfl (sz_ea _)) rfl ⟨rfl, below_grown BB BB.size gg7 (by omega)⟩)

theorem get_c (d : Bk) (a : Int) (n : Nat) (w : World) (hn : n < 4) (haa : (n : Int) = a) (hd : Okb d) :
    Calls Tryd.prog 14 #[.agg (bc d), .int .i64 a] w fun r w' => r = .returned (.tuple #[.agg (ea (gotE d n)), .bool (rightB (getE d n))]) ∧ Below w.heap.size w w' := by
  have hrb : rightB (getE d n) = true ∨ rightB (getE d n) = false := by cases rightB (getE d n) <;> simp
  rcases hrb with hr | hr
  · exact get_yes d a n w hn haa hd hr
  · exact get_bad d a n w hn haa hd hr
end Go.Proofs.YthihpejhhimkaaaDoor.Dir5
