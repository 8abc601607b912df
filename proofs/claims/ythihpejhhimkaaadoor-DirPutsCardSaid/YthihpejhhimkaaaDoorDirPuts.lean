/- The law DirPuts. -/
import Derived.Test.YthihpejhhimkaaaDoorDir13
import Derived.Test.YthihpejhhimkaaaDoorDir7
import Derived.Test.YthihpejhhimkaaaDoorFlatW
import Derived.BigQuiet
set_option linter.unusedVariables false
namespace Go.Proofs.YthihpejhhimkaaaDoor.DirPuts
open Go.RowKit Go.ChangeShapes Go.WideShapes Go.Deep Go.Proofs.YthihpejhhimkaaaDoor.Base Go.Proofs.YthihpejhhimkaaaDoor.Row Go.Proofs.YthihpejhhimkaaaDoor.App Go.Proofs.YthihpejhhimkaaaDoor.Multi Go.Proofs.YthihpejhhimkaaaDoor.Flat Go.Proofs.YthihpejhhimkaaaDoor.FlatW Go.Proofs.YthihpejhhimkaaaDoor.StEq Go.Proofs.YthihpejhhimkaaaDoor.Held Go.Proofs.YthihpejhhimkaaaDoor.Out Go.Proofs.YthihpejhhimkaaaDoor.HeldW Go.Proofs.YthihpejhhimkaaaDoor.HeldX Go.Proofs.YthihpejhhimkaaaDoor.DiskMath Go.Proofs.YthihpejhhimkaaaDoor.Dir Go.Proofs.YthihpejhhimkaaaDoor.Dir2 Go.Proofs.YthihpejhhimkaaaDoor.Dir3 Go.Proofs.YthihpejhhimkaaaDoor.Dir4 Go.Proofs.YthihpejhhimkaaaDoor.Dir5 Go.Proofs.YthihpejhhimkaaaDoor.Dir7 Go.Proofs.YthihpejhhimkaaaDoor.Dir9 Go.Proofs.YthihpejhhimkaaaDoor.Dir13

theorem rsz_ea (e : En) : (Tryd.prog.info? 24).map (·.size) = some (ea e).size := by kernel_rfl
theorem built_e (e : En) : Tryd.prog.built 30 [(0, .string e.s), (1, .int .i64 e.i)] = some (ea e) := by kernel_rfl
theorem eq_e (e : En) (w : World) : (Op.equalIn 10000 30 (.agg (ea e)) (.agg (ea e))).run Tryd.prog w = .ok true w := by
  unfold ea
  go_simp
theorem same {f : FuncId} {args : Array Value} {w : World} {v : Value} (h : Calls Tryd.prog f args w fun e w' => e = .returned v ∧ w = w') : Calls Tryd.prog f args w fun e w' => e = .returned v ∧ w' = w :=
  h.mono fun _ _ ⟨h1, h2⟩ => ⟨h1, h2.symm⟩
/-- The bytes of a block of bytes are bytes. -/
theorem okb_of {xs : List Int} (h : ∀ x ∈ xs, 0 ≤ x ∧ x < 256) : Okb (ofB xs) := by
  intro x hx
  have h1 : (ofB xs).l = pre xs 64 := rfl
  rw [h1] at hx
  unfold pre at hx
  obtain ⟨i, _, rfl⟩ := List.mem_map.1 hx
  by_cases h2 : i < 64
  · rw [if_pos h2]
    exact getD_mem_range h (by omega) i
  · rw [if_neg h2]; omega
theorem okb_put {d : Bk} {n : Nat} {e : En} (hn : n < 4) (hr : rightB e = true) (hd : Okb d) : Okb (putB d n e) := by
  obtain ⟨h1, h2, h3⟩ := right_le hr
  intro x hx
  rw [putB_l hn h1] at hx
  unfold putL at hx
  rw [List.mem_append, List.mem_append] at hx
  rcases hx with (hx | hx) | hx
  · exact hd x (List.mem_of_mem_take hx)
  · unfold ent at hx
    rcases List.mem_cons.1 hx with rfl | hx
    · omega
    · rcases List.mem_cons.1 hx with rfl | hx
      · omega
      · rcases List.mem_append.1 hx with hx | hx
        · unfold byts at hx
          obtain ⟨c, _, rfl⟩ := List.mem_map.1 hx
          have := c.toNat_lt
          omega
        · have := List.eq_of_mem_replicate hx
          omega
  · exact hd x (List.mem_of_mem_drop hx)
theorem right_nz {e : En} (hr : rightB e = true) : ∀ c ∈ e.s.data.toList, c ≠ 0 := by
  intro c hc h0
  by_cases hz : e.s.toList = [] ∧ e.i = 0
  · rw [ByteArray.toList_eq] at hz
    rw [hz.1] at hc
    cases hc
  · rw [right_else hz, Bool.and_eq_true] at hr
    have h1 := hr.1
    rw [nameB', Bool.and_eq_true, List.all_eq_true] at h1
    have h2 := h1.1 c hc
    rw [h0] at h2
    revert h2
    decide
set_option maxRecDepth 100000 in
set_option maxHeartbeats 4000000 in
theorem yes (A : Option Addr) (m c : Nat) (xs : List Int) (a : Int) (n : Nat) (e : En) (w : World) (hx : Rd w .u8 A m xs) (hok : ∀ x ∈ xs, 0 ≤ x ∧ x < 256) (hs : e.s.size ≤ maxLen) (hn : n < 4) (haa : (n : Int) = a) (hr : rightB e = true) :
    Calls Tryd.prog 3 #[.slice A m c, .int .i64 a, .agg (ea e)] w fun r w' => r = .returned (.bool true) ∧ Below w.heap.size w w' := by
  have hd := okb_of hok
  have hOf := Lib.hid (fun w' (hb : Below w.heap.size w w') => of_c A m c xs w' (hx.below hb))
  generalize ofB xs = d at *
  have hP := Lib.hid (fun w' => put_yes d a n e w' hn haa hr)
  have hRP := Lib.hid (fun w' => rput_c d a n e w' hn haa hr)
  have hG := fun w' => get_c (putB d n e) a n w' hn haa (okb_put hn hr hd)
  rw [show gotE (putB d n e) n = e by unfold gotE; rw [get_put hn hr (right_nz hr), if_pos hr], get_put hn hr (right_nz hr), hr] at hG
  replace hG := Lib.hid hG
  have hN1 := Lib.hid (fun w' => name_c e.s w' hs)
  have hN2 := Lib.hid (fun w' => rname_c e.s w' hs)
  have hR := fun w' => rright_c e w' hs
  rw [hr] at hR
  replace hR := Lib.hid hR
  have hA := Lib.hid (fun w' => awake_c w')
  have q1 : decide (a < 0) = false := by simp; omega
  have q2 : decide (3 < a) = false := by simp; omega
  have p1 : ¬ a < 0 := by omega
  have p2 : ¬ 3 < a := by omega
  have hnn : ∀ x : Bool, (x != x) = false := by simp
  have hnb := hnn (nameB e.s)
  generalize nameB e.s = nb at *
  generalize putB d n e = D2 at *
  clear hd hok hs hn haa hr hnn
  go_enter Tryd.func3, Tryd.ntmps3
  go_wp2_with (first
    | ((with_reducible refine wl_box rfl 24 _ rfl (ea e) rfl ?_); intro w1 k1 b1 s1))
  refine (hOf.out _ b1).mono ?_
  rintro r w2 ⟨rfl, b2⟩
  have K1 := k1.below b2
  have BB := bl_then b1 b2
  have z1 := K1.lt
  clear k1 b1 b2 hOf
  go_wp2_with (first
    | ((with_reducible refine wl_alloc rfl 25 rfl (bc zb) rnew_d ?_); intro w3 k3 b3 s3)
    | ((refine wl_store rfl 25 (.tmp 7) (.tmp 13) rfl w2.heap.size rfl (bc d) rfl 25 (bc zb) k3 (rsz_bc _) (by rw [bc_size, bc_size]) (bc_one _) ?_); intro w4 k4 g4 s4; have K1 := (K1.below b3).grown g4 (fun e => by injection e with e; omega); have BB := bl_then BB (below_grown b3 b3.size g4 (Nat.le_refl _)); have c0 : w4.cell? ⟨w.heap.size, 0, none⟩ = some (.string e.s) := K1.cellv 0 _ rfl; have c1 : w4.cell? ⟨w.heap.size, 1, none⟩ = some (.int .i64 e.i) := K1.cellv 1 _ rfl)
    | (refine wl_load rfl 25 (.tmp 7) rfl w2.heap.size rfl 25 (bc d) _ k4 Tryd.underlying25 rfl (rsz_bc _) ?_))
  refine (hP.out _).mono ?_
  rintro r w5 ⟨rfl, b5⟩
  have K3 := k4.below b5
  have K1 := K1.below b5
  have BB := bl_then BB b5
  have z3 := K3.lt
  clear k3 k4 b3 g4 b5 hP c0 c1
  obtain ⟨gd, hgd⟩ : ∃ gd, gd = w2.heap.size := ⟨_, rfl⟩
  rw [← hgd] at K3 z3 ⊢
  have zd : w.heap.size < gd := by omega
  clear hgd
  go_upto_region 3 with (first
    | ((with_reducible refine wl_alloc rfl 27 rfl (bc zb) new_d ?_); intro w6 k6 b6 s6)
    | ((refine wl_store rfl 27 (.tmp 8) (.tmp 23) rfl w5.heap.size rfl (bc D2) rfl 27 (bc zb) k6 (sz_bc _) (by rw [bc_size, bc_size]) (bc_one _) ?_); intro w7 k7 g7 s7))
  have K3 := (K3.below b6).grown g7 (fun e => by injection e with e; omega)
  have K1 := (K1.below b6).grown g7 (fun e => by injection e with e; omega)
  have BB := bl_then BB (below_grown b6 b6.size g7 (Nat.le_refl _))
  obtain ⟨gx, hgx⟩ : ∃ gx, gx = w5.heap.size := ⟨_, rfl⟩
  rw [← hgx] at k7 z3 ⊢
  have c0 : w7.cell? ⟨w.heap.size, 0, none⟩ = some (.string e.s) := K1.cellv 0 _ rfl
  have z7 : gx < w7.heap.size := k7.lt
  clear hgx k6 b6 g7 s6 s7
  go_quiet (first | exact Calls.quiet_of_same (same (hN1.out _)) | exact Calls.quiet_of_same (same (hN2.out _)))
  have bq := bl_drewN (bl_refl w7) nq
  have K1 := K1.below bq
  have K3 := K3.below bq
  have K4 := k7.below bq
  have BB := bl_then BB bq
  have z7 : gx < (w7.drewN nq).heap.size := K4.lt
  clear c0 k7 bq hN1 hN2 hnb
  generalize w7.drewN nq = wq at *
  go_wp2_with (first
    | (refine wl_load_on rfl 24 (.tmp 5) rfl w.heap.size rfl 24 (ea e) _ K1 Tryd.underlying24 rfl (rsz_ea _) ?hop ?_; case hop => exact ⟨_, _, rfl, rfl, rfl⟩))
  refine (hR.out _).mono ?_
  rintro r w8 ⟨rfl, b8⟩
  have K1 := K1.below b8
  have K3 := K3.below b8
  have K4 := K4.below b8
  have BB := bl_then BB b8
  clear b8 hR q1 q2 p1 p2
  go_wp2_with (first
    | (refine wl_load rfl 27 (.tmp 8) rfl gx rfl 27 (bc D2) _ K4 Tryd.underlying27 rfl (sz_bc _) ?_))
  refine (hG.out _).mono ?_
  rintro r w9 ⟨rfl, b9⟩
  have K1 := K1.below b9
  have K3 := K3.below b9
  have K4 := K4.below b9
  have BB := bl_then BB b9
  have z9 : gx < w9.heap.size := K4.lt
  clear b9 hG
  go_upto_region 8 with (first
    | ((with_reducible refine wl_alloc rfl 30 rfl (ea ⟨⟨#[]⟩, 0⟩) new_e ?_); intro w10 k10 b10 s10)
    | ((refine wl_store rfl 30 (.tmp 10) (.tmp 57) rfl w9.heap.size rfl (ea e) rfl 30 (ea ⟨⟨#[]⟩, 0⟩) k10 (sz_ea _) rfl (ea_one _) ?_); intro w11 k11 g11 s11))
  have K1 := (K1.below b10).grown g11 (fun e => by injection e with e; omega)
  have K3 := (K3.below b10).grown g11 (fun e => by injection e with e; omega)
  have K4 := (K4.below b10).grown g11 (fun e => by injection e with e; omega)
  have K5 := k11
  have BB := bl_drew (bl_then BB (below_grown b10 b10.size g11 (Nat.le_refl _)))
  obtain ⟨gy, hgy⟩ : ∃ gy, gy = w9.heap.size := ⟨_, rfl⟩
  rw [← hgy] at K5 ⊢
  clear hgy k10 b10 g11 k11 s10 s11
  refine wp_region_held_drew (S := (fun w' => Blk w' w.heap.size 24 (ea e) ∧ Blk w' gd 25 (bc d) ∧ Blk w' gx 27 (bc D2) ∧ Blk w' gy 30 (ea e))) (by kernel_rfl) (⟨K1.drew, K3.drew, K4.drew, K5.drew⟩) (fun hHeld => ?_)
  refine wpAnyH_take (i := 0) (oi := { dst := some 59, op := Op.move (Operand.tmp 9), type := 4, pos := "law.go:29", after := #[], guard := none }) (v := ?_) rfl (by kernel_rfl) (by kernel_rfl) (by kernel_rfl) (fun _ _ _ h => h) ?_ hHeld ?_
  rotate_left
  · refine Or.inl ⟨by rfl, fun w hSw => ?_⟩; skip; go_simp; (try with_reducible rfl)
  try simp only [Act.put, List.setIfInBounds_toArray, List.set_cons_zero, List.set_cons_succ]
  refine wpAnyH_take (i := 1) (oi := { dst := some 60, op := Op.move (Operand.tmp 59), type := 4, pos := "law.go:29", after := #[{ on := 0, ground := Ground.data }], guard := none }) (v := ?_) rfl (by kernel_rfl) (by kernel_rfl) (by kernel_rfl) (fun _ _ _ h => h) ?_ hHeld ?_
  rotate_left
  · refine Or.inl ⟨by rfl, fun w hSw => ?_⟩; skip; go_simp; (try with_reducible rfl)
  try simp only [Act.put, List.setIfInBounds_toArray, List.set_cons_zero, List.set_cons_succ]
  refine wpAnyH_take (i := 2) (oi := { dst := some 61, op := Op.load 27 (Operand.tmp 8), type := 27, pos := "law.go:29", after := #[{ on := 1, ground := Ground.guard }], guard := some (1, true) }) (v := ?_) rfl (by kernel_rfl) (by kernel_rfl) (by kernel_rfl) (fun _ _ _ h => h) ?_ hHeld ?_
  rotate_left
  · refine yIf_load 27 (.tmp 8) gx 27 (bc D2) _ ?_ Tryd.underlying27 rfl (sz_bc _) ?_ ?_ ?_
    · exact fun _ h => h.2.2.1
    · rfl
    · rfl
    · rfl
  try simp only [Act.put, List.setIfInBounds_toArray, List.set_cons_zero, List.set_cons_succ]
  refine wpAnyH_take (i := 3) (oi := { dst := some 62, op := Op.load 25 (Operand.tmp 7), type := 25, pos := "law.go:29", after := #[{ on := 1, ground := Ground.guard }], guard := some (1, true) }) (v := ?_) rfl (by kernel_rfl) (by kernel_rfl) (by kernel_rfl) (fun _ _ _ h => h) ?_ hHeld ?_
  rotate_left
  · refine yIf_load 25 (.tmp 7) gd 25 (bc d) _ ?_ Tryd.underlying25 rfl (rsz_bc _) ?_ ?_ ?_
    · exact fun _ h => h.2.1
    · rfl
    · rfl
    · rfl
  try simp only [Act.put, List.setIfInBounds_toArray, List.set_cons_zero, List.set_cons_succ]
  refine wpAnyH_take (i := 4) (oi := { dst := some 63, op := Op.move (Operand.tmp 1), type := 3, pos := "law.go:29", after := #[{ on := 1, ground := Ground.guard }], guard := some (1, true) }) (v := ?_) rfl (by kernel_rfl) (by kernel_rfl) (by kernel_rfl) (fun _ _ _ h => h) ?_ hHeld ?_
  rotate_left
  · refine Or.inl ⟨by rfl, fun w hSw => ?_⟩; skip; go_simp; (try with_reducible rfl)
  try simp only [Act.put, List.setIfInBounds_toArray, List.set_cons_zero, List.set_cons_succ]
  refine wpAnyH_take (i := 5) (oi := { dst := some 64, op := Op.load 24 (Operand.tmp 5), type := 24, pos := "law.go:29", after := #[{ on := 1, ground := Ground.guard }], guard := some (1, true) }) (v := ?_) rfl (by kernel_rfl) (by kernel_rfl) (by kernel_rfl) (fun _ _ _ h => h) ?_ hHeld ?_
  rotate_left
  · refine yIf_load 24 (.tmp 5) w.heap.size 24 (ea e) _ ?_ Tryd.underlying24 rfl (rsz_ea _) ?_ ?_ ?_
    · exact fun _ h => h.1
    · rfl
    · rfl
    · rfl
  try simp only [Act.put, List.setIfInBounds_toArray, List.set_cons_zero, List.set_cons_succ]
  refine wpAnyH_ready (rs := [6]) (by kernel_rfl) (by simp) ?_
  refine AllReadyH.cons (o := { dst := some 65, op := Op.call { callee := Callee.value (Operand.func 15), args := #[Operand.tmp 62, Operand.tmp 63, Operand.tmp 64], argTypes := #[25, 3, 24] }, type := 25, pos := "law.go:29", after := #[{ on := 3, ground := Ground.data }, { on := 4, ground := Ground.data }, { on := 5, ground := Ground.data }, { on := 1, ground := Ground.chain }, { on := 1, ground := Ground.guard }], guard := some (1, true) }) rfl (fun Kc hKc => ?_) AllReadyH.nil
  go_simp
  refine (hRP.out _).mono ?_
  rintro r wq ⟨rfl, bq⟩
  have BB := bl_then BB bq
  refine hKc.out _ _ (⟨hHeld.1.below bq, hHeld.2.1.below bq, hHeld.2.2.1.below bq, hHeld.2.2.2.below bq⟩) (fun hHeld => ?_)
  clear hKc Kc
  try simp only [Act.put, List.setIfInBounds_toArray, List.set_cons_zero, List.set_cons_succ]
  refine wpAnyH_take (i := 7) (oi := { dst := some 66, op := Op.binOp BinOp.eql 27 (Operand.tmp 61) (Operand.tmp 65) 27, type := 4, pos := "law.go:29", after := #[{ on := 2, ground := Ground.data }, { on := 6, ground := Ground.data }, { on := 1, ground := Ground.guard }], guard := some (1, true) }) (v := ?_) rfl (by kernel_rfl) (by kernel_rfl) (by kernel_rfl) (fun _ _ _ h => h) ?_ hHeld ?_
  rotate_left
  · refine yIf_eql 27 (.tmp 61) (.tmp 65) 27 (bc D2) (bc D2) (by kernel_rfl) true (fun w => by rw [eq_d]; simp) ?_ ?_ ?_ ?_
    · rfl
    · rfl
    · rfl
    · rfl
  try simp only [Act.put, List.setIfInBounds_toArray, List.set_cons_zero, List.set_cons_succ]
  refine wpAnyH_take (i := 8) (oi := { dst := some 67, op := Op.pick (Operand.tmp 60) (Operand.tmp 66) (Operand.const (Value.bool false)), type := 4, pos := "law.go:29", after := #[{ on := 1, ground := Ground.data }, { on := 7, ground := Ground.data }], guard := none }) (v := ?_) rfl (by kernel_rfl) (by kernel_rfl) (by kernel_rfl) (fun _ _ _ h => h) ?_ hHeld ?_
  rotate_left
  · refine Or.inl ⟨by rfl, fun w hSw => ?_⟩; skip; go_simp; (try with_reducible rfl)
  try simp only [Act.put, List.setIfInBounds_toArray, List.set_cons_zero, List.set_cons_succ]
  refine wpAnyH_take (i := 9) (oi := { dst := some 68, op := Op.move (Operand.tmp 67), type := 4, pos := "law.go:29", after := #[{ on := 8, ground := Ground.data }, { on := 6, ground := Ground.chain }], guard := none }) (v := ?_) rfl (by kernel_rfl) (by kernel_rfl) (by kernel_rfl) (fun _ _ _ h => h) ?_ hHeld ?_
  rotate_left
  · refine Or.inl ⟨by rfl, fun w hSw => ?_⟩; skip; go_simp; (try with_reducible rfl)
  try simp only [Act.put, List.setIfInBounds_toArray, List.set_cons_zero, List.set_cons_succ]
  refine wpAnyH_take (i := 10) (oi := { dst := some 69, op := Op.move (Operand.tmp 11), type := 4, pos := "law.go:29", after := #[{ on := 9, ground := Ground.guard }], guard := some (9, true) }) (v := ?_) rfl (by kernel_rfl) (by kernel_rfl) (by kernel_rfl) (fun _ _ _ h => h) ?_ hHeld ?_
  rotate_left
  · refine Or.inl ⟨by rfl, fun w hSw => ?_⟩; skip; go_simp; (try with_reducible rfl)
  try simp only [Act.put, List.setIfInBounds_toArray, List.set_cons_zero, List.set_cons_succ]
  refine wpAnyH_take (i := 11) (oi := { dst := some 70, op := Op.pick (Operand.tmp 68) (Operand.tmp 69) (Operand.const (Value.bool false)), type := 4, pos := "law.go:29", after := #[{ on := 9, ground := Ground.data }, { on := 10, ground := Ground.data }], guard := none }) (v := ?_) rfl (by kernel_rfl) (by kernel_rfl) (by kernel_rfl) (fun _ _ _ h => h) ?_ hHeld ?_
  rotate_left
  · refine Or.inl ⟨by rfl, fun w hSw => ?_⟩; skip; go_simp; (try with_reducible rfl)
  try simp only [Act.put, List.setIfInBounds_toArray, List.set_cons_zero, List.set_cons_succ]
  refine wpAnyH_take (i := 12) (oi := { dst := some 71, op := Op.move (Operand.tmp 70), type := 4, pos := "law.go:29", after := #[{ on := 11, ground := Ground.data }, { on := 9, ground := Ground.chain }], guard := none }) (v := ?_) rfl (by kernel_rfl) (by kernel_rfl) (by kernel_rfl) (fun _ _ _ h => h) ?_ hHeld ?_
  rotate_left
  · refine Or.inl ⟨by rfl, fun w hSw => ?_⟩; skip; go_simp; (try with_reducible rfl)
  try simp only [Act.put, List.setIfInBounds_toArray, List.set_cons_zero, List.set_cons_succ]
  refine wpAnyH_take (i := 13) (oi := { dst := some 72, op := Op.load 30 (Operand.tmp 10), type := 30, pos := "law.go:29", after := #[{ on := 12, ground := Ground.guard }], guard := some (12, true) }) (v := ?_) rfl (by kernel_rfl) (by kernel_rfl) (by kernel_rfl) (fun _ _ _ h => h) ?_ hHeld ?_
  rotate_left
  · refine yIf_load 30 (.tmp 10) gy 30 (ea e) _ ?_ Tryd.underlying30 rfl (sz_ea _) ?_ ?_ ?_
    · exact fun _ h => h.2.2.2
    · rfl
    · rfl
    · rfl
  try simp only [Act.put, List.setIfInBounds_toArray, List.set_cons_zero, List.set_cons_succ]
  refine wpAnyH_take (i := 14) (oi := { dst := some 73, op := Op.fieldAddr 24 (Operand.tmp 5) 0, type := 0, pos := "law.go:29", after := #[{ on := 12, ground := Ground.guard }], guard := some (12, true) }) (v := ?_) rfl (by kernel_rfl) (by kernel_rfl) (by kernel_rfl) (fun _ _ _ h => h) ?_ hHeld ?_
  rotate_left
  · refine Or.inl ⟨by rfl, fun w hSw => ?_⟩; skip; go_simp; (try with_reducible rfl)
  try simp only [Act.put, List.setIfInBounds_toArray, List.set_cons_zero, List.set_cons_succ]
  refine wpAnyH_take (i := 15) (oi := { dst := some 74, op := Op.load 9 (Operand.tmp 73), type := 9, pos := "law.go:29", after := #[{ on := 14, ground := Ground.data }, { on := 12, ground := Ground.guard }], guard := some (12, true) }) (v := ?_) rfl (by kernel_rfl) (by kernel_rfl) (by kernel_rfl) (fun _ _ _ h => h) ?_ hHeld ?_
  rotate_left
  · refine Or.inl ⟨by rfl, fun w' hSw => ?_⟩; have c0 : w'.cell? ⟨w.heap.size, 0, none⟩ = some (.string e.s) := hSw.1.cellv 0 _ rfl; go_simp; (try with_reducible rfl)
  try simp only [Act.put, List.setIfInBounds_toArray, List.set_cons_zero, List.set_cons_succ]
  refine wpAnyH_take (i := 16) (oi := { dst := some 75, op := Op.fieldAddr 24 (Operand.tmp 5) 1, type := 0, pos := "law.go:29", after := #[{ on := 12, ground := Ground.guard }], guard := some (12, true) }) (v := ?_) rfl (by kernel_rfl) (by kernel_rfl) (by kernel_rfl) (fun _ _ _ h => h) ?_ hHeld ?_
  rotate_left
  · refine Or.inl ⟨by rfl, fun w hSw => ?_⟩; skip; go_simp; (try with_reducible rfl)
  try simp only [Act.put, List.setIfInBounds_toArray, List.set_cons_zero, List.set_cons_succ]
  refine wpAnyH_take (i := 17) (oi := { dst := some 76, op := Op.load 3 (Operand.tmp 75), type := 3, pos := "law.go:29", after := #[{ on := 16, ground := Ground.data }, { on := 12, ground := Ground.guard }], guard := some (12, true) }) (v := ?_) rfl (by kernel_rfl) (by kernel_rfl) (by kernel_rfl) (fun _ _ _ h => h) ?_ hHeld ?_
  rotate_left
  · refine Or.inl ⟨by rfl, fun w' hSw => ?_⟩; have c0 : w'.cell? ⟨w.heap.size, 1, none⟩ = some (.int .i64 e.i) := hSw.1.cellv 1 _ rfl; go_simp; (try with_reducible rfl)
  try simp only [Act.put, List.setIfInBounds_toArray, List.set_cons_zero, List.set_cons_succ]
  refine wpAnyH_take (i := 18) (oi := { dst := some 77, op := Op.build 30 #[(0, Operand.tmp 74), (1, Operand.tmp 76)], type := 30, pos := "law.go:29", after := #[{ on := 15, ground := Ground.data }, { on := 17, ground := Ground.data }, { on := 12, ground := Ground.guard }], guard := some (12, true) }) (v := ?_) rfl (by kernel_rfl) (by kernel_rfl) (by kernel_rfl) (fun _ _ _ h => h) ?_ hHeld ?_
  rotate_left
  · refine yIf_build2 30 0 1 (.tmp 74) (.tmp 76) (.string e.s) (.int .i64 e.i) (ea e) (built_e e) ?_ ?_ ?_ ?_
    · rfl
    · rfl
    · rfl
    · rfl
  try simp only [Act.put, List.setIfInBounds_toArray, List.set_cons_zero, List.set_cons_succ]
  refine wpAnyH_take (i := 19) (oi := { dst := some 78, op := Op.binOp BinOp.eql 30 (Operand.tmp 72) (Operand.tmp 77) 30, type := 4, pos := "law.go:29", after := #[{ on := 13, ground := Ground.data }, { on := 18, ground := Ground.data }, { on := 12, ground := Ground.guard }], guard := some (12, true) }) (v := ?_) rfl (by kernel_rfl) (by kernel_rfl) (by kernel_rfl) (fun _ _ _ h => h) ?_ hHeld ?_
  rotate_left
  · refine yIf_eql 30 (.tmp 72) (.tmp 77) 30 (ea e) (ea e) (by kernel_rfl) true (fun w => eq_e e w) ?_ ?_ ?_ ?_
    · rfl
    · rfl
    · rfl
    · rfl
  try simp only [Act.put, List.setIfInBounds_toArray, List.set_cons_zero, List.set_cons_succ]
  refine wpAnyH_take (i := 20) (oi := { dst := some 79, op := Op.pick (Operand.tmp 71) (Operand.tmp 78) (Operand.const (Value.bool false)), type := 4, pos := "law.go:29", after := #[{ on := 12, ground := Ground.data }, { on := 19, ground := Ground.data }], guard := none }) (v := ?_) rfl (by kernel_rfl) (by kernel_rfl) (by kernel_rfl) (fun _ _ _ h => h) ?_ hHeld ?_
  rotate_left
  · refine Or.inl ⟨by rfl, fun w hSw => ?_⟩; skip; go_simp; (try with_reducible rfl)
  try simp only [Act.put, List.setIfInBounds_toArray, List.set_cons_zero, List.set_cons_succ]
  refine wpAnyH_take (i := 21) (oi := { dst := some 80, op := Op.move (Operand.tmp 79), type := 4, pos := "law.go:29", after := #[{ on := 20, ground := Ground.data }, { on := 12, ground := Ground.chain }], guard := none }) (v := ?_) rfl (by kernel_rfl) (by kernel_rfl) (by kernel_rfl) (fun _ _ _ h => h) ?_ hHeld ?_
  rotate_left
  · refine Or.inl ⟨by rfl, fun w hSw => ?_⟩; skip; go_simp; (try with_reducible rfl)
  try simp only [Act.put, List.setIfInBounds_toArray, List.set_cons_zero, List.set_cons_succ]
  refine wpAnyH_ready (rs := [22]) (by kernel_rfl) (by simp) ?_
  refine AllReadyH.cons (o := { dst := some 81, op := Op.call { callee := Callee.value (Operand.func 13), args := #[], argTypes := #[] }, type := 4, pos := "law.go:29", after := #[{ on := 21, ground := Ground.chain }, { on := 21, ground := Ground.guard }], guard := some (21, true) }) rfl (fun Kc hKc => ?_) AllReadyH.nil
  go_simp
  refine (hA.out _).mono ?_
  rintro r wq ⟨rfl, bq⟩
  have BB := bl_then BB bq
  refine hKc.out _ _ (⟨hHeld.1.below bq, hHeld.2.1.below bq, hHeld.2.2.1.below bq, hHeld.2.2.2.below bq⟩) (fun hHeld => ?_)
  clear hKc Kc
  try simp only [Act.put, List.setIfInBounds_toArray, List.set_cons_zero, List.set_cons_succ]
  refine wpAnyH_take (i := 23) (oi := { dst := some 82, op := Op.pick (Operand.tmp 80) (Operand.tmp 81) (Operand.const (Value.bool false)), type := 4, pos := "law.go:29", after := #[{ on := 21, ground := Ground.data }, { on := 22, ground := Ground.data }], guard := none }) (v := ?_) rfl (by kernel_rfl) (by kernel_rfl) (by kernel_rfl) (fun _ _ _ h => h) ?_ hHeld ?_
  rotate_left
  · refine Or.inl ⟨by rfl, fun w hSw => ?_⟩; skip; go_simp; (try with_reducible rfl)
  try simp only [Act.put, List.setIfInBounds_toArray, List.set_cons_zero, List.set_cons_succ]
  refine wpAnyH_take (i := 24) (oi := { dst := some 6, op := Op.assign (Operand.tmp 82), type := 4, pos := "law.go:29", after := #[{ on := 23, ground := Ground.data }, { on := 22, ground := Ground.chain }, { on := 0, ground := Ground.phase }, { on := 1, ground := Ground.phase }, { on := 2, ground := Ground.phase }, { on := 3, ground := Ground.phase }, { on := 4, ground := Ground.phase }, { on := 5, ground := Ground.phase }, { on := 6, ground := Ground.phase }, { on := 7, ground := Ground.phase }, { on := 8, ground := Ground.phase }, { on := 9, ground := Ground.phase }, { on := 10, ground := Ground.phase }, { on := 11, ground := Ground.phase }, { on := 12, ground := Ground.phase }, { on := 13, ground := Ground.phase }, { on := 14, ground := Ground.phase }, { on := 15, ground := Ground.phase }, { on := 16, ground := Ground.phase }, { on := 17, ground := Ground.phase }, { on := 18, ground := Ground.phase }, { on := 19, ground := Ground.phase }, { on := 20, ground := Ground.phase }, { on := 21, ground := Ground.phase }, { on := 22, ground := Ground.phase }, { on := 23, ground := Ground.phase }], guard := none }) (v := ?_) rfl (by kernel_rfl) (by kernel_rfl) (by kernel_rfl) (fun _ _ _ h => h) ?_ hHeld ?_
  rotate_left
  · refine Or.inl ⟨by rfl, fun w hSw => ?_⟩; skip; go_simp; (try with_reducible rfl)
  try simp only [Act.put, List.setIfInBounds_toArray, List.set_cons_zero, List.set_cons_succ]
  refine wpAnyH_done (by kernel_rfl) ?_ _
  go_wp2_with fail
  go_ret
  exact ⟨rfl, BB⟩

set_option maxRecDepth 100000 in
set_option maxHeartbeats 4000000 in
theorem no (A : Option Addr) (m c : Nat) (xs : List Int) (a : Int) (e : En) (w : World) (hx : Rd w .u8 A m xs) (hs : e.s.size ≤ maxLen) (h : a < 0 ∨ (¬ a < 0 ∧ 3 < a) ∨ (¬ a < 0 ∧ ¬ 3 < a ∧ rightB e = false)) :
    Calls Tryd.prog 3 #[.slice A m c, .int .i64 a, .agg (ea e)] w fun r w' => r = .returned (.bool true) ∧ Below w.heap.size w w' := by
  have hOf := Lib.hid (fun w' (hb : Below w.heap.size w w') => of_c A m c xs w' (hx.below hb))
  generalize ofB xs = d at *
  have hP := Lib.hid (fun w' => put_no d a e w' hs (by rcases h with h | h | h; exact .inl h; exact .inr (.inl (by omega)); exact .inr (.inr h.2.2)))
  have hN1 := Lib.hid (fun w' => name_c e.s w' hs)
  have hN2 := Lib.hid (fun w' => rname_c e.s w' hs)
  have hR0 := Lib.hid (fun w' => rright_c e w' hs)
  have hA := Lib.hid (fun w' => awake_c w')
  have hnn : ∀ x : Bool, (x != x) = false := by simp
  have hnb := hnn (nameB e.s)
  generalize nameB e.s = nb at *
  have heq : ∀ w', (Op.equalIn 10000 27 (.agg (bc d)) (.agg (bc d))).run Tryd.prog w' = .ok true w' := fun w' => by rw [eq_d]; simp
  replace heq := Lib.hid heq
  clear hs hnn
  go_enter Tryd.func3, Tryd.ntmps3
  go_wp2_with (first
    | ((with_reducible refine wl_box rfl 24 _ rfl (ea e) rfl ?_); intro w1 k1 b1 s1))
  refine (hOf.out _ b1).mono ?_
  rintro r w2 ⟨rfl, b2⟩
  have K1 := k1.below b2
  have BB := bl_then b1 b2
  have z1 := K1.lt
  clear k1 b1 b2 hOf
  go_wp2_with (first
    | ((with_reducible refine wl_alloc rfl 25 rfl (bc zb) rnew_d ?_); intro w3 k3 b3 s3)
    | ((refine wl_store rfl 25 (.tmp 7) (.tmp 13) rfl w2.heap.size rfl (bc d) rfl 25 (bc zb) k3 (rsz_bc _) (by rw [bc_size, bc_size]) (bc_one _) ?_); intro w4 k4 g4 s4; have K1 := (K1.below b3).grown g4 (fun e => by injection e with e; omega); have BB := bl_then BB (below_grown b3 b3.size g4 (Nat.le_refl _)); have c0 : w4.cell? ⟨w.heap.size, 0, none⟩ = some (.string e.s) := K1.cellv 0 _ rfl; have c1 : w4.cell? ⟨w.heap.size, 1, none⟩ = some (.int .i64 e.i) := K1.cellv 1 _ rfl)
    | (refine wl_load rfl 25 (.tmp 7) rfl w2.heap.size rfl 25 (bc d) _ k4 Tryd.underlying25 rfl (rsz_bc _) ?_))
  refine (hP.out _).mono ?_
  rintro r w5 ⟨rfl, b5⟩
  have K3 := k4.below b5
  have K1 := K1.below b5
  have BB := bl_then BB b5
  have z3 := K3.lt
  clear k3 k4 b3 g4 b5 hP c0 c1
  obtain ⟨gd, hgd⟩ : ∃ gd, gd = w2.heap.size := ⟨_, rfl⟩
  rw [← hgd] at K3 z3 ⊢
  have zd : w.heap.size < gd := by omega
  clear hgd
  go_upto_region 3 with (first
    | ((with_reducible refine wl_alloc rfl 27 rfl (bc zb) new_d ?_); intro w6 k6 b6 s6)
    | ((refine wl_store rfl 27 (.tmp 8) (.tmp 23) rfl w5.heap.size rfl (bc d) rfl 27 (bc zb) k6 (sz_bc _) (by rw [bc_size, bc_size]) (bc_one _) ?_); intro w7 k7 g7 s7))
  have K3 := (K3.below b6).grown g7 (fun e => by injection e with e; omega)
  have K1 := (K1.below b6).grown g7 (fun e => by injection e with e; omega)
  have BB := bl_then BB (below_grown b6 b6.size g7 (Nat.le_refl _))
  obtain ⟨gx, hgx⟩ : ∃ gx, gx = w5.heap.size := ⟨_, rfl⟩
  rw [← hgx] at k7 z3 ⊢
  have c0 : w7.cell? ⟨w.heap.size, 0, none⟩ = some (.string e.s) := K1.cellv 0 _ rfl
  have z7 : gx < w7.heap.size := k7.lt
  clear hgx k6 b6 g7 s6 s7
  go_quiet (first | exact Calls.quiet_of_same (same (hN1.out _)) | exact Calls.quiet_of_same (same (hN2.out _)))
  have bq := bl_drewN (bl_refl w7) nq
  have K1 := K1.below bq
  have K3 := K3.below bq
  have K4 := k7.below bq
  have BB := bl_then BB bq
  clear c0 k7 bq hN1 hN2 hnb
  generalize w7.drewN nq = wq at *
  have h' := Lib.hid h
  clear h
  rcases h'.out with q | ⟨q, q1⟩ | ⟨q, q1, hr⟩
  case inl =>
    have q2 : decide (a < 0) = true := by simp; omega
    clear hR0
    go_wp2_with (first
      | (refine wl_load_on rfl 27 (.tmp 8) rfl gx rfl 27 (bc d) _ K4 Tryd.underlying27 rfl (sz_bc _) ?hop ?_; case hop => exact ⟨_, _, rfl, rfl, rfl⟩)
      | (refine wl_load_on rfl 25 (.tmp 7) rfl gd rfl 25 (bc d) _ K3 Tryd.underlying25 rfl (rsz_bc _) ?hop ?_; case hop => exact ⟨_, _, rfl, rfl, rfl⟩)
      | (refine wl_eql_on rfl ?hop 27 (.tmp 46) (.tmp 47) 27 rfl (bc d) (bc d) rfl rfl (by kernel_rfl) true (heq.out _) ?_; case hop => exact ⟨_, _, rfl, rfl, rfl⟩))
    refine (hA.out _).mono ?_
    rintro r w9 ⟨rfl, b9⟩
    have BB := bl_then BB b9
    go_wp2_with fail
    go_ret
    exact ⟨rfl, BB⟩
  case inr.inl =>
    have q2 : decide (a < 0) = false := by simp; omega
    have q3 : decide (3 < a) = true := by simp; omega
    clear hR0
    go_wp2_with (first
      | (refine wl_load_on rfl 27 (.tmp 8) rfl gx rfl 27 (bc d) _ K4 Tryd.underlying27 rfl (sz_bc _) ?hop ?_; case hop => exact ⟨_, _, rfl, rfl, rfl⟩)
      | (refine wl_load_on rfl 25 (.tmp 7) rfl gd rfl 25 (bc d) _ K3 Tryd.underlying25 rfl (rsz_bc _) ?hop ?_; case hop => exact ⟨_, _, rfl, rfl, rfl⟩)
      | (refine wl_eql_on rfl ?hop 27 (.tmp 46) (.tmp 47) 27 rfl (bc d) (bc d) rfl rfl (by kernel_rfl) true (heq.out _) ?_; case hop => exact ⟨_, _, rfl, rfl, rfl⟩))
    refine (hA.out _).mono ?_
    rintro r w9 ⟨rfl, b9⟩
    have BB := bl_then BB b9
    go_wp2_with fail
    go_ret
    exact ⟨rfl, BB⟩
  case inr.inr =>
    have q2 : decide (a < 0) = false := by simp; omega
    have q3 : decide (3 < a) = false := by simp; omega
    have hR := fun w' => hR0.out w'
    rw [hr] at hR
    replace hR := Lib.hid hR
    clear hR0 hr
    go_wp2_with (first
      | (refine wl_load_on rfl 24 (.tmp 5) rfl w.heap.size rfl 24 (ea e) _ K1 Tryd.underlying24 rfl (rsz_ea _) ?hop ?_; case hop => exact ⟨_, _, rfl, rfl, rfl⟩))
    refine (hR.out _).mono ?_
    rintro r w8 ⟨rfl, b8⟩
    have K3 := K3.below b8
    have K4 := K4.below b8
    have BB := bl_then BB b8
    clear b8 hR
    go_wp2_with (first
      | (refine wl_load_on rfl 27 (.tmp 8) rfl gx rfl 27 (bc d) _ K4 Tryd.underlying27 rfl (sz_bc _) ?hop ?_; case hop => exact ⟨_, _, rfl, rfl, rfl⟩)
      | (refine wl_load_on rfl 25 (.tmp 7) rfl gd rfl 25 (bc d) _ K3 Tryd.underlying25 rfl (rsz_bc _) ?hop ?_; case hop => exact ⟨_, _, rfl, rfl, rfl⟩)
      | (refine wl_eql_on rfl ?hop 27 (.tmp 46) (.tmp 47) 27 rfl (bc d) (bc d) rfl rfl (by kernel_rfl) true (heq.out _) ?_; case hop => exact ⟨_, _, rfl, rfl, rfl⟩))
    refine (hA.out _).mono ?_
    rintro r w9 ⟨rfl, b9⟩
    have BB := bl_then BB b9
    go_wp2_with fail
    go_ret
    exact ⟨rfl, BB⟩

theorem en_cells {A : Array Value} (h : A.size = 2) (h0 : ∃ v, A[0]? = some v ∧ isStr v) (h1 : ∃ v, A[1]? = some v ∧ isI .i64 v) : ∃ e : En, A = ea e ∧ e.s.size ≤ maxLen := by
  obtain ⟨v0, e0, s, rfl, hs⟩ := h0
  obtain ⟨v1, e1, i, rfl, _⟩ := h1
  refine ⟨⟨s, i⟩, ?_, hs⟩
  apply Array.ext_getElem?
  intro j
  unfold ea
  match j with
  | 0 => rw [e0]; rfl
  | 1 => rw [e1]; rfl
  | j + 2 => rw [Array.getElem?_eq_none (by omega), Array.getElem?_eq_none (by simp)]
def e2 : List (Value → Prop) := ([[isStr], [isI .i64]] : List (List (Value → Prop))).flatten
theorem f_int : FlatOf Tryd.prog 3 [isI .i64] := flat_int Tryd.underlying3 (by kernel_rfl)
theorem f_entry (w : World) : FlatAt Tryd.prog w 24 e2 :=
  at_struct Tryd.underlying24 _ (by kernel_rfl) fun j ps h => by
    match j, h with
    | 0, h => simp at h; subst h; exact ⟨_, rfl, rfl, at_string Tryd.underlying9 (by kernel_rfl)⟩
    | 1, h => simp at h; subst h; exact ⟨_, rfl, rfl, flat_at f_int w⟩
def Arg (i : Nat) (w : World) (v : Value) : Prop := ∃ e : En, v = .agg (ea e) ∧ e.s.size ≤ maxLen
set_option maxRecDepth 100000 in
theorem arg2 {H : Type} {enc : TypeId × Value → H} {W : World} {base : Nat} {v : Value} {d : DataW H} {p : List MemPlace} (hv : Value.okWide Tryd.prog W .any base 24 v)
    (h : DataW.Trod enc Tryd.prog W 0 (fun _ => true) true 24 v d p) : Arg 2 W v := by
  obtain ⟨cs, rfl, _⟩ := okWide_struct Tryd.underlying24 hv
  obtain ⟨hsz, hi⟩ := open_at (f_entry W) rfl h
  obtain ⟨e, rfl, he⟩ := en_cells (by rw [hsz]; rfl) (hi 0 _ rfl) (hi 1 _ rfl)
  exact ⟨e, rfl, he⟩
theorem walk (a0 : Option Addr) (len cap : Nat) (z : List Int) (a : Int) (v : Value) (w : World) (w0 : IsRow .u8 w a0 len cap z) (y0 : len * 1 ≤ 140737488351232) (_ : (Lit.int .i64 a).wf = true) (h2 : Arg 2 w v) :
    Calls Tryd.prog 3 #[.slice a0 len cap, .int .i64 a, v] w fun e w' => e = .returned (.bool true) ∧ Below w.heap.size w w' := by
  obtain ⟨e, rfl, hs⟩ := h2
  obtain ⟨hr, _, _, hw⟩ := Rd.of_row w0
  have hok : ∀ x ∈ z.take len, 0 ≤ x ∧ x < 256 := fun x hx => wf_u8_range (hw x hx)
  by_cases h1 : a < 0
  · exact no a0 len cap _ a e w hr hs (.inl h1)
  · by_cases h2 : 3 < a
    · exact no a0 len cap _ a e w hr hs (.inr (.inl ⟨h1, h2⟩))
    · cases hb : rightB e with
      | false => exact no a0 len cap _ a e w hr hs (.inr (.inr ⟨h1, h2, hb⟩))
      | true => exact yes a0 len cap _ a a.toNat e w hr hok hs (by omega) (by omega) hb
end Go.Proofs.YthihpejhhimkaaaDoor.DirPuts
