/- Contract of the disk laws' does. -/
import Derived.Test.YthihpejhhimkaaaDiskV
import Derived.Deep.DeepCutAuto
import Derived.Deep.CutBlock
set_option linter.unusedVariables false
namespace Go.Proofs.Ythihpejhhimkaaa.DiskW
open Go.RowKit Go.Proofs.Ythihpejhhimkaaa.Base Go.Proofs.Ythihpejhhimkaaa.Row Go.Proofs.Ythihpejhhimkaaa.App Go.Proofs.Ythihpejhhimkaaa.Multi Go.Proofs.Ythihpejhhimkaaa.StEq Go.Proofs.Ythihpejhhimkaaa.Held Go.Proofs.Ythihpejhhimkaaa.Out Go.Proofs.Ythihpejhhimkaaa.HeldW Go.Proofs.Ythihpejhhimkaaa.HeldX Go.Proofs.Ythihpejhhimkaaa.DiskMath Go.Proofs.Ythihpejhhimkaaa.Disk Go.Proofs.Ythihpejhhimkaaa.Disk3 Go.Proofs.Ythihpejhhimkaaa.DiskS Go.Proofs.Ythihpejhhimkaaa.DiskU Go.Proofs.Ythihpejhhimkaaa.DiskV

set_option maxRecDepth 100000 in
theorem rbuilt_w (b : Nat) (x : Bk) : Try.prog.built 65 [(0, .int .i64 b), (1, .agg (bc x))] = some (wc ⟨b, x⟩) := by
  obtain ⟨l, h⟩ := x
  obtain ⟨x0, x1, x2, x3, x4, x5, x6, x7, x8, x9, x10, x11, x12, x13, x14, x15, x16, x17, x18, x19, x20, x21, x22, x23, x24, x25, x26, x27, x28, x29, x30, x31, x32, x33, x34, x35, x36, x37, x38, x39, x40, x41, x42, x43, x44, x45, x46, x47, x48, x49, x50, x51, x52, x53, x54, x55, x56, x57, x58, x59, x60, x61, x62, x63, rfl⟩ := list64 l h
  kernel_rfl
/-- What a deed makes of a disk. -/
def pdo (d : Dd) (L : List Bk) (W : List Wr) : List Bk × List Wr :=
  if 0 ≤ d.kd ∧ d.kd ≤ 4 then (if 0 ≤ d.bl ∧ d.bl < L.length then (L, W ++ [⟨d.bl.toNat, ofB d.xs⟩]) else (L, W))
  else if d.kd = 5 then (land W yes L W.length, [])
  else if d.kd = 6 then (land W (kf d.ks) L W.length, [])
  else (L, W)
theorem pdo_len (d : Dd) (L : List Bk) (W : List Wr) : (pdo d L W).1.length = L.length := by
  unfold pdo
  split
  · split <;> rfl
  · split
    · exact land_len _ _ _ _
    · split
      · exact land_len _ _ _ _
      · rfl
theorem pdo_w (d : Dd) (L : List Bk) (W : List Wr) : (pdo d L W).2.length ≤ W.length + 1 := by
  unfold pdo
  split
  · split
    · simp
    · simp
  · split
    · simp
    · split <;> simp
theorem pdo_ok {d : Dd} {L : List Bk} {W : List Wr} (h : Ok L W) : Ok (pdo d L W).1 (pdo d L W).2 := by
  unfold pdo
  split
  · split
    · exact h.push (by omega) _
    · exact h
  · split
    · exact ok_nil _
    · split
      · exact ok_nil _
      · exact h
def DoesPost (w0 : World) (R : Nat → Prop) (w : World) (gd gx : Nat) (p : List Bk × List Wr) (w' : World) (r : Ending) : Prop := r = .returned (.bool true) ∧ Step w0 R w w' gd gx p.1 p.2 p.1 p.2
theorem does_here {w0 : World} {R R1 : Nat → Prop} {w w' : World} {gd gx : Nat} {p : List Bk × List Wr} {L : List Bk} {W : List Wr} (hR : ∀ i, R i → R1 i) (hp : p = (L, W)) (h : Two w0 R1 w' gd gx L W L W) (k : Out w w' (fun i => ¬ R1 i)) : DoesPost w0 R w gd gx p w' (.returned (.bool true)) := by
  subst hp
  exact ⟨rfl, h.mono (fun i h => hR i h), k.mono (fun i h hr => h (hR i hr))⟩
set_option maxRecDepth 100000 in
set_option maxHeartbeats 8000000 in
theorem does_c (w0 : World) (R : Nat → Prop) (gd gx : Nat) (L : List Bk) (W : List Wr) (d : Dd) (w : World) (h : Two w0 R w gd gx L W L W) (hok : Ok L W) (hL : L.length ≤ 32) (hW : W.length ≤ 900) (hd : Has w0 d) :
    Calls Try.prog 10 #[.pointer (some ⟨gd, 0, none⟩), .pointer (some ⟨gx, 0, none⟩), .agg (dv d)] w fun r w' => DoesPost w0 R w gd gx (pdo d L W) w' r := by
  have hB0 := Lib.hid h.bl.size
  have hd' := Lib.hid (fun w' (hb : Below w0.heap.size w0 w') => hd.below hb)
  have hA := Lib.hid hd.2.2
  have hok' := Lib.hid hok
  clear hok hd
  go_enter Try.func10, Try.ntmps10
  go_upto_region 1 with ((with_reducible refine wl_box rfl 31 (.tmp 2) rfl (dv d) rfl ?_); intro w1 k1 b1 s1)
  obtain ⟨ge, hge⟩ : ∃ ge, ge = w.heap.size := ⟨_, rfl⟩
  have T1 := h.add b1 w.heap.size (Nat.le_refl _) s1
  have O1 : Out w w1 (fun i => ¬ (R i ∨ i = w.heap.size)) := Out.of_below b1 _
  have hB1 : w0.heap.size ≤ w1.heap.size := Nat.le_trans hB0.out b1.size
  rw [← hge] at k1 T1 O1 ⊢
  obtain ⟨R1, hR1⟩ : ∃ R1, R1 = (fun i => R i ∨ i = ge) := ⟨_, rfl⟩
  have hRR := Lib.hid (show ∀ i, R i → R1 i from fun i h => by rw [hR1]; exact .inl h)
  have hge1 : Hid (R1 ge) := Lib.hid (by rw [hR1]; exact .inr rfl)
  rw [← hR1] at T1
  have O1 : Out w w1 (fun i => ¬ R1 i) := by rw [hR1]; exact O1
  clear hR1 hge h b1 s1
  obtain ⟨kd, bl, A, n, c, xs, Ak, nk, ck, ks⟩ := d
  simp only [dv] at k1
  have e0 := k1.cellv 0 (.int .i64 kd) rfl
  have hcase : (kd = 0 ∨ kd = 1 ∨ kd = 2 ∨ kd = 3 ∨ kd = 4) ∨ kd = 5 ∨ kd = 6 ∨ ((kd == 0) = false ∧ (kd == 1) = false ∧ (kd == 2) = false ∧ (kd == 3) = false ∧ (kd == 4) = false ∧ (kd == 5) = false ∧ (kd == 6) = false ∧ ¬ (0 ≤ kd ∧ kd ≤ 4) ∧ ¬ kd = 5 ∧ ¬ kd = 6) := by
    by_cases h : 0 ≤ kd ∧ kd ≤ 4
    · exact .inl (by omega)
    · by_cases h5 : kd = 5
      · exact .inr (.inl h5)
      · by_cases h6 : kd = 6
        · exact .inr (.inr (.inl h6))
        · exact .inr (.inr (.inr ⟨by simp; omega, by simp; omega, by simp; omega, by simp; omega, by simp; omega, by simpa using h5, by simpa using h6, h, h5, h6⟩))
  rcases hcase with hkd | rfl | rfl | ⟨q0, q1, q2, q3, q4, q5, q6, m0, m5, m6⟩

  · have hp4 := Lib.hid (show 0 ≤ kd ∧ kd ≤ 4 by omega)
    go_upto_if 9 with fail
    go_cut [9] (fun s wx => s = .bool true ∧ w1 = wx)
    case first =>
      clear T1 O1 hA hd' hok' hge1 hRR hB0
      rcases hkd with rfl | rfl | rfl | rfl | rfl
      all_goals (
        go_wp2_with fail
        go_meet
        exact ⟨rfl, rfl⟩)
    case rest =>
      clear hkd e0
      obtain ⟨rfl, rfl⟩ := hcut
      by_cases hin : 0 ≤ bl ∧ bl < L.length
      · obtain ⟨b, rfl⟩ : ∃ b : Nat, bl = b := ⟨bl.toNat, by omega⟩
        have hbl : b < L.length := by omega
        have hpd : Hid (pdo ⟨kd, b, A, n, c, xs, Ak, nk, ck, ks⟩ L W = (L, W ++ [⟨b, ofB xs⟩])) := Lib.hid (by
          unfold pdo
          rw [if_pos hp4.out]
          simp only
          rw [if_pos ⟨by omega, by omega⟩, Int.toNat_natCast])
        have e1 := k1.cellv 1 (.int .i64 b) rfl
        clear hin
        go_wp2_with fail
        refine (two_rin_yes T1 b hbl).mono ?_
        rintro r w2 ⟨rfl, rfl⟩
        clear e1
        go_upto_region 8 with fail
        obtain ⟨Al, cl, Aw, cw, DX0, HQ0, hshut⟩ := two_open T1
        have hsh := Lib.hid hshut
        have hgxw := Lib.hid (show some gx ≠ (Value.slice Aw W.length cw).ownBlock from fun e => by
          cases Aw with
          | none => cases e
          | some a =>
            injection e with e
            obtain ⟨_, _, cs, hk'⟩ := row_lt HQ0 a rfl
            exact Blk.ne_ DX0 hk' (by decide) e)
        have hgew := Lib.hid (show some ge ≠ (Value.slice Aw W.length cw).ownBlock from fun e => by
          cases Aw with
          | none => cases e
          | some a =>
            injection e with e
            obtain ⟨_, _, cs, hk'⟩ := row_lt HQ0 a rfl
            exact Blk.ne_ k1 hk' (by decide) e)
        have hgexg := Lib.hid (show some ge ≠ some gx from fun e => by injection e with e; exact Blk.ne_ k1 DX0 (by decide) e)
        have DX := DX0.drew
        have HQ := own_below HQ0 (bl_drew (bl_refl w1))
        have HB := bl_drew (bl_refl w1)
        have HBw := bl_drew T1.bl
        have fa : w1.cell? ⟨gx, 1, none⟩ = some (.slice Aw W.length cw) := DX0.cellv 1 _ rfl
        have fb : w1.drew.cell? ⟨gx, 1, none⟩ = some (.slice Aw W.length cw) := DX0.cellv 1 _ rfl
        clear hshut DX0 HQ0
        go_cut [6] (fun s wx => ∃ wn, wn = wx ∧ s = .bool false ∧ Step w0 R1 w1 wn gd gx L W L (W ++ [⟨b, ofB xs⟩]))
        case first =>
          refine wp_region_held_drew (S := (fun w' => Blk w' ge 31 #[.int .i64 kd, .int .i64 b, .slice A n c, .slice Ak nk ck])) (by kernel_rfl) (k1.drew) (fun hHeld => ?_)
          refine wpAnyH_take (i := 0) (oi := { dst := some 19, op := Op.move (Operand.tmp 1), type := 25, pos := "law.go:55", after := #[], guard := none }) (v := ?_) rfl (by kernel_rfl) (by kernel_rfl) (by kernel_rfl) (fun _ _ _ h => h) ?_ hHeld ?_
          rotate_left
          · refine Or.inl ⟨by rfl, fun w hSw => ?_⟩; skip; go_simp; (try with_reducible rfl)
          try simp only [Act.put, List.setIfInBounds_toArray, List.set_cons_zero, List.set_cons_succ]
          refine wpAnyH_take (i := 1) (oi := { dst := some 20, op := Op.move (Operand.tmp 1), type := 25, pos := "law.go:55", after := #[], guard := none }) (v := ?_) rfl (by kernel_rfl) (by kernel_rfl) (by kernel_rfl) (fun _ _ _ h => h) ?_ hHeld ?_
          rotate_left
          · refine Or.inl ⟨by rfl, fun w hSw => ?_⟩; skip; go_simp; (try with_reducible rfl)
          try simp only [Act.put, List.setIfInBounds_toArray, List.set_cons_zero, List.set_cons_succ]
          refine wpAnyH_take (i := 2) (oi := { dst := some 21, op := Op.nilCheck (Operand.tmp 20), type := 0, pos := "law.go:55", after := #[{ on := 1, ground := Ground.data }], guard := none }) (v := ?_) rfl (by kernel_rfl) (by kernel_rfl) (by kernel_rfl) (fun _ _ _ h => h) ?_ hHeld ?_
          rotate_left
          · refine Or.inl ⟨by rfl, fun w hSw => ?_⟩; skip; go_simp; (try with_reducible rfl)
          try simp only [Act.put, List.setIfInBounds_toArray, List.set_cons_zero, List.set_cons_succ]
          refine wpAnyH_take (i := 3) (oi := { dst := some 22, op := Op.fieldAddr 63 (Operand.tmp 21) 1, type := 0, pos := "law.go:55", after := #[{ on := 2, ground := Ground.data }], guard := none }) (v := ?_) rfl (by kernel_rfl) (by kernel_rfl) (by kernel_rfl) (fun _ _ _ h => h) ?_ hHeld ?_
          rotate_left
          · refine Or.inl ⟨by rfl, fun w hSw => ?_⟩; skip; go_simp; (try with_reducible rfl)
          try simp only [Act.put, List.setIfInBounds_toArray, List.set_cons_zero, List.set_cons_succ]
          refine wpAnyH_take (i := 5) (oi := { dst := some 24, op := Op.fieldAddr 31 (Operand.tmp 5) 1, type := 0, pos := "law.go:55", after := #[], guard := none }) (v := ?_) rfl (by kernel_rfl) (by kernel_rfl) (by kernel_rfl) (fun _ _ _ h => h) ?_ hHeld ?_
          rotate_left
          · refine Or.inl ⟨by rfl, fun w hSw => ?_⟩; skip; go_simp; (try with_reducible rfl)
          try simp only [Act.put, List.setIfInBounds_toArray, List.set_cons_zero, List.set_cons_succ]
          refine wpAnyH_take (i := 6) (oi := { dst := some 25, op := Op.load 3 (Operand.tmp 24), type := 3, pos := "law.go:55", after := #[{ on := 5, ground := Ground.data }], guard := none }) (v := ?_) rfl (by kernel_rfl) (by kernel_rfl) (by kernel_rfl) (fun _ _ _ h => h) ?_ hHeld ?_
          rotate_left
          · refine Or.inl ⟨by rfl, fun w hSw => ?_⟩; have c0 := Blk.cellv hSw 1 (.int .i64 b) rfl; go_simp; (try with_reducible rfl)
          try simp only [Act.put, List.setIfInBounds_toArray, List.set_cons_zero, List.set_cons_succ]
          refine wpAnyH_take (i := 7) (oi := { dst := some 26, op := Op.fieldAddr 31 (Operand.tmp 5) 2, type := 0, pos := "law.go:55", after := #[], guard := none }) (v := ?_) rfl (by kernel_rfl) (by kernel_rfl) (by kernel_rfl) (fun _ _ _ h => h) ?_ hHeld ?_
          rotate_left
          · refine Or.inl ⟨by rfl, fun w hSw => ?_⟩; skip; go_simp; (try with_reducible rfl)
          try simp only [Act.put, List.setIfInBounds_toArray, List.set_cons_zero, List.set_cons_succ]
          refine wpAnyH_take (i := 8) (oi := { dst := some 27, op := Op.load 28 (Operand.tmp 26), type := 28, pos := "law.go:55", after := #[{ on := 7, ground := Ground.data }], guard := none }) (v := ?_) rfl (by kernel_rfl) (by kernel_rfl) (by kernel_rfl) (fun _ _ _ h => h) ?_ hHeld ?_
          rotate_left
          · refine Or.inl ⟨by rfl, fun w hSw => ?_⟩; have c0 := Blk.cellv hSw 2 (.slice A n c) rfl; go_simp; (try with_reducible rfl)
          try simp only [Act.put, List.setIfInBounds_toArray, List.set_cons_zero, List.set_cons_succ]
          refine wpAnyH_ready (rs := [4, 9]) (by kernel_rfl) (by simp) ?_
          refine AllReadyH.cons (o := { dst := some 23, op := Op.load 61 (Operand.tmp 22), type := 61, pos := "law.go:55", after := #[{ on := 3, ground := Ground.data }], guard := none }) rfl (fun Kc hKc => ?_) ?_
          · go_simp
            refine hKc.out _ _ (hHeld) (fun hHeld => ?_)
            clear hKc Kc
            try simp only [Act.put, List.setIfInBounds_toArray, List.set_cons_zero, List.set_cons_succ]
            refine wpAnyH_ready (rs := [9]) (by kernel_rfl) (by simp) ?_
            refine AllReadyH.cons (o := { dst := some 28, op := Op.call { callee := Callee.value (Operand.func 18), args := #[Operand.tmp 27], argTypes := #[28] }, type := 33, pos := "law.go:55", after := #[{ on := 8, ground := Ground.data }], guard := none }) rfl (fun Kc hKc => ?_) AllReadyH.nil
            go_simp
            refine (of_c A n c xs _ (hd'.out _ HBw).1).mono ?_
            rintro r wa ⟨rfl, ba⟩
            have HB := bl_then HB ba
            have HBw := bl_thenB HBw HBw.size ba
            have HQ := own_below HQ ba
            have DX := DX.below ba
            have fb : wa.cell? ⟨gx, 1, none⟩ = some (.slice Aw W.length cw) := DX.cellv 1 _ rfl
            refine hKc.out _ _ (Blk.below hHeld ba) (fun hHeld => ?_)
            clear hKc Kc
            try simp only [Act.put, List.setIfInBounds_toArray, List.set_cons_zero, List.set_cons_succ]
            refine wpAnyH_take (i := 10) (oi := { dst := some 29, op := Op.build 65 #[(0, Operand.tmp 25), (1, Operand.tmp 28)], type := 65, pos := "law.go:55", after := #[{ on := 6, ground := Ground.data }, { on := 9, ground := Ground.data }], guard := none }) (v := ?_) rfl (by kernel_rfl) (by kernel_rfl) (by kernel_rfl) (fun _ _ _ h => h) ?_ hHeld ?_
            rotate_left
            · refine yIf_build2 65 0 1 (.tmp 25) (.tmp 28) (.int .i64 b) (.agg (bc (ofB xs))) (wc ⟨b, ofB xs⟩) (rbuilt_w b _) ?_ ?_ ?_ ?_
              · rfl
              · rfl
              · rfl
              · rfl
            try simp only [Act.put, List.setIfInBounds_toArray, List.set_cons_zero, List.set_cons_succ]
            refine wpAnyH_ready (rs := [11]) (by kernel_rfl) (by simp) ?_
            refine AllReadyH.cons (o := { dst := some 30, op := Op.buildSlice 61 1 #[(0, Operand.tmp 29)], type := 61, pos := "law.go:55", after := #[{ on := 10, ground := Ground.data }], guard := none }) rfl (fun Kc hKc => ?_) AllReadyH.nil
            refine step_of (by rfl) (wp_bs1 61 65 (.tmp 29) (by rfl) Try.underlying61 (.agg (wc ⟨0, zb⟩)) 65 72 rinfo_w rfl (by decide) (by decide) (wc ⟨b, ofB xs⟩) (by rfl) (wc_size _) ?_)
            have HA := row_news (heap_alloc_new wa (.cells (wc ⟨b, ofB xs⟩) 65))
            have bA := bl_alloc (bl_refl wa) (.cells (wc ⟨b, ofB xs⟩) 65)
            have HB := bl_then HB bA
            have HQ := own_below HQ bA
            have DX := DX.below bA
            obtain ⟨wk, hwk⟩ : ∃ wk, wk = wa.alloc (.cells (wc ⟨b, ofB xs⟩) 65) := ⟨_, rfl⟩
            rw [← hwk] at HA bA HB HQ DX ⊢
            have fb : wk.cell? ⟨gx, 1, none⟩ = some (.slice Aw W.length cw) := DX.cellv 1 _ rfl
            clear hwk
            refine hKc.out _ _ (Blk.below hHeld bA) (fun hHeld => ?_)
            clear hKc Kc
            try simp only [Act.put, List.setIfInBounds_toArray, List.set_cons_zero, List.set_cons_succ]
            refine wpAnyH_ready (rs := [12]) (by kernel_rfl) (by simp) ?_
            refine AllReadyH.cons (o := { dst := some 31, op := Op.call { callee := Callee.builtin Builtin.append, args := #[Operand.tmp 23, Operand.tmp 30], argTypes := #[61, 61] }, type := 61, pos := "law.go:55", after := #[{ on := 4, ground := Ground.data }, { on := 11, ground := Ground.data }, { on := 9, ground := Ground.chain }], guard := none }) rfl (fun Kc hKc => ?_) AllReadyH.nil
            refine step_of (by rfl) (wp_app_w (f := wv) w0.heap.size 65 72 wv_len wv_one (.agg (wc ⟨0, zb⟩)) (.tmp 23) (.tmp 30) 61 65 (by rfl) Try.underlying61 rinfo_w rfl (Nat.succ_pos _) (Nat.succ_pos _) (.slice Aw W.length cw) W.length W (by rfl) HQ (⟨b, ofB xs⟩ : Wr) ⟨wa.heap.size, 0, none⟩ 1 (by rfl) HA (by omega) (Nat.le_trans hB1 HB.size) ?_)
            intro A5 c5 wd HO5 G5 s5 hat5
            refine hKc.out _ _ (Blk.grown hHeld G5 hgew.out) (fun hHeld => ?_)
            clear hKc Kc
            try simp only [Act.put, List.setIfInBounds_toArray, List.set_cons_zero, List.set_cons_succ]
            refine wpAnyH_take (i := 13) (oi := { dst := some 32, op := Op.nilCheck (Operand.tmp 19), type := 0, pos := "law.go:55", after := #[{ on := 0, ground := Ground.data }, { on := 0, ground := Ground.phase }, { on := 1, ground := Ground.phase }, { on := 2, ground := Ground.phase }, { on := 3, ground := Ground.phase }, { on := 4, ground := Ground.phase }, { on := 5, ground := Ground.phase }, { on := 6, ground := Ground.phase }, { on := 7, ground := Ground.phase }, { on := 8, ground := Ground.phase }, { on := 9, ground := Ground.phase }, { on := 10, ground := Ground.phase }, { on := 11, ground := Ground.phase }, { on := 12, ground := Ground.phase }], guard := none }) (v := ?_) rfl (by kernel_rfl) (by kernel_rfl) (by kernel_rfl) (fun _ _ _ h => h) ?_ hHeld ?_
            rotate_left
            · refine Or.inl ⟨by rfl, fun w hSw => ?_⟩; skip; go_simp; (try with_reducible rfl)
            try simp only [Act.put, List.setIfInBounds_toArray, List.set_cons_zero, List.set_cons_succ]
            refine wpAnyH_take (i := 14) (oi := { dst := some 33, op := Op.fieldAddr 63 (Operand.tmp 32) 1, type := 0, pos := "law.go:55", after := #[{ on := 13, ground := Ground.data }, { on := 0, ground := Ground.phase }, { on := 1, ground := Ground.phase }, { on := 2, ground := Ground.phase }, { on := 3, ground := Ground.phase }, { on := 4, ground := Ground.phase }, { on := 5, ground := Ground.phase }, { on := 6, ground := Ground.phase }, { on := 7, ground := Ground.phase }, { on := 8, ground := Ground.phase }, { on := 9, ground := Ground.phase }, { on := 10, ground := Ground.phase }, { on := 11, ground := Ground.phase }, { on := 12, ground := Ground.phase }], guard := none }) (v := ?_) rfl (by kernel_rfl) (by kernel_rfl) (by kernel_rfl) (fun _ _ _ h => h) ?_ hHeld ?_
            rotate_left
            · refine Or.inl ⟨by rfl, fun w hSw => ?_⟩; skip; go_simp; (try with_reducible rfl)
            try simp only [Act.put, List.setIfInBounds_toArray, List.set_cons_zero, List.set_cons_succ]
            refine wpAnyH_ready (rs := [15]) (by kernel_rfl) (by simp) ?_
            refine AllReadyH.cons (o := { dst := none, op := Op.store 61 (Operand.tmp 33) (Operand.tmp 31), type := 0, pos := "law.go:55", after := #[{ on := 14, ground := Ground.data }, { on := 12, ground := Ground.data }, { on := 12, ground := Ground.chain }, { on := 0, ground := Ground.phase }, { on := 1, ground := Ground.phase }, { on := 2, ground := Ground.phase }, { on := 3, ground := Ground.phase }, { on := 4, ground := Ground.phase }, { on := 5, ground := Ground.phase }, { on := 6, ground := Ground.phase }, { on := 7, ground := Ground.phase }, { on := 8, ground := Ground.phase }, { on := 9, ground := Ground.phase }, { on := 10, ground := Ground.phase }, { on := 11, ground := Ground.phase }, { on := 12, ground := Ground.phase }], guard := none }) rfl (fun Kc hKc => ?_) AllReadyH.nil
            refine step_of (by rfl) (wp_set 61 (.tmp 33) (.tmp 31) (by rfl) gx 1 (by rfl) (.slice A5 (W.length + 1) c5) (by rfl) rfl 63 (dc Al L.length cl Aw W.length cw) (DX.grown G5 hgxw.out) (by kernel_rfl) (by simp [dc]) ?_)
            intro we ke ge5 se
            refine hKc.out _ _ (Blk.grown hHeld ge5 hgexg.out) (fun hHeld => ?_)
            clear hKc Kc
            try simp only [Act.put]
            refine wpAnyH_done (by kernel_rfl) ?_ _
            go_wp2_with fail
            go_meet
            exact ⟨_, rfl, rfl, hsh.out _ _ _ A5 c5 _ HB HO5 G5 hat5 ge5 ke⟩
          refine AllReadyH.cons (o := { dst := some 28, op := Op.call { callee := Callee.value (Operand.func 18), args := #[Operand.tmp 27], argTypes := #[28] }, type := 33, pos := "law.go:55", after := #[{ on := 8, ground := Ground.data }], guard := none }) rfl (fun Kc hKc => ?_) ?_
          · go_simp
            refine (of_c A n c xs _ (hd'.out _ HBw).1).mono ?_
            rintro r wa ⟨rfl, ba⟩
            have HB := bl_then HB ba
            have HBw := bl_thenB HBw HBw.size ba
            have HQ := own_below HQ ba
            have DX := DX.below ba
            have fb : wa.cell? ⟨gx, 1, none⟩ = some (.slice Aw W.length cw) := DX.cellv 1 _ rfl
            refine hKc.out _ _ (Blk.below hHeld ba) (fun hHeld => ?_)
            clear hKc Kc
            try simp only [Act.put, List.setIfInBounds_toArray, List.set_cons_zero, List.set_cons_succ]
            refine wpAnyH_take (i := 10) (oi := { dst := some 29, op := Op.build 65 #[(0, Operand.tmp 25), (1, Operand.tmp 28)], type := 65, pos := "law.go:55", after := #[{ on := 6, ground := Ground.data }, { on := 9, ground := Ground.data }], guard := none }) (v := ?_) rfl (by kernel_rfl) (by kernel_rfl) (by kernel_rfl) (fun _ _ _ h => h) ?_ hHeld ?_
            rotate_left
            · refine yIf_build2 65 0 1 (.tmp 25) (.tmp 28) (.int .i64 b) (.agg (bc (ofB xs))) (wc ⟨b, ofB xs⟩) (rbuilt_w b _) ?_ ?_ ?_ ?_
              · rfl
              · rfl
              · rfl
              · rfl
            try simp only [Act.put, List.setIfInBounds_toArray, List.set_cons_zero, List.set_cons_succ]
            refine wpAnyH_ready (rs := [4, 11]) (by kernel_rfl) (by simp) ?_
            refine AllReadyH.cons (o := { dst := some 23, op := Op.load 61 (Operand.tmp 22), type := 61, pos := "law.go:55", after := #[{ on := 3, ground := Ground.data }], guard := none }) rfl (fun Kc hKc => ?_) ?_
            · go_simp
              refine hKc.out _ _ (hHeld) (fun hHeld => ?_)
              clear hKc Kc
              try simp only [Act.put, List.setIfInBounds_toArray, List.set_cons_zero, List.set_cons_succ]
              refine wpAnyH_ready (rs := [11]) (by kernel_rfl) (by simp) ?_
              refine AllReadyH.cons (o := { dst := some 30, op := Op.buildSlice 61 1 #[(0, Operand.tmp 29)], type := 61, pos := "law.go:55", after := #[{ on := 10, ground := Ground.data }], guard := none }) rfl (fun Kc hKc => ?_) AllReadyH.nil
              refine step_of (by rfl) (wp_bs1 61 65 (.tmp 29) (by rfl) Try.underlying61 (.agg (wc ⟨0, zb⟩)) 65 72 rinfo_w rfl (by decide) (by decide) (wc ⟨b, ofB xs⟩) (by rfl) (wc_size _) ?_)
              have HA := row_news (heap_alloc_new wa (.cells (wc ⟨b, ofB xs⟩) 65))
              have bA := bl_alloc (bl_refl wa) (.cells (wc ⟨b, ofB xs⟩) 65)
              have HB := bl_then HB bA
              have HQ := own_below HQ bA
              have DX := DX.below bA
              obtain ⟨wk, hwk⟩ : ∃ wk, wk = wa.alloc (.cells (wc ⟨b, ofB xs⟩) 65) := ⟨_, rfl⟩
              rw [← hwk] at HA bA HB HQ DX ⊢
              have fb : wk.cell? ⟨gx, 1, none⟩ = some (.slice Aw W.length cw) := DX.cellv 1 _ rfl
              clear hwk
              refine hKc.out _ _ (Blk.below hHeld bA) (fun hHeld => ?_)
              clear hKc Kc
              try simp only [Act.put, List.setIfInBounds_toArray, List.set_cons_zero, List.set_cons_succ]
              refine wpAnyH_ready (rs := [12]) (by kernel_rfl) (by simp) ?_
              refine AllReadyH.cons (o := { dst := some 31, op := Op.call { callee := Callee.builtin Builtin.append, args := #[Operand.tmp 23, Operand.tmp 30], argTypes := #[61, 61] }, type := 61, pos := "law.go:55", after := #[{ on := 4, ground := Ground.data }, { on := 11, ground := Ground.data }, { on := 9, ground := Ground.chain }], guard := none }) rfl (fun Kc hKc => ?_) AllReadyH.nil
              refine step_of (by rfl) (wp_app_w (f := wv) w0.heap.size 65 72 wv_len wv_one (.agg (wc ⟨0, zb⟩)) (.tmp 23) (.tmp 30) 61 65 (by rfl) Try.underlying61 rinfo_w rfl (Nat.succ_pos _) (Nat.succ_pos _) (.slice Aw W.length cw) W.length W (by rfl) HQ (⟨b, ofB xs⟩ : Wr) ⟨wa.heap.size, 0, none⟩ 1 (by rfl) HA (by omega) (Nat.le_trans hB1 HB.size) ?_)
              intro A5 c5 wd HO5 G5 s5 hat5
              refine hKc.out _ _ (Blk.grown hHeld G5 hgew.out) (fun hHeld => ?_)
              clear hKc Kc
              try simp only [Act.put, List.setIfInBounds_toArray, List.set_cons_zero, List.set_cons_succ]
              refine wpAnyH_take (i := 13) (oi := { dst := some 32, op := Op.nilCheck (Operand.tmp 19), type := 0, pos := "law.go:55", after := #[{ on := 0, ground := Ground.data }, { on := 0, ground := Ground.phase }, { on := 1, ground := Ground.phase }, { on := 2, ground := Ground.phase }, { on := 3, ground := Ground.phase }, { on := 4, ground := Ground.phase }, { on := 5, ground := Ground.phase }, { on := 6, ground := Ground.phase }, { on := 7, ground := Ground.phase }, { on := 8, ground := Ground.phase }, { on := 9, ground := Ground.phase }, { on := 10, ground := Ground.phase }, { on := 11, ground := Ground.phase }, { on := 12, ground := Ground.phase }], guard := none }) (v := ?_) rfl (by kernel_rfl) (by kernel_rfl) (by kernel_rfl) (fun _ _ _ h => h) ?_ hHeld ?_
              rotate_left
              · refine Or.inl ⟨by rfl, fun w hSw => ?_⟩; skip; go_simp; (try with_reducible rfl)
              try simp only [Act.put, List.setIfInBounds_toArray, List.set_cons_zero, List.set_cons_succ]
              refine wpAnyH_take (i := 14) (oi := { dst := some 33, op := Op.fieldAddr 63 (Operand.tmp 32) 1, type := 0, pos := "law.go:55", after := #[{ on := 13, ground := Ground.data }, { on := 0, ground := Ground.phase }, { on := 1, ground := Ground.phase }, { on := 2, ground := Ground.phase }, { on := 3, ground := Ground.phase }, { on := 4, ground := Ground.phase }, { on := 5, ground := Ground.phase }, { on := 6, ground := Ground.phase }, { on := 7, ground := Ground.phase }, { on := 8, ground := Ground.phase }, { on := 9, ground := Ground.phase }, { on := 10, ground := Ground.phase }, { on := 11, ground := Ground.phase }, { on := 12, ground := Ground.phase }], guard := none }) (v := ?_) rfl (by kernel_rfl) (by kernel_rfl) (by kernel_rfl) (fun _ _ _ h => h) ?_ hHeld ?_
              rotate_left
              · refine Or.inl ⟨by rfl, fun w hSw => ?_⟩; skip; go_simp; (try with_reducible rfl)
              try simp only [Act.put, List.setIfInBounds_toArray, List.set_cons_zero, List.set_cons_succ]
              refine wpAnyH_ready (rs := [15]) (by kernel_rfl) (by simp) ?_
              refine AllReadyH.cons (o := { dst := none, op := Op.store 61 (Operand.tmp 33) (Operand.tmp 31), type := 0, pos := "law.go:55", after := #[{ on := 14, ground := Ground.data }, { on := 12, ground := Ground.data }, { on := 12, ground := Ground.chain }, { on := 0, ground := Ground.phase }, { on := 1, ground := Ground.phase }, { on := 2, ground := Ground.phase }, { on := 3, ground := Ground.phase }, { on := 4, ground := Ground.phase }, { on := 5, ground := Ground.phase }, { on := 6, ground := Ground.phase }, { on := 7, ground := Ground.phase }, { on := 8, ground := Ground.phase }, { on := 9, ground := Ground.phase }, { on := 10, ground := Ground.phase }, { on := 11, ground := Ground.phase }, { on := 12, ground := Ground.phase }], guard := none }) rfl (fun Kc hKc => ?_) AllReadyH.nil
              refine step_of (by rfl) (wp_set 61 (.tmp 33) (.tmp 31) (by rfl) gx 1 (by rfl) (.slice A5 (W.length + 1) c5) (by rfl) rfl 63 (dc Al L.length cl Aw W.length cw) (DX.grown G5 hgxw.out) (by kernel_rfl) (by simp [dc]) ?_)
              intro we ke ge5 se
              refine hKc.out _ _ (Blk.grown hHeld ge5 hgexg.out) (fun hHeld => ?_)
              clear hKc Kc
              try simp only [Act.put]
              refine wpAnyH_done (by kernel_rfl) ?_ _
              go_wp2_with fail
              go_meet
              exact ⟨_, rfl, rfl, hsh.out _ _ _ A5 c5 _ HB HO5 G5 hat5 ge5 ke⟩
            refine AllReadyH.cons (o := { dst := some 30, op := Op.buildSlice 61 1 #[(0, Operand.tmp 29)], type := 61, pos := "law.go:55", after := #[{ on := 10, ground := Ground.data }], guard := none }) rfl (fun Kc hKc => ?_) ?_
            · refine step_of (by rfl) (wp_bs1 61 65 (.tmp 29) (by rfl) Try.underlying61 (.agg (wc ⟨0, zb⟩)) 65 72 rinfo_w rfl (by decide) (by decide) (wc ⟨b, ofB xs⟩) (by rfl) (wc_size _) ?_)
              have HA := row_news (heap_alloc_new wa (.cells (wc ⟨b, ofB xs⟩) 65))
              have bA := bl_alloc (bl_refl wa) (.cells (wc ⟨b, ofB xs⟩) 65)
              have HB := bl_then HB bA
              have HQ := own_below HQ bA
              have DX := DX.below bA
              obtain ⟨wk, hwk⟩ : ∃ wk, wk = wa.alloc (.cells (wc ⟨b, ofB xs⟩) 65) := ⟨_, rfl⟩
              rw [← hwk] at HA bA HB HQ DX ⊢
              have fb : wk.cell? ⟨gx, 1, none⟩ = some (.slice Aw W.length cw) := DX.cellv 1 _ rfl
              clear hwk
              refine hKc.out _ _ (Blk.below hHeld bA) (fun hHeld => ?_)
              clear hKc Kc
              try simp only [Act.put, List.setIfInBounds_toArray, List.set_cons_zero, List.set_cons_succ]
              refine wpAnyH_ready (rs := [4]) (by kernel_rfl) (by simp) ?_
              refine AllReadyH.cons (o := { dst := some 23, op := Op.load 61 (Operand.tmp 22), type := 61, pos := "law.go:55", after := #[{ on := 3, ground := Ground.data }], guard := none }) rfl (fun Kc hKc => ?_) AllReadyH.nil
              go_simp
              refine hKc.out _ _ (hHeld) (fun hHeld => ?_)
              clear hKc Kc
              try simp only [Act.put, List.setIfInBounds_toArray, List.set_cons_zero, List.set_cons_succ]
              refine wpAnyH_ready (rs := [12]) (by kernel_rfl) (by simp) ?_
              refine AllReadyH.cons (o := { dst := some 31, op := Op.call { callee := Callee.builtin Builtin.append, args := #[Operand.tmp 23, Operand.tmp 30], argTypes := #[61, 61] }, type := 61, pos := "law.go:55", after := #[{ on := 4, ground := Ground.data }, { on := 11, ground := Ground.data }, { on := 9, ground := Ground.chain }], guard := none }) rfl (fun Kc hKc => ?_) AllReadyH.nil
              refine step_of (by rfl) (wp_app_w (f := wv) w0.heap.size 65 72 wv_len wv_one (.agg (wc ⟨0, zb⟩)) (.tmp 23) (.tmp 30) 61 65 (by rfl) Try.underlying61 rinfo_w rfl (Nat.succ_pos _) (Nat.succ_pos _) (.slice Aw W.length cw) W.length W (by rfl) HQ (⟨b, ofB xs⟩ : Wr) ⟨wa.heap.size, 0, none⟩ 1 (by rfl) HA (by omega) (Nat.le_trans hB1 HB.size) ?_)
              intro A5 c5 wd HO5 G5 s5 hat5
              refine hKc.out _ _ (Blk.grown hHeld G5 hgew.out) (fun hHeld => ?_)
              clear hKc Kc
              try simp only [Act.put, List.setIfInBounds_toArray, List.set_cons_zero, List.set_cons_succ]
              refine wpAnyH_take (i := 13) (oi := { dst := some 32, op := Op.nilCheck (Operand.tmp 19), type := 0, pos := "law.go:55", after := #[{ on := 0, ground := Ground.data }, { on := 0, ground := Ground.phase }, { on := 1, ground := Ground.phase }, { on := 2, ground := Ground.phase }, { on := 3, ground := Ground.phase }, { on := 4, ground := Ground.phase }, { on := 5, ground := Ground.phase }, { on := 6, ground := Ground.phase }, { on := 7, ground := Ground.phase }, { on := 8, ground := Ground.phase }, { on := 9, ground := Ground.phase }, { on := 10, ground := Ground.phase }, { on := 11, ground := Ground.phase }, { on := 12, ground := Ground.phase }], guard := none }) (v := ?_) rfl (by kernel_rfl) (by kernel_rfl) (by kernel_rfl) (fun _ _ _ h => h) ?_ hHeld ?_
              rotate_left
              · refine Or.inl ⟨by rfl, fun w hSw => ?_⟩; skip; go_simp; (try with_reducible rfl)
              try simp only [Act.put, List.setIfInBounds_toArray, List.set_cons_zero, List.set_cons_succ]
              refine wpAnyH_take (i := 14) (oi := { dst := some 33, op := Op.fieldAddr 63 (Operand.tmp 32) 1, type := 0, pos := "law.go:55", after := #[{ on := 13, ground := Ground.data }, { on := 0, ground := Ground.phase }, { on := 1, ground := Ground.phase }, { on := 2, ground := Ground.phase }, { on := 3, ground := Ground.phase }, { on := 4, ground := Ground.phase }, { on := 5, ground := Ground.phase }, { on := 6, ground := Ground.phase }, { on := 7, ground := Ground.phase }, { on := 8, ground := Ground.phase }, { on := 9, ground := Ground.phase }, { on := 10, ground := Ground.phase }, { on := 11, ground := Ground.phase }, { on := 12, ground := Ground.phase }], guard := none }) (v := ?_) rfl (by kernel_rfl) (by kernel_rfl) (by kernel_rfl) (fun _ _ _ h => h) ?_ hHeld ?_
              rotate_left
              · refine Or.inl ⟨by rfl, fun w hSw => ?_⟩; skip; go_simp; (try with_reducible rfl)
              try simp only [Act.put, List.setIfInBounds_toArray, List.set_cons_zero, List.set_cons_succ]
              refine wpAnyH_ready (rs := [15]) (by kernel_rfl) (by simp) ?_
              refine AllReadyH.cons (o := { dst := none, op := Op.store 61 (Operand.tmp 33) (Operand.tmp 31), type := 0, pos := "law.go:55", after := #[{ on := 14, ground := Ground.data }, { on := 12, ground := Ground.data }, { on := 12, ground := Ground.chain }, { on := 0, ground := Ground.phase }, { on := 1, ground := Ground.phase }, { on := 2, ground := Ground.phase }, { on := 3, ground := Ground.phase }, { on := 4, ground := Ground.phase }, { on := 5, ground := Ground.phase }, { on := 6, ground := Ground.phase }, { on := 7, ground := Ground.phase }, { on := 8, ground := Ground.phase }, { on := 9, ground := Ground.phase }, { on := 10, ground := Ground.phase }, { on := 11, ground := Ground.phase }, { on := 12, ground := Ground.phase }], guard := none }) rfl (fun Kc hKc => ?_) AllReadyH.nil
              refine step_of (by rfl) (wp_set 61 (.tmp 33) (.tmp 31) (by rfl) gx 1 (by rfl) (.slice A5 (W.length + 1) c5) (by rfl) rfl 63 (dc Al L.length cl Aw W.length cw) (DX.grown G5 hgxw.out) (by kernel_rfl) (by simp [dc]) ?_)
              intro we ke ge5 se
              refine hKc.out _ _ (Blk.grown hHeld ge5 hgexg.out) (fun hHeld => ?_)
              clear hKc Kc
              try simp only [Act.put]
              refine wpAnyH_done (by kernel_rfl) ?_ _
              go_wp2_with fail
              go_meet
              exact ⟨_, rfl, rfl, hsh.out _ _ _ A5 c5 _ HB HO5 G5 hat5 ge5 ke⟩
            exact AllReadyH.nil
          exact AllReadyH.nil
        case rest =>
          clear DX HQ HB HBw fa fb hgxw hgew hgexg hsh
          obtain ⟨wn, rfl, rfl, T2, O2⟩ := hcut
          go_upto_region 9 with fail
          have KE := Out.Blk.out k1 O2 (fun h => h hge1.out)
          have O2 := O1.trans O2 (fun i h => .inl h)
          have k1 := KE
          have KE := KE.drew
          have HB := bl_drew (bl_refl wn)
          have T2 := T2.below HB
          have O2 := O2.trans (Out.of_below HB _) (fun i h => .inl h)
          refine wp_region_held_drew (S := (fun w' => Blk w' ge 31 #[.int .i64 kd, .int .i64 b, .slice A n c, .slice Ak nk ck])) (by kernel_rfl) (k1.drew) (fun hHeld => ?_)
          refine wpAnyH_take (i := 0) (oi := { dst := some 34, op := Op.move (Operand.tmp 0), type := 23, pos := "law.go:57", after := #[], guard := none }) (v := ?_) rfl (by kernel_rfl) (by kernel_rfl) (by kernel_rfl) (fun _ _ _ h => h) ?_ hHeld ?_
          rotate_left
          · refine Or.inl ⟨by rfl, fun w hSw => ?_⟩; skip; go_simp; (try with_reducible rfl)
          try simp only [Act.put, List.setIfInBounds_toArray, List.set_cons_zero, List.set_cons_succ]
          refine wpAnyH_take (i := 1) (oi := { dst := some 35, op := Op.fieldAddr 31 (Operand.tmp 5) 1, type := 0, pos := "law.go:57", after := #[], guard := none }) (v := ?_) rfl (by kernel_rfl) (by kernel_rfl) (by kernel_rfl) (fun _ _ _ h => h) ?_ hHeld ?_
          rotate_left
          · refine Or.inl ⟨by rfl, fun w hSw => ?_⟩; skip; go_simp; (try with_reducible rfl)
          try simp only [Act.put, List.setIfInBounds_toArray, List.set_cons_zero, List.set_cons_succ]
          refine wpAnyH_take (i := 2) (oi := { dst := some 36, op := Op.load 3 (Operand.tmp 35), type := 3, pos := "law.go:57", after := #[{ on := 1, ground := Ground.data }], guard := none }) (v := ?_) rfl (by kernel_rfl) (by kernel_rfl) (by kernel_rfl) (fun _ _ _ h => h) ?_ hHeld ?_
          rotate_left
          · refine Or.inl ⟨by rfl, fun w hSw => ?_⟩; have c0 := Blk.cellv hSw 1 (.int .i64 b) rfl; go_simp; (try with_reducible rfl)
          try simp only [Act.put, List.setIfInBounds_toArray, List.set_cons_zero, List.set_cons_succ]
          refine wpAnyH_take (i := 3) (oi := { dst := some 37, op := Op.fieldAddr 31 (Operand.tmp 5) 2, type := 0, pos := "law.go:57", after := #[], guard := none }) (v := ?_) rfl (by kernel_rfl) (by kernel_rfl) (by kernel_rfl) (fun _ _ _ h => h) ?_ hHeld ?_
          rotate_left
          · refine Or.inl ⟨by rfl, fun w hSw => ?_⟩; skip; go_simp; (try with_reducible rfl)
          try simp only [Act.put, List.setIfInBounds_toArray, List.set_cons_zero, List.set_cons_succ]
          refine wpAnyH_take (i := 4) (oi := { dst := some 38, op := Op.load 28 (Operand.tmp 37), type := 28, pos := "law.go:57", after := #[{ on := 3, ground := Ground.data }], guard := none }) (v := ?_) rfl (by kernel_rfl) (by kernel_rfl) (by kernel_rfl) (fun _ _ _ h => h) ?_ hHeld ?_
          rotate_left
          · refine Or.inl ⟨by rfl, fun w hSw => ?_⟩; have c0 := Blk.cellv hSw 2 (.slice A n c) rfl; go_simp; (try with_reducible rfl)
          try simp only [Act.put, List.setIfInBounds_toArray, List.set_cons_zero, List.set_cons_succ]
          refine wpAnyH_take (i := 7) (oi := { dst := some 41, op := Op.move (Operand.tmp 1), type := 25, pos := "law.go:57", after := #[], guard := none }) (v := ?_) rfl (by kernel_rfl) (by kernel_rfl) (by kernel_rfl) (fun _ _ _ h => h) ?_ hHeld ?_
          rotate_left
          · refine Or.inl ⟨by rfl, fun w hSw => ?_⟩; skip; go_simp; (try with_reducible rfl)
          try simp only [Act.put, List.setIfInBounds_toArray, List.set_cons_zero, List.set_cons_succ]
          refine wpAnyH_take (i := 8) (oi := { dst := some 42, op := Op.fieldAddr 31 (Operand.tmp 5) 1, type := 0, pos := "law.go:57", after := #[], guard := none }) (v := ?_) rfl (by kernel_rfl) (by kernel_rfl) (by kernel_rfl) (fun _ _ _ h => h) ?_ hHeld ?_
          rotate_left
          · refine Or.inl ⟨by rfl, fun w hSw => ?_⟩; skip; go_simp; (try with_reducible rfl)
          try simp only [Act.put, List.setIfInBounds_toArray, List.set_cons_zero, List.set_cons_succ]
          refine wpAnyH_take (i := 9) (oi := { dst := some 43, op := Op.load 3 (Operand.tmp 42), type := 3, pos := "law.go:57", after := #[{ on := 8, ground := Ground.data }], guard := none }) (v := ?_) rfl (by kernel_rfl) (by kernel_rfl) (by kernel_rfl) (fun _ _ _ h => h) ?_ hHeld ?_
          rotate_left
          · refine Or.inl ⟨by rfl, fun w hSw => ?_⟩; have c0 := Blk.cellv hSw 1 (.int .i64 b) rfl; go_simp; (try with_reducible rfl)
          try simp only [Act.put, List.setIfInBounds_toArray, List.set_cons_zero, List.set_cons_succ]
          refine wpAnyH_ready (rs := [5]) (by kernel_rfl) (by simp) ?_
          refine AllReadyH.cons (o := { dst := some 39, op := Op.call { callee := Callee.value (Operand.func 18), args := #[Operand.tmp 38], argTypes := #[28] }, type := 33, pos := "law.go:57", after := #[{ on := 4, ground := Ground.data }], guard := none }) rfl (fun Kc hKc => ?_) AllReadyH.nil
          go_simp
          refine (of_c A n c xs _ (hd'.out _ T2.bl).1).mono ?_
          rintro r wa ⟨rfl, ba⟩
          have T2 := T2.below ba
          have O2 := O2.trans (Out.of_below ba _) (fun i h => .inl h)
          refine hKc.out _ _ (Blk.below hHeld ba) (fun hHeld => ?_)
          clear hKc Kc
          try simp only [Act.put, List.setIfInBounds_toArray, List.set_cons_zero, List.set_cons_succ]
          refine wpAnyH_ready (rs := [6]) (by kernel_rfl) (by simp) ?_
          refine AllReadyH.cons (o := { dst := some 40, op := Op.call { callee := Callee.value (Operand.func 17), args := #[Operand.tmp 34, Operand.tmp 36, Operand.tmp 39], argTypes := #[23, 3, 34] }, type := 4, pos := "law.go:57", after := #[{ on := 0, ground := Ground.data }, { on := 2, ground := Ground.data }, { on := 5, ground := Ground.data }, { on := 5, ground := Ground.chain }], guard := none }) rfl (fun Kc hKc => ?_) AllReadyH.nil
          go_simp
          refine (two_write T2 b _ hbl (by omega) (by omega)).mono ?_
          rintro r wb ⟨rfl, T2, O3⟩
          have O2 := O2.trans O3 (fun i h => .inl h)
          refine hKc.out _ _ (Out.Blk.out hHeld O3 (fun h => h hge1.out)) (fun hHeld => ?_)
          clear hKc Kc
          try simp only [Act.put, List.setIfInBounds_toArray, List.set_cons_zero, List.set_cons_succ]
          refine wpAnyH_ready (rs := [10]) (by kernel_rfl) (by simp) ?_
          refine AllReadyH.cons (o := { dst := some 44, op := Op.call { callee := Callee.value (Operand.func 13), args := #[Operand.tmp 41, Operand.tmp 43], argTypes := #[25, 3] }, type := 4, pos := "law.go:57", after := #[{ on := 7, ground := Ground.data }, { on := 9, ground := Ground.data }, { on := 6, ground := Ground.chain }], guard := none }) rfl (fun Kc hKc => ?_) AllReadyH.nil
          go_simp
          refine (two_rin_yes T2 b hbl).mono ?_
          rintro r wi ⟨rfl, rfl⟩
          refine hKc.out _ _ (hHeld) (fun hHeld => ?_)
          clear hKc Kc
          try simp only [Act.put, List.setIfInBounds_toArray, List.set_cons_zero, List.set_cons_succ]
          refine wpAnyH_take (i := 11) (oi := { dst := some 45, op := Op.binOp BinOp.eql 4 (Operand.tmp 40) (Operand.tmp 44) 4, type := 4, pos := "law.go:57", after := #[{ on := 6, ground := Ground.data }, { on := 10, ground := Ground.data }], guard := none }) (v := ?_) rfl (by kernel_rfl) (by kernel_rfl) (by kernel_rfl) (fun _ _ _ h => h) ?_ hHeld ?_
          rotate_left
          · refine Or.inl ⟨by rfl, fun w hSw => ?_⟩; skip; go_simp; (try with_reducible rfl)
          try simp only [Act.put, List.setIfInBounds_toArray, List.set_cons_zero, List.set_cons_succ]
          refine wpAnyH_take (i := 12) (oi := { dst := some 6, op := Op.assign (Operand.tmp 45), type := 4, pos := "law.go:57", after := #[{ on := 11, ground := Ground.data }, { on := 10, ground := Ground.chain }, { on := 0, ground := Ground.phase }, { on := 1, ground := Ground.phase }, { on := 2, ground := Ground.phase }, { on := 3, ground := Ground.phase }, { on := 4, ground := Ground.phase }, { on := 5, ground := Ground.phase }, { on := 6, ground := Ground.phase }, { on := 7, ground := Ground.phase }, { on := 8, ground := Ground.phase }, { on := 9, ground := Ground.phase }, { on := 10, ground := Ground.phase }, { on := 11, ground := Ground.phase }], guard := none }) (v := ?_) rfl (by kernel_rfl) (by kernel_rfl) (by kernel_rfl) (fun _ _ _ h => h) ?_ hHeld ?_
          rotate_left
          · refine Or.inl ⟨by rfl, fun w hSw => ?_⟩; skip; go_simp; (try with_reducible rfl)
          try simp only [Act.put, List.setIfInBounds_toArray, List.set_cons_zero, List.set_cons_succ]
          refine wpAnyH_done (by kernel_rfl) ?_ _
          go_wp2_with fail
          go_ret
          exact does_here hRR.out hpd.out T2 O2

      · have hout := Lib.hid (show bl < 0 ∨ (L.length : Int) ≤ bl by omega)
        have hpd : Hid (pdo ⟨kd, bl, A, n, c, xs, Ak, nk, ck, ks⟩ L W = (L, W)) := Lib.hid (by
          unfold pdo
          rw [if_pos hp4.out]
          simp only
          rw [if_neg hin])
        have e1 := k1.cellv 1 (.int .i64 bl) rfl
        clear hin
        go_wp2_with fail
        refine (two_rin_no T1 bl hout.out).mono ?_
        rintro r w2 ⟨rfl, rfl⟩
        clear e1
        go_upto_region 9 with fail
        have HB := bl_drew (bl_refl w1)
        have T1 := T1.below HB
        have O1 := O1.trans (Out.of_below HB _) (fun i h => .inl h)
        refine wp_region_held_drew (S := (fun w' => Blk w' ge 31 #[.int .i64 kd, .int .i64 bl, .slice A n c, .slice Ak nk ck])) (by kernel_rfl) (k1.drew) (fun hHeld => ?_)
        refine wpAnyH_take (i := 0) (oi := { dst := some 34, op := Op.move (Operand.tmp 0), type := 23, pos := "law.go:57", after := #[], guard := none }) (v := ?_) rfl (by kernel_rfl) (by kernel_rfl) (by kernel_rfl) (fun _ _ _ h => h) ?_ hHeld ?_
        rotate_left
        · refine Or.inl ⟨by rfl, fun w hSw => ?_⟩; skip; go_simp; (try with_reducible rfl)
        try simp only [Act.put, List.setIfInBounds_toArray, List.set_cons_zero, List.set_cons_succ]
        refine wpAnyH_take (i := 1) (oi := { dst := some 35, op := Op.fieldAddr 31 (Operand.tmp 5) 1, type := 0, pos := "law.go:57", after := #[], guard := none }) (v := ?_) rfl (by kernel_rfl) (by kernel_rfl) (by kernel_rfl) (fun _ _ _ h => h) ?_ hHeld ?_
        rotate_left
        · refine Or.inl ⟨by rfl, fun w hSw => ?_⟩; skip; go_simp; (try with_reducible rfl)
        try simp only [Act.put, List.setIfInBounds_toArray, List.set_cons_zero, List.set_cons_succ]
        refine wpAnyH_take (i := 2) (oi := { dst := some 36, op := Op.load 3 (Operand.tmp 35), type := 3, pos := "law.go:57", after := #[{ on := 1, ground := Ground.data }], guard := none }) (v := ?_) rfl (by kernel_rfl) (by kernel_rfl) (by kernel_rfl) (fun _ _ _ h => h) ?_ hHeld ?_
        rotate_left
        · refine Or.inl ⟨by rfl, fun w hSw => ?_⟩; have c0 := Blk.cellv hSw 1 (.int .i64 bl) rfl; go_simp; (try with_reducible rfl)
        try simp only [Act.put, List.setIfInBounds_toArray, List.set_cons_zero, List.set_cons_succ]
        refine wpAnyH_take (i := 3) (oi := { dst := some 37, op := Op.fieldAddr 31 (Operand.tmp 5) 2, type := 0, pos := "law.go:57", after := #[], guard := none }) (v := ?_) rfl (by kernel_rfl) (by kernel_rfl) (by kernel_rfl) (fun _ _ _ h => h) ?_ hHeld ?_
        rotate_left
        · refine Or.inl ⟨by rfl, fun w hSw => ?_⟩; skip; go_simp; (try with_reducible rfl)
        try simp only [Act.put, List.setIfInBounds_toArray, List.set_cons_zero, List.set_cons_succ]
        refine wpAnyH_take (i := 4) (oi := { dst := some 38, op := Op.load 28 (Operand.tmp 37), type := 28, pos := "law.go:57", after := #[{ on := 3, ground := Ground.data }], guard := none }) (v := ?_) rfl (by kernel_rfl) (by kernel_rfl) (by kernel_rfl) (fun _ _ _ h => h) ?_ hHeld ?_
        rotate_left
        · refine Or.inl ⟨by rfl, fun w hSw => ?_⟩; have c0 := Blk.cellv hSw 2 (.slice A n c) rfl; go_simp; (try with_reducible rfl)
        try simp only [Act.put, List.setIfInBounds_toArray, List.set_cons_zero, List.set_cons_succ]
        refine wpAnyH_take (i := 7) (oi := { dst := some 41, op := Op.move (Operand.tmp 1), type := 25, pos := "law.go:57", after := #[], guard := none }) (v := ?_) rfl (by kernel_rfl) (by kernel_rfl) (by kernel_rfl) (fun _ _ _ h => h) ?_ hHeld ?_
        rotate_left
        · refine Or.inl ⟨by rfl, fun w hSw => ?_⟩; skip; go_simp; (try with_reducible rfl)
        try simp only [Act.put, List.setIfInBounds_toArray, List.set_cons_zero, List.set_cons_succ]
        refine wpAnyH_take (i := 8) (oi := { dst := some 42, op := Op.fieldAddr 31 (Operand.tmp 5) 1, type := 0, pos := "law.go:57", after := #[], guard := none }) (v := ?_) rfl (by kernel_rfl) (by kernel_rfl) (by kernel_rfl) (fun _ _ _ h => h) ?_ hHeld ?_
        rotate_left
        · refine Or.inl ⟨by rfl, fun w hSw => ?_⟩; skip; go_simp; (try with_reducible rfl)
        try simp only [Act.put, List.setIfInBounds_toArray, List.set_cons_zero, List.set_cons_succ]
        refine wpAnyH_take (i := 9) (oi := { dst := some 43, op := Op.load 3 (Operand.tmp 42), type := 3, pos := "law.go:57", after := #[{ on := 8, ground := Ground.data }], guard := none }) (v := ?_) rfl (by kernel_rfl) (by kernel_rfl) (by kernel_rfl) (fun _ _ _ h => h) ?_ hHeld ?_
        rotate_left
        · refine Or.inl ⟨by rfl, fun w hSw => ?_⟩; have c0 := Blk.cellv hSw 1 (.int .i64 bl) rfl; go_simp; (try with_reducible rfl)
        try simp only [Act.put, List.setIfInBounds_toArray, List.set_cons_zero, List.set_cons_succ]
        refine wpAnyH_ready (rs := [5]) (by kernel_rfl) (by simp) ?_
        refine AllReadyH.cons (o := { dst := some 39, op := Op.call { callee := Callee.value (Operand.func 18), args := #[Operand.tmp 38], argTypes := #[28] }, type := 33, pos := "law.go:57", after := #[{ on := 4, ground := Ground.data }], guard := none }) rfl (fun Kc hKc => ?_) AllReadyH.nil
        go_simp
        refine (of_c A n c xs _ (hd'.out _ T1.bl).1).mono ?_
        rintro r wa ⟨rfl, ba⟩
        have T1 := T1.below ba
        have O1 := O1.trans (Out.of_below ba _) (fun i h => .inl h)
        refine hKc.out _ _ (Blk.below hHeld ba) (fun hHeld => ?_)
        clear hKc Kc
        try simp only [Act.put, List.setIfInBounds_toArray, List.set_cons_zero, List.set_cons_succ]
        refine wpAnyH_ready (rs := [6]) (by kernel_rfl) (by simp) ?_
        refine AllReadyH.cons (o := { dst := some 40, op := Op.call { callee := Callee.value (Operand.func 17), args := #[Operand.tmp 34, Operand.tmp 36, Operand.tmp 39], argTypes := #[23, 3, 34] }, type := 4, pos := "law.go:57", after := #[{ on := 0, ground := Ground.data }, { on := 2, ground := Ground.data }, { on := 5, ground := Ground.data }, { on := 5, ground := Ground.chain }], guard := none }) rfl (fun Kc hKc => ?_) AllReadyH.nil
        go_simp
        refine (two_write_no T1 bl _ hout.out).mono ?_
        rintro r wb ⟨rfl, bb⟩
        have T1 := T1.below bb
        have O1 := O1.trans (Out.of_below bb _) (fun i h => .inl h)
        refine hKc.out _ _ (Blk.below hHeld bb) (fun hHeld => ?_)
        clear hKc Kc
        try simp only [Act.put, List.setIfInBounds_toArray, List.set_cons_zero, List.set_cons_succ]
        refine wpAnyH_ready (rs := [10]) (by kernel_rfl) (by simp) ?_
        refine AllReadyH.cons (o := { dst := some 44, op := Op.call { callee := Callee.value (Operand.func 13), args := #[Operand.tmp 41, Operand.tmp 43], argTypes := #[25, 3] }, type := 4, pos := "law.go:57", after := #[{ on := 7, ground := Ground.data }, { on := 9, ground := Ground.data }, { on := 6, ground := Ground.chain }], guard := none }) rfl (fun Kc hKc => ?_) AllReadyH.nil
        go_simp
        refine (two_rin_no T1 bl hout.out).mono ?_
        rintro r wi ⟨rfl, rfl⟩
        refine hKc.out _ _ (hHeld) (fun hHeld => ?_)
        clear hKc Kc
        try simp only [Act.put, List.setIfInBounds_toArray, List.set_cons_zero, List.set_cons_succ]
        refine wpAnyH_take (i := 11) (oi := { dst := some 45, op := Op.binOp BinOp.eql 4 (Operand.tmp 40) (Operand.tmp 44) 4, type := 4, pos := "law.go:57", after := #[{ on := 6, ground := Ground.data }, { on := 10, ground := Ground.data }], guard := none }) (v := ?_) rfl (by kernel_rfl) (by kernel_rfl) (by kernel_rfl) (fun _ _ _ h => h) ?_ hHeld ?_
        rotate_left
        · refine Or.inl ⟨by rfl, fun w hSw => ?_⟩; skip; go_simp; (try with_reducible rfl)
        try simp only [Act.put, List.setIfInBounds_toArray, List.set_cons_zero, List.set_cons_succ]
        refine wpAnyH_take (i := 12) (oi := { dst := some 6, op := Op.assign (Operand.tmp 45), type := 4, pos := "law.go:57", after := #[{ on := 11, ground := Ground.data }, { on := 10, ground := Ground.chain }, { on := 0, ground := Ground.phase }, { on := 1, ground := Ground.phase }, { on := 2, ground := Ground.phase }, { on := 3, ground := Ground.phase }, { on := 4, ground := Ground.phase }, { on := 5, ground := Ground.phase }, { on := 6, ground := Ground.phase }, { on := 7, ground := Ground.phase }, { on := 8, ground := Ground.phase }, { on := 9, ground := Ground.phase }, { on := 10, ground := Ground.phase }, { on := 11, ground := Ground.phase }], guard := none }) (v := ?_) rfl (by kernel_rfl) (by kernel_rfl) (by kernel_rfl) (fun _ _ _ h => h) ?_ hHeld ?_
        rotate_left
        · refine Or.inl ⟨by rfl, fun w hSw => ?_⟩; skip; go_simp; (try with_reducible rfl)
        try simp only [Act.put, List.setIfInBounds_toArray, List.set_cons_zero, List.set_cons_succ]
        refine wpAnyH_done (by kernel_rfl) ?_ _
        go_wp2_with fail
        go_ret
        exact does_here hRR.out hpd.out T1 O1
  · have hpd : Hid (pdo ⟨5, bl, A, n, c, xs, Ak, nk, ck, ks⟩ L W = (land W yes L W.length, [])) := Lib.hid (by
      unfold pdo
      rw [if_neg (by simp), if_pos rfl])
    go_wp2_with fail
    refine (two_flush T1 hok'.out (by omega) (by omega)).mono ?_
    rintro r w2 ⟨rfl, T2, O2⟩
    have O2 := O1.trans O2 (fun i h => .inl h)
    clear e0 T1
    go_wp2_with fail
    refine (two_rflush T2 hok'.out (by omega) (by omega)).mono ?_
    rintro r w3 ⟨rfl, T3, O3⟩
    have O3 := O2.trans O3 (fun i h => .inl h)
    clear T2 O2
    go_wp2_with fail
    go_ret
    exact does_here hRR.out hpd.out T3 O3
  · have hpd : Hid (pdo ⟨6, bl, A, n, c, xs, Ak, nk, ck, ks⟩ L W = (land W (kf ks) L W.length, [])) := Lib.hid (by
      unfold pdo
      rw [if_neg (by simp), if_neg (by simp), if_pos rfl])
    go_upto_region 14 with fail
    have HB := bl_drew (bl_refl w1)
    have T1 := T1.below HB
    have O1 := O1.trans (Out.of_below HB _) (fun i h => .inl h)
    clear e0
    refine wp_region_held_drew (S := (fun w' => Blk w' ge 31 #[.int .i64 6, .int .i64 bl, .slice A n c, .slice Ak nk ck])) (by kernel_rfl) (k1.drew) (fun hHeld => ?_)
    refine wpAnyH_take (i := 0) (oi := { dst := some 54, op := Op.move (Operand.tmp 0), type := 23, pos := "law.go:62", after := #[], guard := none }) (v := ?_) rfl (by kernel_rfl) (by kernel_rfl) (by kernel_rfl) (fun _ _ _ h => h) ?_ hHeld ?_
    rotate_left
    · refine Or.inl ⟨by rfl, fun w hSw => ?_⟩; skip; go_simp; (try with_reducible rfl)
    try simp only [Act.put, List.setIfInBounds_toArray, List.set_cons_zero, List.set_cons_succ]
    refine wpAnyH_take (i := 1) (oi := { dst := some 55, op := Op.fieldAddr 31 (Operand.tmp 5) 3, type := 0, pos := "law.go:62", after := #[], guard := none }) (v := ?_) rfl (by kernel_rfl) (by kernel_rfl) (by kernel_rfl) (fun _ _ _ h => h) ?_ hHeld ?_
    rotate_left
    · refine Or.inl ⟨by rfl, fun w hSw => ?_⟩; skip; go_simp; (try with_reducible rfl)
    try simp only [Act.put, List.setIfInBounds_toArray, List.set_cons_zero, List.set_cons_succ]
    refine wpAnyH_take (i := 2) (oi := { dst := some 56, op := Op.load 29 (Operand.tmp 55), type := 29, pos := "law.go:62", after := #[{ on := 1, ground := Ground.data }], guard := none }) (v := ?_) rfl (by kernel_rfl) (by kernel_rfl) (by kernel_rfl) (fun _ _ _ h => h) ?_ hHeld ?_
    rotate_left
    · refine Or.inl ⟨by rfl, fun w hSw => ?_⟩; have c0 := Blk.cellv hSw 3 (.slice Ak nk ck) rfl; go_simp; (try with_reducible rfl)
    try simp only [Act.put, List.setIfInBounds_toArray, List.set_cons_zero, List.set_cons_succ]
    refine wpAnyH_take (i := 4) (oi := { dst := some 58, op := Op.move (Operand.tmp 1), type := 25, pos := "law.go:62", after := #[], guard := none }) (v := ?_) rfl (by kernel_rfl) (by kernel_rfl) (by kernel_rfl) (fun _ _ _ h => h) ?_ hHeld ?_
    rotate_left
    · refine Or.inl ⟨by rfl, fun w hSw => ?_⟩; skip; go_simp; (try with_reducible rfl)
    try simp only [Act.put, List.setIfInBounds_toArray, List.set_cons_zero, List.set_cons_succ]
    refine wpAnyH_take (i := 5) (oi := { dst := some 59, op := Op.fieldAddr 31 (Operand.tmp 5) 3, type := 0, pos := "law.go:62", after := #[], guard := none }) (v := ?_) rfl (by kernel_rfl) (by kernel_rfl) (by kernel_rfl) (fun _ _ _ h => h) ?_ hHeld ?_
    rotate_left
    · refine Or.inl ⟨by rfl, fun w hSw => ?_⟩; skip; go_simp; (try with_reducible rfl)
    try simp only [Act.put, List.setIfInBounds_toArray, List.set_cons_zero, List.set_cons_succ]
    refine wpAnyH_take (i := 6) (oi := { dst := some 60, op := Op.load 29 (Operand.tmp 59), type := 29, pos := "law.go:62", after := #[{ on := 5, ground := Ground.data }], guard := none }) (v := ?_) rfl (by kernel_rfl) (by kernel_rfl) (by kernel_rfl) (fun _ _ _ h => h) ?_ hHeld ?_
    rotate_left
    · refine Or.inl ⟨by rfl, fun w hSw => ?_⟩; have c0 := Blk.cellv hSw 3 (.slice Ak nk ck) rfl; go_simp; (try with_reducible rfl)
    try simp only [Act.put, List.setIfInBounds_toArray, List.set_cons_zero, List.set_cons_succ]
    refine wpAnyH_ready (rs := [3]) (by kernel_rfl) (by simp) ?_
    refine AllReadyH.cons (o := { dst := some 57, op := Op.call { callee := Callee.value (Operand.func 19), args := #[Operand.tmp 54, Operand.tmp 56], argTypes := #[23, 29] }, type := 3, pos := "law.go:62", after := #[{ on := 0, ground := Ground.data }, { on := 2, ground := Ground.data }], guard := none }) rfl (fun Kc hKc => ?_) AllReadyH.nil
    go_simp
    refine (two_crash T1 hok'.out (by omega) (by omega) Ak nk ck ks (hd'.out _ T1.bl).2.1 hA.out).mono ?_
    rintro r wa ⟨rfl, T1, O3⟩
    have O1 := O1.trans O3 (fun i h => .inl h)
    refine hKc.out _ _ (Out.Blk.out hHeld O3 (fun h => h hge1.out)) (fun hHeld => ?_)
    clear hKc Kc
    try simp only [Act.put, List.setIfInBounds_toArray, List.set_cons_zero, List.set_cons_succ]
    refine wpAnyH_ready (rs := [7]) (by kernel_rfl) (by simp) ?_
    refine AllReadyH.cons (o := { dst := some 61, op := Op.call { callee := Callee.value (Operand.func 25), args := #[Operand.tmp 58, Operand.tmp 60, Operand.const (Value.bool false)], argTypes := #[25, 29, 4] }, type := 3, pos := "law.go:62", after := #[{ on := 4, ground := Ground.data }, { on := 6, ground := Ground.data }, { on := 3, ground := Ground.chain }], guard := none }) rfl (fun Kc hKc => ?_) AllReadyH.nil
    go_simp
    refine (two_rcrash T1 hok'.out (by omega) (by omega) Ak nk ck ks (hd'.out _ T1.bl).2.1 hA.out).mono ?_
    rintro r wb ⟨rfl, T1, O4⟩
    have O1 := O1.trans O4 (fun i h => .inl h)
    refine hKc.out _ _ (Out.Blk.out hHeld O4 (fun h => h hge1.out)) (fun hHeld => ?_)
    clear hKc Kc
    try simp only [Act.put, List.setIfInBounds_toArray, List.set_cons_zero, List.set_cons_succ]
    refine wpAnyH_take (i := 8) (oi := { dst := some 62, op := Op.binOp BinOp.eql 3 (Operand.tmp 57) (Operand.tmp 61) 3, type := 4, pos := "law.go:62", after := #[{ on := 3, ground := Ground.data }, { on := 7, ground := Ground.data }], guard := none }) (v := ?_) rfl (by kernel_rfl) (by kernel_rfl) (by kernel_rfl) (fun _ _ _ h => h) ?_ hHeld ?_
    rotate_left
    · refine Or.inl ⟨by rfl, fun w hSw => ?_⟩; skip; go_simp; (try with_reducible rfl)
    try simp only [Act.put, List.setIfInBounds_toArray, List.set_cons_zero, List.set_cons_succ]
    refine wpAnyH_take (i := 9) (oi := { dst := some 6, op := Op.assign (Operand.tmp 62), type := 4, pos := "law.go:62", after := #[{ on := 8, ground := Ground.data }, { on := 7, ground := Ground.chain }, { on := 0, ground := Ground.phase }, { on := 1, ground := Ground.phase }, { on := 2, ground := Ground.phase }, { on := 3, ground := Ground.phase }, { on := 4, ground := Ground.phase }, { on := 5, ground := Ground.phase }, { on := 6, ground := Ground.phase }, { on := 7, ground := Ground.phase }, { on := 8, ground := Ground.phase }], guard := none }) (v := ?_) rfl (by kernel_rfl) (by kernel_rfl) (by kernel_rfl) (fun _ _ _ h => h) ?_ hHeld ?_
    rotate_left
    · refine Or.inl ⟨by rfl, fun w hSw => ?_⟩; skip; go_simp; (try with_reducible rfl)
    try simp only [Act.put, List.setIfInBounds_toArray, List.set_cons_zero, List.set_cons_succ]
    refine wpAnyH_done (by kernel_rfl) ?_ _
    go_wp2_with fail
    go_ret
    have hcc : (((count (kf ks) W.length : Nat) : Int) == ((count (kf ks) W.length : Nat) : Int)) = true := by simp
    exact does_here hRR.out hpd.out T1 O1
  · have hpd : Hid (pdo ⟨kd, bl, A, n, c, xs, Ak, nk, ck, ks⟩ L W = (L, W)) := Lib.hid (by
      unfold pdo
      rw [if_neg m0, if_neg m5, if_neg m6])
    go_wp2_with fail
    go_ret
    exact does_here hRR.out hpd.out T1 O1
end Go.Proofs.Ythihpejhhimkaaa.DiskW
