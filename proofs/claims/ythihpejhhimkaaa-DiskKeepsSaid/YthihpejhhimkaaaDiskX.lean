/- Contract of the disk laws' Same; two new disks. -/
import Derived.Test.YthihpejhhimkaaaDiskW
set_option linter.unusedVariables false
namespace Go.Proofs.Ythihpejhhimkaaa.DiskX
open Go.RowKit Go.Proofs.Ythihpejhhimkaaa.Base Go.Proofs.Ythihpejhhimkaaa.Row Go.Proofs.Ythihpejhhimkaaa.App Go.Proofs.Ythihpejhhimkaaa.Multi Go.Proofs.Ythihpejhhimkaaa.StEq Go.Proofs.Ythihpejhhimkaaa.Held Go.Proofs.Ythihpejhhimkaaa.Out Go.Proofs.Ythihpejhhimkaaa.HeldW Go.Proofs.Ythihpejhhimkaaa.HeldX Go.Proofs.Ythihpejhhimkaaa.DiskMath Go.Proofs.Ythihpejhhimkaaa.Disk Go.Proofs.Ythihpejhhimkaaa.Disk3 Go.Proofs.Ythihpejhhimkaaa.DiskS Go.Proofs.Ythihpejhhimkaaa.DiskU Go.Proofs.Ythihpejhhimkaaa.DiskV Go.Proofs.Ythihpejhhimkaaa.DiskW

theorem eq_d (x y : Bk) (w : World) : (Op.equalIn 10000 34 (.agg (bc x)) (.agg (bc y))).run Try.prog w = .ok (x.l == y.l) w := by
  obtain ⟨i0, hi, _, hz1, _⟩ := info_parts (show (Try.prog.info? 5).map (fun i => (i.zero, i.size, i.bytes)) = some (some (.int .u8 0), 1, 1) by kernel_rfl)
  exact run_eq_ints 9998 34 64 5 .u8 i0 Try.underlying34 Try.underlying5 hi hz1 x.l y.l x.h y.h
theorem bks_at {W : List Wr} {j : Nat} {x : Wr} (hx : W[j]? = some x) : (Disk4.bks W)[j]? = some x.b := by
  unfold Disk4.bks
  rw [List.getElem?_map, hx]; rfl
/-- The reference's waiting writes, as the law reads them. -/
theorem two_cells {w0 w : World} {R : Nat → Prop} {gd gx : Nat} {L L' : List Bk} {W W' : List Wr} (h : Two w0 R w gd gx L W L' W') :
    ∃ Al cl Aw cw, Blk w gx 63 (dc Al L'.length cl Aw W'.length cw) ∧ ∀ j x, W'[j]? = some x → ∃ gq, Aw = some ⟨gq, 0, none⟩ ∧ w.cell? ⟨gq, j * 65, none⟩ = some (.int .i64 x.b) := by
  obtain ⟨F, G, hF, ⟨Al, cl, Aw, cw, D, _⟩, _⟩ := h
  refine ⟨Al, cl, Aw, cw, D.d, fun j x hx => ?_⟩
  obtain ⟨gq, curq, hAw, _, KQ, _, _, hcq⟩ := own_blk wv_len D.q (by have := (List.getElem?_eq_some_iff.1 hx).1; omega)
  exact ⟨gq, hAw, KQ.cellv (j * 65) _ (hcq j x hx 0 _ rfl)⟩
theorem two_new (n : Nat) (h1 : 1 ≤ n) (h2 : n ≤ 512) (w : World) (B : Nat) (hB : B ≤ w.heap.size) :
    Calls Try.prog 8 #[.int .i64 n] w fun r w' => ∃ g, r = .returned (.pointer (some ⟨g, 0, none⟩)) ∧ (∃ F, DP B w' g F (List.replicate n zb) [] ∧ ∀ i, F i → w.heap.size ≤ i ∧ i < w'.heap.size) ∧ Below w.heap.size w w' := by
  refine (new_c n h1 h2 B w hB).mono ?_
  rintro r w1 ⟨g, rfl, hD, hb⟩
  refine ⟨g, rfl, ⟨_, hD, fun i hi => ?_⟩, hb⟩
  rcases hi with hi | hi
  · exact hi.elim
  · exact hi
def NewPost (w0 w : World) (gd n : Nat) (R : Nat → Prop) (w' : World) (r : Ending) : Prop := ∃ gx, r = .returned (.pointer (some ⟨gx, 0, none⟩)) ∧ Two w0 R w' gd gx (List.replicate n zb) [] (List.replicate n zb) []
theorem two_rnew (n : Nat) (h2 : n ≤ 512) (w0 w wp : World) (gd : Nat) (R : Nat → Prop) (F : Nat → Prop) (hp : w0.heap.size ≤ wp.heap.size) (hD : DP w0.heap.size w gd F (List.replicate n zb) []) (bF : ∀ i, F i → wp.heap.size ≤ i ∧ i < w.heap.size) (hR : ∀ i, R i → i < wp.heap.size) (hB : Below w0.heap.size w0 w) :
    Calls Try.prog 9 #[.int .i64 n] w fun r w' => NewPost w0 w gd n R w' r := by
  refine (rnew_c n h2 w0.heap.size w hB.size).mono ?_
  rintro r w1 ⟨g, rfl, hX, hb⟩
  have hs := hb.size
  have hs0 := hB.size
  have hpw : wp.heap.size ≤ w.heap.size := by
    have := bF gd (by obtain ⟨_, _, _, _, _, h, _⟩ := hD; exact h)
    omega
  refine ⟨g, rfl, F, gro (fun _ => False) w w1, DkF.below hD hb, hX, fun i h => ⟨by have := (bF i h).1; omega, by have := (bF i h).2; omega⟩, fun i h => ?_, fun i h hg => ?_, fun i h => ⟨by have := hR i h; omega, fun hf => ?_, fun hg => ?_⟩, bl_thenB hB hB.size hb⟩
  · rcases h with h | ⟨h1, h2⟩
    · exact h.elim
    · exact ⟨by omega, h2⟩
  · rcases hg with hg | ⟨h1, h2⟩
    · exact hg.elim
    · have := (bF i h).2; omega
  · have := (bF i hf).1
    have := hR i h
    omega
  · rcases hg with hg | ⟨h1, h2⟩
    · exact hg.elim
    · have := hR i h; omega
set_option maxRecDepth 100000 in
set_option maxHeartbeats 8000000 in
theorem same_c (w0 : World) (R : Nat → Prop) (gd gx : Nat) (L : List Bk) (W : List Wr) (w : World) (h : Two w0 R w gd gx L W L W) (hL : L.length ≤ 32) (hW : W.length ≤ 900) :
    Calls Try.prog 11 #[.pointer (some ⟨gd, 0, none⟩), .pointer (some ⟨gx, 0, none⟩)] w fun r w' => r = .returned (.bool true) ∧ Below w.heap.size w w' := by
  go_enter Try.func11, Try.ntmps11
  go_wp2_with fail
  refine (two_waiting h (by omega)).mono ?_
  rintro r w1 ⟨A1, c1, ⟨rfl, HO⟩, b1⟩
  have T1 := h.below b1
  have RW := RF.of_own Disk4.iv_len (by decide) HO
  clear h HO
  go_upto_region 2 with fail
  obtain ⟨Al, cl, Aw, cw, DX, hcells⟩ := two_cells T1
  have hcells' := Lib.hid hcells
  have HB1 := b1
  have b1d := bl_drew (bl_refl w1)
  have T1d := T1.below b1d
  clear hcells
  have qn1 : ((L.length : Int) != (L.length : Int)) = false := by simp
  have qn2 : ((W.length : Int) != (W.length : Int)) = false := by simp
  refine wp_region_held_drew (S := (fun w' => Blk w' gx 63 (dc Al L.length cl Aw W.length cw))) (by kernel_rfl) (DX.drew) (fun hHeld => ?_)
  refine wpAnyH_take (i := 0) (oi := { dst := some 12, op := Op.move (Operand.tmp 0), type := 23, pos := "law.go:33", after := #[], guard := none }) (v := ?_) rfl (by kernel_rfl) (by kernel_rfl) (by kernel_rfl) (fun _ _ _ h => h) ?_ hHeld ?_
  rotate_left
  · refine Or.inl ⟨by rfl, fun w hSw => ?_⟩; skip; go_simp; (try with_reducible rfl)
  try simp only [Act.put, List.setIfInBounds_toArray, List.set_cons_zero, List.set_cons_succ]
  refine wpAnyH_take (i := 2) (oi := { dst := some 14, op := Op.move (Operand.tmp 1), type := 25, pos := "law.go:33", after := #[], guard := none }) (v := ?_) rfl (by kernel_rfl) (by kernel_rfl) (by kernel_rfl) (fun _ _ _ h => h) ?_ hHeld ?_
  rotate_left
  · refine Or.inl ⟨by rfl, fun w hSw => ?_⟩; skip; go_simp; (try with_reducible rfl)
  try simp only [Act.put, List.setIfInBounds_toArray, List.set_cons_zero, List.set_cons_succ]
  refine wpAnyH_take (i := 3) (oi := { dst := some 15, op := Op.nilCheck (Operand.tmp 14), type := 0, pos := "law.go:33", after := #[{ on := 2, ground := Ground.data }], guard := none }) (v := ?_) rfl (by kernel_rfl) (by kernel_rfl) (by kernel_rfl) (fun _ _ _ h => h) ?_ hHeld ?_
  rotate_left
  · refine Or.inl ⟨by rfl, fun w hSw => ?_⟩; skip; go_simp; (try with_reducible rfl)
  try simp only [Act.put, List.setIfInBounds_toArray, List.set_cons_zero, List.set_cons_succ]
  refine wpAnyH_take (i := 4) (oi := { dst := some 16, op := Op.fieldAddr 63 (Operand.tmp 15) 0, type := 0, pos := "law.go:33", after := #[{ on := 3, ground := Ground.data }], guard := none }) (v := ?_) rfl (by kernel_rfl) (by kernel_rfl) (by kernel_rfl) (fun _ _ _ h => h) ?_ hHeld ?_
  rotate_left
  · refine Or.inl ⟨by rfl, fun w hSw => ?_⟩; skip; go_simp; (try with_reducible rfl)
  try simp only [Act.put, List.setIfInBounds_toArray, List.set_cons_zero, List.set_cons_succ]
  refine wpAnyH_take (i := 5) (oi := { dst := some 17, op := Op.load 60 (Operand.tmp 16), type := 60, pos := "law.go:33", after := #[{ on := 4, ground := Ground.data }], guard := none }) (v := ?_) rfl (by kernel_rfl) (by kernel_rfl) (by kernel_rfl) (fun _ _ _ h => h) ?_ hHeld ?_
  rotate_left
  · refine Or.inl ⟨by rfl, fun w hSw => ?_⟩; have c0 := Blk.cellv hSw 0 (.slice Al L.length cl) rfl; go_simp; (try with_reducible rfl)
  try simp only [Act.put, List.setIfInBounds_toArray, List.set_cons_zero, List.set_cons_succ]
  refine wpAnyH_take (i := 6) (oi := { dst := some 18, op := Op.call { callee := Callee.builtin Builtin.len, args := #[Operand.tmp 17], argTypes := #[60] }, type := 3, pos := "law.go:33", after := #[{ on := 5, ground := Ground.data }], guard := none }) (v := ?_) rfl (by kernel_rfl) (by kernel_rfl) (by kernel_rfl) (fun _ _ _ h => h) ?_ hHeld ?_
  rotate_left
  · refine Or.inl ⟨by rfl, fun w hSw => ?_⟩; skip; go_simp; (try with_reducible rfl)
  try simp only [Act.put, List.setIfInBounds_toArray, List.set_cons_zero, List.set_cons_succ]
  refine wpAnyH_ready (rs := [1]) (by kernel_rfl) (by simp) ?_
  refine AllReadyH.cons (o := { dst := some 13, op := Op.call { callee := Callee.value (Operand.func 21), args := #[Operand.tmp 12], argTypes := #[23] }, type := 3, pos := "law.go:33", after := #[{ on := 0, ground := Ground.data }], guard := none }) rfl (fun Kc hKc => ?_) AllReadyH.nil
  go_simp
  refine (two_len T1d).mono ?_
  rintro r wi ⟨rfl, rfl⟩
  refine hKc.out _ _ (hHeld) (fun hHeld => ?_)
  clear hKc Kc
  try simp only [Act.put, List.setIfInBounds_toArray, List.set_cons_zero, List.set_cons_succ]
  refine wpAnyH_take (i := 7) (oi := { dst := some 19, op := Op.binOp BinOp.neq 3 (Operand.tmp 13) (Operand.tmp 18) 3, type := 4, pos := "law.go:33", after := #[{ on := 1, ground := Ground.data }, { on := 6, ground := Ground.data }], guard := none }) (v := ?_) rfl (by kernel_rfl) (by kernel_rfl) (by kernel_rfl) (fun _ _ _ h => h) ?_ hHeld ?_
  rotate_left
  · refine Or.inl ⟨by rfl, fun w hSw => ?_⟩; skip; go_simp; (try with_reducible rfl)
  try simp only [Act.put, List.setIfInBounds_toArray, List.set_cons_zero, List.set_cons_succ]
  refine wpAnyH_take (i := 8) (oi := { dst := some 20, op := Op.move (Operand.tmp 19), type := 4, pos := "law.go:33", after := #[{ on := 7, ground := Ground.data }, { on := 1, ground := Ground.chain }], guard := none }) (v := ?_) rfl (by kernel_rfl) (by kernel_rfl) (by kernel_rfl) (fun _ _ _ h => h) ?_ hHeld ?_
  rotate_left
  · refine Or.inl ⟨by rfl, fun w hSw => ?_⟩; skip; go_simp; (try with_reducible rfl)
  try simp only [Act.put, List.setIfInBounds_toArray, List.set_cons_zero, List.set_cons_succ]
  refine wpAnyH_take (i := 9) (oi := { dst := some 21, op := Op.move (Operand.tmp 5), type := 46, pos := "law.go:33", after := #[{ on := 8, ground := Ground.guard }], guard := some (8, false) }) (v := ?_) rfl (by kernel_rfl) (by kernel_rfl) (by kernel_rfl) (fun _ _ _ h => h) ?_ hHeld ?_
  rotate_left
  · refine Or.inl ⟨by rfl, fun w hSw => ?_⟩; skip; go_simp; (try with_reducible rfl)
  try simp only [Act.put, List.setIfInBounds_toArray, List.set_cons_zero, List.set_cons_succ]
  refine wpAnyH_take (i := 10) (oi := { dst := some 22, op := Op.call { callee := Callee.builtin Builtin.len, args := #[Operand.tmp 21], argTypes := #[46] }, type := 3, pos := "law.go:33", after := #[{ on := 9, ground := Ground.data }, { on := 8, ground := Ground.guard }], guard := some (8, false) }) (v := ?_) rfl (by kernel_rfl) (by kernel_rfl) (by kernel_rfl) (fun _ _ _ h => h) ?_ hHeld ?_
  rotate_left
  · refine Or.inl ⟨by rfl, fun w hSw => ?_⟩; skip; go_simp; (try with_reducible rfl)
  try simp only [Act.put, List.setIfInBounds_toArray, List.set_cons_zero, List.set_cons_succ]
  refine wpAnyH_take (i := 11) (oi := { dst := some 23, op := Op.move (Operand.tmp 1), type := 25, pos := "law.go:33", after := #[{ on := 8, ground := Ground.guard }], guard := some (8, false) }) (v := ?_) rfl (by kernel_rfl) (by kernel_rfl) (by kernel_rfl) (fun _ _ _ h => h) ?_ hHeld ?_
  rotate_left
  · refine Or.inl ⟨by rfl, fun w hSw => ?_⟩; skip; go_simp; (try with_reducible rfl)
  try simp only [Act.put, List.setIfInBounds_toArray, List.set_cons_zero, List.set_cons_succ]
  refine wpAnyH_take (i := 12) (oi := { dst := some 24, op := Op.nilCheck (Operand.tmp 23), type := 0, pos := "law.go:33", after := #[{ on := 11, ground := Ground.data }, { on := 8, ground := Ground.guard }], guard := some (8, false) }) (v := ?_) rfl (by kernel_rfl) (by kernel_rfl) (by kernel_rfl) (fun _ _ _ h => h) ?_ hHeld ?_
  rotate_left
  · refine Or.inl ⟨by rfl, fun w hSw => ?_⟩; skip; go_simp; (try with_reducible rfl)
  try simp only [Act.put, List.setIfInBounds_toArray, List.set_cons_zero, List.set_cons_succ]
  refine wpAnyH_take (i := 13) (oi := { dst := some 25, op := Op.fieldAddr 63 (Operand.tmp 24) 1, type := 0, pos := "law.go:33", after := #[{ on := 12, ground := Ground.data }, { on := 8, ground := Ground.guard }], guard := some (8, false) }) (v := ?_) rfl (by kernel_rfl) (by kernel_rfl) (by kernel_rfl) (fun _ _ _ h => h) ?_ hHeld ?_
  rotate_left
  · refine Or.inl ⟨by rfl, fun w hSw => ?_⟩; skip; go_simp; (try with_reducible rfl)
  try simp only [Act.put, List.setIfInBounds_toArray, List.set_cons_zero, List.set_cons_succ]
  refine wpAnyH_take (i := 14) (oi := { dst := some 26, op := Op.load 61 (Operand.tmp 25), type := 61, pos := "law.go:33", after := #[{ on := 13, ground := Ground.data }, { on := 8, ground := Ground.guard }], guard := some (8, false) }) (v := ?_) rfl (by kernel_rfl) (by kernel_rfl) (by kernel_rfl) (fun _ _ _ h => h) ?_ hHeld ?_
  rotate_left
  · refine Or.inl ⟨by rfl, fun w hSw => ?_⟩; have c0 := Blk.cellv hSw 1 (.slice Aw W.length cw) rfl; go_simp; (try with_reducible rfl)
  try simp only [Act.put, List.setIfInBounds_toArray, List.set_cons_zero, List.set_cons_succ]
  refine wpAnyH_take (i := 15) (oi := { dst := some 27, op := Op.call { callee := Callee.builtin Builtin.len, args := #[Operand.tmp 26], argTypes := #[61] }, type := 3, pos := "law.go:33", after := #[{ on := 14, ground := Ground.data }, { on := 8, ground := Ground.guard }], guard := some (8, false) }) (v := ?_) rfl (by kernel_rfl) (by kernel_rfl) (by kernel_rfl) (fun _ _ _ h => h) ?_ hHeld ?_
  rotate_left
  · refine Or.inl ⟨by rfl, fun w hSw => ?_⟩; skip; go_simp; (try with_reducible rfl)
  try simp only [Act.put, List.setIfInBounds_toArray, List.set_cons_zero, List.set_cons_succ]
  refine wpAnyH_take (i := 16) (oi := { dst := some 28, op := Op.binOp BinOp.neq 3 (Operand.tmp 22) (Operand.tmp 27) 3, type := 4, pos := "law.go:33", after := #[{ on := 10, ground := Ground.data }, { on := 15, ground := Ground.data }, { on := 8, ground := Ground.guard }], guard := some (8, false) }) (v := ?_) rfl (by kernel_rfl) (by kernel_rfl) (by kernel_rfl) (fun _ _ _ h => h) ?_ hHeld ?_
  rotate_left
  · refine Or.inl ⟨by rfl, fun w hSw => ?_⟩; skip; go_simp; (try with_reducible rfl)
  try simp only [Act.put, List.setIfInBounds_toArray, List.set_cons_zero, List.set_cons_succ]
  refine wpAnyH_take (i := 17) (oi := { dst := some 29, op := Op.pick (Operand.tmp 20) (Operand.const (Value.bool true)) (Operand.tmp 28), type := 4, pos := "law.go:33", after := #[{ on := 8, ground := Ground.data }, { on := 16, ground := Ground.data }], guard := none }) (v := ?_) rfl (by kernel_rfl) (by kernel_rfl) (by kernel_rfl) (fun _ _ _ h => h) ?_ hHeld ?_
  rotate_left
  · refine Or.inl ⟨by rfl, fun w hSw => ?_⟩; skip; go_simp; (try with_reducible rfl)
  try simp only [Act.put, List.setIfInBounds_toArray, List.set_cons_zero, List.set_cons_succ]
  refine wpAnyH_done (by kernel_rfl) ?_ _
  clear qn1 qn2
  go_wp2_with fail
  go_loopw [6] (fun i wr => ∃ j : Nat, j ≤ W.length ∧ i = .int .i64 j ∧ Below w1.heap.size w1 wr) (fun i _ => W.length - (intOf i).toNat)
  case atStart => exact ⟨0, by omega, rfl, b1d⟩
  case round =>
    clear T1d b1d hHeld
    obtain ⟨j, hj, rfl, HB⟩ := hrel
    obtain ⟨wo, rfl⟩ : ∃ wo : World, wo = wr := ⟨_, rfl⟩
    by_cases hlt : j < W.length
    · have hq : decide ((j : Int) < (W.length : Int)) = true := by simp; omega
      have hq2 : (j : Int) < (W.length : Int) := by omega
      obtain ⟨x, hx⟩ : ∃ x, W[j]? = some x := ⟨_, List.getElem?_eq_getElem hlt⟩
      obtain ⟨gi, oi, y, hA1, hy, hyc⟩ := RW.at_ j hlt
      rw [bks_at hx] at hy
      injection hy with hy
      subst hy
      obtain ⟨gq, hAw, hqc⟩ := hcells'.out j x hx
      subst hA1 hAw
      have c0 := bl_cell HB (hyc 0 _ rfl)
      rw [Nat.mul_one, Nat.add_zero] at c0
      have c1 := (DX.below HB).cellv 1 (.slice (some ⟨gq, 0, none⟩) W.length cw) rfl
      have c2 := bl_cell HB hqc
      have q1 : ((x.b : Int) != (x.b : Int)) = false := by simp
      clear hx hyc hqc
      go_wp2_with fail
      go_quiet (fail)
      go_wp2_with fail
      go_roundw
      case rel => exact ⟨j + 1, by omega, by go_num, bl_drewN HB _⟩
      case measure => first | (simp [intOf]; done) | (simp [intOf]; omega)
    · obtain rfl : j = W.length := by omega
      have hq : decide ((W.length : Int) < (W.length : Int)) = false := by simp
      have HB0 := HB
      go_wp2_with fail
      go_loopw [7] (fun i wr => ∃ j : Nat, j ≤ L.length ∧ i = .int .i64 j ∧ Below w1.heap.size w1 wr) (fun i _ => L.length - (intOf i).toNat)
      case atStart => exact ⟨0, by omega, rfl, HB0⟩
      case round =>
        clear HB HB0
        obtain ⟨j, hj, rfl, HB⟩ := hrel
        obtain ⟨wl, rfl⟩ : ∃ wl : World, wl = wr := ⟨_, rfl⟩
        have T2 := T1.below HB
        go_wp2_with fail
        refine (two_len T2).mono ?_
        rintro r w3 ⟨rfl, rfl⟩
        by_cases hlt : j < L.length
        · have hq : decide ((j : Int) < (L.length : Int)) = true := by simp; omega
          go_wp2_with fail
          refine (two_read T2 j hlt (by omega) (by omega)).mono ?_
          rintro r w4 ⟨rfl, b4⟩
          have T4 := T2.below b4
          have HB4 := bl_then HB b4
          have hrr := Lib.hid (fun w' (h : Two w0 R w' gd gx L W L W) => two_rread h j hlt (by omega) (by omega))
          generalize DiskMath.read L W j = v at *
          go_upto_region 13 with (first
            | ((with_reducible refine wl_alloc rfl 34 rfl (bc zb) DiskR.new_d ?_); intro w5 k5 b5 s5)
            | ((refine wl_store rfl 34 (.tmp 8) (.tmp 59) rfl w4.heap.size rfl (bc v) rfl 34 (bc zb) k5 (sz_bc v) (by rw [bc_size, bc_size]) (bc_one v) ?_); intro w6 k6 g6 s6))
          have b6 := below_grown b5 b5.size g6 (Nat.le_refl _)
          have b6 := bl_drew b6
          have T6 := T4.below b6
          have HB6 := bl_then HB4 b6
          obtain ⟨gb, hgb⟩ : ∃ gb, gb = w4.heap.size := ⟨_, rfl⟩
          rw [← hgb] at k6 ⊢
          clear k5 b5 g6 b6 T4 HB4 hgb
          refine wp_region_held_drew (S := (fun w' => Blk w' gb 34 (bc v))) (by kernel_rfl) (k6.drew) (fun hHeld => ?_)
          refine wpAnyH_take (i := 0) (oi := { dst := some 61, op := Op.move (Operand.tmp 9), type := 4, pos := "law.go:43", after := #[], guard := none }) (v := ?_) rfl (by kernel_rfl) (by kernel_rfl) (by kernel_rfl) (fun _ _ _ h => h) ?_ hHeld ?_
          rotate_left
          · refine Or.inl ⟨by rfl, fun w hSw => ?_⟩; skip; go_simp; (try with_reducible rfl)
          try simp only [Act.put, List.setIfInBounds_toArray, List.set_cons_zero, List.set_cons_succ]
          refine wpAnyH_take (i := 1) (oi := { dst := some 62, op := Op.unOp UnOp.not 4 (Operand.tmp 61), type := 4, pos := "law.go:43", after := #[{ on := 0, ground := Ground.data }], guard := none }) (v := ?_) rfl (by kernel_rfl) (by kernel_rfl) (by kernel_rfl) (fun _ _ _ h => h) ?_ hHeld ?_
          rotate_left
          · refine Or.inl ⟨by rfl, fun w hSw => ?_⟩; skip; go_simp; (try with_reducible rfl)
          try simp only [Act.put, List.setIfInBounds_toArray, List.set_cons_zero, List.set_cons_succ]
          refine wpAnyH_take (i := 2) (oi := { dst := some 63, op := Op.move (Operand.tmp 62), type := 4, pos := "law.go:43", after := #[{ on := 1, ground := Ground.data }], guard := none }) (v := ?_) rfl (by kernel_rfl) (by kernel_rfl) (by kernel_rfl) (fun _ _ _ h => h) ?_ hHeld ?_
          rotate_left
          · refine Or.inl ⟨by rfl, fun w hSw => ?_⟩; skip; go_simp; (try with_reducible rfl)
          try simp only [Act.put, List.setIfInBounds_toArray, List.set_cons_zero, List.set_cons_succ]
          refine wpAnyH_take (i := 3) (oi := { dst := some 64, op := Op.load 34 (Operand.tmp 8), type := 34, pos := "law.go:43", after := #[{ on := 2, ground := Ground.guard }], guard := some (2, false) }) (v := ?_) rfl (by kernel_rfl) (by kernel_rfl) (by kernel_rfl) (fun _ _ _ h => h) ?_ hHeld ?_
          rotate_left
          · refine yIf_load 34 (.tmp 8) gb 34 (bc v) _ ?_ Try.underlying34 rfl (sz_bc v) ?_ ?_ ?_
            · exact fun _ h => h
            · rfl
            · rfl
            · rfl
          try simp only [Act.put, List.setIfInBounds_toArray, List.set_cons_zero, List.set_cons_succ]
          refine wpAnyH_take (i := 4) (oi := { dst := some 65, op := Op.move (Operand.tmp 1), type := 25, pos := "law.go:43", after := #[{ on := 2, ground := Ground.guard }], guard := some (2, false) }) (v := ?_) rfl (by kernel_rfl) (by kernel_rfl) (by kernel_rfl) (fun _ _ _ h => h) ?_ hHeld ?_
          rotate_left
          · refine Or.inl ⟨by rfl, fun w hSw => ?_⟩; skip; go_simp; (try with_reducible rfl)
          try simp only [Act.put, List.setIfInBounds_toArray, List.set_cons_zero, List.set_cons_succ]
          refine wpAnyH_take (i := 5) (oi := { dst := some 66, op := Op.move (Operand.tmp 7), type := 3, pos := "law.go:43", after := #[{ on := 2, ground := Ground.guard }], guard := some (2, false) }) (v := ?_) rfl (by kernel_rfl) (by kernel_rfl) (by kernel_rfl) (fun _ _ _ h => h) ?_ hHeld ?_
          rotate_left
          · refine Or.inl ⟨by rfl, fun w hSw => ?_⟩; skip; go_simp; (try with_reducible rfl)
          try simp only [Act.put, List.setIfInBounds_toArray, List.set_cons_zero, List.set_cons_succ]
          refine wpAnyH_ready (rs := [6]) (by kernel_rfl) (by simp) ?_
          refine AllReadyH.cons (o := { dst := some 67, op := Op.call { callee := Callee.value (Operand.func 26), args := #[Operand.tmp 65, Operand.tmp 66], argTypes := #[25, 3] }, type := 33, pos := "law.go:43", after := #[{ on := 4, ground := Ground.data }, { on := 5, ground := Ground.data }, { on := 2, ground := Ground.chain }, { on := 2, ground := Ground.guard }], guard := some (2, false) }) rfl (fun Kc hKc => ?_) AllReadyH.nil
          go_simp
          refine (hrr.out _ T6).mono ?_
          rintro r wa ⟨rfl, ba⟩
          have HB6 := bl_then HB6 ba
          refine hKc.out _ _ (Blk.below hHeld ba) (fun hHeld => ?_)
          clear hKc Kc
          try simp only [Act.put, List.setIfInBounds_toArray, List.set_cons_zero, List.set_cons_succ]
          refine wpAnyH_take (i := 7) (oi := { dst := some 68, op := Op.binOp BinOp.neq 34 (Operand.tmp 64) (Operand.tmp 67) 34, type := 4, pos := "law.go:43", after := #[{ on := 3, ground := Ground.data }, { on := 6, ground := Ground.data }, { on := 2, ground := Ground.guard }], guard := some (2, false) }) (v := ?_) rfl (by kernel_rfl) (by kernel_rfl) (by kernel_rfl) (fun _ _ _ h => h) ?_ hHeld ?_
          rotate_left
          · refine yIf_neq 34 (.tmp 64) (.tmp 67) 34 (bc v) (bc v) (by kernel_rfl) true (fun w => by rw [eq_d]; simp) ?_ ?_ ?_ ?_
            · rfl
            · rfl
            · rfl
            · rfl
          try simp only [Act.put, List.setIfInBounds_toArray, List.set_cons_zero, List.set_cons_succ]
          refine wpAnyH_take (i := 8) (oi := { dst := some 69, op := Op.pick (Operand.tmp 63) (Operand.const (Value.bool true)) (Operand.tmp 68), type := 4, pos := "law.go:43", after := #[{ on := 2, ground := Ground.data }, { on := 7, ground := Ground.data }], guard := none }) (v := ?_) rfl (by kernel_rfl) (by kernel_rfl) (by kernel_rfl) (fun _ _ _ h => h) ?_ hHeld ?_
          rotate_left
          · refine Or.inl ⟨by rfl, fun w hSw => ?_⟩; skip; go_simp; (try with_reducible rfl)
          try simp only [Act.put, List.setIfInBounds_toArray, List.set_cons_zero, List.set_cons_succ]
          refine wpAnyH_done (by kernel_rfl) ?_ _
          go_wp2_with fail
          go_roundw
          case rel => exact ⟨j + 1, by omega, by go_num, HB6⟩
          case measure => first | (simp [intOf]; done) | (simp [intOf]; omega)
        · obtain rfl : j = L.length := by omega
          have hq : decide ((L.length : Int) < (L.length : Int)) = false := by simp
          go_wp2_with fail
          go_ret
          exact ⟨rfl, bl_then HB1 HB⟩
end Go.Proofs.Ythihpejhhimkaaa.DiskX
