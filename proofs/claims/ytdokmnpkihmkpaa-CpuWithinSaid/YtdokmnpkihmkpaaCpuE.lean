/- Contract of package cpu's do, in every way. -/
import Derived.Test.YtdokmnpkihmkpaaCpuD
set_option linter.unusedVariables false
namespace Go.Proofs.Ytdokmnpkihmkpaa.CpuE
open Go.RowKit Go.Proofs.Ytdokmnpkihmkpaa.Base Go.Proofs.Ytdokmnpkihmkpaa.Row Go.Proofs.Ytdokmnpkihmkpaa.App Go.Proofs.Ytdokmnpkihmkpaa.Multi Go.Proofs.Ytdokmnpkihmkpaa.StEq Go.Proofs.Ytdokmnpkihmkpaa.Held Go.Proofs.Ytdokmnpkihmkpaa.Out Go.Proofs.Ytdokmnpkihmkpaa.HeldW Go.Proofs.Ytdokmnpkihmkpaa.HeldX Go.Proofs.Ytdokmnpkihmkpaa.Once Go.Proofs.Ytdokmnpkihmkpaa.Isa Go.Proofs.Ytdokmnpkihmkpaa.Isa2 Go.Proofs.Ytdokmnpkihmkpaa.Isa3 Go.Proofs.Ytdokmnpkihmkpaa.TlbMath Go.Proofs.Ytdokmnpkihmkpaa.Tlb Go.Proofs.Ytdokmnpkihmkpaa.Tlb3 Go.Proofs.Ytdokmnpkihmkpaa.Frames Go.Proofs.Ytdokmnpkihmkpaa.Frames2 Go.Proofs.Ytdokmnpkihmkpaa.Frames4 Go.Proofs.Ytdokmnpkihmkpaa.Cpu Go.Proofs.Ytdokmnpkihmkpaa.Cpu2 Go.Proofs.Ytdokmnpkihmkpaa.Cpu3 Go.Proofs.Ytdokmnpkihmkpaa.Cpu4 Go.Proofs.Ytdokmnpkihmkpaa.Cpu5 Go.Proofs.Ytdokmnpkihmkpaa.CpuA Go.Proofs.Ytdokmnpkihmkpaa.CpuB Go.Proofs.Ytdokmnpkihmkpaa.CpuC Go.Proofs.Ytdokmnpkihmkpaa.CpuD

theorem ds_len {d : Dn} {i : Nat} {v : Int} (h : d.R.length = 16) : (dset d i v).R.length = 16 := by
  show (d.R.set i v).length = 16
  rw [List.length_set]; exact h
set_option maxRecDepth 100000 in
set_option maxHeartbeats 4000000 in
theorem do_1 (g x gm gp gt n ra rb : Nat) (d : Dn) (X : List Int) (l : List En) (m im : Int) (w : World) (HD : Blk w g 140 (dg x d)) (C : CS w x gm gp gt n X l m) (hl : l.length ≤ 8) (hR : d.R.length = 16) (hr : ∀ i : Nat, 0 ≤ d.R[i]?.getD 0 ∧ d.R[i]?.getD 0 < 4294967296) (hX : ∀ i : Nat, 0 ≤ X[i]?.getD 0 ∧ X[i]?.getD 0 < 4294967296) (ha : ra < 16) (hb : rb < 16) (ht : d.tc = 0) (p0 : 0 ≤ d.pc) (p1 : d.pc < 4294967296) :
    Calls Try.prog 72 #[.pointer (some ⟨g, 0, none⟩), .agg (ins 1 ra rb im)] w fun r w' => IsU r ∧ St g x gm gp gt n d X l w w' := by
  obtain ⟨rv, hrv⟩ : ∃ rv, d.R[rb]?.getD 0 = rv := ⟨_, rfl⟩
  obtain ⟨rav, hrav⟩ : ∃ rav, d.R[ra]?.getD 0 = rav := ⟨_, rfl⟩
  obtain ⟨v0, v1⟩ : 0 ≤ rv ∧ rv < 4294967296 := by rw [← hrv]; exact hr _
  obtain ⟨u0, u1⟩ : 0 ≤ rav ∧ rav < 4294967296 := by rw [← hrav]; exact hr _
  obtain ⟨i2, hw1⟩ : ∃ i2, IntKind.u32.wrap im = i2 := ⟨_, rfl⟩
  obtain ⟨i20, i21⟩ : 0 ≤ i2 ∧ i2 < 4294967296 := by rw [← hw1]; exact u32_rng _
  replace hw1 := Lib.hid hw1
  have hrb := dg_reg x d hR rb hb
  rw [hrv] at hrb
  replace hrb := Lib.hid hrb
  have hra := dg_reg x d hR ra ha
  rw [hrav] at hra
  replace hra := Lib.hid hra
  have hsz := dg_size x d hR
  have hb' : (rb : Int) < 16 := by omega
  have ha' : (ra : Int) < 16 := by omega
  have e18 : Hid ((dg x d)[18]? = some (.int .u32 d.pc)) := Lib.hid (by rw [show 18 = 18 + 0 from rfl, dg_rest x d hR 0]; rfl)
  have CH := Lib.hid C
  obtain ⟨ngx, ngm, ngp, ngt⟩ := C.ne_ HD
  have zg := HD.lt
  have zgt := C.lt.2.2.2
  have zgp := C.lt.2.2.1
  clear C hr hX hrv hrav
  go_enter Try.func72, Try.ntmps72
  go_upto_region 1 with ((with_reducible refine wl_box rfl 94 _ rfl (ins 1 ra rb im) rfl ?_); intro w1 k1 b1 s1)
  have HD := HD.below b1
  have C1 := CH.out.below b1
  have O := Out.of_below b1 (fun i => i = g ∨ i = gt ∨ i = gp)
  have z1 := k1.lt
  have c18 : w1.cell? ⟨g, 18, none⟩ = some (.int .u32 d.pc) := HD.cellv 18 _ e18.out
  have i0 : w1.cell? ⟨w.heap.size, 0, none⟩ = some (.int .i64 1) := k1.cellv 0 _ rfl
  clear b1 CH
  go_upto_region 6 with fail
  clear c18 i0
  have HD := HD.drew
  have C1 := C1.below (bl_drew (bl_refl w1))
  have O := O.trans (Out.of_below (bl_drew (bl_refl w1)) (fun i => i = g ∨ i = gt ∨ i = gp)) (fun i h => .inl h)
  refine wp_region_held_drew (S := (fun w' => Blk w' w.heap.size 94 (ins 1 ra rb im))) (by kernel_rfl) (k1.drew) (fun hHeld => ?_)
  refine wpAnyH_take (i := 0) (oi := { dst := some 43, op := Op.move (Operand.tmp 5), type := 150, pos := "cpu.go:141", after := #[], guard := none }) (v := ?_) rfl (by kernel_rfl) (by kernel_rfl) (by kernel_rfl) (fun _ _ _ h => h) ?_ hHeld ?_
  rotate_left
  · refine Or.inl ⟨by rfl, fun w hSw => ?_⟩; skip; go_simp; (try with_reducible rfl)
  try simp only [Act.put, List.setIfInBounds_toArray, List.set_cons_zero, List.set_cons_succ]
  refine wpAnyH_take (i := 1) (oi := { dst := some 44, op := Op.fieldAddr 94 (Operand.tmp 3) 1, type := 0, pos := "cpu.go:141", after := #[], guard := none }) (v := ?_) rfl (by kernel_rfl) (by kernel_rfl) (by kernel_rfl) (fun _ _ _ h => h) ?_ hHeld ?_
  rotate_left
  · refine Or.inl ⟨by rfl, fun w hSw => ?_⟩; skip; go_simp; (try with_reducible rfl)
  try simp only [Act.put, List.setIfInBounds_toArray, List.set_cons_zero, List.set_cons_succ]
  refine wpAnyH_take (i := 2) (oi := { dst := some 45, op := Op.load 3 (Operand.tmp 44), type := 3, pos := "cpu.go:141", after := #[{ on := 1, ground := Ground.data }], guard := none }) (v := ?_) rfl (by kernel_rfl) (by kernel_rfl) (by kernel_rfl) (fun _ _ _ h => h) ?_ hHeld ?_
  rotate_left
  · refine Or.inl ⟨by rfl, fun w' hSw => ?_⟩; have c0 : w'.cell? ⟨w.heap.size, 1, none⟩ = some (.int .i64 ra) := Blk.cellv hSw 1 _ rfl; go_simp; (try with_reducible rfl)
  try simp only [Act.put, List.setIfInBounds_toArray, List.set_cons_zero, List.set_cons_succ]
  refine wpAnyH_take (i := 3) (oi := { dst := some 46, op := Op.fieldAddr 94 (Operand.tmp 3) 3, type := 0, pos := "cpu.go:141", after := #[], guard := none }) (v := ?_) rfl (by kernel_rfl) (by kernel_rfl) (by kernel_rfl) (fun _ _ _ h => h) ?_ hHeld ?_
  rotate_left
  · refine Or.inl ⟨by rfl, fun w hSw => ?_⟩; skip; go_simp; (try with_reducible rfl)
  try simp only [Act.put, List.setIfInBounds_toArray, List.set_cons_zero, List.set_cons_succ]
  refine wpAnyH_take (i := 4) (oi := { dst := some 47, op := Op.load 3 (Operand.tmp 46), type := 3, pos := "cpu.go:141", after := #[{ on := 3, ground := Ground.data }], guard := none }) (v := ?_) rfl (by kernel_rfl) (by kernel_rfl) (by kernel_rfl) (fun _ _ _ h => h) ?_ hHeld ?_
  rotate_left
  · refine Or.inl ⟨by rfl, fun w' hSw => ?_⟩; have c0 : w'.cell? ⟨w.heap.size, 3, none⟩ = some (.int .i64 im) := Blk.cellv hSw 3 _ rfl; go_simp; (try with_reducible rfl)
  try simp only [Act.put, List.setIfInBounds_toArray, List.set_cons_zero, List.set_cons_succ]
  refine wpAnyH_take (i := 5) (oi := { dst := some 48, op := Op.convert 3 28 (Operand.tmp 47), type := 28, pos := "cpu.go:141", after := #[{ on := 4, ground := Ground.data }], guard := none }) (v := ?_) rfl (by kernel_rfl) (by kernel_rfl) (by kernel_rfl) (fun _ _ _ h => h) ?_ hHeld ?_
  rotate_left
  · refine Or.inl ⟨by rfl, fun w hSw => ?_⟩; have c0 := hw1.out; go_simp; (try with_reducible rfl)
  try simp only [Act.put, List.setIfInBounds_toArray, List.set_cons_zero, List.set_cons_succ]
  refine wpAnyH_take (i := 6) (oi := { dst := some 49, op := Op.nilCheck (Operand.tmp 43), type := 0, pos := "cpu.go:141", after := #[{ on := 0, ground := Ground.data }], guard := none }) (v := ?_) rfl (by kernel_rfl) (by kernel_rfl) (by kernel_rfl) (fun _ _ _ h => h) ?_ hHeld ?_
  rotate_left
  · refine Or.inl ⟨by rfl, fun w hSw => ?_⟩; skip; go_simp; (try with_reducible rfl)
  try simp only [Act.put, List.setIfInBounds_toArray, List.set_cons_zero, List.set_cons_succ]
  refine wpAnyH_take (i := 7) (oi := { dst := some 50, op := Op.fieldAddr 109 (Operand.tmp 49) 0, type := 0, pos := "cpu.go:141", after := #[{ on := 6, ground := Ground.data }], guard := none }) (v := ?_) rfl (by kernel_rfl) (by kernel_rfl) (by kernel_rfl) (fun _ _ _ h => h) ?_ hHeld ?_
  rotate_left
  · refine Or.inl ⟨by rfl, fun w hSw => ?_⟩; skip; go_simp; (try with_reducible rfl)
  try simp only [Act.put, List.setIfInBounds_toArray, List.set_cons_zero, List.set_cons_succ]
  refine wpAnyH_take (i := 8) (oi := { dst := some 51, op := Op.indexAddr 39 (Operand.tmp 50) (Operand.tmp 45), type := 0, pos := "cpu.go:141", after := #[{ on := 7, ground := Ground.data }, { on := 2, ground := Ground.data }, { on := 0, ground := Ground.phase }, { on := 1, ground := Ground.phase }, { on := 2, ground := Ground.phase }, { on := 3, ground := Ground.phase }, { on := 4, ground := Ground.phase }, { on := 5, ground := Ground.phase }], guard := none }) (v := ?_) rfl (by kernel_rfl) (by kernel_rfl) (by kernel_rfl) (fun _ _ _ h => h) ?_ hHeld ?_
  rotate_left
  · refine Or.inl ⟨by rfl, fun w hSw => ?_⟩; skip; go_simp; (try with_reducible rfl)
  try simp only [Act.put, List.setIfInBounds_toArray, List.set_cons_zero, List.set_cons_succ]
  refine wpAnyH_ready (rs := [9]) (by kernel_rfl) (by simp) ?_
  refine AllReadyH.cons (o := { dst := none, op := Op.store 28 (Operand.tmp 51) (Operand.tmp 48), type := 0, pos := "cpu.go:141", after := #[{ on := 8, ground := Ground.data }, { on := 5, ground := Ground.data }, { on := 0, ground := Ground.phase }, { on := 1, ground := Ground.phase }, { on := 2, ground := Ground.phase }, { on := 3, ground := Ground.phase }, { on := 4, ground := Ground.phase }, { on := 5, ground := Ground.phase }], guard := none }) rfl (fun Kc hKc => ?_) AllReadyH.nil
  refine step_of (by rfl) (wp_set 28 (.tmp 51) (.tmp 48) (by rfl) g (2 + ra) (by rfl) (.int .u32 _) rfl (by rfl) 140 (dg x _) HD size_u32' (by rw [hsz]; omega) ?_)
  intro wS kS gS sS
  rw [dg_set x _ hR ra (by omega)] at kS
  have OS := Out.of_grown gS (S := fun i => i = g) (fun k e => by injection e with e; exact e.symm)
  refine hKc.out _ _ (Out.Blk.out hHeld OS (fun h => by omega)) (fun hHeld => ?_)
  clear hKc Kc
  try simp only [Act.put]
  refine wpAnyH_done (by kernel_rfl) ?_ _
  have C2 := C1.out OS ngx.symm ngm.symm ngp.symm ngt.symm
  have O2 := O.trans OS (fun i h => .inl (.inl h))
  clear hHeld OS
  go_wp2_with fail
  go_ret
  exact ⟨⟨_, rfl⟩, _, X, m, kS, ds_len hR, C2, O2, .inl rfl⟩

set_option maxRecDepth 100000 in
set_option maxHeartbeats 4000000 in
theorem do_2 (g x gm gp gt n ra rb : Nat) (d : Dn) (X : List Int) (l : List En) (m im : Int) (w : World) (HD : Blk w g 140 (dg x d)) (C : CS w x gm gp gt n X l m) (hl : l.length ≤ 8) (hR : d.R.length = 16) (hr : ∀ i : Nat, 0 ≤ d.R[i]?.getD 0 ∧ d.R[i]?.getD 0 < 4294967296) (hX : ∀ i : Nat, 0 ≤ X[i]?.getD 0 ∧ X[i]?.getD 0 < 4294967296) (ha : ra < 16) (hb : rb < 16) (ht : d.tc = 0) (p0 : 0 ≤ d.pc) (p1 : d.pc < 4294967296) :
    Calls Try.prog 72 #[.pointer (some ⟨g, 0, none⟩), .agg (ins 2 ra rb im)] w fun r w' => IsU r ∧ St g x gm gp gt n d X l w w' := by
  obtain ⟨rv, hrv⟩ : ∃ rv, d.R[rb]?.getD 0 = rv := ⟨_, rfl⟩
  obtain ⟨rav, hrav⟩ : ∃ rav, d.R[ra]?.getD 0 = rav := ⟨_, rfl⟩
  obtain ⟨v0, v1⟩ : 0 ≤ rv ∧ rv < 4294967296 := by rw [← hrv]; exact hr _
  obtain ⟨u0, u1⟩ : 0 ≤ rav ∧ rav < 4294967296 := by rw [← hrav]; exact hr _
  obtain ⟨i2, hw1⟩ : ∃ i2, IntKind.u32.wrap im = i2 := ⟨_, rfl⟩
  obtain ⟨i20, i21⟩ : 0 ≤ i2 ∧ i2 < 4294967296 := by rw [← hw1]; exact u32_rng _
  replace hw1 := Lib.hid hw1
  have hrb := dg_reg x d hR rb hb
  rw [hrv] at hrb
  replace hrb := Lib.hid hrb
  have hra := dg_reg x d hR ra ha
  rw [hrav] at hra
  replace hra := Lib.hid hra
  have hsz := dg_size x d hR
  have hb' : (rb : Int) < 16 := by omega
  have ha' : (ra : Int) < 16 := by omega
  have e18 : Hid ((dg x d)[18]? = some (.int .u32 d.pc)) := Lib.hid (by rw [show 18 = 18 + 0 from rfl, dg_rest x d hR 0]; rfl)
  have CH := Lib.hid C
  obtain ⟨ngx, ngm, ngp, ngt⟩ := C.ne_ HD
  have zg := HD.lt
  have zgt := C.lt.2.2.2
  have zgp := C.lt.2.2.1
  clear C hr hX hrv hrav
  go_enter Try.func72, Try.ntmps72
  go_upto_region 1 with ((with_reducible refine wl_box rfl 94 _ rfl (ins 2 ra rb im) rfl ?_); intro w1 k1 b1 s1)
  have HD := HD.below b1
  have C1 := CH.out.below b1
  have O := Out.of_below b1 (fun i => i = g ∨ i = gt ∨ i = gp)
  have z1 := k1.lt
  have c18 : w1.cell? ⟨g, 18, none⟩ = some (.int .u32 d.pc) := HD.cellv 18 _ e18.out
  have i0 : w1.cell? ⟨w.heap.size, 0, none⟩ = some (.int .i64 2) := k1.cellv 0 _ rfl
  clear b1 CH
  go_upto_region 8 with fail
  clear c18 i0
  have HD := HD.drew
  have C1 := C1.below (bl_drew (bl_refl w1))
  have O := O.trans (Out.of_below (bl_drew (bl_refl w1)) (fun i => i = g ∨ i = gt ∨ i = gp)) (fun i h => .inl h)
  refine wp_region_held_drew (S := (fun w' => Blk w' w.heap.size 94 (ins 2 ra rb im))) (by kernel_rfl) (k1.drew) (fun hHeld => ?_)
  refine wpAnyH_take (i := 0) (oi := { dst := some 54, op := Op.move (Operand.tmp 5), type := 150, pos := "cpu.go:143", after := #[], guard := none }) (v := ?_) rfl (by kernel_rfl) (by kernel_rfl) (by kernel_rfl) (fun _ _ _ h => h) ?_ hHeld ?_
  rotate_left
  · refine Or.inl ⟨by rfl, fun w hSw => ?_⟩; skip; go_simp; (try with_reducible rfl)
  try simp only [Act.put, List.setIfInBounds_toArray, List.set_cons_zero, List.set_cons_succ]
  refine wpAnyH_take (i := 1) (oi := { dst := some 55, op := Op.fieldAddr 94 (Operand.tmp 3) 1, type := 0, pos := "cpu.go:143", after := #[], guard := none }) (v := ?_) rfl (by kernel_rfl) (by kernel_rfl) (by kernel_rfl) (fun _ _ _ h => h) ?_ hHeld ?_
  rotate_left
  · refine Or.inl ⟨by rfl, fun w hSw => ?_⟩; skip; go_simp; (try with_reducible rfl)
  try simp only [Act.put, List.setIfInBounds_toArray, List.set_cons_zero, List.set_cons_succ]
  refine wpAnyH_take (i := 2) (oi := { dst := some 56, op := Op.load 3 (Operand.tmp 55), type := 3, pos := "cpu.go:143", after := #[{ on := 1, ground := Ground.data }], guard := none }) (v := ?_) rfl (by kernel_rfl) (by kernel_rfl) (by kernel_rfl) (fun _ _ _ h => h) ?_ hHeld ?_
  rotate_left
  · refine Or.inl ⟨by rfl, fun w' hSw => ?_⟩; have c0 : w'.cell? ⟨w.heap.size, 1, none⟩ = some (.int .i64 ra) := Blk.cellv hSw 1 _ rfl; go_simp; (try with_reducible rfl)
  try simp only [Act.put, List.setIfInBounds_toArray, List.set_cons_zero, List.set_cons_succ]
  refine wpAnyH_take (i := 3) (oi := { dst := some 57, op := Op.fieldAddr 94 (Operand.tmp 3) 3, type := 0, pos := "cpu.go:143", after := #[], guard := none }) (v := ?_) rfl (by kernel_rfl) (by kernel_rfl) (by kernel_rfl) (fun _ _ _ h => h) ?_ hHeld ?_
  rotate_left
  · refine Or.inl ⟨by rfl, fun w hSw => ?_⟩; skip; go_simp; (try with_reducible rfl)
  try simp only [Act.put, List.setIfInBounds_toArray, List.set_cons_zero, List.set_cons_succ]
  refine wpAnyH_take (i := 4) (oi := { dst := some 58, op := Op.load 3 (Operand.tmp 57), type := 3, pos := "cpu.go:143", after := #[{ on := 3, ground := Ground.data }], guard := none }) (v := ?_) rfl (by kernel_rfl) (by kernel_rfl) (by kernel_rfl) (fun _ _ _ h => h) ?_ hHeld ?_
  rotate_left
  · refine Or.inl ⟨by rfl, fun w' hSw => ?_⟩; have c0 : w'.cell? ⟨w.heap.size, 3, none⟩ = some (.int .i64 im) := Blk.cellv hSw 3 _ rfl; go_simp; (try with_reducible rfl)
  try simp only [Act.put, List.setIfInBounds_toArray, List.set_cons_zero, List.set_cons_succ]
  refine wpAnyH_take (i := 5) (oi := { dst := some 59, op := Op.convert 3 28 (Operand.tmp 58), type := 28, pos := "cpu.go:143", after := #[{ on := 4, ground := Ground.data }], guard := none }) (v := ?_) rfl (by kernel_rfl) (by kernel_rfl) (by kernel_rfl) (fun _ _ _ h => h) ?_ hHeld ?_
  rotate_left
  · refine Or.inl ⟨by rfl, fun w hSw => ?_⟩; have c0 := hw1.out; go_simp; (try with_reducible rfl)
  try simp only [Act.put, List.setIfInBounds_toArray, List.set_cons_zero, List.set_cons_succ]
  refine wpAnyH_take (i := 6) (oi := { dst := some 60, op := Op.binOp BinOp.shl 28 (Operand.tmp 59) (Operand.const (Value.int IntKind.u64 16)) 132, type := 28, pos := "cpu.go:143", after := #[{ on := 5, ground := Ground.data }], guard := none }) (v := ?_) rfl (by kernel_rfl) (by kernel_rfl) (by kernel_rfl) (fun _ _ _ h => h) ?_ hHeld ?_
  rotate_left
  · refine Or.inl ⟨by rfl, fun w hSw => ?_⟩; skip; go_simp; (try with_reducible rfl)
  try simp only [Act.put, List.setIfInBounds_toArray, List.set_cons_zero, List.set_cons_succ]
  refine wpAnyH_take (i := 7) (oi := { dst := some 61, op := Op.move (Operand.tmp 5), type := 150, pos := "cpu.go:143", after := #[], guard := none }) (v := ?_) rfl (by kernel_rfl) (by kernel_rfl) (by kernel_rfl) (fun _ _ _ h => h) ?_ hHeld ?_
  rotate_left
  · refine Or.inl ⟨by rfl, fun w hSw => ?_⟩; skip; go_simp; (try with_reducible rfl)
  try simp only [Act.put, List.setIfInBounds_toArray, List.set_cons_zero, List.set_cons_succ]
  refine wpAnyH_take (i := 8) (oi := { dst := some 62, op := Op.fieldAddr 94 (Operand.tmp 3) 1, type := 0, pos := "cpu.go:143", after := #[], guard := none }) (v := ?_) rfl (by kernel_rfl) (by kernel_rfl) (by kernel_rfl) (fun _ _ _ h => h) ?_ hHeld ?_
  rotate_left
  · refine Or.inl ⟨by rfl, fun w hSw => ?_⟩; skip; go_simp; (try with_reducible rfl)
  try simp only [Act.put, List.setIfInBounds_toArray, List.set_cons_zero, List.set_cons_succ]
  refine wpAnyH_take (i := 9) (oi := { dst := some 63, op := Op.load 3 (Operand.tmp 62), type := 3, pos := "cpu.go:143", after := #[{ on := 8, ground := Ground.data }], guard := none }) (v := ?_) rfl (by kernel_rfl) (by kernel_rfl) (by kernel_rfl) (fun _ _ _ h => h) ?_ hHeld ?_
  rotate_left
  · refine Or.inl ⟨by rfl, fun w' hSw => ?_⟩; have c0 : w'.cell? ⟨w.heap.size, 1, none⟩ = some (.int .i64 ra) := Blk.cellv hSw 1 _ rfl; go_simp; (try with_reducible rfl)
  try simp only [Act.put, List.setIfInBounds_toArray, List.set_cons_zero, List.set_cons_succ]
  refine wpAnyH_take (i := 10) (oi := { dst := some 64, op := Op.nilCheck (Operand.tmp 61), type := 0, pos := "cpu.go:143", after := #[{ on := 7, ground := Ground.data }], guard := none }) (v := ?_) rfl (by kernel_rfl) (by kernel_rfl) (by kernel_rfl) (fun _ _ _ h => h) ?_ hHeld ?_
  rotate_left
  · refine Or.inl ⟨by rfl, fun w hSw => ?_⟩; skip; go_simp; (try with_reducible rfl)
  try simp only [Act.put, List.setIfInBounds_toArray, List.set_cons_zero, List.set_cons_succ]
  refine wpAnyH_take (i := 11) (oi := { dst := some 65, op := Op.fieldAddr 109 (Operand.tmp 64) 0, type := 0, pos := "cpu.go:143", after := #[{ on := 10, ground := Ground.data }], guard := none }) (v := ?_) rfl (by kernel_rfl) (by kernel_rfl) (by kernel_rfl) (fun _ _ _ h => h) ?_ hHeld ?_
  rotate_left
  · refine Or.inl ⟨by rfl, fun w hSw => ?_⟩; skip; go_simp; (try with_reducible rfl)
  try simp only [Act.put, List.setIfInBounds_toArray, List.set_cons_zero, List.set_cons_succ]
  refine wpAnyH_take (i := 12) (oi := { dst := some 66, op := Op.indexAddr 39 (Operand.tmp 65) (Operand.tmp 63), type := 0, pos := "cpu.go:143", after := #[{ on := 11, ground := Ground.data }, { on := 9, ground := Ground.data }], guard := none }) (v := ?_) rfl (by kernel_rfl) (by kernel_rfl) (by kernel_rfl) (fun _ _ _ h => h) ?_ hHeld ?_
  rotate_left
  · refine Or.inl ⟨by rfl, fun w hSw => ?_⟩; skip; go_simp; (try with_reducible rfl)
  try simp only [Act.put, List.setIfInBounds_toArray, List.set_cons_zero, List.set_cons_succ]
  refine wpAnyH_take (i := 16) (oi := { dst := some 70, op := Op.nilCheck (Operand.tmp 54), type := 0, pos := "cpu.go:143", after := #[{ on := 0, ground := Ground.data }], guard := none }) (v := ?_) rfl (by kernel_rfl) (by kernel_rfl) (by kernel_rfl) (fun _ _ _ h => h) ?_ hHeld ?_
  rotate_left
  · refine Or.inl ⟨by rfl, fun w hSw => ?_⟩; skip; go_simp; (try with_reducible rfl)
  try simp only [Act.put, List.setIfInBounds_toArray, List.set_cons_zero, List.set_cons_succ]
  refine wpAnyH_take (i := 17) (oi := { dst := some 71, op := Op.fieldAddr 109 (Operand.tmp 70) 0, type := 0, pos := "cpu.go:143", after := #[{ on := 16, ground := Ground.data }], guard := none }) (v := ?_) rfl (by kernel_rfl) (by kernel_rfl) (by kernel_rfl) (fun _ _ _ h => h) ?_ hHeld ?_
  rotate_left
  · refine Or.inl ⟨by rfl, fun w hSw => ?_⟩; skip; go_simp; (try with_reducible rfl)
  try simp only [Act.put, List.setIfInBounds_toArray, List.set_cons_zero, List.set_cons_succ]
  refine wpAnyH_ready (rs := [13]) (by kernel_rfl) (by simp) ?_
  refine AllReadyH.cons (o := { dst := some 67, op := Op.load 28 (Operand.tmp 66), type := 28, pos := "cpu.go:143", after := #[{ on := 12, ground := Ground.data }], guard := none }) rfl (fun Kc hKc => ?_) AllReadyH.nil
  have c0 := HD.cellv _ _ hra.out
  go_simp
  refine hKc.out _ _ (hHeld) (fun hHeld => ?_)
  clear hKc Kc
  try simp only [Act.put, List.setIfInBounds_toArray, List.set_cons_zero, List.set_cons_succ]
  refine wpAnyH_take (i := 14) (oi := { dst := some 68, op := Op.binOp BinOp.and 28 (Operand.tmp 67) (Operand.const (Value.int IntKind.u32 65535)) 28, type := 28, pos := "cpu.go:143", after := #[{ on := 13, ground := Ground.data }], guard := none }) (v := ?_) rfl (by kernel_rfl) (by kernel_rfl) (by kernel_rfl) (fun _ _ _ h => h) ?_ hHeld ?_
  rotate_left
  · refine Or.inl ⟨by rfl, fun w hSw => ?_⟩; skip; go_simp; (try with_reducible rfl)
  try simp only [Act.put, List.setIfInBounds_toArray, List.set_cons_zero, List.set_cons_succ]
  refine wpAnyH_take (i := 15) (oi := { dst := some 69, op := Op.binOp BinOp.or 28 (Operand.tmp 60) (Operand.tmp 68) 28, type := 28, pos := "cpu.go:143", after := #[{ on := 6, ground := Ground.data }, { on := 14, ground := Ground.data }], guard := none }) (v := ?_) rfl (by kernel_rfl) (by kernel_rfl) (by kernel_rfl) (fun _ _ _ h => h) ?_ hHeld ?_
  rotate_left
  · refine Or.inl ⟨by rfl, fun w hSw => ?_⟩; skip; go_simp; (try with_reducible rfl)
  try simp only [Act.put, List.setIfInBounds_toArray, List.set_cons_zero, List.set_cons_succ]
  refine wpAnyH_take (i := 18) (oi := { dst := some 72, op := Op.indexAddr 39 (Operand.tmp 71) (Operand.tmp 56), type := 0, pos := "cpu.go:143", after := #[{ on := 17, ground := Ground.data }, { on := 2, ground := Ground.data }, { on := 0, ground := Ground.phase }, { on := 1, ground := Ground.phase }, { on := 2, ground := Ground.phase }, { on := 3, ground := Ground.phase }, { on := 4, ground := Ground.phase }, { on := 5, ground := Ground.phase }, { on := 6, ground := Ground.phase }, { on := 7, ground := Ground.phase }, { on := 8, ground := Ground.phase }, { on := 9, ground := Ground.phase }, { on := 10, ground := Ground.phase }, { on := 11, ground := Ground.phase }, { on := 12, ground := Ground.phase }, { on := 13, ground := Ground.phase }, { on := 14, ground := Ground.phase }, { on := 15, ground := Ground.phase }], guard := none }) (v := ?_) rfl (by kernel_rfl) (by kernel_rfl) (by kernel_rfl) (fun _ _ _ h => h) ?_ hHeld ?_
  rotate_left
  · refine Or.inl ⟨by rfl, fun w hSw => ?_⟩; skip; go_simp; (try with_reducible rfl)
  try simp only [Act.put, List.setIfInBounds_toArray, List.set_cons_zero, List.set_cons_succ]
  refine wpAnyH_ready (rs := [19]) (by kernel_rfl) (by simp) ?_
  refine AllReadyH.cons (o := { dst := none, op := Op.store 28 (Operand.tmp 72) (Operand.tmp 69), type := 0, pos := "cpu.go:143", after := #[{ on := 18, ground := Ground.data }, { on := 15, ground := Ground.data }, { on := 0, ground := Ground.phase }, { on := 1, ground := Ground.phase }, { on := 2, ground := Ground.phase }, { on := 3, ground := Ground.phase }, { on := 4, ground := Ground.phase }, { on := 5, ground := Ground.phase }, { on := 6, ground := Ground.phase }, { on := 7, ground := Ground.phase }, { on := 8, ground := Ground.phase }, { on := 9, ground := Ground.phase }, { on := 10, ground := Ground.phase }, { on := 11, ground := Ground.phase }, { on := 12, ground := Ground.phase }, { on := 13, ground := Ground.phase }, { on := 14, ground := Ground.phase }, { on := 15, ground := Ground.phase }], guard := none }) rfl (fun Kc hKc => ?_) AllReadyH.nil
  refine step_of (by rfl) (wp_set 28 (.tmp 72) (.tmp 69) (by rfl) g (2 + ra) (by rfl) (.int .u32 _) rfl (by rfl) 140 (dg x _) HD size_u32' (by rw [hsz]; omega) ?_)
  intro wS kS gS sS
  rw [dg_set x _ hR ra (by omega)] at kS
  have OS := Out.of_grown gS (S := fun i => i = g) (fun k e => by injection e with e; exact e.symm)
  refine hKc.out _ _ (Out.Blk.out hHeld OS (fun h => by omega)) (fun hHeld => ?_)
  clear hKc Kc
  try simp only [Act.put]
  refine wpAnyH_done (by kernel_rfl) ?_ _
  have C2 := C1.out OS ngx.symm ngm.symm ngp.symm ngt.symm
  have O2 := O.trans OS (fun i h => .inl (.inl h))
  clear hHeld OS
  go_wp2_with fail
  go_ret
  exact ⟨⟨_, rfl⟩, _, X, m, kS, ds_len hR, C2, O2, .inl rfl⟩

set_option maxRecDepth 100000 in
set_option maxHeartbeats 4000000 in
theorem do_def (g x gm gp gt n ra rb : Nat) (d : Dn) (X : List Int) (l : List En) (m op im : Int) (w : World) (HD : Blk w g 140 (dg x d)) (C : CS w x gm gp gt n X l m) (hl : l.length ≤ 8) (hR : d.R.length = 16) (hr : ∀ i : Nat, 0 ≤ d.R[i]?.getD 0 ∧ d.R[i]?.getD 0 < 4294967296) (hX : ∀ i : Nat, 0 ≤ X[i]?.getD 0 ∧ X[i]?.getD 0 < 4294967296) (ha : ra < 16) (hb : rb < 16) (ht : d.tc = 0) (p0 : 0 ≤ d.pc) (p1 : d.pc < 4294967296) (o0 : 3 ≤ op) (o1 : op ≤ 12) :
    Calls Try.prog 72 #[.pointer (some ⟨g, 0, none⟩), .agg (ins op ra rb im)] w fun r w' => IsU r ∧ St g x gm gp gt n d X l w w' := by
  obtain ⟨rv, hrv⟩ : ∃ rv, d.R[rb]?.getD 0 = rv := ⟨_, rfl⟩
  obtain ⟨rav, hrav⟩ : ∃ rav, d.R[ra]?.getD 0 = rav := ⟨_, rfl⟩
  obtain ⟨v0, v1⟩ : 0 ≤ rv ∧ rv < 4294967296 := by rw [← hrv]; exact hr _
  obtain ⟨u0, u1⟩ : 0 ≤ rav ∧ rav < 4294967296 := by rw [← hrav]; exact hr _
  obtain ⟨i2, hw1⟩ : ∃ i2, IntKind.u32.wrap im = i2 := ⟨_, rfl⟩
  obtain ⟨i20, i21⟩ : 0 ≤ i2 ∧ i2 < 4294967296 := by rw [← hw1]; exact u32_rng _
  replace hw1 := Lib.hid hw1
  have hrb := dg_reg x d hR rb hb
  rw [hrv] at hrb
  replace hrb := Lib.hid hrb
  have hra := dg_reg x d hR ra ha
  rw [hrav] at hra
  replace hra := Lib.hid hra
  have hsz := dg_size x d hR
  have hb' : (rb : Int) < 16 := by omega
  have ha' : (ra : Int) < 16 := by omega
  have e18 : Hid ((dg x d)[18]? = some (.int .u32 d.pc)) := Lib.hid (by rw [show 18 = 18 + 0 from rfl, dg_rest x d hR 0]; rfl)
  have CH := Lib.hid C
  obtain ⟨ngx, ngm, ngp, ngt⟩ := C.ne_ HD
  have zg := HD.lt
  have zgt := C.lt.2.2.2
  have zgp := C.lt.2.2.1
  have n1 : ¬ op = 1 := by omega
  have q1 : (op == 1) = false := by simpa using n1
  have n2 : ¬ op = 2 := by omega
  have q2 : (op == 2) = false := by simpa using n2
  have n13 : ¬ op = 13 := by omega
  have q13 : (op == 13) = false := by simpa using n13
  have n14 : ¬ op = 14 := by omega
  have q14 : (op == 14) = false := by simpa using n14
  have n15 : ¬ op = 15 := by omega
  have q15 : (op == 15) = false := by simpa using n15
  have n16 : ¬ op = 16 := by omega
  have q16 : (op == 16) = false := by simpa using n16
  have n17 : ¬ op = 17 := by omega
  have q17 : (op == 17) = false := by simpa using n17
  have n18 : ¬ op = 18 := by omega
  have q18 : (op == 18) = false := by simpa using n18
  have n19 : ¬ op = 19 := by omega
  have q19 : (op == 19) = false := by simpa using n19
  have n20 : ¬ op = 20 := by omega
  have q20 : (op == 20) = false := by simpa using n20
  have n21 : ¬ op = 21 := by omega
  have q21 : (op == 21) = false := by simpa using n21
  have n22 : ¬ op = 22 := by omega
  have q22 : (op == 22) = false := by simpa using n22
  have n23 : ¬ op = 23 := by omega
  have q23 : (op == 23) = false := by simpa using n23
  have n24 : ¬ op = 24 := by omega
  have q24 : (op == 24) = false := by simpa using n24
  clear C hr hX hrv hrav
  go_enter Try.func72, Try.ntmps72
  go_upto_region 1 with ((with_reducible refine wl_box rfl 94 _ rfl (ins op ra rb im) rfl ?_); intro w1 k1 b1 s1)
  have HD := HD.below b1
  have C1 := CH.out.below b1
  have O := Out.of_below b1 (fun i => i = g ∨ i = gt ∨ i = gp)
  have z1 := k1.lt
  have c18 : w1.cell? ⟨g, 18, none⟩ = some (.int .u32 d.pc) := HD.cellv 18 _ e18.out
  have i0 : w1.cell? ⟨w.heap.size, 0, none⟩ = some (.int .i64 op) := k1.cellv 0 _ rfl
  clear b1 CH
  go_upto_region 4 with fail
  clear c18 i0
  have HD := HD.drew
  have C1 := C1.below (bl_drew (bl_refl w1))
  have O := O.trans (Out.of_below (bl_drew (bl_refl w1)) (fun i => i = g ∨ i = gt ∨ i = gp)) (fun i h => .inl h)
  refine wp_region_held_drew (S := (fun w' => Blk w' w.heap.size 94 (ins op ra rb im))) (by kernel_rfl) (k1.drew) (fun hHeld => ?_)
  refine wpAnyH_take (i := 0) (oi := { dst := some 17, op := Op.move (Operand.tmp 5), type := 150, pos := "cpu.go:160", after := #[], guard := none }) (v := ?_) rfl (by kernel_rfl) (by kernel_rfl) (by kernel_rfl) (fun _ _ _ h => h) ?_ hHeld ?_
  rotate_left
  · refine Or.inl ⟨by rfl, fun w hSw => ?_⟩; skip; go_simp; (try with_reducible rfl)
  try simp only [Act.put, List.setIfInBounds_toArray, List.set_cons_zero, List.set_cons_succ]
  refine wpAnyH_take (i := 1) (oi := { dst := some 18, op := Op.fieldAddr 94 (Operand.tmp 3) 1, type := 0, pos := "cpu.go:160", after := #[], guard := none }) (v := ?_) rfl (by kernel_rfl) (by kernel_rfl) (by kernel_rfl) (fun _ _ _ h => h) ?_ hHeld ?_
  rotate_left
  · refine Or.inl ⟨by rfl, fun w hSw => ?_⟩; skip; go_simp; (try with_reducible rfl)
  try simp only [Act.put, List.setIfInBounds_toArray, List.set_cons_zero, List.set_cons_succ]
  refine wpAnyH_take (i := 2) (oi := { dst := some 19, op := Op.load 3 (Operand.tmp 18), type := 3, pos := "cpu.go:160", after := #[{ on := 1, ground := Ground.data }], guard := none }) (v := ?_) rfl (by kernel_rfl) (by kernel_rfl) (by kernel_rfl) (fun _ _ _ h => h) ?_ hHeld ?_
  rotate_left
  · refine Or.inl ⟨by rfl, fun w' hSw => ?_⟩; have c0 : w'.cell? ⟨w.heap.size, 1, none⟩ = some (.int .i64 ra) := Blk.cellv hSw 1 _ rfl; go_simp; (try with_reducible rfl)
  try simp only [Act.put, List.setIfInBounds_toArray, List.set_cons_zero, List.set_cons_succ]
  refine wpAnyH_take (i := 3) (oi := { dst := some 20, op := Op.move (Operand.tmp 0), type := 138, pos := "cpu.go:160", after := #[], guard := none }) (v := ?_) rfl (by kernel_rfl) (by kernel_rfl) (by kernel_rfl) (fun _ _ _ h => h) ?_ hHeld ?_
  rotate_left
  · refine Or.inl ⟨by rfl, fun w hSw => ?_⟩; skip; go_simp; (try with_reducible rfl)
  try simp only [Act.put, List.setIfInBounds_toArray, List.set_cons_zero, List.set_cons_succ]
  refine wpAnyH_take (i := 4) (oi := { dst := some 21, op := Op.fieldAddr 94 (Operand.tmp 3) 0, type := 0, pos := "cpu.go:160", after := #[], guard := none }) (v := ?_) rfl (by kernel_rfl) (by kernel_rfl) (by kernel_rfl) (fun _ _ _ h => h) ?_ hHeld ?_
  rotate_left
  · refine Or.inl ⟨by rfl, fun w hSw => ?_⟩; skip; go_simp; (try with_reducible rfl)
  try simp only [Act.put, List.setIfInBounds_toArray, List.set_cons_zero, List.set_cons_succ]
  refine wpAnyH_take (i := 5) (oi := { dst := some 22, op := Op.load 3 (Operand.tmp 21), type := 3, pos := "cpu.go:160", after := #[{ on := 4, ground := Ground.data }], guard := none }) (v := ?_) rfl (by kernel_rfl) (by kernel_rfl) (by kernel_rfl) (fun _ _ _ h => h) ?_ hHeld ?_
  rotate_left
  · refine Or.inl ⟨by rfl, fun w' hSw => ?_⟩; have c0 : w'.cell? ⟨w.heap.size, 0, none⟩ = some (.int .i64 op) := Blk.cellv hSw 0 _ rfl; go_simp; (try with_reducible rfl)
  try simp only [Act.put, List.setIfInBounds_toArray, List.set_cons_zero, List.set_cons_succ]
  refine wpAnyH_take (i := 6) (oi := { dst := some 23, op := Op.move (Operand.tmp 5), type := 150, pos := "cpu.go:160", after := #[], guard := none }) (v := ?_) rfl (by kernel_rfl) (by kernel_rfl) (by kernel_rfl) (fun _ _ _ h => h) ?_ hHeld ?_
  rotate_left
  · refine Or.inl ⟨by rfl, fun w hSw => ?_⟩; skip; go_simp; (try with_reducible rfl)
  try simp only [Act.put, List.setIfInBounds_toArray, List.set_cons_zero, List.set_cons_succ]
  refine wpAnyH_take (i := 7) (oi := { dst := some 24, op := Op.fieldAddr 94 (Operand.tmp 3) 1, type := 0, pos := "cpu.go:160", after := #[], guard := none }) (v := ?_) rfl (by kernel_rfl) (by kernel_rfl) (by kernel_rfl) (fun _ _ _ h => h) ?_ hHeld ?_
  rotate_left
  · refine Or.inl ⟨by rfl, fun w hSw => ?_⟩; skip; go_simp; (try with_reducible rfl)
  try simp only [Act.put, List.setIfInBounds_toArray, List.set_cons_zero, List.set_cons_succ]
  refine wpAnyH_take (i := 8) (oi := { dst := some 25, op := Op.load 3 (Operand.tmp 24), type := 3, pos := "cpu.go:160", after := #[{ on := 7, ground := Ground.data }], guard := none }) (v := ?_) rfl (by kernel_rfl) (by kernel_rfl) (by kernel_rfl) (fun _ _ _ h => h) ?_ hHeld ?_
  rotate_left
  · refine Or.inl ⟨by rfl, fun w' hSw => ?_⟩; have c0 : w'.cell? ⟨w.heap.size, 1, none⟩ = some (.int .i64 ra) := Blk.cellv hSw 1 _ rfl; go_simp; (try with_reducible rfl)
  try simp only [Act.put, List.setIfInBounds_toArray, List.set_cons_zero, List.set_cons_succ]
  refine wpAnyH_take (i := 9) (oi := { dst := some 26, op := Op.nilCheck (Operand.tmp 23), type := 0, pos := "cpu.go:160", after := #[{ on := 6, ground := Ground.data }], guard := none }) (v := ?_) rfl (by kernel_rfl) (by kernel_rfl) (by kernel_rfl) (fun _ _ _ h => h) ?_ hHeld ?_
  rotate_left
  · refine Or.inl ⟨by rfl, fun w hSw => ?_⟩; skip; go_simp; (try with_reducible rfl)
  try simp only [Act.put, List.setIfInBounds_toArray, List.set_cons_zero, List.set_cons_succ]
  refine wpAnyH_take (i := 10) (oi := { dst := some 27, op := Op.fieldAddr 109 (Operand.tmp 26) 0, type := 0, pos := "cpu.go:160", after := #[{ on := 9, ground := Ground.data }], guard := none }) (v := ?_) rfl (by kernel_rfl) (by kernel_rfl) (by kernel_rfl) (fun _ _ _ h => h) ?_ hHeld ?_
  rotate_left
  · refine Or.inl ⟨by rfl, fun w hSw => ?_⟩; skip; go_simp; (try with_reducible rfl)
  try simp only [Act.put, List.setIfInBounds_toArray, List.set_cons_zero, List.set_cons_succ]
  refine wpAnyH_take (i := 11) (oi := { dst := some 28, op := Op.indexAddr 39 (Operand.tmp 27) (Operand.tmp 25), type := 0, pos := "cpu.go:160", after := #[{ on := 10, ground := Ground.data }, { on := 8, ground := Ground.data }], guard := none }) (v := ?_) rfl (by kernel_rfl) (by kernel_rfl) (by kernel_rfl) (fun _ _ _ h => h) ?_ hHeld ?_
  rotate_left
  · refine Or.inl ⟨by rfl, fun w hSw => ?_⟩; skip; go_simp; (try with_reducible rfl)
  try simp only [Act.put, List.setIfInBounds_toArray, List.set_cons_zero, List.set_cons_succ]
  refine wpAnyH_take (i := 13) (oi := { dst := some 30, op := Op.move (Operand.tmp 5), type := 150, pos := "cpu.go:160", after := #[], guard := none }) (v := ?_) rfl (by kernel_rfl) (by kernel_rfl) (by kernel_rfl) (fun _ _ _ h => h) ?_ hHeld ?_
  rotate_left
  · refine Or.inl ⟨by rfl, fun w hSw => ?_⟩; skip; go_simp; (try with_reducible rfl)
  try simp only [Act.put, List.setIfInBounds_toArray, List.set_cons_zero, List.set_cons_succ]
  refine wpAnyH_take (i := 14) (oi := { dst := some 31, op := Op.fieldAddr 94 (Operand.tmp 3) 2, type := 0, pos := "cpu.go:160", after := #[], guard := none }) (v := ?_) rfl (by kernel_rfl) (by kernel_rfl) (by kernel_rfl) (fun _ _ _ h => h) ?_ hHeld ?_
  rotate_left
  · refine Or.inl ⟨by rfl, fun w hSw => ?_⟩; skip; go_simp; (try with_reducible rfl)
  try simp only [Act.put, List.setIfInBounds_toArray, List.set_cons_zero, List.set_cons_succ]
  refine wpAnyH_take (i := 15) (oi := { dst := some 32, op := Op.load 3 (Operand.tmp 31), type := 3, pos := "cpu.go:160", after := #[{ on := 14, ground := Ground.data }], guard := none }) (v := ?_) rfl (by kernel_rfl) (by kernel_rfl) (by kernel_rfl) (fun _ _ _ h => h) ?_ hHeld ?_
  rotate_left
  · refine Or.inl ⟨by rfl, fun w' hSw => ?_⟩; have c0 : w'.cell? ⟨w.heap.size, 2, none⟩ = some (.int .i64 rb) := Blk.cellv hSw 2 _ rfl; go_simp; (try with_reducible rfl)
  try simp only [Act.put, List.setIfInBounds_toArray, List.set_cons_zero, List.set_cons_succ]
  refine wpAnyH_take (i := 16) (oi := { dst := some 33, op := Op.nilCheck (Operand.tmp 30), type := 0, pos := "cpu.go:160", after := #[{ on := 13, ground := Ground.data }], guard := none }) (v := ?_) rfl (by kernel_rfl) (by kernel_rfl) (by kernel_rfl) (fun _ _ _ h => h) ?_ hHeld ?_
  rotate_left
  · refine Or.inl ⟨by rfl, fun w hSw => ?_⟩; skip; go_simp; (try with_reducible rfl)
  try simp only [Act.put, List.setIfInBounds_toArray, List.set_cons_zero, List.set_cons_succ]
  refine wpAnyH_take (i := 17) (oi := { dst := some 34, op := Op.fieldAddr 109 (Operand.tmp 33) 0, type := 0, pos := "cpu.go:160", after := #[{ on := 16, ground := Ground.data }], guard := none }) (v := ?_) rfl (by kernel_rfl) (by kernel_rfl) (by kernel_rfl) (fun _ _ _ h => h) ?_ hHeld ?_
  rotate_left
  · refine Or.inl ⟨by rfl, fun w hSw => ?_⟩; skip; go_simp; (try with_reducible rfl)
  try simp only [Act.put, List.setIfInBounds_toArray, List.set_cons_zero, List.set_cons_succ]
  refine wpAnyH_take (i := 18) (oi := { dst := some 35, op := Op.indexAddr 39 (Operand.tmp 34) (Operand.tmp 32), type := 0, pos := "cpu.go:160", after := #[{ on := 17, ground := Ground.data }, { on := 15, ground := Ground.data }], guard := none }) (v := ?_) rfl (by kernel_rfl) (by kernel_rfl) (by kernel_rfl) (fun _ _ _ h => h) ?_ hHeld ?_
  rotate_left
  · refine Or.inl ⟨by rfl, fun w hSw => ?_⟩; skip; go_simp; (try with_reducible rfl)
  try simp only [Act.put, List.setIfInBounds_toArray, List.set_cons_zero, List.set_cons_succ]
  refine wpAnyH_take (i := 21) (oi := { dst := some 38, op := Op.nilCheck (Operand.tmp 17), type := 0, pos := "cpu.go:160", after := #[{ on := 0, ground := Ground.data }], guard := none }) (v := ?_) rfl (by kernel_rfl) (by kernel_rfl) (by kernel_rfl) (fun _ _ _ h => h) ?_ hHeld ?_
  rotate_left
  · refine Or.inl ⟨by rfl, fun w hSw => ?_⟩; skip; go_simp; (try with_reducible rfl)
  try simp only [Act.put, List.setIfInBounds_toArray, List.set_cons_zero, List.set_cons_succ]
  refine wpAnyH_take (i := 22) (oi := { dst := some 39, op := Op.fieldAddr 109 (Operand.tmp 38) 0, type := 0, pos := "cpu.go:160", after := #[{ on := 21, ground := Ground.data }], guard := none }) (v := ?_) rfl (by kernel_rfl) (by kernel_rfl) (by kernel_rfl) (fun _ _ _ h => h) ?_ hHeld ?_
  rotate_left
  · refine Or.inl ⟨by rfl, fun w hSw => ?_⟩; skip; go_simp; (try with_reducible rfl)
  try simp only [Act.put, List.setIfInBounds_toArray, List.set_cons_zero, List.set_cons_succ]
  refine wpAnyH_ready (rs := [12, 19]) (by kernel_rfl) (by simp) ?_
  refine AllReadyH.cons (o := { dst := some 29, op := Op.load 28 (Operand.tmp 28), type := 28, pos := "cpu.go:160", after := #[{ on := 11, ground := Ground.data }], guard := none }) rfl (fun Kc hKc => ?_) ?_
  · have c0 := HD.cellv _ _ hra.out
    go_simp
    refine hKc.out _ _ (hHeld) (fun hHeld => ?_)
    clear hKc Kc
    try simp only [Act.put, List.setIfInBounds_toArray, List.set_cons_zero, List.set_cons_succ]
    refine wpAnyH_ready (rs := [19]) (by kernel_rfl) (by simp) ?_
    refine AllReadyH.cons (o := { dst := some 36, op := Op.load 28 (Operand.tmp 35), type := 28, pos := "cpu.go:160", after := #[{ on := 18, ground := Ground.data }], guard := none }) rfl (fun Kc hKc => ?_) AllReadyH.nil
    have c0 := HD.cellv _ _ hrb.out
    go_simp
    refine hKc.out _ _ (hHeld) (fun hHeld => ?_)
    clear hKc Kc
    try simp only [Act.put, List.setIfInBounds_toArray, List.set_cons_zero, List.set_cons_succ]
    refine wpAnyH_ready (rs := [20]) (by kernel_rfl) (by simp) ?_
    refine AllReadyH.cons (o := { dst := some 37, op := Op.call { callee := Callee.value (Operand.func 78), args := #[Operand.tmp 20, Operand.tmp 22, Operand.tmp 29, Operand.tmp 36], argTypes := #[138, 3, 28, 28] }, type := 28, pos := "cpu.go:160", after := #[{ on := 3, ground := Ground.data }, { on := 5, ground := Ground.data }, { on := 12, ground := Ground.data }, { on := 19, ground := Ground.data }], guard := none }) rfl (fun Kc hKc => ?_) AllReadyH.nil
    go_simp
    refine (reckon_c g x d op rav rv _ HD hR u0 u1 v0 v1 (by omega) (by omega)).mono ?_
    rintro r wq ⟨⟨v, rfl⟩, d1, HD, hd1, _, hsp, OR⟩
    have hR1 : d1.R.length = 16 := by rw [hd1]; exact hR
    have hsz := dg_size x d1 hR1
    have C1 := C1.out OR ngx.symm ngm.symm ngp.symm ngt.symm
    have O := O.trans OR (fun i h => .inl (.inl h))
    refine hKc.out _ _ (Out.Blk.out hHeld OR (fun h => by omega)) (fun hHeld => ?_)
    clear hKc Kc
    try simp only [Act.put, List.setIfInBounds_toArray, List.set_cons_zero, List.set_cons_succ]
    refine wpAnyH_take (i := 23) (oi := { dst := some 40, op := Op.indexAddr 39 (Operand.tmp 39) (Operand.tmp 19), type := 0, pos := "cpu.go:160", after := #[{ on := 22, ground := Ground.data }, { on := 2, ground := Ground.data }, { on := 0, ground := Ground.phase }, { on := 1, ground := Ground.phase }, { on := 2, ground := Ground.phase }, { on := 3, ground := Ground.phase }, { on := 4, ground := Ground.phase }, { on := 5, ground := Ground.phase }, { on := 6, ground := Ground.phase }, { on := 7, ground := Ground.phase }, { on := 8, ground := Ground.phase }, { on := 9, ground := Ground.phase }, { on := 10, ground := Ground.phase }, { on := 11, ground := Ground.phase }, { on := 12, ground := Ground.phase }, { on := 13, ground := Ground.phase }, { on := 14, ground := Ground.phase }, { on := 15, ground := Ground.phase }, { on := 16, ground := Ground.phase }, { on := 17, ground := Ground.phase }, { on := 18, ground := Ground.phase }, { on := 19, ground := Ground.phase }, { on := 20, ground := Ground.phase }], guard := none }) (v := ?_) rfl (by kernel_rfl) (by kernel_rfl) (by kernel_rfl) (fun _ _ _ h => h) ?_ hHeld ?_
    rotate_left
    · refine Or.inl ⟨by rfl, fun w hSw => ?_⟩; skip; go_simp; (try with_reducible rfl)
    try simp only [Act.put, List.setIfInBounds_toArray, List.set_cons_zero, List.set_cons_succ]
    refine wpAnyH_ready (rs := [24]) (by kernel_rfl) (by simp) ?_
    refine AllReadyH.cons (o := { dst := none, op := Op.store 28 (Operand.tmp 40) (Operand.tmp 37), type := 0, pos := "cpu.go:160", after := #[{ on := 23, ground := Ground.data }, { on := 20, ground := Ground.data }, { on := 20, ground := Ground.chain }, { on := 0, ground := Ground.phase }, { on := 1, ground := Ground.phase }, { on := 2, ground := Ground.phase }, { on := 3, ground := Ground.phase }, { on := 4, ground := Ground.phase }, { on := 5, ground := Ground.phase }, { on := 6, ground := Ground.phase }, { on := 7, ground := Ground.phase }, { on := 8, ground := Ground.phase }, { on := 9, ground := Ground.phase }, { on := 10, ground := Ground.phase }, { on := 11, ground := Ground.phase }, { on := 12, ground := Ground.phase }, { on := 13, ground := Ground.phase }, { on := 14, ground := Ground.phase }, { on := 15, ground := Ground.phase }, { on := 16, ground := Ground.phase }, { on := 17, ground := Ground.phase }, { on := 18, ground := Ground.phase }, { on := 19, ground := Ground.phase }, { on := 20, ground := Ground.phase }], guard := none }) rfl (fun Kc hKc => ?_) AllReadyH.nil
    refine step_of (by rfl) (wp_set 28 (.tmp 40) (.tmp 37) (by rfl) g (2 + ra) (by rfl) (.int .u32 _) rfl (by rfl) 140 (dg x _) HD size_u32' (by rw [hsz]; omega) ?_)
    intro wS kS gS sS
    rw [dg_set x _ hR1 ra (by omega)] at kS
    have OS := Out.of_grown gS (S := fun i => i = g) (fun k e => by injection e with e; exact e.symm)
    refine hKc.out _ _ (Out.Blk.out hHeld OS (fun h => by omega)) (fun hHeld => ?_)
    clear hKc Kc
    try simp only [Act.put]
    refine wpAnyH_done (by kernel_rfl) ?_ _
    have C2 := C1.out OS ngx.symm ngm.symm ngp.symm ngt.symm
    have O2 := O.trans OS (fun i h => .inl (.inl h))
    clear hHeld OS
    go_wp2_with fail
    go_ret
    exact ⟨⟨_, rfl⟩, _, X, m, kS, ds_len hR1, C2, O2, .inl rfl⟩
  refine AllReadyH.cons (o := { dst := some 36, op := Op.load 28 (Operand.tmp 35), type := 28, pos := "cpu.go:160", after := #[{ on := 18, ground := Ground.data }], guard := none }) rfl (fun Kc hKc => ?_) ?_
  · have c0 := HD.cellv _ _ hrb.out
    go_simp
    refine hKc.out _ _ (hHeld) (fun hHeld => ?_)
    clear hKc Kc
    try simp only [Act.put, List.setIfInBounds_toArray, List.set_cons_zero, List.set_cons_succ]
    refine wpAnyH_ready (rs := [12]) (by kernel_rfl) (by simp) ?_
    refine AllReadyH.cons (o := { dst := some 29, op := Op.load 28 (Operand.tmp 28), type := 28, pos := "cpu.go:160", after := #[{ on := 11, ground := Ground.data }], guard := none }) rfl (fun Kc hKc => ?_) AllReadyH.nil
    have c0 := HD.cellv _ _ hra.out
    go_simp
    refine hKc.out _ _ (hHeld) (fun hHeld => ?_)
    clear hKc Kc
    try simp only [Act.put, List.setIfInBounds_toArray, List.set_cons_zero, List.set_cons_succ]
    refine wpAnyH_ready (rs := [20]) (by kernel_rfl) (by simp) ?_
    refine AllReadyH.cons (o := { dst := some 37, op := Op.call { callee := Callee.value (Operand.func 78), args := #[Operand.tmp 20, Operand.tmp 22, Operand.tmp 29, Operand.tmp 36], argTypes := #[138, 3, 28, 28] }, type := 28, pos := "cpu.go:160", after := #[{ on := 3, ground := Ground.data }, { on := 5, ground := Ground.data }, { on := 12, ground := Ground.data }, { on := 19, ground := Ground.data }], guard := none }) rfl (fun Kc hKc => ?_) AllReadyH.nil
    go_simp
    refine (reckon_c g x d op rav rv _ HD hR u0 u1 v0 v1 (by omega) (by omega)).mono ?_
    rintro r wq ⟨⟨v, rfl⟩, d1, HD, hd1, _, hsp, OR⟩
    have hR1 : d1.R.length = 16 := by rw [hd1]; exact hR
    have hsz := dg_size x d1 hR1
    have C1 := C1.out OR ngx.symm ngm.symm ngp.symm ngt.symm
    have O := O.trans OR (fun i h => .inl (.inl h))
    refine hKc.out _ _ (Out.Blk.out hHeld OR (fun h => by omega)) (fun hHeld => ?_)
    clear hKc Kc
    try simp only [Act.put, List.setIfInBounds_toArray, List.set_cons_zero, List.set_cons_succ]
    refine wpAnyH_take (i := 23) (oi := { dst := some 40, op := Op.indexAddr 39 (Operand.tmp 39) (Operand.tmp 19), type := 0, pos := "cpu.go:160", after := #[{ on := 22, ground := Ground.data }, { on := 2, ground := Ground.data }, { on := 0, ground := Ground.phase }, { on := 1, ground := Ground.phase }, { on := 2, ground := Ground.phase }, { on := 3, ground := Ground.phase }, { on := 4, ground := Ground.phase }, { on := 5, ground := Ground.phase }, { on := 6, ground := Ground.phase }, { on := 7, ground := Ground.phase }, { on := 8, ground := Ground.phase }, { on := 9, ground := Ground.phase }, { on := 10, ground := Ground.phase }, { on := 11, ground := Ground.phase }, { on := 12, ground := Ground.phase }, { on := 13, ground := Ground.phase }, { on := 14, ground := Ground.phase }, { on := 15, ground := Ground.phase }, { on := 16, ground := Ground.phase }, { on := 17, ground := Ground.phase }, { on := 18, ground := Ground.phase }, { on := 19, ground := Ground.phase }, { on := 20, ground := Ground.phase }], guard := none }) (v := ?_) rfl (by kernel_rfl) (by kernel_rfl) (by kernel_rfl) (fun _ _ _ h => h) ?_ hHeld ?_
    rotate_left
    · refine Or.inl ⟨by rfl, fun w hSw => ?_⟩; skip; go_simp; (try with_reducible rfl)
    try simp only [Act.put, List.setIfInBounds_toArray, List.set_cons_zero, List.set_cons_succ]
    refine wpAnyH_ready (rs := [24]) (by kernel_rfl) (by simp) ?_
    refine AllReadyH.cons (o := { dst := none, op := Op.store 28 (Operand.tmp 40) (Operand.tmp 37), type := 0, pos := "cpu.go:160", after := #[{ on := 23, ground := Ground.data }, { on := 20, ground := Ground.data }, { on := 20, ground := Ground.chain }, { on := 0, ground := Ground.phase }, { on := 1, ground := Ground.phase }, { on := 2, ground := Ground.phase }, { on := 3, ground := Ground.phase }, { on := 4, ground := Ground.phase }, { on := 5, ground := Ground.phase }, { on := 6, ground := Ground.phase }, { on := 7, ground := Ground.phase }, { on := 8, ground := Ground.phase }, { on := 9, ground := Ground.phase }, { on := 10, ground := Ground.phase }, { on := 11, ground := Ground.phase }, { on := 12, ground := Ground.phase }, { on := 13, ground := Ground.phase }, { on := 14, ground := Ground.phase }, { on := 15, ground := Ground.phase }, { on := 16, ground := Ground.phase }, { on := 17, ground := Ground.phase }, { on := 18, ground := Ground.phase }, { on := 19, ground := Ground.phase }, { on := 20, ground := Ground.phase }], guard := none }) rfl (fun Kc hKc => ?_) AllReadyH.nil
    refine step_of (by rfl) (wp_set 28 (.tmp 40) (.tmp 37) (by rfl) g (2 + ra) (by rfl) (.int .u32 _) rfl (by rfl) 140 (dg x _) HD size_u32' (by rw [hsz]; omega) ?_)
    intro wS kS gS sS
    rw [dg_set x _ hR1 ra (by omega)] at kS
    have OS := Out.of_grown gS (S := fun i => i = g) (fun k e => by injection e with e; exact e.symm)
    refine hKc.out _ _ (Out.Blk.out hHeld OS (fun h => by omega)) (fun hHeld => ?_)
    clear hKc Kc
    try simp only [Act.put]
    refine wpAnyH_done (by kernel_rfl) ?_ _
    have C2 := C1.out OS ngx.symm ngm.symm ngp.symm ngt.symm
    have O2 := O.trans OS (fun i h => .inl (.inl h))
    clear hHeld OS
    go_wp2_with fail
    go_ret
    exact ⟨⟨_, rfl⟩, _, X, m, kS, ds_len hR1, C2, O2, .inl rfl⟩
  exact AllReadyH.nil

set_option maxRecDepth 100000 in
set_option maxHeartbeats 4000000 in
theorem do_13 (g x gm gp gt n ra rb : Nat) (d : Dn) (X : List Int) (l : List En) (m im : Int) (w : World) (HD : Blk w g 140 (dg x d)) (C : CS w x gm gp gt n X l m) (hl : l.length ≤ 8) (hR : d.R.length = 16) (hr : ∀ i : Nat, 0 ≤ d.R[i]?.getD 0 ∧ d.R[i]?.getD 0 < 4294967296) (hX : ∀ i : Nat, 0 ≤ X[i]?.getD 0 ∧ X[i]?.getD 0 < 4294967296) (ha : ra < 16) (hb : rb < 16) (ht : d.tc = 0) (p0 : 0 ≤ d.pc) (p1 : d.pc < 4294967296) :
    Calls Try.prog 72 #[.pointer (some ⟨g, 0, none⟩), .agg (ins 13 ra rb im)] w fun r w' => IsU r ∧ St g x gm gp gt n d X l w w' := by
  obtain ⟨rv, hrv⟩ : ∃ rv, d.R[rb]?.getD 0 = rv := ⟨_, rfl⟩
  obtain ⟨rav, hrav⟩ : ∃ rav, d.R[ra]?.getD 0 = rav := ⟨_, rfl⟩
  obtain ⟨v0, v1⟩ : 0 ≤ rv ∧ rv < 4294967296 := by rw [← hrv]; exact hr _
  obtain ⟨u0, u1⟩ : 0 ≤ rav ∧ rav < 4294967296 := by rw [← hrav]; exact hr _
  obtain ⟨i2, hw1⟩ : ∃ i2, IntKind.u32.wrap im = i2 := ⟨_, rfl⟩
  obtain ⟨i20, i21⟩ : 0 ≤ i2 ∧ i2 < 4294967296 := by rw [← hw1]; exact u32_rng _
  replace hw1 := Lib.hid hw1
  have hrb := dg_reg x d hR rb hb
  rw [hrv] at hrb
  replace hrb := Lib.hid hrb
  have hra := dg_reg x d hR ra ha
  rw [hrav] at hra
  replace hra := Lib.hid hra
  have hsz := dg_size x d hR
  have hb' : (rb : Int) < 16 := by omega
  have ha' : (ra : Int) < 16 := by omega
  have e18 : Hid ((dg x d)[18]? = some (.int .u32 d.pc)) := Lib.hid (by rw [show 18 = 18 + 0 from rfl, dg_rest x d hR 0]; rfl)
  have CH := Lib.hid C
  obtain ⟨ngx, ngm, ngp, ngt⟩ := C.ne_ HD
  have zg := HD.lt
  have zgt := C.lt.2.2.2
  have zgp := C.lt.2.2.1
  clear C hr hX hrv hrav
  go_enter Try.func72, Try.ntmps72
  go_upto_region 1 with ((with_reducible refine wl_box rfl 94 _ rfl (ins 13 ra rb im) rfl ?_); intro w1 k1 b1 s1)
  have HD := HD.below b1
  have C1 := CH.out.below b1
  have O := Out.of_below b1 (fun i => i = g ∨ i = gt ∨ i = gp)
  have z1 := k1.lt
  have c18 : w1.cell? ⟨g, 18, none⟩ = some (.int .u32 d.pc) := HD.cellv 18 _ e18.out
  have i0 : w1.cell? ⟨w.heap.size, 0, none⟩ = some (.int .i64 13) := k1.cellv 0 _ rfl
  clear b1 CH
  go_upto_region 10 with fail
  clear c18 i0
  have HD := HD.drew
  have C1 := C1.below (bl_drew (bl_refl w1))
  have O := O.trans (Out.of_below (bl_drew (bl_refl w1)) (fun i => i = g ∨ i = gt ∨ i = gp)) (fun i h => .inl h)
  refine wp_region_held_drew (S := (fun w' => Blk w' w.heap.size 94 (ins 13 ra rb im))) (by kernel_rfl) (k1.drew) (fun hHeld => ?_)
  refine wpAnyH_take (i := 0) (oi := { dst := some 75, op := Op.move (Operand.tmp 5), type := 150, pos := "cpu.go:145", after := #[], guard := none }) (v := ?_) rfl (by kernel_rfl) (by kernel_rfl) (by kernel_rfl) (fun _ _ _ h => h) ?_ hHeld ?_
  rotate_left
  · refine Or.inl ⟨by rfl, fun w hSw => ?_⟩; skip; go_simp; (try with_reducible rfl)
  try simp only [Act.put, List.setIfInBounds_toArray, List.set_cons_zero, List.set_cons_succ]
  refine wpAnyH_take (i := 1) (oi := { dst := some 76, op := Op.fieldAddr 94 (Operand.tmp 3) 1, type := 0, pos := "cpu.go:145", after := #[], guard := none }) (v := ?_) rfl (by kernel_rfl) (by kernel_rfl) (by kernel_rfl) (fun _ _ _ h => h) ?_ hHeld ?_
  rotate_left
  · refine Or.inl ⟨by rfl, fun w hSw => ?_⟩; skip; go_simp; (try with_reducible rfl)
  try simp only [Act.put, List.setIfInBounds_toArray, List.set_cons_zero, List.set_cons_succ]
  refine wpAnyH_take (i := 2) (oi := { dst := some 77, op := Op.load 3 (Operand.tmp 76), type := 3, pos := "cpu.go:145", after := #[{ on := 1, ground := Ground.data }], guard := none }) (v := ?_) rfl (by kernel_rfl) (by kernel_rfl) (by kernel_rfl) (fun _ _ _ h => h) ?_ hHeld ?_
  rotate_left
  · refine Or.inl ⟨by rfl, fun w' hSw => ?_⟩; have c0 : w'.cell? ⟨w.heap.size, 1, none⟩ = some (.int .i64 ra) := Blk.cellv hSw 1 _ rfl; go_simp; (try with_reducible rfl)
  try simp only [Act.put, List.setIfInBounds_toArray, List.set_cons_zero, List.set_cons_succ]
  refine wpAnyH_take (i := 3) (oi := { dst := some 78, op := Op.move (Operand.tmp 0), type := 138, pos := "cpu.go:145", after := #[], guard := none }) (v := ?_) rfl (by kernel_rfl) (by kernel_rfl) (by kernel_rfl) (fun _ _ _ h => h) ?_ hHeld ?_
  rotate_left
  · refine Or.inl ⟨by rfl, fun w hSw => ?_⟩; skip; go_simp; (try with_reducible rfl)
  try simp only [Act.put, List.setIfInBounds_toArray, List.set_cons_zero, List.set_cons_succ]
  refine wpAnyH_take (i := 4) (oi := { dst := some 79, op := Op.fieldAddr 94 (Operand.tmp 3) 0, type := 0, pos := "cpu.go:145", after := #[], guard := none }) (v := ?_) rfl (by kernel_rfl) (by kernel_rfl) (by kernel_rfl) (fun _ _ _ h => h) ?_ hHeld ?_
  rotate_left
  · refine Or.inl ⟨by rfl, fun w hSw => ?_⟩; skip; go_simp; (try with_reducible rfl)
  try simp only [Act.put, List.setIfInBounds_toArray, List.set_cons_zero, List.set_cons_succ]
  refine wpAnyH_take (i := 5) (oi := { dst := some 80, op := Op.load 3 (Operand.tmp 79), type := 3, pos := "cpu.go:145", after := #[{ on := 4, ground := Ground.data }], guard := none }) (v := ?_) rfl (by kernel_rfl) (by kernel_rfl) (by kernel_rfl) (fun _ _ _ h => h) ?_ hHeld ?_
  rotate_left
  · refine Or.inl ⟨by rfl, fun w' hSw => ?_⟩; have c0 : w'.cell? ⟨w.heap.size, 0, none⟩ = some (.int .i64 13) := Blk.cellv hSw 0 _ rfl; go_simp; (try with_reducible rfl)
  try simp only [Act.put, List.setIfInBounds_toArray, List.set_cons_zero, List.set_cons_succ]
  refine wpAnyH_take (i := 6) (oi := { dst := some 81, op := Op.move (Operand.tmp 5), type := 150, pos := "cpu.go:145", after := #[], guard := none }) (v := ?_) rfl (by kernel_rfl) (by kernel_rfl) (by kernel_rfl) (fun _ _ _ h => h) ?_ hHeld ?_
  rotate_left
  · refine Or.inl ⟨by rfl, fun w hSw => ?_⟩; skip; go_simp; (try with_reducible rfl)
  try simp only [Act.put, List.setIfInBounds_toArray, List.set_cons_zero, List.set_cons_succ]
  refine wpAnyH_take (i := 7) (oi := { dst := some 82, op := Op.fieldAddr 94 (Operand.tmp 3) 1, type := 0, pos := "cpu.go:145", after := #[], guard := none }) (v := ?_) rfl (by kernel_rfl) (by kernel_rfl) (by kernel_rfl) (fun _ _ _ h => h) ?_ hHeld ?_
  rotate_left
  · refine Or.inl ⟨by rfl, fun w hSw => ?_⟩; skip; go_simp; (try with_reducible rfl)
  try simp only [Act.put, List.setIfInBounds_toArray, List.set_cons_zero, List.set_cons_succ]
  refine wpAnyH_take (i := 8) (oi := { dst := some 83, op := Op.load 3 (Operand.tmp 82), type := 3, pos := "cpu.go:145", after := #[{ on := 7, ground := Ground.data }], guard := none }) (v := ?_) rfl (by kernel_rfl) (by kernel_rfl) (by kernel_rfl) (fun _ _ _ h => h) ?_ hHeld ?_
  rotate_left
  · refine Or.inl ⟨by rfl, fun w' hSw => ?_⟩; have c0 : w'.cell? ⟨w.heap.size, 1, none⟩ = some (.int .i64 ra) := Blk.cellv hSw 1 _ rfl; go_simp; (try with_reducible rfl)
  try simp only [Act.put, List.setIfInBounds_toArray, List.set_cons_zero, List.set_cons_succ]
  refine wpAnyH_take (i := 9) (oi := { dst := some 84, op := Op.nilCheck (Operand.tmp 81), type := 0, pos := "cpu.go:145", after := #[{ on := 6, ground := Ground.data }], guard := none }) (v := ?_) rfl (by kernel_rfl) (by kernel_rfl) (by kernel_rfl) (fun _ _ _ h => h) ?_ hHeld ?_
  rotate_left
  · refine Or.inl ⟨by rfl, fun w hSw => ?_⟩; skip; go_simp; (try with_reducible rfl)
  try simp only [Act.put, List.setIfInBounds_toArray, List.set_cons_zero, List.set_cons_succ]
  refine wpAnyH_take (i := 10) (oi := { dst := some 85, op := Op.fieldAddr 109 (Operand.tmp 84) 0, type := 0, pos := "cpu.go:145", after := #[{ on := 9, ground := Ground.data }], guard := none }) (v := ?_) rfl (by kernel_rfl) (by kernel_rfl) (by kernel_rfl) (fun _ _ _ h => h) ?_ hHeld ?_
  rotate_left
  · refine Or.inl ⟨by rfl, fun w hSw => ?_⟩; skip; go_simp; (try with_reducible rfl)
  try simp only [Act.put, List.setIfInBounds_toArray, List.set_cons_zero, List.set_cons_succ]
  refine wpAnyH_take (i := 11) (oi := { dst := some 86, op := Op.indexAddr 39 (Operand.tmp 85) (Operand.tmp 83), type := 0, pos := "cpu.go:145", after := #[{ on := 10, ground := Ground.data }, { on := 8, ground := Ground.data }], guard := none }) (v := ?_) rfl (by kernel_rfl) (by kernel_rfl) (by kernel_rfl) (fun _ _ _ h => h) ?_ hHeld ?_
  rotate_left
  · refine Or.inl ⟨by rfl, fun w hSw => ?_⟩; skip; go_simp; (try with_reducible rfl)
  try simp only [Act.put, List.setIfInBounds_toArray, List.set_cons_zero, List.set_cons_succ]
  refine wpAnyH_take (i := 13) (oi := { dst := some 88, op := Op.fieldAddr 94 (Operand.tmp 3) 3, type := 0, pos := "cpu.go:145", after := #[], guard := none }) (v := ?_) rfl (by kernel_rfl) (by kernel_rfl) (by kernel_rfl) (fun _ _ _ h => h) ?_ hHeld ?_
  rotate_left
  · refine Or.inl ⟨by rfl, fun w hSw => ?_⟩; skip; go_simp; (try with_reducible rfl)
  try simp only [Act.put, List.setIfInBounds_toArray, List.set_cons_zero, List.set_cons_succ]
  refine wpAnyH_take (i := 14) (oi := { dst := some 89, op := Op.load 3 (Operand.tmp 88), type := 3, pos := "cpu.go:145", after := #[{ on := 13, ground := Ground.data }], guard := none }) (v := ?_) rfl (by kernel_rfl) (by kernel_rfl) (by kernel_rfl) (fun _ _ _ h => h) ?_ hHeld ?_
  rotate_left
  · refine Or.inl ⟨by rfl, fun w' hSw => ?_⟩; have c0 : w'.cell? ⟨w.heap.size, 3, none⟩ = some (.int .i64 im) := Blk.cellv hSw 3 _ rfl; go_simp; (try with_reducible rfl)
  try simp only [Act.put, List.setIfInBounds_toArray, List.set_cons_zero, List.set_cons_succ]
  refine wpAnyH_take (i := 15) (oi := { dst := some 90, op := Op.convert 3 28 (Operand.tmp 89), type := 28, pos := "cpu.go:145", after := #[{ on := 14, ground := Ground.data }], guard := none }) (v := ?_) rfl (by kernel_rfl) (by kernel_rfl) (by kernel_rfl) (fun _ _ _ h => h) ?_ hHeld ?_
  rotate_left
  · refine Or.inl ⟨by rfl, fun w hSw => ?_⟩; have c0 := hw1.out; go_simp; (try with_reducible rfl)
  try simp only [Act.put, List.setIfInBounds_toArray, List.set_cons_zero, List.set_cons_succ]
  refine wpAnyH_take (i := 17) (oi := { dst := some 92, op := Op.nilCheck (Operand.tmp 75), type := 0, pos := "cpu.go:145", after := #[{ on := 0, ground := Ground.data }], guard := none }) (v := ?_) rfl (by kernel_rfl) (by kernel_rfl) (by kernel_rfl) (fun _ _ _ h => h) ?_ hHeld ?_
  rotate_left
  · refine Or.inl ⟨by rfl, fun w hSw => ?_⟩; skip; go_simp; (try with_reducible rfl)
  try simp only [Act.put, List.setIfInBounds_toArray, List.set_cons_zero, List.set_cons_succ]
  refine wpAnyH_take (i := 18) (oi := { dst := some 93, op := Op.fieldAddr 109 (Operand.tmp 92) 0, type := 0, pos := "cpu.go:145", after := #[{ on := 17, ground := Ground.data }], guard := none }) (v := ?_) rfl (by kernel_rfl) (by kernel_rfl) (by kernel_rfl) (fun _ _ _ h => h) ?_ hHeld ?_
  rotate_left
  · refine Or.inl ⟨by rfl, fun w hSw => ?_⟩; skip; go_simp; (try with_reducible rfl)
  try simp only [Act.put, List.setIfInBounds_toArray, List.set_cons_zero, List.set_cons_succ]
  refine wpAnyH_ready (rs := [12]) (by kernel_rfl) (by simp) ?_
  refine AllReadyH.cons (o := { dst := some 87, op := Op.load 28 (Operand.tmp 86), type := 28, pos := "cpu.go:145", after := #[{ on := 11, ground := Ground.data }], guard := none }) rfl (fun Kc hKc => ?_) AllReadyH.nil
  have c0 := HD.cellv _ _ hra.out
  go_simp
  refine hKc.out _ _ (hHeld) (fun hHeld => ?_)
  clear hKc Kc
  try simp only [Act.put, List.setIfInBounds_toArray, List.set_cons_zero, List.set_cons_succ]
  refine wpAnyH_ready (rs := [16]) (by kernel_rfl) (by simp) ?_
  refine AllReadyH.cons (o := { dst := some 91, op := Op.call { callee := Callee.value (Operand.func 78), args := #[Operand.tmp 78, Operand.tmp 80, Operand.tmp 87, Operand.tmp 90], argTypes := #[138, 3, 28, 28] }, type := 28, pos := "cpu.go:145", after := #[{ on := 3, ground := Ground.data }, { on := 5, ground := Ground.data }, { on := 12, ground := Ground.data }, { on := 15, ground := Ground.data }], guard := none }) rfl (fun Kc hKc => ?_) AllReadyH.nil
  go_simp
  refine (reckon_c g x d 13 rav i2 _ HD hR u0 u1 i20 i21 (by omega) (by omega)).mono ?_
  rintro r wq ⟨⟨v, rfl⟩, d1, HD, hd1, _, hsp, OR⟩
  have hR1 : d1.R.length = 16 := by rw [hd1]; exact hR
  have hsz := dg_size x d1 hR1
  have C1 := C1.out OR ngx.symm ngm.symm ngp.symm ngt.symm
  have O := O.trans OR (fun i h => .inl (.inl h))
  refine hKc.out _ _ (Out.Blk.out hHeld OR (fun h => by omega)) (fun hHeld => ?_)
  clear hKc Kc
  try simp only [Act.put, List.setIfInBounds_toArray, List.set_cons_zero, List.set_cons_succ]
  refine wpAnyH_take (i := 19) (oi := { dst := some 94, op := Op.indexAddr 39 (Operand.tmp 93) (Operand.tmp 77), type := 0, pos := "cpu.go:145", after := #[{ on := 18, ground := Ground.data }, { on := 2, ground := Ground.data }, { on := 0, ground := Ground.phase }, { on := 1, ground := Ground.phase }, { on := 2, ground := Ground.phase }, { on := 3, ground := Ground.phase }, { on := 4, ground := Ground.phase }, { on := 5, ground := Ground.phase }, { on := 6, ground := Ground.phase }, { on := 7, ground := Ground.phase }, { on := 8, ground := Ground.phase }, { on := 9, ground := Ground.phase }, { on := 10, ground := Ground.phase }, { on := 11, ground := Ground.phase }, { on := 12, ground := Ground.phase }, { on := 13, ground := Ground.phase }, { on := 14, ground := Ground.phase }, { on := 15, ground := Ground.phase }, { on := 16, ground := Ground.phase }], guard := none }) (v := ?_) rfl (by kernel_rfl) (by kernel_rfl) (by kernel_rfl) (fun _ _ _ h => h) ?_ hHeld ?_
  rotate_left
  · refine Or.inl ⟨by rfl, fun w hSw => ?_⟩; skip; go_simp; (try with_reducible rfl)
  try simp only [Act.put, List.setIfInBounds_toArray, List.set_cons_zero, List.set_cons_succ]
  refine wpAnyH_ready (rs := [20]) (by kernel_rfl) (by simp) ?_
  refine AllReadyH.cons (o := { dst := none, op := Op.store 28 (Operand.tmp 94) (Operand.tmp 91), type := 0, pos := "cpu.go:145", after := #[{ on := 19, ground := Ground.data }, { on := 16, ground := Ground.data }, { on := 16, ground := Ground.chain }, { on := 0, ground := Ground.phase }, { on := 1, ground := Ground.phase }, { on := 2, ground := Ground.phase }, { on := 3, ground := Ground.phase }, { on := 4, ground := Ground.phase }, { on := 5, ground := Ground.phase }, { on := 6, ground := Ground.phase }, { on := 7, ground := Ground.phase }, { on := 8, ground := Ground.phase }, { on := 9, ground := Ground.phase }, { on := 10, ground := Ground.phase }, { on := 11, ground := Ground.phase }, { on := 12, ground := Ground.phase }, { on := 13, ground := Ground.phase }, { on := 14, ground := Ground.phase }, { on := 15, ground := Ground.phase }, { on := 16, ground := Ground.phase }], guard := none }) rfl (fun Kc hKc => ?_) AllReadyH.nil
  refine step_of (by rfl) (wp_set 28 (.tmp 94) (.tmp 91) (by rfl) g (2 + ra) (by rfl) (.int .u32 _) rfl (by rfl) 140 (dg x _) HD size_u32' (by rw [hsz]; omega) ?_)
  intro wS kS gS sS
  rw [dg_set x _ hR1 ra (by omega)] at kS
  have OS := Out.of_grown gS (S := fun i => i = g) (fun k e => by injection e with e; exact e.symm)
  refine hKc.out _ _ (Out.Blk.out hHeld OS (fun h => by omega)) (fun hHeld => ?_)
  clear hKc Kc
  try simp only [Act.put]
  refine wpAnyH_done (by kernel_rfl) ?_ _
  have C2 := C1.out OS ngx.symm ngm.symm ngp.symm ngt.symm
  have O2 := O.trans OS (fun i h => .inl (.inl h))
  clear hHeld OS
  go_wp2_with fail
  go_ret
  exact ⟨⟨_, rfl⟩, _, X, m, kS, ds_len hR1, C2, O2, .inl rfl⟩

set_option maxRecDepth 100000 in
set_option maxHeartbeats 4000000 in
theorem do_14 (g x gm gp gt n ra rb : Nat) (d : Dn) (X : List Int) (l : List En) (m im : Int) (w : World) (HD : Blk w g 140 (dg x d)) (C : CS w x gm gp gt n X l m) (hl : l.length ≤ 8) (hR : d.R.length = 16) (hr : ∀ i : Nat, 0 ≤ d.R[i]?.getD 0 ∧ d.R[i]?.getD 0 < 4294967296) (hX : ∀ i : Nat, 0 ≤ X[i]?.getD 0 ∧ X[i]?.getD 0 < 4294967296) (ha : ra < 16) (hb : rb < 16) (ht : d.tc = 0) (p0 : 0 ≤ d.pc) (p1 : d.pc < 4294967296) :
    Calls Try.prog 72 #[.pointer (some ⟨g, 0, none⟩), .agg (ins 14 ra rb im)] w fun r w' => IsU r ∧ St g x gm gp gt n d X l w w' := by
  obtain ⟨rv, hrv⟩ : ∃ rv, d.R[rb]?.getD 0 = rv := ⟨_, rfl⟩
  obtain ⟨rav, hrav⟩ : ∃ rav, d.R[ra]?.getD 0 = rav := ⟨_, rfl⟩
  obtain ⟨v0, v1⟩ : 0 ≤ rv ∧ rv < 4294967296 := by rw [← hrv]; exact hr _
  obtain ⟨u0, u1⟩ : 0 ≤ rav ∧ rav < 4294967296 := by rw [← hrav]; exact hr _
  obtain ⟨i2, hw1⟩ : ∃ i2, IntKind.u32.wrap im = i2 := ⟨_, rfl⟩
  obtain ⟨i20, i21⟩ : 0 ≤ i2 ∧ i2 < 4294967296 := by rw [← hw1]; exact u32_rng _
  replace hw1 := Lib.hid hw1
  have hrb := dg_reg x d hR rb hb
  rw [hrv] at hrb
  replace hrb := Lib.hid hrb
  have hra := dg_reg x d hR ra ha
  rw [hrav] at hra
  replace hra := Lib.hid hra
  have hsz := dg_size x d hR
  have hb' : (rb : Int) < 16 := by omega
  have ha' : (ra : Int) < 16 := by omega
  have e18 : Hid ((dg x d)[18]? = some (.int .u32 d.pc)) := Lib.hid (by rw [show 18 = 18 + 0 from rfl, dg_rest x d hR 0]; rfl)
  have CH := Lib.hid C
  obtain ⟨ngx, ngm, ngp, ngt⟩ := C.ne_ HD
  have zg := HD.lt
  have zgt := C.lt.2.2.2
  have zgp := C.lt.2.2.1
  have hM := Lib.hid (fun w' HD' C' => mem_14 g x gm gp gt n ra rb d X l m im w' HD' C' hl hR hX ha hb ht)
  clear C hr hX hrv hrav
  go_enter Try.func72, Try.ntmps72
  go_upto_region 1 with ((with_reducible refine wl_box rfl 94 _ rfl (ins 14 ra rb im) rfl ?_); intro w1 k1 b1 s1)
  have HD := HD.below b1
  have C1 := CH.out.below b1
  have O := Out.of_below b1 (fun i => i = g ∨ i = gt ∨ i = gp)
  have z1 := k1.lt
  have c18 : w1.cell? ⟨g, 18, none⟩ = some (.int .u32 d.pc) := HD.cellv 18 _ e18.out
  have i0 : w1.cell? ⟨w.heap.size, 0, none⟩ = some (.int .i64 14) := k1.cellv 0 _ rfl
  clear b1 CH
  go_wp2_with (first
    | (refine at_slot 101 rfl ?_; refine wl_load rfl 94 (.tmp 3) rfl w.heap.size rfl 94 (ins 14 ra rb im) _ k1 Try.underlying94 rfl (size_i _ rfl) ?_))
  refine (hM.out w1 HD C1).mono ?_
  rintro r w2 ⟨rfl, d2, X2, m2, K2, hR2, C2, O2, hok⟩
  have O2 := O.trans O2 (fun i h => .inl h)
  clear c18 i0 hM
  go_wp2_with fail
  go_ret
  exact ⟨⟨_, rfl⟩, d2, X2, m2, K2, hR2, C2, O2, hok⟩

set_option maxRecDepth 100000 in
set_option maxHeartbeats 4000000 in
theorem do_15 (g x gm gp gt n ra rb : Nat) (d : Dn) (X : List Int) (l : List En) (m im : Int) (w : World) (HD : Blk w g 140 (dg x d)) (C : CS w x gm gp gt n X l m) (hl : l.length ≤ 8) (hR : d.R.length = 16) (hr : ∀ i : Nat, 0 ≤ d.R[i]?.getD 0 ∧ d.R[i]?.getD 0 < 4294967296) (hX : ∀ i : Nat, 0 ≤ X[i]?.getD 0 ∧ X[i]?.getD 0 < 4294967296) (ha : ra < 16) (hb : rb < 16) (ht : d.tc = 0) (p0 : 0 ≤ d.pc) (p1 : d.pc < 4294967296) :
    Calls Try.prog 72 #[.pointer (some ⟨g, 0, none⟩), .agg (ins 15 ra rb im)] w fun r w' => IsU r ∧ St g x gm gp gt n d X l w w' := by
  obtain ⟨rv, hrv⟩ : ∃ rv, d.R[rb]?.getD 0 = rv := ⟨_, rfl⟩
  obtain ⟨rav, hrav⟩ : ∃ rav, d.R[ra]?.getD 0 = rav := ⟨_, rfl⟩
  obtain ⟨v0, v1⟩ : 0 ≤ rv ∧ rv < 4294967296 := by rw [← hrv]; exact hr _
  obtain ⟨u0, u1⟩ : 0 ≤ rav ∧ rav < 4294967296 := by rw [← hrav]; exact hr _
  obtain ⟨i2, hw1⟩ : ∃ i2, IntKind.u32.wrap im = i2 := ⟨_, rfl⟩
  obtain ⟨i20, i21⟩ : 0 ≤ i2 ∧ i2 < 4294967296 := by rw [← hw1]; exact u32_rng _
  replace hw1 := Lib.hid hw1
  have hrb := dg_reg x d hR rb hb
  rw [hrv] at hrb
  replace hrb := Lib.hid hrb
  have hra := dg_reg x d hR ra ha
  rw [hrav] at hra
  replace hra := Lib.hid hra
  have hsz := dg_size x d hR
  have hb' : (rb : Int) < 16 := by omega
  have ha' : (ra : Int) < 16 := by omega
  have e18 : Hid ((dg x d)[18]? = some (.int .u32 d.pc)) := Lib.hid (by rw [show 18 = 18 + 0 from rfl, dg_rest x d hR 0]; rfl)
  have CH := Lib.hid C
  obtain ⟨ngx, ngm, ngp, ngt⟩ := C.ne_ HD
  have zg := HD.lt
  have zgt := C.lt.2.2.2
  have zgp := C.lt.2.2.1
  have hM := Lib.hid (fun w' HD' C' => mem_15 g x gm gp gt n ra rb d X l m im w' HD' C' hl hR hX ha hb ht)
  clear C hr hX hrv hrav
  go_enter Try.func72, Try.ntmps72
  go_upto_region 1 with ((with_reducible refine wl_box rfl 94 _ rfl (ins 15 ra rb im) rfl ?_); intro w1 k1 b1 s1)
  have HD := HD.below b1
  have C1 := CH.out.below b1
  have O := Out.of_below b1 (fun i => i = g ∨ i = gt ∨ i = gp)
  have z1 := k1.lt
  have c18 : w1.cell? ⟨g, 18, none⟩ = some (.int .u32 d.pc) := HD.cellv 18 _ e18.out
  have i0 : w1.cell? ⟨w.heap.size, 0, none⟩ = some (.int .i64 15) := k1.cellv 0 _ rfl
  clear b1 CH
  go_wp2_with (first
    | (refine at_slot 101 rfl ?_; refine wl_load rfl 94 (.tmp 3) rfl w.heap.size rfl 94 (ins 15 ra rb im) _ k1 Try.underlying94 rfl (size_i _ rfl) ?_))
  refine (hM.out w1 HD C1).mono ?_
  rintro r w2 ⟨rfl, d2, X2, m2, K2, hR2, C2, O2, hok⟩
  have O2 := O.trans O2 (fun i h => .inl h)
  clear c18 i0 hM
  go_wp2_with fail
  go_ret
  exact ⟨⟨_, rfl⟩, d2, X2, m2, K2, hR2, C2, O2, hok⟩

set_option maxRecDepth 100000 in
set_option maxHeartbeats 4000000 in
theorem do_16 (g x gm gp gt n ra rb : Nat) (d : Dn) (X : List Int) (l : List En) (m im : Int) (w : World) (HD : Blk w g 140 (dg x d)) (C : CS w x gm gp gt n X l m) (hl : l.length ≤ 8) (hR : d.R.length = 16) (hr : ∀ i : Nat, 0 ≤ d.R[i]?.getD 0 ∧ d.R[i]?.getD 0 < 4294967296) (hX : ∀ i : Nat, 0 ≤ X[i]?.getD 0 ∧ X[i]?.getD 0 < 4294967296) (ha : ra < 16) (hb : rb < 16) (ht : d.tc = 0) (p0 : 0 ≤ d.pc) (p1 : d.pc < 4294967296) :
    Calls Try.prog 72 #[.pointer (some ⟨g, 0, none⟩), .agg (ins 16 ra rb im)] w fun r w' => IsU r ∧ St g x gm gp gt n d X l w w' := by
  obtain ⟨rv, hrv⟩ : ∃ rv, d.R[rb]?.getD 0 = rv := ⟨_, rfl⟩
  obtain ⟨rav, hrav⟩ : ∃ rav, d.R[ra]?.getD 0 = rav := ⟨_, rfl⟩
  obtain ⟨v0, v1⟩ : 0 ≤ rv ∧ rv < 4294967296 := by rw [← hrv]; exact hr _
  obtain ⟨u0, u1⟩ : 0 ≤ rav ∧ rav < 4294967296 := by rw [← hrav]; exact hr _
  obtain ⟨i2, hw1⟩ : ∃ i2, IntKind.u32.wrap im = i2 := ⟨_, rfl⟩
  obtain ⟨i20, i21⟩ : 0 ≤ i2 ∧ i2 < 4294967296 := by rw [← hw1]; exact u32_rng _
  replace hw1 := Lib.hid hw1
  have hrb := dg_reg x d hR rb hb
  rw [hrv] at hrb
  replace hrb := Lib.hid hrb
  have hra := dg_reg x d hR ra ha
  rw [hrav] at hra
  replace hra := Lib.hid hra
  have hsz := dg_size x d hR
  have hb' : (rb : Int) < 16 := by omega
  have ha' : (ra : Int) < 16 := by omega
  have e18 : Hid ((dg x d)[18]? = some (.int .u32 d.pc)) := Lib.hid (by rw [show 18 = 18 + 0 from rfl, dg_rest x d hR 0]; rfl)
  have CH := Lib.hid C
  obtain ⟨ngx, ngm, ngp, ngt⟩ := C.ne_ HD
  have zg := HD.lt
  have zgt := C.lt.2.2.2
  have zgp := C.lt.2.2.1
  have hM := Lib.hid (fun w' HD' C' => mem_16 g x gm gp gt n ra rb d X l m im w' HD' C' hl hR hX ha hb ht)
  clear C hr hX hrv hrav
  go_enter Try.func72, Try.ntmps72
  go_upto_region 1 with ((with_reducible refine wl_box rfl 94 _ rfl (ins 16 ra rb im) rfl ?_); intro w1 k1 b1 s1)
  have HD := HD.below b1
  have C1 := CH.out.below b1
  have O := Out.of_below b1 (fun i => i = g ∨ i = gt ∨ i = gp)
  have z1 := k1.lt
  have c18 : w1.cell? ⟨g, 18, none⟩ = some (.int .u32 d.pc) := HD.cellv 18 _ e18.out
  have i0 : w1.cell? ⟨w.heap.size, 0, none⟩ = some (.int .i64 16) := k1.cellv 0 _ rfl
  clear b1 CH
  go_wp2_with (first
    | (refine at_slot 101 rfl ?_; refine wl_load rfl 94 (.tmp 3) rfl w.heap.size rfl 94 (ins 16 ra rb im) _ k1 Try.underlying94 rfl (size_i _ rfl) ?_))
  refine (hM.out w1 HD C1).mono ?_
  rintro r w2 ⟨rfl, d2, X2, m2, K2, hR2, C2, O2, hok⟩
  have O2 := O.trans O2 (fun i h => .inl h)
  clear c18 i0 hM
  go_wp2_with fail
  go_ret
  exact ⟨⟨_, rfl⟩, d2, X2, m2, K2, hR2, C2, O2, hok⟩

set_option maxRecDepth 100000 in
set_option maxHeartbeats 4000000 in
theorem do_17 (g x gm gp gt n ra rb : Nat) (d : Dn) (X : List Int) (l : List En) (m im : Int) (w : World) (HD : Blk w g 140 (dg x d)) (C : CS w x gm gp gt n X l m) (hl : l.length ≤ 8) (hR : d.R.length = 16) (hr : ∀ i : Nat, 0 ≤ d.R[i]?.getD 0 ∧ d.R[i]?.getD 0 < 4294967296) (hX : ∀ i : Nat, 0 ≤ X[i]?.getD 0 ∧ X[i]?.getD 0 < 4294967296) (ha : ra < 16) (hb : rb < 16) (ht : d.tc = 0) (p0 : 0 ≤ d.pc) (p1 : d.pc < 4294967296) :
    Calls Try.prog 72 #[.pointer (some ⟨g, 0, none⟩), .agg (ins 17 ra rb im)] w fun r w' => IsU r ∧ St g x gm gp gt n d X l w w' := by
  obtain ⟨rv, hrv⟩ : ∃ rv, d.R[rb]?.getD 0 = rv := ⟨_, rfl⟩
  obtain ⟨rav, hrav⟩ : ∃ rav, d.R[ra]?.getD 0 = rav := ⟨_, rfl⟩
  obtain ⟨v0, v1⟩ : 0 ≤ rv ∧ rv < 4294967296 := by rw [← hrv]; exact hr _
  obtain ⟨u0, u1⟩ : 0 ≤ rav ∧ rav < 4294967296 := by rw [← hrav]; exact hr _
  obtain ⟨i2, hw1⟩ : ∃ i2, IntKind.u32.wrap im = i2 := ⟨_, rfl⟩
  obtain ⟨i20, i21⟩ : 0 ≤ i2 ∧ i2 < 4294967296 := by rw [← hw1]; exact u32_rng _
  replace hw1 := Lib.hid hw1
  have hrb := dg_reg x d hR rb hb
  rw [hrv] at hrb
  replace hrb := Lib.hid hrb
  have hra := dg_reg x d hR ra ha
  rw [hrav] at hra
  replace hra := Lib.hid hra
  have hsz := dg_size x d hR
  have hb' : (rb : Int) < 16 := by omega
  have ha' : (ra : Int) < 16 := by omega
  have e18 : Hid ((dg x d)[18]? = some (.int .u32 d.pc)) := Lib.hid (by rw [show 18 = 18 + 0 from rfl, dg_rest x d hR 0]; rfl)
  have CH := Lib.hid C
  obtain ⟨ngx, ngm, ngp, ngt⟩ := C.ne_ HD
  have zg := HD.lt
  have zgt := C.lt.2.2.2
  have zgp := C.lt.2.2.1
  have hM := Lib.hid (fun w' HD' C' => mem_17 g x gm gp gt n ra rb d X l m im w' HD' C' hl hR hX ha hb ht)
  clear C hr hX hrv hrav
  go_enter Try.func72, Try.ntmps72
  go_upto_region 1 with ((with_reducible refine wl_box rfl 94 _ rfl (ins 17 ra rb im) rfl ?_); intro w1 k1 b1 s1)
  have HD := HD.below b1
  have C1 := CH.out.below b1
  have O := Out.of_below b1 (fun i => i = g ∨ i = gt ∨ i = gp)
  have z1 := k1.lt
  have c18 : w1.cell? ⟨g, 18, none⟩ = some (.int .u32 d.pc) := HD.cellv 18 _ e18.out
  have i0 : w1.cell? ⟨w.heap.size, 0, none⟩ = some (.int .i64 17) := k1.cellv 0 _ rfl
  clear b1 CH
  go_wp2_with (first
    | (refine at_slot 101 rfl ?_; refine wl_load rfl 94 (.tmp 3) rfl w.heap.size rfl 94 (ins 17 ra rb im) _ k1 Try.underlying94 rfl (size_i _ rfl) ?_))
  refine (hM.out w1 HD C1).mono ?_
  rintro r w2 ⟨rfl, d2, X2, m2, K2, hR2, C2, O2, hok⟩
  have O2 := O.trans O2 (fun i h => .inl h)
  clear c18 i0 hM
  go_wp2_with fail
  go_ret
  exact ⟨⟨_, rfl⟩, d2, X2, m2, K2, hR2, C2, O2, hok⟩

set_option maxRecDepth 100000 in
set_option maxHeartbeats 4000000 in
theorem do_18 (g x gm gp gt n ra rb : Nat) (d : Dn) (X : List Int) (l : List En) (m im : Int) (w : World) (HD : Blk w g 140 (dg x d)) (C : CS w x gm gp gt n X l m) (hl : l.length ≤ 8) (hR : d.R.length = 16) (hr : ∀ i : Nat, 0 ≤ d.R[i]?.getD 0 ∧ d.R[i]?.getD 0 < 4294967296) (hX : ∀ i : Nat, 0 ≤ X[i]?.getD 0 ∧ X[i]?.getD 0 < 4294967296) (ha : ra < 16) (hb : rb < 16) (ht : d.tc = 0) (p0 : 0 ≤ d.pc) (p1 : d.pc < 4294967296) :
    Calls Try.prog 72 #[.pointer (some ⟨g, 0, none⟩), .agg (ins 18 ra rb im)] w fun r w' => IsU r ∧ St g x gm gp gt n d X l w w' := by
  obtain ⟨rv, hrv⟩ : ∃ rv, d.R[rb]?.getD 0 = rv := ⟨_, rfl⟩
  obtain ⟨rav, hrav⟩ : ∃ rav, d.R[ra]?.getD 0 = rav := ⟨_, rfl⟩
  obtain ⟨v0, v1⟩ : 0 ≤ rv ∧ rv < 4294967296 := by rw [← hrv]; exact hr _
  obtain ⟨u0, u1⟩ : 0 ≤ rav ∧ rav < 4294967296 := by rw [← hrav]; exact hr _
  obtain ⟨i2, hw1⟩ : ∃ i2, IntKind.u32.wrap im = i2 := ⟨_, rfl⟩
  obtain ⟨i20, i21⟩ : 0 ≤ i2 ∧ i2 < 4294967296 := by rw [← hw1]; exact u32_rng _
  replace hw1 := Lib.hid hw1
  have hrb := dg_reg x d hR rb hb
  rw [hrv] at hrb
  replace hrb := Lib.hid hrb
  have hra := dg_reg x d hR ra ha
  rw [hrav] at hra
  replace hra := Lib.hid hra
  have hsz := dg_size x d hR
  have hb' : (rb : Int) < 16 := by omega
  have ha' : (ra : Int) < 16 := by omega
  have e18 : Hid ((dg x d)[18]? = some (.int .u32 d.pc)) := Lib.hid (by rw [show 18 = 18 + 0 from rfl, dg_rest x d hR 0]; rfl)
  have CH := Lib.hid C
  obtain ⟨ngx, ngm, ngp, ngt⟩ := C.ne_ HD
  have zg := HD.lt
  have zgt := C.lt.2.2.2
  have zgp := C.lt.2.2.1
  have hJ := Lib.hid (fun w' HD' => jumps_c g x ra rb d 18 im w' HD' hR hr ha hb (by omega) (by omega))
  clear C hr hX hrv hrav
  go_enter Try.func72, Try.ntmps72
  go_upto_region 1 with ((with_reducible refine wl_box rfl 94 _ rfl (ins 18 ra rb im) rfl ?_); intro w1 k1 b1 s1)
  have HD := HD.below b1
  have C1 := CH.out.below b1
  have O := Out.of_below b1 (fun i => i = g ∨ i = gt ∨ i = gp)
  have z1 := k1.lt
  have c18 : w1.cell? ⟨g, 18, none⟩ = some (.int .u32 d.pc) := HD.cellv 18 _ e18.out
  have i0 : w1.cell? ⟨w.heap.size, 0, none⟩ = some (.int .i64 18) := k1.cellv 0 _ rfl
  clear b1 CH
  go_wp2_with (first
    | (refine at_slot 128 rfl ?_; refine wl_load rfl 94 (.tmp 3) rfl w.heap.size rfl 94 (ins 18 ra rb im) _ k1 Try.underlying94 rfl (size_i _ rfl) ?_))
  refine (hJ.out w1 HD).mono ?_
  rintro r w2 ⟨⟨bz, rfl⟩, b2⟩
  have HD := HD.below b2
  have C1 := C1.below b2
  have O := O.trans (Out.of_below b2 (fun i => i = g ∨ i = gt ∨ i = gp)) (fun i h => .inl h)
  have k1 := k1.below b2
  have z1 := k1.lt
  have i0 : w2.cell? ⟨w.heap.size, 0, none⟩ = some (.int .i64 18) := k1.cellv 0 _ rfl
  clear hJ b2
  cases bz with
  | false =>
    clear c18
    have c18 := i0
    go_wp2_with fail
    go_ret
    exact ⟨⟨_, rfl⟩, d, X, m, HD, hR, C1, O, .inl rfl⟩
  | true =>
    go_upto_region 26 with fail
    clear c18 i0
    have k1 := k1.drew
    have HD := HD.drew
    have C1 := C1.below (bl_drew (bl_refl w2))
    have O := O.trans (Out.of_below (bl_drew (bl_refl w2)) (fun i => i = g ∨ i = gt ∨ i = gp)) (fun i h => .inl h)
    refine wp_region_held_drew (S := (fun w' => Blk w' w.heap.size 94 (ins 18 ra rb im) ∧ Blk w' g 140 (dg x d))) (by kernel_rfl) (⟨k1, HD⟩) (fun hHeld => ?_)
    refine wpAnyH_take (i := 0) (oi := { dst := some 130, op := Op.move (Operand.tmp 5), type := 150, pos := "cpu.go:154", after := #[], guard := none }) (v := ?_) rfl (by kernel_rfl) (by kernel_rfl) (by kernel_rfl) (fun _ _ _ h => h) ?_ hHeld ?_
    rotate_left
    · refine Or.inl ⟨by rfl, fun w hSw => ?_⟩; skip; go_simp; (try with_reducible rfl)
    try simp only [Act.put, List.setIfInBounds_toArray, List.set_cons_zero, List.set_cons_succ]
    refine wpAnyH_take (i := 1) (oi := { dst := some 131, op := Op.nilCheck (Operand.tmp 130), type := 0, pos := "cpu.go:154", after := #[{ on := 0, ground := Ground.data }], guard := none }) (v := ?_) rfl (by kernel_rfl) (by kernel_rfl) (by kernel_rfl) (fun _ _ _ h => h) ?_ hHeld ?_
    rotate_left
    · refine Or.inl ⟨by rfl, fun w hSw => ?_⟩; skip; go_simp; (try with_reducible rfl)
    try simp only [Act.put, List.setIfInBounds_toArray, List.set_cons_zero, List.set_cons_succ]
    refine wpAnyH_take (i := 2) (oi := { dst := some 132, op := Op.fieldAddr 109 (Operand.tmp 131) 1, type := 0, pos := "cpu.go:154", after := #[{ on := 1, ground := Ground.data }], guard := none }) (v := ?_) rfl (by kernel_rfl) (by kernel_rfl) (by kernel_rfl) (fun _ _ _ h => h) ?_ hHeld ?_
    rotate_left
    · refine Or.inl ⟨by rfl, fun w hSw => ?_⟩; skip; go_simp; (try with_reducible rfl)
    try simp only [Act.put, List.setIfInBounds_toArray, List.set_cons_zero, List.set_cons_succ]
    refine wpAnyH_take (i := 3) (oi := { dst := some 133, op := Op.load 28 (Operand.tmp 132), type := 28, pos := "cpu.go:154", after := #[{ on := 2, ground := Ground.data }], guard := none }) (v := ?_) rfl (by kernel_rfl) (by kernel_rfl) (by kernel_rfl) (fun _ _ _ h => h) ?_ hHeld ?_
    rotate_left
    · refine Or.inl ⟨by rfl, fun w' hSw => ?_⟩; have c0 : w'.cell? ⟨g, 18, none⟩ = some (.int .u32 d.pc) := hSw.2.cellv 18 _ e18.out; go_simp; (try with_reducible rfl)
    try simp only [Act.put, List.setIfInBounds_toArray, List.set_cons_zero, List.set_cons_succ]
    refine wpAnyH_take (i := 4) (oi := { dst := some 134, op := Op.fieldAddr 94 (Operand.tmp 3) 3, type := 0, pos := "cpu.go:154", after := #[], guard := none }) (v := ?_) rfl (by kernel_rfl) (by kernel_rfl) (by kernel_rfl) (fun _ _ _ h => h) ?_ hHeld ?_
    rotate_left
    · refine Or.inl ⟨by rfl, fun w hSw => ?_⟩; skip; go_simp; (try with_reducible rfl)
    try simp only [Act.put, List.setIfInBounds_toArray, List.set_cons_zero, List.set_cons_succ]
    refine wpAnyH_take (i := 5) (oi := { dst := some 135, op := Op.load 3 (Operand.tmp 134), type := 3, pos := "cpu.go:154", after := #[{ on := 4, ground := Ground.data }], guard := none }) (v := ?_) rfl (by kernel_rfl) (by kernel_rfl) (by kernel_rfl) (fun _ _ _ h => h) ?_ hHeld ?_
    rotate_left
    · refine Or.inl ⟨by rfl, fun w' hSw => ?_⟩; have c0 : w'.cell? ⟨w.heap.size, 3, none⟩ = some (.int .i64 im) := hSw.1.cellv 3 _ rfl; go_simp; (try with_reducible rfl)
    try simp only [Act.put, List.setIfInBounds_toArray, List.set_cons_zero, List.set_cons_succ]
    refine wpAnyH_take (i := 6) (oi := { dst := some 136, op := Op.convert 3 28 (Operand.tmp 135), type := 28, pos := "cpu.go:154", after := #[{ on := 5, ground := Ground.data }], guard := none }) (v := ?_) rfl (by kernel_rfl) (by kernel_rfl) (by kernel_rfl) (fun _ _ _ h => h) ?_ hHeld ?_
    rotate_left
    · refine Or.inl ⟨by rfl, fun w hSw => ?_⟩; have c0 := hw1.out; go_simp; (try with_reducible rfl)
    try simp only [Act.put, List.setIfInBounds_toArray, List.set_cons_zero, List.set_cons_succ]
    refine wpAnyH_take (i := 7) (oi := { dst := some 137, op := Op.binOp BinOp.mul 28 (Operand.const (Value.int IntKind.u32 4)) (Operand.tmp 136) 28, type := 28, pos := "cpu.go:154", after := #[{ on := 6, ground := Ground.data }], guard := none }) (v := ?_) rfl (by kernel_rfl) (by kernel_rfl) (by kernel_rfl) (fun _ _ _ h => h) ?_ hHeld ?_
    rotate_left
    · refine Or.inl ⟨by rfl, fun w hSw => ?_⟩; skip; go_simp; (try with_reducible rfl)
    try simp only [Act.put, List.setIfInBounds_toArray, List.set_cons_zero, List.set_cons_succ]
    refine wpAnyH_take (i := 8) (oi := { dst := some 138, op := Op.binOp BinOp.add 28 (Operand.tmp 133) (Operand.tmp 137) 28, type := 28, pos := "cpu.go:154", after := #[{ on := 3, ground := Ground.data }, { on := 7, ground := Ground.data }], guard := none }) (v := ?_) rfl (by kernel_rfl) (by kernel_rfl) (by kernel_rfl) (fun _ _ _ h => h) ?_ hHeld ?_
    rotate_left
    · refine Or.inl ⟨by rfl, fun w hSw => ?_⟩; skip; go_simp; (try with_reducible rfl)
    try simp only [Act.put, List.setIfInBounds_toArray, List.set_cons_zero, List.set_cons_succ]
    refine wpAnyH_take (i := 9) (oi := { dst := some 6, op := Op.assign (Operand.tmp 138), type := 28, pos := "cpu.go:154", after := #[{ on := 8, ground := Ground.data }, { on := 0, ground := Ground.phase }, { on := 1, ground := Ground.phase }, { on := 2, ground := Ground.phase }, { on := 3, ground := Ground.phase }, { on := 4, ground := Ground.phase }, { on := 5, ground := Ground.phase }, { on := 6, ground := Ground.phase }, { on := 7, ground := Ground.phase }, { on := 8, ground := Ground.phase }], guard := none }) (v := ?_) rfl (by kernel_rfl) (by kernel_rfl) (by kernel_rfl) (fun _ _ _ h => h) ?_ hHeld ?_
    rotate_left
    · refine Or.inl ⟨by rfl, fun w hSw => ?_⟩; skip; go_simp; (try with_reducible rfl)
    try simp only [Act.put, List.setIfInBounds_toArray, List.set_cons_zero, List.set_cons_succ]
    refine wpAnyH_done (by kernel_rfl) ?_ _
    have k1 := hHeld.1
    have HD := hHeld.2
    clear hHeld
    generalize w2.drew = w3 at *
    have i0 : w3.cell? ⟨w.heap.size, 0, none⟩ = some (.int .i64 18) := k1.cellv 0 _ rfl
    have c18 := i0
    go_wp2_with fail
    go_ret
    exact ⟨⟨_, rfl⟩, d, X, m, HD, hR, C1, O, .inl rfl⟩

set_option maxRecDepth 100000 in
set_option maxHeartbeats 4000000 in
theorem do_19 (g x gm gp gt n ra rb : Nat) (d : Dn) (X : List Int) (l : List En) (m im : Int) (w : World) (HD : Blk w g 140 (dg x d)) (C : CS w x gm gp gt n X l m) (hl : l.length ≤ 8) (hR : d.R.length = 16) (hr : ∀ i : Nat, 0 ≤ d.R[i]?.getD 0 ∧ d.R[i]?.getD 0 < 4294967296) (hX : ∀ i : Nat, 0 ≤ X[i]?.getD 0 ∧ X[i]?.getD 0 < 4294967296) (ha : ra < 16) (hb : rb < 16) (ht : d.tc = 0) (p0 : 0 ≤ d.pc) (p1 : d.pc < 4294967296) :
    Calls Try.prog 72 #[.pointer (some ⟨g, 0, none⟩), .agg (ins 19 ra rb im)] w fun r w' => IsU r ∧ St g x gm gp gt n d X l w w' := by
  obtain ⟨rv, hrv⟩ : ∃ rv, d.R[rb]?.getD 0 = rv := ⟨_, rfl⟩
  obtain ⟨rav, hrav⟩ : ∃ rav, d.R[ra]?.getD 0 = rav := ⟨_, rfl⟩
  obtain ⟨v0, v1⟩ : 0 ≤ rv ∧ rv < 4294967296 := by rw [← hrv]; exact hr _
  obtain ⟨u0, u1⟩ : 0 ≤ rav ∧ rav < 4294967296 := by rw [← hrav]; exact hr _
  obtain ⟨i2, hw1⟩ : ∃ i2, IntKind.u32.wrap im = i2 := ⟨_, rfl⟩
  obtain ⟨i20, i21⟩ : 0 ≤ i2 ∧ i2 < 4294967296 := by rw [← hw1]; exact u32_rng _
  replace hw1 := Lib.hid hw1
  have hrb := dg_reg x d hR rb hb
  rw [hrv] at hrb
  replace hrb := Lib.hid hrb
  have hra := dg_reg x d hR ra ha
  rw [hrav] at hra
  replace hra := Lib.hid hra
  have hsz := dg_size x d hR
  have hb' : (rb : Int) < 16 := by omega
  have ha' : (ra : Int) < 16 := by omega
  have e18 : Hid ((dg x d)[18]? = some (.int .u32 d.pc)) := Lib.hid (by rw [show 18 = 18 + 0 from rfl, dg_rest x d hR 0]; rfl)
  have CH := Lib.hid C
  obtain ⟨ngx, ngm, ngp, ngt⟩ := C.ne_ HD
  have zg := HD.lt
  have zgt := C.lt.2.2.2
  have zgp := C.lt.2.2.1
  have hJ := Lib.hid (fun w' HD' => jumps_c g x ra rb d 19 im w' HD' hR hr ha hb (by omega) (by omega))
  clear C hr hX hrv hrav
  go_enter Try.func72, Try.ntmps72
  go_upto_region 1 with ((with_reducible refine wl_box rfl 94 _ rfl (ins 19 ra rb im) rfl ?_); intro w1 k1 b1 s1)
  have HD := HD.below b1
  have C1 := CH.out.below b1
  have O := Out.of_below b1 (fun i => i = g ∨ i = gt ∨ i = gp)
  have z1 := k1.lt
  have c18 : w1.cell? ⟨g, 18, none⟩ = some (.int .u32 d.pc) := HD.cellv 18 _ e18.out
  have i0 : w1.cell? ⟨w.heap.size, 0, none⟩ = some (.int .i64 19) := k1.cellv 0 _ rfl
  clear b1 CH
  go_wp2_with (first
    | (refine at_slot 128 rfl ?_; refine wl_load rfl 94 (.tmp 3) rfl w.heap.size rfl 94 (ins 19 ra rb im) _ k1 Try.underlying94 rfl (size_i _ rfl) ?_))
  refine (hJ.out w1 HD).mono ?_
  rintro r w2 ⟨⟨bz, rfl⟩, b2⟩
  have HD := HD.below b2
  have C1 := C1.below b2
  have O := O.trans (Out.of_below b2 (fun i => i = g ∨ i = gt ∨ i = gp)) (fun i h => .inl h)
  have k1 := k1.below b2
  have z1 := k1.lt
  have i0 : w2.cell? ⟨w.heap.size, 0, none⟩ = some (.int .i64 19) := k1.cellv 0 _ rfl
  clear hJ b2
  cases bz with
  | false =>
    clear c18
    have c18 := i0
    go_wp2_with fail
    go_ret
    exact ⟨⟨_, rfl⟩, d, X, m, HD, hR, C1, O, .inl rfl⟩
  | true =>
    go_upto_region 26 with fail
    clear c18 i0
    have k1 := k1.drew
    have HD := HD.drew
    have C1 := C1.below (bl_drew (bl_refl w2))
    have O := O.trans (Out.of_below (bl_drew (bl_refl w2)) (fun i => i = g ∨ i = gt ∨ i = gp)) (fun i h => .inl h)
    refine wp_region_held_drew (S := (fun w' => Blk w' w.heap.size 94 (ins 19 ra rb im) ∧ Blk w' g 140 (dg x d))) (by kernel_rfl) (⟨k1, HD⟩) (fun hHeld => ?_)
    refine wpAnyH_take (i := 0) (oi := { dst := some 130, op := Op.move (Operand.tmp 5), type := 150, pos := "cpu.go:154", after := #[], guard := none }) (v := ?_) rfl (by kernel_rfl) (by kernel_rfl) (by kernel_rfl) (fun _ _ _ h => h) ?_ hHeld ?_
    rotate_left
    · refine Or.inl ⟨by rfl, fun w hSw => ?_⟩; skip; go_simp; (try with_reducible rfl)
    try simp only [Act.put, List.setIfInBounds_toArray, List.set_cons_zero, List.set_cons_succ]
    refine wpAnyH_take (i := 1) (oi := { dst := some 131, op := Op.nilCheck (Operand.tmp 130), type := 0, pos := "cpu.go:154", after := #[{ on := 0, ground := Ground.data }], guard := none }) (v := ?_) rfl (by kernel_rfl) (by kernel_rfl) (by kernel_rfl) (fun _ _ _ h => h) ?_ hHeld ?_
    rotate_left
    · refine Or.inl ⟨by rfl, fun w hSw => ?_⟩; skip; go_simp; (try with_reducible rfl)
    try simp only [Act.put, List.setIfInBounds_toArray, List.set_cons_zero, List.set_cons_succ]
    refine wpAnyH_take (i := 2) (oi := { dst := some 132, op := Op.fieldAddr 109 (Operand.tmp 131) 1, type := 0, pos := "cpu.go:154", after := #[{ on := 1, ground := Ground.data }], guard := none }) (v := ?_) rfl (by kernel_rfl) (by kernel_rfl) (by kernel_rfl) (fun _ _ _ h => h) ?_ hHeld ?_
    rotate_left
    · refine Or.inl ⟨by rfl, fun w hSw => ?_⟩; skip; go_simp; (try with_reducible rfl)
    try simp only [Act.put, List.setIfInBounds_toArray, List.set_cons_zero, List.set_cons_succ]
    refine wpAnyH_take (i := 3) (oi := { dst := some 133, op := Op.load 28 (Operand.tmp 132), type := 28, pos := "cpu.go:154", after := #[{ on := 2, ground := Ground.data }], guard := none }) (v := ?_) rfl (by kernel_rfl) (by kernel_rfl) (by kernel_rfl) (fun _ _ _ h => h) ?_ hHeld ?_
    rotate_left
    · refine Or.inl ⟨by rfl, fun w' hSw => ?_⟩; have c0 : w'.cell? ⟨g, 18, none⟩ = some (.int .u32 d.pc) := hSw.2.cellv 18 _ e18.out; go_simp; (try with_reducible rfl)
    try simp only [Act.put, List.setIfInBounds_toArray, List.set_cons_zero, List.set_cons_succ]
    refine wpAnyH_take (i := 4) (oi := { dst := some 134, op := Op.fieldAddr 94 (Operand.tmp 3) 3, type := 0, pos := "cpu.go:154", after := #[], guard := none }) (v := ?_) rfl (by kernel_rfl) (by kernel_rfl) (by kernel_rfl) (fun _ _ _ h => h) ?_ hHeld ?_
    rotate_left
    · refine Or.inl ⟨by rfl, fun w hSw => ?_⟩; skip; go_simp; (try with_reducible rfl)
    try simp only [Act.put, List.setIfInBounds_toArray, List.set_cons_zero, List.set_cons_succ]
    refine wpAnyH_take (i := 5) (oi := { dst := some 135, op := Op.load 3 (Operand.tmp 134), type := 3, pos := "cpu.go:154", after := #[{ on := 4, ground := Ground.data }], guard := none }) (v := ?_) rfl (by kernel_rfl) (by kernel_rfl) (by kernel_rfl) (fun _ _ _ h => h) ?_ hHeld ?_
    rotate_left
    · refine Or.inl ⟨by rfl, fun w' hSw => ?_⟩; have c0 : w'.cell? ⟨w.heap.size, 3, none⟩ = some (.int .i64 im) := hSw.1.cellv 3 _ rfl; go_simp; (try with_reducible rfl)
    try simp only [Act.put, List.setIfInBounds_toArray, List.set_cons_zero, List.set_cons_succ]
    refine wpAnyH_take (i := 6) (oi := { dst := some 136, op := Op.convert 3 28 (Operand.tmp 135), type := 28, pos := "cpu.go:154", after := #[{ on := 5, ground := Ground.data }], guard := none }) (v := ?_) rfl (by kernel_rfl) (by kernel_rfl) (by kernel_rfl) (fun _ _ _ h => h) ?_ hHeld ?_
    rotate_left
    · refine Or.inl ⟨by rfl, fun w hSw => ?_⟩; have c0 := hw1.out; go_simp; (try with_reducible rfl)
    try simp only [Act.put, List.setIfInBounds_toArray, List.set_cons_zero, List.set_cons_succ]
    refine wpAnyH_take (i := 7) (oi := { dst := some 137, op := Op.binOp BinOp.mul 28 (Operand.const (Value.int IntKind.u32 4)) (Operand.tmp 136) 28, type := 28, pos := "cpu.go:154", after := #[{ on := 6, ground := Ground.data }], guard := none }) (v := ?_) rfl (by kernel_rfl) (by kernel_rfl) (by kernel_rfl) (fun _ _ _ h => h) ?_ hHeld ?_
    rotate_left
    · refine Or.inl ⟨by rfl, fun w hSw => ?_⟩; skip; go_simp; (try with_reducible rfl)
    try simp only [Act.put, List.setIfInBounds_toArray, List.set_cons_zero, List.set_cons_succ]
    refine wpAnyH_take (i := 8) (oi := { dst := some 138, op := Op.binOp BinOp.add 28 (Operand.tmp 133) (Operand.tmp 137) 28, type := 28, pos := "cpu.go:154", after := #[{ on := 3, ground := Ground.data }, { on := 7, ground := Ground.data }], guard := none }) (v := ?_) rfl (by kernel_rfl) (by kernel_rfl) (by kernel_rfl) (fun _ _ _ h => h) ?_ hHeld ?_
    rotate_left
    · refine Or.inl ⟨by rfl, fun w hSw => ?_⟩; skip; go_simp; (try with_reducible rfl)
    try simp only [Act.put, List.setIfInBounds_toArray, List.set_cons_zero, List.set_cons_succ]
    refine wpAnyH_take (i := 9) (oi := { dst := some 6, op := Op.assign (Operand.tmp 138), type := 28, pos := "cpu.go:154", after := #[{ on := 8, ground := Ground.data }, { on := 0, ground := Ground.phase }, { on := 1, ground := Ground.phase }, { on := 2, ground := Ground.phase }, { on := 3, ground := Ground.phase }, { on := 4, ground := Ground.phase }, { on := 5, ground := Ground.phase }, { on := 6, ground := Ground.phase }, { on := 7, ground := Ground.phase }, { on := 8, ground := Ground.phase }], guard := none }) (v := ?_) rfl (by kernel_rfl) (by kernel_rfl) (by kernel_rfl) (fun _ _ _ h => h) ?_ hHeld ?_
    rotate_left
    · refine Or.inl ⟨by rfl, fun w hSw => ?_⟩; skip; go_simp; (try with_reducible rfl)
    try simp only [Act.put, List.setIfInBounds_toArray, List.set_cons_zero, List.set_cons_succ]
    refine wpAnyH_done (by kernel_rfl) ?_ _
    have k1 := hHeld.1
    have HD := hHeld.2
    clear hHeld
    generalize w2.drew = w3 at *
    have i0 : w3.cell? ⟨w.heap.size, 0, none⟩ = some (.int .i64 19) := k1.cellv 0 _ rfl
    have c18 := i0
    go_wp2_with fail
    go_ret
    exact ⟨⟨_, rfl⟩, d, X, m, HD, hR, C1, O, .inl rfl⟩

set_option maxRecDepth 100000 in
set_option maxHeartbeats 4000000 in
theorem do_20 (g x gm gp gt n ra rb : Nat) (d : Dn) (X : List Int) (l : List En) (m im : Int) (w : World) (HD : Blk w g 140 (dg x d)) (C : CS w x gm gp gt n X l m) (hl : l.length ≤ 8) (hR : d.R.length = 16) (hr : ∀ i : Nat, 0 ≤ d.R[i]?.getD 0 ∧ d.R[i]?.getD 0 < 4294967296) (hX : ∀ i : Nat, 0 ≤ X[i]?.getD 0 ∧ X[i]?.getD 0 < 4294967296) (ha : ra < 16) (hb : rb < 16) (ht : d.tc = 0) (p0 : 0 ≤ d.pc) (p1 : d.pc < 4294967296) :
    Calls Try.prog 72 #[.pointer (some ⟨g, 0, none⟩), .agg (ins 20 ra rb im)] w fun r w' => IsU r ∧ St g x gm gp gt n d X l w w' := by
  obtain ⟨rv, hrv⟩ : ∃ rv, d.R[rb]?.getD 0 = rv := ⟨_, rfl⟩
  obtain ⟨rav, hrav⟩ : ∃ rav, d.R[ra]?.getD 0 = rav := ⟨_, rfl⟩
  obtain ⟨v0, v1⟩ : 0 ≤ rv ∧ rv < 4294967296 := by rw [← hrv]; exact hr _
  obtain ⟨u0, u1⟩ : 0 ≤ rav ∧ rav < 4294967296 := by rw [← hrav]; exact hr _
  obtain ⟨i2, hw1⟩ : ∃ i2, IntKind.u32.wrap im = i2 := ⟨_, rfl⟩
  obtain ⟨i20, i21⟩ : 0 ≤ i2 ∧ i2 < 4294967296 := by rw [← hw1]; exact u32_rng _
  replace hw1 := Lib.hid hw1
  have hrb := dg_reg x d hR rb hb
  rw [hrv] at hrb
  replace hrb := Lib.hid hrb
  have hra := dg_reg x d hR ra ha
  rw [hrav] at hra
  replace hra := Lib.hid hra
  have hsz := dg_size x d hR
  have hb' : (rb : Int) < 16 := by omega
  have ha' : (ra : Int) < 16 := by omega
  have e18 : Hid ((dg x d)[18]? = some (.int .u32 d.pc)) := Lib.hid (by rw [show 18 = 18 + 0 from rfl, dg_rest x d hR 0]; rfl)
  have CH := Lib.hid C
  obtain ⟨ngx, ngm, ngp, ngt⟩ := C.ne_ HD
  have zg := HD.lt
  have zgt := C.lt.2.2.2
  have zgp := C.lt.2.2.1
  have hJ := Lib.hid (fun w' HD' => jumps_c g x ra rb d 20 im w' HD' hR hr ha hb (by omega) (by omega))
  clear C hr hX hrv hrav
  go_enter Try.func72, Try.ntmps72
  go_upto_region 1 with ((with_reducible refine wl_box rfl 94 _ rfl (ins 20 ra rb im) rfl ?_); intro w1 k1 b1 s1)
  have HD := HD.below b1
  have C1 := CH.out.below b1
  have O := Out.of_below b1 (fun i => i = g ∨ i = gt ∨ i = gp)
  have z1 := k1.lt
  have c18 : w1.cell? ⟨g, 18, none⟩ = some (.int .u32 d.pc) := HD.cellv 18 _ e18.out
  have i0 : w1.cell? ⟨w.heap.size, 0, none⟩ = some (.int .i64 20) := k1.cellv 0 _ rfl
  clear b1 CH
  go_wp2_with (first
    | (refine at_slot 128 rfl ?_; refine wl_load rfl 94 (.tmp 3) rfl w.heap.size rfl 94 (ins 20 ra rb im) _ k1 Try.underlying94 rfl (size_i _ rfl) ?_))
  refine (hJ.out w1 HD).mono ?_
  rintro r w2 ⟨⟨bz, rfl⟩, b2⟩
  have HD := HD.below b2
  have C1 := C1.below b2
  have O := O.trans (Out.of_below b2 (fun i => i = g ∨ i = gt ∨ i = gp)) (fun i h => .inl h)
  have k1 := k1.below b2
  have z1 := k1.lt
  have i0 : w2.cell? ⟨w.heap.size, 0, none⟩ = some (.int .i64 20) := k1.cellv 0 _ rfl
  clear hJ b2
  cases bz with
  | false =>
    clear c18
    have c18 := i0
    go_wp2_with fail
    go_ret
    exact ⟨⟨_, rfl⟩, d, X, m, HD, hR, C1, O, .inl rfl⟩
  | true =>
    go_upto_region 26 with fail
    clear c18 i0
    have k1 := k1.drew
    have HD := HD.drew
    have C1 := C1.below (bl_drew (bl_refl w2))
    have O := O.trans (Out.of_below (bl_drew (bl_refl w2)) (fun i => i = g ∨ i = gt ∨ i = gp)) (fun i h => .inl h)
    refine wp_region_held_drew (S := (fun w' => Blk w' w.heap.size 94 (ins 20 ra rb im) ∧ Blk w' g 140 (dg x d))) (by kernel_rfl) (⟨k1, HD⟩) (fun hHeld => ?_)
    refine wpAnyH_take (i := 0) (oi := { dst := some 130, op := Op.move (Operand.tmp 5), type := 150, pos := "cpu.go:154", after := #[], guard := none }) (v := ?_) rfl (by kernel_rfl) (by kernel_rfl) (by kernel_rfl) (fun _ _ _ h => h) ?_ hHeld ?_
    rotate_left
    · refine Or.inl ⟨by rfl, fun w hSw => ?_⟩; skip; go_simp; (try with_reducible rfl)
    try simp only [Act.put, List.setIfInBounds_toArray, List.set_cons_zero, List.set_cons_succ]
    refine wpAnyH_take (i := 1) (oi := { dst := some 131, op := Op.nilCheck (Operand.tmp 130), type := 0, pos := "cpu.go:154", after := #[{ on := 0, ground := Ground.data }], guard := none }) (v := ?_) rfl (by kernel_rfl) (by kernel_rfl) (by kernel_rfl) (fun _ _ _ h => h) ?_ hHeld ?_
    rotate_left
    · refine Or.inl ⟨by rfl, fun w hSw => ?_⟩; skip; go_simp; (try with_reducible rfl)
    try simp only [Act.put, List.setIfInBounds_toArray, List.set_cons_zero, List.set_cons_succ]
    refine wpAnyH_take (i := 2) (oi := { dst := some 132, op := Op.fieldAddr 109 (Operand.tmp 131) 1, type := 0, pos := "cpu.go:154", after := #[{ on := 1, ground := Ground.data }], guard := none }) (v := ?_) rfl (by kernel_rfl) (by kernel_rfl) (by kernel_rfl) (fun _ _ _ h => h) ?_ hHeld ?_
    rotate_left
    · refine Or.inl ⟨by rfl, fun w hSw => ?_⟩; skip; go_simp; (try with_reducible rfl)
    try simp only [Act.put, List.setIfInBounds_toArray, List.set_cons_zero, List.set_cons_succ]
    refine wpAnyH_take (i := 3) (oi := { dst := some 133, op := Op.load 28 (Operand.tmp 132), type := 28, pos := "cpu.go:154", after := #[{ on := 2, ground := Ground.data }], guard := none }) (v := ?_) rfl (by kernel_rfl) (by kernel_rfl) (by kernel_rfl) (fun _ _ _ h => h) ?_ hHeld ?_
    rotate_left
    · refine Or.inl ⟨by rfl, fun w' hSw => ?_⟩; have c0 : w'.cell? ⟨g, 18, none⟩ = some (.int .u32 d.pc) := hSw.2.cellv 18 _ e18.out; go_simp; (try with_reducible rfl)
    try simp only [Act.put, List.setIfInBounds_toArray, List.set_cons_zero, List.set_cons_succ]
    refine wpAnyH_take (i := 4) (oi := { dst := some 134, op := Op.fieldAddr 94 (Operand.tmp 3) 3, type := 0, pos := "cpu.go:154", after := #[], guard := none }) (v := ?_) rfl (by kernel_rfl) (by kernel_rfl) (by kernel_rfl) (fun _ _ _ h => h) ?_ hHeld ?_
    rotate_left
    · refine Or.inl ⟨by rfl, fun w hSw => ?_⟩; skip; go_simp; (try with_reducible rfl)
    try simp only [Act.put, List.setIfInBounds_toArray, List.set_cons_zero, List.set_cons_succ]
    refine wpAnyH_take (i := 5) (oi := { dst := some 135, op := Op.load 3 (Operand.tmp 134), type := 3, pos := "cpu.go:154", after := #[{ on := 4, ground := Ground.data }], guard := none }) (v := ?_) rfl (by kernel_rfl) (by kernel_rfl) (by kernel_rfl) (fun _ _ _ h => h) ?_ hHeld ?_
    rotate_left
    · refine Or.inl ⟨by rfl, fun w' hSw => ?_⟩; have c0 : w'.cell? ⟨w.heap.size, 3, none⟩ = some (.int .i64 im) := hSw.1.cellv 3 _ rfl; go_simp; (try with_reducible rfl)
    try simp only [Act.put, List.setIfInBounds_toArray, List.set_cons_zero, List.set_cons_succ]
    refine wpAnyH_take (i := 6) (oi := { dst := some 136, op := Op.convert 3 28 (Operand.tmp 135), type := 28, pos := "cpu.go:154", after := #[{ on := 5, ground := Ground.data }], guard := none }) (v := ?_) rfl (by kernel_rfl) (by kernel_rfl) (by kernel_rfl) (fun _ _ _ h => h) ?_ hHeld ?_
    rotate_left
    · refine Or.inl ⟨by rfl, fun w hSw => ?_⟩; have c0 := hw1.out; go_simp; (try with_reducible rfl)
    try simp only [Act.put, List.setIfInBounds_toArray, List.set_cons_zero, List.set_cons_succ]
    refine wpAnyH_take (i := 7) (oi := { dst := some 137, op := Op.binOp BinOp.mul 28 (Operand.const (Value.int IntKind.u32 4)) (Operand.tmp 136) 28, type := 28, pos := "cpu.go:154", after := #[{ on := 6, ground := Ground.data }], guard := none }) (v := ?_) rfl (by kernel_rfl) (by kernel_rfl) (by kernel_rfl) (fun _ _ _ h => h) ?_ hHeld ?_
    rotate_left
    · refine Or.inl ⟨by rfl, fun w hSw => ?_⟩; skip; go_simp; (try with_reducible rfl)
    try simp only [Act.put, List.setIfInBounds_toArray, List.set_cons_zero, List.set_cons_succ]
    refine wpAnyH_take (i := 8) (oi := { dst := some 138, op := Op.binOp BinOp.add 28 (Operand.tmp 133) (Operand.tmp 137) 28, type := 28, pos := "cpu.go:154", after := #[{ on := 3, ground := Ground.data }, { on := 7, ground := Ground.data }], guard := none }) (v := ?_) rfl (by kernel_rfl) (by kernel_rfl) (by kernel_rfl) (fun _ _ _ h => h) ?_ hHeld ?_
    rotate_left
    · refine Or.inl ⟨by rfl, fun w hSw => ?_⟩; skip; go_simp; (try with_reducible rfl)
    try simp only [Act.put, List.setIfInBounds_toArray, List.set_cons_zero, List.set_cons_succ]
    refine wpAnyH_take (i := 9) (oi := { dst := some 6, op := Op.assign (Operand.tmp 138), type := 28, pos := "cpu.go:154", after := #[{ on := 8, ground := Ground.data }, { on := 0, ground := Ground.phase }, { on := 1, ground := Ground.phase }, { on := 2, ground := Ground.phase }, { on := 3, ground := Ground.phase }, { on := 4, ground := Ground.phase }, { on := 5, ground := Ground.phase }, { on := 6, ground := Ground.phase }, { on := 7, ground := Ground.phase }, { on := 8, ground := Ground.phase }], guard := none }) (v := ?_) rfl (by kernel_rfl) (by kernel_rfl) (by kernel_rfl) (fun _ _ _ h => h) ?_ hHeld ?_
    rotate_left
    · refine Or.inl ⟨by rfl, fun w hSw => ?_⟩; skip; go_simp; (try with_reducible rfl)
    try simp only [Act.put, List.setIfInBounds_toArray, List.set_cons_zero, List.set_cons_succ]
    refine wpAnyH_done (by kernel_rfl) ?_ _
    have k1 := hHeld.1
    have HD := hHeld.2
    clear hHeld
    generalize w2.drew = w3 at *
    have i0 : w3.cell? ⟨w.heap.size, 0, none⟩ = some (.int .i64 20) := k1.cellv 0 _ rfl
    have c18 := i0
    go_wp2_with fail
    go_ret
    exact ⟨⟨_, rfl⟩, d, X, m, HD, hR, C1, O, .inl rfl⟩

set_option maxRecDepth 100000 in
set_option maxHeartbeats 4000000 in
theorem do_21 (g x gm gp gt n ra rb : Nat) (d : Dn) (X : List Int) (l : List En) (m im : Int) (w : World) (HD : Blk w g 140 (dg x d)) (C : CS w x gm gp gt n X l m) (hl : l.length ≤ 8) (hR : d.R.length = 16) (hr : ∀ i : Nat, 0 ≤ d.R[i]?.getD 0 ∧ d.R[i]?.getD 0 < 4294967296) (hX : ∀ i : Nat, 0 ≤ X[i]?.getD 0 ∧ X[i]?.getD 0 < 4294967296) (ha : ra < 16) (hb : rb < 16) (ht : d.tc = 0) (p0 : 0 ≤ d.pc) (p1 : d.pc < 4294967296) :
    Calls Try.prog 72 #[.pointer (some ⟨g, 0, none⟩), .agg (ins 21 ra rb im)] w fun r w' => IsU r ∧ St g x gm gp gt n d X l w w' := by
  obtain ⟨rv, hrv⟩ : ∃ rv, d.R[rb]?.getD 0 = rv := ⟨_, rfl⟩
  obtain ⟨rav, hrav⟩ : ∃ rav, d.R[ra]?.getD 0 = rav := ⟨_, rfl⟩
  obtain ⟨v0, v1⟩ : 0 ≤ rv ∧ rv < 4294967296 := by rw [← hrv]; exact hr _
  obtain ⟨u0, u1⟩ : 0 ≤ rav ∧ rav < 4294967296 := by rw [← hrav]; exact hr _
  obtain ⟨i2, hw1⟩ : ∃ i2, IntKind.u32.wrap im = i2 := ⟨_, rfl⟩
  obtain ⟨i20, i21⟩ : 0 ≤ i2 ∧ i2 < 4294967296 := by rw [← hw1]; exact u32_rng _
  replace hw1 := Lib.hid hw1
  have hrb := dg_reg x d hR rb hb
  rw [hrv] at hrb
  replace hrb := Lib.hid hrb
  have hra := dg_reg x d hR ra ha
  rw [hrav] at hra
  replace hra := Lib.hid hra
  have hsz := dg_size x d hR
  have hb' : (rb : Int) < 16 := by omega
  have ha' : (ra : Int) < 16 := by omega
  have e18 : Hid ((dg x d)[18]? = some (.int .u32 d.pc)) := Lib.hid (by rw [show 18 = 18 + 0 from rfl, dg_rest x d hR 0]; rfl)
  have CH := Lib.hid C
  obtain ⟨ngx, ngm, ngp, ngt⟩ := C.ne_ HD
  have zg := HD.lt
  have zgt := C.lt.2.2.2
  have zgp := C.lt.2.2.1
  have hJ := Lib.hid (fun w' HD' => jumps_c g x ra rb d 21 im w' HD' hR hr ha hb (by omega) (by omega))
  clear C hr hX hrv hrav
  go_enter Try.func72, Try.ntmps72
  go_upto_region 1 with ((with_reducible refine wl_box rfl 94 _ rfl (ins 21 ra rb im) rfl ?_); intro w1 k1 b1 s1)
  have HD := HD.below b1
  have C1 := CH.out.below b1
  have O := Out.of_below b1 (fun i => i = g ∨ i = gt ∨ i = gp)
  have z1 := k1.lt
  have c18 : w1.cell? ⟨g, 18, none⟩ = some (.int .u32 d.pc) := HD.cellv 18 _ e18.out
  have i0 : w1.cell? ⟨w.heap.size, 0, none⟩ = some (.int .i64 21) := k1.cellv 0 _ rfl
  clear b1 CH
  go_wp2_with (first
    | (refine at_slot 128 rfl ?_; refine wl_load rfl 94 (.tmp 3) rfl w.heap.size rfl 94 (ins 21 ra rb im) _ k1 Try.underlying94 rfl (size_i _ rfl) ?_))
  refine (hJ.out w1 HD).mono ?_
  rintro r w2 ⟨⟨bz, rfl⟩, b2⟩
  have HD := HD.below b2
  have C1 := C1.below b2
  have O := O.trans (Out.of_below b2 (fun i => i = g ∨ i = gt ∨ i = gp)) (fun i h => .inl h)
  have k1 := k1.below b2
  have z1 := k1.lt
  have i0 : w2.cell? ⟨w.heap.size, 0, none⟩ = some (.int .i64 21) := k1.cellv 0 _ rfl
  clear hJ b2
  cases bz with
  | false =>
    clear c18
    have c18 := i0
    go_wp2_with fail
    go_ret
    exact ⟨⟨_, rfl⟩, d, X, m, HD, hR, C1, O, .inl rfl⟩
  | true =>
    go_upto_region 26 with fail
    clear c18 i0
    have k1 := k1.drew
    have HD := HD.drew
    have C1 := C1.below (bl_drew (bl_refl w2))
    have O := O.trans (Out.of_below (bl_drew (bl_refl w2)) (fun i => i = g ∨ i = gt ∨ i = gp)) (fun i h => .inl h)
    refine wp_region_held_drew (S := (fun w' => Blk w' w.heap.size 94 (ins 21 ra rb im) ∧ Blk w' g 140 (dg x d))) (by kernel_rfl) (⟨k1, HD⟩) (fun hHeld => ?_)
    refine wpAnyH_take (i := 0) (oi := { dst := some 130, op := Op.move (Operand.tmp 5), type := 150, pos := "cpu.go:154", after := #[], guard := none }) (v := ?_) rfl (by kernel_rfl) (by kernel_rfl) (by kernel_rfl) (fun _ _ _ h => h) ?_ hHeld ?_
    rotate_left
    · refine Or.inl ⟨by rfl, fun w hSw => ?_⟩; skip; go_simp; (try with_reducible rfl)
    try simp only [Act.put, List.setIfInBounds_toArray, List.set_cons_zero, List.set_cons_succ]
    refine wpAnyH_take (i := 1) (oi := { dst := some 131, op := Op.nilCheck (Operand.tmp 130), type := 0, pos := "cpu.go:154", after := #[{ on := 0, ground := Ground.data }], guard := none }) (v := ?_) rfl (by kernel_rfl) (by kernel_rfl) (by kernel_rfl) (fun _ _ _ h => h) ?_ hHeld ?_
    rotate_left
    · refine Or.inl ⟨by rfl, fun w hSw => ?_⟩; skip; go_simp; (try with_reducible rfl)
    try simp only [Act.put, List.setIfInBounds_toArray, List.set_cons_zero, List.set_cons_succ]
    refine wpAnyH_take (i := 2) (oi := { dst := some 132, op := Op.fieldAddr 109 (Operand.tmp 131) 1, type := 0, pos := "cpu.go:154", after := #[{ on := 1, ground := Ground.data }], guard := none }) (v := ?_) rfl (by kernel_rfl) (by kernel_rfl) (by kernel_rfl) (fun _ _ _ h => h) ?_ hHeld ?_
    rotate_left
    · refine Or.inl ⟨by rfl, fun w hSw => ?_⟩; skip; go_simp; (try with_reducible rfl)
    try simp only [Act.put, List.setIfInBounds_toArray, List.set_cons_zero, List.set_cons_succ]
    refine wpAnyH_take (i := 3) (oi := { dst := some 133, op := Op.load 28 (Operand.tmp 132), type := 28, pos := "cpu.go:154", after := #[{ on := 2, ground := Ground.data }], guard := none }) (v := ?_) rfl (by kernel_rfl) (by kernel_rfl) (by kernel_rfl) (fun _ _ _ h => h) ?_ hHeld ?_
    rotate_left
    · refine Or.inl ⟨by rfl, fun w' hSw => ?_⟩; have c0 : w'.cell? ⟨g, 18, none⟩ = some (.int .u32 d.pc) := hSw.2.cellv 18 _ e18.out; go_simp; (try with_reducible rfl)
    try simp only [Act.put, List.setIfInBounds_toArray, List.set_cons_zero, List.set_cons_succ]
    refine wpAnyH_take (i := 4) (oi := { dst := some 134, op := Op.fieldAddr 94 (Operand.tmp 3) 3, type := 0, pos := "cpu.go:154", after := #[], guard := none }) (v := ?_) rfl (by kernel_rfl) (by kernel_rfl) (by kernel_rfl) (fun _ _ _ h => h) ?_ hHeld ?_
    rotate_left
    · refine Or.inl ⟨by rfl, fun w hSw => ?_⟩; skip; go_simp; (try with_reducible rfl)
    try simp only [Act.put, List.setIfInBounds_toArray, List.set_cons_zero, List.set_cons_succ]
    refine wpAnyH_take (i := 5) (oi := { dst := some 135, op := Op.load 3 (Operand.tmp 134), type := 3, pos := "cpu.go:154", after := #[{ on := 4, ground := Ground.data }], guard := none }) (v := ?_) rfl (by kernel_rfl) (by kernel_rfl) (by kernel_rfl) (fun _ _ _ h => h) ?_ hHeld ?_
    rotate_left
    · refine Or.inl ⟨by rfl, fun w' hSw => ?_⟩; have c0 : w'.cell? ⟨w.heap.size, 3, none⟩ = some (.int .i64 im) := hSw.1.cellv 3 _ rfl; go_simp; (try with_reducible rfl)
    try simp only [Act.put, List.setIfInBounds_toArray, List.set_cons_zero, List.set_cons_succ]
    refine wpAnyH_take (i := 6) (oi := { dst := some 136, op := Op.convert 3 28 (Operand.tmp 135), type := 28, pos := "cpu.go:154", after := #[{ on := 5, ground := Ground.data }], guard := none }) (v := ?_) rfl (by kernel_rfl) (by kernel_rfl) (by kernel_rfl) (fun _ _ _ h => h) ?_ hHeld ?_
    rotate_left
    · refine Or.inl ⟨by rfl, fun w hSw => ?_⟩; have c0 := hw1.out; go_simp; (try with_reducible rfl)
    try simp only [Act.put, List.setIfInBounds_toArray, List.set_cons_zero, List.set_cons_succ]
    refine wpAnyH_take (i := 7) (oi := { dst := some 137, op := Op.binOp BinOp.mul 28 (Operand.const (Value.int IntKind.u32 4)) (Operand.tmp 136) 28, type := 28, pos := "cpu.go:154", after := #[{ on := 6, ground := Ground.data }], guard := none }) (v := ?_) rfl (by kernel_rfl) (by kernel_rfl) (by kernel_rfl) (fun _ _ _ h => h) ?_ hHeld ?_
    rotate_left
    · refine Or.inl ⟨by rfl, fun w hSw => ?_⟩; skip; go_simp; (try with_reducible rfl)
    try simp only [Act.put, List.setIfInBounds_toArray, List.set_cons_zero, List.set_cons_succ]
    refine wpAnyH_take (i := 8) (oi := { dst := some 138, op := Op.binOp BinOp.add 28 (Operand.tmp 133) (Operand.tmp 137) 28, type := 28, pos := "cpu.go:154", after := #[{ on := 3, ground := Ground.data }, { on := 7, ground := Ground.data }], guard := none }) (v := ?_) rfl (by kernel_rfl) (by kernel_rfl) (by kernel_rfl) (fun _ _ _ h => h) ?_ hHeld ?_
    rotate_left
    · refine Or.inl ⟨by rfl, fun w hSw => ?_⟩; skip; go_simp; (try with_reducible rfl)
    try simp only [Act.put, List.setIfInBounds_toArray, List.set_cons_zero, List.set_cons_succ]
    refine wpAnyH_take (i := 9) (oi := { dst := some 6, op := Op.assign (Operand.tmp 138), type := 28, pos := "cpu.go:154", after := #[{ on := 8, ground := Ground.data }, { on := 0, ground := Ground.phase }, { on := 1, ground := Ground.phase }, { on := 2, ground := Ground.phase }, { on := 3, ground := Ground.phase }, { on := 4, ground := Ground.phase }, { on := 5, ground := Ground.phase }, { on := 6, ground := Ground.phase }, { on := 7, ground := Ground.phase }, { on := 8, ground := Ground.phase }], guard := none }) (v := ?_) rfl (by kernel_rfl) (by kernel_rfl) (by kernel_rfl) (fun _ _ _ h => h) ?_ hHeld ?_
    rotate_left
    · refine Or.inl ⟨by rfl, fun w hSw => ?_⟩; skip; go_simp; (try with_reducible rfl)
    try simp only [Act.put, List.setIfInBounds_toArray, List.set_cons_zero, List.set_cons_succ]
    refine wpAnyH_done (by kernel_rfl) ?_ _
    have k1 := hHeld.1
    have HD := hHeld.2
    clear hHeld
    generalize w2.drew = w3 at *
    have i0 : w3.cell? ⟨w.heap.size, 0, none⟩ = some (.int .i64 21) := k1.cellv 0 _ rfl
    have c18 := i0
    go_wp2_with fail
    go_ret
    exact ⟨⟨_, rfl⟩, d, X, m, HD, hR, C1, O, .inl rfl⟩

set_option maxRecDepth 100000 in
set_option maxHeartbeats 4000000 in
theorem do_22 (g x gm gp gt n ra rb : Nat) (d : Dn) (X : List Int) (l : List En) (m im : Int) (w : World) (HD : Blk w g 140 (dg x d)) (C : CS w x gm gp gt n X l m) (hl : l.length ≤ 8) (hR : d.R.length = 16) (hr : ∀ i : Nat, 0 ≤ d.R[i]?.getD 0 ∧ d.R[i]?.getD 0 < 4294967296) (hX : ∀ i : Nat, 0 ≤ X[i]?.getD 0 ∧ X[i]?.getD 0 < 4294967296) (ha : ra < 16) (hb : rb < 16) (ht : d.tc = 0) (p0 : 0 ≤ d.pc) (p1 : d.pc < 4294967296) :
    Calls Try.prog 72 #[.pointer (some ⟨g, 0, none⟩), .agg (ins 22 ra rb im)] w fun r w' => IsU r ∧ St g x gm gp gt n d X l w w' := by
  obtain ⟨rv, hrv⟩ : ∃ rv, d.R[rb]?.getD 0 = rv := ⟨_, rfl⟩
  obtain ⟨rav, hrav⟩ : ∃ rav, d.R[ra]?.getD 0 = rav := ⟨_, rfl⟩
  obtain ⟨v0, v1⟩ : 0 ≤ rv ∧ rv < 4294967296 := by rw [← hrv]; exact hr _
  obtain ⟨u0, u1⟩ : 0 ≤ rav ∧ rav < 4294967296 := by rw [← hrav]; exact hr _
  obtain ⟨i2, hw1⟩ : ∃ i2, IntKind.u32.wrap im = i2 := ⟨_, rfl⟩
  obtain ⟨i20, i21⟩ : 0 ≤ i2 ∧ i2 < 4294967296 := by rw [← hw1]; exact u32_rng _
  replace hw1 := Lib.hid hw1
  have hrb := dg_reg x d hR rb hb
  rw [hrv] at hrb
  replace hrb := Lib.hid hrb
  have hra := dg_reg x d hR ra ha
  rw [hrav] at hra
  replace hra := Lib.hid hra
  have hsz := dg_size x d hR
  have hb' : (rb : Int) < 16 := by omega
  have ha' : (ra : Int) < 16 := by omega
  have e18 : Hid ((dg x d)[18]? = some (.int .u32 d.pc)) := Lib.hid (by rw [show 18 = 18 + 0 from rfl, dg_rest x d hR 0]; rfl)
  have CH := Lib.hid C
  obtain ⟨ngx, ngm, ngp, ngt⟩ := C.ne_ HD
  have zg := HD.lt
  have zgt := C.lt.2.2.2
  have zgp := C.lt.2.2.1
  have hJ := Lib.hid (fun w' HD' => jumps_c g x ra rb d 22 im w' HD' hR hr ha hb (by omega) (by omega))
  clear C hr hX hrv hrav
  go_enter Try.func72, Try.ntmps72
  go_upto_region 1 with ((with_reducible refine wl_box rfl 94 _ rfl (ins 22 ra rb im) rfl ?_); intro w1 k1 b1 s1)
  have HD := HD.below b1
  have C1 := CH.out.below b1
  have O := Out.of_below b1 (fun i => i = g ∨ i = gt ∨ i = gp)
  have z1 := k1.lt
  have c18 : w1.cell? ⟨g, 18, none⟩ = some (.int .u32 d.pc) := HD.cellv 18 _ e18.out
  have i0 : w1.cell? ⟨w.heap.size, 0, none⟩ = some (.int .i64 22) := k1.cellv 0 _ rfl
  clear b1 CH
  go_wp2_with (first
    | (refine at_slot 128 rfl ?_; refine wl_load rfl 94 (.tmp 3) rfl w.heap.size rfl 94 (ins 22 ra rb im) _ k1 Try.underlying94 rfl (size_i _ rfl) ?_))
  refine (hJ.out w1 HD).mono ?_
  rintro r w2 ⟨⟨bz, rfl⟩, b2⟩
  have HD := HD.below b2
  have C1 := C1.below b2
  have O := O.trans (Out.of_below b2 (fun i => i = g ∨ i = gt ∨ i = gp)) (fun i h => .inl h)
  have k1 := k1.below b2
  have z1 := k1.lt
  have i0 : w2.cell? ⟨w.heap.size, 0, none⟩ = some (.int .i64 22) := k1.cellv 0 _ rfl
  clear hJ b2
  cases bz with
  | false =>
    clear c18
    have c18 := i0
    go_upto_region 28 with fail
    clear c18 i0
    have k1 := k1.drew
    have HD := HD.drew
    have C1 := C1.below (bl_drew (bl_refl w2))
    have O := O.trans (Out.of_below (bl_drew (bl_refl w2)) (fun i => i = g ∨ i = gt ∨ i = gp)) (fun i h => .inl h)
    refine wp_region_held_drew (S := (fun w' => Blk w' w.heap.size 94 (ins 22 ra rb im))) (by kernel_rfl) (k1) (fun hHeld => ?_)
    refine wpAnyH_take (i := 0) (oi := { dst := some 142, op := Op.move (Operand.tmp 5), type := 150, pos := "cpu.go:157", after := #[], guard := none }) (v := ?_) rfl (by kernel_rfl) (by kernel_rfl) (by kernel_rfl) (fun _ _ _ h => h) ?_ hHeld ?_
    rotate_left
    · refine Or.inl ⟨by rfl, fun w hSw => ?_⟩; skip; go_simp; (try with_reducible rfl)
    try simp only [Act.put, List.setIfInBounds_toArray, List.set_cons_zero, List.set_cons_succ]
    refine wpAnyH_take (i := 1) (oi := { dst := some 143, op := Op.move (Operand.tmp 5), type := 150, pos := "cpu.go:157", after := #[], guard := none }) (v := ?_) rfl (by kernel_rfl) (by kernel_rfl) (by kernel_rfl) (fun _ _ _ h => h) ?_ hHeld ?_
    rotate_left
    · refine Or.inl ⟨by rfl, fun w hSw => ?_⟩; skip; go_simp; (try with_reducible rfl)
    try simp only [Act.put, List.setIfInBounds_toArray, List.set_cons_zero, List.set_cons_succ]
    refine wpAnyH_take (i := 2) (oi := { dst := some 144, op := Op.nilCheck (Operand.tmp 143), type := 0, pos := "cpu.go:157", after := #[{ on := 1, ground := Ground.data }], guard := none }) (v := ?_) rfl (by kernel_rfl) (by kernel_rfl) (by kernel_rfl) (fun _ _ _ h => h) ?_ hHeld ?_
    rotate_left
    · refine Or.inl ⟨by rfl, fun w hSw => ?_⟩; skip; go_simp; (try with_reducible rfl)
    try simp only [Act.put, List.setIfInBounds_toArray, List.set_cons_zero, List.set_cons_succ]
    refine wpAnyH_take (i := 3) (oi := { dst := some 145, op := Op.fieldAddr 109 (Operand.tmp 144) 1, type := 0, pos := "cpu.go:157", after := #[{ on := 2, ground := Ground.data }], guard := none }) (v := ?_) rfl (by kernel_rfl) (by kernel_rfl) (by kernel_rfl) (fun _ _ _ h => h) ?_ hHeld ?_
    rotate_left
    · refine Or.inl ⟨by rfl, fun w hSw => ?_⟩; skip; go_simp; (try with_reducible rfl)
    try simp only [Act.put, List.setIfInBounds_toArray, List.set_cons_zero, List.set_cons_succ]
    refine wpAnyH_take (i := 6) (oi := { dst := some 148, op := Op.nilCheck (Operand.tmp 142), type := 0, pos := "cpu.go:157", after := #[{ on := 0, ground := Ground.data }], guard := none }) (v := ?_) rfl (by kernel_rfl) (by kernel_rfl) (by kernel_rfl) (fun _ _ _ h => h) ?_ hHeld ?_
    rotate_left
    · refine Or.inl ⟨by rfl, fun w hSw => ?_⟩; skip; go_simp; (try with_reducible rfl)
    try simp only [Act.put, List.setIfInBounds_toArray, List.set_cons_zero, List.set_cons_succ]
    refine wpAnyH_take (i := 7) (oi := { dst := some 149, op := Op.fieldAddr 109 (Operand.tmp 148) 0, type := 0, pos := "cpu.go:157", after := #[{ on := 6, ground := Ground.data }], guard := none }) (v := ?_) rfl (by kernel_rfl) (by kernel_rfl) (by kernel_rfl) (fun _ _ _ h => h) ?_ hHeld ?_
    rotate_left
    · refine Or.inl ⟨by rfl, fun w hSw => ?_⟩; skip; go_simp; (try with_reducible rfl)
    try simp only [Act.put, List.setIfInBounds_toArray, List.set_cons_zero, List.set_cons_succ]
    refine wpAnyH_ready (rs := [4]) (by kernel_rfl) (by simp) ?_
    refine AllReadyH.cons (o := { dst := some 146, op := Op.load 28 (Operand.tmp 145), type := 28, pos := "cpu.go:157", after := #[{ on := 3, ground := Ground.data }], guard := none }) rfl (fun Kc hKc => ?_) AllReadyH.nil
    have c0 := HD.cellv _ _ e18.out
    go_simp
    refine hKc.out _ _ (hHeld) (fun hHeld => ?_)
    clear hKc Kc
    try simp only [Act.put, List.setIfInBounds_toArray, List.set_cons_zero, List.set_cons_succ]
    refine wpAnyH_take (i := 5) (oi := { dst := some 147, op := Op.binOp BinOp.add 28 (Operand.tmp 146) (Operand.const (Value.int IntKind.u32 4)) 28, type := 28, pos := "cpu.go:157", after := #[{ on := 4, ground := Ground.data }], guard := none }) (v := ?_) rfl (by kernel_rfl) (by kernel_rfl) (by kernel_rfl) (fun _ _ _ h => h) ?_ hHeld ?_
    rotate_left
    · refine Or.inl ⟨by rfl, fun w hSw => ?_⟩; skip; go_simp; (try with_reducible rfl)
    try simp only [Act.put, List.setIfInBounds_toArray, List.set_cons_zero, List.set_cons_succ]
    refine wpAnyH_take (i := 8) (oi := { dst := some 150, op := Op.indexAddr 39 (Operand.tmp 149) (Operand.const (Value.int IntKind.i64 15)), type := 0, pos := "cpu.go:157", after := #[{ on := 7, ground := Ground.data }, { on := 0, ground := Ground.phase }, { on := 1, ground := Ground.phase }, { on := 2, ground := Ground.phase }, { on := 3, ground := Ground.phase }, { on := 4, ground := Ground.phase }, { on := 5, ground := Ground.phase }], guard := none }) (v := ?_) rfl (by kernel_rfl) (by kernel_rfl) (by kernel_rfl) (fun _ _ _ h => h) ?_ hHeld ?_
    rotate_left
    · refine Or.inl ⟨by rfl, fun w hSw => ?_⟩; skip; go_simp; (try with_reducible rfl)
    try simp only [Act.put, List.setIfInBounds_toArray, List.set_cons_zero, List.set_cons_succ]
    refine wpAnyH_ready (rs := [9]) (by kernel_rfl) (by simp) ?_
    refine AllReadyH.cons (o := { dst := none, op := Op.store 28 (Operand.tmp 150) (Operand.tmp 147), type := 0, pos := "cpu.go:157", after := #[{ on := 8, ground := Ground.data }, { on := 5, ground := Ground.data }, { on := 0, ground := Ground.phase }, { on := 1, ground := Ground.phase }, { on := 2, ground := Ground.phase }, { on := 3, ground := Ground.phase }, { on := 4, ground := Ground.phase }, { on := 5, ground := Ground.phase }], guard := none }) rfl (fun Kc hKc => ?_) AllReadyH.nil
    refine step_of (by rfl) (wp_set 28 (.tmp 150) (.tmp 147) (by rfl) g (2 + 15) (by rfl) (.int .u32 _) rfl (by rfl) 140 (dg x _) HD size_u32' (by rw [hsz]; omega) ?_)
    intro wS kS gS sS
    rw [dg_set x _ hR 15 (by omega)] at kS
    have OS := Out.of_grown gS (S := fun i => i = g) (fun k e => by injection e with e; exact e.symm)
    refine hKc.out _ _ (Out.Blk.out hHeld OS (fun h => by omega)) (fun hHeld => ?_)
    clear hKc Kc
    try simp only [Act.put]
    refine wpAnyH_done (by kernel_rfl) ?_ _
    have C2 := C1.out OS ngx.symm ngm.symm ngp.symm ngt.symm
    have O2 := O.trans OS (fun i h => .inl (.inl h))
    clear hHeld OS
    go_wp2_with fail
    go_ret
    exact ⟨⟨_, rfl⟩, _, X, m, kS, ds_len hR, C2, O2, .inl rfl⟩
  | true =>
    go_upto_region 26 with fail
    clear c18 i0
    have k1 := k1.drew
    have HD := HD.drew
    have C1 := C1.below (bl_drew (bl_refl w2))
    have O := O.trans (Out.of_below (bl_drew (bl_refl w2)) (fun i => i = g ∨ i = gt ∨ i = gp)) (fun i h => .inl h)
    refine wp_region_held_drew (S := (fun w' => Blk w' w.heap.size 94 (ins 22 ra rb im) ∧ Blk w' g 140 (dg x d))) (by kernel_rfl) (⟨k1, HD⟩) (fun hHeld => ?_)
    refine wpAnyH_take (i := 0) (oi := { dst := some 130, op := Op.move (Operand.tmp 5), type := 150, pos := "cpu.go:154", after := #[], guard := none }) (v := ?_) rfl (by kernel_rfl) (by kernel_rfl) (by kernel_rfl) (fun _ _ _ h => h) ?_ hHeld ?_
    rotate_left
    · refine Or.inl ⟨by rfl, fun w hSw => ?_⟩; skip; go_simp; (try with_reducible rfl)
    try simp only [Act.put, List.setIfInBounds_toArray, List.set_cons_zero, List.set_cons_succ]
    refine wpAnyH_take (i := 1) (oi := { dst := some 131, op := Op.nilCheck (Operand.tmp 130), type := 0, pos := "cpu.go:154", after := #[{ on := 0, ground := Ground.data }], guard := none }) (v := ?_) rfl (by kernel_rfl) (by kernel_rfl) (by kernel_rfl) (fun _ _ _ h => h) ?_ hHeld ?_
    rotate_left
    · refine Or.inl ⟨by rfl, fun w hSw => ?_⟩; skip; go_simp; (try with_reducible rfl)
    try simp only [Act.put, List.setIfInBounds_toArray, List.set_cons_zero, List.set_cons_succ]
    refine wpAnyH_take (i := 2) (oi := { dst := some 132, op := Op.fieldAddr 109 (Operand.tmp 131) 1, type := 0, pos := "cpu.go:154", after := #[{ on := 1, ground := Ground.data }], guard := none }) (v := ?_) rfl (by kernel_rfl) (by kernel_rfl) (by kernel_rfl) (fun _ _ _ h => h) ?_ hHeld ?_
    rotate_left
    · refine Or.inl ⟨by rfl, fun w hSw => ?_⟩; skip; go_simp; (try with_reducible rfl)
    try simp only [Act.put, List.setIfInBounds_toArray, List.set_cons_zero, List.set_cons_succ]
    refine wpAnyH_take (i := 3) (oi := { dst := some 133, op := Op.load 28 (Operand.tmp 132), type := 28, pos := "cpu.go:154", after := #[{ on := 2, ground := Ground.data }], guard := none }) (v := ?_) rfl (by kernel_rfl) (by kernel_rfl) (by kernel_rfl) (fun _ _ _ h => h) ?_ hHeld ?_
    rotate_left
    · refine Or.inl ⟨by rfl, fun w' hSw => ?_⟩; have c0 : w'.cell? ⟨g, 18, none⟩ = some (.int .u32 d.pc) := hSw.2.cellv 18 _ e18.out; go_simp; (try with_reducible rfl)
    try simp only [Act.put, List.setIfInBounds_toArray, List.set_cons_zero, List.set_cons_succ]
    refine wpAnyH_take (i := 4) (oi := { dst := some 134, op := Op.fieldAddr 94 (Operand.tmp 3) 3, type := 0, pos := "cpu.go:154", after := #[], guard := none }) (v := ?_) rfl (by kernel_rfl) (by kernel_rfl) (by kernel_rfl) (fun _ _ _ h => h) ?_ hHeld ?_
    rotate_left
    · refine Or.inl ⟨by rfl, fun w hSw => ?_⟩; skip; go_simp; (try with_reducible rfl)
    try simp only [Act.put, List.setIfInBounds_toArray, List.set_cons_zero, List.set_cons_succ]
    refine wpAnyH_take (i := 5) (oi := { dst := some 135, op := Op.load 3 (Operand.tmp 134), type := 3, pos := "cpu.go:154", after := #[{ on := 4, ground := Ground.data }], guard := none }) (v := ?_) rfl (by kernel_rfl) (by kernel_rfl) (by kernel_rfl) (fun _ _ _ h => h) ?_ hHeld ?_
    rotate_left
    · refine Or.inl ⟨by rfl, fun w' hSw => ?_⟩; have c0 : w'.cell? ⟨w.heap.size, 3, none⟩ = some (.int .i64 im) := hSw.1.cellv 3 _ rfl; go_simp; (try with_reducible rfl)
    try simp only [Act.put, List.setIfInBounds_toArray, List.set_cons_zero, List.set_cons_succ]
    refine wpAnyH_take (i := 6) (oi := { dst := some 136, op := Op.convert 3 28 (Operand.tmp 135), type := 28, pos := "cpu.go:154", after := #[{ on := 5, ground := Ground.data }], guard := none }) (v := ?_) rfl (by kernel_rfl) (by kernel_rfl) (by kernel_rfl) (fun _ _ _ h => h) ?_ hHeld ?_
    rotate_left
    · refine Or.inl ⟨by rfl, fun w hSw => ?_⟩; have c0 := hw1.out; go_simp; (try with_reducible rfl)
    try simp only [Act.put, List.setIfInBounds_toArray, List.set_cons_zero, List.set_cons_succ]
    refine wpAnyH_take (i := 7) (oi := { dst := some 137, op := Op.binOp BinOp.mul 28 (Operand.const (Value.int IntKind.u32 4)) (Operand.tmp 136) 28, type := 28, pos := "cpu.go:154", after := #[{ on := 6, ground := Ground.data }], guard := none }) (v := ?_) rfl (by kernel_rfl) (by kernel_rfl) (by kernel_rfl) (fun _ _ _ h => h) ?_ hHeld ?_
    rotate_left
    · refine Or.inl ⟨by rfl, fun w hSw => ?_⟩; skip; go_simp; (try with_reducible rfl)
    try simp only [Act.put, List.setIfInBounds_toArray, List.set_cons_zero, List.set_cons_succ]
    refine wpAnyH_take (i := 8) (oi := { dst := some 138, op := Op.binOp BinOp.add 28 (Operand.tmp 133) (Operand.tmp 137) 28, type := 28, pos := "cpu.go:154", after := #[{ on := 3, ground := Ground.data }, { on := 7, ground := Ground.data }], guard := none }) (v := ?_) rfl (by kernel_rfl) (by kernel_rfl) (by kernel_rfl) (fun _ _ _ h => h) ?_ hHeld ?_
    rotate_left
    · refine Or.inl ⟨by rfl, fun w hSw => ?_⟩; skip; go_simp; (try with_reducible rfl)
    try simp only [Act.put, List.setIfInBounds_toArray, List.set_cons_zero, List.set_cons_succ]
    refine wpAnyH_take (i := 9) (oi := { dst := some 6, op := Op.assign (Operand.tmp 138), type := 28, pos := "cpu.go:154", after := #[{ on := 8, ground := Ground.data }, { on := 0, ground := Ground.phase }, { on := 1, ground := Ground.phase }, { on := 2, ground := Ground.phase }, { on := 3, ground := Ground.phase }, { on := 4, ground := Ground.phase }, { on := 5, ground := Ground.phase }, { on := 6, ground := Ground.phase }, { on := 7, ground := Ground.phase }, { on := 8, ground := Ground.phase }], guard := none }) (v := ?_) rfl (by kernel_rfl) (by kernel_rfl) (by kernel_rfl) (fun _ _ _ h => h) ?_ hHeld ?_
    rotate_left
    · refine Or.inl ⟨by rfl, fun w hSw => ?_⟩; skip; go_simp; (try with_reducible rfl)
    try simp only [Act.put, List.setIfInBounds_toArray, List.set_cons_zero, List.set_cons_succ]
    refine wpAnyH_done (by kernel_rfl) ?_ _
    have k1 := hHeld.1
    have HD := hHeld.2
    clear hHeld
    generalize w2.drew = w3 at *
    have i0 : w3.cell? ⟨w.heap.size, 0, none⟩ = some (.int .i64 22) := k1.cellv 0 _ rfl
    have c18 := i0
    go_upto_region 28 with fail
    clear c18 i0
    have k1 := k1.drew
    have HD := HD.drew
    have C1 := C1.below (bl_drew (bl_refl w3))
    have O := O.trans (Out.of_below (bl_drew (bl_refl w3)) (fun i => i = g ∨ i = gt ∨ i = gp)) (fun i h => .inl h)
    refine wp_region_held_drew (S := (fun w' => Blk w' w.heap.size 94 (ins 22 ra rb im))) (by kernel_rfl) (k1) (fun hHeld => ?_)
    refine wpAnyH_take (i := 0) (oi := { dst := some 142, op := Op.move (Operand.tmp 5), type := 150, pos := "cpu.go:157", after := #[], guard := none }) (v := ?_) rfl (by kernel_rfl) (by kernel_rfl) (by kernel_rfl) (fun _ _ _ h => h) ?_ hHeld ?_
    rotate_left
    · refine Or.inl ⟨by rfl, fun w hSw => ?_⟩; skip; go_simp; (try with_reducible rfl)
    try simp only [Act.put, List.setIfInBounds_toArray, List.set_cons_zero, List.set_cons_succ]
    refine wpAnyH_take (i := 1) (oi := { dst := some 143, op := Op.move (Operand.tmp 5), type := 150, pos := "cpu.go:157", after := #[], guard := none }) (v := ?_) rfl (by kernel_rfl) (by kernel_rfl) (by kernel_rfl) (fun _ _ _ h => h) ?_ hHeld ?_
    rotate_left
    · refine Or.inl ⟨by rfl, fun w hSw => ?_⟩; skip; go_simp; (try with_reducible rfl)
    try simp only [Act.put, List.setIfInBounds_toArray, List.set_cons_zero, List.set_cons_succ]
    refine wpAnyH_take (i := 2) (oi := { dst := some 144, op := Op.nilCheck (Operand.tmp 143), type := 0, pos := "cpu.go:157", after := #[{ on := 1, ground := Ground.data }], guard := none }) (v := ?_) rfl (by kernel_rfl) (by kernel_rfl) (by kernel_rfl) (fun _ _ _ h => h) ?_ hHeld ?_
    rotate_left
    · refine Or.inl ⟨by rfl, fun w hSw => ?_⟩; skip; go_simp; (try with_reducible rfl)
    try simp only [Act.put, List.setIfInBounds_toArray, List.set_cons_zero, List.set_cons_succ]
    refine wpAnyH_take (i := 3) (oi := { dst := some 145, op := Op.fieldAddr 109 (Operand.tmp 144) 1, type := 0, pos := "cpu.go:157", after := #[{ on := 2, ground := Ground.data }], guard := none }) (v := ?_) rfl (by kernel_rfl) (by kernel_rfl) (by kernel_rfl) (fun _ _ _ h => h) ?_ hHeld ?_
    rotate_left
    · refine Or.inl ⟨by rfl, fun w hSw => ?_⟩; skip; go_simp; (try with_reducible rfl)
    try simp only [Act.put, List.setIfInBounds_toArray, List.set_cons_zero, List.set_cons_succ]
    refine wpAnyH_take (i := 6) (oi := { dst := some 148, op := Op.nilCheck (Operand.tmp 142), type := 0, pos := "cpu.go:157", after := #[{ on := 0, ground := Ground.data }], guard := none }) (v := ?_) rfl (by kernel_rfl) (by kernel_rfl) (by kernel_rfl) (fun _ _ _ h => h) ?_ hHeld ?_
    rotate_left
    · refine Or.inl ⟨by rfl, fun w hSw => ?_⟩; skip; go_simp; (try with_reducible rfl)
    try simp only [Act.put, List.setIfInBounds_toArray, List.set_cons_zero, List.set_cons_succ]
    refine wpAnyH_take (i := 7) (oi := { dst := some 149, op := Op.fieldAddr 109 (Operand.tmp 148) 0, type := 0, pos := "cpu.go:157", after := #[{ on := 6, ground := Ground.data }], guard := none }) (v := ?_) rfl (by kernel_rfl) (by kernel_rfl) (by kernel_rfl) (fun _ _ _ h => h) ?_ hHeld ?_
    rotate_left
    · refine Or.inl ⟨by rfl, fun w hSw => ?_⟩; skip; go_simp; (try with_reducible rfl)
    try simp only [Act.put, List.setIfInBounds_toArray, List.set_cons_zero, List.set_cons_succ]
    refine wpAnyH_ready (rs := [4]) (by kernel_rfl) (by simp) ?_
    refine AllReadyH.cons (o := { dst := some 146, op := Op.load 28 (Operand.tmp 145), type := 28, pos := "cpu.go:157", after := #[{ on := 3, ground := Ground.data }], guard := none }) rfl (fun Kc hKc => ?_) AllReadyH.nil
    have c0 := HD.cellv _ _ e18.out
    go_simp
    refine hKc.out _ _ (hHeld) (fun hHeld => ?_)
    clear hKc Kc
    try simp only [Act.put, List.setIfInBounds_toArray, List.set_cons_zero, List.set_cons_succ]
    refine wpAnyH_take (i := 5) (oi := { dst := some 147, op := Op.binOp BinOp.add 28 (Operand.tmp 146) (Operand.const (Value.int IntKind.u32 4)) 28, type := 28, pos := "cpu.go:157", after := #[{ on := 4, ground := Ground.data }], guard := none }) (v := ?_) rfl (by kernel_rfl) (by kernel_rfl) (by kernel_rfl) (fun _ _ _ h => h) ?_ hHeld ?_
    rotate_left
    · refine Or.inl ⟨by rfl, fun w hSw => ?_⟩; skip; go_simp; (try with_reducible rfl)
    try simp only [Act.put, List.setIfInBounds_toArray, List.set_cons_zero, List.set_cons_succ]
    refine wpAnyH_take (i := 8) (oi := { dst := some 150, op := Op.indexAddr 39 (Operand.tmp 149) (Operand.const (Value.int IntKind.i64 15)), type := 0, pos := "cpu.go:157", after := #[{ on := 7, ground := Ground.data }, { on := 0, ground := Ground.phase }, { on := 1, ground := Ground.phase }, { on := 2, ground := Ground.phase }, { on := 3, ground := Ground.phase }, { on := 4, ground := Ground.phase }, { on := 5, ground := Ground.phase }], guard := none }) (v := ?_) rfl (by kernel_rfl) (by kernel_rfl) (by kernel_rfl) (fun _ _ _ h => h) ?_ hHeld ?_
    rotate_left
    · refine Or.inl ⟨by rfl, fun w hSw => ?_⟩; skip; go_simp; (try with_reducible rfl)
    try simp only [Act.put, List.setIfInBounds_toArray, List.set_cons_zero, List.set_cons_succ]
    refine wpAnyH_ready (rs := [9]) (by kernel_rfl) (by simp) ?_
    refine AllReadyH.cons (o := { dst := none, op := Op.store 28 (Operand.tmp 150) (Operand.tmp 147), type := 0, pos := "cpu.go:157", after := #[{ on := 8, ground := Ground.data }, { on := 5, ground := Ground.data }, { on := 0, ground := Ground.phase }, { on := 1, ground := Ground.phase }, { on := 2, ground := Ground.phase }, { on := 3, ground := Ground.phase }, { on := 4, ground := Ground.phase }, { on := 5, ground := Ground.phase }], guard := none }) rfl (fun Kc hKc => ?_) AllReadyH.nil
    refine step_of (by rfl) (wp_set 28 (.tmp 150) (.tmp 147) (by rfl) g (2 + 15) (by rfl) (.int .u32 _) rfl (by rfl) 140 (dg x _) HD size_u32' (by rw [hsz]; omega) ?_)
    intro wS kS gS sS
    rw [dg_set x _ hR 15 (by omega)] at kS
    have OS := Out.of_grown gS (S := fun i => i = g) (fun k e => by injection e with e; exact e.symm)
    refine hKc.out _ _ (Out.Blk.out hHeld OS (fun h => by omega)) (fun hHeld => ?_)
    clear hKc Kc
    try simp only [Act.put]
    refine wpAnyH_done (by kernel_rfl) ?_ _
    have C2 := C1.out OS ngx.symm ngm.symm ngp.symm ngt.symm
    have O2 := O.trans OS (fun i h => .inl (.inl h))
    clear hHeld OS
    go_wp2_with fail
    go_ret
    exact ⟨⟨_, rfl⟩, _, X, m, kS, ds_len hR, C2, O2, .inl rfl⟩

set_option maxRecDepth 100000 in
set_option maxHeartbeats 4000000 in
theorem do_23 (g x gm gp gt n ra rb : Nat) (d : Dn) (X : List Int) (l : List En) (m im : Int) (w : World) (HD : Blk w g 140 (dg x d)) (C : CS w x gm gp gt n X l m) (hl : l.length ≤ 8) (hR : d.R.length = 16) (hr : ∀ i : Nat, 0 ≤ d.R[i]?.getD 0 ∧ d.R[i]?.getD 0 < 4294967296) (hX : ∀ i : Nat, 0 ≤ X[i]?.getD 0 ∧ X[i]?.getD 0 < 4294967296) (ha : ra < 16) (hb : rb < 16) (ht : d.tc = 0) (p0 : 0 ≤ d.pc) (p1 : d.pc < 4294967296) :
    Calls Try.prog 72 #[.pointer (some ⟨g, 0, none⟩), .agg (ins 23 ra rb im)] w fun r w' => IsU r ∧ St g x gm gp gt n d X l w w' := by
  obtain ⟨rv, hrv⟩ : ∃ rv, d.R[rb]?.getD 0 = rv := ⟨_, rfl⟩
  obtain ⟨rav, hrav⟩ : ∃ rav, d.R[ra]?.getD 0 = rav := ⟨_, rfl⟩
  obtain ⟨v0, v1⟩ : 0 ≤ rv ∧ rv < 4294967296 := by rw [← hrv]; exact hr _
  obtain ⟨u0, u1⟩ : 0 ≤ rav ∧ rav < 4294967296 := by rw [← hrav]; exact hr _
  obtain ⟨i2, hw1⟩ : ∃ i2, IntKind.u32.wrap im = i2 := ⟨_, rfl⟩
  obtain ⟨i20, i21⟩ : 0 ≤ i2 ∧ i2 < 4294967296 := by rw [← hw1]; exact u32_rng _
  replace hw1 := Lib.hid hw1
  have hrb := dg_reg x d hR rb hb
  rw [hrv] at hrb
  replace hrb := Lib.hid hrb
  have hra := dg_reg x d hR ra ha
  rw [hrav] at hra
  replace hra := Lib.hid hra
  have hsz := dg_size x d hR
  have hb' : (rb : Int) < 16 := by omega
  have ha' : (ra : Int) < 16 := by omega
  have e18 : Hid ((dg x d)[18]? = some (.int .u32 d.pc)) := Lib.hid (by rw [show 18 = 18 + 0 from rfl, dg_rest x d hR 0]; rfl)
  have CH := Lib.hid C
  obtain ⟨ngx, ngm, ngp, ngt⟩ := C.ne_ HD
  have zg := HD.lt
  have zgt := C.lt.2.2.2
  have zgp := C.lt.2.2.1
  clear C hr hX hrv hrav
  go_enter Try.func72, Try.ntmps72
  go_upto_region 1 with ((with_reducible refine wl_box rfl 94 _ rfl (ins 23 ra rb im) rfl ?_); intro w1 k1 b1 s1)
  have HD := HD.below b1
  have C1 := CH.out.below b1
  have O := Out.of_below b1 (fun i => i = g ∨ i = gt ∨ i = gp)
  have z1 := k1.lt
  have c18 : w1.cell? ⟨g, 18, none⟩ = some (.int .u32 d.pc) := HD.cellv 18 _ e18.out
  have i0 : w1.cell? ⟨w.heap.size, 0, none⟩ = some (.int .i64 23) := k1.cellv 0 _ rfl
  clear b1 CH
  go_upto_region 17 with fail
  clear c18 i0
  have HD := HD.drew
  have C1 := C1.below (bl_drew (bl_refl w1))
  have O := O.trans (Out.of_below (bl_drew (bl_refl w1)) (fun i => i = g ∨ i = gt ∨ i = gp)) (fun i h => .inl h)
  refine wp_region_held_drew (S := (fun w' => Blk w' w.heap.size 94 (ins 23 ra rb im) ∧ Blk w' g 140 (dg x d))) (by kernel_rfl) (⟨k1.drew, HD⟩) (fun hHeld => ?_)
  refine wpAnyH_take (i := 0) (oi := { dst := some 105, op := Op.move (Operand.tmp 5), type := 150, pos := "cpu.go:149", after := #[], guard := none }) (v := ?_) rfl (by kernel_rfl) (by kernel_rfl) (by kernel_rfl) (fun _ _ _ h => h) ?_ hHeld ?_
  rotate_left
  · refine Or.inl ⟨by rfl, fun w hSw => ?_⟩; skip; go_simp; (try with_reducible rfl)
  try simp only [Act.put, List.setIfInBounds_toArray, List.set_cons_zero, List.set_cons_succ]
  refine wpAnyH_take (i := 1) (oi := { dst := some 106, op := Op.fieldAddr 94 (Operand.tmp 3) 1, type := 0, pos := "cpu.go:149", after := #[], guard := none }) (v := ?_) rfl (by kernel_rfl) (by kernel_rfl) (by kernel_rfl) (fun _ _ _ h => h) ?_ hHeld ?_
  rotate_left
  · refine Or.inl ⟨by rfl, fun w hSw => ?_⟩; skip; go_simp; (try with_reducible rfl)
  try simp only [Act.put, List.setIfInBounds_toArray, List.set_cons_zero, List.set_cons_succ]
  refine wpAnyH_take (i := 2) (oi := { dst := some 107, op := Op.load 3 (Operand.tmp 106), type := 3, pos := "cpu.go:149", after := #[{ on := 1, ground := Ground.data }], guard := none }) (v := ?_) rfl (by kernel_rfl) (by kernel_rfl) (by kernel_rfl) (fun _ _ _ h => h) ?_ hHeld ?_
  rotate_left
  · refine Or.inl ⟨by rfl, fun w' hSw => ?_⟩; have c0 : w'.cell? ⟨w.heap.size, 1, none⟩ = some (.int .i64 ra) := hSw.1.cellv 1 _ rfl; go_simp; (try with_reducible rfl)
  try simp only [Act.put, List.setIfInBounds_toArray, List.set_cons_zero, List.set_cons_succ]
  refine wpAnyH_take (i := 3) (oi := { dst := some 108, op := Op.nilCheck (Operand.tmp 105), type := 0, pos := "cpu.go:149", after := #[{ on := 0, ground := Ground.data }], guard := none }) (v := ?_) rfl (by kernel_rfl) (by kernel_rfl) (by kernel_rfl) (fun _ _ _ h => h) ?_ hHeld ?_
  rotate_left
  · refine Or.inl ⟨by rfl, fun w hSw => ?_⟩; skip; go_simp; (try with_reducible rfl)
  try simp only [Act.put, List.setIfInBounds_toArray, List.set_cons_zero, List.set_cons_succ]
  refine wpAnyH_take (i := 4) (oi := { dst := some 109, op := Op.fieldAddr 109 (Operand.tmp 108) 0, type := 0, pos := "cpu.go:149", after := #[{ on := 3, ground := Ground.data }], guard := none }) (v := ?_) rfl (by kernel_rfl) (by kernel_rfl) (by kernel_rfl) (fun _ _ _ h => h) ?_ hHeld ?_
  rotate_left
  · refine Or.inl ⟨by rfl, fun w hSw => ?_⟩; skip; go_simp; (try with_reducible rfl)
  try simp only [Act.put, List.setIfInBounds_toArray, List.set_cons_zero, List.set_cons_succ]
  refine wpAnyH_take (i := 5) (oi := { dst := some 110, op := Op.indexAddr 39 (Operand.tmp 109) (Operand.tmp 107), type := 0, pos := "cpu.go:149", after := #[{ on := 4, ground := Ground.data }, { on := 2, ground := Ground.data }], guard := none }) (v := ?_) rfl (by kernel_rfl) (by kernel_rfl) (by kernel_rfl) (fun _ _ _ h => h) ?_ hHeld ?_
  rotate_left
  · refine Or.inl ⟨by rfl, fun w hSw => ?_⟩; skip; go_simp; (try with_reducible rfl)
  try simp only [Act.put, List.setIfInBounds_toArray, List.set_cons_zero, List.set_cons_succ]
  refine wpAnyH_take (i := 6) (oi := { dst := some 111, op := Op.load 28 (Operand.tmp 110), type := 28, pos := "cpu.go:149", after := #[{ on := 5, ground := Ground.data }], guard := none }) (v := ?_) rfl (by kernel_rfl) (by kernel_rfl) (by kernel_rfl) (fun _ _ _ h => h) ?_ hHeld ?_
  rotate_left
  · refine Or.inl ⟨by rfl, fun w' hSw => ?_⟩; have c0 : w'.cell? ⟨g, 2 + ra, none⟩ = some (.int .u32 rav) := hSw.2.cellv _ _ hra.out; go_simp; (try with_reducible rfl)
  try simp only [Act.put, List.setIfInBounds_toArray, List.set_cons_zero, List.set_cons_succ]
  refine wpAnyH_take (i := 7) (oi := { dst := some 4, op := Op.assign (Operand.tmp 111), type := 28, pos := "cpu.go:149", after := #[{ on := 6, ground := Ground.data }, { on := 0, ground := Ground.phase }, { on := 1, ground := Ground.phase }, { on := 2, ground := Ground.phase }, { on := 3, ground := Ground.phase }, { on := 4, ground := Ground.phase }, { on := 5, ground := Ground.phase }, { on := 6, ground := Ground.phase }], guard := none }) (v := ?_) rfl (by kernel_rfl) (by kernel_rfl) (by kernel_rfl) (fun _ _ _ h => h) ?_ hHeld ?_
  rotate_left
  · refine Or.inl ⟨by rfl, fun w hSw => ?_⟩; skip; go_simp; (try with_reducible rfl)
  try simp only [Act.put, List.setIfInBounds_toArray, List.set_cons_zero, List.set_cons_succ]
  refine wpAnyH_done (by kernel_rfl) ?_ _
  clear hHeld
  go_wp2_with fail
  go_ret
  exact ⟨⟨_, rfl⟩, d, X, m, HD, hR, C1, O, .inl rfl⟩

set_option maxRecDepth 100000 in
set_option maxHeartbeats 4000000 in
theorem do_24 (g x gm gp gt n ra rb : Nat) (d : Dn) (X : List Int) (l : List En) (m im : Int) (w : World) (HD : Blk w g 140 (dg x d)) (C : CS w x gm gp gt n X l m) (hl : l.length ≤ 8) (hR : d.R.length = 16) (hr : ∀ i : Nat, 0 ≤ d.R[i]?.getD 0 ∧ d.R[i]?.getD 0 < 4294967296) (hX : ∀ i : Nat, 0 ≤ X[i]?.getD 0 ∧ X[i]?.getD 0 < 4294967296) (ha : ra < 16) (hb : rb < 16) (ht : d.tc = 0) (p0 : 0 ≤ d.pc) (p1 : d.pc < 4294967296) :
    Calls Try.prog 72 #[.pointer (some ⟨g, 0, none⟩), .agg (ins 24 ra rb im)] w fun r w' => IsU r ∧ St g x gm gp gt n d X l w w' := by
  obtain ⟨rv, hrv⟩ : ∃ rv, d.R[rb]?.getD 0 = rv := ⟨_, rfl⟩
  obtain ⟨rav, hrav⟩ : ∃ rav, d.R[ra]?.getD 0 = rav := ⟨_, rfl⟩
  obtain ⟨v0, v1⟩ : 0 ≤ rv ∧ rv < 4294967296 := by rw [← hrv]; exact hr _
  obtain ⟨u0, u1⟩ : 0 ≤ rav ∧ rav < 4294967296 := by rw [← hrav]; exact hr _
  obtain ⟨i2, hw1⟩ : ∃ i2, IntKind.u32.wrap im = i2 := ⟨_, rfl⟩
  obtain ⟨i20, i21⟩ : 0 ≤ i2 ∧ i2 < 4294967296 := by rw [← hw1]; exact u32_rng _
  replace hw1 := Lib.hid hw1
  have hrb := dg_reg x d hR rb hb
  rw [hrv] at hrb
  replace hrb := Lib.hid hrb
  have hra := dg_reg x d hR ra ha
  rw [hrav] at hra
  replace hra := Lib.hid hra
  have hsz := dg_size x d hR
  have hb' : (rb : Int) < 16 := by omega
  have ha' : (ra : Int) < 16 := by omega
  have e18 : Hid ((dg x d)[18]? = some (.int .u32 d.pc)) := Lib.hid (by rw [show 18 = 18 + 0 from rfl, dg_rest x d hR 0]; rfl)
  have CH := Lib.hid C
  obtain ⟨ngx, ngm, ngp, ngt⟩ := C.ne_ HD
  have zg := HD.lt
  have zgt := C.lt.2.2.2
  have zgp := C.lt.2.2.1
  clear C hr hX hrv hrav
  go_enter Try.func72, Try.ntmps72
  go_upto_region 1 with ((with_reducible refine wl_box rfl 94 _ rfl (ins 24 ra rb im) rfl ?_); intro w1 k1 b1 s1)
  have HD := HD.below b1
  have C1 := CH.out.below b1
  have O := Out.of_below b1 (fun i => i = g ∨ i = gt ∨ i = gp)
  have z1 := k1.lt
  have c18 : w1.cell? ⟨g, 18, none⟩ = some (.int .u32 d.pc) := HD.cellv 18 _ e18.out
  have i0 : w1.cell? ⟨w.heap.size, 0, none⟩ = some (.int .i64 24) := k1.cellv 0 _ rfl
  clear b1 CH
  have i3 : w1.cell? ⟨w.heap.size, 3, none⟩ = some (.int .i64 im) := k1.cellv 3 _ rfl
  go_wp2_with (first
    | (refine at_slot 118 rfl ?_; refine wl_build2 rfl 117 0 3 _ _ rfl (.int .i64 6) (.int .i64 _) rfl rfl _ (built_tk 6 _) ?_)
    | ((refine wl_store_mid rfl 117 (.tmp 120) (.tmp 118) rfl g 19 rfl #[.int .i64 6, .int .i64 0, .bool false, .int .i64 _] rfl 140 (dg x d) HD (size_tp 6 0 false _) (by rw [hsz]; show 19 + 4 ≤ 23; omega) (tp_one 6 0 false _) ?_); intro w2 kS g2 s2))
  have OS := Out.of_grown g2 (S := fun i => i = g) (fun k e => by injection e with e; exact e.symm)
  rw [dg_trap x d hR] at kS
  have C2 := C1.out OS ngx.symm ngm.symm ngp.symm ngt.symm
  have O2 := O.trans OS (fun i h => .inl (.inl h))
  go_ret
  exact ⟨⟨_, rfl⟩, _, X, m, kS, hR, C2, O2, .inl rfl⟩

theorem do_c (g x gm gp gt n ra rb : Nat) (d : Dn) (X : List Int) (l : List En) (m op im : Int) (w : World) (HD : Blk w g 140 (dg x d)) (C : CS w x gm gp gt n X l m) (hl : l.length ≤ 8) (hR : d.R.length = 16) (hr : ∀ i : Nat, 0 ≤ d.R[i]?.getD 0 ∧ d.R[i]?.getD 0 < 4294967296) (hX : ∀ i : Nat, 0 ≤ X[i]?.getD 0 ∧ X[i]?.getD 0 < 4294967296) (ha : ra < 16) (hb : rb < 16) (ht : d.tc = 0) (p0 : 0 ≤ d.pc) (p1 : d.pc < 4294967296) (o0 : 1 ≤ op) (o1 : op ≤ 24) :
    Calls Try.prog 72 #[.pointer (some ⟨g, 0, none⟩), .agg (ins op ra rb im)] w fun r w' => IsU r ∧ St g x gm gp gt n d X l w w' := by
  rcases Decidable.em (3 ≤ op ∧ op ≤ 12) with h3 | h3
  · exact do_def g x gm gp gt n ra rb d X l m op im w HD C hl hR hr hX ha hb ht p0 p1 h3.1 h3.2
  have h : op = 1 ∨ op = 2 ∨ op = 13 ∨ op = 14 ∨ op = 15 ∨ op = 16 ∨ op = 17 ∨ op = 18 ∨ op = 19 ∨ op = 20 ∨ op = 21 ∨ op = 22 ∨ op = 23 ∨ op = 24 := by omega
  rcases h with rfl | rfl | rfl | rfl | rfl | rfl | rfl | rfl | rfl | rfl | rfl | rfl | rfl | rfl
  · exact do_1 g x gm gp gt n ra rb d X l m im w HD C hl hR hr hX ha hb ht p0 p1
  · exact do_2 g x gm gp gt n ra rb d X l m im w HD C hl hR hr hX ha hb ht p0 p1
  · exact do_13 g x gm gp gt n ra rb d X l m im w HD C hl hR hr hX ha hb ht p0 p1
  · exact do_14 g x gm gp gt n ra rb d X l m im w HD C hl hR hr hX ha hb ht p0 p1
  · exact do_15 g x gm gp gt n ra rb d X l m im w HD C hl hR hr hX ha hb ht p0 p1
  · exact do_16 g x gm gp gt n ra rb d X l m im w HD C hl hR hr hX ha hb ht p0 p1
  · exact do_17 g x gm gp gt n ra rb d X l m im w HD C hl hR hr hX ha hb ht p0 p1
  · exact do_18 g x gm gp gt n ra rb d X l m im w HD C hl hR hr hX ha hb ht p0 p1
  · exact do_19 g x gm gp gt n ra rb d X l m im w HD C hl hR hr hX ha hb ht p0 p1
  · exact do_20 g x gm gp gt n ra rb d X l m im w HD C hl hR hr hX ha hb ht p0 p1
  · exact do_21 g x gm gp gt n ra rb d X l m im w HD C hl hR hr hX ha hb ht p0 p1
  · exact do_22 g x gm gp gt n ra rb d X l m im w HD C hl hR hr hX ha hb ht p0 p1
  · exact do_23 g x gm gp gt n ra rb d X l m im w HD C hl hR hr hX ha hb ht p0 p1
  · exact do_24 g x gm gp gt n ra rb d X l m im w HD C hl hR hr hX ha hb ht p0 p1
end Go.Proofs.Ytdokmnpkihmkpaa.CpuE
