/- Contracts of Settle, the program's and the reference's. -/
import Derived.Test.YthihpejhhimkaaaDiskT
import Derived.Deep.DeepCutAuto
set_option linter.unusedVariables false
namespace Go.Proofs.Ythihpejhhimkaaa.DiskU
open Go.RowKit Go.Proofs.Ythihpejhhimkaaa.Base Go.Proofs.Ythihpejhhimkaaa.Row Go.Proofs.Ythihpejhhimkaaa.App Go.Proofs.Ythihpejhhimkaaa.Multi Go.Proofs.Ythihpejhhimkaaa.StEq Go.Proofs.Ythihpejhhimkaaa.Held Go.Proofs.Ythihpejhhimkaaa.Out Go.Proofs.Ythihpejhhimkaaa.HeldW Go.Proofs.Ythihpejhhimkaaa.HeldX Go.Proofs.Ythihpejhhimkaaa.DiskMath Go.Proofs.Ythihpejhhimkaaa.Disk Go.Proofs.Ythihpejhhimkaaa.Disk3 Go.Proofs.Ythihpejhhimkaaa.DiskS

/-- Whether a block's bit is set. -/
def bitB (bits : Int) (b : Nat) : Bool := Go.bits BinOp.and IntKind.i64 (bits / 2 ^ b) 1 == 1
theorem bitB_eq (bits : Int) (b : Nat) : bitB bits b = (Go.bits BinOp.and IntKind.i64 (bits / 2 ^ b) 1 == 1) := rfl
set_option maxRecDepth 100000 in
theorem mine_c (bits : Int) (b bb : Nat) (w : World) (hb : b < 32) (hc : w.cell? ⟨bb, 0, none⟩ = some (.int .i64 bits)) :
    Calls Try.prog 23 #[.int .i64 b, .pointer (some ⟨bb, 0, none⟩)] w fun r w' => r = .returned (.bool (bitB bits b)) ∧ w = w' := by
  go_enter Try.func23, Try.ntmps23
  go_wp2
  go_ret
  exact ⟨rfl, rfl⟩
/-- Which writes last. -/
def mk (bits : Int) (W : List Wr) (k : Nat) : Bool := match W[k]? with | some x => bitB bits x.b | none => false
theorem mk_at {bits : Int} {W : List Wr} {k : Nat} {x : Wr} (hx : W[k]? = some x) : mk bits W k = bitB bits x.b := by simp [mk, hx]
theorem out_cell {w w' : World} {S : Nat → Prop} (h : Out w w' S) {p : Addr} (hp : ¬ S p.block) {v : Value} (hc : w.cell? p = some v) : w'.cell? p = some v := by
  have hlt := World.block_lt_of_cell? w p hc
  have hb := h.block _ hlt hp
  rw [← hc]
  simp only [World.cell?, hb]
theorem rest_len {W : List Wr} {K : Nat → Bool} (k : Nat) (h : k ≤ W.length) : (rest W K k).length ≤ k := by have := rest_count (W := W) (keep := K) k h; omega

set_option maxRecDepth 100000 in
set_option maxHeartbeats 4000000 in
theorem settle_c (g : Nat) (F : Nat → Prop) (L : List Bk) (W : List Wr) (B : Nat) (w : World) (h : DkF 59 34 71 B w g F L W) (hok : Ok L W) (hL : L.length ≤ 32) (hW : W.length ≤ 1000) (hF : ∀ i, F i → i < w.heap.size) (hB : B ≤ w.heap.size) (bits : Int) (bb : Nat) (hbb : ¬ F bb) (hbc : w.cell? ⟨bb, 0, none⟩ = some (.int .i64 bits)) :
    Calls Try.prog 22 #[.pointer (some ⟨g, 0, none⟩), .func (.func 23) #[] #[.pointer (some ⟨bb, 0, none⟩)]] w fun r w' => r = .returned (.int .i64 (count (mk bits W) W.length : Nat)) ∧ DkF 59 34 71 B w' g (gro F w w') (land W (mk bits W) L W.length) (rest W (mk bits W) W.length) ∧ Out w w' F := by
  obtain ⟨Al, cl, Aw, cw, D, hFg, hFl, hFw⟩ := h
  have HQ := D.q
  have HL := D.l
  have hBg := D.b
  replace D := D.d
  have OW := Out.refl w F
  have hok' := Lib.hid hok
  have hll := Lib.hid (fun j => land_len W (mk bits W) L j)
  have hrc := Lib.hid (rest_count (W := W) (keep := mk bits W) W.length (Nat.le_refl _))
  have hgw := hF g hFg
  have hLw : ∀ k, (Value.slice Al L.length cl).ownBlock = some k → F k := by
    intro k hk
    cases Al with
    | none => cases hk
    | some a => injection hk with hk; subst hk; exact hFl a rfl
  have hWw : ∀ k, (Value.slice Aw W.length cw).ownBlock = some k → F k := by
    intro k hk
    cases Aw with
    | none => cases hk
    | some a => injection hk with hk; subst hk; exact hFw a rfl
  have hLw' := Lib.hid hLw
  have hWw' := Lib.hid hWw
  have hF' := Lib.hid hF
  have hbbF := Lib.hid hbb
  have hbc' := Lib.hid hbc
  clear hbc hbb
  clear hok hLw hWw hF
  have f1 := D.cellv 1 (.slice Aw W.length cw) rfl
  go_enter Try.func22, Try.ntmps22
  go_wp2_with fail
  go_loopw [6, 21] (fun r i wr => ∃ (j : Nat) (Ar : Option Addr) (cr m : Nat), j ≤ W.length ∧ m = (rest W (mk bits W) j).length ∧ r = .slice Ar m cr ∧ i = .int .i64 j ∧ Blk wr g 59 (dc Al L.length cl Aw W.length cw) ∧ wr.ownsRow B 34 64 (.slice Al L.length cl) L.length ((land W (mk bits W) L j).flatMap bv) ∧ wr.ownsRow B 71 65 (.slice Aw W.length cw) W.length (W.flatMap wv) ∧ wr.ownsRow w.heap.size 71 65 (.slice Ar m cr) m ((rest W (mk bits W) j).flatMap wv) ∧ Out w wr F) (fun _ i _ => W.length - (intOf i).toNat)
  case atStart => exact ⟨0, none, 0, 0, by omega, rfl, rfl, rfl, D, HL, HQ, own_nil _ _ _ _, OW⟩
  case round =>
    clear D HL HQ OW f1
    obtain ⟨j, Ar, cr, m, hj, hm, rfl, rfl, D, HL, HQ, HR, OW⟩ := hrel
    obtain ⟨wo, rfl⟩ : ∃ wo : World, wo = wr := ⟨_, rfl⟩
    have zs := OW.size
    by_cases hlt : j < W.length
    · have hq : decide ((j : Int) < (W.length : Int)) = true := by simp; omega
      have hq2 : (j : Int) < (W.length : Int) := by omega
      obtain ⟨x, hx⟩ : ∃ x, W[j]? = some x := ⟨_, List.getElem?_eq_getElem hlt⟩
      have hxb : x.b < L.length := hok'.out.at hx
      have hxb' : (x.b : Int) < (L.length : Int) := by omega
      have hx32 : x.b < 32 := by omega
      have hx32' : (x.b : Int) < 32 := by omega
      have hd32 : decide ((x.b : Int) < 32) = true := by simp; omega
      have hd0 : decide ((x.b : Int) < 0) = false := by simp
      obtain ⟨gq, curq, hAw, _, KQ, _, _, hcq⟩ := own_blk wv_len HQ (by omega)
      subst hAw
      have hcx := Lib.hid (hcq j x hx)
      have hFq : F gq := hWw'.out _ rfl
      have f1 := D.cellv 1 (.slice (some ⟨gq, 0, none⟩) W.length cw) rfl
      have hmk := mk_at (bits := bits) hx
      have hml := Lib.hid (rest_len (K := mk bits W) j hj)
      have hcl := Lib.hid (count_le (mk bits W) j)
      have hm' := Lib.hid hm
      clear hm
      have hmc := Lib.hid (fun w' h => mine_c bits x.b bb w' hx32 h)
      have hbw : bb < wo.heap.size := Nat.lt_of_lt_of_le (World.block_lt_of_cell? w _ hbc'.out) OW.size
      have zq : gq < wo.heap.size := KQ.lt
      have zg : g < wo.heap.size := D.lt
      cases hbit : bitB bits x.b with
      | true =>
        rw [hbit] at hmk
        have hly := Lib.hid (land_yes (L := L) hx hmk)
        have hre := Lib.hid (rest_yes hx hmk)
        have hcn := Lib.hid (count_yes hmk)
        have hbe2 := Lib.hid hbit
        obtain ⟨gl, curl, hAl, _, KL, hcs, hlc, _⟩ := own_blk bv_len HL (by omega)
        subst hAl
        have hFgl : F gl := hLw'.out _ rfl
        have hglw : gl < w.heap.size := hF'.out _ hFgl
        have hfit := Lib.hid (show x.b * 64 + (bc x.d).size ≤ curl.size by rw [bc_size, hcs]; have := Nat.mul_le_mul_right 64 (show x.b + 1 ≤ cl by omega); omega)
        have hgl := Lib.hid (show some g ≠ some gl from fun e => by injection e with e; exact Blk.ne_ D KL (by decide) e)
        have hql := Lib.hid (show gq ≠ gl from fun e => Blk.ne_ KQ KL (by decide) e)
        have hvl := Lib.hid (show some wo.heap.size ≠ some gl from fun e => by injection e with e; have := KL.lt; omega)
        have zo : gl < wo.heap.size := KL.lt
        have hwr : Hid (wrap64 (((count (mk bits W) j : Nat) : Int) + 1) = ((count (mk bits W) j + 1 : Nat) : Int)) := Lib.hid (by have h1 := hcl.out; unfold wrap64; omega)
        clear hx hcq hmk hbit hcs hlc
        go_wp2_with (first
          | (refine at_slot 24 rfl ?_; refine wl_load_mid rfl 71 (.tmp 23) rfl gq (j * 65) rfl 71 curq (wv x) _ KQ hcx.out Try.underlying71 rfl (sz_wv x) ?_)
          | ((with_reducible refine wl_alloc rfl 71 rfl (wc ⟨0, zb⟩) new_w ?_); intro w1 k1 b1 s1)
          | ((refine wl_store rfl 71 (.tmp 8) (.tmp 24) rfl wo.heap.size rfl (wc x) rfl 71 (wc ⟨0, zb⟩) k1 (sz_wc x) (by rw [wc_size, wc_size]) (wc_one x) ?_); intro w2 k2 g2 s2; have v0 := k2.cellv 0 (.int .i64 x.b) rfl))
        have KV := k2
        have ne2 : ∀ k, k < wo.heap.size → some k ≠ some wo.heap.size := fun k hk e => by injection e with e; omega
        replace D := (D.below b1).grown g2 (ne2 _ zg)
        replace KL := (KL.below b1).grown g2 (ne2 _ zo)
        have O2 : Out wo w2 (fun _ => False) := ⟨g2.os.trans b1.os, g2.tape.trans b1.tape, g2.output.trans b1.output, Nat.le_trans b1.size g2.size, fun i hi _ => (g2.block i (Nat.lt_of_lt_of_le hi b1.size) (ne2 i hi)).trans (b1.block i hi)⟩
        replace HL := own_out HL O2 (fun _ _ h => h)
        replace HQ := own_out HQ O2 (fun _ _ h => h)
        replace HR := own_out HR O2 (fun _ _ h => h)
        replace OW := OW.trans O2 (fun i h => h.elim)
        clear k1 k2 g2 b1 s1 s2 hcx KQ ne2 f1
        have hCl := hmc.out _ (out_cell OW hbbF.out hbc'.out)
        rw [hbe2.out] at hCl
        refine hCl.mono ?_
        rintro r wq ⟨rfl, rfl⟩
        clear v0
        go_wp2_with fail
        clear O2
        refine wp_region_held_drew (S := (fun w' => Blk w' g 59 (dc (some ⟨gl, 0, none⟩) L.length cl (some ⟨gq, 0, none⟩) W.length cw) ∧ Blk w' wo.heap.size 71 (wc x))) (by kernel_rfl) (⟨D.drew, KV.drew⟩) (fun hHeld => ?_)
        refine wpAnyH_take (i := 0) (oi := { dst := some 29, op := Op.move (Operand.tmp 0), type := 23, pos := "disk.go:119", after := #[], guard := none }) (v := ?_) rfl (by kernel_rfl) (by kernel_rfl) (by kernel_rfl) (fun _ _ _ h => h) ?_ hHeld ?_
        rotate_left
        · refine Or.inl ⟨by rfl, fun w hSw => ?_⟩; skip; go_simp; (try with_reducible rfl)
        try simp only [Act.put, List.setIfInBounds_toArray, List.set_cons_zero, List.set_cons_succ]
        refine wpAnyH_take (i := 1) (oi := { dst := some 30, op := Op.nilCheck (Operand.tmp 29), type := 0, pos := "disk.go:119", after := #[{ on := 0, ground := Ground.data }], guard := none }) (v := ?_) rfl (by kernel_rfl) (by kernel_rfl) (by kernel_rfl) (fun _ _ _ h => h) ?_ hHeld ?_
        rotate_left
        · refine Or.inl ⟨by rfl, fun w hSw => ?_⟩; skip; go_simp; (try with_reducible rfl)
        try simp only [Act.put, List.setIfInBounds_toArray, List.set_cons_zero, List.set_cons_succ]
        refine wpAnyH_take (i := 2) (oi := { dst := some 31, op := Op.fieldAddr 59 (Operand.tmp 30) 0, type := 0, pos := "disk.go:119", after := #[{ on := 1, ground := Ground.data }], guard := none }) (v := ?_) rfl (by kernel_rfl) (by kernel_rfl) (by kernel_rfl) (fun _ _ _ h => h) ?_ hHeld ?_
        rotate_left
        · refine Or.inl ⟨by rfl, fun w hSw => ?_⟩; skip; go_simp; (try with_reducible rfl)
        try simp only [Act.put, List.setIfInBounds_toArray, List.set_cons_zero, List.set_cons_succ]
        refine wpAnyH_take (i := 3) (oi := { dst := some 32, op := Op.load 56 (Operand.tmp 31), type := 56, pos := "disk.go:119", after := #[{ on := 2, ground := Ground.data }], guard := none }) (v := ?_) rfl (by kernel_rfl) (by kernel_rfl) (by kernel_rfl) (fun _ _ _ h => h) ?_ hHeld ?_
        rotate_left
        · refine Or.inl ⟨by rfl, fun w hSw => ?_⟩; have c0 := Blk.cellv hSw.1 0 (.slice (some ⟨gl, 0, none⟩) L.length cl) rfl; go_simp; (try with_reducible rfl)
        try simp only [Act.put, List.setIfInBounds_toArray, List.set_cons_zero, List.set_cons_succ]
        refine wpAnyH_take (i := 4) (oi := { dst := some 33, op := Op.fieldAddr 71 (Operand.tmp 8) 0, type := 0, pos := "disk.go:119", after := #[], guard := none }) (v := ?_) rfl (by kernel_rfl) (by kernel_rfl) (by kernel_rfl) (fun _ _ _ h => h) ?_ hHeld ?_
        rotate_left
        · refine Or.inl ⟨by rfl, fun w hSw => ?_⟩; skip; go_simp; (try with_reducible rfl)
        try simp only [Act.put, List.setIfInBounds_toArray, List.set_cons_zero, List.set_cons_succ]
        refine wpAnyH_take (i := 5) (oi := { dst := some 34, op := Op.load 3 (Operand.tmp 33), type := 3, pos := "disk.go:119", after := #[{ on := 4, ground := Ground.data }], guard := none }) (v := ?_) rfl (by kernel_rfl) (by kernel_rfl) (by kernel_rfl) (fun _ _ _ h => h) ?_ hHeld ?_
        rotate_left
        · refine Or.inl ⟨by rfl, fun w hSw => ?_⟩; have c0 := Blk.cellv hSw.2 0 (.int .i64 x.b) rfl; go_simp; (try with_reducible rfl)
        try simp only [Act.put, List.setIfInBounds_toArray, List.set_cons_zero, List.set_cons_succ]
        refine wpAnyH_take (i := 6) (oi := { dst := some 35, op := Op.fieldAddr 71 (Operand.tmp 8) 1, type := 0, pos := "disk.go:119", after := #[], guard := none }) (v := ?_) rfl (by kernel_rfl) (by kernel_rfl) (by kernel_rfl) (fun _ _ _ h => h) ?_ hHeld ?_
        rotate_left
        · refine Or.inl ⟨by rfl, fun w hSw => ?_⟩; skip; go_simp; (try with_reducible rfl)
        try simp only [Act.put, List.setIfInBounds_toArray, List.set_cons_zero, List.set_cons_succ]
        refine wpAnyH_take (i := 7) (oi := { dst := some 36, op := Op.load 34 (Operand.tmp 35), type := 34, pos := "disk.go:119", after := #[{ on := 6, ground := Ground.data }], guard := none }) (v := ?_) rfl (by kernel_rfl) (by kernel_rfl) (by kernel_rfl) (fun _ _ _ h => h) ?_ hHeld ?_
        rotate_left
        · refine yIf_mid 34 (.tmp 35) wo.heap.size 1 71 (wc x) (bv x.d) _ ?_ ?_ Try.underlying34 rfl (by rw [bv_len]; exact size_d) ?_ ?_ ?_
          · exact fun _ h => h.2
          · exact fun j v h => wc_d x j v h
          · rfl
          · rfl
          · rfl
        try simp only [Act.put, List.setIfInBounds_toArray, List.set_cons_zero, List.set_cons_succ]
        refine wpAnyH_take (i := 8) (oi := { dst := some 37, op := Op.indexAddr 56 (Operand.tmp 32) (Operand.tmp 34), type := 0, pos := "disk.go:119", after := #[{ on := 3, ground := Ground.data }, { on := 5, ground := Ground.data }, { on := 0, ground := Ground.phase }, { on := 1, ground := Ground.phase }, { on := 2, ground := Ground.phase }, { on := 3, ground := Ground.phase }, { on := 4, ground := Ground.phase }, { on := 5, ground := Ground.phase }, { on := 6, ground := Ground.phase }, { on := 7, ground := Ground.phase }], guard := none }) (v := ?_) rfl (by kernel_rfl) (by kernel_rfl) (by kernel_rfl) (fun _ _ _ h => h) ?_ hHeld ?_
        rotate_left
        · refine Or.inl ⟨by rfl, fun w hSw => ?_⟩; skip; go_simp; (try with_reducible rfl)
        try simp only [Act.put, List.setIfInBounds_toArray, List.set_cons_zero, List.set_cons_succ]
        refine wpAnyH_ready (rs := [9]) (by kernel_rfl) (by simp) ?_
        refine AllReadyH.cons (o := { dst := none, op := Op.store 34 (Operand.tmp 37) (Operand.tmp 36), type := 0, pos := "disk.go:119", after := #[{ on := 8, ground := Ground.data }, { on := 7, ground := Ground.data }, { on := 0, ground := Ground.phase }, { on := 1, ground := Ground.phase }, { on := 2, ground := Ground.phase }, { on := 3, ground := Ground.phase }, { on := 4, ground := Ground.phase }, { on := 5, ground := Ground.phase }, { on := 6, ground := Ground.phase }, { on := 7, ground := Ground.phase }], guard := none }) rfl (fun Kc hKc => ?_) AllReadyH.nil
        refine step_of (by rfl) (wp_mid 34 (.tmp 37) (.tmp 36) (by rfl) gl (x.b * 64) (by rfl) (bc x.d) (by rfl) 34 curl KL.drew (sz_bc x.d) hfit.out (bc_one x.d) ?_)
        intro wB kB gB sB
        refine hKc.out _ _ (⟨Blk.grown hHeld.1 gB hgl.out, Blk.grown hHeld.2 gB hvl.out⟩) (fun hHeld => ?_)
        clear hKc Kc
        try simp only [Act.put]
        refine wpAnyH_done (by kernel_rfl) ?_ _
        have HL2 := own_put bv_len (by decide) (own_below HL (bl_drew (bl_refl w2))) x.b hxb x.d rfl KL.drew kB
        rw [← hly.out] at HL2
        have HQ2 := own_out (own_below HQ (bl_drew (bl_refl w2))) (Out.of_grown gB (S := fun k => k = gl) (fun k e => by injection e with e; exact e.symm)) (fun k hk e => by injection hk with hk; exact hql.out (hk.trans e))
        have HR2 := own_kept (own_below HR (bl_drew (bl_refl w2))) gB hglw
        have OW2 : Out w wB F := (OW.trans (Out.of_below (bl_drew (bl_refl w2)) F) (fun i h => .inl h)).trans (Out.of_grown gB (S := F) (fun k e => by injection e with e; subst e; exact hFgl)) (fun i h => .inl h)
        have D2 := hHeld.1
        go_wp2_with fail
        go_roundw
        case rel => exact ⟨j + 1, Ar, cr, m, by omega, by rw [hre.out]; exact hm'.out, rfl, by go_num, D2, HL2, HQ2, by rw [hre.out]; exact HR2, OW2⟩
        case measure => first | (simp [intOf]; done) | (simp [intOf]; omega)
      | false =>
        rw [hbit] at hmk
        have hly := Lib.hid (land_no (L := L) hx hmk)
        have hre := Lib.hid (rest_no hx hmk)
        have hcn := Lib.hid (count_no hmk)
        have hbe2 := Lib.hid hbit
        clear hx hcq hmk hbit
        go_wp2_with (first
          | (refine at_slot 24 rfl ?_; refine wl_load_mid rfl 71 (.tmp 23) rfl gq (j * 65) rfl 71 curq (wv x) _ KQ hcx.out Try.underlying71 rfl (sz_wv x) ?_)
          | ((with_reducible refine wl_alloc rfl 71 rfl (wc ⟨0, zb⟩) new_w ?_); intro w1 k1 b1 s1)
          | ((refine wl_store rfl 71 (.tmp 8) (.tmp 24) rfl wo.heap.size rfl (wc x) rfl 71 (wc ⟨0, zb⟩) k1 (sz_wc x) (by rw [wc_size, wc_size]) (wc_one x) ?_); intro w2 k2 g2 s2; have v0 := k2.cellv 0 (.int .i64 x.b) rfl))
        have KV := k2
        have ne2 : ∀ k, k < wo.heap.size → some k ≠ some wo.heap.size := fun k hk e => by injection e with e; omega
        replace D := (D.below b1).grown g2 (ne2 _ zg)
        have O2 : Out wo w2 (fun _ => False) := ⟨g2.os.trans b1.os, g2.tape.trans b1.tape, g2.output.trans b1.output, Nat.le_trans b1.size g2.size, fun i hi _ => (g2.block i (Nat.lt_of_lt_of_le hi b1.size) (ne2 i hi)).trans (b1.block i hi)⟩
        replace HL := own_out HL O2 (fun _ _ h => h)
        replace HQ := own_out HQ O2 (fun _ _ h => h)
        replace HR := own_out HR O2 (fun _ _ h => h)
        replace OW := OW.trans O2 (fun i h => h.elim)
        have z2 : wo.heap.size ≤ w2.heap.size := O2.size
        clear k1 k2 g2 b1 s1 s2 hcx KQ ne2 f1
        have hCl := hmc.out _ (out_cell OW hbbF.out hbc'.out)
        rw [hbe2.out] at hCl
        refine hCl.mono ?_
        rintro r wq ⟨rfl, rfl⟩
        clear v0
        clear O2
        go_wp2_with (first
          | (refine at_slot 39 rfl ?_; refine wl_load rfl 71 (.tmp 8) rfl wo.heap.size rfl 71 (wc x) _ KV Try.underlying71 rfl (sz_wc x) ?_)
          | (refine wl_bs1 (by rfl) 57 71 (.tmp 39) (by rfl) Try.underlying57 (.agg (wc ⟨0, zb⟩)) 65 72 info_w (by rfl) (by decide) (by decide) (wc x) (by rfl) (wc_size _) ?_)
          | (refine at_slot 41 rfl ?_; refine app_one_w (w0 := w) (f := wv) w.heap.size 65 72 wv_len wv_one (.agg (wc ⟨0, zb⟩)) rfl (.tmp 38) (.tmp 40) 57 71 rfl Try.underlying57 info_w rfl (Nat.succ_pos _) (Nat.succ_pos _) (.slice Ar m cr) m (rest W (mk bits W) j) rfl HR x (wc x) rfl w2.heap.size rfl rfl ?d1 ?d2 ?_))
        case d1 => have h1 := hml.out; have h2 := hm'.out; omega
        case d2 => omega
        intro A5 c5 w5 HO5 G5 s5 _
        have hbo : ∀ k, (Value.slice Ar m cr).ownBlock = some k → w.heap.size ≤ k := own_base HR
        have OG := Out.of_grown G5 (S := fun k => w.heap.size ≤ k) (fun k hk => hbo k hk)
        have D5 : Blk w5 g 59 (dc Al L.length cl (some ⟨gq, 0, none⟩) W.length cw) := D.grown G5 (fun e => by have := hbo _ e.symm; omega)
        have HL5 := own_out HL OG (fun k hk e => by have := hF'.out _ (hLw'.out k hk); omega)
        have HQ5 := own_out HQ OG (fun k hk e => by have := hF'.out _ (hWw'.out k hk); omega)
        have OW5 : Out w w5 F := OW.trans OG (fun i h => .inr h)
        clear D HL HQ HR OW KV OG G5
        go_wp2_with fail
        go_roundw
        case rel => exact ⟨j + 1, A5, c5, m + 1, by omega, by rw [hre.out, List.length_append, ← hm'.out]; rfl, rfl, by go_num, D5, by rw [hly.out]; exact HL5, HQ5, by rw [hre.out, List.flatMap_append, List.flatMap_singleton]; exact HO5, OW5⟩
        case measure => first | (simp [intOf]; done) | (simp [intOf]; omega)
    · obtain rfl : j = W.length := by omega
      have hq : decide ((W.length : Int) < (W.length : Int)) = false := by simp
      have f1 := D.cellv 1 (.slice Aw W.length cw) rfl
      have hcm : Hid ((W.length : Int) - (m : Int) = ((count (mk bits W) W.length : Nat) : Int)) := Lib.hid (by have := hrc.out; omega)
      have hml : m ≤ W.length := by have := hrc.out; omega
      go_wp2_with (first
        | ((refine wl_set rfl 57 (.tmp 46) (.tmp 44) rfl g 1 rfl (.slice Ar m cr) rfl rfl 59 (dc Al L.length cl Aw W.length cw) D (by kernel_rfl) (by simp [dc]) ?_); intro w3 k3 g3 s3))
      go_ret
      have OG := Out.of_grown g3 (S := fun k => k = g) (fun k e => by injection e with e; exact e.symm)
      have hng : ∀ k, (Value.slice Al L.length cl).ownBlock = some k → ¬ k = g := by
        intro k hk e
        cases Al with
        | none => cases hk
        | some a =>
          injection hk with hk
          subst hk
          obtain ⟨_, _, cs, hk⟩ := row_lt HL a rfl
          exact Blk.ne_ (e ▸ hk) D (by decide) rfl
      subst hm
      have HR3 := own_kept HR g3 hgw
      refine ⟨ret_int hcm.out, ⟨Al, cl, Ar, cr, ⟨by rw [hll.out]; exact k3, by rw [hll.out]; exact own_out HL OG hng, own_mono HR3 hB, hBg⟩, .inl hFg, fun a ha => .inl (hFl a ha), fun a ha => ?_⟩, OW.trans (Out.of_grown g3 (S := F) (fun k e => by injection e with e; subst e; exact hFg)) (fun i h => .inl h)⟩
      obtain ⟨h1, h2, _⟩ := row_lt HR3 a ha
      exact .inr ⟨h2, h1⟩

set_option maxRecDepth 100000 in
set_option maxHeartbeats 4000000 in
theorem rsettle_c (g : Nat) (F : Nat → Prop) (L : List Bk) (W : List Wr) (B : Nat) (w : World) (h : DkF 63 33 65 B w g F L W) (hok : Ok L W) (hL : L.length ≤ 32) (hW : W.length ≤ 1000) (hF : ∀ i, F i → i < w.heap.size) (hB : B ≤ w.heap.size) (bits : Int) :
    Calls Try.prog 24 #[.pointer (some ⟨g, 0, none⟩), .int .i64 bits] w fun r w' => r = .returned (.int .i64 (count (mk bits W) W.length : Nat)) ∧ DkF 63 33 65 B w' g (gro F w w') (land W (mk bits W) L W.length) (rest W (mk bits W) W.length) ∧ Out w w' F := by
  obtain ⟨Al, cl, Aw, cw, D, hFg, hFl, hFw⟩ := h
  have HQ := D.q
  have HL := D.l
  have hBg := D.b
  replace D := D.d
  have OW := Out.refl w F
  have hok' := Lib.hid hok
  have hll := Lib.hid (fun j => land_len W (mk bits W) L j)
  have hrc := Lib.hid (rest_count (W := W) (keep := mk bits W) W.length (Nat.le_refl _))
  have hgw := hF g hFg
  have hLw : ∀ k, (Value.slice Al L.length cl).ownBlock = some k → F k := by
    intro k hk
    cases Al with
    | none => cases hk
    | some a => injection hk with hk; subst hk; exact hFl a rfl
  have hWw : ∀ k, (Value.slice Aw W.length cw).ownBlock = some k → F k := by
    intro k hk
    cases Aw with
    | none => cases hk
    | some a => injection hk with hk; subst hk; exact hFw a rfl
  have hLw' := Lib.hid hLw
  have hWw' := Lib.hid hWw
  have hF' := Lib.hid hF
  clear hok hLw hWw hF
  have f1 := D.cellv 1 (.slice Aw W.length cw) rfl
  go_enter Try.func24, Try.ntmps24
  go_wp2_with fail
  go_loopw [5, 6, 7] (fun c r i wr => ∃ (j : Nat) (Ar : Option Addr) (cr m : Nat), j ≤ W.length ∧ m = (rest W (mk bits W) j).length ∧ r = .slice Ar m cr ∧ i = .int .i64 j ∧ c = .int .i64 (count (mk bits W) j : Nat) ∧ Blk wr g 63 (dc Al L.length cl Aw W.length cw) ∧ wr.ownsRow B 33 64 (.slice Al L.length cl) L.length ((land W (mk bits W) L j).flatMap bv) ∧ wr.ownsRow B 65 65 (.slice Aw W.length cw) W.length (W.flatMap wv) ∧ wr.ownsRow w.heap.size 65 65 (.slice Ar m cr) m ((rest W (mk bits W) j).flatMap wv) ∧ Out w wr F) (fun _ _ i _ => W.length - (intOf i).toNat)
  case atStart => exact ⟨0, none, 0, 0, by omega, rfl, rfl, rfl, rfl, D, HL, HQ, own_nil _ _ _ _, OW⟩
  case round =>
    clear D HL HQ OW f1
    obtain ⟨j, Ar, cr, m, hj, hm, rfl, rfl, rfl, D, HL, HQ, HR, OW⟩ := hrel
    obtain ⟨wo, rfl⟩ : ∃ wo : World, wo = wr := ⟨_, rfl⟩
    have zs := OW.size
    by_cases hlt : j < W.length
    · have hq : decide ((j : Int) < (W.length : Int)) = true := by simp; omega
      have hq2 : (j : Int) < (W.length : Int) := by omega
      obtain ⟨x, hx⟩ : ∃ x, W[j]? = some x := ⟨_, List.getElem?_eq_getElem hlt⟩
      have hxb : x.b < L.length := hok'.out.at hx
      have hxb' : (x.b : Int) < (L.length : Int) := by omega
      have hx32 : x.b < 32 := by omega
      have hx32' : (x.b : Int) < 32 := by omega
      have hd32 : decide ((x.b : Int) < 32) = true := by simp; omega
      have hd0 : decide ((x.b : Int) < 0) = false := by simp
      obtain ⟨gq, curq, hAw, _, KQ, _, _, hcq⟩ := own_blk wv_len HQ (by omega)
      subst hAw
      have hcx := Lib.hid (hcq j x hx)
      have hFq : F gq := hWw'.out _ rfl
      have f1 := D.cellv 1 (.slice (some ⟨gq, 0, none⟩) W.length cw) rfl
      have hmk := mk_at (bits := bits) hx
      have hml := Lib.hid (rest_len (K := mk bits W) j hj)
      have hcl := Lib.hid (count_le (mk bits W) j)
      have hm' := Lib.hid hm
      clear hm
      have zq : gq < wo.heap.size := KQ.lt
      have zg : g < wo.heap.size := D.lt
      cases hbit : bitB bits x.b with
      | true =>
        rw [hbit] at hmk
        have hly := Lib.hid (land_yes (L := L) hx hmk)
        have hre := Lib.hid (rest_yes hx hmk)
        have hcn := Lib.hid (count_yes hmk)
        have hbe := bitB_eq bits x.b
        rw [hbit] at hbe
        replace hbe := Lib.hid hbe.symm
        obtain ⟨gl, curl, hAl, _, KL, hcs, hlc, _⟩ := own_blk bv_len HL (by omega)
        subst hAl
        have hFgl : F gl := hLw'.out _ rfl
        have hglw : gl < w.heap.size := hF'.out _ hFgl
        have hfit := Lib.hid (show x.b * 64 + (bc x.d).size ≤ curl.size by rw [bc_size, hcs]; have := Nat.mul_le_mul_right 64 (show x.b + 1 ≤ cl by omega); omega)
        have hgl := Lib.hid (show some g ≠ some gl from fun e => by injection e with e; exact Blk.ne_ D KL (by decide) e)
        have hql := Lib.hid (show gq ≠ gl from fun e => Blk.ne_ KQ KL (by decide) e)
        have hvl := Lib.hid (show some wo.heap.size ≠ some gl from fun e => by injection e with e; have := KL.lt; omega)
        have zo : gl < wo.heap.size := KL.lt
        have hwr : Hid (wrap64 (((count (mk bits W) j : Nat) : Int) + 1) = ((count (mk bits W) j + 1 : Nat) : Int)) := Lib.hid (by have h1 := hcl.out; unfold wrap64; omega)
        clear hx hcq hmk hbit hcs hlc
        go_upto_region 7 with (first
          | (refine at_slot 24 rfl ?_; refine wl_load_mid rfl 65 (.tmp 23) rfl gq (j * 65) rfl 65 curq (wv x) _ KQ hcx.out Try.underlying65 rfl (rsz_wv x) ?_)
          | ((with_reducible refine wl_alloc rfl 65 rfl (wc ⟨0, zb⟩) rnew_w ?_); intro w1 k1 b1 s1)
          | ((refine wl_store rfl 65 (.tmp 8) (.tmp 24) rfl wo.heap.size rfl (wc x) rfl 65 (wc ⟨0, zb⟩) k1 (rsz_wc x) (by rw [wc_size, wc_size]) (wc_one x) ?_); intro w2 k2 g2 s2; have v0 := k2.cellv 0 (.int .i64 x.b) rfl))
        have KV := k2
        have ne2 : ∀ k, k < wo.heap.size → some k ≠ some wo.heap.size := fun k hk e => by injection e with e; omega
        replace D := (D.below b1).grown g2 (ne2 _ zg)
        replace KL := (KL.below b1).grown g2 (ne2 _ zo)
        have O2 : Out wo w2 (fun _ => False) := ⟨g2.os.trans b1.os, g2.tape.trans b1.tape, g2.output.trans b1.output, Nat.le_trans b1.size g2.size, fun i hi _ => (g2.block i (Nat.lt_of_lt_of_le hi b1.size) (ne2 i hi)).trans (b1.block i hi)⟩
        replace HL := own_out HL O2 (fun _ _ h => h)
        replace HQ := own_out HQ O2 (fun _ _ h => h)
        replace HR := own_out HR O2 (fun _ _ h => h)
        replace OW := OW.trans O2 (fun i h => h.elim)
        clear k1 k2 g2 b1 s1 s2 hcx KQ ne2 f1
        replace hbe := hbe.out
        go_wp2_with fail
        clear v0
        clear O2 hbe
        refine wp_region_held_drew (S := (fun w' => Blk w' g 63 (dc (some ⟨gl, 0, none⟩) L.length cl (some ⟨gq, 0, none⟩) W.length cw) ∧ Blk w' wo.heap.size 65 (wc x))) (by kernel_rfl) (⟨D.drew, KV.drew⟩) (fun hHeld => ?_)
        refine wpAnyH_take (i := 0) (oi := { dst := some 36, op := Op.move (Operand.tmp 0), type := 25, pos := "ref.go:71", after := #[], guard := none }) (v := ?_) rfl (by kernel_rfl) (by kernel_rfl) (by kernel_rfl) (fun _ _ _ h => h) ?_ hHeld ?_
        rotate_left
        · refine Or.inl ⟨by rfl, fun w hSw => ?_⟩; skip; go_simp; (try with_reducible rfl)
        try simp only [Act.put, List.setIfInBounds_toArray, List.set_cons_zero, List.set_cons_succ]
        refine wpAnyH_take (i := 1) (oi := { dst := some 37, op := Op.nilCheck (Operand.tmp 36), type := 0, pos := "ref.go:71", after := #[{ on := 0, ground := Ground.data }], guard := none }) (v := ?_) rfl (by kernel_rfl) (by kernel_rfl) (by kernel_rfl) (fun _ _ _ h => h) ?_ hHeld ?_
        rotate_left
        · refine Or.inl ⟨by rfl, fun w hSw => ?_⟩; skip; go_simp; (try with_reducible rfl)
        try simp only [Act.put, List.setIfInBounds_toArray, List.set_cons_zero, List.set_cons_succ]
        refine wpAnyH_take (i := 2) (oi := { dst := some 38, op := Op.fieldAddr 63 (Operand.tmp 37) 0, type := 0, pos := "ref.go:71", after := #[{ on := 1, ground := Ground.data }], guard := none }) (v := ?_) rfl (by kernel_rfl) (by kernel_rfl) (by kernel_rfl) (fun _ _ _ h => h) ?_ hHeld ?_
        rotate_left
        · refine Or.inl ⟨by rfl, fun w hSw => ?_⟩; skip; go_simp; (try with_reducible rfl)
        try simp only [Act.put, List.setIfInBounds_toArray, List.set_cons_zero, List.set_cons_succ]
        refine wpAnyH_take (i := 3) (oi := { dst := some 39, op := Op.load 60 (Operand.tmp 38), type := 60, pos := "ref.go:71", after := #[{ on := 2, ground := Ground.data }], guard := none }) (v := ?_) rfl (by kernel_rfl) (by kernel_rfl) (by kernel_rfl) (fun _ _ _ h => h) ?_ hHeld ?_
        rotate_left
        · refine Or.inl ⟨by rfl, fun w hSw => ?_⟩; have c0 := Blk.cellv hSw.1 0 (.slice (some ⟨gl, 0, none⟩) L.length cl) rfl; go_simp; (try with_reducible rfl)
        try simp only [Act.put, List.setIfInBounds_toArray, List.set_cons_zero, List.set_cons_succ]
        refine wpAnyH_take (i := 4) (oi := { dst := some 40, op := Op.fieldAddr 65 (Operand.tmp 8) 0, type := 0, pos := "ref.go:71", after := #[], guard := none }) (v := ?_) rfl (by kernel_rfl) (by kernel_rfl) (by kernel_rfl) (fun _ _ _ h => h) ?_ hHeld ?_
        rotate_left
        · refine Or.inl ⟨by rfl, fun w hSw => ?_⟩; skip; go_simp; (try with_reducible rfl)
        try simp only [Act.put, List.setIfInBounds_toArray, List.set_cons_zero, List.set_cons_succ]
        refine wpAnyH_take (i := 5) (oi := { dst := some 41, op := Op.load 3 (Operand.tmp 40), type := 3, pos := "ref.go:71", after := #[{ on := 4, ground := Ground.data }], guard := none }) (v := ?_) rfl (by kernel_rfl) (by kernel_rfl) (by kernel_rfl) (fun _ _ _ h => h) ?_ hHeld ?_
        rotate_left
        · refine Or.inl ⟨by rfl, fun w hSw => ?_⟩; have c0 := Blk.cellv hSw.2 0 (.int .i64 x.b) rfl; go_simp; (try with_reducible rfl)
        try simp only [Act.put, List.setIfInBounds_toArray, List.set_cons_zero, List.set_cons_succ]
        refine wpAnyH_take (i := 6) (oi := { dst := some 42, op := Op.fieldAddr 65 (Operand.tmp 8) 1, type := 0, pos := "ref.go:71", after := #[], guard := none }) (v := ?_) rfl (by kernel_rfl) (by kernel_rfl) (by kernel_rfl) (fun _ _ _ h => h) ?_ hHeld ?_
        rotate_left
        · refine Or.inl ⟨by rfl, fun w hSw => ?_⟩; skip; go_simp; (try with_reducible rfl)
        try simp only [Act.put, List.setIfInBounds_toArray, List.set_cons_zero, List.set_cons_succ]
        refine wpAnyH_take (i := 7) (oi := { dst := some 43, op := Op.load 33 (Operand.tmp 42), type := 33, pos := "ref.go:71", after := #[{ on := 6, ground := Ground.data }], guard := none }) (v := ?_) rfl (by kernel_rfl) (by kernel_rfl) (by kernel_rfl) (fun _ _ _ h => h) ?_ hHeld ?_
        rotate_left
        · refine yIf_mid 33 (.tmp 42) wo.heap.size 1 65 (wc x) (bv x.d) _ ?_ ?_ Try.underlying33 rfl (by rw [bv_len]; exact rsize_d) ?_ ?_ ?_
          · exact fun _ h => h.2
          · exact fun j v h => wc_d x j v h
          · rfl
          · rfl
          · rfl
        try simp only [Act.put, List.setIfInBounds_toArray, List.set_cons_zero, List.set_cons_succ]
        refine wpAnyH_take (i := 8) (oi := { dst := some 44, op := Op.indexAddr 60 (Operand.tmp 39) (Operand.tmp 41), type := 0, pos := "ref.go:71", after := #[{ on := 3, ground := Ground.data }, { on := 5, ground := Ground.data }, { on := 0, ground := Ground.phase }, { on := 1, ground := Ground.phase }, { on := 2, ground := Ground.phase }, { on := 3, ground := Ground.phase }, { on := 4, ground := Ground.phase }, { on := 5, ground := Ground.phase }, { on := 6, ground := Ground.phase }, { on := 7, ground := Ground.phase }], guard := none }) (v := ?_) rfl (by kernel_rfl) (by kernel_rfl) (by kernel_rfl) (fun _ _ _ h => h) ?_ hHeld ?_
        rotate_left
        · refine Or.inl ⟨by rfl, fun w hSw => ?_⟩; skip; go_simp; (try with_reducible rfl)
        try simp only [Act.put, List.setIfInBounds_toArray, List.set_cons_zero, List.set_cons_succ]
        refine wpAnyH_ready (rs := [9]) (by kernel_rfl) (by simp) ?_
        refine AllReadyH.cons (o := { dst := none, op := Op.store 33 (Operand.tmp 44) (Operand.tmp 43), type := 0, pos := "ref.go:71", after := #[{ on := 8, ground := Ground.data }, { on := 7, ground := Ground.data }, { on := 0, ground := Ground.phase }, { on := 1, ground := Ground.phase }, { on := 2, ground := Ground.phase }, { on := 3, ground := Ground.phase }, { on := 4, ground := Ground.phase }, { on := 5, ground := Ground.phase }, { on := 6, ground := Ground.phase }, { on := 7, ground := Ground.phase }], guard := none }) rfl (fun Kc hKc => ?_) AllReadyH.nil
        refine step_of (by rfl) (wp_mid 33 (.tmp 44) (.tmp 43) (by rfl) gl (x.b * 64) (by rfl) (bc x.d) (by rfl) 33 curl KL.drew (rsz_bc x.d) hfit.out (bc_one x.d) ?_)
        intro wB kB gB sB
        refine hKc.out _ _ (⟨Blk.grown hHeld.1 gB hgl.out, Blk.grown hHeld.2 gB hvl.out⟩) (fun hHeld => ?_)
        clear hKc Kc
        try simp only [Act.put]
        refine wpAnyH_done (by kernel_rfl) ?_ _
        have HL2 := own_put bv_len (by decide) (own_below HL (bl_drew (bl_refl w2))) x.b hxb x.d rfl KL.drew kB
        rw [← hly.out] at HL2
        have HQ2 := own_out (own_below HQ (bl_drew (bl_refl w2))) (Out.of_grown gB (S := fun k => k = gl) (fun k e => by injection e with e; exact e.symm)) (fun k hk e => by injection hk with hk; exact hql.out (hk.trans e))
        have HR2 := own_kept (own_below HR (bl_drew (bl_refl w2))) gB hglw
        have OW2 : Out w wB F := (OW.trans (Out.of_below (bl_drew (bl_refl w2)) F) (fun i h => .inl h)).trans (Out.of_grown gB (S := F) (fun k e => by injection e with e; subst e; exact hFgl)) (fun i h => .inl h)
        have D2 := hHeld.1
        go_wp2_with fail
        go_roundw
        case rel => exact ⟨j + 1, Ar, cr, m, by omega, by rw [hre.out]; exact hm'.out, rfl, by go_num, by rw [hcn.out]; exact congrArg (Value.int .i64) hwr.out, D2, HL2, HQ2, by rw [hre.out]; exact HR2, OW2⟩
        case measure => first | (simp [intOf]; done) | (simp [intOf]; omega)
      | false =>
        rw [hbit] at hmk
        have hly := Lib.hid (land_no (L := L) hx hmk)
        have hre := Lib.hid (rest_no hx hmk)
        have hcn := Lib.hid (count_no hmk)
        have hbe := bitB_eq bits x.b
        rw [hbit] at hbe
        replace hbe := Lib.hid hbe.symm
        clear hx hcq hmk hbit
        go_upto_region 7 with (first
          | (refine at_slot 24 rfl ?_; refine wl_load_mid rfl 65 (.tmp 23) rfl gq (j * 65) rfl 65 curq (wv x) _ KQ hcx.out Try.underlying65 rfl (rsz_wv x) ?_)
          | ((with_reducible refine wl_alloc rfl 65 rfl (wc ⟨0, zb⟩) rnew_w ?_); intro w1 k1 b1 s1)
          | ((refine wl_store rfl 65 (.tmp 8) (.tmp 24) rfl wo.heap.size rfl (wc x) rfl 65 (wc ⟨0, zb⟩) k1 (rsz_wc x) (by rw [wc_size, wc_size]) (wc_one x) ?_); intro w2 k2 g2 s2; have v0 := k2.cellv 0 (.int .i64 x.b) rfl))
        have KV := k2
        have ne2 : ∀ k, k < wo.heap.size → some k ≠ some wo.heap.size := fun k hk e => by injection e with e; omega
        replace D := (D.below b1).grown g2 (ne2 _ zg)
        have O2 : Out wo w2 (fun _ => False) := ⟨g2.os.trans b1.os, g2.tape.trans b1.tape, g2.output.trans b1.output, Nat.le_trans b1.size g2.size, fun i hi _ => (g2.block i (Nat.lt_of_lt_of_le hi b1.size) (ne2 i hi)).trans (b1.block i hi)⟩
        replace HL := own_out HL O2 (fun _ _ h => h)
        replace HQ := own_out HQ O2 (fun _ _ h => h)
        replace HR := own_out HR O2 (fun _ _ h => h)
        replace OW := OW.trans O2 (fun i h => h.elim)
        have z2 : wo.heap.size ≤ w2.heap.size := O2.size
        clear k1 k2 g2 b1 s1 s2 hcx KQ ne2 f1
        replace hbe := hbe.out
        clear O2
        go_wp2_with (first
          | (refine at_slot 48 rfl ?_; refine wl_load rfl 65 (.tmp 8) rfl wo.heap.size rfl 65 (wc x) _ KV Try.underlying65 rfl (rsz_wc x) ?_)
          | (refine wl_bs1 (by rfl) 61 65 (.tmp 48) (by rfl) Try.underlying61 (.agg (wc ⟨0, zb⟩)) 65 72 rinfo_w (by rfl) (by decide) (by decide) (wc x) (by rfl) (wc_size _) ?_)
          | (refine at_slot 50 rfl ?_; refine app_one_w (w0 := w) (f := wv) w.heap.size 65 72 wv_len wv_one (.agg (wc ⟨0, zb⟩)) rfl (.tmp 47) (.tmp 49) 61 65 rfl Try.underlying61 rinfo_w rfl (Nat.succ_pos _) (Nat.succ_pos _) (.slice Ar m cr) m (rest W (mk bits W) j) rfl HR x (wc x) rfl w2.heap.size rfl rfl ?d1 ?d2 ?_))
        case d1 => have h1 := hml.out; have h2 := hm'.out; omega
        case d2 => omega
        intro A5 c5 w5 HO5 G5 s5 _
        have hbo : ∀ k, (Value.slice Ar m cr).ownBlock = some k → w.heap.size ≤ k := own_base HR
        have OG := Out.of_grown G5 (S := fun k => w.heap.size ≤ k) (fun k hk => hbo k hk)
        have D5 : Blk w5 g 63 (dc Al L.length cl (some ⟨gq, 0, none⟩) W.length cw) := D.grown G5 (fun e => by have := hbo _ e.symm; omega)
        have HL5 := own_out HL OG (fun k hk e => by have := hF'.out _ (hLw'.out k hk); omega)
        have HQ5 := own_out HQ OG (fun k hk e => by have := hF'.out _ (hWw'.out k hk); omega)
        have OW5 : Out w w5 F := OW.trans OG (fun i h => .inr h)
        clear D HL HQ HR OW KV OG G5
        go_wp2_with fail
        go_roundw
        case rel => exact ⟨j + 1, A5, c5, m + 1, by omega, by rw [hre.out, List.length_append, ← hm'.out]; rfl, rfl, by go_num, by rw [hcn.out], D5, by rw [hly.out]; exact HL5, HQ5, by rw [hre.out, List.flatMap_append, List.flatMap_singleton]; exact HO5, OW5⟩
        case measure => first | (simp [intOf]; done) | (simp [intOf]; omega)
    · obtain rfl : j = W.length := by omega
      have hq : decide ((W.length : Int) < (W.length : Int)) = false := by simp
      have f1 := D.cellv 1 (.slice Aw W.length cw) rfl
      have hcm : Hid ((W.length : Int) - (m : Int) = ((count (mk bits W) W.length : Nat) : Int)) := Lib.hid (by have := hrc.out; omega)
      have hml : m ≤ W.length := by have := hrc.out; omega
      go_wp2_with (first
        | ((refine wl_set rfl 61 (.tmp 54) (.tmp 52) rfl g 1 rfl (.slice Ar m cr) rfl rfl 63 (dc Al L.length cl Aw W.length cw) D (by kernel_rfl) (by simp [dc]) ?_); intro w3 k3 g3 s3))
      go_ret
      have OG := Out.of_grown g3 (S := fun k => k = g) (fun k e => by injection e with e; exact e.symm)
      have hng : ∀ k, (Value.slice Al L.length cl).ownBlock = some k → ¬ k = g := by
        intro k hk e
        cases Al with
        | none => cases hk
        | some a =>
          injection hk with hk
          subst hk
          obtain ⟨_, _, cs, hk⟩ := row_lt HL a rfl
          exact Blk.ne_ (e ▸ hk) D (by decide) rfl
      subst hm
      have HR3 := own_kept HR g3 hgw
      refine ⟨rfl, ⟨Al, cl, Ar, cr, ⟨by rw [hll.out]; exact k3, by rw [hll.out]; exact own_out HL OG hng, own_mono HR3 hB, hBg⟩, .inl hFg, fun a ha => .inl (hFl a ha), fun a ha => ?_⟩, OW.trans (Out.of_grown g3 (S := F) (fun k e => by injection e with e; subst e; exact hFg)) (fun i h => .inl h)⟩
      obtain ⟨h1, h2, _⟩ := row_lt HR3 a ha
      exact .inr ⟨h2, h1⟩

end Go.Proofs.Ythihpejhhimkaaa.DiskU
