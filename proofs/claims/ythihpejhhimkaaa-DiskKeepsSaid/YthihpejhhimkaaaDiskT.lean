/- Contracts of the reference of layer 8: Read, Crash. -/
import Derived.Test.YthihpejhhimkaaaDiskS
set_option linter.unusedVariables false
namespace Go.Proofs.Ythihpejhhimkaaa.DiskT
open Go.RowKit Go.Proofs.Ythihpejhhimkaaa.Base Go.Proofs.Ythihpejhhimkaaa.Row Go.Proofs.Ythihpejhhimkaaa.App Go.Proofs.Ythihpejhhimkaaa.Multi Go.Proofs.Ythihpejhhimkaaa.StEq Go.Proofs.Ythihpejhhimkaaa.Held Go.Proofs.Ythihpejhhimkaaa.Out Go.Proofs.Ythihpejhhimkaaa.HeldW Go.Proofs.Ythihpejhhimkaaa.HeldX Go.Proofs.Ythihpejhhimkaaa.DiskMath Go.Proofs.Ythihpejhhimkaaa.Disk Go.Proofs.Ythihpejhhimkaaa.Disk3 Go.Proofs.Ythihpejhhimkaaa.DiskS

theorem wv_d {x : Wr} {cur : Array Value} {o : Nat} (h : ∀ j v, (wv x)[j]? = some v → cur[o + j]? = some v) (j : Nat) (v : Value) (hv : (bv x.d)[j]? = some v) : cur[o + 1 + j]? = some v := by
  rw [Nat.add_assoc, Nat.add_comm 1 j]
  exact h (j + 1) v (by rw [wv, List.getElem?_cons_succ]; exact hv)
set_option maxRecDepth 100000 in
set_option maxHeartbeats 4000000 in
theorem rread_c (g : Nat) (F : Nat → Prop) (L : List Bk) (W : List Wr) (b B : Nat) (w : World) (h : DkF 63 33 65 B w g F L W) (hb : b < L.length) (hL : L.length ≤ 1000) (hW : W.length ≤ 1000) :
    Calls Try.prog 26 #[.pointer (some ⟨g, 0, none⟩), .int .i64 b] w fun r w' => r = .returned (.agg (bc (DiskMath.read L W b))) ∧ Below w.heap.size w w' := by
  obtain ⟨Al, cl, Aw, cw, D, hFg, hFl, hFw⟩ := h
  have HQ := D.q
  have HL := D.l
  replace D := D.d
  obtain ⟨gl, curl, hAl, _, KL, hcs, hlc, hcl⟩ := own_blk bv_len HL (by omega)
  subst hAl
  have hat : L[b]? = some (at_ L b) := by unfold at_; rw [List.getElem?_eq_getElem hb]; rfl
  have hca := Lib.hid (hcl b _ hat)
  have hin := Lib.hid (fun w' (hb' : Below w.heap.size w w') => rin_yes g L.length cl W.length cw b (some ⟨gl, 0, none⟩) Aw w' (D.below hb') hb)
  have hbi : (b : Int) < (L.length : Int) := by omega
  have zg := D.lt
  have zl := KL.lt
  clear hat hcl
  go_enter Try.func26, Try.ntmps26
  go_wp2_with (first
    | (have _k := k1; (with_reducible refine wl_alloc rfl 33 rfl (bc zb) rnew_d ?_); intro w2 k2 b2 s2)
    | ((with_reducible refine wl_alloc rfl 33 rfl (bc zb) rnew_d ?_); intro w1 k1 b1 s1)
    | (refine wl_build0 rfl 33 rfl (bc zb) rzero_d ?_)
    | ((refine wl_store rfl 33 _ _ rfl w1.heap.size rfl (bc zb) rfl 33 (bc zb) k2 (rsz_bc _) rfl (bc_one _) ?_); intro w3 k3 g3 s3))
  have K1 := (k1.below b2).grown g3 (fun e => by injection e with e; omega)
  have B3 := below_grown (bl_then b1 b2) (by have := b1.size; have := b2.size; omega) g3 (by omega)
  have z1 := k1.lt
  clear k1 k2 b1 b2 g3
  refine (hin.out w3 B3).mono ?_
  rintro r w4 ⟨rfl, rfl⟩
  have f0 := (D.below B3).cellv 0 (.slice (some ⟨gl, 0, none⟩) L.length cl) rfl
  have KL3 := KL.below B3
  go_wp2_with (first
    | (refine at_slot 17 rfl ?_; refine wl_load_mid rfl 33 (.tmp 16) rfl gl (b * 64) rfl 33 curl (bv (at_ L b)) _ KL3 hca.out Try.underlying33 rfl (by rw [bv_len]; exact rsize_d) ?_)
    | (refine at_none rfl ?_; refine wl_store rfl 33 (.tmp 5) (.tmp 17) rfl w1.heap.size rfl (bc (at_ L b)) rfl 33 (bc zb) k3 (rsz_bc _) (by rw [bc_size, bc_size]) (bc_one _) ?_; intro w4 k4 g4 s4))
  have K14 := K1.grown g4 (fun e => by injection e with e; omega)
  have B4 := below_grown B3 B3.size g4 (by omega)
  clear K1 B3 k3 f0 KL3 g4
  go_loopw [6] (fun i wr => ∃ j : Nat, j ≤ W.length ∧ i = .int .i64 j ∧ Blk wr w1.heap.size 33 (bc (over W b (at_ L b) j)) ∧ Blk wr w.heap.size 33 (bc zb) ∧ Below w.heap.size w wr) (fun i _ => W.length - (intOf i).toNat)
  case atStart => exact ⟨0, by omega, rfl, k4, K14, B4⟩
  case round =>
    clear k4 K14 B4
    obtain ⟨j, hj, rfl, KX, KR, HB⟩ := hrel
    obtain ⟨wo, rfl⟩ : ∃ wo : World, wo = wr := ⟨_, rfl⟩
    by_cases hlt : j < W.length
    · have hq : decide ((j : Int) < (W.length : Int)) = true := by simp; omega
      have hq2 : (j : Int) < (W.length : Int) := by omega
      obtain ⟨x, hx⟩ : ∃ x, W[j]? = some x := ⟨_, List.getElem?_eq_getElem hlt⟩
      obtain ⟨gq, curq, hAw, _, KQ0, _, _, hcq⟩ := own_blk wv_len HQ (by omega)
      subst hAw
      have KQ := KQ0.below HB
      have f1 := (D.below HB).cellv 1 (.slice (some ⟨gq, 0, none⟩) W.length cw) rfl
      have c0 := KQ.cellv (j * 65) (.int .i64 x.b) (hcq j x hx 0 _ rfl)
      have hcd := Lib.hid (fun j' v => wv_d (hcq j x hx) j' v)
      by_cases hxb : x.b = b
      · have hov := Lib.hid (over_yes (o := at_ L b) hx hxb)
        have q1 : ((x.b : Int) == (b : Int)) = true := by simp [hxb]
        have q2 : (x.b : Int) = (b : Int) := by omega
        subst hxb
        clear hx hcq
        go_wp2_with (first
          | (refine at_slot 44 rfl ?_; refine wl_load_mid rfl 33 (.tmp 43) rfl gq (j * 65 + 1) rfl 65 curq (bv x.d) _ KQ hcd.out Try.underlying33 rfl (by rw [bv_len]; exact rsize_d) ?_)
          | (refine at_none rfl ?_; refine wl_store rfl 33 (.tmp 5) (.tmp 44) rfl w1.heap.size rfl (bc x.d) rfl 33 _ KX (rsz_bc _) (by rw [bc_size, bc_size]) (bc_one _) ?_; intro w4 k4 g4 s4))
        go_roundw
        case rel => exact ⟨j + 1, by omega, by go_num, by rw [hov.out]; exact k4, KR.grown g4 (fun e => by injection e with e; omega), below_grown HB HB.size g4 (by omega)⟩
        case measure => first | (simp [intOf]; done) | (simp [intOf]; omega)
      · have hov := Lib.hid (over_no (o := at_ L b) hx hxb)
        have q1 : ((x.b : Int) == (b : Int)) = false := by simp; omega
        clear hx hcq
        go_wp2_with fail
        go_roundw
        case rel => exact ⟨j + 1, by omega, by go_num, by rw [hov.out]; exact KX, KR, HB⟩
        case measure => first | (simp [intOf]; done) | (simp [intOf]; omega)
    · obtain rfl : j = W.length := by omega
      have hq : decide ((W.length : Int) < (W.length : Int)) = false := by simp
      have f1 := (D.below HB).cellv 1 (.slice Aw W.length cw) rfl
      go_wp2_with (first
        | (refine wl_load rfl 33 (.tmp 5) rfl w1.heap.size rfl 33 (bc (over W b (at_ L b) W.length)) _ KX Try.underlying33 rfl (rsz_bc _) ?_)
        | (refine at_none rfl ?_; refine wl_store rfl 33 (.tmp 4) (.tmp 45) rfl w.heap.size rfl (bc (over W b (at_ L b) W.length)) rfl 33 (bc zb) KR (rsz_bc _) (by rw [bc_size, bc_size]) (bc_one _) ?_; intro w4 k4 g4 s4))
      refine bodyPost_ret (res_cell rfl _ _ _ w.heap.size 33 (bc (over W b (at_ L b) W.length)) _ rfl k4 Try.underlying33 rfl (rsz_bc _)) rfl ⟨rfl, below_grown HB HB.size g4 (Nat.le_refl _)⟩

set_option maxRecDepth 100000 in
set_option maxHeartbeats 4000000 in
theorem rflush_c (g : Nat) (F : Nat → Prop) (L : List Bk) (W : List Wr) (B : Nat) (w : World) (h : DkF 63 33 65 B w g F L W) (hok : Ok L W) (hL : L.length ≤ 1000) (hW : W.length ≤ 1000) (hF : ∀ i, F i → i < w.heap.size) :
    Calls Try.prog 25 #[.pointer (some ⟨g, 0, none⟩), .slice none 0 0, .bool true] w fun r w' => r = .returned (.int .i64 (count yes W.length : Nat)) ∧ DkF 63 33 65 B w' g (gro F w w') (land W yes L W.length) [] ∧ Out w w' F := by
  obtain ⟨Al, cl, Aw, cw, D, hFg, hFl, hFw⟩ := h
  have HQ := D.q
  have HL := D.l
  have hBg := D.b
  replace D := D.d
  have OW := Out.refl w F
  have hok' := Lib.hid hok
  have hll := Lib.hid (fun j => land_len W yes L j)
  clear hok
  go_enter Try.func25, Try.ntmps25
  go_wp2_with fail
  go_loopw [7, 8] (fun c i wr => ∃ j : Nat, j ≤ W.length ∧ c = .int .i64 (count yes j : Nat) ∧ i = .int .i64 j ∧ Blk wr g 63 (dc Al L.length cl Aw W.length cw) ∧ wr.ownsRow B 33 64 (.slice Al L.length cl) L.length ((land W yes L j).flatMap bv) ∧ wr.ownsRow B 65 65 (.slice Aw W.length cw) W.length (W.flatMap wv) ∧ Out w wr F) (fun _ i _ => W.length - (intOf i).toNat)
  case atStart => exact ⟨0, by omega, rfl, rfl, D, HL, HQ, OW⟩
  case round =>
    clear D HL HQ OW
    obtain ⟨j, hj, rfl, rfl, D, HL, HQ, OW⟩ := hrel
    obtain ⟨wo, rfl⟩ : ∃ wo : World, wo = wr := ⟨_, rfl⟩
    by_cases hlt : j < W.length
    · have hq : decide ((j : Int) < (W.length : Int)) = true := by simp; omega
      have hq2 : (j : Int) < (W.length : Int) := by omega
      obtain ⟨x, hx⟩ : ∃ x, W[j]? = some x := ⟨_, List.getElem?_eq_getElem hlt⟩
      have hxb : x.b < L.length := hok'.out.at hx
      have hxb' : (x.b : Int) < (L.length : Int) := by omega
      have hcl := Lib.hid (count_le yes j)
      obtain ⟨gq, curq, hAw, _, KQ, _, _, hcq⟩ := own_blk wv_len HQ (by omega)
      subst hAw
      have f1 := D.cellv 1 (.slice (some ⟨gq, 0, none⟩) W.length cw) rfl
      have hcb : Hid (curq[j * 65]? = some (.int .i64 x.b)) := Lib.hid (hcq j x hx 0 _ rfl)
      have hcd := Lib.hid (fun j' v => wv_d (hcq j x hx) j' v)
      have hkj : yes j = true := rfl
      obtain ⟨gl, curl, hAl, _, KL, hcs, hlc, _⟩ := own_blk bv_len HL (by omega)
      subst hAl
      have hFgl : F gl := hFl _ rfl
      have hfit := Lib.hid (show x.b * 64 + (bc x.d).size ≤ curl.size by rw [bc_size, hcs]; have := Nat.mul_le_mul_right 64 (show x.b + 1 ≤ cl by omega); omega)
      have hgl := Lib.hid (show some g ≠ some gl from fun e => by injection e with e; exact Blk.ne_ D KL (by decide) e)
      have hql := Lib.hid (show gq ≠ gl from fun e => Blk.ne_ KQ KL (by decide) e)
      have hqg := Lib.hid (show some gq ≠ some gl from fun e => by injection e with e; exact Blk.ne_ KQ KL (by decide) e)
      have hly1 := Lib.hid (land_yes (L := L) hx hkj)
      have hc3 := Lib.hid (count_yes hkj)
      have hwr : Hid (wrap64 (((count yes j : Nat) : Int) + 1) = ((count yes j + 1 : Nat) : Int)) := Lib.hid (by have h1 := hcl.out; unfold wrap64; omega)
      clear hx hcq
      go_wp2_with fail
      clear f1
      refine wp_region_held_drew (S := (fun w' => Blk w' g 63 (dc (some ⟨gl, 0, none⟩) L.length cl (some ⟨gq, 0, none⟩) W.length cw) ∧ Blk w' gq 65 curq)) (by kernel_rfl) (⟨D.drew, KQ.drew⟩) (fun hHeld => ?_)
      refine wpAnyH_take (i := 0) (oi := { dst := some 31, op := Op.move (Operand.tmp 0), type := 25, pos := "ref.go:47", after := #[], guard := none }) (v := ?_) rfl (by kernel_rfl) (by kernel_rfl) (by kernel_rfl) (fun _ _ _ h => h) ?_ hHeld ?_
      rotate_left
      · refine Or.inl ⟨by rfl, fun w hSw => ?_⟩; skip; go_simp; (try with_reducible rfl)
      try simp only [Act.put, List.setIfInBounds_toArray, List.set_cons_zero, List.set_cons_succ]
      refine wpAnyH_take (i := 1) (oi := { dst := some 32, op := Op.nilCheck (Operand.tmp 31), type := 0, pos := "ref.go:47", after := #[{ on := 0, ground := Ground.data }], guard := none }) (v := ?_) rfl (by kernel_rfl) (by kernel_rfl) (by kernel_rfl) (fun _ _ _ h => h) ?_ hHeld ?_
      rotate_left
      · refine Or.inl ⟨by rfl, fun w hSw => ?_⟩; skip; go_simp; (try with_reducible rfl)
      try simp only [Act.put, List.setIfInBounds_toArray, List.set_cons_zero, List.set_cons_succ]
      refine wpAnyH_take (i := 2) (oi := { dst := some 33, op := Op.fieldAddr 63 (Operand.tmp 32) 0, type := 0, pos := "ref.go:47", after := #[{ on := 1, ground := Ground.data }], guard := none }) (v := ?_) rfl (by kernel_rfl) (by kernel_rfl) (by kernel_rfl) (fun _ _ _ h => h) ?_ hHeld ?_
      rotate_left
      · refine Or.inl ⟨by rfl, fun w hSw => ?_⟩; skip; go_simp; (try with_reducible rfl)
      try simp only [Act.put, List.setIfInBounds_toArray, List.set_cons_zero, List.set_cons_succ]
      refine wpAnyH_take (i := 3) (oi := { dst := some 34, op := Op.load 60 (Operand.tmp 33), type := 60, pos := "ref.go:47", after := #[{ on := 2, ground := Ground.data }], guard := none }) (v := ?_) rfl (by kernel_rfl) (by kernel_rfl) (by kernel_rfl) (fun _ _ _ h => h) ?_ hHeld ?_
      rotate_left
      · refine Or.inl ⟨by rfl, fun w hSw => ?_⟩; have c0 := Blk.cellv hSw.1 0 (.slice (some ⟨gl, 0, none⟩) L.length cl) rfl; go_simp; (try with_reducible rfl)
      try simp only [Act.put, List.setIfInBounds_toArray, List.set_cons_zero, List.set_cons_succ]
      refine wpAnyH_take (i := 4) (oi := { dst := some 35, op := Op.move (Operand.tmp 0), type := 25, pos := "ref.go:47", after := #[], guard := none }) (v := ?_) rfl (by kernel_rfl) (by kernel_rfl) (by kernel_rfl) (fun _ _ _ h => h) ?_ hHeld ?_
      rotate_left
      · refine Or.inl ⟨by rfl, fun w hSw => ?_⟩; skip; go_simp; (try with_reducible rfl)
      try simp only [Act.put, List.setIfInBounds_toArray, List.set_cons_zero, List.set_cons_succ]
      refine wpAnyH_take (i := 5) (oi := { dst := some 36, op := Op.nilCheck (Operand.tmp 35), type := 0, pos := "ref.go:47", after := #[{ on := 4, ground := Ground.data }], guard := none }) (v := ?_) rfl (by kernel_rfl) (by kernel_rfl) (by kernel_rfl) (fun _ _ _ h => h) ?_ hHeld ?_
      rotate_left
      · refine Or.inl ⟨by rfl, fun w hSw => ?_⟩; skip; go_simp; (try with_reducible rfl)
      try simp only [Act.put, List.setIfInBounds_toArray, List.set_cons_zero, List.set_cons_succ]
      refine wpAnyH_take (i := 6) (oi := { dst := some 37, op := Op.fieldAddr 63 (Operand.tmp 36) 1, type := 0, pos := "ref.go:47", after := #[{ on := 5, ground := Ground.data }], guard := none }) (v := ?_) rfl (by kernel_rfl) (by kernel_rfl) (by kernel_rfl) (fun _ _ _ h => h) ?_ hHeld ?_
      rotate_left
      · refine Or.inl ⟨by rfl, fun w hSw => ?_⟩; skip; go_simp; (try with_reducible rfl)
      try simp only [Act.put, List.setIfInBounds_toArray, List.set_cons_zero, List.set_cons_succ]
      refine wpAnyH_take (i := 7) (oi := { dst := some 38, op := Op.load 61 (Operand.tmp 37), type := 61, pos := "ref.go:47", after := #[{ on := 6, ground := Ground.data }], guard := none }) (v := ?_) rfl (by kernel_rfl) (by kernel_rfl) (by kernel_rfl) (fun _ _ _ h => h) ?_ hHeld ?_
      rotate_left
      · refine Or.inl ⟨by rfl, fun w hSw => ?_⟩; have c0 := Blk.cellv hSw.1 1 (.slice (some ⟨gq, 0, none⟩) W.length cw) rfl; go_simp; (try with_reducible rfl)
      try simp only [Act.put, List.setIfInBounds_toArray, List.set_cons_zero, List.set_cons_succ]
      refine wpAnyH_take (i := 8) (oi := { dst := some 39, op := Op.move (Operand.tmp 8), type := 3, pos := "ref.go:47", after := #[], guard := none }) (v := ?_) rfl (by kernel_rfl) (by kernel_rfl) (by kernel_rfl) (fun _ _ _ h => h) ?_ hHeld ?_
      rotate_left
      · refine Or.inl ⟨by rfl, fun w hSw => ?_⟩; skip; go_simp; (try with_reducible rfl)
      try simp only [Act.put, List.setIfInBounds_toArray, List.set_cons_zero, List.set_cons_succ]
      refine wpAnyH_take (i := 9) (oi := { dst := some 40, op := Op.indexAddr 61 (Operand.tmp 38) (Operand.tmp 39), type := 0, pos := "ref.go:47", after := #[{ on := 7, ground := Ground.data }, { on := 8, ground := Ground.data }], guard := none }) (v := ?_) rfl (by kernel_rfl) (by kernel_rfl) (by kernel_rfl) (fun _ _ _ h => h) ?_ hHeld ?_
      rotate_left
      · refine Or.inl ⟨by rfl, fun w hSw => ?_⟩; skip; go_simp; (try with_reducible rfl)
      try simp only [Act.put, List.setIfInBounds_toArray, List.set_cons_zero, List.set_cons_succ]
      refine wpAnyH_take (i := 10) (oi := { dst := some 41, op := Op.fieldAddr 65 (Operand.tmp 40) 0, type := 0, pos := "ref.go:47", after := #[{ on := 9, ground := Ground.data }], guard := none }) (v := ?_) rfl (by kernel_rfl) (by kernel_rfl) (by kernel_rfl) (fun _ _ _ h => h) ?_ hHeld ?_
      rotate_left
      · refine Or.inl ⟨by rfl, fun w hSw => ?_⟩; skip; go_simp; (try with_reducible rfl)
      try simp only [Act.put, List.setIfInBounds_toArray, List.set_cons_zero, List.set_cons_succ]
      refine wpAnyH_take (i := 11) (oi := { dst := some 42, op := Op.load 3 (Operand.tmp 41), type := 3, pos := "ref.go:47", after := #[{ on := 10, ground := Ground.data }], guard := none }) (v := ?_) rfl (by kernel_rfl) (by kernel_rfl) (by kernel_rfl) (fun _ _ _ h => h) ?_ hHeld ?_
      rotate_left
      · refine Or.inl ⟨by rfl, fun w hSw => ?_⟩; have c0 := Blk.cellv hSw.2 (j * 65) (.int .i64 x.b) hcb.out; go_simp; (try with_reducible rfl)
      try simp only [Act.put, List.setIfInBounds_toArray, List.set_cons_zero, List.set_cons_succ]
      refine wpAnyH_take (i := 12) (oi := { dst := some 43, op := Op.move (Operand.tmp 0), type := 25, pos := "ref.go:47", after := #[], guard := none }) (v := ?_) rfl (by kernel_rfl) (by kernel_rfl) (by kernel_rfl) (fun _ _ _ h => h) ?_ hHeld ?_
      rotate_left
      · refine Or.inl ⟨by rfl, fun w hSw => ?_⟩; skip; go_simp; (try with_reducible rfl)
      try simp only [Act.put, List.setIfInBounds_toArray, List.set_cons_zero, List.set_cons_succ]
      refine wpAnyH_take (i := 13) (oi := { dst := some 44, op := Op.nilCheck (Operand.tmp 43), type := 0, pos := "ref.go:47", after := #[{ on := 12, ground := Ground.data }], guard := none }) (v := ?_) rfl (by kernel_rfl) (by kernel_rfl) (by kernel_rfl) (fun _ _ _ h => h) ?_ hHeld ?_
      rotate_left
      · refine Or.inl ⟨by rfl, fun w hSw => ?_⟩; skip; go_simp; (try with_reducible rfl)
      try simp only [Act.put, List.setIfInBounds_toArray, List.set_cons_zero, List.set_cons_succ]
      refine wpAnyH_take (i := 14) (oi := { dst := some 45, op := Op.fieldAddr 63 (Operand.tmp 44) 1, type := 0, pos := "ref.go:47", after := #[{ on := 13, ground := Ground.data }], guard := none }) (v := ?_) rfl (by kernel_rfl) (by kernel_rfl) (by kernel_rfl) (fun _ _ _ h => h) ?_ hHeld ?_
      rotate_left
      · refine Or.inl ⟨by rfl, fun w hSw => ?_⟩; skip; go_simp; (try with_reducible rfl)
      try simp only [Act.put, List.setIfInBounds_toArray, List.set_cons_zero, List.set_cons_succ]
      refine wpAnyH_take (i := 15) (oi := { dst := some 46, op := Op.load 61 (Operand.tmp 45), type := 61, pos := "ref.go:47", after := #[{ on := 14, ground := Ground.data }], guard := none }) (v := ?_) rfl (by kernel_rfl) (by kernel_rfl) (by kernel_rfl) (fun _ _ _ h => h) ?_ hHeld ?_
      rotate_left
      · refine Or.inl ⟨by rfl, fun w hSw => ?_⟩; have c0 := Blk.cellv hSw.1 1 (.slice (some ⟨gq, 0, none⟩) W.length cw) rfl; go_simp; (try with_reducible rfl)
      try simp only [Act.put, List.setIfInBounds_toArray, List.set_cons_zero, List.set_cons_succ]
      refine wpAnyH_take (i := 16) (oi := { dst := some 47, op := Op.move (Operand.tmp 8), type := 3, pos := "ref.go:47", after := #[], guard := none }) (v := ?_) rfl (by kernel_rfl) (by kernel_rfl) (by kernel_rfl) (fun _ _ _ h => h) ?_ hHeld ?_
      rotate_left
      · refine Or.inl ⟨by rfl, fun w hSw => ?_⟩; skip; go_simp; (try with_reducible rfl)
      try simp only [Act.put, List.setIfInBounds_toArray, List.set_cons_zero, List.set_cons_succ]
      refine wpAnyH_take (i := 17) (oi := { dst := some 48, op := Op.indexAddr 61 (Operand.tmp 46) (Operand.tmp 47), type := 0, pos := "ref.go:47", after := #[{ on := 15, ground := Ground.data }, { on := 16, ground := Ground.data }], guard := none }) (v := ?_) rfl (by kernel_rfl) (by kernel_rfl) (by kernel_rfl) (fun _ _ _ h => h) ?_ hHeld ?_
      rotate_left
      · refine Or.inl ⟨by rfl, fun w hSw => ?_⟩; skip; go_simp; (try with_reducible rfl)
      try simp only [Act.put, List.setIfInBounds_toArray, List.set_cons_zero, List.set_cons_succ]
      refine wpAnyH_take (i := 18) (oi := { dst := some 49, op := Op.fieldAddr 65 (Operand.tmp 48) 1, type := 0, pos := "ref.go:47", after := #[{ on := 17, ground := Ground.data }], guard := none }) (v := ?_) rfl (by kernel_rfl) (by kernel_rfl) (by kernel_rfl) (fun _ _ _ h => h) ?_ hHeld ?_
      rotate_left
      · refine Or.inl ⟨by rfl, fun w hSw => ?_⟩; skip; go_simp; (try with_reducible rfl)
      try simp only [Act.put, List.setIfInBounds_toArray, List.set_cons_zero, List.set_cons_succ]
      refine wpAnyH_take (i := 19) (oi := { dst := some 50, op := Op.load 33 (Operand.tmp 49), type := 33, pos := "ref.go:47", after := #[{ on := 18, ground := Ground.data }], guard := none }) (v := ?_) rfl (by kernel_rfl) (by kernel_rfl) (by kernel_rfl) (fun _ _ _ h => h) ?_ hHeld ?_
      rotate_left
      · refine yIf_mid 33 (.tmp 49) gq (j * 65 + 1) 65 curq (bv x.d) _ ?_ hcd.out Try.underlying33 rfl (by rw [bv_len]; exact rsize_d) ?_ ?_ ?_
        · exact fun _ h => h.2
        · rfl
        · rfl
        · rfl
      try simp only [Act.put, List.setIfInBounds_toArray, List.set_cons_zero, List.set_cons_succ]
      refine wpAnyH_take (i := 20) (oi := { dst := some 51, op := Op.indexAddr 60 (Operand.tmp 34) (Operand.tmp 42), type := 0, pos := "ref.go:47", after := #[{ on := 3, ground := Ground.data }, { on := 11, ground := Ground.data }, { on := 0, ground := Ground.phase }, { on := 1, ground := Ground.phase }, { on := 2, ground := Ground.phase }, { on := 3, ground := Ground.phase }, { on := 4, ground := Ground.phase }, { on := 5, ground := Ground.phase }, { on := 6, ground := Ground.phase }, { on := 7, ground := Ground.phase }, { on := 8, ground := Ground.phase }, { on := 9, ground := Ground.phase }, { on := 10, ground := Ground.phase }, { on := 11, ground := Ground.phase }, { on := 12, ground := Ground.phase }, { on := 13, ground := Ground.phase }, { on := 14, ground := Ground.phase }, { on := 15, ground := Ground.phase }, { on := 16, ground := Ground.phase }, { on := 17, ground := Ground.phase }, { on := 18, ground := Ground.phase }, { on := 19, ground := Ground.phase }], guard := none }) (v := ?_) rfl (by kernel_rfl) (by kernel_rfl) (by kernel_rfl) (fun _ _ _ h => h) ?_ hHeld ?_
      rotate_left
      · refine Or.inl ⟨by rfl, fun w hSw => ?_⟩; skip; go_simp; (try with_reducible rfl)
      try simp only [Act.put, List.setIfInBounds_toArray, List.set_cons_zero, List.set_cons_succ]
      refine wpAnyH_ready (rs := [21]) (by kernel_rfl) (by simp) ?_
      refine AllReadyH.cons (o := { dst := none, op := Op.store 33 (Operand.tmp 51) (Operand.tmp 50), type := 0, pos := "ref.go:47", after := #[{ on := 20, ground := Ground.data }, { on := 19, ground := Ground.data }, { on := 0, ground := Ground.phase }, { on := 1, ground := Ground.phase }, { on := 2, ground := Ground.phase }, { on := 3, ground := Ground.phase }, { on := 4, ground := Ground.phase }, { on := 5, ground := Ground.phase }, { on := 6, ground := Ground.phase }, { on := 7, ground := Ground.phase }, { on := 8, ground := Ground.phase }, { on := 9, ground := Ground.phase }, { on := 10, ground := Ground.phase }, { on := 11, ground := Ground.phase }, { on := 12, ground := Ground.phase }, { on := 13, ground := Ground.phase }, { on := 14, ground := Ground.phase }, { on := 15, ground := Ground.phase }, { on := 16, ground := Ground.phase }, { on := 17, ground := Ground.phase }, { on := 18, ground := Ground.phase }, { on := 19, ground := Ground.phase }], guard := none }) rfl (fun Kc hKc => ?_) AllReadyH.nil
      refine step_of (by rfl) (wp_mid 33 (.tmp 51) (.tmp 50) (by rfl) gl (x.b * 64) (by rfl) (bc x.d) (by rfl) 33 curl KL.drew (rsz_bc x.d) hfit.out (bc_one x.d) ?_)
      intro wB kB gB sB
      refine hKc.out _ _ (⟨Blk.grown hHeld.1 gB hgl.out, Blk.grown hHeld.2 gB hqg.out⟩) (fun hHeld => ?_)
      clear hKc Kc
      try simp only [Act.put]
      refine wpAnyH_done (by kernel_rfl) ?_ _
      have HL2 := own_put bv_len (by decide) (own_below HL (bl_drew (bl_refl wo))) x.b hxb x.d rfl KL.drew kB
      rw [← hly1.out] at HL2
      have HQ2 := own_out (own_below HQ (bl_drew (bl_refl wo))) (Out.of_grown gB (S := fun k => k = gl) (fun k e => by injection e with e; exact e.symm)) (fun k hk e => by injection hk with hk; exact hql.out (hk.trans e))
      have OW2 : Out w wB F := (OW.trans (Out.of_below (bl_drew (bl_refl wo)) F) (fun i h => .inl h)).trans (Out.of_grown gB (S := F) (fun k e => by injection e with e; subst e; exact hFgl)) (fun i h => .inl h)
      have D2 := hHeld.1
      go_wp2_with fail
      go_roundw
      case rel => exact ⟨j + 1, by omega, by rw [hc3.out]; exact congrArg (Value.int .i64) hwr.out, by go_num, D2, HL2, HQ2, OW2⟩
      case measure => first | (simp [intOf]; done) | (simp [intOf]; omega)
    · obtain rfl : j = W.length := by omega
      have hq : decide ((W.length : Int) < (W.length : Int)) = false := by simp
      have f1 := D.cellv 1 (.slice Aw W.length cw) rfl
      go_wp2_with (first
        | ((refine wl_set rfl 61 (.tmp 56) (.const (.slice none 0 0)) rfl g 1 rfl (.slice none 0 0) rfl rfl 63 (dc Al L.length cl Aw W.length cw) D (by kernel_rfl) (by simp [dc]) ?_); intro w3 k3 g3 s3))
      go_ret
      have OG := Out.of_grown g3 (S := fun k => k = g) (fun k e => by injection e with e; exact e.symm)
      have hng : ∀ k, (Value.slice Al L.length cl).ownBlock = some k → ¬ k = g := by
        intro k hk e
        cases Al with
        | none => cases hk
        | some a =>
          injection hk with hk
          subst hk
          obtain ⟨_, _, cs, hk⟩ := row_lt HL a rfl
          exact Blk.ne_ (e ▸ hk) D (by decide) rfl
      refine ⟨rfl, ⟨Al, cl, none, 0, ⟨by rw [hll.out]; exact k3, by rw [hll.out]; exact own_out HL OG hng, own_nil _ _ _ _, hBg⟩, .inl hFg, fun a ha => .inl (hFl a ha), fun a ha => by cases ha⟩, OW.trans (Out.of_grown g3 (S := F) (fun k e => by injection e with e; subst e; exact hFg)) (fun i h => .inl h)⟩

set_option maxRecDepth 100000 in
set_option maxHeartbeats 4000000 in
theorem rcrash_c (g : Nat) (F : Nat → Prop) (L : List Bk) (W : List Wr) (B : Nat) (w : World) (h : DkF 63 33 65 B w g F L W) (hok : Ok L W) (hL : L.length ≤ 1000) (hW : W.length ≤ 1000) (hF : ∀ i, F i → i < w.heap.size) (Ak : Option Addr) (nk ck : Nat) (ks : List Bool) (hk : RF bo 1 w Ak nk ks) (hkF : 0 < nk → ∀ a, Ak = some a → ¬ F a.block) :
    Calls Try.prog 25 #[.pointer (some ⟨g, 0, none⟩), .slice Ak nk ck, .bool false] w fun r w' => r = .returned (.int .i64 (count (kf ks) W.length : Nat)) ∧ DkF 63 33 65 B w' g (gro F w w') (land W (kf ks) L W.length) [] ∧ Out w w' F := by
  obtain ⟨Al, cl, Aw, cw, D, hFg, hFl, hFw⟩ := h
  have HQ := D.q
  have HL := D.l
  have hBg := D.b
  replace D := D.d
  have OW := Out.refl w F
  have hok' := Lib.hid hok
  have hll := Lib.hid (fun j => land_len W (kf ks) L j)
  clear hok
  have hkk := Lib.hid hk
  have hkx := hk.max
  have hkF' := Lib.hid hkF
  clear hk hkF
  go_enter Try.func25, Try.ntmps25
  go_wp2_with fail
  go_loopw [7, 8] (fun c i wr => ∃ j : Nat, j ≤ W.length ∧ c = .int .i64 (count (kf ks) j : Nat) ∧ i = .int .i64 j ∧ Blk wr g 63 (dc Al L.length cl Aw W.length cw) ∧ wr.ownsRow B 33 64 (.slice Al L.length cl) L.length ((land W (kf ks) L j).flatMap bv) ∧ wr.ownsRow B 65 65 (.slice Aw W.length cw) W.length (W.flatMap wv) ∧ Out w wr F) (fun _ i _ => W.length - (intOf i).toNat)
  case atStart => exact ⟨0, by omega, rfl, rfl, D, HL, HQ, OW⟩
  case round =>
    clear D HL HQ OW
    obtain ⟨j, hj, rfl, rfl, D, HL, HQ, OW⟩ := hrel
    obtain ⟨wo, rfl⟩ : ∃ wo : World, wo = wr := ⟨_, rfl⟩
    by_cases hlt : j < W.length
    · have hq : decide ((j : Int) < (W.length : Int)) = true := by simp; omega
      have hq2 : (j : Int) < (W.length : Int) := by omega
      obtain ⟨x, hx⟩ : ∃ x, W[j]? = some x := ⟨_, List.getElem?_eq_getElem hlt⟩
      have hxb : x.b < L.length := hok'.out.at hx
      have hxb' : (x.b : Int) < (L.length : Int) := by omega
      have hcl := Lib.hid (count_le (kf ks) j)
      obtain ⟨gq, curq, hAw, _, KQ, _, _, hcq⟩ := own_blk wv_len HQ (by omega)
      subst hAw
      have f1 := D.cellv 1 (.slice (some ⟨gq, 0, none⟩) W.length cw) rfl
      have hcb : Hid (curq[j * 65]? = some (.int .i64 x.b)) := Lib.hid (hcq j x hx 0 _ rfl)
      have hcd := Lib.hid (fun j' v => wv_d (hcq j x hx) j' v)
      have hcase : (decide ((j : Int) < (nk : Int)) = false ∧ nk ≤ j ∧ kf ks j = false) ∨ ∃ gk ok v, Ak = some ⟨gk, ok, none⟩ ∧ kf ks j = v ∧ j < nk ∧ wo.cell? ⟨gk, ok + j, none⟩ = some (.bool v) := by
        by_cases h : j < nk
        · right
          obtain ⟨gk, ok, v, h1, h2, h3⟩ := (Out.RF.out (h := hkk.out) OW (hkF'.out (by omega))).at_ j h
          have h4 := h3 0 _ rfl
          rw [Nat.mul_one, Nat.add_zero] at h4
          exact ⟨gk, ok, v, h1, by unfold kf; rw [h2]; rfl, h, h4⟩
        · left
          refine ⟨by simp; omega, by omega, ?_⟩
          unfold kf
          rw [List.getElem?_eq_none (by rw [hkk.out.len]; omega)]; rfl
      rcases hcase with ⟨qk, qk3, hkj⟩ | ⟨gk, ok, v, hAk, hkj, hlk, fk⟩
      · have hly1 := Lib.hid (land_no (L := L) hx hkj)
        have hc3 := Lib.hid (count_no hkj)
        clear hx hcq hkj
        go_wp2_with fail
        go_roundw
        case rel => exact ⟨j + 1, by omega, by rw [hc3.out], by go_num, D, by rw [hly1.out]; exact HL, HQ, OW⟩
        case measure => first | (simp [intOf]; done) | (simp [intOf]; omega)
      · subst hAk
        have hlk2 : (j : Int) < (nk : Int) := by omega
        have qk : decide ((j : Int) < (nk : Int)) = true := by simp; omega
        cases v with
        | false =>
          have hly1 := Lib.hid (land_no (L := L) hx hkj)
          have hc3 := Lib.hid (count_no hkj)
          clear hx hcq hkj
          go_wp2_with fail
          go_roundw
          case rel => exact ⟨j + 1, by omega, by rw [hc3.out], by go_num, D, by rw [hly1.out]; exact HL, HQ, OW⟩
          case measure => first | (simp [intOf]; done) | (simp [intOf]; omega)
        | true =>
          obtain ⟨gl, curl, hAl, _, KL, hcs, hlc, _⟩ := own_blk bv_len HL (by omega)
          subst hAl
          have hFgl : F gl := hFl _ rfl
          have hfit := Lib.hid (show x.b * 64 + (bc x.d).size ≤ curl.size by rw [bc_size, hcs]; have := Nat.mul_le_mul_right 64 (show x.b + 1 ≤ cl by omega); omega)
          have hgl := Lib.hid (show some g ≠ some gl from fun e => by injection e with e; exact Blk.ne_ D KL (by decide) e)
          have hql := Lib.hid (show gq ≠ gl from fun e => Blk.ne_ KQ KL (by decide) e)
          have hqg := Lib.hid (show some gq ≠ some gl from fun e => by injection e with e; exact Blk.ne_ KQ KL (by decide) e)
          have hly1 := Lib.hid (land_yes (L := L) hx hkj)
          have hc3 := Lib.hid (count_yes hkj)
          have hwr : Hid (wrap64 (((count (kf ks) j : Nat) : Int) + 1) = ((count (kf ks) j + 1 : Nat) : Int)) := Lib.hid (by have h1 := hcl.out; unfold wrap64; omega)
          clear hx hcq
          go_wp2_with fail
          clear f1
          clear fk
          refine wp_region_held_drew (S := (fun w' => Blk w' g 63 (dc (some ⟨gl, 0, none⟩) L.length cl (some ⟨gq, 0, none⟩) W.length cw) ∧ Blk w' gq 65 curq)) (by kernel_rfl) (⟨D.drew, KQ.drew⟩) (fun hHeld => ?_)
          refine wpAnyH_take (i := 0) (oi := { dst := some 31, op := Op.move (Operand.tmp 0), type := 25, pos := "ref.go:47", after := #[], guard := none }) (v := ?_) rfl (by kernel_rfl) (by kernel_rfl) (by kernel_rfl) (fun _ _ _ h => h) ?_ hHeld ?_
          rotate_left
          · refine Or.inl ⟨by rfl, fun w hSw => ?_⟩; skip; go_simp; (try with_reducible rfl)
          try simp only [Act.put, List.setIfInBounds_toArray, List.set_cons_zero, List.set_cons_succ]
          refine wpAnyH_take (i := 1) (oi := { dst := some 32, op := Op.nilCheck (Operand.tmp 31), type := 0, pos := "ref.go:47", after := #[{ on := 0, ground := Ground.data }], guard := none }) (v := ?_) rfl (by kernel_rfl) (by kernel_rfl) (by kernel_rfl) (fun _ _ _ h => h) ?_ hHeld ?_
          rotate_left
          · refine Or.inl ⟨by rfl, fun w hSw => ?_⟩; skip; go_simp; (try with_reducible rfl)
          try simp only [Act.put, List.setIfInBounds_toArray, List.set_cons_zero, List.set_cons_succ]
          refine wpAnyH_take (i := 2) (oi := { dst := some 33, op := Op.fieldAddr 63 (Operand.tmp 32) 0, type := 0, pos := "ref.go:47", after := #[{ on := 1, ground := Ground.data }], guard := none }) (v := ?_) rfl (by kernel_rfl) (by kernel_rfl) (by kernel_rfl) (fun _ _ _ h => h) ?_ hHeld ?_
          rotate_left
          · refine Or.inl ⟨by rfl, fun w hSw => ?_⟩; skip; go_simp; (try with_reducible rfl)
          try simp only [Act.put, List.setIfInBounds_toArray, List.set_cons_zero, List.set_cons_succ]
          refine wpAnyH_take (i := 3) (oi := { dst := some 34, op := Op.load 60 (Operand.tmp 33), type := 60, pos := "ref.go:47", after := #[{ on := 2, ground := Ground.data }], guard := none }) (v := ?_) rfl (by kernel_rfl) (by kernel_rfl) (by kernel_rfl) (fun _ _ _ h => h) ?_ hHeld ?_
          rotate_left
          · refine Or.inl ⟨by rfl, fun w hSw => ?_⟩; have c0 := Blk.cellv hSw.1 0 (.slice (some ⟨gl, 0, none⟩) L.length cl) rfl; go_simp; (try with_reducible rfl)
          try simp only [Act.put, List.setIfInBounds_toArray, List.set_cons_zero, List.set_cons_succ]
          refine wpAnyH_take (i := 4) (oi := { dst := some 35, op := Op.move (Operand.tmp 0), type := 25, pos := "ref.go:47", after := #[], guard := none }) (v := ?_) rfl (by kernel_rfl) (by kernel_rfl) (by kernel_rfl) (fun _ _ _ h => h) ?_ hHeld ?_
          rotate_left
          · refine Or.inl ⟨by rfl, fun w hSw => ?_⟩; skip; go_simp; (try with_reducible rfl)
          try simp only [Act.put, List.setIfInBounds_toArray, List.set_cons_zero, List.set_cons_succ]
          refine wpAnyH_take (i := 5) (oi := { dst := some 36, op := Op.nilCheck (Operand.tmp 35), type := 0, pos := "ref.go:47", after := #[{ on := 4, ground := Ground.data }], guard := none }) (v := ?_) rfl (by kernel_rfl) (by kernel_rfl) (by kernel_rfl) (fun _ _ _ h => h) ?_ hHeld ?_
          rotate_left
          · refine Or.inl ⟨by rfl, fun w hSw => ?_⟩; skip; go_simp; (try with_reducible rfl)
          try simp only [Act.put, List.setIfInBounds_toArray, List.set_cons_zero, List.set_cons_succ]
          refine wpAnyH_take (i := 6) (oi := { dst := some 37, op := Op.fieldAddr 63 (Operand.tmp 36) 1, type := 0, pos := "ref.go:47", after := #[{ on := 5, ground := Ground.data }], guard := none }) (v := ?_) rfl (by kernel_rfl) (by kernel_rfl) (by kernel_rfl) (fun _ _ _ h => h) ?_ hHeld ?_
          rotate_left
          · refine Or.inl ⟨by rfl, fun w hSw => ?_⟩; skip; go_simp; (try with_reducible rfl)
          try simp only [Act.put, List.setIfInBounds_toArray, List.set_cons_zero, List.set_cons_succ]
          refine wpAnyH_take (i := 7) (oi := { dst := some 38, op := Op.load 61 (Operand.tmp 37), type := 61, pos := "ref.go:47", after := #[{ on := 6, ground := Ground.data }], guard := none }) (v := ?_) rfl (by kernel_rfl) (by kernel_rfl) (by kernel_rfl) (fun _ _ _ h => h) ?_ hHeld ?_
          rotate_left
          · refine Or.inl ⟨by rfl, fun w hSw => ?_⟩; have c0 := Blk.cellv hSw.1 1 (.slice (some ⟨gq, 0, none⟩) W.length cw) rfl; go_simp; (try with_reducible rfl)
          try simp only [Act.put, List.setIfInBounds_toArray, List.set_cons_zero, List.set_cons_succ]
          refine wpAnyH_take (i := 8) (oi := { dst := some 39, op := Op.move (Operand.tmp 8), type := 3, pos := "ref.go:47", after := #[], guard := none }) (v := ?_) rfl (by kernel_rfl) (by kernel_rfl) (by kernel_rfl) (fun _ _ _ h => h) ?_ hHeld ?_
          rotate_left
          · refine Or.inl ⟨by rfl, fun w hSw => ?_⟩; skip; go_simp; (try with_reducible rfl)
          try simp only [Act.put, List.setIfInBounds_toArray, List.set_cons_zero, List.set_cons_succ]
          refine wpAnyH_take (i := 9) (oi := { dst := some 40, op := Op.indexAddr 61 (Operand.tmp 38) (Operand.tmp 39), type := 0, pos := "ref.go:47", after := #[{ on := 7, ground := Ground.data }, { on := 8, ground := Ground.data }], guard := none }) (v := ?_) rfl (by kernel_rfl) (by kernel_rfl) (by kernel_rfl) (fun _ _ _ h => h) ?_ hHeld ?_
          rotate_left
          · refine Or.inl ⟨by rfl, fun w hSw => ?_⟩; skip; go_simp; (try with_reducible rfl)
          try simp only [Act.put, List.setIfInBounds_toArray, List.set_cons_zero, List.set_cons_succ]
          refine wpAnyH_take (i := 10) (oi := { dst := some 41, op := Op.fieldAddr 65 (Operand.tmp 40) 0, type := 0, pos := "ref.go:47", after := #[{ on := 9, ground := Ground.data }], guard := none }) (v := ?_) rfl (by kernel_rfl) (by kernel_rfl) (by kernel_rfl) (fun _ _ _ h => h) ?_ hHeld ?_
          rotate_left
          · refine Or.inl ⟨by rfl, fun w hSw => ?_⟩; skip; go_simp; (try with_reducible rfl)
          try simp only [Act.put, List.setIfInBounds_toArray, List.set_cons_zero, List.set_cons_succ]
          refine wpAnyH_take (i := 11) (oi := { dst := some 42, op := Op.load 3 (Operand.tmp 41), type := 3, pos := "ref.go:47", after := #[{ on := 10, ground := Ground.data }], guard := none }) (v := ?_) rfl (by kernel_rfl) (by kernel_rfl) (by kernel_rfl) (fun _ _ _ h => h) ?_ hHeld ?_
          rotate_left
          · refine Or.inl ⟨by rfl, fun w hSw => ?_⟩; have c0 := Blk.cellv hSw.2 (j * 65) (.int .i64 x.b) hcb.out; go_simp; (try with_reducible rfl)
          try simp only [Act.put, List.setIfInBounds_toArray, List.set_cons_zero, List.set_cons_succ]
          refine wpAnyH_take (i := 12) (oi := { dst := some 43, op := Op.move (Operand.tmp 0), type := 25, pos := "ref.go:47", after := #[], guard := none }) (v := ?_) rfl (by kernel_rfl) (by kernel_rfl) (by kernel_rfl) (fun _ _ _ h => h) ?_ hHeld ?_
          rotate_left
          · refine Or.inl ⟨by rfl, fun w hSw => ?_⟩; skip; go_simp; (try with_reducible rfl)
          try simp only [Act.put, List.setIfInBounds_toArray, List.set_cons_zero, List.set_cons_succ]
          refine wpAnyH_take (i := 13) (oi := { dst := some 44, op := Op.nilCheck (Operand.tmp 43), type := 0, pos := "ref.go:47", after := #[{ on := 12, ground := Ground.data }], guard := none }) (v := ?_) rfl (by kernel_rfl) (by kernel_rfl) (by kernel_rfl) (fun _ _ _ h => h) ?_ hHeld ?_
          rotate_left
          · refine Or.inl ⟨by rfl, fun w hSw => ?_⟩; skip; go_simp; (try with_reducible rfl)
          try simp only [Act.put, List.setIfInBounds_toArray, List.set_cons_zero, List.set_cons_succ]
          refine wpAnyH_take (i := 14) (oi := { dst := some 45, op := Op.fieldAddr 63 (Operand.tmp 44) 1, type := 0, pos := "ref.go:47", after := #[{ on := 13, ground := Ground.data }], guard := none }) (v := ?_) rfl (by kernel_rfl) (by kernel_rfl) (by kernel_rfl) (fun _ _ _ h => h) ?_ hHeld ?_
          rotate_left
          · refine Or.inl ⟨by rfl, fun w hSw => ?_⟩; skip; go_simp; (try with_reducible rfl)
          try simp only [Act.put, List.setIfInBounds_toArray, List.set_cons_zero, List.set_cons_succ]
          refine wpAnyH_take (i := 15) (oi := { dst := some 46, op := Op.load 61 (Operand.tmp 45), type := 61, pos := "ref.go:47", after := #[{ on := 14, ground := Ground.data }], guard := none }) (v := ?_) rfl (by kernel_rfl) (by kernel_rfl) (by kernel_rfl) (fun _ _ _ h => h) ?_ hHeld ?_
          rotate_left
          · refine Or.inl ⟨by rfl, fun w hSw => ?_⟩; have c0 := Blk.cellv hSw.1 1 (.slice (some ⟨gq, 0, none⟩) W.length cw) rfl; go_simp; (try with_reducible rfl)
          try simp only [Act.put, List.setIfInBounds_toArray, List.set_cons_zero, List.set_cons_succ]
          refine wpAnyH_take (i := 16) (oi := { dst := some 47, op := Op.move (Operand.tmp 8), type := 3, pos := "ref.go:47", after := #[], guard := none }) (v := ?_) rfl (by kernel_rfl) (by kernel_rfl) (by kernel_rfl) (fun _ _ _ h => h) ?_ hHeld ?_
          rotate_left
          · refine Or.inl ⟨by rfl, fun w hSw => ?_⟩; skip; go_simp; (try with_reducible rfl)
          try simp only [Act.put, List.setIfInBounds_toArray, List.set_cons_zero, List.set_cons_succ]
          refine wpAnyH_take (i := 17) (oi := { dst := some 48, op := Op.indexAddr 61 (Operand.tmp 46) (Operand.tmp 47), type := 0, pos := "ref.go:47", after := #[{ on := 15, ground := Ground.data }, { on := 16, ground := Ground.data }], guard := none }) (v := ?_) rfl (by kernel_rfl) (by kernel_rfl) (by kernel_rfl) (fun _ _ _ h => h) ?_ hHeld ?_
          rotate_left
          · refine Or.inl ⟨by rfl, fun w hSw => ?_⟩; skip; go_simp; (try with_reducible rfl)
          try simp only [Act.put, List.setIfInBounds_toArray, List.set_cons_zero, List.set_cons_succ]
          refine wpAnyH_take (i := 18) (oi := { dst := some 49, op := Op.fieldAddr 65 (Operand.tmp 48) 1, type := 0, pos := "ref.go:47", after := #[{ on := 17, ground := Ground.data }], guard := none }) (v := ?_) rfl (by kernel_rfl) (by kernel_rfl) (by kernel_rfl) (fun _ _ _ h => h) ?_ hHeld ?_
          rotate_left
          · refine Or.inl ⟨by rfl, fun w hSw => ?_⟩; skip; go_simp; (try with_reducible rfl)
          try simp only [Act.put, List.setIfInBounds_toArray, List.set_cons_zero, List.set_cons_succ]
          refine wpAnyH_take (i := 19) (oi := { dst := some 50, op := Op.load 33 (Operand.tmp 49), type := 33, pos := "ref.go:47", after := #[{ on := 18, ground := Ground.data }], guard := none }) (v := ?_) rfl (by kernel_rfl) (by kernel_rfl) (by kernel_rfl) (fun _ _ _ h => h) ?_ hHeld ?_
          rotate_left
          · refine yIf_mid 33 (.tmp 49) gq (j * 65 + 1) 65 curq (bv x.d) _ ?_ hcd.out Try.underlying33 rfl (by rw [bv_len]; exact rsize_d) ?_ ?_ ?_
            · exact fun _ h => h.2
            · rfl
            · rfl
            · rfl
          try simp only [Act.put, List.setIfInBounds_toArray, List.set_cons_zero, List.set_cons_succ]
          refine wpAnyH_take (i := 20) (oi := { dst := some 51, op := Op.indexAddr 60 (Operand.tmp 34) (Operand.tmp 42), type := 0, pos := "ref.go:47", after := #[{ on := 3, ground := Ground.data }, { on := 11, ground := Ground.data }, { on := 0, ground := Ground.phase }, { on := 1, ground := Ground.phase }, { on := 2, ground := Ground.phase }, { on := 3, ground := Ground.phase }, { on := 4, ground := Ground.phase }, { on := 5, ground := Ground.phase }, { on := 6, ground := Ground.phase }, { on := 7, ground := Ground.phase }, { on := 8, ground := Ground.phase }, { on := 9, ground := Ground.phase }, { on := 10, ground := Ground.phase }, { on := 11, ground := Ground.phase }, { on := 12, ground := Ground.phase }, { on := 13, ground := Ground.phase }, { on := 14, ground := Ground.phase }, { on := 15, ground := Ground.phase }, { on := 16, ground := Ground.phase }, { on := 17, ground := Ground.phase }, { on := 18, ground := Ground.phase }, { on := 19, ground := Ground.phase }], guard := none }) (v := ?_) rfl (by kernel_rfl) (by kernel_rfl) (by kernel_rfl) (fun _ _ _ h => h) ?_ hHeld ?_
          rotate_left
          · refine Or.inl ⟨by rfl, fun w hSw => ?_⟩; skip; go_simp; (try with_reducible rfl)
          try simp only [Act.put, List.setIfInBounds_toArray, List.set_cons_zero, List.set_cons_succ]
          refine wpAnyH_ready (rs := [21]) (by kernel_rfl) (by simp) ?_
          refine AllReadyH.cons (o := { dst := none, op := Op.store 33 (Operand.tmp 51) (Operand.tmp 50), type := 0, pos := "ref.go:47", after := #[{ on := 20, ground := Ground.data }, { on := 19, ground := Ground.data }, { on := 0, ground := Ground.phase }, { on := 1, ground := Ground.phase }, { on := 2, ground := Ground.phase }, { on := 3, ground := Ground.phase }, { on := 4, ground := Ground.phase }, { on := 5, ground := Ground.phase }, { on := 6, ground := Ground.phase }, { on := 7, ground := Ground.phase }, { on := 8, ground := Ground.phase }, { on := 9, ground := Ground.phase }, { on := 10, ground := Ground.phase }, { on := 11, ground := Ground.phase }, { on := 12, ground := Ground.phase }, { on := 13, ground := Ground.phase }, { on := 14, ground := Ground.phase }, { on := 15, ground := Ground.phase }, { on := 16, ground := Ground.phase }, { on := 17, ground := Ground.phase }, { on := 18, ground := Ground.phase }, { on := 19, ground := Ground.phase }], guard := none }) rfl (fun Kc hKc => ?_) AllReadyH.nil
          refine step_of (by rfl) (wp_mid 33 (.tmp 51) (.tmp 50) (by rfl) gl (x.b * 64) (by rfl) (bc x.d) (by rfl) 33 curl KL.drew (rsz_bc x.d) hfit.out (bc_one x.d) ?_)
          intro wB kB gB sB
          refine hKc.out _ _ (⟨Blk.grown hHeld.1 gB hgl.out, Blk.grown hHeld.2 gB hqg.out⟩) (fun hHeld => ?_)
          clear hKc Kc
          try simp only [Act.put]
          refine wpAnyH_done (by kernel_rfl) ?_ _
          have HL2 := own_put bv_len (by decide) (own_below HL (bl_drew (bl_refl wo))) x.b hxb x.d rfl KL.drew kB
          rw [← hly1.out] at HL2
          have HQ2 := own_out (own_below HQ (bl_drew (bl_refl wo))) (Out.of_grown gB (S := fun k => k = gl) (fun k e => by injection e with e; exact e.symm)) (fun k hk e => by injection hk with hk; exact hql.out (hk.trans e))
          have OW2 : Out w wB F := (OW.trans (Out.of_below (bl_drew (bl_refl wo)) F) (fun i h => .inl h)).trans (Out.of_grown gB (S := F) (fun k e => by injection e with e; subst e; exact hFgl)) (fun i h => .inl h)
          have D2 := hHeld.1
          go_wp2_with fail
          go_roundw
          case rel => exact ⟨j + 1, by omega, by rw [hc3.out]; exact congrArg (Value.int .i64) hwr.out, by go_num, D2, HL2, HQ2, OW2⟩
          case measure => first | (simp [intOf]; done) | (simp [intOf]; omega)
    · obtain rfl : j = W.length := by omega
      have hq : decide ((W.length : Int) < (W.length : Int)) = false := by simp
      have f1 := D.cellv 1 (.slice Aw W.length cw) rfl
      go_wp2_with (first
        | ((refine wl_set rfl 61 (.tmp 56) (.const (.slice none 0 0)) rfl g 1 rfl (.slice none 0 0) rfl rfl 63 (dc Al L.length cl Aw W.length cw) D (by kernel_rfl) (by simp [dc]) ?_); intro w3 k3 g3 s3))
      go_ret
      have OG := Out.of_grown g3 (S := fun k => k = g) (fun k e => by injection e with e; exact e.symm)
      have hng : ∀ k, (Value.slice Al L.length cl).ownBlock = some k → ¬ k = g := by
        intro k hk e
        cases Al with
        | none => cases hk
        | some a =>
          injection hk with hk
          subst hk
          obtain ⟨_, _, cs, hk⟩ := row_lt HL a rfl
          exact Blk.ne_ (e ▸ hk) D (by decide) rfl
      refine ⟨rfl, ⟨Al, cl, none, 0, ⟨by rw [hll.out]; exact k3, by rw [hll.out]; exact own_out HL OG hng, own_nil _ _ _ _, hBg⟩, .inl hFg, fun a ha => .inl (hFl a ha), fun a ha => by cases ha⟩, OW.trans (Out.of_grown g3 (S := F) (fun k e => by injection e with e; subst e; exact hFg)) (fun i h => .inl h)⟩

end Go.Proofs.Ythihpejhhimkaaa.DiskT
