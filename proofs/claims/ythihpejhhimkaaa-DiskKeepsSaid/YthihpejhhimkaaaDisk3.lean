/- Contracts of package disk: Flush, Crash. -/
import Derived.Test.YthihpejhhimkaaaDisk2
set_option linter.unusedVariables false
namespace Go.Proofs.Ythihpejhhimkaaa.Disk3
open Go.RowKit Go.Proofs.Ythihpejhhimkaaa.Base Go.Proofs.Ythihpejhhimkaaa.Row Go.Proofs.Ythihpejhhimkaaa.App Go.Proofs.Ythihpejhhimkaaa.Multi Go.Proofs.Ythihpejhhimkaaa.StEq Go.Proofs.Ythihpejhhimkaaa.Held Go.Proofs.Ythihpejhhimkaaa.Out Go.Proofs.Ythihpejhhimkaaa.HeldW Go.Proofs.Ythihpejhhimkaaa.DiskMath Go.Proofs.Ythihpejhhimkaaa.Disk

theorem wc_d (x : Wr) (j : Nat) (v : Value) (h : (bv x.d)[j]? = some v) : (wc x)[1 + j]? = some v := by
  rw [wc, List.getElem?_toArray, wv, Nat.add_comm, List.getElem?_cons_succ]; exact h
theorem new_w : (Try.prog.info? 71).map (fun i => i.zero.map (·.cells)) = some (some (wc ⟨0, zb⟩)) := by kernel_rfl
theorem sz_wc (x : Wr) : (Try.prog.info? 71).map (·.size) = some (wc x).size := by rw [wc_size]; kernel_rfl
theorem sz_wv (x : Wr) : (Try.prog.info? 71).map (·.size) = some (wv x).length := by rw [wv_len]; kernel_rfl
def yes (_ : Nat) : Bool := true

set_option maxRecDepth 100000 in
set_option maxHeartbeats 4000000 in
theorem flush_c (g : Nat) (F : Nat → Prop) (L : List Bk) (W : List Wr) (B : Nat) (w : World) (h : DkF 59 34 71 B w g F L W) (hok : Ok L W) (hL : L.length ≤ 1000) (hW : W.length ≤ 1000) (hF : ∀ i, F i → i < w.heap.size) :
    Calls Try.prog 15 #[.pointer (some ⟨g, 0, none⟩)] w fun r w' => r = .returned (.tuple #[]) ∧ DkF 59 34 71 B w' g (gro F w w') (land W yes L W.length) [] ∧ Out w w' F := by
  obtain ⟨Al, cl, Aw, cw, D, hFg, hFl, hFw⟩ := h
  have HQ := D.q
  have HL := D.l
  have hBg := D.b
  replace D := D.d
  have OW := Out.refl w F
  have f1 := D.cellv 1 (.slice Aw W.length cw) rfl
  have hok' := Lib.hid hok
  have hll := Lib.hid (fun j => land_len W yes L j)
  clear hok
  go_enter Try.func15, Try.ntmps15
  go_wp2_with fail

  go_loopw [11] (fun i wr => ∃ j : Nat, j ≤ W.length ∧ i = .int .i64 j ∧ Blk wr g 59 (dc Al L.length cl Aw W.length cw) ∧ wr.ownsRow B 34 64 (.slice Al L.length cl) L.length ((land W yes L j).flatMap bv) ∧ wr.ownsRow B 71 65 (.slice Aw W.length cw) W.length (W.flatMap wv) ∧ Out w wr F) (fun i _ => W.length - (intOf i).toNat)
  case atStart => exact ⟨0, by omega, rfl, D, HL, HQ, OW⟩
  case round =>
    clear D HL HQ OW f1
    obtain ⟨j, hj, rfl, D, HL, HQ, OW⟩ := hrel
    obtain ⟨wo, rfl⟩ : ∃ wo : World, wo = wr := ⟨_, rfl⟩
    by_cases hlt : j < W.length
    · have hq : decide ((j : Int) < (W.length : Int)) = true := by simp; omega
      have hq2 : (j : Int) < (W.length : Int) := by omega
      obtain ⟨x, hx⟩ : ∃ x, W[j]? = some x := ⟨_, List.getElem?_eq_getElem hlt⟩
      have hxb : x.b < L.length := hok'.out.at hx
      have hxb' : (x.b : Int) < (L.length : Int) := by omega
      obtain ⟨gq, curq, hAw, _, KQ, _, _, hcq⟩ := own_blk wv_len HQ (by omega)
      subst hAw
      have hcx := Lib.hid (hcq j x hx)
      have hFq : F gq := hFw _ rfl
      have f1 := D.cellv 1 (.slice (some ⟨gq, 0, none⟩) W.length cw) rfl
      obtain ⟨gl, curl, hAl, _, KL, hcs, hlc, _⟩ := own_blk bv_len HL (by omega)
      subst hAl
      have hFgl : F gl := hFl _ rfl
      have hfit := Lib.hid (show x.b * 64 + (bc x.d).size ≤ curl.size by rw [bc_size, hcs]; have := Nat.mul_le_mul_right 64 (show x.b + 1 ≤ cl by omega); omega)
      have hgl := Lib.hid (show some g ≠ some gl from fun e => by injection e with e; exact Blk.ne_ D KL (by decide) e)
      have hql := Lib.hid (show gq ≠ gl from fun e => Blk.ne_ KQ KL (by decide) e)
      have hvl := Lib.hid (show some wo.heap.size ≠ some gl from fun e => by injection e with e; have := KL.lt; omega)
      have hly := Lib.hid (land_yes (keep := yes) (L := L) hx rfl)
      clear f1
      go_wp2_with (first
        | (refine wl_load_mid rfl 71 (.tmp 13) rfl gq (j * 65) rfl 71 curq (wv x) _ KQ hcx.out Try.underlying71 rfl (sz_wv x) ?_)
        | ((with_reducible refine wl_alloc rfl 71 rfl (wc ⟨0, zb⟩) new_w ?_); intro w1 k1 b1 s1)
        | ((refine wl_store rfl 71 (.tmp 3) (.tmp 14) rfl wo.heap.size rfl (wc x) rfl 71 (wc ⟨0, zb⟩) k1 (sz_wc x) (by rw [wc_size, wc_size]) (wc_one x) ?_); intro w2 k2 g2 s2))
      have KV := k2
      have zo : gl < wo.heap.size := KL.lt
      have zq : gq < wo.heap.size := KQ.lt
      have zg : g < wo.heap.size := D.lt
      have ne2 : ∀ k, k < wo.heap.size → some k ≠ some wo.heap.size := fun k hk e => by injection e with e; omega
      replace D := (D.below b1).grown g2 (ne2 _ zg)
      replace KL := (KL.below b1).grown g2 (ne2 _ zo)
      have O2 : Out wo w2 (fun _ => False) := ⟨g2.os.trans b1.os, g2.tape.trans b1.tape, g2.output.trans b1.output, Nat.le_trans b1.size g2.size, fun i hi _ => (g2.block i (Nat.lt_of_lt_of_le hi b1.size) (ne2 i hi)).trans (b1.block i hi)⟩
      replace HL := own_out HL O2 (fun _ _ h => h)
      replace HQ := own_out HQ O2 (fun _ _ h => h)
      replace OW := OW.trans O2 (fun i h => h.elim)
      clear k1 k2 g2 b1 s1 s2 hcq hcx KQ ne2 O2
      refine wp_region_held_drew (S := (fun w' => Blk w' g 59 (dc (some ⟨gl, 0, none⟩) L.length cl (some ⟨gq, 0, none⟩) W.length cw) ∧ Blk w' wo.heap.size 71 (wc x))) (by kernel_rfl) (⟨D.drew, KV.drew⟩) (fun hHeld => ?_)
      refine wpAnyH_take (i := 0) (oi := { dst := some 15, op := Op.move (Operand.tmp 0), type := 23, pos := "disk.go:69", after := #[], guard := none }) (v := ?_) rfl (by kernel_rfl) (by kernel_rfl) (by kernel_rfl) (fun _ _ _ h => h) ?_ hHeld ?_
      rotate_left
      · refine Or.inl ⟨by rfl, fun w hSw => ?_⟩; skip; go_simp; (try with_reducible rfl)
      try simp only [Act.put, List.setIfInBounds_toArray, List.set_cons_zero, List.set_cons_succ]
      refine wpAnyH_take (i := 1) (oi := { dst := some 16, op := Op.nilCheck (Operand.tmp 15), type := 0, pos := "disk.go:69", after := #[{ on := 0, ground := Ground.data }], guard := none }) (v := ?_) rfl (by kernel_rfl) (by kernel_rfl) (by kernel_rfl) (fun _ _ _ h => h) ?_ hHeld ?_
      rotate_left
      · refine Or.inl ⟨by rfl, fun w hSw => ?_⟩; skip; go_simp; (try with_reducible rfl)
      try simp only [Act.put, List.setIfInBounds_toArray, List.set_cons_zero, List.set_cons_succ]
      refine wpAnyH_take (i := 2) (oi := { dst := some 17, op := Op.fieldAddr 59 (Operand.tmp 16) 0, type := 0, pos := "disk.go:69", after := #[{ on := 1, ground := Ground.data }], guard := none }) (v := ?_) rfl (by kernel_rfl) (by kernel_rfl) (by kernel_rfl) (fun _ _ _ h => h) ?_ hHeld ?_
      rotate_left
      · refine Or.inl ⟨by rfl, fun w hSw => ?_⟩; skip; go_simp; (try with_reducible rfl)
      try simp only [Act.put, List.setIfInBounds_toArray, List.set_cons_zero, List.set_cons_succ]
      refine wpAnyH_take (i := 3) (oi := { dst := some 18, op := Op.load 56 (Operand.tmp 17), type := 56, pos := "disk.go:69", after := #[{ on := 2, ground := Ground.data }], guard := none }) (v := ?_) rfl (by kernel_rfl) (by kernel_rfl) (by kernel_rfl) (fun _ _ _ h => h) ?_ hHeld ?_
      rotate_left
      · refine Or.inl ⟨by rfl, fun w hSw => ?_⟩; have c0 := Blk.cellv hSw.1 0 (.slice (some ⟨gl, 0, none⟩) L.length cl) rfl; go_simp; (try with_reducible rfl)
      try simp only [Act.put, List.setIfInBounds_toArray, List.set_cons_zero, List.set_cons_succ]
      refine wpAnyH_take (i := 4) (oi := { dst := some 19, op := Op.fieldAddr 71 (Operand.tmp 3) 0, type := 0, pos := "disk.go:69", after := #[], guard := none }) (v := ?_) rfl (by kernel_rfl) (by kernel_rfl) (by kernel_rfl) (fun _ _ _ h => h) ?_ hHeld ?_
      rotate_left
      · refine Or.inl ⟨by rfl, fun w hSw => ?_⟩; skip; go_simp; (try with_reducible rfl)
      try simp only [Act.put, List.setIfInBounds_toArray, List.set_cons_zero, List.set_cons_succ]
      refine wpAnyH_take (i := 5) (oi := { dst := some 20, op := Op.load 3 (Operand.tmp 19), type := 3, pos := "disk.go:69", after := #[{ on := 4, ground := Ground.data }], guard := none }) (v := ?_) rfl (by kernel_rfl) (by kernel_rfl) (by kernel_rfl) (fun _ _ _ h => h) ?_ hHeld ?_
      rotate_left
      · refine Or.inl ⟨by rfl, fun w hSw => ?_⟩; have c0 := Blk.cellv hSw.2 0 (.int .i64 x.b) rfl; go_simp; (try with_reducible rfl)
      try simp only [Act.put, List.setIfInBounds_toArray, List.set_cons_zero, List.set_cons_succ]
      refine wpAnyH_take (i := 6) (oi := { dst := some 21, op := Op.fieldAddr 71 (Operand.tmp 3) 1, type := 0, pos := "disk.go:69", after := #[], guard := none }) (v := ?_) rfl (by kernel_rfl) (by kernel_rfl) (by kernel_rfl) (fun _ _ _ h => h) ?_ hHeld ?_
      rotate_left
      · refine Or.inl ⟨by rfl, fun w hSw => ?_⟩; skip; go_simp; (try with_reducible rfl)
      try simp only [Act.put, List.setIfInBounds_toArray, List.set_cons_zero, List.set_cons_succ]
      refine wpAnyH_take (i := 7) (oi := { dst := some 22, op := Op.load 34 (Operand.tmp 21), type := 34, pos := "disk.go:69", after := #[{ on := 6, ground := Ground.data }], guard := none }) (v := ?_) rfl (by kernel_rfl) (by kernel_rfl) (by kernel_rfl) (fun _ _ _ h => h) ?_ hHeld ?_
      rotate_left
      · refine yIf_mid 34 (.tmp 21) wo.heap.size 1 71 (wc x) (bv x.d) _ ?_ ?_ Try.underlying34 rfl (by rw [bv_len]; exact size_d) ?_ ?_ ?_
        · exact fun _ h => h.2
        · exact fun j v h => wc_d x j v h
        · rfl
        · rfl
        · rfl
      try simp only [Act.put, List.setIfInBounds_toArray, List.set_cons_zero, List.set_cons_succ]
      refine wpAnyH_take (i := 8) (oi := { dst := some 23, op := Op.indexAddr 56 (Operand.tmp 18) (Operand.tmp 20), type := 0, pos := "disk.go:69", after := #[{ on := 3, ground := Ground.data }, { on := 5, ground := Ground.data }, { on := 0, ground := Ground.phase }, { on := 1, ground := Ground.phase }, { on := 2, ground := Ground.phase }, { on := 3, ground := Ground.phase }, { on := 4, ground := Ground.phase }, { on := 5, ground := Ground.phase }, { on := 6, ground := Ground.phase }, { on := 7, ground := Ground.phase }], guard := none }) (v := ?_) rfl (by kernel_rfl) (by kernel_rfl) (by kernel_rfl) (fun _ _ _ h => h) ?_ hHeld ?_
      rotate_left
      · refine Or.inl ⟨by rfl, fun w hSw => ?_⟩; skip; go_simp; (try with_reducible rfl)
      try simp only [Act.put, List.setIfInBounds_toArray, List.set_cons_zero, List.set_cons_succ]
      refine wpAnyH_ready (rs := [9]) (by kernel_rfl) (by simp) ?_
      refine AllReadyH.cons (o := { dst := none, op := Op.store 34 (Operand.tmp 23) (Operand.tmp 22), type := 0, pos := "disk.go:69", after := #[{ on := 8, ground := Ground.data }, { on := 7, ground := Ground.data }, { on := 0, ground := Ground.phase }, { on := 1, ground := Ground.phase }, { on := 2, ground := Ground.phase }, { on := 3, ground := Ground.phase }, { on := 4, ground := Ground.phase }, { on := 5, ground := Ground.phase }, { on := 6, ground := Ground.phase }, { on := 7, ground := Ground.phase }], guard := none }) rfl (fun Kc hKc => ?_) AllReadyH.nil
      refine step_of (by rfl) (wp_mid 34 (.tmp 23) (.tmp 22) (by rfl) gl (x.b * 64) (by rfl) (bc x.d) (by rfl) 34 curl KL.drew (sz_bc x.d) hfit.out (bc_one x.d) ?_)
      intro wB kB gB sB
      refine hKc.out _ _ (⟨Blk.grown hHeld.1 gB hgl.out, Blk.grown hHeld.2 gB hvl.out⟩) (fun hHeld => ?_)
      clear hKc Kc
      try simp only [Act.put]
      refine wpAnyH_done (by kernel_rfl) ?_ _
      have HL2 := own_put bv_len (by decide) (own_below HL (bl_drew (bl_refl w2))) x.b hxb x.d rfl KL.drew kB
      rw [← hly.out] at HL2
      have HQ2 := own_out (own_below HQ (bl_drew (bl_refl w2))) (Out.of_grown gB (S := fun k => k = gl) (fun k e => by injection e with e; exact e.symm)) (fun k hk e => by injection hk with hk; exact hql.out (hk.trans e))
      have OW2 : Out w wB F := (OW.trans (Out.of_below (bl_drew (bl_refl w2)) F) (fun i h => .inl h)).trans (Out.of_grown gB (S := F) (fun k e => by injection e with e; subst e; exact hFgl)) (fun i h => .inl h)
      have D2 := hHeld.1
      go_wp2_with fail
      go_roundw
      case rel => exact ⟨j + 1, by omega, by go_num, D2, HL2, HQ2, OW2⟩
      case measure => first | (simp [intOf]; done) | (simp [intOf]; omega)
    · skip
      obtain rfl : j = W.length := by omega
      have hq : decide ((W.length : Int) < (W.length : Int)) = false := by simp
      go_wp2_with (first
        | ((refine wl_set rfl 57 (.tmp 27) (.const (.slice none 0 0)) rfl g 1 rfl (.slice none 0 0) rfl rfl 59 (dc Al L.length cl Aw W.length cw) D (by kernel_rfl) (by simp [dc]) ?_); intro w3 k3 g3 s3))
      go_end0
      have OG := Out.of_grown g3 (S := fun k => k = g) (fun k e => by injection e with e; exact e.symm)
      have hng : ∀ k, (Value.slice Al L.length cl).ownBlock = some k → ¬ k = g := by
        intro k hk e
        cases Al with
        | none => cases hk
        | some a =>
          injection hk with hk
          subst hk
          obtain ⟨_, _, cs, hk⟩ := row_lt HL a rfl
          exact Blk.ne_ (e ▸ hk) D (by decide) rfl
      refine ⟨rfl, ⟨Al, cl, none, 0, ⟨by rw [hll.out]; exact k3, by rw [hll.out]; exact own_out HL OG hng, own_nil _ _ _ _, hBg⟩, .inl hFg, fun a ha => .inl (hFl a ha), fun a ha => by cases ha⟩, OW.trans (Out.of_grown g3 (S := F) (fun k e => by injection e with e; subst e; exact hFg)) (fun i h => .inl h)⟩
theorem land_hide {W : List Wr} {K : Nat → Bool} {L : List Bk} {j : Nat} {x : Wr} (hx : W[j]? = some x) (v : Bool) (h : K j = v) : land W K L (j + 1) = (if v then (land W K L j).set x.b x.d else land W K L j) ∧ count K (j + 1) = (if v then count K j + 1 else count K j) := by
  cases v with
  | true => exact ⟨land_yes hx h, count_yes h⟩
  | false => exact ⟨land_no hx h, count_no h⟩
/-- A slice of bools. -/
def bo (b : Bool) : List Value := [.bool b]
theorem bo_len (b : Bool) : (bo b).length = 1 := rfl
def kf (l : List Bool) (i : Nat) : Bool := l[i]?.getD false

set_option maxRecDepth 100000 in
set_option maxHeartbeats 4000000 in
theorem crash_c (g : Nat) (F : Nat → Prop) (L : List Bk) (W : List Wr) (B : Nat) (w : World) (h : DkF 59 34 71 B w g F L W) (hok : Ok L W) (hL : L.length ≤ 1000) (hW : W.length ≤ 1000) (hF : ∀ i, F i → i < w.heap.size) (Ak : Option Addr) (nk ck : Nat) (ks : List Bool) (hk : RF bo 1 w Ak nk ks) (hkF : 0 < nk → ∀ a, Ak = some a → ¬ F a.block) :
    Calls Try.prog 19 #[.pointer (some ⟨g, 0, none⟩), .slice Ak nk ck] w fun r w' => r = .returned (.int .i64 (count (kf ks) W.length : Nat)) ∧ DkF 59 34 71 B w' g (gro F w w') (land W (kf ks) L W.length) [] ∧ Out w w' F := by
  obtain ⟨Al, cl, Aw, cw, D, hFg, hFl, hFw⟩ := h
  have HQ := D.q
  have HL := D.l
  have hBg := D.b
  replace D := D.d
  have OW := Out.refl w F
  have f1 := D.cellv 1 (.slice Aw W.length cw) rfl
  have hok' := Lib.hid hok
  have hll := Lib.hid (fun j => land_len W (kf ks) L j)
  clear hok
  go_enter Try.func19, Try.ntmps19
  go_wp2_with fail

  have hkk := Lib.hid hk
  have hkx := hk.max
  have hkF' := Lib.hid hkF
  clear hk hkF
  go_loopw [5, 15] (fun c i wr => ∃ j : Nat, j ≤ W.length ∧ c = .int .i64 (count (kf ks) j : Nat) ∧ i = .int .i64 j ∧ Blk wr g 59 (dc Al L.length cl Aw W.length cw) ∧ wr.ownsRow B 34 64 (.slice Al L.length cl) L.length ((land W (kf ks) L j).flatMap bv) ∧ wr.ownsRow B 71 65 (.slice Aw W.length cw) W.length (W.flatMap wv) ∧ Out w wr F) (fun _ i _ => W.length - (intOf i).toNat)
  case atStart => exact ⟨0, by omega, rfl, rfl, D, HL, HQ, OW⟩
  case round =>
    clear D HL HQ OW f1
    obtain ⟨j, hj, rfl, rfl, D, HL, HQ, OW⟩ := hrel
    obtain ⟨wo, rfl⟩ : ∃ wo : World, wo = wr := ⟨_, rfl⟩
    by_cases hlt : j < W.length
    · have hq : decide ((j : Int) < (W.length : Int)) = true := by simp; omega
      have hq2 : (j : Int) < (W.length : Int) := by omega
      have hcl := Lib.hid (count_le (kf ks) j)
      obtain ⟨x, hx⟩ : ∃ x, W[j]? = some x := ⟨_, List.getElem?_eq_getElem hlt⟩
      have hxb : x.b < L.length := hok'.out.at hx
      have hxb' : (x.b : Int) < (L.length : Int) := by omega
      obtain ⟨gq, curq, hAw, _, KQ, _, _, hcq⟩ := own_blk wv_len HQ (by omega)
      subst hAw
      have hcx := Lib.hid (hcq j x hx)
      have hFq : F gq := hFw _ rfl
      have f1 := D.cellv 1 (.slice (some ⟨gq, 0, none⟩) W.length cw) rfl
      have hcase : (decide ((j : Int) < (nk : Int)) = false ∧ decide (j < nk) = false ∧ kf ks j = false) ∨ ∃ gk ok v, Ak = some ⟨gk, ok, none⟩ ∧ kf ks j = v ∧ j < nk ∧ gk < wo.heap.size ∧ wo.cell? ⟨gk, ok + j, none⟩ = some (.bool v) := by
        by_cases h : j < nk
        · right
          obtain ⟨gk, ok, v, h1, h2, h3⟩ := (Out.RF.out (h := hkk.out) OW (hkF'.out (by omega))).at_ j h
          have h4 := h3 0 _ rfl
          rw [Nat.mul_one, Nat.add_zero] at h4
          exact ⟨gk, ok, v, h1, by unfold kf; rw [h2]; rfl, h, World.block_lt_of_cell? wo _ h4, h4⟩
        · left
          refine ⟨by simp; omega, by simp; omega, ?_⟩
          unfold kf
          rw [List.getElem?_eq_none (by rw [hkk.out.len]; omega)]; rfl
      rcases hcase with ⟨qk, qk3, hkj⟩ | ⟨gk, ok, v, hAk, hkj, hlk, hkz, fk0⟩
      · have hly := Lib.hid (land_hide (L := L) hx false hkj)
        clear f1
        go_wp2_with (first
          | (refine wl_load_mid rfl 71 (.tmp 18) rfl gq (j * 65) rfl 71 curq (wv x) _ KQ hcx.out Try.underlying71 rfl (sz_wv x) ?_)
          | ((with_reducible refine wl_alloc rfl 71 rfl (wc ⟨0, zb⟩) new_w ?_); intro w1 k1 b1 s1)
          | ((refine wl_store rfl 71 (.tmp 7) (.tmp 19) rfl wo.heap.size rfl (wc x) rfl 71 (wc ⟨0, zb⟩) k1 (sz_wc x) (by rw [wc_size, wc_size]) (wc_one x) ?_); intro w2 k2 g2 s2))
        have KV := k2
        have zq : gq < wo.heap.size := KQ.lt
        have zg : g < wo.heap.size := D.lt
        have ne2 : ∀ k, k < wo.heap.size → some k ≠ some wo.heap.size := fun k hk e => by injection e with e; omega
        replace D := (D.below b1).grown g2 (ne2 _ zg)
        have O2 : Out wo w2 (fun _ => False) := ⟨g2.os.trans b1.os, g2.tape.trans b1.tape, g2.output.trans b1.output, Nat.le_trans b1.size g2.size, fun i hi _ => (g2.block i (Nat.lt_of_lt_of_le hi b1.size) (ne2 i hi)).trans (b1.block i hi)⟩
        replace HL := own_out HL O2 (fun _ _ h => h)
        replace HQ := own_out HQ O2 (fun _ _ h => h)
        replace OW := OW.trans O2 (fun i h => h.elim)
        clear k1 k2 g2 b1 s1 s2 hcq hcx KQ ne2 O2
        have hl2 : land W (kf ks) L (j + 1) = land W (kf ks) L j := hly.out.1
        have hc2 : count (kf ks) (j + 1) = count (kf ks) j := hly.out.2
        rw [← hl2] at HL
        have hc3 := Lib.hid hc2
        clear hl2 hc2
        go_roundw
        case rel => exact ⟨j + 1, by omega, by rw [hc3.out], by go_num, D, HL, HQ, OW⟩
        case measure => first | (simp [intOf]; done) | (simp [intOf]; omega)
      · subst hAk
        have hkne := Lib.hid (show some (⟨gk, ok + j, none⟩ : Addr).block ≠ some wo.heap.size from fun e => by injection e with e; have e' : gk = wo.heap.size := e; omega)
        have hlk2 : (j : Int) < (nk : Int) := by omega
        have qk : decide ((j : Int) < (nk : Int)) = true := by simp; omega
        have qk3 : decide (j < nk) = true := by simp; omega
        cases v with
        | false =>
          have hly := Lib.hid (land_hide (L := L) hx false hkj)
          clear f1
          go_wp2_with (first
            | (refine wl_load_mid rfl 71 (.tmp 18) rfl gq (j * 65) rfl 71 curq (wv x) _ KQ hcx.out Try.underlying71 rfl (sz_wv x) ?_)
            | ((with_reducible refine wl_alloc rfl 71 rfl (wc ⟨0, zb⟩) new_w ?_); intro w1 k1 b1 s1)
            | ((refine wl_store rfl 71 (.tmp 7) (.tmp 19) rfl wo.heap.size rfl (wc x) rfl 71 (wc ⟨0, zb⟩) k1 (sz_wc x) (by rw [wc_size, wc_size]) (wc_one x) ?_); intro w2 k2 g2 s2; have fk := g2.cell (bl_cell b1 fk0) hkne.out))
          have KV := k2
          have zq : gq < wo.heap.size := KQ.lt
          have zg : g < wo.heap.size := D.lt
          have ne2 : ∀ k, k < wo.heap.size → some k ≠ some wo.heap.size := fun k hk e => by injection e with e; omega
          replace D := (D.below b1).grown g2 (ne2 _ zg)
          have O2 : Out wo w2 (fun _ => False) := ⟨g2.os.trans b1.os, g2.tape.trans b1.tape, g2.output.trans b1.output, Nat.le_trans b1.size g2.size, fun i hi _ => (g2.block i (Nat.lt_of_lt_of_le hi b1.size) (ne2 i hi)).trans (b1.block i hi)⟩
          replace HL := own_out HL O2 (fun _ _ h => h)
          replace HQ := own_out HQ O2 (fun _ _ h => h)
          replace OW := OW.trans O2 (fun i h => h.elim)
          clear k1 k2 g2 b1 s1 s2 hcq hcx KQ ne2 O2
          have hl2 : land W (kf ks) L (j + 1) = land W (kf ks) L j := hly.out.1
          have hc2 : count (kf ks) (j + 1) = count (kf ks) j := hly.out.2
          rw [← hl2] at HL
          have hc3 := Lib.hid hc2
          clear hl2 hc2
          go_roundw
          case rel => exact ⟨j + 1, by omega, by rw [hc3.out], by go_num, D, HL, HQ, OW⟩
          case measure => first | (simp [intOf]; done) | (simp [intOf]; omega)
        | true =>
          obtain ⟨gl, curl, hAl, _, KL, hcs, hlc, _⟩ := own_blk bv_len HL (by omega)
          subst hAl
          have hFgl : F gl := hFl _ rfl
          have hfit := Lib.hid (show x.b * 64 + (bc x.d).size ≤ curl.size by rw [bc_size, hcs]; have := Nat.mul_le_mul_right 64 (show x.b + 1 ≤ cl by omega); omega)
          have hgl := Lib.hid (show some g ≠ some gl from fun e => by injection e with e; exact Blk.ne_ D KL (by decide) e)
          have hql := Lib.hid (show gq ≠ gl from fun e => Blk.ne_ KQ KL (by decide) e)
          have hvl := Lib.hid (show some wo.heap.size ≠ some gl from fun e => by injection e with e; have := KL.lt; omega)
          have hly := Lib.hid (land_hide (L := L) hx true hkj)
          have hly1 : Hid (land W (kf ks) L (j + 1) = (land W (kf ks) L j).set x.b x.d) := Lib.hid hly.out.1
          have hc3 : Hid (count (kf ks) (j + 1) = count (kf ks) j + 1) := Lib.hid hly.out.2
          have hwr : Hid (wrap64 (((count (kf ks) j : Nat) : Int) + 1) = ((count (kf ks) j + 1 : Nat) : Int)) := Lib.hid (by have h1 := hcl.out; unfold wrap64; omega)
          clear f1
          go_wp2_with (first
            | (refine wl_load_mid rfl 71 (.tmp 18) rfl gq (j * 65) rfl 71 curq (wv x) _ KQ hcx.out Try.underlying71 rfl (sz_wv x) ?_)
            | ((with_reducible refine wl_alloc rfl 71 rfl (wc ⟨0, zb⟩) new_w ?_); intro w1 k1 b1 s1)
            | ((refine wl_store rfl 71 (.tmp 7) (.tmp 19) rfl wo.heap.size rfl (wc x) rfl 71 (wc ⟨0, zb⟩) k1 (sz_wc x) (by rw [wc_size, wc_size]) (wc_one x) ?_); intro w2 k2 g2 s2; have fk := g2.cell (bl_cell b1 fk0) hkne.out))
          have KV := k2
          have zo : gl < wo.heap.size := KL.lt
          have zq : gq < wo.heap.size := KQ.lt
          have zg : g < wo.heap.size := D.lt
          have ne2 : ∀ k, k < wo.heap.size → some k ≠ some wo.heap.size := fun k hk e => by injection e with e; omega
          replace D := (D.below b1).grown g2 (ne2 _ zg)
          replace KL := (KL.below b1).grown g2 (ne2 _ zo)
          have O2 : Out wo w2 (fun _ => False) := ⟨g2.os.trans b1.os, g2.tape.trans b1.tape, g2.output.trans b1.output, Nat.le_trans b1.size g2.size, fun i hi _ => (g2.block i (Nat.lt_of_lt_of_le hi b1.size) (ne2 i hi)).trans (b1.block i hi)⟩
          replace HL := own_out HL O2 (fun _ _ h => h)
          replace HQ := own_out HQ O2 (fun _ _ h => h)
          replace OW := OW.trans O2 (fun i h => h.elim)
          clear fk k1 k2 g2 b1 s1 s2 hcq hcx KQ ne2 O2
          refine wp_region_held_drew (S := (fun w' => Blk w' g 59 (dc (some ⟨gl, 0, none⟩) L.length cl (some ⟨gq, 0, none⟩) W.length cw) ∧ Blk w' wo.heap.size 71 (wc x))) (by kernel_rfl) (⟨D.drew, KV.drew⟩) (fun hHeld => ?_)
          refine wpAnyH_take (i := 0) (oi := { dst := some 30, op := Op.move (Operand.tmp 0), type := 23, pos := "disk.go:94", after := #[], guard := none }) (v := ?_) rfl (by kernel_rfl) (by kernel_rfl) (by kernel_rfl) (fun _ _ _ h => h) ?_ hHeld ?_
          rotate_left
          · refine Or.inl ⟨by rfl, fun w hSw => ?_⟩; skip; go_simp; (try with_reducible rfl)
          try simp only [Act.put, List.setIfInBounds_toArray, List.set_cons_zero, List.set_cons_succ]
          refine wpAnyH_take (i := 1) (oi := { dst := some 31, op := Op.nilCheck (Operand.tmp 30), type := 0, pos := "disk.go:94", after := #[{ on := 0, ground := Ground.data }], guard := none }) (v := ?_) rfl (by kernel_rfl) (by kernel_rfl) (by kernel_rfl) (fun _ _ _ h => h) ?_ hHeld ?_
          rotate_left
          · refine Or.inl ⟨by rfl, fun w hSw => ?_⟩; skip; go_simp; (try with_reducible rfl)
          try simp only [Act.put, List.setIfInBounds_toArray, List.set_cons_zero, List.set_cons_succ]
          refine wpAnyH_take (i := 2) (oi := { dst := some 32, op := Op.fieldAddr 59 (Operand.tmp 31) 0, type := 0, pos := "disk.go:94", after := #[{ on := 1, ground := Ground.data }], guard := none }) (v := ?_) rfl (by kernel_rfl) (by kernel_rfl) (by kernel_rfl) (fun _ _ _ h => h) ?_ hHeld ?_
          rotate_left
          · refine Or.inl ⟨by rfl, fun w hSw => ?_⟩; skip; go_simp; (try with_reducible rfl)
          try simp only [Act.put, List.setIfInBounds_toArray, List.set_cons_zero, List.set_cons_succ]
          refine wpAnyH_take (i := 3) (oi := { dst := some 33, op := Op.load 56 (Operand.tmp 32), type := 56, pos := "disk.go:94", after := #[{ on := 2, ground := Ground.data }], guard := none }) (v := ?_) rfl (by kernel_rfl) (by kernel_rfl) (by kernel_rfl) (fun _ _ _ h => h) ?_ hHeld ?_
          rotate_left
          · refine Or.inl ⟨by rfl, fun w hSw => ?_⟩; have c0 := Blk.cellv hSw.1 0 (.slice (some ⟨gl, 0, none⟩) L.length cl) rfl; go_simp; (try with_reducible rfl)
          try simp only [Act.put, List.setIfInBounds_toArray, List.set_cons_zero, List.set_cons_succ]
          refine wpAnyH_take (i := 4) (oi := { dst := some 34, op := Op.fieldAddr 71 (Operand.tmp 7) 0, type := 0, pos := "disk.go:94", after := #[], guard := none }) (v := ?_) rfl (by kernel_rfl) (by kernel_rfl) (by kernel_rfl) (fun _ _ _ h => h) ?_ hHeld ?_
          rotate_left
          · refine Or.inl ⟨by rfl, fun w hSw => ?_⟩; skip; go_simp; (try with_reducible rfl)
          try simp only [Act.put, List.setIfInBounds_toArray, List.set_cons_zero, List.set_cons_succ]
          refine wpAnyH_take (i := 5) (oi := { dst := some 35, op := Op.load 3 (Operand.tmp 34), type := 3, pos := "disk.go:94", after := #[{ on := 4, ground := Ground.data }], guard := none }) (v := ?_) rfl (by kernel_rfl) (by kernel_rfl) (by kernel_rfl) (fun _ _ _ h => h) ?_ hHeld ?_
          rotate_left
          · refine Or.inl ⟨by rfl, fun w hSw => ?_⟩; have c0 := Blk.cellv hSw.2 0 (.int .i64 x.b) rfl; go_simp; (try with_reducible rfl)
          try simp only [Act.put, List.setIfInBounds_toArray, List.set_cons_zero, List.set_cons_succ]
          refine wpAnyH_take (i := 6) (oi := { dst := some 36, op := Op.fieldAddr 71 (Operand.tmp 7) 1, type := 0, pos := "disk.go:94", after := #[], guard := none }) (v := ?_) rfl (by kernel_rfl) (by kernel_rfl) (by kernel_rfl) (fun _ _ _ h => h) ?_ hHeld ?_
          rotate_left
          · refine Or.inl ⟨by rfl, fun w hSw => ?_⟩; skip; go_simp; (try with_reducible rfl)
          try simp only [Act.put, List.setIfInBounds_toArray, List.set_cons_zero, List.set_cons_succ]
          refine wpAnyH_take (i := 7) (oi := { dst := some 37, op := Op.load 34 (Operand.tmp 36), type := 34, pos := "disk.go:94", after := #[{ on := 6, ground := Ground.data }], guard := none }) (v := ?_) rfl (by kernel_rfl) (by kernel_rfl) (by kernel_rfl) (fun _ _ _ h => h) ?_ hHeld ?_
          rotate_left
          · refine yIf_mid 34 (.tmp 36) wo.heap.size 1 71 (wc x) (bv x.d) _ ?_ ?_ Try.underlying34 rfl (by rw [bv_len]; exact size_d) ?_ ?_ ?_
            · exact fun _ h => h.2
            · exact fun j v h => wc_d x j v h
            · rfl
            · rfl
            · rfl
          try simp only [Act.put, List.setIfInBounds_toArray, List.set_cons_zero, List.set_cons_succ]
          refine wpAnyH_take (i := 8) (oi := { dst := some 38, op := Op.indexAddr 56 (Operand.tmp 33) (Operand.tmp 35), type := 0, pos := "disk.go:94", after := #[{ on := 3, ground := Ground.data }, { on := 5, ground := Ground.data }, { on := 0, ground := Ground.phase }, { on := 1, ground := Ground.phase }, { on := 2, ground := Ground.phase }, { on := 3, ground := Ground.phase }, { on := 4, ground := Ground.phase }, { on := 5, ground := Ground.phase }, { on := 6, ground := Ground.phase }, { on := 7, ground := Ground.phase }], guard := none }) (v := ?_) rfl (by kernel_rfl) (by kernel_rfl) (by kernel_rfl) (fun _ _ _ h => h) ?_ hHeld ?_
          rotate_left
          · refine Or.inl ⟨by rfl, fun w hSw => ?_⟩; skip; go_simp; (try with_reducible rfl)
          try simp only [Act.put, List.setIfInBounds_toArray, List.set_cons_zero, List.set_cons_succ]
          refine wpAnyH_ready (rs := [9]) (by kernel_rfl) (by simp) ?_
          refine AllReadyH.cons (o := { dst := none, op := Op.store 34 (Operand.tmp 38) (Operand.tmp 37), type := 0, pos := "disk.go:94", after := #[{ on := 8, ground := Ground.data }, { on := 7, ground := Ground.data }, { on := 0, ground := Ground.phase }, { on := 1, ground := Ground.phase }, { on := 2, ground := Ground.phase }, { on := 3, ground := Ground.phase }, { on := 4, ground := Ground.phase }, { on := 5, ground := Ground.phase }, { on := 6, ground := Ground.phase }, { on := 7, ground := Ground.phase }], guard := none }) rfl (fun Kc hKc => ?_) AllReadyH.nil
          refine step_of (by rfl) (wp_mid 34 (.tmp 38) (.tmp 37) (by rfl) gl (x.b * 64) (by rfl) (bc x.d) (by rfl) 34 curl KL.drew (sz_bc x.d) hfit.out (bc_one x.d) ?_)
          intro wB kB gB sB
          refine hKc.out _ _ (⟨Blk.grown hHeld.1 gB hgl.out, Blk.grown hHeld.2 gB hvl.out⟩) (fun hHeld => ?_)
          clear hKc Kc
          try simp only [Act.put]
          refine wpAnyH_done (by kernel_rfl) ?_ _
          have HL2 := own_put bv_len (by decide) (own_below HL (bl_drew (bl_refl w2))) x.b hxb x.d rfl KL.drew kB
          rw [← hly1.out] at HL2
          have HQ2 := own_out (own_below HQ (bl_drew (bl_refl w2))) (Out.of_grown gB (S := fun k => k = gl) (fun k e => by injection e with e; exact e.symm)) (fun k hk e => by injection hk with hk; exact hql.out (hk.trans e))
          have OW2 : Out w wB F := (OW.trans (Out.of_below (bl_drew (bl_refl w2)) F) (fun i h => .inl h)).trans (Out.of_grown gB (S := F) (fun k e => by injection e with e; subst e; exact hFgl)) (fun i h => .inl h)
          have D2 := hHeld.1
          go_wp2_with fail
          go_roundw
          case rel => exact ⟨j + 1, by omega, by rw [hc3.out]; exact congrArg (Value.int .i64) hwr.out, by go_num, D2, HL2, HQ2, OW2⟩
          case measure => first | (simp [intOf]; done) | (simp [intOf]; omega)
    · skip
      obtain rfl : j = W.length := by omega
      have hq : decide ((W.length : Int) < (W.length : Int)) = false := by simp
      go_wp2_with (first
        | ((refine wl_set rfl 57 (.tmp 44) (.const (.slice none 0 0)) rfl g 1 rfl (.slice none 0 0) rfl rfl 59 (dc Al L.length cl Aw W.length cw) D (by kernel_rfl) (by simp [dc]) ?_); intro w3 k3 g3 s3))
      go_ret
      have OG := Out.of_grown g3 (S := fun k => k = g) (fun k e => by injection e with e; exact e.symm)
      have hng : ∀ k, (Value.slice Al L.length cl).ownBlock = some k → ¬ k = g := by
        intro k hk e
        cases Al with
        | none => cases hk
        | some a =>
          injection hk with hk
          subst hk
          obtain ⟨_, _, cs, hk⟩ := row_lt HL a rfl
          exact Blk.ne_ (e ▸ hk) D (by decide) rfl
      refine ⟨rfl, ⟨Al, cl, none, 0, ⟨by rw [hll.out]; exact k3, by rw [hll.out]; exact own_out HL OG hng, own_nil _ _ _ _, hBg⟩, .inl hFg, fun a ha => .inl (hFl a ha), fun a ha => by cases ha⟩, OW.trans (Out.of_grown g3 (S := F) (fun k e => by injection e with e; subst e; exact hFg)) (fun i h => .inl h)⟩
end Go.Proofs.Ythihpejhhimkaaa.Disk3
