/- Contract of package cpu's Step, in every way. -/
import Derived.Test.YtdokmnpkihmkpaaCpuE
set_option linter.unusedVariables false
namespace Go.Proofs.Ytdokmnpkihmkpaa.CpuF
open Go.RowKit Go.Proofs.Ytdokmnpkihmkpaa.Base Go.Proofs.Ytdokmnpkihmkpaa.Row Go.Proofs.Ytdokmnpkihmkpaa.App Go.Proofs.Ytdokmnpkihmkpaa.Multi Go.Proofs.Ytdokmnpkihmkpaa.StEq Go.Proofs.Ytdokmnpkihmkpaa.Held Go.Proofs.Ytdokmnpkihmkpaa.Out Go.Proofs.Ytdokmnpkihmkpaa.HeldW Go.Proofs.Ytdokmnpkihmkpaa.HeldX Go.Proofs.Ytdokmnpkihmkpaa.Once Go.Proofs.Ytdokmnpkihmkpaa.Isa Go.Proofs.Ytdokmnpkihmkpaa.Isa2 Go.Proofs.Ytdokmnpkihmkpaa.Isa3 Go.Proofs.Ytdokmnpkihmkpaa.TlbMath Go.Proofs.Ytdokmnpkihmkpaa.Tlb Go.Proofs.Ytdokmnpkihmkpaa.Tlb3 Go.Proofs.Ytdokmnpkihmkpaa.Frames Go.Proofs.Ytdokmnpkihmkpaa.Frames2 Go.Proofs.Ytdokmnpkihmkpaa.Frames4 Go.Proofs.Ytdokmnpkihmkpaa.Cpu Go.Proofs.Ytdokmnpkihmkpaa.Cpu2 Go.Proofs.Ytdokmnpkihmkpaa.Cpu3 Go.Proofs.Ytdokmnpkihmkpaa.Cpu4 Go.Proofs.Ytdokmnpkihmkpaa.Cpu5 Go.Proofs.Ytdokmnpkihmkpaa.CpuA Go.Proofs.Ytdokmnpkihmkpaa.CpuB Go.Proofs.Ytdokmnpkihmkpaa.CpuC Go.Proofs.Ytdokmnpkihmkpaa.CpuD Go.Proofs.Ytdokmnpkihmkpaa.CpuE

/-- What a step leaves. -/
def StepOk (x gm gp gt n : Nat) (X : List Int) (l : List En) (sp : Int) (R : List Int) (pc : Int) (w w' : World) (r : Ending) : Prop := ∃ R2 pc2 de X2 m2, r = .returned (.tuple #[.agg (cx R2 pc2).toArray, .agg (tr de).toArray]) ∧ R2.length = 16 ∧ CS w' x gm gp gt n X2 l m2 ∧ Out w w' (fun i => i = x ∨ i = gt ∨ i = gp) ∧ OkX n sp l X X2 de.tc ∧ (de.tc ≠ 0 → de.tc ≠ 6 → R2 = R ∧ pc2 = pc)
theorem dec_yes {y : Int} (h : decB y = true) : ∃ (op im : Int) (ra rb : Nat), decI y = ins op ra rb im ∧ 1 ≤ op ∧ op ≤ 24 ∧ ra < 16 ∧ rb < 16 := by
  unfold decB at h
  obtain ⟨r1, r2, r3, r4, r5, r6, _, _⟩ := IsaMath.ref_ranges h
  refine ⟨y / 16777216, simm y, (y / 1048576 % 16).toNat, (y / 65536 % 16).toNat, ?_, r1, r2, by omega, by omega⟩
  unfold decI
  rw [if_pos h, Int.toNat_of_nonneg r3, Int.toNat_of_nonneg r5]
theorem dec_no {y : Int} (h : decB y = false) : decI y = ins 0 0 0 0 := by
  unfold decB at h
  unfold decI
  rw [if_neg (by rw [h]; simp)]
set_option maxRecDepth 100000 in
set_option maxHeartbeats 8000000 in
theorem step_c (x gm gp gt n : Nat) (X : List Int) (l : List En) (m sp : Int) (R : List Int) (pc : Int) (w : World) (C : CS w x gm gp gt n X l m) (hl : l.length ≤ 8) (hR : R.length = 16) (hr : ∀ i : Nat, 0 ≤ R[i]?.getD 0 ∧ R[i]?.getD 0 < 4294967296) (hX : ∀ i : Nat, 0 ≤ X[i]?.getD 0 ∧ X[i]?.getD 0 < 4294967296) (h0 : 0 ≤ pc) (h1 : pc < 4294967296) :
    Calls Try.prog 54 #[.pointer (some ⟨x, 0, none⟩), .int .i64 sp, .agg (cx R pc).toArray] w fun r w' => StepOk x gm gp gt n X l sp R pc w w' r := by
  obtain ⟨b, hgb⟩ : ∃ b, getB l sp (pc / 64) = b := ⟨_, rfl⟩
  obtain ⟨e, hge⟩ : ∃ e, getE l sp (pc / 64) = e := ⟨_, rfl⟩
  obtain ⟨ok, hok⟩ : ∃ ok, fOk b e false = ok := ⟨_, rfl⟩
  obtain ⟨word, hv⟩ : ∃ v, ldV n X b e false (pc % 64 / 4) = v := ⟨_, rfl⟩
  obtain ⟨hw0, hw1⟩ : 0 ≤ word ∧ word < 4294967296 := by rw [← hv]; exact ld_rng hX
  obtain ⟨m2, hm2⟩ : ∃ m2, getM l sp (pc / 64) m = m2 := ⟨_, rfl⟩
  have hLd := fun g w' HD' C' => load_c g x gm gp gt n (d0 sp R pc) X l m pc false b e w' HD' hR C' hl h0 h1 hgb hge
  rw [hok, hv, show getM l (d0 sp R pc).sp (pc / 64) m = m2 from hm2] at hLd
  replace hLd := Lib.hid hLd
  have hOk : Hid (ok = true → fD (d0 sp R pc) (pc / 64) b e false = d0 sp R pc) := Lib.hid (fun h => fD_ok (by rw [hok]; exact h))
  have hD1 : (fD (d0 sp R pc) (pc / 64) b e false).R.length = 16 := by rw [fD_R]; exact hR
  have hE1 := Lib.hid (fun g w' (h : pc % 4 = 0) => even_c g pc w' h h0)
  have hE2 := Lib.hid (fun g w' HD' (h : ¬ pc % 4 = 0) => even_no g x (d0 sp R pc) pc w' HD' hR h h0)
  have hDec := Lib.hid (fun w' h => decode_c x 143 (tail gm gt) word w' h hw0 hw1)
  have hDo := Lib.hid (fun g ra rb op im w' HD' C' ha hb o0 o1 => do_c g x gm gp gt n ra rb (d0 sp R pc) X l m2 op im w' HD' C' hl hR hr hX ha hb rfl h0 h1 o0 o1)
  have hcs := size_cx R pc hR
  have hc1 := Lib.hid (cx_one R pc)
  have hbd := built_dn x sp R pc hR
  have hpc := Lib.hid (cx_pc R pc hR)
  have hs17 : (cx R pc).toArray.size = 17 := by rw [List.size_toArray, cx_len R pc hR]
  obtain ⟨cR, hcR⟩ : ∃ cR, cR = (cx R pc).toArray := ⟨_, rfl⟩
  rw [← hcR] at hcs hc1 hbd hpc hs17 ⊢
  have hcR' : Hid (cR = (cx R pc).toArray) := Lib.hid hcR
  obtain ⟨d1, hd1⟩ : ∃ d1, d1 = fD (d0 sp R pc) (pc / 64) b e false := ⟨_, rfl⟩
  rw [← hd1] at hLd hOk hD1
  clear hgb hge hok hv hm2 hcR hr hX hd1
  go_enter Try.func54, Try.ntmps54
  go_wp2_with (first
    | ((with_reducible refine wl_box rfl 109 (.tmp 2) rfl cR rfl ?_); intro w1 k1 b1 s1)
    | ((with_reducible refine wl_alloc rfl 109 rfl (cx zR 0).toArray new_cx ?_); intro w2 k2 b2 s2; have K1 := k1.below b2)
    | ((with_reducible refine wl_alloc rfl 117 rfl (tr (d0 0 [] 0)).toArray new_tr ?_); intro w3 k3 b3 s3; have K1 := K1.below b3; have K2 := k2.below b3)
    | (refine at_slot 19 rfl ?_; refine wl_load rfl 109 (.tmp 5) rfl w.heap.size rfl 109 cR _ K1 Try.underlying109 rfl hcs ?_)
    | (refine at_slot 20 rfl ?_; refine wl_build3 rfl 140 0 1 2 (.tmp 17) (.tmp 18) (.tmp 19) rfl (.pointer (some ⟨x, 0, none⟩)) (.int .i64 sp) (.agg cR) rfl rfl rfl (dg x (d0 sp R pc)) hbd ?_)
    | ((with_reducible refine wl_box rfl 140 (.tmp 20) rfl (dg x (d0 sp R pc)) rfl ?_); intro w4 k4 b4 s4; have K1 := K1.below b4; have K2 := K2.below b4; have K3 := k3.below b4; have c16 : w4.cell? ⟨w.heap.size, 16, none⟩ = some (.int .u32 pc) := K1.cellv 16 _ hpc.out))
  have B4 := bl_then (bl_then (bl_then b1 b2) b3) b4
  have C4 := C.below B4
  have O := Out.of_below B4 (fun i => i = x ∨ i = gt ∨ i = gp)
  obtain ⟨l1, l2, l3, l4⟩ := C.lt
  have z1 := b1.size
  have z2 := b2.size
  have z3 := b3.size
  have hgs := Lib.hid (C4.ne_ k4)
  obtain ⟨nx1, nx2, nx3, nx4, nx5⟩ := C4.nx
  obtain ⟨g, hg⟩ : ∃ g, g = w3.heap.size := ⟨_, rfl⟩
  obtain ⟨g6, hg6⟩ : ∃ g6, g6 = w1.heap.size := ⟨_, rfl⟩
  obtain ⟨g7, hg7⟩ : ∃ g7, g7 = w2.heap.size := ⟨_, rfl⟩
  obtain ⟨gs, hg5⟩ : ∃ gs, gs = w.heap.size := ⟨_, rfl⟩
  rw [← hg] at k4 hgs ⊢
  rw [← hg6] at K2 ⊢
  rw [← hg7] at K3 ⊢
  rw [← hg5] at K1 c16 ⊢
  have f0 : w.heap.size ≤ gs := by omega
  have f1 : gs < g6 := by omega
  have f2 : g6 < g7 := by omega
  have f3 : g7 < g := by omega
  obtain ⟨ngx, ngm, ngp, ngt⟩ := hgs.out
  clear hg hg6 hg7 hg5 b1 b2 b3 b4 k1 k2 k3 B4 hgs C
  have C4' := Lib.hid C4
  clear C4
  rcases Decidable.em (pc % 4 = 0) with hal | hal
  rotate_left
  · have hE := Lib.hid (hE2.out g w4 k4 hal)
    clear hal hE1 hE2 hDo hDec hLd hOk
    refine hE.out.mono ?_
    rintro r w5 ⟨rfl, KE, O5⟩
    have K1 := Out.Blk.out K1 O5 (fun h => by omega)
    have K2 := Out.Blk.out K2 O5 (fun h => by omega)
    have K3 := Out.Blk.out K3 O5 (fun h => by omega)
    have C5 := C4'.out.out O5 ngx.symm ngm.symm ngp.symm ngt.symm
    have O := O.trans O5 (fun i h => .inr (by omega))
    clear C4' hE O5 k4 c16
    go_upto_region 5 with fail
    have O := O.trans (Out.of_below (bl_drew (bl_refl w5)) (fun i => i = x ∨ i = gt ∨ i = gp)) (fun i h => .inl h)
    have C11 := C5.below (bl_drew (bl_refl w5))
    have K1 := K1.drew
    have K2 := K2.drew
    have K3 := K3.drew
    have KE := KE.drew
    have htr := Lib.hid (dg_tr x (dt (d0 sp R pc) 5 0 false 0) hR)
    clear C5
    refine wp_region_held_drew (S := (fun w' => Blk w' gs 109 cR ∧ Blk w' g 140 (dg x (dt (d0 sp R pc) 5 0 false 0)))) (by kernel_rfl) (⟨K1, KE⟩) (fun hHeld => ?_)
    refine wpAnyH_take (i := 0) (oi := { dst := some 27, op := Op.load 109 (Operand.tmp 5), type := 109, pos := "cpu.go:172", after := #[], guard := none }) (v := ?_) rfl (by kernel_rfl) (by kernel_rfl) (by kernel_rfl) (fun _ _ _ h => h) ?_ hHeld ?_
    rotate_left
    · refine yIf_load 109 (.tmp 5) gs 109 cR _ ?_ Try.underlying109 rfl hcs ?_ ?_ ?_
      · exact fun _ h => h.1
      · rfl
      · rfl
      · rfl
    try simp only [Act.put, List.setIfInBounds_toArray, List.set_cons_zero, List.set_cons_succ]
    refine wpAnyH_take (i := 1) (oi := { dst := some 28, op := Op.move (Operand.tmp 8), type := 138, pos := "cpu.go:172", after := #[{ on := 5, ground := Ground.gcOnly Departure.lateStores }], guard := none }) (v := ?_) rfl (by kernel_rfl) (by kernel_rfl) (by kernel_rfl) (fun _ _ _ h => h) ?_ hHeld ?_
    rotate_left
    · refine Or.inl ⟨by rfl, fun w hSw => ?_⟩; skip; go_simp; (try with_reducible rfl)
    try simp only [Act.put, List.setIfInBounds_toArray, List.set_cons_zero, List.set_cons_succ]
    refine wpAnyH_take (i := 2) (oi := { dst := some 29, op := Op.nilCheck (Operand.tmp 28), type := 0, pos := "cpu.go:172", after := #[{ on := 1, ground := Ground.data }, { on := 5, ground := Ground.gcOnly Departure.lateStores }], guard := none }) (v := ?_) rfl (by kernel_rfl) (by kernel_rfl) (by kernel_rfl) (fun _ _ _ h => h) ?_ hHeld ?_
    rotate_left
    · refine Or.inl ⟨by rfl, fun w hSw => ?_⟩; skip; go_simp; (try with_reducible rfl)
    try simp only [Act.put, List.setIfInBounds_toArray, List.set_cons_zero, List.set_cons_succ]
    refine wpAnyH_take (i := 3) (oi := { dst := some 30, op := Op.fieldAddr 140 (Operand.tmp 29) 3, type := 0, pos := "cpu.go:172", after := #[{ on := 2, ground := Ground.data }, { on := 5, ground := Ground.gcOnly Departure.lateStores }], guard := none }) (v := ?_) rfl (by kernel_rfl) (by kernel_rfl) (by kernel_rfl) (fun _ _ _ h => h) ?_ hHeld ?_
    rotate_left
    · refine Or.inl ⟨by rfl, fun w hSw => ?_⟩; skip; go_simp; (try with_reducible rfl)
    try simp only [Act.put, List.setIfInBounds_toArray, List.set_cons_zero, List.set_cons_succ]
    refine wpAnyH_take (i := 4) (oi := { dst := some 31, op := Op.load 117 (Operand.tmp 30), type := 117, pos := "cpu.go:172", after := #[{ on := 3, ground := Ground.data }, { on := 5, ground := Ground.gcOnly Departure.lateStores }], guard := none }) (v := ?_) rfl (by kernel_rfl) (by kernel_rfl) (by kernel_rfl) (fun _ _ _ h => h) ?_ hHeld ?_
    rotate_left
    · refine yIf_mid 117 (.tmp 30) g 19 140 (dg x (dt (d0 sp R pc) 5 0 false 0)) (tr (dt (d0 sp R pc) 5 0 false 0)) _ ?_ ?_ Try.underlying117 rfl (size_trl _) ?_ ?_ ?_
      · exact fun _ h => h.2
      · exact htr.out
      · rfl
      · rfl
      · rfl
    try simp only [Act.put, List.setIfInBounds_toArray, List.set_cons_zero, List.set_cons_succ]
    refine wpAnyH_ready (rs := [5]) (by kernel_rfl) (by simp) ?_
    refine AllReadyH.cons (o := { dst := none, op := Op.store 109 (Operand.tmp 6) (Operand.tmp 27), type := 0, pos := "cpu.go:172", after := #[{ on := 0, ground := Ground.data }, { on := 0, ground := Ground.phase }, { on := 1, ground := Ground.textOnly Departure.lateStores }, { on := 2, ground := Ground.textOnly Departure.lateStores }, { on := 3, ground := Ground.textOnly Departure.lateStores }, { on := 4, ground := Ground.textOnly Departure.lateStores }], guard := none }) rfl (fun Kc hKc => ?_) AllReadyH.nil
    refine step_of (by rfl) (wp_whole 109 (.tmp 6) (.tmp 27) (by rfl) g6 (by rfl) cR (by rfl) 109 (cx zR 0).toArray K2 hcs (by rw [hs17]; rfl) hc1.out ?_)
    intro wS K2 GG sS
    have OG := Out.of_grown GG (S := fun i => i = g6) (fun k e => by injection e with e; exact e.symm)
    have C11 := C11.out OG (fun h => by omega) (fun h => by omega) (fun h => by omega) (fun h => by omega)
    have O := O.trans OG (fun i h => .inr (by omega))
    have K3 := Out.Blk.out K3 OG (fun h => by omega)
    refine hKc.out _ _ (⟨Out.Blk.out hHeld.1 OG (fun h => by omega), Out.Blk.out hHeld.2 OG (fun h => by omega)⟩) (fun hHeld => ?_)
    clear hKc Kc
    try simp only [Act.put]
    refine wpAnyH_ready (rs := [6]) (by kernel_rfl) (by simp) ?_
    refine AllReadyH.cons (o := { dst := none, op := Op.store 117 (Operand.tmp 7) (Operand.tmp 31), type := 0, pos := "cpu.go:172", after := #[{ on := 4, ground := Ground.data }, { on := 5, ground := Ground.chain }, { on := 0, ground := Ground.phase }, { on := 1, ground := Ground.phase }, { on := 2, ground := Ground.phase }, { on := 3, ground := Ground.phase }, { on := 4, ground := Ground.phase }, { on := 5, ground := Ground.phase }], guard := none }) rfl (fun Kc hKc => ?_) AllReadyH.nil
    refine step_of (by rfl) (wp_whole 117 (.tmp 7) (.tmp 31) (by rfl) g7 (by rfl) (tr (dt (d0 sp R pc) 5 0 false 0)).toArray (by rfl) 117 (tr (d0 0 [] 0)).toArray K3 (size_tr _) rfl (tr_one _) ?_)
    intro wT K3 GG sT
    have OG := Out.of_grown GG (S := fun i => i = g7) (fun k e => by injection e with e; exact e.symm)
    have C11 := C11.out OG (fun h => by omega) (fun h => by omega) (fun h => by omega) (fun h => by omega)
    have O := O.trans OG (fun i h => .inr (by omega))
    have K2 := Out.Blk.out K2 OG (fun h => by omega)
    refine hKc.out _ _ (⟨Out.Blk.out hHeld.1 OG (fun h => by omega), Out.Blk.out hHeld.2 OG (fun h => by omega)⟩) (fun hHeld => ?_)
    clear hKc Kc
    try simp only [Act.put]
    refine wpAnyH_done (by kernel_rfl) ?_ _
    try go_wp2_with fail
    have hfin : Hid (StepOk x gm gp gt n X l sp R pc w wT (.returned (.tuple #[.agg cR, .agg (tr (dt (d0 sp R pc) 5 0 false 0)).toArray]))) := Lib.hid ⟨R, pc, dt (d0 sp R pc) 5 0 false 0, X, m, by rw [hcR'.out], hR, C11, O, .inl rfl, fun _ _ => ⟨rfl, rfl⟩⟩
    refine bodyPost_ret (res_two rfl _ _ _ g6 g7 109 117 cR (tr (dt (d0 sp R pc) 5 0 false 0)).toArray _ _ rfl K2 Try.underlying109 rfl hcs rfl K3 Try.underlying117 rfl (size_tr _)) rfl hfin.out
  have hE := Lib.hid (hE1.out g w4 hal)
  clear hal hE1 hE2
  refine hE.out.mono ?_
  rintro r w5 ⟨rfl, rfl⟩
  clear hE
  go_wp2_with fail
  refine (hLd.out g w4 k4 C4'.out).mono ?_
  rintro r w5 ⟨rfl, k5, C5, O5⟩
  have K1 := Out.Blk.out K1 O5 (fun h => by omega)
  have K2 := Out.Blk.out K2 O5 (fun h => by omega)
  have K3 := Out.Blk.out K3 O5 (fun h => by omega)
  have O := O.trans O5 (fun i h => by rcases h with h | h; exact .inr (by omega); exact .inl (.inr (.inl h)))
  clear C4' hLd O5 k4 c16
  cases ok with
  | false =>
    have KE := k5
    clear hOk hDec hDo
    go_upto_region 8 with fail
    have O := O.trans (Out.of_below (bl_drew (bl_refl w5)) (fun i => i = x ∨ i = gt ∨ i = gp)) (fun i h => .inl h)
    have C11 := C5.below (bl_drew (bl_refl w5))
    have K1 := K1.drew
    have K2 := K2.drew
    have K3 := K3.drew
    have KE := KE.drew
    have htr := Lib.hid (dg_tr x d1 hD1)
    clear C5
    refine wp_region_held_drew (S := (fun w' => Blk w' gs 109 cR ∧ Blk w' g 140 (dg x d1))) (by kernel_rfl) (⟨K1, KE⟩) (fun hHeld => ?_)
    refine wpAnyH_take (i := 0) (oi := { dst := some 41, op := Op.load 109 (Operand.tmp 5), type := 109, pos := "cpu.go:176", after := #[], guard := none }) (v := ?_) rfl (by kernel_rfl) (by kernel_rfl) (by kernel_rfl) (fun _ _ _ h => h) ?_ hHeld ?_
    rotate_left
    · refine yIf_load 109 (.tmp 5) gs 109 cR _ ?_ Try.underlying109 rfl hcs ?_ ?_ ?_
      · exact fun _ h => h.1
      · rfl
      · rfl
      · rfl
    try simp only [Act.put, List.setIfInBounds_toArray, List.set_cons_zero, List.set_cons_succ]
    refine wpAnyH_take (i := 1) (oi := { dst := some 42, op := Op.move (Operand.tmp 8), type := 138, pos := "cpu.go:176", after := #[{ on := 5, ground := Ground.gcOnly Departure.lateStores }], guard := none }) (v := ?_) rfl (by kernel_rfl) (by kernel_rfl) (by kernel_rfl) (fun _ _ _ h => h) ?_ hHeld ?_
    rotate_left
    · refine Or.inl ⟨by rfl, fun w hSw => ?_⟩; skip; go_simp; (try with_reducible rfl)
    try simp only [Act.put, List.setIfInBounds_toArray, List.set_cons_zero, List.set_cons_succ]
    refine wpAnyH_take (i := 2) (oi := { dst := some 43, op := Op.nilCheck (Operand.tmp 42), type := 0, pos := "cpu.go:176", after := #[{ on := 1, ground := Ground.data }, { on := 5, ground := Ground.gcOnly Departure.lateStores }], guard := none }) (v := ?_) rfl (by kernel_rfl) (by kernel_rfl) (by kernel_rfl) (fun _ _ _ h => h) ?_ hHeld ?_
    rotate_left
    · refine Or.inl ⟨by rfl, fun w hSw => ?_⟩; skip; go_simp; (try with_reducible rfl)
    try simp only [Act.put, List.setIfInBounds_toArray, List.set_cons_zero, List.set_cons_succ]
    refine wpAnyH_take (i := 3) (oi := { dst := some 44, op := Op.fieldAddr 140 (Operand.tmp 43) 3, type := 0, pos := "cpu.go:176", after := #[{ on := 2, ground := Ground.data }, { on := 5, ground := Ground.gcOnly Departure.lateStores }], guard := none }) (v := ?_) rfl (by kernel_rfl) (by kernel_rfl) (by kernel_rfl) (fun _ _ _ h => h) ?_ hHeld ?_
    rotate_left
    · refine Or.inl ⟨by rfl, fun w hSw => ?_⟩; skip; go_simp; (try with_reducible rfl)
    try simp only [Act.put, List.setIfInBounds_toArray, List.set_cons_zero, List.set_cons_succ]
    refine wpAnyH_take (i := 4) (oi := { dst := some 45, op := Op.load 117 (Operand.tmp 44), type := 117, pos := "cpu.go:176", after := #[{ on := 3, ground := Ground.data }, { on := 5, ground := Ground.gcOnly Departure.lateStores }], guard := none }) (v := ?_) rfl (by kernel_rfl) (by kernel_rfl) (by kernel_rfl) (fun _ _ _ h => h) ?_ hHeld ?_
    rotate_left
    · refine yIf_mid 117 (.tmp 44) g 19 140 (dg x d1) (tr d1) _ ?_ ?_ Try.underlying117 rfl (size_trl _) ?_ ?_ ?_
      · exact fun _ h => h.2
      · exact htr.out
      · rfl
      · rfl
      · rfl
    try simp only [Act.put, List.setIfInBounds_toArray, List.set_cons_zero, List.set_cons_succ]
    refine wpAnyH_ready (rs := [5]) (by kernel_rfl) (by simp) ?_
    refine AllReadyH.cons (o := { dst := none, op := Op.store 109 (Operand.tmp 6) (Operand.tmp 41), type := 0, pos := "cpu.go:176", after := #[{ on := 0, ground := Ground.data }, { on := 0, ground := Ground.phase }, { on := 1, ground := Ground.textOnly Departure.lateStores }, { on := 2, ground := Ground.textOnly Departure.lateStores }, { on := 3, ground := Ground.textOnly Departure.lateStores }, { on := 4, ground := Ground.textOnly Departure.lateStores }], guard := none }) rfl (fun Kc hKc => ?_) AllReadyH.nil
    refine step_of (by rfl) (wp_whole 109 (.tmp 6) (.tmp 41) (by rfl) g6 (by rfl) cR (by rfl) 109 (cx zR 0).toArray K2 hcs (by rw [hs17]; rfl) hc1.out ?_)
    intro wS K2 GG sS
    have OG := Out.of_grown GG (S := fun i => i = g6) (fun k e => by injection e with e; exact e.symm)
    have C11 := C11.out OG (fun h => by omega) (fun h => by omega) (fun h => by omega) (fun h => by omega)
    have O := O.trans OG (fun i h => .inr (by omega))
    have K3 := Out.Blk.out K3 OG (fun h => by omega)
    refine hKc.out _ _ (⟨Out.Blk.out hHeld.1 OG (fun h => by omega), Out.Blk.out hHeld.2 OG (fun h => by omega)⟩) (fun hHeld => ?_)
    clear hKc Kc
    try simp only [Act.put]
    refine wpAnyH_ready (rs := [6]) (by kernel_rfl) (by simp) ?_
    refine AllReadyH.cons (o := { dst := none, op := Op.store 117 (Operand.tmp 7) (Operand.tmp 45), type := 0, pos := "cpu.go:176", after := #[{ on := 4, ground := Ground.data }, { on := 5, ground := Ground.chain }, { on := 0, ground := Ground.phase }, { on := 1, ground := Ground.phase }, { on := 2, ground := Ground.phase }, { on := 3, ground := Ground.phase }, { on := 4, ground := Ground.phase }, { on := 5, ground := Ground.phase }], guard := none }) rfl (fun Kc hKc => ?_) AllReadyH.nil
    refine step_of (by rfl) (wp_whole 117 (.tmp 7) (.tmp 45) (by rfl) g7 (by rfl) (tr d1).toArray (by rfl) 117 (tr (d0 0 [] 0)).toArray K3 (size_tr _) rfl (tr_one _) ?_)
    intro wT K3 GG sT
    have OG := Out.of_grown GG (S := fun i => i = g7) (fun k e => by injection e with e; exact e.symm)
    have C11 := C11.out OG (fun h => by omega) (fun h => by omega) (fun h => by omega) (fun h => by omega)
    have O := O.trans OG (fun i h => .inr (by omega))
    have K2 := Out.Blk.out K2 OG (fun h => by omega)
    refine hKc.out _ _ (⟨Out.Blk.out hHeld.1 OG (fun h => by omega), Out.Blk.out hHeld.2 OG (fun h => by omega)⟩) (fun hHeld => ?_)
    clear hKc Kc
    try simp only [Act.put]
    refine wpAnyH_done (by kernel_rfl) ?_ _
    try go_wp2_with fail
    have hfin : Hid (StepOk x gm gp gt n X l sp R pc w wT (.returned (.tuple #[.agg cR, .agg (tr d1).toArray]))) := Lib.hid ⟨R, pc, d1, X, m2, by rw [hcR'.out], hR, C11, O, .inl rfl, fun _ _ => ⟨rfl, rfl⟩⟩
    refine bodyPost_ret (res_two rfl _ _ _ g6 g7 109 117 cR (tr d1).toArray _ _ rfl K2 Try.underlying109 rfl hcs rfl K3 Try.underlying117 rfl (size_tr _)) rfl hfin.out
  | true =>
    rw [hOk.out rfl] at k5
    have C5' := Lib.hid C5
    clear hOk C5
    go_wp2_with fail
    refine (hDec.out w5 C5'.out.t).mono ?_
    rintro r w6 ⟨rfl, T6, G6⟩
    have O6 := Out.of_grown G6 (S := fun i => i = x) (fun k e => by injection e with e; exact e.symm)
    have C6 : CS w6 x gm gp gt n X l m2 := ⟨T6, mm_out C5'.out.mem O6 nx1.symm nx2.symm, Out.Blk.out C5'.out.tlb O6 nx3.symm⟩
    have K1 := Out.Blk.out K1 O6 (fun h => by omega)
    have K2 := Out.Blk.out K2 O6 (fun h => by omega)
    have K3 := Out.Blk.out K3 O6 (fun h => by omega)
    have k6 := Out.Blk.out k5 O6 ngx
    have O := O.trans O6 (fun i h => .inl (.inl h))
    have z6 := k6.lt
    clear C5' hDec O6 T6 G6 k5
    obtain ⟨dI, hdI⟩ : ∃ dI, decI word = dI := ⟨_, rfl⟩
    rw [hdI]
    cases hdb : decB word with
    | false =>
      obtain rfl : dI = ins 0 0 0 0 := by rw [← hdI]; exact dec_no hdb
      clear hdI hdb hDo
      go_wp2_with (first
        | ((with_reducible refine wl_alloc rfl 94 rfl (ins 0 0 0 0) new_i ?_); intro w7 k7 b7 s7)
        | ((refine wl_store rfl 94 (.tmp 11) (.tmp 52) rfl w6.heap.size rfl (ins 0 0 0 0) rfl 94 (ins 0 0 0 0) k7 (size_i _ rfl) rfl (by simp [ins, Value.oneCell']) ?_); intro w8 k8 g8 s8; have BE := below_grown b7 b7.size g8 (Nat.le_refl _); have K1 := K1.below BE; have K2 := K2.below BE; have K3 := K3.below BE)
        | (refine at_slot 56 rfl ?_; refine wl_load rfl 109 (.tmp 5) rfl gs rfl 109 cR _ K1 Try.underlying109 rfl hcs ?_)
        | (refine at_slot 57 rfl ?_; refine wl_build1 rfl 117 0 _ rfl (.int .i64 3) rfl (trc 3) (built_trc 3) ?_)
        | ((refine wl_store rfl 109 (.tmp 6) (.tmp 56) rfl g6 rfl cR rfl 109 (cx zR 0).toArray K2 hcs hs17.symm hc1.out ?_); intro w9 k9 g9 s9; have OA := Out.of_grown g9 (S := fun i => i = g6) (fun k e => by injection e with e; exact e.symm); have K3 := Out.Blk.out K3 OA (fun h => by omega))
        | ((refine wl_store rfl 117 (.tmp 7) (.tmp 57) rfl g7 rfl (trc 3) rfl 117 (tr (d0 0 [] 0)).toArray K3 (size_trc 3) rfl (trc_one 3) ?_); intro wA kA gA sA; have OB := Out.of_grown gA (S := fun i => i = g7) (fun k e => by injection e with e; exact e.symm); have K2 := Out.Blk.out k9 OB (fun h => by omega)))
      have C8 := C6.below BE
      have O := O.trans (Out.of_below BE (fun i => i = x ∨ i = gt ∨ i = gp)) (fun i h => .inl h)
      have CA := (C8.out OA (fun h => by omega) (fun h => by omega) (fun h => by omega) (fun h => by omega)).out OB (fun h => by omega) (fun h => by omega) (fun h => by omega) (fun h => by omega)
      have OO := (O.trans OA (fun i h => .inr (by omega))).trans OB (fun i h => .inr (by omega))
      have hfin : Hid (StepOk x gm gp gt n X l sp R pc w wA (.returned (.tuple #[.agg cR, .agg (trc 3)]))) := Lib.hid ⟨R, pc, dt (d0 sp R pc) 3 0 false 0, X, m2, by rw [hcR'.out]; rfl, hR, CA, OO, .inl rfl, fun _ _ => ⟨rfl, rfl⟩⟩
      refine bodyPost_ret (res_two rfl _ _ _ g6 g7 109 117 cR (trc 3) _ _ rfl K2 Try.underlying109 rfl hcs rfl kA Try.underlying117 rfl (size_trc 3)) rfl hfin.out
    | true =>
      obtain ⟨op, im, ra, rb, hins, o0, o1, ha, hb⟩ := dec_yes hdb
      obtain rfl : dI = ins op ra rb im := by rw [← hdI]; exact hins
      have hD := Lib.hid (fun w' HD' C' => hDo.out g ra rb op im w' HD' C' ha hb o0 o1)
      clear hdI hdb hDo hins
      go_wp2_with (first
        | ((with_reducible refine wl_alloc rfl 94 rfl (ins 0 0 0 0) new_i ?_); intro w7 k7 b7 s7)
        | ((refine wl_store rfl 94 (.tmp 11) (.tmp 52) rfl w6.heap.size rfl (ins op ra rb im) rfl 94 (ins 0 0 0 0) k7 (size_i _ rfl) rfl (by simp [ins, Value.oneCell']) ?_); intro w8 k8 g8 s8)
        | (refine at_slot 59 rfl ?_; refine wl_load rfl 94 (.tmp 11) rfl w6.heap.size rfl 94 (ins op ra rb im) _ k8 Try.underlying94 rfl (size_i _ rfl) ?_))
      have BE := below_grown b7 b7.size g8 (Nat.le_refl _)
      have C8 := C6.below BE
      have K1 := K1.below BE
      have K2 := K2.below BE
      have K3 := K3.below BE
      have k8g := k6.below BE
      have O := O.trans (Out.of_below BE (fun i => i = x ∨ i = gt ∨ i = gp)) (fun i h => .inl h)
      clear C6 k7 b7 g8 k8 s7 s8 BE k6
      refine (hD.out w8 k8g C8).mono ?_
      rintro r w9 ⟨⟨nx, rfl⟩, d2, X2, m3, k9, h2R, C9, O9, hokX⟩
      have K1 := Out.Blk.out K1 O9 (fun h => by omega)
      have K2 := Out.Blk.out K2 O9 (fun h => by omega)
      have K3 := Out.Blk.out K3 O9 (fun h => by omega)
      have O := O.trans O9 (fun i h => by rcases h with h | h | h; exact .inr (by omega); exact .inl (.inr (.inl h)); exact .inl (.inr (.inr h)))
      obtain ⟨tc, htc⟩ : ∃ tc, d2.tc = tc := ⟨_, rfl⟩
      have c19 : w9.cell? ⟨g, 19, none⟩ = some (.int .i64 tc) := k9.cellv 19 _ (by rw [← htc]; exact dg_tr x d2 h2R 0 _ rfl)
      have hokX' := Lib.hid hokX
      have htc' := Lib.hid htc
      have C9' := Lib.hid C9
      clear C8 k8g hD O9 C9 hokX htc
      go_upto_region 13 with fail
      go_cut [74] from 61 to 74 (fun v wx => v = .bool (decide (tc ≠ 0 ∧ tc ≠ 6)) ∧ w9 = wx)
      case first =>
        clear K1 K2 K3 O k9
        rcases Decidable.em (tc = 0) with t0 | t0
        · have q1 : (tc != 0) = false := by simpa using t0
          have hfin : Hid (decide (tc ≠ 0 ∧ tc ≠ 6) = false) := Lib.hid (by simp; omega)
          go_wp2_with fail
          go_meet
          exact ⟨by rw [hfin.out], rfl⟩
        · have q1 : (tc != 0) = true := by simpa using t0
          rcases Decidable.em (tc = 6) with t6 | t6
          · have q2 : (tc != 6) = false := by simpa using t6
            have hfin : Hid (decide (tc ≠ 0 ∧ tc ≠ 6) = false) := Lib.hid (by simp; omega)
            go_wp2_with fail
            go_meet
            exact ⟨by rw [hfin.out], rfl⟩
          · have q2 : (tc != 6) = true := by simpa using t6
            have hfin : Hid (decide (tc ≠ 0 ∧ tc ≠ 6) = true) := Lib.hid (by simp; omega)
            go_wp2_with fail
            go_meet
            exact ⟨by rw [hfin.out], rfl⟩
      case rest =>
        obtain ⟨rfl, rfl⟩ := hcut
        rcases Decidable.em (tc ≠ 0 ∧ tc ≠ 6) with ht | ht
        · have hdec : decide (tc ≠ 0 ∧ tc ≠ 6) = true := by simpa using ht
          have htt := Lib.hid ht
          rw [hdec]
          have hX2 : Hid (X2 = X) := Lib.hid (by
            rcases hokX'.out with h | ⟨h, _⟩
            · exact h
            · rw [htc'.out] at h; exact absurd h ht.1)
          clear hdec ht c19
          have KE := k9
          have C5 := C9'.out
          clear C9'
          go_upto_region 14 with fail
          have O := O.trans (Out.of_below (bl_drew (bl_refl w9)) (fun i => i = x ∨ i = gt ∨ i = gp)) (fun i h => .inl h)
          have C11 := C5.below (bl_drew (bl_refl w9))
          have K1 := K1.drew
          have K2 := K2.drew
          have K3 := K3.drew
          have KE := KE.drew
          have htr := Lib.hid (dg_tr x d2 h2R)
          clear C5
          refine wp_region_held_drew (S := (fun w' => Blk w' gs 109 cR ∧ Blk w' g 140 (dg x d2))) (by kernel_rfl) (⟨K1, KE⟩) (fun hHeld => ?_)
          refine wpAnyH_take (i := 0) (oi := { dst := some 75, op := Op.load 109 (Operand.tmp 5), type := 109, pos := "cpu.go:184", after := #[], guard := none }) (v := ?_) rfl (by kernel_rfl) (by kernel_rfl) (by kernel_rfl) (fun _ _ _ h => h) ?_ hHeld ?_
          rotate_left
          · refine yIf_load 109 (.tmp 5) gs 109 cR _ ?_ Try.underlying109 rfl hcs ?_ ?_ ?_
            · exact fun _ h => h.1
            · rfl
            · rfl
            · rfl
          try simp only [Act.put, List.setIfInBounds_toArray, List.set_cons_zero, List.set_cons_succ]
          refine wpAnyH_take (i := 1) (oi := { dst := some 76, op := Op.move (Operand.tmp 8), type := 138, pos := "cpu.go:184", after := #[{ on := 5, ground := Ground.gcOnly Departure.lateStores }], guard := none }) (v := ?_) rfl (by kernel_rfl) (by kernel_rfl) (by kernel_rfl) (fun _ _ _ h => h) ?_ hHeld ?_
          rotate_left
          · refine Or.inl ⟨by rfl, fun w hSw => ?_⟩; skip; go_simp; (try with_reducible rfl)
          try simp only [Act.put, List.setIfInBounds_toArray, List.set_cons_zero, List.set_cons_succ]
          refine wpAnyH_take (i := 2) (oi := { dst := some 77, op := Op.nilCheck (Operand.tmp 76), type := 0, pos := "cpu.go:184", after := #[{ on := 1, ground := Ground.data }, { on := 5, ground := Ground.gcOnly Departure.lateStores }], guard := none }) (v := ?_) rfl (by kernel_rfl) (by kernel_rfl) (by kernel_rfl) (fun _ _ _ h => h) ?_ hHeld ?_
          rotate_left
          · refine Or.inl ⟨by rfl, fun w hSw => ?_⟩; skip; go_simp; (try with_reducible rfl)
          try simp only [Act.put, List.setIfInBounds_toArray, List.set_cons_zero, List.set_cons_succ]
          refine wpAnyH_take (i := 3) (oi := { dst := some 78, op := Op.fieldAddr 140 (Operand.tmp 77) 3, type := 0, pos := "cpu.go:184", after := #[{ on := 2, ground := Ground.data }, { on := 5, ground := Ground.gcOnly Departure.lateStores }], guard := none }) (v := ?_) rfl (by kernel_rfl) (by kernel_rfl) (by kernel_rfl) (fun _ _ _ h => h) ?_ hHeld ?_
          rotate_left
          · refine Or.inl ⟨by rfl, fun w hSw => ?_⟩; skip; go_simp; (try with_reducible rfl)
          try simp only [Act.put, List.setIfInBounds_toArray, List.set_cons_zero, List.set_cons_succ]
          refine wpAnyH_take (i := 4) (oi := { dst := some 79, op := Op.load 117 (Operand.tmp 78), type := 117, pos := "cpu.go:184", after := #[{ on := 3, ground := Ground.data }, { on := 5, ground := Ground.gcOnly Departure.lateStores }], guard := none }) (v := ?_) rfl (by kernel_rfl) (by kernel_rfl) (by kernel_rfl) (fun _ _ _ h => h) ?_ hHeld ?_
          rotate_left
          · refine yIf_mid 117 (.tmp 78) g 19 140 (dg x d2) (tr d2) _ ?_ ?_ Try.underlying117 rfl (size_trl _) ?_ ?_ ?_
            · exact fun _ h => h.2
            · exact htr.out
            · rfl
            · rfl
            · rfl
          try simp only [Act.put, List.setIfInBounds_toArray, List.set_cons_zero, List.set_cons_succ]
          refine wpAnyH_ready (rs := [5]) (by kernel_rfl) (by simp) ?_
          refine AllReadyH.cons (o := { dst := none, op := Op.store 109 (Operand.tmp 6) (Operand.tmp 75), type := 0, pos := "cpu.go:184", after := #[{ on := 0, ground := Ground.data }, { on := 0, ground := Ground.phase }, { on := 1, ground := Ground.textOnly Departure.lateStores }, { on := 2, ground := Ground.textOnly Departure.lateStores }, { on := 3, ground := Ground.textOnly Departure.lateStores }, { on := 4, ground := Ground.textOnly Departure.lateStores }], guard := none }) rfl (fun Kc hKc => ?_) AllReadyH.nil
          refine step_of (by rfl) (wp_whole 109 (.tmp 6) (.tmp 75) (by rfl) g6 (by rfl) cR (by rfl) 109 (cx zR 0).toArray K2 hcs (by rw [hs17]; rfl) hc1.out ?_)
          intro wS K2 GG sS
          have OG := Out.of_grown GG (S := fun i => i = g6) (fun k e => by injection e with e; exact e.symm)
          have C11 := C11.out OG (fun h => by omega) (fun h => by omega) (fun h => by omega) (fun h => by omega)
          have O := O.trans OG (fun i h => .inr (by omega))
          have K3 := Out.Blk.out K3 OG (fun h => by omega)
          refine hKc.out _ _ (⟨Out.Blk.out hHeld.1 OG (fun h => by omega), Out.Blk.out hHeld.2 OG (fun h => by omega)⟩) (fun hHeld => ?_)
          clear hKc Kc
          try simp only [Act.put]
          refine wpAnyH_ready (rs := [6]) (by kernel_rfl) (by simp) ?_
          refine AllReadyH.cons (o := { dst := none, op := Op.store 117 (Operand.tmp 7) (Operand.tmp 79), type := 0, pos := "cpu.go:184", after := #[{ on := 4, ground := Ground.data }, { on := 5, ground := Ground.chain }, { on := 0, ground := Ground.phase }, { on := 1, ground := Ground.phase }, { on := 2, ground := Ground.phase }, { on := 3, ground := Ground.phase }, { on := 4, ground := Ground.phase }, { on := 5, ground := Ground.phase }], guard := none }) rfl (fun Kc hKc => ?_) AllReadyH.nil
          refine step_of (by rfl) (wp_whole 117 (.tmp 7) (.tmp 79) (by rfl) g7 (by rfl) (tr d2).toArray (by rfl) 117 (tr (d0 0 [] 0)).toArray K3 (size_tr _) rfl (tr_one _) ?_)
          intro wT K3 GG sT
          have OG := Out.of_grown GG (S := fun i => i = g7) (fun k e => by injection e with e; exact e.symm)
          have C11 := C11.out OG (fun h => by omega) (fun h => by omega) (fun h => by omega) (fun h => by omega)
          have O := O.trans OG (fun i h => .inr (by omega))
          have K2 := Out.Blk.out K2 OG (fun h => by omega)
          refine hKc.out _ _ (⟨Out.Blk.out hHeld.1 OG (fun h => by omega), Out.Blk.out hHeld.2 OG (fun h => by omega)⟩) (fun hHeld => ?_)
          clear hKc Kc
          try simp only [Act.put]
          refine wpAnyH_done (by kernel_rfl) ?_ _
          try go_wp2_with fail
          have hfin : Hid (StepOk x gm gp gt n X l sp R pc w wT (.returned (.tuple #[.agg cR, .agg (tr d2).toArray]))) := Lib.hid ⟨R, pc, d2, X2, m3, by rw [hcR'.out], hR, C11, O, .inl hX2.out, fun _ _ => ⟨rfl, rfl⟩⟩
          refine bodyPost_ret (res_two rfl _ _ _ g6 g7 109 117 cR (tr d2).toArray _ _ rfl K2 Try.underlying109 rfl hcs rfl K3 Try.underlying117 rfl (size_tr _)) rfl hfin.out
        · have hdec : decide (tc ≠ 0 ∧ tc ≠ 6) = false := by simpa using ht
          have htt := Lib.hid ht
          rw [hdec]
          have hsp := Lib.hid (dg_pc x d2 h2R nx)
          have hsz := dg_size x d2 h2R
          have hd3R : (dpc d2 nx).R.length = 16 := h2R
          clear hdec ht c19
          go_upto_region 16 with (first
            | ((refine wl_set rfl 28 (.tmp 84) (.tmp 81) rfl g 18 rfl (.int .u32 nx) rfl rfl 140 (dg x d2) k9 size_u32' (by omega) ?_); intro w10 k10 g10 s10))
          rw [hsp.out] at k10
          have O10 := Out.of_grown g10 (S := fun i => i = g) (fun k e => by injection e with e; exact e.symm)
          have C10 := Lib.hid (C9'.out.out O10 ngx.symm ngm.symm ngp.symm ngt.symm)
          have K2 := Out.Blk.out K2 O10 (fun h => by omega)
          have K3 := Out.Blk.out K3 O10 (fun h => by omega)
          have O := O.trans O10 (fun i h => .inr (by omega))
          have hcx := Lib.hid (dg_cx x (dpc d2 nx) hd3R)
          have htr := Lib.hid (dg_tr x (dpc d2 nx) hd3R)
          clear C9' O10 g10 k9 hsp hsz K1
          have O := O.trans (Out.of_below (bl_drew (bl_refl w10)) (fun i => i = x ∨ i = gt ∨ i = gp)) (fun i h => .inl h)
          have C11 := C10.out.below (bl_drew (bl_refl w10))
          have K2 := K2.drew
          have K3 := K3.drew
          refine wp_region_held_drew (S := (fun w' => Blk w' g 140 (dg x (dpc d2 nx)))) (by kernel_rfl) (k10.drew) (fun hHeld => ?_)
          refine wpAnyH_take (i := 0) (oi := { dst := some 85, op := Op.move (Operand.tmp 8), type := 138, pos := "cpu.go:187", after := #[], guard := none }) (v := ?_) rfl (by kernel_rfl) (by kernel_rfl) (by kernel_rfl) (fun _ _ _ h => h) ?_ hHeld ?_
          rotate_left
          · refine Or.inl ⟨by rfl, fun w hSw => ?_⟩; skip; go_simp; (try with_reducible rfl)
          try simp only [Act.put, List.setIfInBounds_toArray, List.set_cons_zero, List.set_cons_succ]
          refine wpAnyH_take (i := 1) (oi := { dst := some 86, op := Op.nilCheck (Operand.tmp 85), type := 0, pos := "cpu.go:187", after := #[{ on := 0, ground := Ground.data }], guard := none }) (v := ?_) rfl (by kernel_rfl) (by kernel_rfl) (by kernel_rfl) (fun _ _ _ h => h) ?_ hHeld ?_
          rotate_left
          · refine Or.inl ⟨by rfl, fun w hSw => ?_⟩; skip; go_simp; (try with_reducible rfl)
          try simp only [Act.put, List.setIfInBounds_toArray, List.set_cons_zero, List.set_cons_succ]
          refine wpAnyH_take (i := 2) (oi := { dst := some 87, op := Op.fieldAddr 140 (Operand.tmp 86) 2, type := 0, pos := "cpu.go:187", after := #[{ on := 1, ground := Ground.data }], guard := none }) (v := ?_) rfl (by kernel_rfl) (by kernel_rfl) (by kernel_rfl) (fun _ _ _ h => h) ?_ hHeld ?_
          rotate_left
          · refine Or.inl ⟨by rfl, fun w hSw => ?_⟩; skip; go_simp; (try with_reducible rfl)
          try simp only [Act.put, List.setIfInBounds_toArray, List.set_cons_zero, List.set_cons_succ]
          refine wpAnyH_take (i := 3) (oi := { dst := some 88, op := Op.load 109 (Operand.tmp 87), type := 109, pos := "cpu.go:187", after := #[{ on := 2, ground := Ground.data }], guard := none }) (v := ?_) rfl (by kernel_rfl) (by kernel_rfl) (by kernel_rfl) (fun _ _ _ h => h) ?_ hHeld ?_
          rotate_left
          · refine yIf_mid 109 (.tmp 87) g 2 140 (dg x (dpc d2 nx)) (cx d2.R nx) _ ?_ ?_ Try.underlying109 rfl (size_cxl _ _ h2R) ?_ ?_ ?_
            · exact fun _ h => h
            · exact hcx.out
            · rfl
            · rfl
            · rfl
          try simp only [Act.put, List.setIfInBounds_toArray, List.set_cons_zero, List.set_cons_succ]
          refine wpAnyH_take (i := 4) (oi := { dst := some 89, op := Op.move (Operand.tmp 8), type := 138, pos := "cpu.go:187", after := #[{ on := 8, ground := Ground.gcOnly Departure.lateStores }], guard := none }) (v := ?_) rfl (by kernel_rfl) (by kernel_rfl) (by kernel_rfl) (fun _ _ _ h => h) ?_ hHeld ?_
          rotate_left
          · refine Or.inl ⟨by rfl, fun w hSw => ?_⟩; skip; go_simp; (try with_reducible rfl)
          try simp only [Act.put, List.setIfInBounds_toArray, List.set_cons_zero, List.set_cons_succ]
          refine wpAnyH_take (i := 5) (oi := { dst := some 90, op := Op.nilCheck (Operand.tmp 89), type := 0, pos := "cpu.go:187", after := #[{ on := 4, ground := Ground.data }, { on := 8, ground := Ground.gcOnly Departure.lateStores }], guard := none }) (v := ?_) rfl (by kernel_rfl) (by kernel_rfl) (by kernel_rfl) (fun _ _ _ h => h) ?_ hHeld ?_
          rotate_left
          · refine Or.inl ⟨by rfl, fun w hSw => ?_⟩; skip; go_simp; (try with_reducible rfl)
          try simp only [Act.put, List.setIfInBounds_toArray, List.set_cons_zero, List.set_cons_succ]
          refine wpAnyH_take (i := 6) (oi := { dst := some 91, op := Op.fieldAddr 140 (Operand.tmp 90) 3, type := 0, pos := "cpu.go:187", after := #[{ on := 5, ground := Ground.data }, { on := 8, ground := Ground.gcOnly Departure.lateStores }], guard := none }) (v := ?_) rfl (by kernel_rfl) (by kernel_rfl) (by kernel_rfl) (fun _ _ _ h => h) ?_ hHeld ?_
          rotate_left
          · refine Or.inl ⟨by rfl, fun w hSw => ?_⟩; skip; go_simp; (try with_reducible rfl)
          try simp only [Act.put, List.setIfInBounds_toArray, List.set_cons_zero, List.set_cons_succ]
          refine wpAnyH_take (i := 7) (oi := { dst := some 92, op := Op.load 117 (Operand.tmp 91), type := 117, pos := "cpu.go:187", after := #[{ on := 6, ground := Ground.data }, { on := 8, ground := Ground.gcOnly Departure.lateStores }], guard := none }) (v := ?_) rfl (by kernel_rfl) (by kernel_rfl) (by kernel_rfl) (fun _ _ _ h => h) ?_ hHeld ?_
          rotate_left
          · refine yIf_mid 117 (.tmp 91) g 19 140 (dg x (dpc d2 nx)) (tr d2) _ ?_ ?_ Try.underlying117 rfl (size_trl _) ?_ ?_ ?_
            · exact fun _ h => h
            · exact htr.out
            · rfl
            · rfl
            · rfl
          try simp only [Act.put, List.setIfInBounds_toArray, List.set_cons_zero, List.set_cons_succ]
          refine wpAnyH_ready (rs := [8]) (by kernel_rfl) (by simp) ?_
          refine AllReadyH.cons (o := { dst := none, op := Op.store 109 (Operand.tmp 6) (Operand.tmp 88), type := 0, pos := "cpu.go:187", after := #[{ on := 3, ground := Ground.data }, { on := 0, ground := Ground.phase }, { on := 1, ground := Ground.phase }, { on := 2, ground := Ground.phase }, { on := 3, ground := Ground.phase }, { on := 4, ground := Ground.textOnly Departure.lateStores }, { on := 5, ground := Ground.textOnly Departure.lateStores }, { on := 6, ground := Ground.textOnly Departure.lateStores }, { on := 7, ground := Ground.textOnly Departure.lateStores }], guard := none }) rfl (fun Kc hKc => ?_) AllReadyH.nil
          refine step_of (by rfl) (wp_whole 109 (.tmp 6) (.tmp 88) (by rfl) g6 (by rfl) (cx d2.R nx).toArray (by rfl) 109 (cx zR 0).toArray K2 (size_cx _ _ h2R) (by rw [List.size_toArray, List.size_toArray, cx_len _ _ h2R]; rfl) (cx_one _ _) ?_)
          intro wS K2 GG sS
          have OG := Out.of_grown GG (S := fun i => i = g6) (fun k e => by injection e with e; exact e.symm)
          have C11 := C11.out OG (fun h => by omega) (fun h => by omega) (fun h => by omega) (fun h => by omega)
          have O := O.trans OG (fun i h => .inr (by omega))
          have K3 := Out.Blk.out K3 OG (fun h => by omega)
          refine hKc.out _ _ (Out.Blk.out hHeld OG (fun h => by omega)) (fun hHeld => ?_)
          clear hKc Kc
          try simp only [Act.put]
          refine wpAnyH_ready (rs := [9]) (by kernel_rfl) (by simp) ?_
          refine AllReadyH.cons (o := { dst := none, op := Op.store 117 (Operand.tmp 7) (Operand.tmp 92), type := 0, pos := "cpu.go:187", after := #[{ on := 7, ground := Ground.data }, { on := 8, ground := Ground.chain }, { on := 0, ground := Ground.phase }, { on := 1, ground := Ground.phase }, { on := 2, ground := Ground.phase }, { on := 3, ground := Ground.phase }, { on := 4, ground := Ground.phase }, { on := 5, ground := Ground.phase }, { on := 6, ground := Ground.phase }, { on := 7, ground := Ground.phase }, { on := 8, ground := Ground.phase }], guard := none }) rfl (fun Kc hKc => ?_) AllReadyH.nil
          refine step_of (by rfl) (wp_whole 117 (.tmp 7) (.tmp 92) (by rfl) g7 (by rfl) (tr d2).toArray (by rfl) 117 (tr (d0 0 [] 0)).toArray K3 (size_tr _) rfl (tr_one _) ?_)
          intro wT K3 GG sT
          have OG := Out.of_grown GG (S := fun i => i = g7) (fun k e => by injection e with e; exact e.symm)
          have C11 := C11.out OG (fun h => by omega) (fun h => by omega) (fun h => by omega) (fun h => by omega)
          have O := O.trans OG (fun i h => .inr (by omega))
          have K2 := Out.Blk.out K2 OG (fun h => by omega)
          refine hKc.out _ _ (Out.Blk.out hHeld OG (fun h => by omega)) (fun hHeld => ?_)
          clear hKc Kc
          try simp only [Act.put]
          refine wpAnyH_done (by kernel_rfl) ?_ _
          try go_wp2_with fail
          have hfin : Hid (StepOk x gm gp gt n X l sp R pc w wT (.returned (.tuple #[.agg (cx d2.R nx).toArray, .agg (tr d2).toArray]))) := Lib.hid ⟨d2.R, nx, d2, X2, m3, rfl, h2R, C11, O, hokX'.out, fun h h' => absurd ⟨by rw [htc'.out] at h; exact h, by rw [htc'.out] at h'; exact h'⟩ htt.out⟩
          refine bodyPost_ret (res_two rfl _ _ _ g6 g7 109 117 (cx d2.R nx).toArray (tr d2).toArray _ _ rfl K2 Try.underlying109 rfl (size_cx _ _ h2R) rfl K3 Try.underlying117 rfl (size_tr _)) rfl hfin.out
end Go.Proofs.Ytdokmnpkihmkpaa.CpuF
