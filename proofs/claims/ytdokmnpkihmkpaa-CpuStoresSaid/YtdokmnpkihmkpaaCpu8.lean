/- The four steps of the law CpuStores. -/
import Derived.Test.YtdokmnpkihmkpaaCpu7
set_option linter.unusedVariables false
namespace Go.Proofs.Ytdokmnpkihmkpaa.Cpu8
open Go.RowKit Go.Proofs.Ytdokmnpkihmkpaa.Base Go.Proofs.Ytdokmnpkihmkpaa.Row Go.Proofs.Ytdokmnpkihmkpaa.App Go.Proofs.Ytdokmnpkihmkpaa.Multi Go.Proofs.Ytdokmnpkihmkpaa.StEq Go.Proofs.Ytdokmnpkihmkpaa.Held Go.Proofs.Ytdokmnpkihmkpaa.Out Go.Proofs.Ytdokmnpkihmkpaa.HeldW Go.Proofs.Ytdokmnpkihmkpaa.HeldX Go.Proofs.Ytdokmnpkihmkpaa.Once Go.Proofs.Ytdokmnpkihmkpaa.Isa Go.Proofs.Ytdokmnpkihmkpaa.Isa2 Go.Proofs.Ytdokmnpkihmkpaa.Isa3 Go.Proofs.Ytdokmnpkihmkpaa.TlbMath Go.Proofs.Ytdokmnpkihmkpaa.Tlb Go.Proofs.Ytdokmnpkihmkpaa.Tlb3 Go.Proofs.Ytdokmnpkihmkpaa.Frames Go.Proofs.Ytdokmnpkihmkpaa.Cpu Go.Proofs.Ytdokmnpkihmkpaa.Cpu2 Go.Proofs.Ytdokmnpkihmkpaa.Cpu3 Go.Proofs.Ytdokmnpkihmkpaa.Cpu4 Go.Proofs.Ytdokmnpkihmkpaa.Cpu5 Go.Proofs.Ytdokmnpkihmkpaa.Cpu6 Go.Proofs.Ytdokmnpkihmkpaa.Cpu7

/-- What a step gives. -/
def StepPost (x gm gp gt : Nat) (sp wv : Int) (t k : Nat) (w w' : World) (r : Ending) : Prop := r = .returned (.tuple #[.agg (cx (Rs wv t (k + 1)) (4 * ((k + 1 : Nat) : Int))).toArray, .agg (trc 0)]) ∧ CS w' x gm gp gt 4 (Xs wv t (k + 1)) (l0 sp) 0 ∧ Out w w' (fun i => i = x ∨ i = gt ∨ i = gp)
theorem wrap_lit (n : Int) (h0 : 0 ≤ n) (h1 : n < 4294967296) : IntKind.u32.wrap n = n := by simp only [IntKind.wrap, IntKind.signed, IntKind.bits]; simp; omega
theorem out_pre {w w1 w2 : World} {S : Nat → Prop} (hb : Below w.heap.size w w1) (h : Out w1 w2 S) : Out w w2 S := (Out.of_below hb S).trans h (fun i h => .inl h)
theorem word_at (wv : Int) (t k : Nat) (j : Nat) (h : j < 4) (v : Int) (hv : ws[j]? = some v) (hk : k = k) : (Xs wv t k)[0 * 16 + ((4 * (j : Int)) % 64 / 4).toNat]?.getD 0 = v := by
  have e : 0 * 16 + ((4 * (j : Int)) % 64 / 4).toNat = j := by omega
  rw [e, xs_low _ _ _ _ (by omega)]
  unfold X0
  rw [Cpu4.lay_get _ _ _ (by omega), if_pos (by omega), hv]
  rfl
theorem l0_len (sp : Int) : (l0 sp).length ≤ 8 := by show 2 ≤ 8; omega
theorem rl (sp wv : Int) (t k : Nat) (pc : Int) : (d0 sp (Rs wv t k) pc).R.length = 16 := rs_len _ _ _
theorem pg0 (j : Int) (h0 : 0 ≤ j) (h : j < 4) : (4 * j) / 64 = 0 := by omega
theorem step0 (x gm gp gt : Nat) (sp wv : Int) (t : Nat) (ht : t < 16) (hw0 : 0 ≤ wv) (hw1 : wv < 4294967296) (w : World) (C : CS w x gm gp gt 4 (Xs wv t 0) (l0 sp) 0) :
    Calls Try.prog 54 #[.pointer (some ⟨x, 0, none⟩), .int .i64 sp, .agg (cx (Rs wv t 0) 0).toArray] w fun r w' => StepPost x gm gp gt sp wv t 0 w w' r := by
  have ha : (64 + (t : Int) * 4) / 64 = 1 := by omega
  have hm : (64 + (t : Int) * 4) % 64 / 4 = (t : Int) := by omega
  refine step_ok x gm gp gt 4 0 (Xs wv t 0) (Xs wv t 1) (l0 sp) 0 sp (Rs wv t 0) 0 4 15 ((1 : Nat) : Int) ((2 : Nat) : Int) 0 252837888 (d0 sp (Rs wv t 0) 0) w C (l0_len sp) (rs_len _ _ _) (by omega) (by omega) (by omega) (by rw [show (0 : Int) / 64 = 0 from rfl, at0]; show 0 < 2; omega) (by omega) (by rw [show (0 : Int) / 64 = 0 from rfl, ge0]; rfl) (word_at wv t 0 0 (by omega) _ rfl rfl) (by omega) (by omega) dec0.1 dec0.2 (rl _ _ _ _ _) rfl ?_
  intro g w1 HD C1
  refine (do_mem g x 15 _ _ 0 (d0 sp (Rs wv t 0) 0) w1 (by omega) HD (rl _ _ _ _ _) ⟨by show (0 : Int) ≤ 0; omega, by show (0 : Int) < 4294967296; omega⟩ (fun w2 => Blk w2 g 140 (dg x (d0 sp (Rs wv t 0) 0)) ∧ CS w2 x gm gp gt 4 (Xs wv t 1) (l0 sp) 0 ∧ Out w1 w2 (fun i => i = g ∨ i = gt ∨ i = gp)) (fun w2 hb => ?_)).mono (fun r w' h => h)
  refine (mem_store g x gm gp gt 4 2 1 2 (d0 sp (Rs wv t 0) 0) (Xs wv t 0) (l0 sp) 0 (64 + (t : Int) * 4) 0 (64 + (t : Int) * 4) wv _ w2 (HD.below hb) (C1.below hb) (l0_len sp) (rl _ _ _ _ _) (by omega) (by omega) rfl rfl (wrap_lit 0 (by omega) (by omega)) (by rw [Int.add_zero]; exact wrap_lit _ (by omega) (by omega)) (by omega) (by omega) (by show at_ (l0 sp) sp _ < _; rw [ha, at1]; show 1 < 2; omega) (by omega) (by show (getE (l0 sp) sp _).f = _; rw [ha, ge1]; rfl) rfl (by omega) (by show (getE (l0 sp) sp _).w = _; rw [ha, ge1])).mono ?_
  rintro r w' ⟨h1, h2, h3, h4⟩
  rw [hm, Int.toNat_natCast] at h3
  exact ⟨h1, h2, h3, out_pre hb h4⟩
theorem step1 (x gm gp gt : Nat) (sp wv : Int) (t : Nat) (ht : t < 16) (hw0 : 0 ≤ wv) (hw1 : wv < 4294967296) (w : World) (C : CS w x gm gp gt 4 (Xs wv t 1) (l0 sp) 0) :
    Calls Try.prog 54 #[.pointer (some ⟨x, 0, none⟩), .int .i64 sp, .agg (cx (Rs wv t 1) 4).toArray] w fun r w' => StepPost x gm gp gt sp wv t 1 w w' r := by
  have ha : (64 + (t : Int) * 4) / 64 = 1 := by omega
  have hm : (64 + (t : Int) * 4) % 64 / 4 = (t : Int) := by omega
  refine step_ok x gm gp gt 4 0 (Xs wv t 1) (Xs wv t 2) (l0 sp) 0 sp (Rs wv t 1) 4 8 14 ((3 : Nat) : Int) ((2 : Nat) : Int) 0 238157824 (dset (d0 sp (Rs wv t 1) 4) 3 wv) w C (l0_len sp) (rs_len _ _ _) (by omega) (by omega) (by omega) (by rw [show (4 : Int) / 64 = 0 from rfl, at0]; show 0 < 2; omega) (by omega) (by rw [show (4 : Int) / 64 = 0 from rfl, ge0]; rfl) (word_at wv t 1 1 (by omega) _ rfl rfl) (by omega) (by omega) dec1.1 dec1.2 (by show (List.set _ _ _).length = 16; rw [List.length_set]; exact rl _ _ _ _ _) rfl ?_
  intro g w1 HD C1
  refine (do_mem g x 14 _ _ 0 (d0 sp (Rs wv t 1) 4) w1 (by omega) HD (rl _ _ _ _ _) ⟨by show (0 : Int) ≤ 4; omega, by show (4 : Int) < 4294967296; omega⟩ (fun w2 => Blk w2 g 140 (dg x (dset (d0 sp (Rs wv t 1) 4) 3 wv)) ∧ CS w2 x gm gp gt 4 (Xs wv t 2) (l0 sp) 0 ∧ Out w1 w2 (fun i => i = g ∨ i = gt ∨ i = gp)) (fun w2 hb => ?_)).mono (fun r w' h => h)
  refine (mem_load g x gm gp gt 4 2 3 2 (d0 sp (Rs wv t 1) 4) (Xs wv t 1) (l0 sp) 0 (64 + (t : Int) * 4) 0 (64 + (t : Int) * 4) _ wv w2 (HD.below hb) (C1.below hb) (l0_len sp) (rl _ _ _ _ _) (by omega) (by omega) rfl rfl (wrap_lit 0 (by omega) (by omega)) (by rw [Int.add_zero]; exact wrap_lit _ (by omega) (by omega)) (by omega) (by omega) (by show at_ (l0 sp) sp _ < _; rw [ha, at1]; show 1 < 2; omega) (by omega) (by show (getE (l0 sp) sp _).f = _; rw [ha, ge1]; rfl) (by rw [hm, Int.toNat_natCast]; exact xs_get wv t 0 ht) (by omega)).mono ?_
  rintro r w' ⟨h1, h2, h3, h4⟩
  exact ⟨h1, h2, h3, out_pre hb h4⟩
theorem step2 (x gm gp gt : Nat) (sp wv : Int) (t : Nat) (ht : t < 16) (hw0 : 0 ≤ wv) (hw1 : wv < 4294967296) (w : World) (C : CS w x gm gp gt 4 (Xs wv t 2) (l0 sp) 0) :
    Calls Try.prog 54 #[.pointer (some ⟨x, 0, none⟩), .int .i64 sp, .agg (cx (Rs wv t 2) 8).toArray] w fun r w' => StepPost x gm gp gt sp wv t 2 w w' r := by
  have ha : (64 + (t : Int) * 4 + 1) / 64 = 1 := by omega
  have hm : (64 + (t : Int) * 4 + 1) % 64 / 4 = (t : Int) := by omega
  have h14 : ((64 + (t : Int) * 4 + 1) % 4 % 4).toNat = 1 := by omega
  have hbb : IntKind.u8.wrap (wv / 256) = wv / 256 % 256 := by simp only [IntKind.wrap, IntKind.signed, IntKind.bits]; simp
  have hnv : wv + (wv / 256 % 256 - wv / 256 ^ ((64 + (t : Int) * 4 + 1) % 4 % 4).toNat % 256) * 256 ^ ((64 + (t : Int) * 4 + 1) % 4 % 4).toNat = wv := by rw [h14]; omega
  refine step_ok x gm gp gt 4 0 (Xs wv t 2) (Xs wv t 3) (l0 sp) 0 sp (Rs wv t 2) 8 12 17 ((4 : Nat) : Int) ((2 : Nat) : Int) 1 289538049 (d0 sp (Rs wv t 2) 8) w C (l0_len sp) (rs_len _ _ _) (by omega) (by omega) (by omega) (by rw [show (8 : Int) / 64 = 0 from rfl, at0]; show 0 < 2; omega) (by omega) (by rw [show (8 : Int) / 64 = 0 from rfl, ge0]; rfl) (word_at wv t 2 2 (by omega) _ rfl rfl) (by omega) (by omega) dec2.1 dec2.2 (rl _ _ _ _ _) rfl ?_
  intro g w1 HD C1
  refine (do_mem g x 17 _ _ 1 (d0 sp (Rs wv t 2) 8) w1 (by omega) HD (rl _ _ _ _ _) ⟨by show (0 : Int) ≤ 8; omega, by show (8 : Int) < 4294967296; omega⟩ (fun w2 => Blk w2 g 140 (dg x (d0 sp (Rs wv t 2) 8)) ∧ CS w2 x gm gp gt 4 (Xs wv t 3) (l0 sp) 0 ∧ Out w1 w2 (fun i => i = g ∨ i = gt ∨ i = gp)) (fun w2 hb => ?_)).mono (fun r w' h => h)
  refine (mem_storeb g x gm gp gt 4 2 4 2 (d0 sp (Rs wv t 2) 8) (Xs wv t 2) (l0 sp) 0 (64 + (t : Int) * 4 + 1) 1 (64 + (t : Int) * 4) (wv / 256) wv (wv / 256 % 256) wv w2 (HD.below hb) (C1.below hb) (l0_len sp) (rl _ _ _ _ _) (by omega) (by omega) rfl rfl (wrap_lit 1 (by omega) (by omega)) (wrap_lit _ (by omega) (by omega)) (by omega) (by omega) (by show at_ (l0 sp) sp _ < _; rw [ha, at1]; show 1 < 2; omega) (by omega) (by show (getE (l0 sp) sp _).f = _; rw [ha, ge1]; rfl) (by rw [hm, Int.toNat_natCast]; exact xs_get wv t 1 ht) (by show (getE (l0 sp) sp _).w = _; rw [ha, ge1]) hw0 hw1 hbb (by omega) (by omega) hnv).mono ?_
  rintro r w' ⟨h1, h2, h3, h4⟩
  rw [hm, Int.toNat_natCast] at h3
  exact ⟨h1, h2, by have h5 : (Xs wv t 2).set (2 * 16 + t) wv = Xs wv t 2 := xs_same wv t 1; rw [h5] at h3; exact h3, out_pre hb h4⟩
theorem step3 (x gm gp gt : Nat) (sp wv : Int) (t : Nat) (ht : t < 16) (hw0 : 0 ≤ wv) (hw1 : wv < 4294967296) (w : World) (C : CS w x gm gp gt 4 (Xs wv t 3) (l0 sp) 0) :
    Calls Try.prog 54 #[.pointer (some ⟨x, 0, none⟩), .int .i64 sp, .agg (cx (Rs wv t 3) 12).toArray] w fun r w' => StepPost x gm gp gt sp wv t 3 w w' r := by
  have ha : (64 + (t : Int) * 4 + 1) / 64 = 1 := by omega
  have hm : (64 + (t : Int) * 4 + 1) % 64 / 4 = (t : Int) := by omega
  have h14 : ((64 + (t : Int) * 4 + 1) % 4 % 4).toNat = 1 := by omega
  have hbv : wv / 256 ^ ((64 + (t : Int) * 4 + 1) % 4 % 4).toNat % 256 = wv / 256 % 256 := by rw [h14]; rfl
  refine step_ok x gm gp gt 4 0 (Xs wv t 3) (Xs wv t 4) (l0 sp) 0 sp (Rs wv t 3) 12 16 16 ((5 : Nat) : Int) ((2 : Nat) : Int) 1 273809409 (dset (d0 sp (Rs wv t 3) 12) 5 (wv / 256 % 256)) w C (l0_len sp) (rs_len _ _ _) (by omega) (by omega) (by omega) (by rw [show (12 : Int) / 64 = 0 from rfl, at0]; show 0 < 2; omega) (by omega) (by rw [show (12 : Int) / 64 = 0 from rfl, ge0]; rfl) (word_at wv t 3 3 (by omega) _ rfl rfl) (by omega) (by omega) dec3.1 dec3.2 (by show (List.set _ _ _).length = 16; rw [List.length_set]; exact rl _ _ _ _ _) rfl ?_
  intro g w1 HD C1
  refine (do_mem g x 16 _ _ 1 (d0 sp (Rs wv t 3) 12) w1 (by omega) HD (rl _ _ _ _ _) ⟨by show (0 : Int) ≤ 12; omega, by show (12 : Int) < 4294967296; omega⟩ (fun w2 => Blk w2 g 140 (dg x (dset (d0 sp (Rs wv t 3) 12) 5 (wv / 256 % 256))) ∧ CS w2 x gm gp gt 4 (Xs wv t 4) (l0 sp) 0 ∧ Out w1 w2 (fun i => i = g ∨ i = gt ∨ i = gp)) (fun w2 hb => ?_)).mono (fun r w' h => h)
  refine (mem_loadb g x gm gp gt 4 2 5 2 (d0 sp (Rs wv t 3) 12) (Xs wv t 3) (l0 sp) 0 (64 + (t : Int) * 4 + 1) 1 (64 + (t : Int) * 4) _ wv (wv / 256 % 256) w2 (HD.below hb) (C1.below hb) (l0_len sp) (rl _ _ _ _ _) (by omega) (by omega) rfl rfl (wrap_lit 1 (by omega) (by omega)) (wrap_lit _ (by omega) (by omega)) (by omega) (by omega) (by show at_ (l0 sp) sp _ < _; rw [ha, at1]; show 1 < 2; omega) (by omega) (by show (getE (l0 sp) sp _).f = _; rw [ha, ge1]; rfl) (by rw [hm, Int.toNat_natCast]; exact xs_get wv t 2 ht) hw0 hw1 hbv).mono ?_
  rintro r w' ⟨h1, h2, h3, h4⟩
  exact ⟨h1, h2, h3, out_pre hb h4⟩
theorem step_k (x gm gp gt : Nat) (sp wv : Int) (t k : Nat) (hk : k < 4) (ht : t < 16) (hw0 : 0 ≤ wv) (hw1 : wv < 4294967296) (w : World) (C : CS w x gm gp gt 4 (Xs wv t k) (l0 sp) 0) :
    Calls Try.prog 54 #[.pointer (some ⟨x, 0, none⟩), .int .i64 sp, .agg (cx (Rs wv t k) (4 * ((k : Nat) : Int))).toArray] w fun r w' => StepPost x gm gp gt sp wv t k w w' r := by
  match k, hk, C with
  | 0, _, C => exact step0 x gm gp gt sp wv t ht hw0 hw1 w C
  | 1, _, C => exact step1 x gm gp gt sp wv t ht hw0 hw1 w C
  | 2, _, C => exact step2 x gm gp gt sp wv t ht hw0 hw1 w C
  | 3, _, C => exact step3 x gm gp gt sp wv t ht hw0 hw1 w C
end Go.Proofs.Ytdokmnpkihmkpaa.Cpu8
