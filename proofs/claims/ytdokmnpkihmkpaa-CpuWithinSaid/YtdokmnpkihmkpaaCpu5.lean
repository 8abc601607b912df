/- Contracts of the cpu laws' awake, and of a nil CPU's Step. -/
import Derived.Test.YtdokmnpkihmkpaaCpu4
set_option linter.unusedVariables false
namespace Go.Proofs.Ytdokmnpkihmkpaa.Cpu5
open Go.RowKit Go.Proofs.Ytdokmnpkihmkpaa.Base Go.Proofs.Ytdokmnpkihmkpaa.Row Go.Proofs.Ytdokmnpkihmkpaa.App Go.Proofs.Ytdokmnpkihmkpaa.Multi Go.Proofs.Ytdokmnpkihmkpaa.StEq Go.Proofs.Ytdokmnpkihmkpaa.Held Go.Proofs.Ytdokmnpkihmkpaa.Out Go.Proofs.Ytdokmnpkihmkpaa.HeldW Go.Proofs.Ytdokmnpkihmkpaa.HeldX Go.Proofs.Ytdokmnpkihmkpaa.Once Go.Proofs.Ytdokmnpkihmkpaa.Isa Go.Proofs.Ytdokmnpkihmkpaa.Isa2 Go.Proofs.Ytdokmnpkihmkpaa.Isa3 Go.Proofs.Ytdokmnpkihmkpaa.TlbMath Go.Proofs.Ytdokmnpkihmkpaa.Tlb Go.Proofs.Ytdokmnpkihmkpaa.Tlb3 Go.Proofs.Ytdokmnpkihmkpaa.Tlb5 Go.Proofs.Ytdokmnpkihmkpaa.TlbRef Go.Proofs.Ytdokmnpkihmkpaa.Frames Go.Proofs.Ytdokmnpkihmkpaa.Frames4 Go.Proofs.Ytdokmnpkihmkpaa.Frames5 Go.Proofs.Ytdokmnpkihmkpaa.Cpu Go.Proofs.Ytdokmnpkihmkpaa.Cpu2 Go.Proofs.Ytdokmnpkihmkpaa.Cpu3 Go.Proofs.Ytdokmnpkihmkpaa.Cpu4

/-- A trap by its cause alone. -/
def trc (c : Int) : Array Value := #[.int .i64 c, .int .i64 0, .bool false, .int .i64 0]
theorem size_trc (c : Int) : (Try.prog.info? 117).map (·.size) = some (trc c).size := by kernel_rfl
theorem trc_one (c : Int) : ∀ v ∈ trc c, v.oneCell' = true := by
  intro v hv
  simp [trc] at hv
  rcases hv with rfl | rfl | rfl | rfl <;> rfl
theorem built_trc (c : Int) : Try.prog.built 117 [(0, .int .i64 c)] = some (trc c) := by kernel_rfl
theorem built_tr0 : Try.prog.built 117 [] = some (trc 0) := by kernel_rfl
theorem built_cx0 : Try.prog.built 109 [] = some (cx zR 0).toArray := by kernel_rfl
theorem eq_trc (c : Int) (w : World) : (Op.equalIn 10000 117 (.agg (trc c)) (.agg (trc c))).run Try.prog w = .ok true w := by
  unfold trc
  go_simp
set_option maxRecDepth 100000 in
set_option maxHeartbeats 2000000 in
theorem step_nil (sp : Int) (R : List Int) (pc : Int) (w : World) (hR : R.length = 16) :
    Calls Try.prog 54 #[.pointer none, .int .i64 sp, .agg (cx R pc).toArray] w fun r w' => r = .returned (.tuple #[.agg (cx R pc).toArray, .agg (trc 3)]) ∧ Below w.heap.size w w' := by
  have hcs := size_cx R pc hR
  have hc1 := Lib.hid (cx_one R pc)
  have hs17 : (cx R pc).toArray.size = (cx zR 0).toArray.size := by rw [List.size_toArray, List.size_toArray, cx_len R pc hR]; rfl
  generalize (cx R pc).toArray = cR at *
  go_enter Try.func54, Try.ntmps54
  go_wp2_with (first
    | ((with_reducible refine wl_box rfl 109 (.tmp 2) rfl cR rfl ?_); intro w1 k1 b1 s1)
    | ((with_reducible refine wl_alloc rfl 109 rfl (cx zR 0).toArray new_cx ?_); intro w2 k2 b2 s2; have K1 := k1.below b2)
    | ((with_reducible refine wl_alloc rfl 117 rfl (tr (d0 0 [] 0)).toArray new_tr ?_); intro w3 k3 b3 s3; have K1 := K1.below b3; have K2 := k2.below b3)
    | (refine at_slot 15 rfl ?_; refine wl_load rfl 109 (.tmp 5) rfl w.heap.size rfl 109 cR _ K1 Try.underlying109 rfl hcs ?_)
    | (refine at_slot 16 rfl ?_; refine wl_build1 rfl 117 0 _ rfl (.int .i64 3) rfl (trc 3) (built_trc 3) ?_)
    | ((refine wl_store rfl 109 (.tmp 6) (.tmp 15) rfl w1.heap.size rfl cR rfl 109 (cx zR 0).toArray K2 hcs hs17.symm hc1.out ?_); intro w4 k4 g4 s4)
    | ((refine wl_store rfl 117 (.tmp 7) (.tmp 16) rfl w2.heap.size rfl (trc 3) rfl 117 (tr (d0 0 [] 0)).toArray (k3.grown g4 (fun e => by injection e with e; omega)) (size_trc 3) rfl (trc_one 3) ?_); intro w5 k5 g5 s5))
  have z1 := b1.size
  have z2 := b2.size
  have B3 := bl_then (bl_then b1 b2) b3
  have B4 := below_grown B3 B3.size g4 (by omega)
  have B5 := below_grown B4 B4.size g5 (by omega)
  refine bodyPost_ret (res_two rfl _ _ _ w1.heap.size w2.heap.size 109 117 cR (trc 3) _ _ rfl (k4.grown g5 (fun e => by injection e with e; omega)) Try.underlying109 rfl hcs rfl k5 Try.underlying117 rfl (size_trc 3)) rfl ⟨rfl, B5⟩
theorem aw_put : putN [ez] (min 1 12) = [ez] := by decide
theorem aw_at : at_ [ez] 0 (0 / 64) < [ez].length := by decide
theorem aw_get : (getE [ez] 0 (0 / 64)).f = ((0 : Nat) : Int) := by decide
theorem aw_word : (lay [17825797] (min 1 64))[0 * 16 + ((0 : Int) % 64 / 4).toNat]?.getD 0 = 17825797 := by decide
set_option maxRecDepth 100000 in
theorem aw_db : decB 17825797 = true := by decide
set_option maxRecDepth 100000 in
theorem aw_di : decI 17825797 = ins 1 ((1 : Nat) : Int) 0 5 := by
  unfold decI
  rw [if_pos (show IsaMath.refB (17825797 / 16777216) (17825797 / 1048576 % 16) (17825797 / 65536 % 16) (simm 17825797) = true from aw_db)]
  rfl
/-- The machine's cells of the example. -/
def awd : Dn := dset (d0 0 zR 0) 1 (5 % 4294967296)
set_option maxRecDepth 100000 in
set_option maxHeartbeats 4000000 in
theorem awake_c (w : World) : Calls Try.prog 55 #[] w fun e w' => e = .returned (.bool true) ∧ Below w.heap.size w w' := by
  have hBoth := Lib.hid (fun w' g1 g2 (k1 : Blk w' g1 28 #[.int .u32 17825797]) (k2 : Blk w' g2 58 (ea ez)) =>
    (aw_put ▸ both_c (some ⟨g1, 0, none⟩) 1 1 [17825797] (some ⟨g2, 0, none⟩) 1 1 [ez] #[.slice (some ⟨g1, 0, none⟩) 1 1, .slice (some ⟨g2, 0, none⟩) 1 1, .int .i64 0, .int .u32 0, .int .u32 0, .int .u32 0, .int .u32 0, .int .u32 0, .int .u32 0, .int .u32 0, .int .u32 0, .int .u32 0, .int .u32 0, .int .u32 0, .int .u32 0, .int .u32 0, .int .u32 0, .int .u32 0, .int .u32 0, .int .u32 0] w' rfl rfl
      ⟨rfl, by omega, fun _ => ⟨⟨g1, 0, none⟩, rfl, fun j hj => by
        obtain rfl : j = 0 := by omega
        exact k1.cellv 0 _ rfl⟩⟩ (fun a ha _ => by injection ha with ha; subst ha; exact k1.lt) (rf_lit k2 rfl) : Calls Try.prog 53 _ w' fun r w'' => BothPost w' (lay [17825797] (min 1 64)) [ez] w'' r ∧ Below w'.heap.size w' w''))
  have hStep := Lib.hid (fun w' x gm gp gt (C : CS w' x gm gp gt 4 (lay [17825797] (min 1 64)) [ez] 0) => step_ok x gm gp gt 4 0 _ (lay [17825797] (min 1 64)) [ez] 0 0 zR 0 4 1 ((1 : Nat) : Int) 0 5 17825797 awd w' C (by decide) rfl (by omega) (by omega) (by omega) aw_at (by omega) aw_get aw_word (by omega) (by omega) aw_db aw_di rfl rfl
    (fun g w1 HD C1 => (do_set g x 1 (d0 0 zR 0) 0 5 w1 HD rfl (by omega) ⟨by decide, by decide⟩).mono (fun r w2 ⟨h1, h2, h3⟩ => ⟨h1, h2, C1.out h3 (C1.ne_ HD).1.symm (C1.ne_ HD).2.1.symm (C1.ne_ HD).2.2.1.symm (C1.ne_ HD).2.2.2.symm, h3.mono (fun i h => .inl h)⟩)))
  have hz := built_cx0
  have ht0 := built_tr0
  have heq := Lib.hid (fun w' => eq_trc 0 w')
  obtain ⟨cz, hcz⟩ : ∃ cz, cz = (cx zR 0).toArray := ⟨_, rfl⟩
  rw [← hcz] at hz
  have hnz : (Try.prog.info? 109).map (fun i => i.zero.map (·.cells)) = some (some cz) := by rw [hcz]; exact new_cx
  have htr : (tr awd).toArray = trc 0 := rfl
  have hsz : cz.size = (cx awd.R 4).toArray.size := by rw [hcz]; rfl
  have hs1 := size_cx awd.R 4 rfl
  have ho1 := cx_one awd.R 4
  have e1 : (cx awd.R 4).toArray[1]? = some (.int .u32 5) := rfl
  have e16 : (cx awd.R 4).toArray[16]? = some (.int .u32 4) := rfl
  rw [← hcz, htr] at hStep
  obtain ⟨cn, hcn⟩ : ∃ cn, cn = (cx awd.R 4).toArray := ⟨_, rfl⟩
  rw [← hcn] at hStep hs1 ho1 e1 e16 hsz
  replace e1 := Lib.hid e1
  replace e16 := Lib.hid e16
  replace ho1 := Lib.hid ho1
  clear hcn hcz htr
  go_enter Try.func55, Try.ntmps55
  go_wp2_with fail
  have ba : Below w.heap.size w ((w.alloc (.cells #[.int .u32 17825797] 28)).alloc (.cells #[.int .i64 0, .int .i64 0, .int .i64 0, .bool false] 58)) := bl_alloc (bl_alloc (bl_refl w) _) _
  have k1 : Blk ((w.alloc (.cells #[.int .u32 17825797] 28)).alloc (.cells #[.int .i64 0, .int .i64 0, .int .i64 0, .bool false] 58)) w.heap.size 28 #[.int .u32 17825797] := (Blk.new w _ _).below (bl_alloc (bl_refl _) _)
  have k2 : Blk ((w.alloc (.cells #[.int .u32 17825797] 28)).alloc (.cells #[.int .i64 0, .int .i64 0, .int .i64 0, .bool false] 58)) (w.heap.size + 1) 58 (ea ez) := by
    have h := Blk.new (w.alloc (.cells #[.int .u32 17825797] 28)) 58 (ea ez)
    have hs : (w.alloc (.cells #[.int .u32 17825797] 28)).heap.size = w.heap.size + 1 := by simp
    rw [hs] at h
    exact h
  generalize (w.alloc (.cells #[.int .u32 17825797] 28)).alloc (.cells #[.int .i64 0, .int .i64 0, .int .i64 0, .bool false] 58) = wa at *
  have za := ba.size
  refine (hBoth.out wa w.heap.size (w.heap.size + 1) k1 k2).mono ?_
  rintro r w1 ⟨⟨x, gm, gp, gt, gr, rfl, C, x1, x2, x3, x4⟩, b1⟩
  have B1 := bl_then ba b1
  have hSt := Lib.hid (hStep.out w1 x gm gp gt C)
  clear hBoth hStep k1 k2 b1 C ba
  go_wp2_with (first
    | (refine at_slot 19 rfl ?_; refine wl_build0 rfl 109 rfl cz hz ?_))
  refine hSt.out.mono ?_
  rintro r w2 ⟨rfl, _, O⟩
  have B2 := O.below B1 B1.size (fun i h => by rcases h with h | h | h <;> omega)
  clear O hSt B1 hz
  go_wp2_with (first
    | ((with_reducible refine wl_alloc rfl 109 rfl cz hnz ?_); intro w3 k3 b3 s3)
    | ((with_reducible refine wl_alloc rfl 117 rfl (tr (d0 0 [] 0)).toArray new_tr ?_); intro w4 k4 b4 s4; have k3 := k3.below b4)
    | ((refine wl_store rfl 109 (.tmp 5) (.tmp 21) rfl w2.heap.size rfl cn rfl 109 cz k3 hs1 hsz ho1.out ?_); intro w5 k5 g5 s5)
    | ((refine wl_store rfl 117 (.tmp 6) (.tmp 22) rfl w3.heap.size rfl (trc 0) rfl 117 (tr (d0 0 [] 0)).toArray (k4.grown g5 (fun e => by injection e with e; omega)) (size_trc 0) rfl (trc_one 0) ?_); intro w6 k6 g6 s6; have k5 := k5.grown g6 (fun e => by injection e with e; omega); have c1 : w6.cell? ⟨w2.heap.size, 1, none⟩ = some (.int .u32 5) := k5.cellv 1 _ e1.out; have c16 : w6.cell? ⟨w2.heap.size, 16, none⟩ = some (.int .u32 4) := k5.cellv 16 _ e16.out)
    | (refine wl_load_on rfl 117 (.tmp 6) rfl w3.heap.size rfl 117 (trc 0) _ k6 Try.underlying117 rfl (size_trc 0) ?hop ?_; case hop => exact ⟨_, _, rfl, rfl, rfl⟩)
    | (refine wl_build0_on rfl 117 rfl (trc 0) ht0 ?hop ?_; case hop => exact ⟨_, _, rfl, rfl, rfl⟩)
    | (refine wl_eql_on rfl ?hop 117 (.tmp 33) (.tmp 34) 117 rfl (trc 0) (trc 0) rfl rfl (by kernel_rfl) true (heq.out _) ?_; case hop => exact ⟨_, _, rfl, rfl, rfl⟩))
  go_ret
  have z3 := b3.size
  have B4 := bl_then (bl_then B2 b3) b4
  have z2 := B2.size
  have B5 := below_grown B4 B4.size g5 (by omega)
  exact ⟨rfl, below_grown B5 B5.size g6 (by omega)⟩
end Go.Proofs.Ytdokmnpkihmkpaa.Cpu5
