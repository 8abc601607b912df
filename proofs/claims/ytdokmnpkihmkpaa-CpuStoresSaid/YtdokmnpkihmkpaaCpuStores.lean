/- The law CpuStores. -/
import Derived.Test.YtdokmnpkihmkpaaCpu8
import Derived.Test.YtdokmnpkihmkpaaCpuNone
import Derived.Deep.CutRange
set_option linter.unusedVariables false
namespace Go.Proofs.Ytdokmnpkihmkpaa.CpuStores
open Go.RowKit Go.ChangeShapes Go.WideShapes Go.Deep Go.Proofs.Ytdokmnpkihmkpaa.Base Go.Proofs.Ytdokmnpkihmkpaa.Row Go.Proofs.Ytdokmnpkihmkpaa.App Go.Proofs.Ytdokmnpkihmkpaa.Multi Go.Proofs.Ytdokmnpkihmkpaa.Flat Go.Proofs.Ytdokmnpkihmkpaa.FlatW Go.Proofs.Ytdokmnpkihmkpaa.StEq Go.Proofs.Ytdokmnpkihmkpaa.Held Go.Proofs.Ytdokmnpkihmkpaa.Out Go.Proofs.Ytdokmnpkihmkpaa.HeldW Go.Proofs.Ytdokmnpkihmkpaa.HeldX Go.Proofs.Ytdokmnpkihmkpaa.TlbMath Go.Proofs.Ytdokmnpkihmkpaa.Cpu Go.Proofs.Ytdokmnpkihmkpaa.Cpu2 Go.Proofs.Ytdokmnpkihmkpaa.Cpu3 Go.Proofs.Ytdokmnpkihmkpaa.Cpu4 Go.Proofs.Ytdokmnpkihmkpaa.Cpu5 Go.Proofs.Ytdokmnpkihmkpaa.Cpu7 Go.Proofs.Ytdokmnpkihmkpaa.Cpu8 Go.Proofs.Ytdokmnpkihmkpaa.CpuNone

theorem sv_set0 (a b v : Value) (sp : Int) (R : List Int) (pc : Int) : (sv a b sp R pc).setIfInBounds 0 v = sv v b sp R pc := by simp [sv]
theorem sv_set1 (a b v : Value) (sp : Int) (R : List Int) (pc : Int) : (sv a b sp R pc).setIfInBounds 1 v = sv a v sp R pc := by simp [sv]
theorem sv_size (a b : Value) (sp : Int) (R : List Int) (pc : Int) (hR : R.length = 16) : (sv a b sp R pc).size = 20 := by unfold sv; rw [List.size_toArray, List.length_cons, List.length_cons, List.length_cons, cx_len R pc hR]
theorem size_sv (a b : Value) (sp : Int) (R : List Int) (pc : Int) (hR : R.length = 16) : (Try.prog.info? 111).map (·.size) = some (sv a b sp R pc).size := by rw [sv_size _ _ _ _ _ hR]; kernel_rfl
theorem size_s25 : (Try.prog.info? 25).map (·.size) = some 1 := by kernel_rfl
def w4 : Array Value := #[.int .u32 252837888, .int .u32 238157824, .int .u32 289538049, .int .u32 273809409]
def e8 (sp : Int) : Array Value := #[.int .i64 sp, .int .i64 0, .int .i64 0, .bool false, .int .i64 sp, .int .i64 1, .int .i64 2, .bool true]
theorem rf_two {w : World} {g : Nat} {T : TypeId} {sp : Int} (h : Blk w g T (e8 sp)) : RF ev 4 w (some ⟨g, 0, none⟩) 2 (l0 sp) :=
  ⟨rfl, by omega, fun _ => ⟨g, 0, rfl, fun i y hy j v hv => by
    match i, hy with
    | 0, hy =>
      have hy' : (⟨sp, 0, 0, false⟩ : En) = y := by simpa [l0] using hy
      subst hy'
      simp only [Nat.zero_mul, Nat.zero_add]
      rw [h.cell]
      match j, hv with
      | 0, hv => exact hv
      | 1, hv => exact hv
      | 2, hv => exact hv
      | 3, hv => exact hv
      | j + 4, hv => simp [ev] at hv
    | 1, hy =>
      have hy' : (⟨sp, 1, 2, true⟩ : En) = y := by simpa [l0] using hy
      subst hy'
      rw [h.cell]
      match j, hv with
      | 0, hv => exact hv
      | 1, hv => exact hv
      | 2, hv => exact hv
      | 3, hv => exact hv
      | j + 4, hv => simp [ev] at hv
    | i + 2, hy => simp [l0] at hy⟩⟩
theorem rd_four {w : World} {g : Nat} {T : TypeId} (h : Blk w g T w4) : Rd w .u32 (some ⟨g, 0, none⟩) 4 ws :=
  ⟨rfl, by omega, fun _ => ⟨⟨g, 0, none⟩, rfl, fun j hj => by
    have hadd : (⟨g, 0, none⟩ : Addr).add j = ⟨g, j, none⟩ := by
      unfold Addr.add
      split
      · rename_i h0; rw [h0]
      · simp
    rw [hadd, h.cell]
    match j, hj with
    | 0, _ => rfl
    | 1, _ => rfl
    | 2, _ => rfl
    | 3, _ => rfl
    | j + 4, hj => exact absurd hj (by omega)⟩⟩
set_option maxRecDepth 100000 in
set_option maxHeartbeats 8000000 in
theorem main (a b : Value) (sp : Int) (R : List Int) (pc wv at_ : Int) (w : World) (hR : R.length = 16) (hw0 : 0 ≤ wv) (hw1 : wv < 4294967296) (ha0 : 0 ≤ at_) (ha1 : at_ < 4294967296) :
    Calls Try.prog 14 #[.agg (sv a b sp R pc), .int .u32 wv, .int .u32 at_] w fun e w' => e = .returned (.bool true) ∧ Below w.heap.size w w' := by
  have hA := Lib.hid (fun w' => awake_c w')
  have hBoth := Lib.hid (fun w' g1 g2 (k1 : Blk w' g1 28 w4) (k2 : Blk w' g2 58 (e8 sp)) =>
    (put_l0 sp ▸ both_c (some ⟨g1, 0, none⟩) 4 4 ws (some ⟨g2, 0, none⟩) 2 2 (l0 sp) (sv (.slice (some ⟨g1, 0, none⟩) 4 4) (.slice (some ⟨g2, 0, none⟩) 2 2) sp R pc) w' rfl rfl (rd_four k1) (fun a ha _ => by injection ha with ha; subst ha; exact k1.lt) (rf_two k2) : Calls Try.prog 53 _ w' fun r w'' => BothPost w' X0 (l0 sp) w'' r ∧ Below w'.heap.size w' w''))
  obtain ⟨t, ht⟩ : ∃ t, t = (at_ % 16).toNat := ⟨_, rfl⟩
  have ht16 : t < 16 := by omega
  have hS := Lib.hid (fun k (hk : k < 4) x gm gp gt w' C => step_k x gm gp gt sp wv t k hk ht16 hw0 hw1 w' C)
  have m1 : at_.tmod 16 = (t : Int) := by rw [Int.tmod_eq_emod_of_nonneg ha0]; omega
  have m2 : wv.tdiv 256 = wv / 256 := Int.tdiv_eq_ediv_of_nonneg hw0
  have m3 : wv / 256 % 4294967296 = wv / 256 := by omega
  have ht4 : (t : Int) < 16 := by omega
  have hsz := size_sv a b sp R pc hR
  have hlt0 : 0 < (sv a b sp R pc).size := by rw [sv_size _ _ _ _ _ hR]; omega
  have hlt1 : ∀ v, 1 < (sv v b sp R pc).size := fun v => by rw [sv_size _ _ _ _ _ hR]; omega
  have hsz2 := fun u v => size_sv u v sp R pc hR
  have q0 := Lib.hid (sv_set0 a b)
  clear ht
  go_enter Try.func14, Try.ntmps14
  go_upto_region 2 with (first
    | ((with_reducible refine wl_box rfl 111 (.tmp 0) rfl (sv a b sp R pc) rfl ?_); intro w1 k1 b1 s1)
    | (refine at_none rfl ?_; refine wl_set rfl 25 (.tmp 16) (.tmp 15) rfl w.heap.size 0 rfl (.slice (some ⟨w1.heap.size, 0, none⟩) 4 4) rfl rfl 111 (sv a b sp R pc) (k1.below (bl_alloc (bl_refl w1) _)) size_s25 hlt0 ?_; intro w2 k2 g2 s2))
  rw [q0.out] at k2
  have z1 := b1.size
  have kw : Blk w2 w1.heap.size 28 w4 := (Blk.new w1 28 w4).grown g2 (fun e => by injection e with e; omega)
  have B2 := below_grown (bl_alloc b1 (.cells w4 28)) (by have := (bl_alloc b1 (.cells w4 28)).size; omega) g2 (Nat.le_refl _)
  have zw := kw.lt
  have zs := k2.lt
  obtain ⟨gw, hgw⟩ : ∃ gw, gw = w1.heap.size := ⟨_, rfl⟩
  obtain ⟨gs, hgs⟩ : ∃ gs, gs = w.heap.size := ⟨_, rfl⟩
  have B2' := B2
  rw [← hgw] at kw k2 zw ⊢
  rw [← hgs] at k2 zs ⊢
  have hgsw : w.heap.size ≤ gs := by omega
  have ngw : gw ≠ gs := Blk.ne_ kw k2 (by decide)
  clear hgw hgs k1 b1 g2 s1 s2 z1 hlt0 hsz q0 B2
  have c2 : w2.cell? ⟨gs, 2, none⟩ = some (.int .i64 sp) := k2.cellv 2 _ rfl
  obtain ⟨v0, hv0⟩ : ∃ v0, v0 = Value.slice (some ⟨gw, 0, none⟩) 4 4 := ⟨_, rfl⟩
  rw [← hv0] at k2
  have hl1 := hlt1 v0
  have q1 := Lib.hid (sv_set1 v0 b)
  clear hlt1
  go_upto_region 3 with (first
    | (refine at_none rfl ?_; refine wl_set rfl 65 (.tmp 24) (.tmp 23) rfl gs 1 rfl (.slice (some ⟨w2.heap.size, 0, none⟩) 2 2) rfl rfl 111 (sv v0 b sp R pc) (k2.below (bl_alloc (bl_refl w2) _)) size_sl hl1 ?_; intro w3 k3 g3 s3))
  rw [q1.out] at k3
  have ke : Blk w3 w2.heap.size 58 (e8 sp) := (Blk.new w2 58 (e8 sp)).grown g3 (fun e => by injection e with e; omega)
  have kw := (kw.below (bl_alloc (bl_refl w2) (.cells (e8 sp) 58))).grown g3 (fun e => by injection e with e; exact ngw e)
  have B3 := below_grown (bl_alloc B2' (.cells (e8 sp) 58)) (by have := (bl_alloc B2' (.cells (e8 sp) 58)).size; omega) g3 hgsw
  obtain ⟨ge, hge⟩ : ∃ ge, ge = w2.heap.size := ⟨_, rfl⟩
  rw [← hge] at ke k3 ⊢
  clear hge g3 s3 c2 k2 hl1 q1 B2'
  have hB := Lib.hid (hBoth.out w3 gw ge kw ke)
  rw [← hv0] at hB
  obtain ⟨v1, hv1⟩ : ∃ v1, v1 = Value.slice (some ⟨ge, 0, none⟩) 2 2 := ⟨_, rfl⟩
  rw [← hv1] at hB k3
  clear hBoth kw ke hv0 hv1
  have hs2 := hsz2 v0 v1
  have e2 : (sv v0 v1 sp R pc)[2]? = some (.int .i64 sp) := rfl
  clear hsz2
  generalize sv v0 v1 sp R pc = SV at *
  replace e2 := Lib.hid e2
  go_wp2_with (first
    | (refine at_slot 26 rfl ?_; refine wl_load rfl 111 (.tmp 3) rfl gs rfl 111 SV _ k3 Try.underlying111 rfl hs2 ?_))
  refine hB.out.mono ?_
  rintro r w4 ⟨⟨x, gm, gp, gt, gr, rfl, C, x1, x2, x3, x4⟩, b4⟩
  have k4 := k3.below b4
  have B4 := bl_then B3 b4
  have z3 := B3.size
  have x1' : w.heap.size ≤ x := by omega
  have x3' : w.heap.size ≤ gp := by omega
  have x4' : w.heap.size ≤ gt := by omega
  clear k3 b4 hB hs2 x1 x2 x3 x4 B3 z3
  have C0 := Lib.hid C
  clear C
  have m5 : (64 + (t : Int) * 4) % 4294967296 = 64 + (t : Int) * 4 := by omega
  have m6 : (t : Int) * 4 % 4294967296 = (t : Int) * 4 := by omega
  have m7 : (t : Int) % 4294967296 = (t : Int) := by omega
  have m8 : (wv / 256).tmod 256 = wv / 256 % 256 := Int.tmod_eq_emod_of_nonneg (by omega)
  have m9 : wv / 256 % 256 % 4294967296 = wv / 256 % 256 := by omega
  go_upto_region 8 with (first
    | (refine at_slot 32 rfl ?_; refine wl_build0 rfl 109 rfl (cx zR 0).toArray built_cx0 ?_)
    | ((with_reducible refine wl_alloc rfl 109 rfl (cx zR 0).toArray new_cx ?_); intro w5 k5 b5 s5)
    | ((refine wl_store rfl 109 (.tmp 11) (.tmp 32) rfl w4.heap.size rfl (cx zR 0).toArray rfl 109 (cx zR 0).toArray k5 (size_cx zR 0 rfl) rfl (cx_one zR 0) ?_); intro w6 k6 g6 s6)
    | ((refine wl_set rfl 28 (.tmp 35) (.tmp 33) rfl w4.heap.size 1 rfl (.int .u32 wv) rfl rfl 109 (cx zR 0).toArray k6 size_u32' (by decide) ?_); intro w7 k7 g7 s7)
    | ((refine wl_set rfl 28 (.tmp 39) (.tmp 37) rfl w4.heap.size 4 rfl (.int .u32 (wv / 256)) rfl rfl 109 _ k7 size_u32' (by simp [cx, nums, zR]) ?_); intro w8 k8 g8 s8)
    | ((refine wl_set rfl 28 (.tmp 45) (.tmp 43) rfl w4.heap.size 2 rfl (.int .u32 (64 + (t : Int) * 4)) rfl rfl 109 _ k8 size_u32' (by simp [cx, nums, zR]) ?_); intro w9 k9 g9 s9))
  have k9' : Blk w9 w4.heap.size 109 (cx (Rs wv t 0) (4 * ((0 : Nat) : Int))).toArray := k9
  have ngs := Blk.ne_ k4 C0.out.mem.m (by decide)
  have zc := k4.lt
  have l4 := C0.out.lt
  have BE := below_grown (below_grown (below_grown (below_grown b5 b5.size g6 (Nat.le_refl _)) (Nat.le_trans b5.size s6) g7 (Nat.le_refl _)) (Nat.le_trans (Nat.le_trans b5.size s6) s7) g8 (Nat.le_refl _)) (Nat.le_trans (Nat.le_trans (Nat.le_trans b5.size s6) s7) s8) g9 (Nat.le_refl _)
  have C9 := C0.out.below BE
  have kS := k4.below BE
  have B9 := bl_then B4 BE
  obtain ⟨gc, hgc⟩ : ∃ gc, gc = w4.heap.size := ⟨_, rfl⟩
  have hgcw : w.heap.size ≤ gc := by have := B4.size; omega
  rw [← hgc] at k9' ⊢
  clear hgc k5 k6 k7 k8 k9 g6 g7 g8 g9 b5 s5 s6 s7 s8 s9 C0 k4 BE B4 l4 ngs zc m1 m5 m6 m7
  have C9' := Lib.hid C9
  clear C9
  go_wp2_with fail
  go_loopw [12] (fun i wr => ∃ k : Nat, k ≤ 4 ∧ i = .int .i64 k ∧ CS wr x gm gp gt 4 (Xs wv t k) (l0 sp) 0 ∧ Blk wr gc 109 (cx (Rs wv t k) (4 * ((k : Nat) : Int))).toArray ∧ Blk wr gs 111 SV ∧ Below w.heap.size w wr) (fun i _ => 4 - (intOf i).toNat)
  case atStart => exact ⟨0, by omega, rfl, C9'.out, k9', kS, B9⟩
  case round =>
    clear C9' k9' kS B9
    obtain ⟨k, hk, rfl, C, KC, KS, HB⟩ := hrel
    obtain ⟨wo, rfl⟩ : ∃ wo : World, wo = wr := ⟨_, rfl⟩
    by_cases hlt : k < 4
    · have hq : decide ((k : Int) < 4) = true := by simp; omega
      have hSt := Lib.hid (hS.out k hlt x gm gp gt wo C)
      have c2 : wo.cell? ⟨gs, 2, none⟩ = some (.int .i64 sp) := KS.cellv 2 _ e2.out
      have hz1 := size_cx (Rs wv t k) (4 * ((k : Nat) : Int)) (rs_len _ _ _)
      have hz2 := size_cx (Rs wv t (k + 1)) (4 * ((k + 1 : Nat) : Int)) (rs_len _ _ _)
      have ho2 := Lib.hid (cx_one (Rs wv t (k + 1)) (4 * ((k + 1 : Nat) : Int)))
      have hl1 : (cx (Rs wv t k) (4 * ((k : Nat) : Int))).toArray.size = 17 := by rw [List.size_toArray, cx_len _ _ (rs_len _ _ _)]
      have hl2 : (cx (Rs wv t (k + 1)) (4 * ((k + 1 : Nat) : Int))).toArray.size = 17 := by rw [List.size_toArray, cx_len _ _ (rs_len _ _ _)]
      have n1 : gc ≠ x := fun h => tb_ne C.t KC (by decide) h.symm
      have n2 : gc ≠ gt := Blk.ne_ KC C.tlb (by decide)
      have n3 : gc ≠ gp := Blk.ne_ KC C.mem.p (by decide)
      have n4 : gs ≠ x := fun h => tb_ne C.t KS (by decide) h.symm
      have n5 : gs ≠ gt := Blk.ne_ KS C.tlb (by decide)
      have n6 : gs ≠ gp := Blk.ne_ KS C.mem.p (by decide)
      have n7 : gc ≠ gs := Blk.ne_ KC KS (by decide)
      have n8 : gc ≠ gm := Blk.ne_ KC C.mem.m (by decide)
      unfold StepPost at hSt
      obtain ⟨cn, hcn⟩ : ∃ cn, cn = (cx (Rs wv t (k + 1)) (4 * ((k + 1 : Nat) : Int))).toArray := ⟨_, rfl⟩
      rw [← hcn] at hSt hz2 ho2 hl2
      have hKC : ∀ w', Blk w' gc 109 cn → Blk w' gc 109 (cx (Rs wv t (k + 1)) (4 * ((k + 1 : Nat) : Int))).toArray := fun w' h => by rw [← hcn]; exact h
      replace hKC := Lib.hid hKC
      generalize (cx (Rs wv t k) (4 * ((k : Nat) : Int))).toArray = co at *
      clear hcn C
      go_wp2_with (first
        | (refine at_slot 54 rfl ?_; refine wl_load rfl 109 (.tmp 11) rfl gc rfl 109 co _ KC Try.underlying109 rfl hz1 ?_))
      refine hSt.out.mono ?_
      rintro r w5 ⟨rfl, C5, O5⟩
      have KC := Out.Blk.out KC O5 (fun h => by rcases h with h | h | h; exact n1 h; exact n2 h; exact n3 h)
      have KS := Out.Blk.out KS O5 (fun h => by rcases h with h | h | h; exact n4 h; exact n5 h; exact n6 h)
      have HB := O5.below HB HB.size (fun i h => by rcases h with h | h | h <;> omega)
      have C5' := Lib.hid C5
      have zc := KC.lt
      have zs := KS.lt
      clear hSt O5 C5 c2
      go_wp2_with (first
        | ((with_reducible refine wl_alloc rfl 109 rfl (cx zR 0).toArray new_cx ?_); intro w6 k6 b6 s6)
        | ((with_reducible refine wl_alloc rfl 117 rfl (tr (d0 0 [] 0)).toArray new_tr ?_); intro w7 k7 b7 s7; have k6 := k6.below b7)
        | ((refine wl_store rfl 109 (.tmp 13) (.tmp 56) rfl w5.heap.size rfl cn rfl 109 (cx zR 0).toArray k6 hz2 (by rw [hl2]; rfl) ho2.out ?_); intro w8 k8 g8 s8)
        | ((refine wl_store rfl 117 (.tmp 14) (.tmp 57) rfl w6.heap.size rfl (trc 0) rfl 117 (tr (d0 0 [] 0)).toArray (k7.grown g8 (fun e => by injection e with e; omega)) (size_trc 0) rfl (trc_one 0) ?_); intro w9 k9 g9 s9; have k8 := k8.grown g9 (fun e => by injection e with e; omega); have t0 : w9.cell? ⟨w6.heap.size, 0, none⟩ = some (.int .i64 0) := k9.cellv 0 _ rfl; have BE := below_grown (below_grown (bl_then b6 b7) (bl_then b6 b7).size g8 (Nat.le_refl _)) (Nat.le_trans (bl_then b6 b7).size s8) g9 b6.size; have KC := KC.below BE)
        | (refine at_slot 61 rfl ?_; refine wl_load rfl 109 (.tmp 13) rfl w5.heap.size rfl 109 cn _ k8 Try.underlying109 rfl hz2 ?_)
        | (refine at_none rfl ?_; (refine wl_store rfl 109 (.tmp 11) (.tmp 61) rfl gc rfl cn rfl 109 co KC hz2 (by rw [hl1, hl2]) ho2.out ?_); intro w10 k10 g10 s10))
      have KS := (KS.below BE).grown g10 (fun e => by injection e with e; exact n7 e.symm)
      have O10 := Out.of_grown g10 (S := fun i => i = gc) (fun k e => by injection e with e; exact e.symm)
      have C10 := (C5'.out.below BE).out O10 n1.symm n8.symm n3.symm n2.symm
      have HB := O10.below (bl_then HB BE) (bl_then HB BE).size (fun i h => by omega)
      have KC10 := hKC.out _ k10
      clear t0 k6 k7 k8 k9 g8 g9 b6 b7 g10 k10 KC O10 C5' BE
      go_roundw
      case rel => exact ⟨k + 1, by omega, by go_num, C10, KC10, KS, HB⟩
      case measure => first | (simp [intOf]; done) | (simp [intOf]; omega)
    · have hq : decide ((k : Int) < 4) = false := by simp; omega
      obtain rfl : k = 4 := by omega
      have c3 : wo.cell? ⟨gc, 3, none⟩ = some (.int .u32 wv) := KC.cellv 3 _ rfl
      have c5 : wo.cell? ⟨gc, 5, none⟩ = some (.int .u32 (wv / 256 % 256)) := KC.cellv 5 _ rfl
      have c16 : wo.cell? ⟨gc, 16, none⟩ = some (.int .u32 16) := KC.cellv 16 _ rfl
      clear C KC KS hS e2
      go_wp2_with fail
      refine (hA.out _).mono ?_
      rintro r wz ⟨rfl, bz⟩
      go_wp2_with fail
      go_ret
      exact ⟨rfl, bl_then HB bz⟩
def Arg (i : Nat) (w : World) (v : Value) : Prop := CpuNone.Start w v
set_option maxRecDepth 100000 in
theorem arg0 {H : Type} {enc : TypeId × Value → H} {W : World} {base : Nat} {v : Value} {d : DataW H} {p : List MemPlace} (hv : Value.okWide Try.prog W .any base 111 v)
    (h : DataW.Trod enc Try.prog W 0 (fun _ => true) true 111 v d p) : Arg 0 W v := start_of hv h
theorem u32_range {x : Int} (h : (Lit.int .u32 x).wf = true) : 0 ≤ x ∧ x < 4294967296 := wf_u32_range h
theorem walk (v : Value) (a1 a2 : Int) (w : World) (h0 : Arg 0 w v) (h1 : (Lit.int .u32 a1).wf = true) (h2 : (Lit.int .u32 a2).wf = true) :
    Calls Try.prog 14 #[v, .int .u32 a1, .int .u32 a2] w fun e w' => e = .returned (.bool true) ∧ Below w.heap.size w w' := by
  obtain ⟨A, n, c, A2, n2, c2, sp, R, pc, rfl, hR, _⟩ := h0
  have r1 := wf_u32_range h1
  have r2 := wf_u32_range h2
  exact main _ _ sp R pc a1 a2 w hR r1.1 r1.2 r2.1 r2.2
end Go.Proofs.Ytdokmnpkihmkpaa.CpuStores
