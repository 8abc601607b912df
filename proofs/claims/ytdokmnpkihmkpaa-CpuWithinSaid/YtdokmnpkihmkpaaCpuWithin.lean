/- The law CpuWithin. -/
import Derived.Test.YtdokmnpkihmkpaaCpuG
import Derived.Test.YtdokmnpkihmkpaaCpuNone
import Derived.Test.YtdokmnpkihmkpaaFrames10
set_option linter.unusedVariables false
namespace Go.Proofs.Ytdokmnpkihmkpaa.CpuWithin
open Go.RowKit Go.ChangeShapes Go.WideShapes Go.Deep Go.Proofs.Ytdokmnpkihmkpaa.Base Go.Proofs.Ytdokmnpkihmkpaa.Row Go.Proofs.Ytdokmnpkihmkpaa.App Go.Proofs.Ytdokmnpkihmkpaa.Multi Go.Proofs.Ytdokmnpkihmkpaa.StEq Go.Proofs.Ytdokmnpkihmkpaa.Held Go.Proofs.Ytdokmnpkihmkpaa.Out Go.Proofs.Ytdokmnpkihmkpaa.HeldW Go.Proofs.Ytdokmnpkihmkpaa.HeldX Go.Proofs.Ytdokmnpkihmkpaa.TlbMath Go.Proofs.Ytdokmnpkihmkpaa.Tlb Go.Proofs.Ytdokmnpkihmkpaa.Tlb3 Go.Proofs.Ytdokmnpkihmkpaa.Frames Go.Proofs.Ytdokmnpkihmkpaa.Frames2 Go.Proofs.Ytdokmnpkihmkpaa.Frames4 Go.Proofs.Ytdokmnpkihmkpaa.Frames9 Go.Proofs.Ytdokmnpkihmkpaa.Frames10 Go.Proofs.Ytdokmnpkihmkpaa.Cpu Go.Proofs.Ytdokmnpkihmkpaa.Cpu2 Go.Proofs.Ytdokmnpkihmkpaa.Cpu3 Go.Proofs.Ytdokmnpkihmkpaa.Cpu4 Go.Proofs.Ytdokmnpkihmkpaa.Cpu5 Go.Proofs.Ytdokmnpkihmkpaa.CpuNone Go.Proofs.Ytdokmnpkihmkpaa.CpuC Go.Proofs.Ytdokmnpkihmkpaa.CpuF Go.Proofs.Ytdokmnpkihmkpaa.CpuG

theorem size_sv (a b : Value) (sp : Int) (R : List Int) (pc : Int) (h : R.length = 16) : (Try.prog.info? 111).map (·.size) = some (sv a b sp R pc).size := by
  unfold sv
  rw [List.size_toArray, List.length_cons, List.length_cons, List.length_cons, cx_len R pc h]
  kernel_rfl
set_option maxRecDepth 100000 in
set_option maxHeartbeats 8000000 in
theorem main (A : Option Addr) (n c : Nat) (A2 : Option Addr) (n2 c2 : Nat) (sp : Int) (R : List Int) (pc : Int) (xs : List Int) (es : List En) (w : World) (hR : R.length = 16) (hx : Rd w .u32 A n xs) (hxa : ∀ a, A = some a → 0 < n → a.block < w.heap.size) (he : RF ev 4 w A2 n2 es)
    (hxr : ∀ x ∈ xs, 0 ≤ x ∧ x < 4294967296) (hRr : ∀ x ∈ R, 0 ≤ x ∧ x < 4294967296) (h0 : 0 ≤ pc) (h1 : pc < 4294967296) :
    Calls Try.prog 13 #[.agg (sv (.slice A n c) (.slice A2 n2 c2) sp R pc)] w fun e w' => e = .returned (.bool true) ∧ Below w.heap.size w w' := by
  have hr := fun i => getD_mem_range hRr ⟨by omega, by omega⟩ i
  have hx0 := fun i => getD_mem_range hxr ⟨by omega, by omega⟩ i
  obtain ⟨X, hXe⟩ : ∃ X, X = Cpu4.lay xs (min n 64) := ⟨_, rfl⟩
  obtain ⟨l, hle⟩ : ∃ l, l = putN es (min n2 12) := ⟨_, rfl⟩
  have hXl : X.length = 64 := by rw [hXe]; exact lay_len _ _
  have hU : Uni l := by rw [hle]; exact putN_uni _ _
  have hX : ∀ i : Nat, 0 ≤ X[i]?.getD 0 ∧ X[i]?.getD 0 < 4294967296 := fun i => by
    rcases Nat.lt_or_ge i 64 with h | h
    · rw [hXe, lay_get _ _ _ h]
      show 0 ≤ (if i < min n 64 then xs[i]?.getD 0 else 0) ∧ (if i < min n 64 then xs[i]?.getD 0 else 0) < 4294967296
      split
      · exact hx0 i
      · omega
    · rw [List.getElem?_eq_none (by omega)]
      show (0 : Int) ≤ 0 ∧ (0 : Int) < 4294967296
      omega
  have hBoth : Hid (∀ w', Below w.heap.size w w' → Calls Try.prog 53 #[.agg (sv (.slice A n c) (.slice A2 n2 c2) sp R pc)] w' fun r w'' => BothPost w' X l w'' r ∧ Below w'.heap.size w' w'') := Lib.hid (by
    rw [hXe, hle]
    exact fun w' b => both_c A n c xs A2 n2 c2 es _ w' rfl rfl (hx.below b) (fun a h h' => Nat.lt_of_lt_of_le (hxa a h h') b.size) (he.below b))
  have hStep := Lib.hid (fun x gm gp gt w' C => step_c x gm gp gt 4 X l 0 sp R pc w' C hU.1 hR hr hX h0 h1)
  have hTw := Lib.hid (fun gm gp w' h => twin_c gm gp 4 X w' h (by omega))
  have hAll := Lib.hid (fun gt m w' h => all_c gt l m w' h hU.1)
  have hA := Lib.hid (fun w' => Cpu5.awake_c w')
  have hcs := size_cx R pc hR
  have hcl := size_cxl R pc hR
  have hsv := size_sv (.slice A n c) (.slice A2 n2 c2) sp R pc hR
  have hmid := Lib.hid (sv_cx (.slice A n c) (.slice A2 n2 c2) sp R pc)
  have hq1 := Lib.hid (fun w' => eq_cx R pc hR w')
  have e2 : (sv (.slice A n c) (.slice A2 n2 c2) sp R pc)[2]? = some (.int .i64 sp) := rfl
  have hl8 := hU.1
  have hXh := Lib.hid hXl
  have hRh := Lib.hid hR
  generalize sv (.slice A n c) (.slice A2 n2 c2) sp R pc = SV at *
  replace e2 := Lib.hid e2
  obtain ⟨lR, hlR⟩ : ∃ lR, lR = cx R pc := ⟨_, rfl⟩
  rw [← hlR] at hcs hcl hmid hq1
  have hlRh := Lib.hid hlR
  have hStep2 : Hid (∀ x gm gp gt w' (C : CS w' x gm gp gt 4 X l 0), Calls Try.prog 54 #[.pointer (some ⟨x, 0, none⟩), .int .i64 sp, .agg lR.toArray] w' fun r w'' => StepOk x gm gp gt 4 X l sp R pc w' w'' r) := Lib.hid (by rw [hlR]; exact hStep.out)
  clear hx hxa he hxr hRr hr hx0 hXe hle hX hU hXl hR hlR hStep h0 h1
  go_enter Try.func13, Try.ntmps13
  go_wp2_with (first
    | ((with_reducible refine wl_box rfl 111 _ rfl SV rfl ?_); intro w1 k1 b1 s1)
    | (refine at_slot 19 rfl ?_; refine wl_load rfl 111 (.tmp 1) rfl w.heap.size rfl 111 SV _ k1 Try.underlying111 rfl hsv ?_))
  refine (hBoth.out w1 b1).mono ?_
  rintro r w2 ⟨⟨x, gm, gp, gt, gr, rfl, C, x1, x2, x3, x4⟩, b2⟩
  have k2 := k1.below b2
  have B2 := bl_then b1 b2
  have z1 := b1.size
  have zs := k1.lt
  obtain ⟨y1, y2, y3, y4⟩ : w.heap.size < x ∧ w.heap.size < gm ∧ w.heap.size < gp ∧ w.heap.size < gt := by omega
  obtain ⟨l1, l2, l3, l4⟩ := C.lt
  have hTw2 := Lib.hid (hTw.out gm gp w2 C.mem)
  have CH := Lib.hid C
  clear k1 b1 b2 hBoth hTw s1 x1 x2 x3 x4 C
  go_wp2_with fail
  refine hTw2.out.mono ?_
  rintro r w3 ⟨⟨g2, gp2, c3, rfl, p1, p2, HT⟩, b3⟩
  have k3 := k2.below b3
  have C3 := Lib.hid (CH.out.below b3)
  have B3 := bl_then B2 b3
  have hTh := Lib.hid HT
  have c2 : w3.cell? ⟨w.heap.size, 2, none⟩ = some (.int .i64 sp) := k3.cellv 2 _ e2.out
  clear k2 b3 B2 hTw2 CH HT
  go_wp2_with (first
    | (refine at_slot 32 rfl ?_; refine wl_load_mid rfl 109 (.tmp 31) rfl w.heap.size 3 rfl 111 SV lR _ k3 hmid.out Try.underlying109 rfl hcl ?_))
  refine (hStep2.out x gm gp gt w3 C3.out).mono ?_
  rintro r w4 ⟨R2, pc2, de, X2, m2, rfl, h2R, C4, O4, hok, htt⟩
  have HT4 := Lib.hid (CpuG.Mt.out hTh.out O4 (fun h => by omega) (fun h => by omega))
  have k4 := Out.Blk.out k3 O4 (fun h => by omega)
  have B4 := O4.below B3 B3.size (fun i h => by omega)
  have C4' := Lib.hid C4
  have hokh := Lib.hid hok
  have htth := Lib.hid htt
  have hz2 := size_cx R2 pc2 h2R
  have ho2 := Lib.hid (cx_one R2 pc2)
  have hl2 : (cx R2 pc2).toArray.size = (cx zR 0).toArray.size := by rw [List.size_toArray, List.size_toArray, cx_len R2 pc2 h2R]; rfl
  obtain ⟨cn, hcn⟩ : ∃ cn, cn = (cx R2 pc2).toArray := ⟨_, rfl⟩
  rw [← hcn] at hz2 ho2 hl2 ⊢
  have hcnh := Lib.hid hcn
  clear k3 B3 hTh C3 O4 C4 hok htt hcn hStep2 c2
  go_wp2_with (first
    | ((with_reducible refine wl_alloc rfl 109 rfl (cx zR 0).toArray new_cx ?_); intro w5 k5 b5 s5)
    | ((with_reducible refine wl_alloc rfl 117 rfl (tr (d0 0 [] 0)).toArray new_tr ?_); intro w6 k6 b6 s6; have k5 := k5.below b6)
    | ((refine wl_store rfl 109 (.tmp 8) (.tmp 34) rfl w4.heap.size rfl cn rfl 109 (cx zR 0).toArray k5 hz2 hl2.symm ho2.out ?_); intro w7 k7 g7 s7)
    | ((refine wl_store rfl 117 (.tmp 9) (.tmp 35) rfl w5.heap.size rfl (tr de).toArray rfl 117 (tr (d0 0 [] 0)).toArray (k6.grown g7 (fun e => by injection e with e; omega)) (size_tr _) rfl (tr_one _) ?_); intro w8 k8 g8 s8; have k7 := k7.grown g8 (fun e => by injection e with e; omega)))
  have BE := below_grown (below_grown (bl_then b5 b6) (bl_then b5 b6).size g7 (Nat.le_refl _)) (Nat.le_trans (bl_then b5 b6).size s7) g8 b5.size
  have C8 := C4'.out.below BE
  refine (hAll.out gt m2 w8 C8.tlb).mono ?_
  rintro r w9 ⟨⟨A1, c1, rfl, HO⟩, b9⟩
  have RL := Lib.hid (RF.of_own ev_len (by decide) HO)
  have CM := Lib.hid (C8.mem.below b9)
  have TM := Lib.hid ((HT4.out.below BE).below b9)
  have KS := (k4.below BE).below b9
  have KC := k7.below b9
  have KT := k8.below b9
  have B9 := bl_then (bl_then B4 BE) b9
  obtain ⟨gc, hgc⟩ : ∃ gc, gc = w4.heap.size := ⟨_, rfl⟩
  obtain ⟨gt9, hgt9⟩ : ∃ gt9, gt9 = w5.heap.size := ⟨_, rfl⟩
  rw [← hgc] at KC ⊢
  rw [← hgt9] at KT ⊢
  have hX2l : Hid (X2.length = 64) := Lib.hid (by rw [okx_len hokh.out]; exact hXh.out)
  have hnm : Hid (∀ f : Nat, f < 4 → pgAt X2 f ≠ pgAt X f → nmk l sp f l.length = true) := Lib.hid (fun f hf hne => named hokh.out (by rw [hXh.out]) f hf hne)
  obtain ⟨L, hL⟩ : ∃ L, l.length = L := ⟨_, rfl⟩
  rw [hL] at hl8 hnm RL ⊢
  have hLh := Lib.hid hL
  clear hgc hgt9 hL k4 k5 k6 k7 k8 g7 g8 b5 b6 s5 s6 s7 s8 b9 HO C8 C4' HT4 BE B4 hAll l1 l2 l3 l4 p1 p2 y1 y2 y3 y4 z1
  go_wp2_with fail
  go_loopw [11] (fun i wr => ∃ f : Nat, f ≤ 4 ∧ i = .int .i64 f ∧ Below w9.heap.size w9 wr) (fun i _ => 4 - (intOf i).toNat)
  case atStart => exact ⟨0, by omega, rfl, bl_refl _⟩
  case round =>
    obtain ⟨f, hf, rfl, HBf⟩ := hrel
    obtain ⟨wf, rfl⟩ : ∃ wf : World, wf = wr := ⟨_, rfl⟩
    by_cases hlt : f < 4
    · have hq : decide ((f : Int) < 4) = true := by simp; omega
      have KSh := Lib.hid KS
      have KCh := Lib.hid KC
      have KTh := Lib.hid KT
      clear KS KC KT
      go_wp2_with fail
      go_loopw [12, 13] (fun nm i wr => ∃ k : Nat, k ≤ L ∧ nm = .bool (nmk l sp f k) ∧ i = .int .i64 k ∧ Below w9.heap.size w9 wr) (fun _ i _ => L - (intOf i).toNat)
      case atStart => exact ⟨0, by omega, by rw [nmk_zero], rfl, HBf⟩
      case round =>
        clear HBf
        obtain ⟨k, hk, rfl, rfl, HBk⟩ := hrel
        obtain ⟨wk, rfl⟩ : ∃ wk : World, wk = wr := ⟨_, rfl⟩
        by_cases hkL : k < L
        · have hq1 : decide ((k : Int) < (L : Int)) = true := by simp; omega
          have hkLi : (k : Int) < (L : Int) := by omega
          obtain ⟨g, o, e, rfl, hek, hcells⟩ := (RL.out.below HBk).at_ k hkL
          obtain ⟨q0, q1, q2, q3⟩ := range4 hcells
          have hs := Lib.hid (nmk_succ (sp := sp) (f := (f : Int)) hek)
          have c2 : wk.cell? ⟨w.heap.size, 2, none⟩ = some (.int .i64 sp) := (KSh.out.below HBk).cellv 2 _ e2.out
          have hnq : Hid (nq sp f e = (e.f == (f : Int) && e.w && e.s == sp)) := Lib.hid rfl
          clear hcells hek
          cases hn : nmk l sp f k with
          | true =>
            have hs' := Lib.hid (show nmk l sp f (k + 1) = true by rw [hs.out, hn]; rfl)
            clear hn
            go_wp2_with fail
            go_quiet (fail)
            go_wp2_with fail
            go_roundw
            case rel => exact ⟨k + 1, by omega, by rw [hs'.out], by go_num, bl_drewN HBk _⟩
            case measure => first | (simp [intOf]; done) | (simp [intOf]; omega)
          | false =>
            have hs1 := Lib.hid (show nmk l sp f (k + 1) = (e.f == (f : Int) && e.w && e.s == sp) by rw [hs.out, hn, hnq.out]; simp)
            clear hn
            cases hf1 : (e.f == (f : Int)) with
            | false =>
              have hs' := Lib.hid (show nmk l sp f (k + 1) = false by rw [hs1.out, hf1]; rfl)
              go_wp2_with fail
              go_quiet (fail)
              go_wp2_with fail
              go_roundw
              case rel => exact ⟨k + 1, by omega, by rw [hs'.out], by go_num, bl_drewN HBk _⟩
              case measure => first | (simp [intOf]; done) | (simp [intOf]; omega)
            | true =>
              cases hw1 : e.w with
              | false =>
                have hs' := Lib.hid (show nmk l sp f (k + 1) = false by rw [hs1.out, hf1, hw1]; rfl)
                rw [hw1] at q3
                go_wp2_with fail
                go_quiet (fail)
                go_wp2_with fail
                go_roundw
                case rel => exact ⟨k + 1, by omega, by rw [hs'.out], by go_num, bl_drewN HBk _⟩
                case measure => first | (simp [intOf]; done) | (simp [intOf]; omega)
              | true =>
                rw [hw1] at q3
                cases hsp1 : (e.s == sp) with
                | false =>
                  have hs' := Lib.hid (show nmk l sp f (k + 1) = false by rw [hs1.out, hf1, hw1, hsp1]; rfl)
                  go_wp2_with fail
                  go_quiet (fail)
                  go_wp2_with fail
                  go_roundw
                  case rel => exact ⟨k + 1, by omega, by rw [hs'.out], by go_num, bl_drewN HBk _⟩
                  case measure => first | (simp [intOf]; done) | (simp [intOf]; omega)
                | true =>
                  have hs' := Lib.hid (show nmk l sp f (k + 1) = true by rw [hs1.out, hf1, hw1, hsp1]; rfl)
                  go_wp2_with fail
                  go_quiet (fail)
                  go_wp2_with fail
                  go_roundw
                  case rel => exact ⟨k + 1, by omega, by rw [hs'.out], by go_num, bl_drewN HBk _⟩
                  case measure => first | (simp [intOf]; done) | (simp [intOf]; omega)
        · obtain rfl : k = L := by omega
          have hq1 : decide ((k : Int) < (k : Int)) = false := by simp
          have hnf := Lib.hid (hnm.out f hlt)
          have hP1 := Lib.hid (fun w' h => page_yes gm gp 4 f X2 w' h hlt)
          have hP2 := Lib.hid (fun w' h => tpage_c g2 gp2 4 c3 f X w' h hlt)
          have hl1 := pgAt_len X2 4 f hX2l.out hlt
          have hl2' := pgAt_len X 4 f hXh.out hlt
          generalize pgAt X2 f = P1 at *
          generalize pgAt X f = P2 at *
          have hep := Lib.hid (fun w' => eqp P1 P2 hl1 hl2' w')
          have hs1 := size_pg P1 hl1
          have hs2 := size_pg P2 hl2'
          have ho1 := Lib.hid (pg_one P1)
          have ho3 := Lib.hid (pg_one P2)
          have hz1 : (pg z16).size = (pg P1).size := by rw [pg_size, pg_size, hl1]; rfl
          have hz3 : (pg z16).size = (pg P2).size := by rw [pg_size, pg_size, hl2']; rfl
          obtain ⟨nb, hnb⟩ : ∃ nb, nmk l sp f k = nb := ⟨_, rfl⟩
          rw [hnb] at hnf ⊢
          have hbq : Hid ((P1 == P2) = true ∨ ((P1 == P2) = false ∧ nb = true)) := Lib.hid (by
            rcases Decidable.em (P1 = P2) with h | h
            · exact .inl (by simpa using h)
            · exact .inr ⟨by simpa using h, hnf.out h⟩)
          clear hnb hnf hl1 hl2'
          go_wp2_with fail
          refine (hP1.out wk (CM.out.below HBk)).mono ?_
          rintro r wa ⟨rfl, ba⟩
          have HBa := bl_then HBk ba
          clear ba HBk
          go_wp2_with (first
            | ((with_reducible refine wl_alloc rfl 40 rfl (pg z16) new_p ?_); intro wb kb bb sb)
            | ((refine wl_store rfl 40 (.tmp 14) (.tmp 79) rfl wa.heap.size rfl (pg P1) rfl 40 (pg z16) kb hs1 hz1 ho1.out ?_); intro wc kc gc2 sc))
          have BEc := below_grown bb bb.size gc2 (Nat.le_refl _)
          have HBc := bl_then HBa BEc
          obtain ⟨ga, hga⟩ : ∃ ga, ga = wa.heap.size := ⟨_, rfl⟩
          rw [← hga] at kc ⊢
          clear hga kb bb gc2 sb sc BEc HBa
          refine (hP2.out wc (TM.out.below HBc)).mono ?_
          rintro r wd ⟨rfl, bd⟩
          have kd := kc.below bd
          have zd := kd.lt
          have HBd := bl_then HBc bd
          clear bd HBc kc
          go_upto_region 15 with (first
            | ((with_reducible refine wl_alloc rfl 40 rfl (pg z16) new_p ?_); intro we ke be se; have kd := kd.below be)
            | ((refine wl_store rfl 40 (.tmp 16) (.tmp 85) rfl wd.heap.size rfl (pg P2) rfl 40 (pg z16) ke hs2 hz3 ho3.out ?_); intro wg kg gg sg; have kd := kd.grown gg (fun e => by injection e with e; omega)))
          have BEg := below_grown be be.size gg (Nat.le_refl _)
          have HBg := bl_then HBd BEg
          obtain ⟨gb, hgb⟩ : ∃ gb, gb = wd.heap.size := ⟨_, rfl⟩
          rw [← hgb] at kg ⊢
          clear hgb zd ke be gg se sg BEg HBd hP1 hP2
          rcases hbq.out with hb | ⟨hb, hb2⟩
          · rw [hb] at hep
            clear hb hbq
            go_wp2_with (first
              | (refine at_slot 87 rfl ?_; refine wl_load rfl 40 (.tmp 14) rfl ga rfl 40 (pg P1) _ kd Try.underlying40 rfl hs1 ?_)
              | (refine at_slot 88 rfl ?_; refine wl_load rfl 40 (.tmp 16) rfl gb rfl 40 (pg P2) _ kg Try.underlying40 rfl hs2 ?_)
              | (refine wl_neq rfl 40 (.tmp 87) (.tmp 88) 40 rfl (pg P1) (pg P2) rfl rfl (by kernel_rfl) true (hep.out _) ?_))
            go_roundw
            case rel => exact ⟨f + 1, by omega, by go_num, HBg⟩
            case measure => first | (simp [intOf]; done) | (simp [intOf]; omega)
          · rw [hb] at hep
            subst hb2
            clear hb hbq
            go_wp2_with (first
              | (refine at_slot 87 rfl ?_; refine wl_load rfl 40 (.tmp 14) rfl ga rfl 40 (pg P1) _ kd Try.underlying40 rfl hs1 ?_)
              | (refine at_slot 88 rfl ?_; refine wl_load rfl 40 (.tmp 16) rfl gb rfl 40 (pg P2) _ kg Try.underlying40 rfl hs2 ?_)
              | (refine wl_neq rfl 40 (.tmp 87) (.tmp 88) 40 rfl (pg P1) (pg P2) rfl rfl (by kernel_rfl) false (hep.out _) ?_))
            go_roundw
            case rel => exact ⟨f + 1, by omega, by go_num, HBg⟩
            case measure => first | (simp [intOf]; done) | (simp [intOf]; omega)
    · have hq : decide ((f : Int) < 4) = false := by simp; omega
      obtain ⟨tc, htc⟩ : ∃ tc, de.tc = tc := ⟨_, rfl⟩
      have KT9 := KT.below HBf
      have KC9 := KC.below HBf
      have KS9 := KS.below HBf
      have CM9 := Lib.hid (CM.out.below HBf)
      have TM9 := Lib.hid (TM.out.below HBf)
      have c0 : wf.cell? ⟨gt9, 0, none⟩ = some (.int .i64 tc) := KT9.cellv 0 _ (by rw [← htc]; rfl)
      have HB := bl_then B9 HBf
      have hokh2 := Lib.hid hokh.out
      clear KT KC KS CM TM HBf KT9 B9 RL hnm
      rcases Decidable.em (tc = 0) with t0 | t0
      · have q1 : (tc != 0) = false := by simpa using t0
        clear htc t0 hokh
        go_wp2_with fail
        refine (hA.out _).mono ?_
        rintro r wz ⟨rfl, bz⟩
        go_wp2_with fail
        go_ret
        exact ⟨rfl, bl_then HB bz⟩
      · have q1 : (tc != 0) = true := by simpa using t0
        rcases Decidable.em (tc = 6) with t6 | t6
        · have q2 : (tc != 6) = false := by simpa using t6
          clear htc t0 t6 hokh
          go_wp2_with fail
          refine (hA.out _).mono ?_
          rintro r wz ⟨rfl, bz⟩
          go_wp2_with fail
          go_ret
          exact ⟨rfl, bl_then HB bz⟩
        · have q2 : (tc != 6) = true := by simpa using t6
          have hX2 : X2 = X := by
            rcases hokh.out with h | ⟨h, _⟩
            · exact h
            · rw [htc] at h; exact absurd h t0
          obtain ⟨hR2, hpc2⟩ := htth.out (by rw [htc]; exact t0) (by rw [htc]; exact t6)
          have hcn2 : cn = lR.toArray := by rw [hcnh.out, hlRh.out, hR2, hpc2]
          subst hcn2
          rw [hX2] at CM9
          have hOth := Lib.hid (others_c gm gp g2 gp2 4 c3 X X none 0 0 [] wf CM9.out TM9.out (Rd.nil _ _ _) true ⟨fun _ => fun i hi _ => rfl, fun _ => rfl⟩)
          clear htc t0 t6 hokh hX2 hR2 hpc2 hokh2
          go_wp2_with (first
            | (refine wl_load_on rfl 109 (.tmp 8) rfl gc rfl 109 lR.toArray _ KC9 Try.underlying109 rfl hcs ?hop ?_; case hop => exact ⟨_, _, rfl, rfl, rfl⟩)
            | (refine wl_load_mid_on rfl 109 (.tmp 104) rfl w.heap.size 3 rfl 111 SV lR _ KS9 hmid.out Try.underlying109 rfl hcl ?hop ?_; case hop => exact ⟨_, _, rfl, rfl, rfl⟩)
            | (refine wl_neq_on rfl ?hop 109 (.tmp 103) (.tmp 105) 109 rfl lR.toArray lR.toArray rfl rfl (by kernel_rfl) true (hq1.out _) ?_; case hop => exact ⟨_, _, rfl, rfl, rfl⟩))
          refine hOth.out.mono ?_
          rintro r wy ⟨rfl, by_⟩
          have HB := bl_then HB by_
          go_wp2_with fail
          refine (hA.out _).mono ?_
          rintro r wz ⟨rfl, bz⟩
          go_wp2_with fail
          go_ret
          exact ⟨rfl, bl_then HB bz⟩
def Arg (i : Nat) (w : World) (v : Value) : Prop := CpuNone.Start w v
set_option maxRecDepth 100000 in
theorem arg0 {H : Type} {enc : TypeId × Value → H} {W : World} {base : Nat} {v : Value} {d : DataW H} {p : List MemPlace} (hv : Value.okWide Try.prog W .any base 111 v)
    (h : DataW.Trod enc Try.prog W 0 (fun _ => true) true 111 v d p) : Arg 0 W v := start_of hv h
theorem walk (v : Value) (w : World) (h0 : Arg 0 w v) :
    Calls Try.prog 13 #[v] w fun e w' => e = .returned (.bool true) ∧ Below w.heap.size w w' := by
  obtain ⟨A, n, c, A2, n2, c2, sp, R, pc, rfl, hR, hf, hf2, hw, hpc, _⟩ := h0
  obtain ⟨xs, hx, hxr, hxa⟩ := rd_of_flat hf
  obtain ⟨es, he⟩ := rf_of_flat hf2
  have r1 := wf_u32_range hpc
  exact main A n c A2 n2 c2 sp R pc xs es w hR hx hxa he hxr (fun x h => wf_u32_range (hw x h)) r1.1 r1.2
end Go.Proofs.Ytdokmnpkihmkpaa.CpuWithin
