/- Contracts of the reference's ledger (Close, New). -/
import Derived.Test.YteokofkdfeglnaaLedgerRef
import Derived.Test.YteokofkdfeglnaaLedger4
set_option linter.unusedVariables false
namespace Go.Proofs.Yteokofkdfeglnaa.LedgerRef2
open Go.RowKit Go.Proofs.Yteokofkdfeglnaa.Base Go.Proofs.Yteokofkdfeglnaa.Row Go.Proofs.Yteokofkdfeglnaa.Ledger Go.Proofs.Yteokofkdfeglnaa.Ledger2 Go.Proofs.Yteokofkdfeglnaa.Ledger3 Go.Proofs.Yteokofkdfeglnaa.Ledger4 Go.Proofs.Yteokofkdfeglnaa.LedgerRef

theorem clk_q (L : List Int) (e t j i : Nat) (hne : ¬ e = t) (hj : j ≤ 4) (hi : i < 4) : qat (clk L e t j) e i = qat L e i := by
  induction j with
  | zero => rfl
  | succ j ih =>
    rw [clk]
    unfold qat
    rw [List.getElem?_set_ne (by omega)]
    exact ih (by omega)
theorem lay_rz8 (L : List Int) (e : Nat) : lay (rc L) (e * 8) zr.toList = rc (z8 L e) := by
  simp only [zr, lay, Nat.add_assoc, rc_set]
  simp only [z8, Nat.reduceAdd]
theorem size_rr : (Try.prog.info? 56).map (·.size) = some 8 := by kernel_rfl
theorem zero_rr : Try.prog.built 56 [] = some zr := by kernel_rfl

set_option maxRecDepth 100000 in
set_option maxHeartbeats 4000000 in
theorem rclose_yes (g e t : Nat) (L : List Int) (w : World) (h : Rg w g L) (hl : L.length = 128) (he : e < 16) (ht : t < 16) (hne : ¬ e = t) :
    Calls Try.prog 40 #[.pointer (some ⟨g, 0, none⟩), .int .i64 e, .int .i64 t] w fun r w' => r = .returned (.int .i64 0) ∧ Rg w' g (z8 (clk L e t 4) e) ∧ w.grownBy w' (some g) := by
  have hm1 : lmay e 0 0 = true := by unfold lmay; rw [decide_eq_true_eq]; omega
  have hm2 : lmay t 0 0 = true := by unfold lmay; rw [decide_eq_true_eq]; omega
  have hM1 := Lib.hid (fun w => refmay_c e 0 0 w)
  have hM2 := Lib.hid (fun w => refmay_c t 0 0 w)
  rw [hm1] at hM1
  rw [hm2] at hM2
  clear hm1 hm2
  have i1 : (e : Int) < 16 := by omega
  have i3 : (t : Int) < 16 := by omega
  have i4 : ((e : Int) == (t : Int)) = false := by simp; omega
  go_enter Try.func40, Try.ntmps40
  go_wp2_with fail
  refine (hM1.out _).mono ?_
  rintro r w1 ⟨rfl, rfl⟩
  go_wp2_with fail
  refine (hM2.out _).mono ?_
  rintro r w1 ⟨rfl, rfl⟩
  go_wp2_with fail
  go_loopw [7] (fun i wr => ∃ (j : Nat), j ≤ 4 ∧ i = .int .i64 j ∧ Rg wr g (clk L e t j) ∧ w.grownBy wr (some g)) (fun i _ => 4 - (intOf i).toNat)
  case atStart => exact ⟨0, by omega, rfl, h, World.grownBy.refl _ _⟩
  case round =>
    obtain ⟨j, hj, rfl, KV, HG⟩ := hrel
    obtain ⟨wo, rfl⟩ : ∃ wo : World, wo = wr := ⟨_, rfl⟩
    clear h
    have hKL : (clk L e t j).length = 128 := by rw [clk_len, hl]
    by_cases hlt : j < 4
    · have hq : decide ((j : Int) < 4) = true := by simp; omega
      have i5 : (j : Int) < 4 := by omega
      have hsucc : Hid ((clk L e t j).set (t * 8 + j) (wrap64 (qat (clk L e t j) t j + qat L e j)) = clk L e t (j + 1)) := Lib.hid rfl
      have ct := Blk.cellv KV _ _ (rc_q (clk L e t j) t j hKL ht hlt)
      have ce := Blk.cellv KV _ _ (rc_q (clk L e t j) e j hKL he hlt)
      rw [clk_q L e t j j hne hj hlt] at ce
      generalize clk L e t j = C at *
      go_wp2
      refine wp_region_still_tail 27 (by kernel_rfl) (by kernel_rfl) ?_
      simp only [List.take_succ_cons, List.take_zero, List.drop_succ_cons, List.drop_zero]
      repeat still_step
      refine wpStill_nil ?_
      change wpList _ _ _ _ _ wo.drew
      have k3d : Rg wo.drew g C := KV
      refine wl_set (by rfl) 3 _ _ (by rfl) g (t * 8 + j) (by rfl) (.int .i64 (wrap64 (qat C t j + qat L e j))) (by show Value.int .i64 (IntKind.i64.wrap (qat C t j + qat L e j)) = _; rw [wrap_eq]) rfl 59 (rc C) k3d size_int (by rw [rc_size, hKL]; omega) ?_
      intro w4 k4 g4 s4
      rw [rc_set] at k4
      clear ct ce
      go_wp2
      rw [hsucc.out] at k4
      go_roundw
      case rel => exact ⟨j + 1, by omega, by go_num, k4, World.grownBy.trans HG (World.grownBy.trans (grown_drew _ _) g4)⟩
      case measure => first | (simp [intOf]; done) | (simp [intOf]; omega)
    · obtain rfl : j = 4 := by omega
      have hsz : e * 8 + zr.size ≤ (rc (clk L e t 4)).size := by rw [rc_size, hKL]; show e * 8 + 8 ≤ _; omega
      have hszh := Lib.hid hsz
      have hq : decide (((4 : Nat) : Int) < 4) = false := by decide
      clear hsz hlt hj
      go_wp2_with (first
        | (with_reducible refine wl_build0 rfl 56 rfl zr zero_rr ?_)
        | ((refine wl_store_mid (by rfl) 56 _ _ (by rfl) g (e * 8) (by rfl) zr (by rfl) 59 (rc (clk L e t 4)) KV size_rr hszh.out zr_one ?_); intro w4 k4 g4 s4))
      rw [lay_rz8] at k4
      go_ret
      exact ⟨rfl, k4, World.grownBy.trans HG g4⟩
set_option maxRecDepth 100000 in
theorem rclose_no1 (g : Nat) (e t : Int) (w : World) (hm : lmay e 0 0 = false) :
    Calls Try.prog 40 #[.pointer (some ⟨g, 0, none⟩), .int .i64 e, .int .i64 t] w fun r w' => r = .returned (.int .i64 1) ∧ w = w' := by
  have hM := Lib.hid (fun w => refmay_c e 0 0 w)
  rw [hm] at hM
  clear hm
  go_enter Try.func40, Try.ntmps40
  go_wp2_with fail
  refine (hM.out _).mono ?_
  rintro r w1 ⟨rfl, rfl⟩
  go_wp2
  go_ret
  exact ⟨rfl, rfl⟩
set_option maxRecDepth 100000 in
theorem rclose_no2 (g : Nat) (e t : Int) (w : World) (hm1 : lmay e 0 0 = true) (hm : lmay t 0 0 = false) :
    Calls Try.prog 40 #[.pointer (some ⟨g, 0, none⟩), .int .i64 e, .int .i64 t] w fun r w' => r = .returned (.int .i64 1) ∧ w = w' := by
  have hM1 := Lib.hid (fun w => refmay_c e 0 0 w)
  rw [hm1] at hM1
  have hM := Lib.hid (fun w => refmay_c t 0 0 w)
  rw [hm] at hM
  clear hm hm1
  go_enter Try.func40, Try.ntmps40
  go_wp2_with fail
  refine (hM1.out _).mono ?_
  rintro r w1 ⟨rfl, rfl⟩
  go_wp2_with fail
  refine (hM.out _).mono ?_
  rintro r w1 ⟨rfl, rfl⟩
  go_wp2
  go_ret
  exact ⟨rfl, rfl⟩
set_option maxRecDepth 100000 in
theorem rclose_no3 (g : Nat) (e : Int) (w : World) (hm1 : lmay e 0 0 = true) :
    Calls Try.prog 40 #[.pointer (some ⟨g, 0, none⟩), .int .i64 e, .int .i64 e] w fun r w' => r = .returned (.int .i64 1) ∧ w = w' := by
  have hM1 := Lib.hid (fun w => refmay_c e 0 0 w)
  rw [hm1] at hM1
  clear hm1
  go_enter Try.func40, Try.ntmps40
  go_wp2_with fail
  refine (hM1.out _).mono ?_
  rintro r w1 ⟨rfl, rfl⟩
  go_wp2_with fail
  refine (hM1.out _).mono ?_
  rintro r w1 ⟨rfl, rfl⟩
  go_wp2
  go_ret
  exact ⟨rfl, rfl⟩
theorem rclose_c (g : Nat) (e t : Int) (L : List Int) (w : World) (h : Rg w g L) (hl : L.length = 128) :
    Calls Try.prog 40 #[.pointer (some ⟨g, 0, none⟩), .int .i64 e, .int .i64 t] w fun r w' => r = .returned (.int .i64 (pClose L e t).1) ∧ Rg w' g (pClose L e t).2 ∧ w.grownBy w' (some g) := by
  cases hm : lmay e 0 0 with
  | true =>
    cases hm2 : lmay t 0 0 with
    | true =>
      by_cases het : e = t
      · subst het
        refine (rclose_no3 g e w hm).mono ?_
        rintro r w1 ⟨rfl, rfl⟩
        exact ⟨by simp [pClose, hm], by simpa [pClose, hm] using h, World.grownBy.refl _ _⟩
      · obtain ⟨e, _, rfl, _, he, _, _, _⟩ := lmay_nat hm
        obtain ⟨t, _, rfl, _, ht, _, _, _⟩ := lmay_nat hm2
        have het' : ¬ e = t := fun h' => het (by rw [h'])
        have hb : ((e : Int) == (t : Int)) = false := by simp; omega
        have hp : pClose L e t = (0, z8 (clk L e t 4) e) := by simp [pClose, hm, hm2, hb]
        rw [hp]
        exact rclose_yes g e t L w h hl he ht het'
    | false =>
      refine (rclose_no2 g e t w hm hm2).mono ?_
      rintro r w1 ⟨rfl, rfl⟩
      exact ⟨by simp [pClose, hm2], by simpa [pClose, hm2] using h, World.grownBy.refl _ _⟩
  | false =>
    refine (rclose_no1 g e t w hm).mono ?_
    rintro r w1 ⟨rfl, rfl⟩
    exact ⟨by simp [pClose, hm], by simpa [pClose, hm] using h, World.grownBy.refl _ _⟩

theorem zero_rl : Try.prog.built 59 [] = some (rc z128) := by kernel_rfl
theorem all4_get (a b c d : Int) (j : Nat) (hj : j < 4) : (all4 a b c d)[j]? = some (.int .i64 (v4 a b c d j)) := by
  match j, hj with
  | 0, _ => rfl
  | 1, _ => rfl
  | 2, _ => rfl
  | 3, _ => rfl
set_option maxRecDepth 100000 in
set_option maxHeartbeats 4000000 in
theorem rnew_c (a b c d : Int) (w : World) :
    Calls Try.prog 24 #[.agg (all4 a b c d)] w fun r w' => r = .returned (.pointer (some ⟨w.heap.size + 1, 0, none⟩)) ∧ Rg w' (w.heap.size + 1) (nk (v4 a b c d) 4) ∧ Below w.heap.size w w' := by
  have K0 := Blk.new w 22 (all4 a b c d)
  go_enter Try.func24, Try.ntmps24
  go_wp2_with (first
    | (with_reducible refine wl_build0 rfl 59 rfl (rc z128) zero_rl ?_)
    | ((with_reducible refine wl_box rfl 59 _ rfl (rc z128) rfl ?_); intro w2 k2 b2 s2))
  have B2 := bl_then (bl_alloc (bl_refl w) (.cells (all4 a b c d) 22)) b2
  have z2 := b2.size
  have hj4 := Lib.hid (all4_get a b c d)
  have KP := K0.below b2
  generalize hv : v4 a b c d = v at *
  have k2' : Rg w2 (w.heap.size + 1) (nk v 0) := by
    have e : (w.alloc (.cells (all4 a b c d) 22)).heap.size = w.heap.size + 1 := Array.size_push _
    first
      | exact k2
      | (rw [e] at k2; exact k2)
  go_loopw [4, 5] (fun i _ wr => ∃ (j : Nat), j ≤ 4 ∧ i = .int .i64 j ∧ Rg wr (w.heap.size + 1) (nk v j) ∧ w2.grownBy wr (some (w.heap.size + 1))) (fun i _ _ => 4 - (intOf i).toNat)
  case atStart => exact ⟨0, by omega, rfl, k2', World.grownBy.refl _ _⟩
  case round =>
    obtain ⟨j, hj, rfl, KV, HG⟩ := hrel
    obtain ⟨wo, rfl⟩ : ∃ wo : World, wo = wr := ⟨_, rfl⟩
    clear k2 k2'
    by_cases hlt : j < 4
    · have hq : decide ((j : Int) < 4) = true := by simp; omega
      have i5 : (j : Int) < 4 := by omega
      have cj := (KP.grown HG (fun e => by injection e with e; omega)).cellv j _ (hj4.out j hlt)
      have hszh : Hid (j < (rc (nk v j)).size) := Lib.hid (by rw [rc_size, nk_len]; omega)
      have hsucc : ∀ x, mm (v j) = x → Hid ((nk v j).set j x = nk v (j + 1)) := fun x hx => Lib.hid (by rw [nk, hx])
      by_cases h0 : v j < 0
      · have hmm := hsucc 0 (by simp [mm, h0])
        have q0 : decide (v j < 0) = true := by simpa using h0
        clear hsucc h0
        generalize v j = x at *
        go_wp2_with (first | ((refine wl_set (by rfl) 3 _ _ (by rfl) (w.heap.size + 1) j (by rfl) (.int .i64 0) (by rfl) rfl 59 (rc (nk v j)) KV size_int hszh.out ?_); intro w4 k4 g4 s4))
        rw [rc_set, hmm.out] at k4
        go_roundw
        case rel => exact ⟨j + 1, by omega, by go_num, k4, World.grownBy.trans HG g4⟩
        case measure => first | (simp [intOf]; done) | (simp [intOf]; omega)
      · by_cases h1 : 512 < v j
        · have hmm := hsucc 512 (by simp [mm, h0, h1])
          have q0 : decide (v j < 0) = false := by simpa using h0
          have q1 : decide (512 < v j) = true := by simpa using h1
          clear hsucc h0 h1
          generalize v j = x at *
          go_wp2_with (first | ((refine wl_set (by rfl) 3 _ _ (by rfl) (w.heap.size + 1) j (by rfl) (.int .i64 512) (by rfl) rfl 59 (rc (nk v j)) KV size_int hszh.out ?_); intro w4 k4 g4 s4))
          rw [rc_set, hmm.out] at k4
          go_roundw
          case rel => exact ⟨j + 1, by omega, by go_num, k4, World.grownBy.trans HG g4⟩
          case measure => first | (simp [intOf]; done) | (simp [intOf]; omega)
        · have hmm := hsucc (v j) (by simp [mm, h0, h1])
          have q0 : decide (v j < 0) = false := by simpa using h0
          have q1 : decide (512 < v j) = false := by simpa using h1
          clear hsucc h0 h1
          generalize v j = x at *
          go_wp2_with (first | ((refine wl_set (by rfl) 3 _ _ (by rfl) (w.heap.size + 1) j (by rfl) (.int .i64 x) (by rfl) rfl 59 (rc (nk v j)) KV size_int hszh.out ?_); intro w4 k4 g4 s4))
          rw [rc_set, hmm.out] at k4
          go_roundw
          case rel => exact ⟨j + 1, by omega, by go_num, k4, World.grownBy.trans HG g4⟩
          case measure => first | (simp [intOf]; done) | (simp [intOf]; omega)
    · obtain rfl : j = 4 := by omega
      have hq : decide (((4 : Nat) : Int) < 4) = false := by decide
      clear hlt hj
      go_wp2
      go_ret
      exact ⟨rfl, by rw [hv]; exact KV, below_grown B2 B2.size HG (by omega)⟩
end Go.Proofs.Yteokofkdfeglnaa.LedgerRef2
