/- LedgerKeeps: at all quotas and all deeds the law's text returns true. -/
import Derived.Test.YteokofkdfeglnaaLedgerPlays
import Derived.Test.YteokofkdfeglnaaLedgerInv
set_option linter.unusedVariables false
namespace Go.Proofs.Yteokofkdfeglnaa.LedgerKeeps
open Go.RowKit Go.Proofs.Yteokofkdfeglnaa.Base Go.Proofs.Yteokofkdfeglnaa.Row Go.Proofs.Yteokofkdfeglnaa.Ledger Go.Proofs.Yteokofkdfeglnaa.Ledger2 Go.Proofs.Yteokofkdfeglnaa.Ledger3 Go.Proofs.Yteokofkdfeglnaa.Ledger4 Go.Proofs.Yteokofkdfeglnaa.LedgerRef Go.Proofs.Yteokofkdfeglnaa.LedgerRef2 Go.Proofs.Yteokofkdfeglnaa.LedgerDoes Go.Proofs.Yteokofkdfeglnaa.LedgerArg Go.Proofs.Yteokofkdfeglnaa.Flat Go.Proofs.Yteokofkdfeglnaa.LedgerInv
open Go.Proofs.Yteokofkdfeglnaa.LedgerPlays (new_at rnew_at DeedAt deed_at flat_max)

set_option maxRecDepth 100000 in
set_option maxHeartbeats 8000000 in
theorem main (a b c d : Int) (A : Option Addr) (n cap : Nat) (w : World) (hd : FlatRow w ([[isI .i64], [isI .i64], [isI .i64], [isI .i64], [isI .i64]] : List (List (Value → Prop))).flatten A n cap) (hn : n ≤ 9223372036854775807) :
    Calls Try.prog 8 #[.agg (all4 a b c d), .slice A n cap] w fun e w' => e = .returned (.bool true) ∧ Below w.heap.size w w' := by
  have hdd := Lib.hid hd
  clear hd
  go_enter Try.func8, Try.ntmps8
  go_wp2_with (first
    | ((with_reducible refine wl_box rfl 22 _ rfl (all4 a b c d) rfl ?_); intro w1 k1 B1 s1; have f0 := k1.cellv 0 (.int .i64 a) rfl; have f1 := k1.cellv 1 (.int .i64 b) rfl; have f2 := k1.cellv 2 (.int .i64 c) rfl; have f3 := k1.cellv 3 (.int .i64 d) rfl))
  obtain ⟨gx, hgx⟩ : ∃ gx, w1.heap.size + 1 = gx := ⟨_, rfl⟩
  have hwx : w1.heap.size ≤ gx := by omega
  have hN := Lib.hid (new_at a b c d w1 gx hgx)
  clear hgx
  refine (hN.out).mono ?_
  rintro r w2 ⟨rfl, kx, b2⟩
  have f0 := bl_cell b2 f0
  have f1 := bl_cell b2 f1
  have f2 := bl_cell b2 f2
  have f3 := bl_cell b2 f3
  obtain ⟨gy, hgy⟩ : ∃ gy, w2.heap.size + 1 = gy := ⟨_, rfl⟩
  have hwy : w1.heap.size ≤ gy := by have := b2.size; omega
  have hR := Lib.hid (rnew_at a b c d w2 gy hgy)
  clear hgy
  go_wp2_with fail
  refine (hR.out).mono ?_
  rintro r w3 ⟨rfl, ky, b3⟩
  have kx3 : Lg w3 gx 0 _ := Blk.below kx b3
  have B3 := bl_then b2 b3
  have hL0 : Inv (nk (v4 a b c d) 4) (fun k => mm (v4 a b c d k)) := inv_new _
  have hall := Lib.hid (all4_get a b c d)
  have KP := Lib.hid (show ∀ w', Below w1.heap.size w1 w' → ∀ q, q < 4 → w'.cell? ⟨w.heap.size, q, none⟩ = some (.int .i64 (v4 a b c d q)) from fun w' hb q hq => (k1.below hb).cellv q _ (hall.out q hq))
  generalize nk (v4 a b c d) 4 = L0 at *
  generalize v4 a b c d = v at *
  clear f0 f1 f2 f3 kx b2 b3 hN hR k1 hall
  go_wp2_with fail
  go_loopw [7] (fun i wr => ∃ (k : Nat) (L : List Int), k ≤ n ∧ Inv L (fun k => mm (v k)) ∧ i = .int .i64 k ∧ Lg wr gx 0 L ∧ Rg wr gy L ∧ Below w1.heap.size w1 wr) (fun i _ => n - (intOf i).toNat)
  case atStart => exact ⟨0, L0, by omega, hL0, rfl, kx3, ky, B3⟩
  case round =>
    clear kx3 ky B3 hL0
    obtain ⟨k, L, hk, hInv, rfl, KX, KY, HB⟩ := hrel
    have hL := hInv.len
    obtain ⟨wo, rfl⟩ : ∃ wo : World, wo = wr := ⟨_, rfl⟩
    by_cases hlt : k < n
    · have hq : decide ((k : Int) < (n : Int)) = true := by simp; omega
      by_cases hlt8 : k < 80
      · have hq8 : decide ((k : Int) < 80) = true := by simp; omega
        obtain ⟨ad, kd, en, to, kk, nn, rfl, DA⟩ := deed_at hdd.out k hlt
        obtain ⟨e0, e1, e2, e3, e4⟩ := DA.below (bl_then B1 HB)
        clear DA
        have hdo := Lib.hid (does_c gx gy L kd en to kk nn wo KX KY hL)
        obtain ⟨L', hL'⟩ : ∃ L', pDo L kd en to kk nn = L' := ⟨_, rfl⟩
        have hI := Lib.hid (show Inv L' (fun k => mm (v k)) by rw [← hL']; exact inv_do hInv kd en to kk nn)
        have hLl := hI.out.len
        rw [hL'] at hdo
        clear KX KY hL hL' hInv
        go_wp2_with fail
        refine (hdo.out).mono ?_
        rintro r wb ⟨rfl, KX, KY, FR⟩
        have HB2 := FR.2 _ _ HB HB.size hwx hwy
        clear e0 e1 e2 e3 e4 hdo FR HB
        go_wp2_with fail
        go_loopw [8, 9, 10, 11, 12, 13] (fun i _ _ _ _ _ wr => ∃ (q : Nat), q ≤ 4 ∧ i = .int .i64 q ∧ Lg wr gx 0 L' ∧ Rg wr gy L' ∧ Fr gx gy wb wr) (fun i _ _ _ _ _ _ => 4 - (intOf i).toNat)
        case atStart => exact ⟨0, by omega, rfl, KX, KY, Fr.refl _ _ _⟩
        case round =>
          clear KX KY
          obtain ⟨q, hq4, rfl, KX, KY, FR⟩ := hrel
          obtain ⟨w4, rfl⟩ : ∃ w4 : World, w4 = wr := ⟨_, rfl⟩
          by_cases hq44 : q < 4
          · have hq3 : decide ((q : Int) < 4) = true := by simp; omega
            go_wp2_with fail
            go_loopw [9, 10, 11, 12] (fun sm i _ _ wr => ∃ (e : Nat), e ≤ 16 ∧ i = .int .i64 e ∧ sm = .int .i64 (S (fun e => qat L' e q) e) ∧ Lg wr gx 0 L' ∧ Rg wr gy L' ∧ Fr gx gy wb wr) (fun _ i _ _ _ => 16 - (intOf i).toNat)
            case atStart => exact ⟨0, by omega, rfl, rfl, KX, KY, FR⟩
            case round =>
              clear KX KY FR
              obtain ⟨e, he, rfl, rfl, KX, KY, FR⟩ := hrel
              obtain ⟨w5, rfl⟩ : ∃ w5 : World, w5 = wr := ⟨_, rfl⟩
              have hxy : Hid (gx ≠ gy) := Lib.hid (Blk.ne_ KX KY (by decide))
              by_cases he16 : e < 16
              · have hq2 : decide ((e : Int) < 16) = true := by simp; omega
                have i1 : (e : Int) < 16 := by omega
                have i2 : (q : Int) < 4 := by omega
                have hKX := Lib.hid KX
                have hKY := Lib.hid KY
                have a0 := hI.out.q0 e q he16 hq44
                have a1 := hI.out.u0 e q he16 hq44
                have a2 := hI.out.uq e q he16 hq44
                have a3 := hI.out.q5 e q he16 hq44
                have s0 := S_nonneg (fun e => qat L' e q) e (fun x hx => hI.out.q0 x q (by omega) hq44)
                have s1 := S_mono (fun e => qat L' e q) (e + 1) 16 he16 (fun x hx => hI.out.q0 x q hx hq44)
                have s2 := hI.out.sum q hq44
                have s3 := hI.out.le q hq44
                have hS : Hid (S (fun e => qat L' e q) e + qat L' e q = S (fun e => qat L' e q) (e + 1)) := Lib.hid rfl
                rw [s2, ← hS.out] at s1
                have t1 : decide (qat L' e q < uat L' e q) = false := by simp; omega
                have t2 : decide (uat L' e q < 0) = false := by simp; omega
                have hw : wrap64 (S (fun e => qat L' e q) e + qat L' e q) = S (fun e => qat L' e q) e + qat L' e q := by unfold wrap64; omega
                have hquo := Lib.hid (quota_yes gx e q L' w5 hKX.out hLl he16 hq44)
                clear KX KY s0 s1 s2 s3 a0 a1 a2 a3
                generalize S (fun e => qat L' e q) e = sm at *
                generalize qat L' e q = x at *
                generalize uat L' e q = y at *
                go_wp2_with fail
                refine (hquo.out).mono ?_
                rintro r w6 ⟨rfl, KX6, G6⟩
                have KY6 : Rg w6 gy L' := Blk.grown hKY.out G6 (fun e => by injection e with e; exact hxy.out e.symm)
                have FR6 := FR.x G6
                go_wp2_with fail
                go_roundw
                case rel => exact ⟨e + 1, by omega, by go_num, by first | (rw [← hS.out, hw]; done) | (rw [← hS.out]; done), KX6, KY6, FR6⟩
                case measure => first | (simp [intOf]; done) | (simp [intOf]; omega)
              · obtain rfl : e = 16 := by omega
                have hq2 : decide (((16 : Nat) : Int) < 16) = false := by decide
                have hs := hI.out.sum q hq44
                have HB4 := FR.2 _ _ HB2 HB2.size hwx hwy
                have cp := KP.out _ HB4 q hq44
                have i2 : (q : Int) < 4 := by omega
                have hKX := Lib.hid KX
                have hKY := Lib.hid KY
                have hFR := Lib.hid FR
                clear KX KY FR HB4 he he16
                rw [hs]
                generalize v q = x at *
                by_cases h0 : x < 0
                · have hm : Hid (mm x = 0) := Lib.hid (by simp [mm, h0])
                  have q0 : decide (x < 0) = true := by simpa using h0
                  rw [hm.out] at *
                  clear h0 hs
                  go_wp2_with fail
                  go_roundw
                  case rel => exact ⟨q + 1, by omega, by go_num, hKX.out, hKY.out, hFR.out⟩
                  case measure => first | (simp [intOf]; done) | (simp [intOf]; omega)
                · by_cases h1 : 512 < x
                  · have hm : Hid (mm x = 512) := Lib.hid (by simp [mm, h0, h1])
                    have q0 : decide (x < 0) = false := by simpa using h0
                    have q1 : decide (512 < x) = true := by simpa using h1
                    rw [hm.out] at *
                    clear h0 h1 hs
                    go_wp2_with fail
                    go_roundw
                    case rel => exact ⟨q + 1, by omega, by go_num, hKX.out, hKY.out, hFR.out⟩
                    case measure => first | (simp [intOf]; done) | (simp [intOf]; omega)
                  · have hm : Hid (mm x = x) := Lib.hid (by simp [mm, h0, h1])
                    have q0 : decide (x < 0) = false := by simpa using h0
                    have q1 : decide (512 < x) = false := by simpa using h1
                    rw [hm.out] at *
                    clear h0 h1 hs
                    go_wp2_with fail
                    go_roundw
                    case rel => exact ⟨q + 1, by omega, by go_num, hKX.out, hKY.out, hFR.out⟩
                    case measure => first | (simp [intOf]; done) | (simp [intOf]; omega)
          · have hq3 : decide ((q : Int) < 4) = false := by simp; omega
            have HB4 := FR.2 _ _ HB2 HB2.size hwx hwy
            go_wp2_with fail
            go_roundw
            case rel => exact ⟨k + 1, L', by omega, hI.out, by go_num, KX, KY, HB4⟩
            case measure => first | (simp [intOf]; done) | (simp [intOf]; omega)
      · have hq8 : decide ((k : Int) < 80) = false := by simp; omega
        go_wp2_with fail
        refine (awake_c _).mono ?_
        rintro r w9 ⟨rfl, b9⟩
        go_wp2
        go_ret
        exact ⟨rfl, bl_then B1 (bl_then HB b9)⟩
    · have hq : decide ((k : Int) < (n : Int)) = false := by simp; omega
      go_wp2_with fail
      refine (awake_c _).mono ?_
      rintro r w9 ⟨rfl, b9⟩
      go_wp2
      go_ret
      exact ⟨rfl, bl_then B1 (bl_then HB b9)⟩

def Arg : Nat → World → Value → Prop
  | 0, _, v => Four v
  | _, w, v => Deeds w v
theorem arg0 {H : Type} {enc : TypeId × Value → H} {W : World} {base : Nat} {v : Value} {d : DataW H} {p : List MemPlace} (hv : Value.okWide Try.prog W .any base 22 v)
    (h : DataW.Trod enc Try.prog W 0 (fun _ => true) true 22 v d p) : Arg 0 W v := four_of hv h
theorem arg1 {H : Type} {enc : TypeId × Value → H} {W : World} {base : Nat} {v : Value} {d : DataW H} {p : List MemPlace} (hv : Value.okWide Try.prog W .any base 45 v)
    (h : DataW.Trod enc Try.prog W 0 (fun _ => true) true 45 v d p) : Arg 1 W v := deeds_of hv h
theorem walk (v0 v1 : Value) (w : World) (h0 : Arg 0 w v0) (h1 : Arg 1 w v1) :
    Calls Try.prog 8 #[v0, v1] w fun e w' => e = .returned (.bool true) ∧ Below w.heap.size w w' := by
  obtain ⟨a, b, c, d, rfl⟩ := h0
  obtain ⟨A, n, cap, rfl, hf⟩ := h1
  exact main a b c d A n cap w hf (flat_max hf)
end Go.Proofs.Yteokofkdfeglnaa.LedgerKeeps
