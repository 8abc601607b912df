/- LedgerPlays: at all quotas and all deeds the law's text returns true. -/
import Derived.Test.YteokofkdfeglnaaLedgerDoes
import Derived.Test.YteokofkdfeglnaaLedgerArg
set_option linter.unusedVariables false
namespace Go.Proofs.Yteokofkdfeglnaa.LedgerPlays
open Go.RowKit Go.Proofs.Yteokofkdfeglnaa.Base Go.Proofs.Yteokofkdfeglnaa.Row Go.Proofs.Yteokofkdfeglnaa.Ledger Go.Proofs.Yteokofkdfeglnaa.Ledger2 Go.Proofs.Yteokofkdfeglnaa.Ledger3 Go.Proofs.Yteokofkdfeglnaa.Ledger4 Go.Proofs.Yteokofkdfeglnaa.LedgerRef Go.Proofs.Yteokofkdfeglnaa.LedgerRef2 Go.Proofs.Yteokofkdfeglnaa.LedgerDoes Go.Proofs.Yteokofkdfeglnaa.LedgerArg Go.Proofs.Yteokofkdfeglnaa.Flat

theorem new_at (a b c d : Int) (w : World) (g : Nat) (hg : w.heap.size + 1 = g) :
    Calls Try.prog 23 #[.agg (all4 a b c d)] w fun r w' => r = .returned (.pointer (some ⟨g, 0, none⟩)) ∧ Lg w' g 0 (nk (v4 a b c d) 4) ∧ Below w.heap.size w w' := by
  subst hg
  exact new_c a b c d w
theorem rnew_at (a b c d : Int) (w : World) (g : Nat) (hg : w.heap.size + 1 = g) :
    Calls Try.prog 24 #[.agg (all4 a b c d)] w fun r w' => r = .returned (.pointer (some ⟨g, 0, none⟩)) ∧ Rg w' g (nk (v4 a b c d) 4) ∧ Below w.heap.size w w' := by
  subst hg
  exact rnew_c a b c d w

theorem add_lit (a : Addr) (i j : Nat) (hj : j ≠ 0) : a.add (i + j) = ⟨(a.add i).block, (a.add i).off + j, none⟩ := by
  rw [← add_off]
  generalize a.add i = b
  unfold Addr.add
  rw [if_neg hj]
/-- Five numbers at each place of a slice. -/
def DeedAt (w : World) (q : Addr) (kd en to kk nn : Int) : Prop :=
  w.cell? q = some (.int .i64 kd) ∧ w.cell? ⟨q.block, q.off + 1, none⟩ = some (.int .i64 en) ∧ w.cell? ⟨q.block, q.off + 2, none⟩ = some (.int .i64 to) ∧
      w.cell? ⟨q.block, q.off + 3, none⟩ = some (.int .i64 kk) ∧ w.cell? ⟨q.block, q.off + 4, none⟩ = some (.int .i64 nn)
theorem DeedAt.below {w w1 : World} {q : Addr} {kd en to kk nn : Int} (h : DeedAt w q kd en to kk nn) (hb : Below w.heap.size w w1) : DeedAt w1 q kd en to kk nn :=
  ⟨bl_cell hb h.1, bl_cell hb h.2.1, bl_cell hb h.2.2.1, bl_cell hb h.2.2.2.1, bl_cell hb h.2.2.2.2⟩
theorem deed_at {w : World} {A : Option Addr} {n c : Nat} (h : FlatRow w ([[isI .i64], [isI .i64], [isI .i64], [isI .i64], [isI .i64]] : List (List (Value → Prop))).flatten A n c) (k : Nat) (hk : k < n) :
    ∃ (ad : Addr) (kd en to kk nn : Int), A = some ad ∧ DeedAt w (ad.add (k * 5)) kd en to kk nn := by
  rcases h with ⟨_, h0, _⟩ | ⟨ad, rfl, _, _, hi⟩
  · omega
  obtain ⟨_, h0, a, rfl, _⟩ := hi k hk 0 _ rfl
  obtain ⟨_, h1, b, rfl, _⟩ := hi k hk 1 _ rfl
  obtain ⟨_, h2, c, rfl, _⟩ := hi k hk 2 _ rfl
  obtain ⟨_, h3, d, rfl, _⟩ := hi k hk 3 _ rfl
  obtain ⟨_, h4, e, rfl, _⟩ := hi k hk 4 _ rfl
  refine ⟨ad, a, b, c, d, e, rfl, h0, ?_, ?_, ?_, ?_⟩
  · rw [← add_lit ad (k * 5) 1 (by omega)]; exact h1
  · rw [← add_lit ad (k * 5) 2 (by omega)]; exact h2
  · rw [← add_lit ad (k * 5) 3 (by omega)]; exact h3
  · rw [← add_lit ad (k * 5) 4 (by omega)]; exact h4

set_option maxRecDepth 100000 in
set_option maxHeartbeats 8000000 in
theorem main (a b c d : Int) (A : Option Addr) (n cap : Nat) (w : World) (hd : FlatRow w ([[isI .i64], [isI .i64], [isI .i64], [isI .i64], [isI .i64]] : List (List (Value → Prop))).flatten A n cap) (hn : n ≤ 9223372036854775807) :
    Calls Try.prog 7 #[.agg (all4 a b c d), .slice A n cap] w fun e w' => e = .returned (.bool true) ∧ Below w.heap.size w w' := by
  have hdd := Lib.hid hd
  clear hd
  obtain ⟨gx, hgx⟩ : ∃ gx, (w.alloc (.cells (all4 a b c d) 22)).heap.size + 1 = gx := ⟨_, rfl⟩
  have hwx : w.heap.size ≤ gx := by rw [← hgx]; simp; omega
  have hN := Lib.hid (new_at a b c d (w.alloc (.cells (all4 a b c d) 22)) gx hgx)
  have K0 := Lib.hid (Blk.new w 22 (all4 a b c d))
  have f0 := K0.out.cellv 0 (.int .i64 a) rfl
  have f1 := K0.out.cellv 1 (.int .i64 b) rfl
  have f2 := K0.out.cellv 2 (.int .i64 c) rfl
  have f3 := K0.out.cellv 3 (.int .i64 d) rfl
  have B1 := bl_alloc (bl_refl w) (.cells (all4 a b c d) 22)
  clear hgx
  go_enter Try.func7, Try.ntmps7
  go_wp2_with fail
  refine (hN.out).mono ?_
  rintro r w2 ⟨rfl, kx, b2⟩
  have f0 := bl_cell b2 f0
  have f1 := bl_cell b2 f1
  have f2 := bl_cell b2 f2
  have f3 := bl_cell b2 f3
  have B2 := bl_then B1 b2
  obtain ⟨gy, hgy⟩ : ∃ gy, w2.heap.size + 1 = gy := ⟨_, rfl⟩
  have hwy : w.heap.size ≤ gy := by have := B2.size; omega
  have hR := Lib.hid (rnew_at a b c d w2 gy hgy)
  clear hgy
  go_wp2_with fail
  refine (hR.out).mono ?_
  rintro r w3 ⟨rfl, ky, b3⟩
  have kx3 : Lg w3 gx 0 _ := Blk.below kx b3
  have B3 := bl_then B2 b3
  have hL0 : (nk (v4 a b c d) 4).length = 128 := nk_len _ _
  generalize nk (v4 a b c d) 4 = L0 at *
  clear f0 f1 f2 f3 kx b2 b3 hN hR K0 B1 B2
  go_wp2_with fail
  go_loopw [7] (fun i wr => ∃ (k : Nat) (L : List Int), k ≤ n ∧ L.length = 128 ∧ i = .int .i64 k ∧ Lg wr gx 0 L ∧ Rg wr gy L ∧ Below w.heap.size w wr) (fun i _ => n - (intOf i).toNat)
  case atStart => exact ⟨0, L0, by omega, hL0, rfl, kx3, ky, B3⟩
  case round =>
    clear kx3 ky B3 hL0
    obtain ⟨k, L, hk, hL, rfl, KX, KY, HB⟩ := hrel
    obtain ⟨wo, rfl⟩ : ∃ wo : World, wo = wr := ⟨_, rfl⟩
    by_cases hlt : k < n
    · have hq : decide ((k : Int) < (n : Int)) = true := by simp; omega
      by_cases hlt8 : k < 80
      · have hq8 : decide ((k : Int) < 80) = true := by simp; omega
        obtain ⟨ad, kd, en, to, kk, nn, rfl, DA⟩ := deed_at hdd.out k hlt
        have DW := Lib.hid (DA.below HB)
        obtain ⟨e0, e1, e2, e3, e4⟩ := DA.below HB
        clear DA
        have hdo := Lib.hid (does_c gx gy L kd en to kk nn wo KX KY hL)
        obtain ⟨L', hL'⟩ : ∃ L', pDo L kd en to kk nn = L' := ⟨_, rfl⟩
        have hLl : L'.length = 128 := by rw [← hL', do_len, hL]
        rw [hL'] at hdo
        clear KX KY hL hL'
        go_wp2_with fail
        refine (hdo.out).mono ?_
        rintro r wb ⟨rfl, KX, KY, FR⟩
        have HB2 := FR.2 _ _ HB HB.size hwx hwy
        clear e0 e1 e2 e3 e4 hdo FR HB DW
        go_wp2_with fail
        go_loopw [8] (fun i wr => ∃ (e : Nat), e ≤ 16 ∧ i = .int .i64 e ∧ Lg wr gx 0 L' ∧ Rg wr gy L' ∧ Fr gx gy wb wr) (fun i _ => 16 - (intOf i).toNat)
        case atStart => exact ⟨0, by omega, rfl, KX, KY, Fr.refl _ _ _⟩
        case round =>
          clear KX KY
          obtain ⟨e, he, rfl, KX, KY, FR⟩ := hrel
          obtain ⟨w4, rfl⟩ : ∃ w4 : World, w4 = wr := ⟨_, rfl⟩
          by_cases he16 : e < 16
          · have hq2 : decide ((e : Int) < 16) = true := by simp; omega
            go_wp2_with fail
            go_loopw [9] (fun i wr => ∃ (q : Nat), q ≤ 4 ∧ i = .int .i64 q ∧ Lg wr gx 0 L' ∧ Rg wr gy L' ∧ Fr gx gy wb wr) (fun i _ => 4 - (intOf i).toNat)
            case atStart => exact ⟨0, by omega, rfl, KX, KY, FR⟩
            case round =>
              clear KX KY FR
              obtain ⟨q, hq4, rfl, KX, KY, FR⟩ := hrel
              obtain ⟨w5, rfl⟩ : ∃ w5 : World, w5 = wr := ⟨_, rfl⟩
              have hxy : Hid (gx ≠ gy) := Lib.hid (Blk.ne_ KX KY (by decide))
              by_cases hq44 : q < 4
              · have hq3 : decide ((q : Int) < 4) = true := by simp; omega
                have i1 : (e : Int) < 16 := by omega
                have i2 : (q : Int) < 4 := by omega
                have hKX := Lib.hid KX
                have hKY := Lib.hid KY
                clear KX KY
                go_wp2_with fail
                refine (quota_yes gx e q L' w5 hKX.out hLl he16 hq44).mono ?_
                rintro r w6 ⟨rfl, KX6, G6⟩
                have KY6 : Rg w6 gy L' := Blk.grown hKY.out G6 (fun e => by injection e with e; exact hxy.out e.symm)
                have FR6 := FR.x G6
                have cq := Blk.cellv KY6 _ _ (rc_q L' e q hLl he16 hq44)
                have cu := Blk.cellv KY6 _ _ (rc_u L' e q hLl he16 hq44)
                have hKX6 := Lib.hid KX6
                have hKY6 := Lib.hid KY6
                clear KX6 KY6
                go_wp2_with fail
                refine (left_yes gx e q L' w6 hKX6.out hLl he16 hq44).mono ?_
                rintro r w7 ⟨rfl, KX7, G7⟩
                have KY7 : Rg w7 gy L' := Blk.grown hKY6.out G7 (fun e => by injection e with e; exact hxy.out e.symm)
                have FR7 := FR6.x G7
                clear cq cu
                go_wp2_with fail
                refine (rleft_yes gy e q L' w7 KY7 hLl he16 hq44).mono ?_
                rintro r w8 ⟨rfl, KY8, G8⟩
                have KX8 : Lg w8 gx 0 L' := Blk.grown KX7 G8 (fun e => by injection e with e; exact hxy.out e)
                have FR8 := FR7.y G8
                go_wp2_with fail
                go_roundw
                case rel => exact ⟨q + 1, by omega, by go_num, KX8, KY8, FR8⟩
                case measure => first | (simp [intOf]; done) | (simp [intOf]; omega)
              · have hq3 : decide ((q : Int) < 4) = false := by simp; omega
                go_wp2_with fail
                go_roundw
                case rel => exact ⟨e + 1, by omega, by go_num, KX, KY, FR⟩
                case measure => first | (simp [intOf]; done) | (simp [intOf]; omega)
          · have hq2 : decide ((e : Int) < 16) = false := by simp; omega
            have HB4 := FR.2 _ _ HB2 HB2.size hwx hwy
            have hxy : Hid (gx ≠ gy) := Lib.hid (Blk.ne_ KX KY (by decide))
            have HX := Lib.hid KX
            have HY := Lib.hid KY
            have HBh := Lib.hid HB4
            obtain ⟨ad', kd', en', to', kk', nn', e', DA⟩ := deed_at hdd.out k hlt
            cases e'
            have DW := Lib.hid DA
            obtain ⟨c0, c1, c2, c3, c4⟩ := DA.below HB4
            have DW' := Lib.hid (show ∀ w', Below w.heap.size w w' → w'.cell? ⟨(ad.add (k * 5)).block, (ad.add (k * 5)).off + 1, none⟩ = some (.int .i64 en') ∧ w'.cell? ⟨(ad.add (k * 5)).block, (ad.add (k * 5)).off + 3, none⟩ = some (.int .i64 kk') from fun w' hb => ⟨(DW.out.below hb).2.1, (DW.out.below hb).2.2.2.1⟩)
            have hLh := Lib.hid hLl
            clear KX KY HB4 DA c0 c2 c4 FR HB2 hLl
            go_wp2_with fail
            have KX := HX.out.drew
            have KY := HY.out.drew
            have HB := bl_drew HBh.out
            go_region_held3 (fun w' => w'.cell? ⟨(ad.add (k * 5)).block, (ad.add (k * 5)).off + 1, none⟩ = some (.int .i64 en') ∧ w'.cell? ⟨(ad.add (k * 5)).block, (ad.add (k * 5)).off + 3, none⟩ = some (.int .i64 kk'))
              (first
                | go_keep
                | exact DW'.out _ HB)
              (first
                | (go_at_call 27; refine (left_c gx en' kk' L' _ KX hLh.out).mono ?_; rintro r wa ⟨rfl, KX, GX⟩; have KY := Blk.grown KY GX (fun e => by injection e with e; exact hxy.out e.symm); have HB := below_grown HB HB.size GX hwx)
                | (go_at_call 28; refine (rleft_c gy en' kk' L' _ KY hLh.out).mono ?_; rintro r wa ⟨rfl, KY, GY⟩; have KX := Blk.grown KX GY (fun e => by injection e with e; exact hxy.out e); have HB := below_grown HB HB.size GY hwy))
            all_goals (
              go_wp2_with fail
              go_roundw
              case rel => exact ⟨k + 1, L', by omega, hLh.out, by go_num, KX, KY, HB⟩
              case measure => first | (simp [intOf]; done) | (simp [intOf]; omega))
      · have hq8 : decide ((k : Int) < 80) = false := by simp; omega
        go_wp2_with fail
        refine (awake_c _).mono ?_
        rintro r w9 ⟨rfl, b9⟩
        go_wp2
        go_ret
        exact ⟨rfl, bl_then HB b9⟩
    · have hq : decide ((k : Int) < (n : Int)) = false := by simp; omega
      go_wp2_with fail
      refine (awake_c _).mono ?_
      rintro r w9 ⟨rfl, b9⟩
      go_wp2
      go_ret
      exact ⟨rfl, bl_then HB b9⟩

def Arg : Nat → World → Value → Prop
  | 0, _, v => Four v
  | _, w, v => Deeds w v
theorem arg0 {H : Type} {enc : TypeId × Value → H} {W : World} {base : Nat} {v : Value} {d : DataW H} {p : List MemPlace} (hv : Value.okWide Try.prog W .any base 22 v)
    (h : DataW.Trod enc Try.prog W 0 (fun _ => true) true 22 v d p) : Arg 0 W v := four_of hv h
theorem arg1 {H : Type} {enc : TypeId × Value → H} {W : World} {base : Nat} {v : Value} {d : DataW H} {p : List MemPlace} (hv : Value.okWide Try.prog W .any base 45 v)
    (h : DataW.Trod enc Try.prog W 0 (fun _ => true) true 45 v d p) : Arg 1 W v := deeds_of hv h
theorem flat_max {w : World} {ps : List (Value → Prop)} {A : Option Addr} {n c : Nat} (h : FlatRow w ps A n c) : n ≤ 9223372036854775807 := by
  rcases h with ⟨_, h, _⟩ | ⟨_, _, h1, h2, _⟩
  · omega
  · simp only [maxLen] at h2; omega
theorem walk (v0 v1 : Value) (w : World) (h0 : Arg 0 w v0) (h1 : Arg 1 w v1) :
    Calls Try.prog 7 #[v0, v1] w fun e w' => e = .returned (.bool true) ∧ Below w.heap.size w w' := by
  obtain ⟨a, b, c, d, rfl⟩ := h0
  obtain ⟨A, n, cap, rfl, hf⟩ := h1
  exact main a b c d A n cap w hf (flat_max hf)
end Go.Proofs.Yteokofkdfeglnaa.LedgerPlays
