/- The law DiskTwins. -/
import Derived.Test.YthihpejhhimkaaaDiskZ
set_option linter.unusedVariables false
namespace Go.Proofs.Ythihpejhhimkaaa.DiskTwins
open Go.RowKit Go.ChangeShapes Go.WideShapes Go.Deep Go.Proofs.Ythihpejhhimkaaa.Base Go.Proofs.Ythihpejhhimkaaa.Row Go.Proofs.Ythihpejhhimkaaa.App Go.Proofs.Ythihpejhhimkaaa.Multi Go.Proofs.Ythihpejhhimkaaa.Flat Go.Proofs.Ythihpejhhimkaaa.StEq Go.Proofs.Ythihpejhhimkaaa.Held Go.Proofs.Ythihpejhhimkaaa.Out Go.Proofs.Ythihpejhhimkaaa.HeldW Go.Proofs.Ythihpejhhimkaaa.HeldX Go.Proofs.Ythihpejhhimkaaa.DiskMath Go.Proofs.Ythihpejhhimkaaa.Disk Go.Proofs.Ythihpejhhimkaaa.Disk3 Go.Proofs.Ythihpejhhimkaaa.DiskS Go.Proofs.Ythihpejhhimkaaa.DiskU Go.Proofs.Ythihpejhhimkaaa.DiskV Go.Proofs.Ythihpejhhimkaaa.DiskW Go.Proofs.Ythihpejhhimkaaa.DiskX Go.Proofs.Ythihpejhhimkaaa.DiskZ

set_option maxRecDepth 100000 in
set_option maxHeartbeats 8000000 in
theorem main (A0 : Option Addr) (n0 c0 : Nat) (d' : Dd) (w : World) (hd : FlatRow w (d4 w) A0 n0 c0) (he : Has w d') :
    Calls Try.prog 5 #[.slice A0 n0 c0, .agg (dv d')] w fun e w' => e = .returned (.bool true) ∧ Below w.heap.size w w' := by
  have hdd := Lib.hid hd
  have hmx := flat_max hd
  have he' := Lib.hid (fun w' (hb : Below w.heap.size w w') => he.below hb)
  obtain ⟨kd', bl', A', n', c', xs', Ak', nk', ck', ks'⟩ := d'
  clear hd he
  go_enter Try.func5, Try.ntmps5
  go_upto_region 1 with ((with_reducible refine wl_box rfl 31 (.tmp 1) rfl #[.int .i64 kd', .int .i64 bl', .slice A' n' c', .slice Ak' nk' ck'] rfl ?_); intro w1 k1 b1 s1)
  obtain ⟨ge, hge⟩ : ∃ ge, ge = w.heap.size := ⟨_, rfl⟩
  rw [← hge] at k1 s1 ⊢
  clear hge
  have e5 := b1.size
  have HKE0 := k1
  go_wp2_with fail
  have hN1 := two_new 5 (by omega) (by omega) w1 w.heap.size b1.size
  have hN2 := fun w' gd F hp hD bF hB => two_rnew2 5 (by omega) w w' w1 gd (fun i => i = ge) F hp hD bF (fun i h => by rw [h]; exact s1) hB
  rw [show ((5 : Nat) : Int) = 5 from rfl] at hN1
  simp only [show ((5 : Nat) : Int) = 5 from rfl] at hN2
  refine hN1.mono ?_
  rintro r wn1 ⟨gd, rfl, ⟨F, hD, bF⟩, bn1⟩
  have HBn := bl_then b1 bn1
  go_wp2_with fail
  refine (hN2 wn1 gd F b1.size hD bF HBn).mono ?_
  rintro r wn2 ⟨gx, rfl, T, bn2⟩
  clear hN1 hN2 hD bF
  have KE0 := (HKE0.below bn1).below bn2
  go_wp2_with fail
  go_loopw [7] (fun i wr => ∃ (k : Nat) (L : List Bk) (W : List Wr), k ≤ n0 ∧ k ≤ 30 ∧ i = .int .i64 k ∧ Two w (fun i => i = ge) wr gd gx L W L W ∧ Ok L W ∧ L.length = 5 ∧ W.length ≤ k ∧ Blk wr ge 31 #[.int .i64 kd', .int .i64 bl', .slice A' n' c', .slice Ak' nk' ck']) (fun i _ => 30 + 1 - (intOf i).toNat)
  case atStart => exact ⟨0, _, [], by omega, by omega, rfl, T, ok_nil _, List.length_replicate, by simp, KE0⟩
  case round =>
    clear T
    obtain ⟨k, L, W, hk, hkl, rfl, T, hok, hLN, hWk, hKE⟩ := hrel
    obtain ⟨wo, rfl⟩ : ∃ wo : World, wo = wr := ⟨_, rfl⟩
    have hstop : (k < n0 ∧ k < 30) ∨ (n0 ≤ k ∨ (k < n0 ∧ 30 ≤ k)) := by omega
    have hLN' := Lib.hid hLN
    have hok' := Lib.hid hok
    have hL32 : L.length ≤ 32 := by omega
    have hW900 : W.length ≤ 900 := by omega
    have hWk' := Lib.hid hWk
    clear hLN hWk
    rcases hstop with ⟨hlt, hlt2⟩ | hstop
    · have hq : decide ((k : Int) < (n0 : Int)) = true := by simp; omega
      have hq2 : decide ((k : Int) < 30) = true := by simp; omega
      have hq3 : (k : Int) < (n0 : Int) := by omega
      have hq4 : (k : Int) < 30 := by omega
      obtain ⟨ad, d, rfl, DA, hd⟩ := deed_at hdd.out k hlt
      obtain ⟨e0, e1, e2, e3⟩ := DA.below rfl T.bl
      have hok2 := Lib.hid (pdo_ok (d := d) hok)
      have hln2 := Lib.hid (pdo_len d L W)
      have hwn2 := Lib.hid (pdo_w d L W)
      have hC := fun w' h => does_c w (fun i => i = ge) gd gx L W d w' h hok hL32 hW900 hd
      have hDA := Lib.hid DA
      clear hd hok DA
      generalize pdo d L W = pr at *
      obtain ⟨kd, bl, A, n, c, xs, Ak, nk, ck, ks⟩ := d
      simp only [dv] at hC e0 e1 e2 e3
      have hC := Lib.hid hC
      obtain ⟨L2, W2⟩ := pr
      simp only at hok2 hln2 hwn2
      go_wp2_with fail
      refine (hC.out _ T).mono ?_
      rintro r w3 ⟨rfl, T3, O3⟩
      simp only at T3
      have hKE := Out.Blk.out hKE O3 (fun h => h rfl)
      clear e0 e1 e2 e3 hC O3 T
      go_wp2_with fail
      go_roundw
      case rel => exact ⟨k + 1, L2, W2, by omega, by omega, by go_num, T3, hok2.out, by rw [hln2.out]; exact hLN'.out, by have h1 := hwn2.out; have h2 := hWk'.out; omega, hKE⟩
      case measure => first | (simp [intOf]; done) | (simp [intOf]; omega)
    · clear hok
      have hstop' : (decide ((k : Int) < (n0 : Int)) = false ∧ n0 ≤ k) ∨ (decide ((k : Int) < (n0 : Int)) = true ∧ k < n0 ∧ decide ((k : Int) < 30) = false ∧ 30 ≤ k) := by
        rcases hstop with h | ⟨h1, h2⟩
        · exact .inl ⟨by simp; omega, h⟩
        · exact .inr ⟨by simp; omega, h1, by simp; omega, h2⟩
      clear hstop
      have hTd0 := T
      obtain ⟨F, G, hF, hG, bF, bG, hFG, hRo, HB⟩ := T
      have hgeF := Lib.hid (hRo ge rfl).2.1
      have KE := hKE
      have hLl := hLN'.out
      clear hLN'
      have hTw := Lib.hid (Disk4.twin_c gd F L W w.heap.size wo hF (by omega) (by omega) HB.size)
      have hb1 := Lib.hid bF
      have hb2 := Lib.hid bG
      have hb3 := Lib.hid hFG
      have hb4 := Lib.hid hRo
      have hb5 := Lib.hid hF
      have hb6 := Lib.hid hG
      clear bF bG hFG hRo hF hG hTd0
      rcases hstop' with ⟨q1, q3⟩ | ⟨q1, q3, q2, q4⟩
      all_goals (
        go_wp2_with fail
        refine hTw.out.mono ?_
        rintro r w2 ⟨gt, rfl, hTt, b2⟩
        replace hb1 := hb1.out
        have bF := hb1
        have bG := hb2.out
        have hFG := hb3.out
        have hRo := hb4.out
        have hF := hb5.out
        have hG := hb6.out
        have TT : Two w F w2 gt gx L W L W := ⟨_, G, hTt, DkF.below hG b2, fun i h => (by rcases h with h | h; exact h.elim; exact ⟨by have := HB.size; omega, h.2⟩), fun i h => ⟨(bG i h).1, by have := (bG i h).2; have := b2.size; omega⟩, fun i h hg => (by rcases h with h | h; exact h.elim; have := (bG i hg).2; omega), fun i h => ⟨by have := (bF i h).2; have := b2.size; omega, fun hf => (by rcases hf with hf | hf; exact hf.elim; have := (bF i h).2; omega), hFG i h⟩, bl_thenB HB HB.size b2⟩
        have hTd := DkF.below hF b2
        have bF := fun i h => (⟨(bF i h).1, Nat.lt_of_lt_of_le (bF i h).2 b2.size⟩ : w.heap.size ≤ i ∧ i < w2.heap.size)
        have KE := KE.below b2
        have HB := bl_thenB HB HB.size b2
        clear hF hG bG hFG hRo hTt b2 hTw hb1 hb2 hb3 hb4 hb5 hb6
        have hbF := Lib.hid bF
        clear bF
        go_wp2_with fail
        have bF := hbF.out
        clear hbF
        refine (same_c w F gt gx L W w2 TT (by omega) (by omega)).mono ?_
        rintro r w3 ⟨rfl, b3⟩
        have TT := TT.below b3
        have hTd := DkF.below hTd b3
        have bF := fun i h => (⟨(bF i h).1, Nat.lt_of_lt_of_le (bF i h).2 b3.size⟩ : w.heap.size ≤ i ∧ i < w3.heap.size)
        have KE := KE.below b3
        have HB := bl_thenB HB HB.size b3
        clear b3
        have hbF := Lib.hid bF
        clear bF
        go_upto_region 11 with fail
        have bF := hbF.out
        clear hbF
        have b3 := bl_drew (bl_refl w3)
        have TT := TT.below b3
        have hTd := DkF.below hTd b3
        have HB := bl_thenB HB HB.size b3
        have bF : ∀ i, F i → w.heap.size ≤ i ∧ i < w3.drew.heap.size := bF
        by_cases hin : 0 ≤ bl' ∧ bl' < L.length
        · obtain ⟨b, rfl⟩ : ∃ b : Nat, bl' = b := ⟨bl'.toNat, by omega⟩
          have hbl : b < L.length := by omega
          refine wp_region_held_drew (S := (fun w' => Blk w' ge 31 #[.int .i64 kd', .int .i64 b, .slice A' n' c', .slice Ak' nk' ck'])) (by kernel_rfl) (KE.drew) (fun hHeld => ?_)
          refine wpAnyH_take (i := 0) (oi := { dst := some 36, op := Op.move (Operand.tmp 5), type := 23, pos := "law.go:132", after := #[], guard := none }) (v := ?_) rfl (by kernel_rfl) (by kernel_rfl) (by kernel_rfl) (fun _ _ _ h => h) ?_ hHeld ?_
          rotate_left
          · refine Or.inl ⟨by rfl, fun w hSw => ?_⟩; skip; go_simp; (try with_reducible rfl)
          try simp only [Act.put, List.setIfInBounds_toArray, List.set_cons_zero, List.set_cons_succ]
          refine wpAnyH_take (i := 1) (oi := { dst := some 37, op := Op.fieldAddr 31 (Operand.tmp 3) 1, type := 0, pos := "law.go:132", after := #[], guard := none }) (v := ?_) rfl (by kernel_rfl) (by kernel_rfl) (by kernel_rfl) (fun _ _ _ h => h) ?_ hHeld ?_
          rotate_left
          · refine Or.inl ⟨by rfl, fun w hSw => ?_⟩; skip; go_simp; (try with_reducible rfl)
          try simp only [Act.put, List.setIfInBounds_toArray, List.set_cons_zero, List.set_cons_succ]
          refine wpAnyH_take (i := 2) (oi := { dst := some 38, op := Op.load 3 (Operand.tmp 37), type := 3, pos := "law.go:132", after := #[{ on := 1, ground := Ground.data }], guard := none }) (v := ?_) rfl (by kernel_rfl) (by kernel_rfl) (by kernel_rfl) (fun _ _ _ h => h) ?_ hHeld ?_
          rotate_left
          · refine Or.inl ⟨by rfl, fun w hSw => ?_⟩; have c0 := Blk.cellv hSw 1 (.int .i64 b) rfl; go_simp; (try with_reducible rfl)
          try simp only [Act.put, List.setIfInBounds_toArray, List.set_cons_zero, List.set_cons_succ]
          refine wpAnyH_take (i := 3) (oi := { dst := some 39, op := Op.fieldAddr 31 (Operand.tmp 3) 2, type := 0, pos := "law.go:132", after := #[], guard := none }) (v := ?_) rfl (by kernel_rfl) (by kernel_rfl) (by kernel_rfl) (fun _ _ _ h => h) ?_ hHeld ?_
          rotate_left
          · refine Or.inl ⟨by rfl, fun w hSw => ?_⟩; skip; go_simp; (try with_reducible rfl)
          try simp only [Act.put, List.setIfInBounds_toArray, List.set_cons_zero, List.set_cons_succ]
          refine wpAnyH_take (i := 4) (oi := { dst := some 40, op := Op.load 28 (Operand.tmp 39), type := 28, pos := "law.go:132", after := #[{ on := 3, ground := Ground.data }], guard := none }) (v := ?_) rfl (by kernel_rfl) (by kernel_rfl) (by kernel_rfl) (fun _ _ _ h => h) ?_ hHeld ?_
          rotate_left
          · refine Or.inl ⟨by rfl, fun w hSw => ?_⟩; have c0 := Blk.cellv hSw 2 (.slice A' n' c') rfl; go_simp; (try with_reducible rfl)
          try simp only [Act.put, List.setIfInBounds_toArray, List.set_cons_zero, List.set_cons_succ]
          refine wpAnyH_ready (rs := [5]) (by kernel_rfl) (by simp) ?_
          refine AllReadyH.cons (o := { dst := some 41, op := Op.call { callee := Callee.value (Operand.func 18), args := #[Operand.tmp 40], argTypes := #[28] }, type := 33, pos := "law.go:132", after := #[{ on := 4, ground := Ground.data }], guard := none }) rfl (fun Kc hKc => ?_) AllReadyH.nil
          go_simp
          refine (of_c A' n' c' xs' _ (he'.out _ HB).1).mono ?_
          rintro r wa ⟨rfl, ba⟩
          have HB := bl_thenB HB HB.size ba
          have hwa := Lib.hid HB.size
          have TT := TT.below ba
          have hTd := DkF.below hTd ba
          have bF := fun i h => (⟨(bF i h).1, Nat.lt_of_lt_of_le (bF i h).2 ba.size⟩ : w.heap.size ≤ i ∧ i < wa.heap.size)
          refine hKc.out _ _ (Blk.below hHeld ba) (fun hHeld => ?_)
          clear hKc Kc
          try simp only [Act.put, List.setIfInBounds_toArray, List.set_cons_zero, List.set_cons_succ]
          refine wpAnyH_ready (rs := [6]) (by kernel_rfl) (by simp) ?_
          refine AllReadyH.cons (o := { dst := some 42, op := Op.call { callee := Callee.value (Operand.func 17), args := #[Operand.tmp 36, Operand.tmp 38, Operand.tmp 41], argTypes := #[23, 3, 34] }, type := 4, pos := "law.go:132", after := #[{ on := 0, ground := Ground.data }, { on := 2, ground := Ground.data }, { on := 5, ground := Ground.data }, { on := 5, ground := Ground.chain }], guard := none }) rfl (fun Kc hKc => ?_) AllReadyH.nil
          go_simp
          refine (Disk2.write_yes gd F L W b _ _ _ hTd hbl (by omega) (by omega) (fun i h => (bF i h).2)).mono ?_
          rintro r wb ⟨rfl, hTd, O3⟩
          have HB := O3.below HB HB.size (fun i h => (bF i h).1)
          have TT := TT.out O3 (fun i h => (bF i h).1)
          refine hKc.out _ _ (Out.Blk.out hHeld O3 hgeF.out) (fun hHeld => ?_)
          clear hKc Kc
          try simp only [Act.put, List.setIfInBounds_toArray, List.set_cons_zero, List.set_cons_succ]
          refine wpAnyH_done (by kernel_rfl) ?_ _
          clear hHeld
          have hbF := Lib.hid bF
          clear bF
          go_wp2_with fail
          have bF := hbF.out
          refine (flush_c gd _ _ _ _ _ hTd (hok'.out.push hbl _) (by omega) (by first | omega | (simp; omega)) (fun i h => by rcases h with h | h; exact Nat.lt_of_lt_of_le (bF i h).2 O3.size; exact h.2)).mono ?_
          rintro r wf ⟨rfl, hTd2, O4⟩
          have TT := TT.out O4 (fun i h => by rcases h with h | h; exact (bF i h).1; exact Nat.le_trans hwa.out h.1)
          clear bF
          go_wp2_with fail
          refine (same_c w _ gt gx L W _ TT (by omega) (by omega)).mono ?_
          rintro r ws ⟨rfl, bs⟩
          have HB := bl_thenB TT.bl TT.bl.size bs
          go_wp2_with fail
          refine (DiskA.awake_c _).mono ?_
          rintro r wz ⟨rfl, bz⟩
          go_wp2_with fail
          go_ret
          exact ⟨rfl, bl_thenB HB HB.size bz⟩
        · have hout := Lib.hid (show bl' < 0 ∨ (L.length : Int) ≤ bl' by omega)
          refine wp_region_held_drew (S := (fun w' => Blk w' ge 31 #[.int .i64 kd', .int .i64 bl', .slice A' n' c', .slice Ak' nk' ck'])) (by kernel_rfl) (KE.drew) (fun hHeld => ?_)
          refine wpAnyH_take (i := 0) (oi := { dst := some 36, op := Op.move (Operand.tmp 5), type := 23, pos := "law.go:132", after := #[], guard := none }) (v := ?_) rfl (by kernel_rfl) (by kernel_rfl) (by kernel_rfl) (fun _ _ _ h => h) ?_ hHeld ?_
          rotate_left
          · refine Or.inl ⟨by rfl, fun w hSw => ?_⟩; skip; go_simp; (try with_reducible rfl)
          try simp only [Act.put, List.setIfInBounds_toArray, List.set_cons_zero, List.set_cons_succ]
          refine wpAnyH_take (i := 1) (oi := { dst := some 37, op := Op.fieldAddr 31 (Operand.tmp 3) 1, type := 0, pos := "law.go:132", after := #[], guard := none }) (v := ?_) rfl (by kernel_rfl) (by kernel_rfl) (by kernel_rfl) (fun _ _ _ h => h) ?_ hHeld ?_
          rotate_left
          · refine Or.inl ⟨by rfl, fun w hSw => ?_⟩; skip; go_simp; (try with_reducible rfl)
          try simp only [Act.put, List.setIfInBounds_toArray, List.set_cons_zero, List.set_cons_succ]
          refine wpAnyH_take (i := 2) (oi := { dst := some 38, op := Op.load 3 (Operand.tmp 37), type := 3, pos := "law.go:132", after := #[{ on := 1, ground := Ground.data }], guard := none }) (v := ?_) rfl (by kernel_rfl) (by kernel_rfl) (by kernel_rfl) (fun _ _ _ h => h) ?_ hHeld ?_
          rotate_left
          · refine Or.inl ⟨by rfl, fun w hSw => ?_⟩; have c0 := Blk.cellv hSw 1 (.int .i64 bl') rfl; go_simp; (try with_reducible rfl)
          try simp only [Act.put, List.setIfInBounds_toArray, List.set_cons_zero, List.set_cons_succ]
          refine wpAnyH_take (i := 3) (oi := { dst := some 39, op := Op.fieldAddr 31 (Operand.tmp 3) 2, type := 0, pos := "law.go:132", after := #[], guard := none }) (v := ?_) rfl (by kernel_rfl) (by kernel_rfl) (by kernel_rfl) (fun _ _ _ h => h) ?_ hHeld ?_
          rotate_left
          · refine Or.inl ⟨by rfl, fun w hSw => ?_⟩; skip; go_simp; (try with_reducible rfl)
          try simp only [Act.put, List.setIfInBounds_toArray, List.set_cons_zero, List.set_cons_succ]
          refine wpAnyH_take (i := 4) (oi := { dst := some 40, op := Op.load 28 (Operand.tmp 39), type := 28, pos := "law.go:132", after := #[{ on := 3, ground := Ground.data }], guard := none }) (v := ?_) rfl (by kernel_rfl) (by kernel_rfl) (by kernel_rfl) (fun _ _ _ h => h) ?_ hHeld ?_
          rotate_left
          · refine Or.inl ⟨by rfl, fun w hSw => ?_⟩; have c0 := Blk.cellv hSw 2 (.slice A' n' c') rfl; go_simp; (try with_reducible rfl)
          try simp only [Act.put, List.setIfInBounds_toArray, List.set_cons_zero, List.set_cons_succ]
          refine wpAnyH_ready (rs := [5]) (by kernel_rfl) (by simp) ?_
          refine AllReadyH.cons (o := { dst := some 41, op := Op.call { callee := Callee.value (Operand.func 18), args := #[Operand.tmp 40], argTypes := #[28] }, type := 33, pos := "law.go:132", after := #[{ on := 4, ground := Ground.data }], guard := none }) rfl (fun Kc hKc => ?_) AllReadyH.nil
          go_simp
          refine (of_c A' n' c' xs' _ (he'.out _ HB).1).mono ?_
          rintro r wa ⟨rfl, ba⟩
          have HB := bl_thenB HB HB.size ba
          have hwa := Lib.hid HB.size
          have TT := TT.below ba
          have hTd := DkF.below hTd ba
          have bF := fun i h => (⟨(bF i h).1, Nat.lt_of_lt_of_le (bF i h).2 ba.size⟩ : w.heap.size ≤ i ∧ i < wa.heap.size)
          refine hKc.out _ _ (Blk.below hHeld ba) (fun hHeld => ?_)
          clear hKc Kc
          try simp only [Act.put, List.setIfInBounds_toArray, List.set_cons_zero, List.set_cons_succ]
          refine wpAnyH_ready (rs := [6]) (by kernel_rfl) (by simp) ?_
          refine AllReadyH.cons (o := { dst := some 42, op := Op.call { callee := Callee.value (Operand.func 17), args := #[Operand.tmp 36, Operand.tmp 38, Operand.tmp 41], argTypes := #[23, 3, 34] }, type := 4, pos := "law.go:132", after := #[{ on := 0, ground := Ground.data }, { on := 2, ground := Ground.data }, { on := 5, ground := Ground.data }, { on := 5, ground := Ground.chain }], guard := none }) rfl (fun Kc hKc => ?_) AllReadyH.nil
          go_simp
          refine (Disk2.write_no gd F L W bl' _ _ _ hTd hout.out).mono ?_
          rintro r wb ⟨rfl, bb⟩
          have HB := bl_thenB HB HB.size bb
          have TT := TT.below bb
          have hTd := DkF.below hTd bb
          have bF := fun i h => (⟨(bF i h).1, Nat.lt_of_lt_of_le (bF i h).2 bb.size⟩ : w.heap.size ≤ i ∧ i < wb.heap.size)
          refine hKc.out _ _ (Blk.below hHeld bb) (fun hHeld => ?_)
          clear hKc Kc
          try simp only [Act.put, List.setIfInBounds_toArray, List.set_cons_zero, List.set_cons_succ]
          refine wpAnyH_done (by kernel_rfl) ?_ _
          clear hHeld
          have hbF := Lib.hid bF
          clear bF
          go_wp2_with fail
          have bF := hbF.out
          refine (flush_c gd _ _ _ _ _ hTd hok'.out (by omega) (by first | omega | (simp; omega)) (fun i h => (bF i h).2)).mono ?_
          rintro r wf ⟨rfl, hTd2, O4⟩
          have TT := TT.out O4 (fun i h => (bF i h).1)
          clear bF
          go_wp2_with fail
          refine (same_c w _ gt gx L W _ TT (by omega) (by omega)).mono ?_
          rintro r ws ⟨rfl, bs⟩
          have HB := bl_thenB TT.bl TT.bl.size bs
          go_wp2_with fail
          refine (DiskA.awake_c _).mono ?_
          rintro r wz ⟨rfl, bz⟩
          go_wp2_with fail
          go_ret
          exact ⟨rfl, bl_thenB HB HB.size bz⟩)

def Arg (i : Nat) (w : World) (v : Value) : Prop := if i = 0 then Deeds w v else Deed1 w v
set_option maxRecDepth 100000 in
theorem arg0 {H : Type} {enc : TypeId × Value → H} {W : World} {base : Nat} {v : Value} {d : DataW H} {p : List MemPlace} (hv : Value.okWide Try.prog W .any base 22 v)
    (h : DataW.Trod enc Try.prog W 0 (fun _ => true) true 22 v d p) : Arg 0 W v := by unfold Arg; rw [if_pos rfl]; exact deeds_of hv h
set_option maxRecDepth 100000 in
theorem arg1 {H : Type} {enc : TypeId × Value → H} {W : World} {base : Nat} {v : Value} {d : DataW H} {p : List MemPlace} (hv : Value.okWide Try.prog W .any base 31 v)
    (h : DataW.Trod enc Try.prog W 0 (fun _ => true) true 31 v d p) : Arg 1 W v := by unfold Arg; rw [if_neg (by decide)]; exact deed_of hv h
theorem walk (v0 v1 : Value) (w : World) (h0 : Arg 0 w v0) (h1 : Arg 1 w v1) :
    Calls Try.prog 5 #[v0, v1] w fun e w' => e = .returned (.bool true) ∧ Below w.heap.size w w' := by
  unfold Arg at h0 h1
  rw [if_pos rfl] at h0
  rw [if_neg (by decide)] at h1
  obtain ⟨A, m, c, rfl, hf⟩ := h0
  obtain ⟨d, rfl, hd⟩ := h1
  exact main A m c d w hf hd
end Go.Proofs.Ythihpejhhimkaaa.DiskTwins
