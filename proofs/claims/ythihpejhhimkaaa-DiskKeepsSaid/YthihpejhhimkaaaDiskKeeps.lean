/- The law DiskKeeps. -/
import Derived.Test.YthihpejhhimkaaaDiskK
import Derived.Deep.CutRange
set_option linter.unusedVariables false
namespace Go.Proofs.Ythihpejhhimkaaa.DiskKeeps
open Go.RowKit Go.ChangeShapes Go.WideShapes Go.Deep Go.Proofs.Ythihpejhhimkaaa.Base Go.Proofs.Ythihpejhhimkaaa.Row Go.Proofs.Ythihpejhhimkaaa.App Go.Proofs.Ythihpejhhimkaaa.Multi Go.Proofs.Ythihpejhhimkaaa.Flat Go.Proofs.Ythihpejhhimkaaa.StEq Go.Proofs.Ythihpejhhimkaaa.Held Go.Proofs.Ythihpejhhimkaaa.Out Go.Proofs.Ythihpejhhimkaaa.HeldW Go.Proofs.Ythihpejhhimkaaa.HeldX Go.Proofs.Ythihpejhhimkaaa.DiskMath Go.Proofs.Ythihpejhhimkaaa.Disk Go.Proofs.Ythihpejhhimkaaa.Disk3 Go.Proofs.Ythihpejhhimkaaa.DiskS Go.Proofs.Ythihpejhhimkaaa.DiskU Go.Proofs.Ythihpejhhimkaaa.DiskV Go.Proofs.Ythihpejhhimkaaa.DiskW Go.Proofs.Ythihpejhhimkaaa.DiskX Go.Proofs.Ythihpejhhimkaaa.DiskZ Go.Proofs.Ythihpejhhimkaaa.DiskK

theorem cell_drew {w : World} {a : Addr} {v : Value} (h : w.cell? a = some v) : w.drew.cell? a = some v := bl_cell (bl_drew (bl_refl w)) h
theorem _root_.Go.Proofs.Ythihpejhhimkaaa.DiskV.DeedAt.drew0 {w : World} {q : Addr} {d : Dd} (h : DeedAt w q d) : DeedAt w.drew q d := h.below rfl (bl_drew (bl_refl w))
set_option maxRecDepth 100000 in
set_option maxHeartbeats 8000000 in
theorem main (A0 : Option Addr) (n0 c0 : Nat) (A1 : Option Addr) (n1 c1 : Nat) (Ak : Option Addr) (nk ck : Nat) (ks : List Bool) (w : World) (hd : FlatRow w (d4 w) A0 n0 c0) (hm : FlatRow w (d4 w) A1 n1 c1) (hk : RF bo 1 w Ak nk ks) (hka : ∀ a, Ak = some a → 0 < nk → a.block < w.heap.size) :
    Calls Try.prog 4 #[.slice A0 n0 c0, .slice A1 n1 c1, .slice Ak nk ck] w fun e w' => e = .returned (.bool true) ∧ Below w.heap.size w w' := by
  have hdd := Lib.hid hd
  have hmm := Lib.hid hm
  have hmx := flat_max hd
  have hmx1 := flat_max hm
  have hkk := Lib.hid (fun w' (hb : Below w.heap.size w w') => hk.below hb)
  have hkk2 := Lib.hid hka
  clear hd hm hk hka
  go_enter Try.func4, Try.ntmps4
  go_wp2_with fail
  have hN1 := two_new 6 (by omega) (by omega) w w.heap.size (bl_refl w).size
  have hN2 := fun w' gd F hp hD bF hB => two_rnew 6 (by omega) w w' w gd (fun _ => False) F hp hD bF (fun i h => h.elim) hB
  rw [show ((6 : Nat) : Int) = 6 from rfl] at hN1
  simp only [show ((6 : Nat) : Int) = 6 from rfl] at hN2
  refine hN1.mono ?_
  rintro r wn1 ⟨gd, rfl, ⟨F, hD, bF⟩, bn1⟩
  have HBn := bl_then (bl_refl w) bn1
  go_wp2_with fail
  refine (hN2 wn1 gd F (bl_refl w).size hD bF HBn).mono ?_
  rintro r wn2 ⟨gx, rfl, T⟩
  clear hN1 hN2 hD bF
  go_wp2_with fail
  go_loopw [9] (fun i wr => ∃ (k : Nat) (L : List Bk) (W : List Wr), k ≤ n0 ∧ k ≤ 30 ∧ i = .int .i64 k ∧ Two w (fun _ => False) wr gd gx L W L W ∧ Ok L W ∧ L.length = 6 ∧ W.length ≤ k) (fun i _ => 30 + 1 - (intOf i).toNat)
  case atStart => exact ⟨0, _, [], by omega, by omega, rfl, T, ok_nil _, List.length_replicate, by simp⟩
  case round =>
    clear T
    obtain ⟨k, L, W, hk, hkl, rfl, T, hok, hLN, hWk⟩ := hrel
    obtain ⟨wo, rfl⟩ : ∃ wo : World, wo = wr := ⟨_, rfl⟩
    have hLN' := Lib.hid hLN
    have hok' := Lib.hid hok
    have hL32 : L.length ≤ 32 := by omega
    have hW900 : W.length ≤ 900 := by omega
    have hWk' := Lib.hid hWk
    have T' := Lib.hid T
    clear hLN hWk T hok HBn bn1
    go_upto_region 6 with fail
    go_cut [31] from 24 to 40 (fun sv wx => sv = .bool (decide (k < n0 ∧ k < 30)) ∧ wo = wx)
    case first =>
      clear T' hok' hLN' hWk' hdd hmm hkk hkk2
      by_cases h1 : k < n0
      · have hq : decide ((k : Int) < (n0 : Int)) = true := by simp; omega
        have hq3 : (k : Int) < (n0 : Int) := by omega
        by_cases h2 : k < 30
        · have hq2 : decide ((k : Int) < 30) = true := by simp; omega
          have hq4 : (k : Int) < 30 := by omega
          have hfin : Hid (decide (k < n0 ∧ k < 30) = true) := Lib.hid (by simp; omega)
          go_wp2_with fail
          go_meet
          exact ⟨by rw [hfin.out], rfl⟩
        · have hq2 : decide ((k : Int) < 30) = false := by simp; omega
          have hfin : Hid (decide (k < n0 ∧ k < 30) = false) := Lib.hid (by simp; omega)
          go_wp2_with fail
          go_meet
          exact ⟨by rw [hfin.out], rfl⟩
      · have hq : decide ((k : Int) < (n0 : Int)) = false := by simp; omega
        have hfin : Hid (decide (k < n0 ∧ k < 30) = false) := Lib.hid (by simp; omega)
        go_wp2_with fail
        go_meet
        exact ⟨by rw [hfin.out], rfl⟩
    case rest =>
      obtain ⟨rfl, rfl⟩ := hcut
      rcases Decidable.em (k < n0 ∧ k < 30) with hlt | hlt
      · have hdec : decide (k < n0 ∧ k < 30) = true := by simpa using hlt
        rw [hdec]
        have hlt1 := hlt.1
        have hlt2 := hlt.2
        have hq3 : (k : Int) < (n0 : Int) := by omega
        have hq4 : (k : Int) < 30 := by omega
        obtain ⟨ad, d, rfl, DA, hd⟩ := deed_at hdd.out k hlt1
        obtain ⟨e0, e1, e2, e3⟩ := DA.below rfl T'.out.bl
        have hok2 := Lib.hid (pdo_ok (d := d) hok'.out)
        have hln2 := Lib.hid (pdo_len d L W)
        have hwn2 := Lib.hid (pdo_w d L W)
        have hC := fun w' h => does_c w (fun _ => False) gd gx L W d w' h hok'.out hL32 hW900 hd
        clear hd DA hdec hlt
        generalize pdo d L W = pr at *
        obtain ⟨kd, bl, A, n, c, xs, Ad, nd, cd, ds⟩ := d
        simp only [dv] at hC e0 e1 e2 e3
        have hC := Lib.hid hC
        obtain ⟨L2, W2⟩ := pr
        simp only at hok2 hln2 hwn2
        go_wp2_with fail
        refine (hC.out _ T'.out).mono ?_
        rintro r w3 ⟨rfl, T3, O3⟩
        simp only at T3
        clear e0 e1 e2 e3 hC O3 T'
        go_wp2_with fail
        go_roundw
        case rel => exact ⟨k + 1, L2, W2, by omega, by omega, by go_num, T3, hok2.out, by rw [hln2.out]; exact hLN'.out, by have h1 := hwn2.out; have h2 := hWk'.out; omega⟩
        case measure => first | (simp [intOf]; done) | (simp [intOf]; omega)
      · have hdec : decide (k < n0 ∧ k < 30) = false := by simpa using hlt
        rw [hdec]
        have hW30 : W.length ≤ 30 := by have := hWk'.out; omega
        have hL6 := hLN'.out
        clear hlt hdec hWk' hLN' hdd
        go_wp2_with fail
        refine (two_flush T'.out hok'.out (by omega) (by omega)).mono ?_
        rintro r w2 ⟨rfl, T2, _⟩
        have hL1 : (land W yes L W.length).length = 6 := by rw [land_len]; exact hL6
        have hLW := Lib.hid (land_len W yes L W.length)
        generalize land W yes L W.length = L1 at *
        have T2' := Lib.hid T2
        obtain ⟨F, G, hF, hG, bF, bG, hFG, hRo, HB⟩ := T2
        have hTw := Lib.hid (Disk4.twin_c gd F L1 [] w.heap.size w2 hF (by omega) (by simp) HB.size)
        clear hF hG bF bG hFG hRo HB T' hok' hLW
        go_wp2_with fail
        refine hTw.out.mono ?_
        rintro r w3 ⟨gt, rfl, hTt, b3⟩
        have K0 := ks_start T2'.out b3 hTt
        have z3 := b3.size
        generalize gro (fun _ => False) w2 w3 = Rt at *
        clear hTt b3 T2' hTw F G
        have K0' := Lib.hid K0
        clear K0
        go_wp2_with fail
        go_loopw [11, 12] (fun o i wr => ∃ (k m : Nat) (Aw : Option Addr) (cw : Nat) (W2 : List Wr) (V : List (Int × Nat)), k ≤ n1 ∧ k ≤ 30 ∧ i = .int .i64 k ∧ o = .slice Aw m cw ∧ Hid (W2.length ≤ k) ∧ Hid (KS w w3.heap.size Rt gd gx gt L1 L1 L W wr Aw m cw W2 V) ∧ Hid (Ok L1 W2) ∧ Hid (Rel w A1 n1 W2 V)) (fun _ i _ => 30 + 1 - (intOf i).toNat)
        case atStart => exact ⟨0, 0, none, 0, [], [], by omega, by omega, rfl, rfl, Lib.hid (by simp), K0', Lib.hid (ok_nil _), Lib.hid (rel_nil _ _ _)⟩
        case round =>
          clear K0'
          obtain ⟨k, m, Aw, cw, W2, V, hk, hk30, rfl, rfl, hW2, K, hok2, hrel2⟩ := hrel
          obtain ⟨wo, rfl⟩ : ∃ wo : World, wo = wr := ⟨_, rfl⟩
          go_upto_region 13 with fail
          go_cut [52] from 45 to 93 (fun sv wx => sv = .bool (decide (k < n1 ∧ k < 30)) ∧ wo = wx)
          case first =>
            clear K hok2 hrel2 hW2 hmm hkk hkk2
            by_cases h1 : k < n1
            · have hq : decide ((k : Int) < (n1 : Int)) = true := by simp; omega
              have hq3 : (k : Int) < (n1 : Int) := by omega
              by_cases h2 : k < 30
              · have hq2 : decide ((k : Int) < 30) = true := by simp; omega
                have hq4 : (k : Int) < 30 := by omega
                have hfin : Hid (decide (k < n1 ∧ k < 30) = true) := Lib.hid (by simp; omega)
                go_wp2_with fail
                go_meet
                exact ⟨by rw [hfin.out], rfl⟩
              · have hq2 : decide ((k : Int) < 30) = false := by simp; omega
                have hfin : Hid (decide (k < n1 ∧ k < 30) = false) := Lib.hid (by simp; omega)
                go_wp2_with fail
                go_meet
                exact ⟨by rw [hfin.out], rfl⟩
            · have hq : decide ((k : Int) < (n1 : Int)) = false := by simp; omega
              have hfin : Hid (decide (k < n1 ∧ k < 30) = false) := Lib.hid (by simp; omega)
              go_wp2_with fail
              go_meet
              exact ⟨by rw [hfin.out], rfl⟩
          case rest =>
            obtain ⟨rfl, rfl⟩ := hcut
            rcases Decidable.em (k < n1 ∧ k < 30) with hlt | hlt
            · have hdec : decide (k < n1 ∧ k < 30) = true := by simpa using hlt
              rw [hdec]
              have hlt1 := hlt.1
              have hlt2 := hlt.2
              have hq3 : (k : Int) < (n1 : Int) := by omega
              have hq4 : (k : Int) < 30 := by omega
              obtain ⟨ad, d, rfl, DA0, hd⟩ := deed_at hmm.out k hlt1
              have hdB := Lib.hid (fun w' (hb : Below w.heap.size w w') => hd.below hb)
              have hDA := Lib.hid (fun w' (hb : Below w.heap.size w w') => DA0.below rfl hb)
              have hpush := Lib.hid (fun b => hrel2.out.push b k d ad hlt1 rfl DA0 hd)
              clear hd DA0 hdec hlt
              obtain ⟨kd, bl, A, n, c, xs, Ad, nd, cd, ds⟩ := d
              simp only at hpush
              have hL1' := hL1
              have hW2' := hW2.out
              have K' := K
              replace K := K.out
              have DA := hDA.out _ K.bl
              have hcase : kd < 0 ∨ (0 ≤ kd ∧ ¬ kd ≤ 4) ∨ (0 ≤ kd ∧ kd ≤ 4 ∧ 0 ≤ bl ∧ bl < L1.length) ∨ (0 ≤ kd ∧ kd ≤ 4 ∧ (bl < 0 ∨ (L1.length : Int) ≤ bl)) := by omega
              go_upto_region 15 with fail
              rcases hcase with q0 | ⟨q0, q1⟩ | ⟨q0, q1, q2, q3⟩ | ⟨q0, q1, q2⟩
              · have g0 : decide (0 ≤ kd) = false := by simp; omega
                refine wp_region_held_drew (S := (fun w' => DeedAt w' (ad.add (k * 4)) (⟨kd, bl, A, n, c, xs, Ad, nd, cd, ds⟩ : Dd))) (by kernel_rfl) (DA.drew0) (fun hHeld => ?_)
                refine wpAnyH_take (i := 0) (oi := { dst := some 55, op := Op.move (Operand.tmp 1), type := 22, pos := "law.go:98", after := #[], guard := none }) (v := ?_) rfl (by kernel_rfl) (by kernel_rfl) (by kernel_rfl) (fun _ _ _ h => h) ?_ hHeld ?_
                rotate_left
                · refine Or.inl ⟨by rfl, fun w hSw => ?_⟩; skip; go_simp; (try with_reducible rfl)
                try simp only [Act.put, List.setIfInBounds_toArray, List.set_cons_zero, List.set_cons_succ]
                refine wpAnyH_take (i := 1) (oi := { dst := some 56, op := Op.move (Operand.tmp 12), type := 3, pos := "law.go:98", after := #[], guard := none }) (v := ?_) rfl (by kernel_rfl) (by kernel_rfl) (by kernel_rfl) (fun _ _ _ h => h) ?_ hHeld ?_
                rotate_left
                · refine Or.inl ⟨by rfl, fun w hSw => ?_⟩; skip; go_simp; (try with_reducible rfl)
                try simp only [Act.put, List.setIfInBounds_toArray, List.set_cons_zero, List.set_cons_succ]
                refine wpAnyH_take (i := 2) (oi := { dst := some 57, op := Op.indexAddr 22 (Operand.tmp 55) (Operand.tmp 56), type := 0, pos := "law.go:98", after := #[{ on := 0, ground := Ground.data }, { on := 1, ground := Ground.data }], guard := none }) (v := ?_) rfl (by kernel_rfl) (by kernel_rfl) (by kernel_rfl) (fun _ _ _ h => h) ?_ hHeld ?_
                rotate_left
                · refine Or.inl ⟨by rfl, fun w hSw => ?_⟩; skip; go_simp; (try with_reducible rfl)
                try simp only [Act.put, List.setIfInBounds_toArray, List.set_cons_zero, List.set_cons_succ]
                refine wpAnyH_take (i := 3) (oi := { dst := some 58, op := Op.fieldAddr 31 (Operand.tmp 57) 0, type := 0, pos := "law.go:98", after := #[{ on := 2, ground := Ground.data }], guard := none }) (v := ?_) rfl (by kernel_rfl) (by kernel_rfl) (by kernel_rfl) (fun _ _ _ h => h) ?_ hHeld ?_
                rotate_left
                · refine Or.inl ⟨by rfl, fun w hSw => ?_⟩; skip; go_simp; (try with_reducible rfl)
                try simp only [Act.put, List.setIfInBounds_toArray, List.set_cons_zero, List.set_cons_succ]
                refine wpAnyH_take (i := 4) (oi := { dst := some 59, op := Op.load 3 (Operand.tmp 58), type := 3, pos := "law.go:98", after := #[{ on := 3, ground := Ground.data }], guard := none }) (v := ?_) rfl (by kernel_rfl) (by kernel_rfl) (by kernel_rfl) (fun _ _ _ h => h) ?_ hHeld ?_
                rotate_left
                · refine Or.inl ⟨by rfl, fun w hSw => ?_⟩; have c0 : w.cell? (ad.add (k * 4)) = some (.int .i64 kd) := hSw.1; go_simp; (try with_reducible rfl)
                try simp only [Act.put, List.setIfInBounds_toArray, List.set_cons_zero, List.set_cons_succ]
                refine wpAnyH_take (i := 5) (oi := { dst := some 60, op := Op.binOp BinOp.geq 3 (Operand.tmp 59) (Operand.const (Value.int IntKind.i64 0)) 3, type := 4, pos := "law.go:98", after := #[{ on := 4, ground := Ground.data }], guard := none }) (v := ?_) rfl (by kernel_rfl) (by kernel_rfl) (by kernel_rfl) (fun _ _ _ h => h) ?_ hHeld ?_
                rotate_left
                · refine Or.inl ⟨by rfl, fun w hSw => ?_⟩; skip; go_simp; (try with_reducible rfl)
                try simp only [Act.put, List.setIfInBounds_toArray, List.set_cons_zero, List.set_cons_succ]
                refine wpAnyH_take (i := 6) (oi := { dst := some 61, op := Op.move (Operand.tmp 60), type := 4, pos := "law.go:98", after := #[{ on := 5, ground := Ground.data }], guard := none }) (v := ?_) rfl (by kernel_rfl) (by kernel_rfl) (by kernel_rfl) (fun _ _ _ h => h) ?_ hHeld ?_
                rotate_left
                · refine Or.inl ⟨by rfl, fun w hSw => ?_⟩; skip; go_simp; (try with_reducible rfl)
                try simp only [Act.put, List.setIfInBounds_toArray, List.set_cons_zero, List.set_cons_succ]
                refine wpAnyH_take (i := 7) (oi := { dst := some 62, op := Op.move (Operand.tmp 1), type := 22, pos := "law.go:98", after := #[{ on := 6, ground := Ground.guard }], guard := some (6, true) }) (v := ?_) rfl (by kernel_rfl) (by kernel_rfl) (by kernel_rfl) (fun _ _ _ h => h) ?_ hHeld ?_
                rotate_left
                · refine Or.inr ⟨by rfl, ?_⟩; rfl
                try simp only [Act.put, List.setIfInBounds_toArray, List.set_cons_zero, List.set_cons_succ]
                refine wpAnyH_take (i := 8) (oi := { dst := some 63, op := Op.move (Operand.tmp 12), type := 3, pos := "law.go:98", after := #[{ on := 6, ground := Ground.guard }], guard := some (6, true) }) (v := ?_) rfl (by kernel_rfl) (by kernel_rfl) (by kernel_rfl) (fun _ _ _ h => h) ?_ hHeld ?_
                rotate_left
                · refine Or.inr ⟨by rfl, ?_⟩; rfl
                try simp only [Act.put, List.setIfInBounds_toArray, List.set_cons_zero, List.set_cons_succ]
                refine wpAnyH_take (i := 9) (oi := { dst := some 64, op := Op.indexAddr 22 (Operand.tmp 62) (Operand.tmp 63), type := 0, pos := "law.go:98", after := #[{ on := 7, ground := Ground.data }, { on := 8, ground := Ground.data }, { on := 6, ground := Ground.guard }], guard := some (6, true) }) (v := ?_) rfl (by kernel_rfl) (by kernel_rfl) (by kernel_rfl) (fun _ _ _ h => h) ?_ hHeld ?_
                rotate_left
                · refine Or.inr ⟨by rfl, ?_⟩; rfl
                try simp only [Act.put, List.setIfInBounds_toArray, List.set_cons_zero, List.set_cons_succ]
                refine wpAnyH_take (i := 10) (oi := { dst := some 65, op := Op.fieldAddr 31 (Operand.tmp 64) 0, type := 0, pos := "law.go:98", after := #[{ on := 9, ground := Ground.data }, { on := 6, ground := Ground.guard }], guard := some (6, true) }) (v := ?_) rfl (by kernel_rfl) (by kernel_rfl) (by kernel_rfl) (fun _ _ _ h => h) ?_ hHeld ?_
                rotate_left
                · refine Or.inr ⟨by rfl, ?_⟩; rfl
                try simp only [Act.put, List.setIfInBounds_toArray, List.set_cons_zero, List.set_cons_succ]
                refine wpAnyH_take (i := 11) (oi := { dst := some 66, op := Op.load 3 (Operand.tmp 65), type := 3, pos := "law.go:98", after := #[{ on := 10, ground := Ground.data }, { on := 6, ground := Ground.guard }], guard := some (6, true) }) (v := ?_) rfl (by kernel_rfl) (by kernel_rfl) (by kernel_rfl) (fun _ _ _ h => h) ?_ hHeld ?_
                rotate_left
                · refine Or.inr ⟨by rfl, ?_⟩; rfl
                try simp only [Act.put, List.setIfInBounds_toArray, List.set_cons_zero, List.set_cons_succ]
                refine wpAnyH_take (i := 12) (oi := { dst := some 67, op := Op.binOp BinOp.leq 3 (Operand.tmp 66) (Operand.const (Value.int IntKind.i64 4)) 3, type := 4, pos := "law.go:98", after := #[{ on := 11, ground := Ground.data }, { on := 6, ground := Ground.guard }], guard := some (6, true) }) (v := ?_) rfl (by kernel_rfl) (by kernel_rfl) (by kernel_rfl) (fun _ _ _ h => h) ?_ hHeld ?_
                rotate_left
                · refine Or.inr ⟨by rfl, ?_⟩; rfl
                try simp only [Act.put, List.setIfInBounds_toArray, List.set_cons_zero, List.set_cons_succ]
                refine wpAnyH_take (i := 13) (oi := { dst := some 68, op := Op.pick (Operand.tmp 61) (Operand.tmp 67) (Operand.const (Value.bool false)), type := 4, pos := "law.go:98", after := #[{ on := 6, ground := Ground.data }, { on := 12, ground := Ground.data }], guard := none }) (v := ?_) rfl (by kernel_rfl) (by kernel_rfl) (by kernel_rfl) (fun _ _ _ h => h) ?_ hHeld ?_
                rotate_left
                · refine Or.inl ⟨by rfl, fun w hSw => ?_⟩; skip; go_simp; (try with_reducible rfl)
                try simp only [Act.put, List.setIfInBounds_toArray, List.set_cons_zero, List.set_cons_succ]
                refine wpAnyH_take (i := 14) (oi := { dst := some 69, op := Op.move (Operand.tmp 68), type := 4, pos := "law.go:98", after := #[{ on := 13, ground := Ground.data }, { on := 6, ground := Ground.chain }], guard := none }) (v := ?_) rfl (by kernel_rfl) (by kernel_rfl) (by kernel_rfl) (fun _ _ _ h => h) ?_ hHeld ?_
                rotate_left
                · refine Or.inl ⟨by rfl, fun w hSw => ?_⟩; skip; go_simp; (try with_reducible rfl)
                try simp only [Act.put, List.setIfInBounds_toArray, List.set_cons_zero, List.set_cons_succ]
                refine wpAnyH_take (i := 15) (oi := { dst := some 70, op := Op.move (Operand.tmp 7), type := 23, pos := "law.go:98", after := #[{ on := 14, ground := Ground.guard }], guard := some (14, true) }) (v := ?_) rfl (by kernel_rfl) (by kernel_rfl) (by kernel_rfl) (fun _ _ _ h => h) ?_ hHeld ?_
                rotate_left
                · refine Or.inr ⟨by rfl, ?_⟩; rfl
                try simp only [Act.put, List.setIfInBounds_toArray, List.set_cons_zero, List.set_cons_succ]
                refine wpAnyH_take (i := 16) (oi := { dst := some 71, op := Op.move (Operand.tmp 1), type := 22, pos := "law.go:98", after := #[{ on := 14, ground := Ground.guard }], guard := some (14, true) }) (v := ?_) rfl (by kernel_rfl) (by kernel_rfl) (by kernel_rfl) (fun _ _ _ h => h) ?_ hHeld ?_
                rotate_left
                · refine Or.inr ⟨by rfl, ?_⟩; rfl
                try simp only [Act.put, List.setIfInBounds_toArray, List.set_cons_zero, List.set_cons_succ]
                refine wpAnyH_take (i := 17) (oi := { dst := some 72, op := Op.move (Operand.tmp 12), type := 3, pos := "law.go:98", after := #[{ on := 14, ground := Ground.guard }], guard := some (14, true) }) (v := ?_) rfl (by kernel_rfl) (by kernel_rfl) (by kernel_rfl) (fun _ _ _ h => h) ?_ hHeld ?_
                rotate_left
                · refine Or.inr ⟨by rfl, ?_⟩; rfl
                try simp only [Act.put, List.setIfInBounds_toArray, List.set_cons_zero, List.set_cons_succ]
                refine wpAnyH_take (i := 18) (oi := { dst := some 73, op := Op.indexAddr 22 (Operand.tmp 71) (Operand.tmp 72), type := 0, pos := "law.go:98", after := #[{ on := 16, ground := Ground.data }, { on := 17, ground := Ground.data }, { on := 14, ground := Ground.guard }], guard := some (14, true) }) (v := ?_) rfl (by kernel_rfl) (by kernel_rfl) (by kernel_rfl) (fun _ _ _ h => h) ?_ hHeld ?_
                rotate_left
                · refine Or.inr ⟨by rfl, ?_⟩; rfl
                try simp only [Act.put, List.setIfInBounds_toArray, List.set_cons_zero, List.set_cons_succ]
                refine wpAnyH_take (i := 19) (oi := { dst := some 74, op := Op.fieldAddr 31 (Operand.tmp 73) 1, type := 0, pos := "law.go:98", after := #[{ on := 18, ground := Ground.data }, { on := 14, ground := Ground.guard }], guard := some (14, true) }) (v := ?_) rfl (by kernel_rfl) (by kernel_rfl) (by kernel_rfl) (fun _ _ _ h => h) ?_ hHeld ?_
                rotate_left
                · refine Or.inr ⟨by rfl, ?_⟩; rfl
                try simp only [Act.put, List.setIfInBounds_toArray, List.set_cons_zero, List.set_cons_succ]
                refine wpAnyH_take (i := 20) (oi := { dst := some 75, op := Op.load 3 (Operand.tmp 74), type := 3, pos := "law.go:98", after := #[{ on := 19, ground := Ground.data }, { on := 14, ground := Ground.guard }], guard := some (14, true) }) (v := ?_) rfl (by kernel_rfl) (by kernel_rfl) (by kernel_rfl) (fun _ _ _ h => h) ?_ hHeld ?_
                rotate_left
                · refine Or.inr ⟨by rfl, ?_⟩; rfl
                try simp only [Act.put, List.setIfInBounds_toArray, List.set_cons_zero, List.set_cons_succ]
                refine wpAnyH_take (i := 21) (oi := { dst := some 76, op := Op.move (Operand.tmp 1), type := 22, pos := "law.go:98", after := #[{ on := 14, ground := Ground.guard }], guard := some (14, true) }) (v := ?_) rfl (by kernel_rfl) (by kernel_rfl) (by kernel_rfl) (fun _ _ _ h => h) ?_ hHeld ?_
                rotate_left
                · refine Or.inr ⟨by rfl, ?_⟩; rfl
                try simp only [Act.put, List.setIfInBounds_toArray, List.set_cons_zero, List.set_cons_succ]
                refine wpAnyH_take (i := 22) (oi := { dst := some 77, op := Op.move (Operand.tmp 12), type := 3, pos := "law.go:98", after := #[{ on := 14, ground := Ground.guard }], guard := some (14, true) }) (v := ?_) rfl (by kernel_rfl) (by kernel_rfl) (by kernel_rfl) (fun _ _ _ h => h) ?_ hHeld ?_
                rotate_left
                · refine Or.inr ⟨by rfl, ?_⟩; rfl
                try simp only [Act.put, List.setIfInBounds_toArray, List.set_cons_zero, List.set_cons_succ]
                refine wpAnyH_take (i := 23) (oi := { dst := some 78, op := Op.indexAddr 22 (Operand.tmp 76) (Operand.tmp 77), type := 0, pos := "law.go:98", after := #[{ on := 21, ground := Ground.data }, { on := 22, ground := Ground.data }, { on := 14, ground := Ground.guard }], guard := some (14, true) }) (v := ?_) rfl (by kernel_rfl) (by kernel_rfl) (by kernel_rfl) (fun _ _ _ h => h) ?_ hHeld ?_
                rotate_left
                · refine Or.inr ⟨by rfl, ?_⟩; rfl
                try simp only [Act.put, List.setIfInBounds_toArray, List.set_cons_zero, List.set_cons_succ]
                refine wpAnyH_take (i := 24) (oi := { dst := some 79, op := Op.fieldAddr 31 (Operand.tmp 78) 2, type := 0, pos := "law.go:98", after := #[{ on := 23, ground := Ground.data }, { on := 14, ground := Ground.guard }], guard := some (14, true) }) (v := ?_) rfl (by kernel_rfl) (by kernel_rfl) (by kernel_rfl) (fun _ _ _ h => h) ?_ hHeld ?_
                rotate_left
                · refine Or.inr ⟨by rfl, ?_⟩; rfl
                try simp only [Act.put, List.setIfInBounds_toArray, List.set_cons_zero, List.set_cons_succ]
                refine wpAnyH_take (i := 25) (oi := { dst := some 80, op := Op.load 28 (Operand.tmp 79), type := 28, pos := "law.go:98", after := #[{ on := 24, ground := Ground.data }, { on := 14, ground := Ground.guard }], guard := some (14, true) }) (v := ?_) rfl (by kernel_rfl) (by kernel_rfl) (by kernel_rfl) (fun _ _ _ h => h) ?_ hHeld ?_
                rotate_left
                · refine Or.inr ⟨by rfl, ?_⟩; rfl
                try simp only [Act.put, List.setIfInBounds_toArray, List.set_cons_zero, List.set_cons_succ]
                refine wpAnyH_take (i := 26) (oi := { dst := some 81, op := Op.call { callee := Callee.value (Operand.func 18), args := #[Operand.tmp 80], argTypes := #[28] }, type := 33, pos := "law.go:98", after := #[{ on := 25, ground := Ground.data }, { on := 14, ground := Ground.chain }, { on := 14, ground := Ground.guard }], guard := some (14, true) }) (v := ?_) rfl (by kernel_rfl) (by kernel_rfl) (by kernel_rfl) (fun _ _ _ h => h) ?_ hHeld ?_
                rotate_left
                · refine Or.inr ⟨by rfl, ?_⟩; rfl
                try simp only [Act.put, List.setIfInBounds_toArray, List.set_cons_zero, List.set_cons_succ]
                refine wpAnyH_take (i := 27) (oi := { dst := some 82, op := Op.call { callee := Callee.value (Operand.func 17), args := #[Operand.tmp 70, Operand.tmp 75, Operand.tmp 81], argTypes := #[23, 3, 34] }, type := 4, pos := "law.go:98", after := #[{ on := 15, ground := Ground.data }, { on := 20, ground := Ground.data }, { on := 26, ground := Ground.data }, { on := 26, ground := Ground.chain }, { on := 14, ground := Ground.guard }], guard := some (14, true) }) (v := ?_) rfl (by kernel_rfl) (by kernel_rfl) (by kernel_rfl) (fun _ _ _ h => h) ?_ hHeld ?_
                rotate_left
                · refine Or.inr ⟨by rfl, ?_⟩; rfl
                try simp only [Act.put, List.setIfInBounds_toArray, List.set_cons_zero, List.set_cons_succ]
                refine wpAnyH_take (i := 28) (oi := { dst := some 83, op := Op.pick (Operand.tmp 69) (Operand.tmp 82) (Operand.const (Value.bool false)), type := 4, pos := "law.go:98", after := #[{ on := 14, ground := Ground.data }, { on := 27, ground := Ground.data }], guard := none }) (v := ?_) rfl (by kernel_rfl) (by kernel_rfl) (by kernel_rfl) (fun _ _ _ h => h) ?_ hHeld ?_
                rotate_left
                · refine Or.inl ⟨by rfl, fun w hSw => ?_⟩; skip; go_simp; (try with_reducible rfl)
                try simp only [Act.put, List.setIfInBounds_toArray, List.set_cons_zero, List.set_cons_succ]
                refine wpAnyH_done (by kernel_rfl) ?_ _
                replace K := Lib.hid (K.below (bl_drew (bl_refl _)))
                clear DA hHeld K'
                go_wp2_with fail
                go_roundw
                case rel => exact ⟨k + 1, m, Aw, cw, W2, V, by omega, by omega, by go_num, rfl, Lib.hid (by omega), K, hok2, hrel2⟩
                case measure => first | (simp [intOf]; done) | (simp [intOf]; omega)
              · have g0 : decide (0 ≤ kd) = true := by simpa using q0
                have g1 : decide (kd ≤ 4) = false := by simpa using q1
                refine wp_region_held_drew (S := (fun w' => DeedAt w' (ad.add (k * 4)) (⟨kd, bl, A, n, c, xs, Ad, nd, cd, ds⟩ : Dd))) (by kernel_rfl) (DA.drew0) (fun hHeld => ?_)
                refine wpAnyH_take (i := 0) (oi := { dst := some 55, op := Op.move (Operand.tmp 1), type := 22, pos := "law.go:98", after := #[], guard := none }) (v := ?_) rfl (by kernel_rfl) (by kernel_rfl) (by kernel_rfl) (fun _ _ _ h => h) ?_ hHeld ?_
                rotate_left
                · refine Or.inl ⟨by rfl, fun w hSw => ?_⟩; skip; go_simp; (try with_reducible rfl)
                try simp only [Act.put, List.setIfInBounds_toArray, List.set_cons_zero, List.set_cons_succ]
                refine wpAnyH_take (i := 1) (oi := { dst := some 56, op := Op.move (Operand.tmp 12), type := 3, pos := "law.go:98", after := #[], guard := none }) (v := ?_) rfl (by kernel_rfl) (by kernel_rfl) (by kernel_rfl) (fun _ _ _ h => h) ?_ hHeld ?_
                rotate_left
                · refine Or.inl ⟨by rfl, fun w hSw => ?_⟩; skip; go_simp; (try with_reducible rfl)
                try simp only [Act.put, List.setIfInBounds_toArray, List.set_cons_zero, List.set_cons_succ]
                refine wpAnyH_take (i := 2) (oi := { dst := some 57, op := Op.indexAddr 22 (Operand.tmp 55) (Operand.tmp 56), type := 0, pos := "law.go:98", after := #[{ on := 0, ground := Ground.data }, { on := 1, ground := Ground.data }], guard := none }) (v := ?_) rfl (by kernel_rfl) (by kernel_rfl) (by kernel_rfl) (fun _ _ _ h => h) ?_ hHeld ?_
                rotate_left
                · refine Or.inl ⟨by rfl, fun w hSw => ?_⟩; skip; go_simp; (try with_reducible rfl)
                try simp only [Act.put, List.setIfInBounds_toArray, List.set_cons_zero, List.set_cons_succ]
                refine wpAnyH_take (i := 3) (oi := { dst := some 58, op := Op.fieldAddr 31 (Operand.tmp 57) 0, type := 0, pos := "law.go:98", after := #[{ on := 2, ground := Ground.data }], guard := none }) (v := ?_) rfl (by kernel_rfl) (by kernel_rfl) (by kernel_rfl) (fun _ _ _ h => h) ?_ hHeld ?_
                rotate_left
                · refine Or.inl ⟨by rfl, fun w hSw => ?_⟩; skip; go_simp; (try with_reducible rfl)
                try simp only [Act.put, List.setIfInBounds_toArray, List.set_cons_zero, List.set_cons_succ]
                refine wpAnyH_take (i := 4) (oi := { dst := some 59, op := Op.load 3 (Operand.tmp 58), type := 3, pos := "law.go:98", after := #[{ on := 3, ground := Ground.data }], guard := none }) (v := ?_) rfl (by kernel_rfl) (by kernel_rfl) (by kernel_rfl) (fun _ _ _ h => h) ?_ hHeld ?_
                rotate_left
                · refine Or.inl ⟨by rfl, fun w hSw => ?_⟩; have c0 : w.cell? (ad.add (k * 4)) = some (.int .i64 kd) := hSw.1; go_simp; (try with_reducible rfl)
                try simp only [Act.put, List.setIfInBounds_toArray, List.set_cons_zero, List.set_cons_succ]
                refine wpAnyH_take (i := 5) (oi := { dst := some 60, op := Op.binOp BinOp.geq 3 (Operand.tmp 59) (Operand.const (Value.int IntKind.i64 0)) 3, type := 4, pos := "law.go:98", after := #[{ on := 4, ground := Ground.data }], guard := none }) (v := ?_) rfl (by kernel_rfl) (by kernel_rfl) (by kernel_rfl) (fun _ _ _ h => h) ?_ hHeld ?_
                rotate_left
                · refine Or.inl ⟨by rfl, fun w hSw => ?_⟩; skip; go_simp; (try with_reducible rfl)
                try simp only [Act.put, List.setIfInBounds_toArray, List.set_cons_zero, List.set_cons_succ]
                refine wpAnyH_take (i := 6) (oi := { dst := some 61, op := Op.move (Operand.tmp 60), type := 4, pos := "law.go:98", after := #[{ on := 5, ground := Ground.data }], guard := none }) (v := ?_) rfl (by kernel_rfl) (by kernel_rfl) (by kernel_rfl) (fun _ _ _ h => h) ?_ hHeld ?_
                rotate_left
                · refine Or.inl ⟨by rfl, fun w hSw => ?_⟩; skip; go_simp; (try with_reducible rfl)
                try simp only [Act.put, List.setIfInBounds_toArray, List.set_cons_zero, List.set_cons_succ]
                refine wpAnyH_take (i := 7) (oi := { dst := some 62, op := Op.move (Operand.tmp 1), type := 22, pos := "law.go:98", after := #[{ on := 6, ground := Ground.guard }], guard := some (6, true) }) (v := ?_) rfl (by kernel_rfl) (by kernel_rfl) (by kernel_rfl) (fun _ _ _ h => h) ?_ hHeld ?_
                rotate_left
                · refine Or.inl ⟨by rfl, fun w hSw => ?_⟩; skip; go_simp; (try with_reducible rfl)
                try simp only [Act.put, List.setIfInBounds_toArray, List.set_cons_zero, List.set_cons_succ]
                refine wpAnyH_take (i := 8) (oi := { dst := some 63, op := Op.move (Operand.tmp 12), type := 3, pos := "law.go:98", after := #[{ on := 6, ground := Ground.guard }], guard := some (6, true) }) (v := ?_) rfl (by kernel_rfl) (by kernel_rfl) (by kernel_rfl) (fun _ _ _ h => h) ?_ hHeld ?_
                rotate_left
                · refine Or.inl ⟨by rfl, fun w hSw => ?_⟩; skip; go_simp; (try with_reducible rfl)
                try simp only [Act.put, List.setIfInBounds_toArray, List.set_cons_zero, List.set_cons_succ]
                refine wpAnyH_take (i := 9) (oi := { dst := some 64, op := Op.indexAddr 22 (Operand.tmp 62) (Operand.tmp 63), type := 0, pos := "law.go:98", after := #[{ on := 7, ground := Ground.data }, { on := 8, ground := Ground.data }, { on := 6, ground := Ground.guard }], guard := some (6, true) }) (v := ?_) rfl (by kernel_rfl) (by kernel_rfl) (by kernel_rfl) (fun _ _ _ h => h) ?_ hHeld ?_
                rotate_left
                · refine Or.inl ⟨by rfl, fun w hSw => ?_⟩; skip; go_simp; (try with_reducible rfl)
                try simp only [Act.put, List.setIfInBounds_toArray, List.set_cons_zero, List.set_cons_succ]
                refine wpAnyH_take (i := 10) (oi := { dst := some 65, op := Op.fieldAddr 31 (Operand.tmp 64) 0, type := 0, pos := "law.go:98", after := #[{ on := 9, ground := Ground.data }, { on := 6, ground := Ground.guard }], guard := some (6, true) }) (v := ?_) rfl (by kernel_rfl) (by kernel_rfl) (by kernel_rfl) (fun _ _ _ h => h) ?_ hHeld ?_
                rotate_left
                · refine Or.inl ⟨by rfl, fun w hSw => ?_⟩; skip; go_simp; (try with_reducible rfl)
                try simp only [Act.put, List.setIfInBounds_toArray, List.set_cons_zero, List.set_cons_succ]
                refine wpAnyH_take (i := 11) (oi := { dst := some 66, op := Op.load 3 (Operand.tmp 65), type := 3, pos := "law.go:98", after := #[{ on := 10, ground := Ground.data }, { on := 6, ground := Ground.guard }], guard := some (6, true) }) (v := ?_) rfl (by kernel_rfl) (by kernel_rfl) (by kernel_rfl) (fun _ _ _ h => h) ?_ hHeld ?_
                rotate_left
                · refine Or.inl ⟨by rfl, fun w hSw => ?_⟩; have c0 : w.cell? (ad.add (k * 4)) = some (.int .i64 kd) := hSw.1; go_simp; (try with_reducible rfl)
                try simp only [Act.put, List.setIfInBounds_toArray, List.set_cons_zero, List.set_cons_succ]
                refine wpAnyH_take (i := 12) (oi := { dst := some 67, op := Op.binOp BinOp.leq 3 (Operand.tmp 66) (Operand.const (Value.int IntKind.i64 4)) 3, type := 4, pos := "law.go:98", after := #[{ on := 11, ground := Ground.data }, { on := 6, ground := Ground.guard }], guard := some (6, true) }) (v := ?_) rfl (by kernel_rfl) (by kernel_rfl) (by kernel_rfl) (fun _ _ _ h => h) ?_ hHeld ?_
                rotate_left
                · refine Or.inl ⟨by rfl, fun w hSw => ?_⟩; skip; go_simp; (try with_reducible rfl)
                try simp only [Act.put, List.setIfInBounds_toArray, List.set_cons_zero, List.set_cons_succ]
                refine wpAnyH_take (i := 13) (oi := { dst := some 68, op := Op.pick (Operand.tmp 61) (Operand.tmp 67) (Operand.const (Value.bool false)), type := 4, pos := "law.go:98", after := #[{ on := 6, ground := Ground.data }, { on := 12, ground := Ground.data }], guard := none }) (v := ?_) rfl (by kernel_rfl) (by kernel_rfl) (by kernel_rfl) (fun _ _ _ h => h) ?_ hHeld ?_
                rotate_left
                · refine Or.inl ⟨by rfl, fun w hSw => ?_⟩; skip; go_simp; (try with_reducible rfl)
                try simp only [Act.put, List.setIfInBounds_toArray, List.set_cons_zero, List.set_cons_succ]
                refine wpAnyH_take (i := 14) (oi := { dst := some 69, op := Op.move (Operand.tmp 68), type := 4, pos := "law.go:98", after := #[{ on := 13, ground := Ground.data }, { on := 6, ground := Ground.chain }], guard := none }) (v := ?_) rfl (by kernel_rfl) (by kernel_rfl) (by kernel_rfl) (fun _ _ _ h => h) ?_ hHeld ?_
                rotate_left
                · refine Or.inl ⟨by rfl, fun w hSw => ?_⟩; skip; go_simp; (try with_reducible rfl)
                try simp only [Act.put, List.setIfInBounds_toArray, List.set_cons_zero, List.set_cons_succ]
                refine wpAnyH_take (i := 15) (oi := { dst := some 70, op := Op.move (Operand.tmp 7), type := 23, pos := "law.go:98", after := #[{ on := 14, ground := Ground.guard }], guard := some (14, true) }) (v := ?_) rfl (by kernel_rfl) (by kernel_rfl) (by kernel_rfl) (fun _ _ _ h => h) ?_ hHeld ?_
                rotate_left
                · refine Or.inr ⟨by rfl, ?_⟩; rfl
                try simp only [Act.put, List.setIfInBounds_toArray, List.set_cons_zero, List.set_cons_succ]
                refine wpAnyH_take (i := 16) (oi := { dst := some 71, op := Op.move (Operand.tmp 1), type := 22, pos := "law.go:98", after := #[{ on := 14, ground := Ground.guard }], guard := some (14, true) }) (v := ?_) rfl (by kernel_rfl) (by kernel_rfl) (by kernel_rfl) (fun _ _ _ h => h) ?_ hHeld ?_
                rotate_left
                · refine Or.inr ⟨by rfl, ?_⟩; rfl
                try simp only [Act.put, List.setIfInBounds_toArray, List.set_cons_zero, List.set_cons_succ]
                refine wpAnyH_take (i := 17) (oi := { dst := some 72, op := Op.move (Operand.tmp 12), type := 3, pos := "law.go:98", after := #[{ on := 14, ground := Ground.guard }], guard := some (14, true) }) (v := ?_) rfl (by kernel_rfl) (by kernel_rfl) (by kernel_rfl) (fun _ _ _ h => h) ?_ hHeld ?_
                rotate_left
                · refine Or.inr ⟨by rfl, ?_⟩; rfl
                try simp only [Act.put, List.setIfInBounds_toArray, List.set_cons_zero, List.set_cons_succ]
                refine wpAnyH_take (i := 18) (oi := { dst := some 73, op := Op.indexAddr 22 (Operand.tmp 71) (Operand.tmp 72), type := 0, pos := "law.go:98", after := #[{ on := 16, ground := Ground.data }, { on := 17, ground := Ground.data }, { on := 14, ground := Ground.guard }], guard := some (14, true) }) (v := ?_) rfl (by kernel_rfl) (by kernel_rfl) (by kernel_rfl) (fun _ _ _ h => h) ?_ hHeld ?_
                rotate_left
                · refine Or.inr ⟨by rfl, ?_⟩; rfl
                try simp only [Act.put, List.setIfInBounds_toArray, List.set_cons_zero, List.set_cons_succ]
                refine wpAnyH_take (i := 19) (oi := { dst := some 74, op := Op.fieldAddr 31 (Operand.tmp 73) 1, type := 0, pos := "law.go:98", after := #[{ on := 18, ground := Ground.data }, { on := 14, ground := Ground.guard }], guard := some (14, true) }) (v := ?_) rfl (by kernel_rfl) (by kernel_rfl) (by kernel_rfl) (fun _ _ _ h => h) ?_ hHeld ?_
                rotate_left
                · refine Or.inr ⟨by rfl, ?_⟩; rfl
                try simp only [Act.put, List.setIfInBounds_toArray, List.set_cons_zero, List.set_cons_succ]
                refine wpAnyH_take (i := 20) (oi := { dst := some 75, op := Op.load 3 (Operand.tmp 74), type := 3, pos := "law.go:98", after := #[{ on := 19, ground := Ground.data }, { on := 14, ground := Ground.guard }], guard := some (14, true) }) (v := ?_) rfl (by kernel_rfl) (by kernel_rfl) (by kernel_rfl) (fun _ _ _ h => h) ?_ hHeld ?_
                rotate_left
                · refine Or.inr ⟨by rfl, ?_⟩; rfl
                try simp only [Act.put, List.setIfInBounds_toArray, List.set_cons_zero, List.set_cons_succ]
                refine wpAnyH_take (i := 21) (oi := { dst := some 76, op := Op.move (Operand.tmp 1), type := 22, pos := "law.go:98", after := #[{ on := 14, ground := Ground.guard }], guard := some (14, true) }) (v := ?_) rfl (by kernel_rfl) (by kernel_rfl) (by kernel_rfl) (fun _ _ _ h => h) ?_ hHeld ?_
                rotate_left
                · refine Or.inr ⟨by rfl, ?_⟩; rfl
                try simp only [Act.put, List.setIfInBounds_toArray, List.set_cons_zero, List.set_cons_succ]
                refine wpAnyH_take (i := 22) (oi := { dst := some 77, op := Op.move (Operand.tmp 12), type := 3, pos := "law.go:98", after := #[{ on := 14, ground := Ground.guard }], guard := some (14, true) }) (v := ?_) rfl (by kernel_rfl) (by kernel_rfl) (by kernel_rfl) (fun _ _ _ h => h) ?_ hHeld ?_
                rotate_left
                · refine Or.inr ⟨by rfl, ?_⟩; rfl
                try simp only [Act.put, List.setIfInBounds_toArray, List.set_cons_zero, List.set_cons_succ]
                refine wpAnyH_take (i := 23) (oi := { dst := some 78, op := Op.indexAddr 22 (Operand.tmp 76) (Operand.tmp 77), type := 0, pos := "law.go:98", after := #[{ on := 21, ground := Ground.data }, { on := 22, ground := Ground.data }, { on := 14, ground := Ground.guard }], guard := some (14, true) }) (v := ?_) rfl (by kernel_rfl) (by kernel_rfl) (by kernel_rfl) (fun _ _ _ h => h) ?_ hHeld ?_
                rotate_left
                · refine Or.inr ⟨by rfl, ?_⟩; rfl
                try simp only [Act.put, List.setIfInBounds_toArray, List.set_cons_zero, List.set_cons_succ]
                refine wpAnyH_take (i := 24) (oi := { dst := some 79, op := Op.fieldAddr 31 (Operand.tmp 78) 2, type := 0, pos := "law.go:98", after := #[{ on := 23, ground := Ground.data }, { on := 14, ground := Ground.guard }], guard := some (14, true) }) (v := ?_) rfl (by kernel_rfl) (by kernel_rfl) (by kernel_rfl) (fun _ _ _ h => h) ?_ hHeld ?_
                rotate_left
                · refine Or.inr ⟨by rfl, ?_⟩; rfl
                try simp only [Act.put, List.setIfInBounds_toArray, List.set_cons_zero, List.set_cons_succ]
                refine wpAnyH_take (i := 25) (oi := { dst := some 80, op := Op.load 28 (Operand.tmp 79), type := 28, pos := "law.go:98", after := #[{ on := 24, ground := Ground.data }, { on := 14, ground := Ground.guard }], guard := some (14, true) }) (v := ?_) rfl (by kernel_rfl) (by kernel_rfl) (by kernel_rfl) (fun _ _ _ h => h) ?_ hHeld ?_
                rotate_left
                · refine Or.inr ⟨by rfl, ?_⟩; rfl
                try simp only [Act.put, List.setIfInBounds_toArray, List.set_cons_zero, List.set_cons_succ]
                refine wpAnyH_take (i := 26) (oi := { dst := some 81, op := Op.call { callee := Callee.value (Operand.func 18), args := #[Operand.tmp 80], argTypes := #[28] }, type := 33, pos := "law.go:98", after := #[{ on := 25, ground := Ground.data }, { on := 14, ground := Ground.chain }, { on := 14, ground := Ground.guard }], guard := some (14, true) }) (v := ?_) rfl (by kernel_rfl) (by kernel_rfl) (by kernel_rfl) (fun _ _ _ h => h) ?_ hHeld ?_
                rotate_left
                · refine Or.inr ⟨by rfl, ?_⟩; rfl
                try simp only [Act.put, List.setIfInBounds_toArray, List.set_cons_zero, List.set_cons_succ]
                refine wpAnyH_take (i := 27) (oi := { dst := some 82, op := Op.call { callee := Callee.value (Operand.func 17), args := #[Operand.tmp 70, Operand.tmp 75, Operand.tmp 81], argTypes := #[23, 3, 34] }, type := 4, pos := "law.go:98", after := #[{ on := 15, ground := Ground.data }, { on := 20, ground := Ground.data }, { on := 26, ground := Ground.data }, { on := 26, ground := Ground.chain }, { on := 14, ground := Ground.guard }], guard := some (14, true) }) (v := ?_) rfl (by kernel_rfl) (by kernel_rfl) (by kernel_rfl) (fun _ _ _ h => h) ?_ hHeld ?_
                rotate_left
                · refine Or.inr ⟨by rfl, ?_⟩; rfl
                try simp only [Act.put, List.setIfInBounds_toArray, List.set_cons_zero, List.set_cons_succ]
                refine wpAnyH_take (i := 28) (oi := { dst := some 83, op := Op.pick (Operand.tmp 69) (Operand.tmp 82) (Operand.const (Value.bool false)), type := 4, pos := "law.go:98", after := #[{ on := 14, ground := Ground.data }, { on := 27, ground := Ground.data }], guard := none }) (v := ?_) rfl (by kernel_rfl) (by kernel_rfl) (by kernel_rfl) (fun _ _ _ h => h) ?_ hHeld ?_
                rotate_left
                · refine Or.inl ⟨by rfl, fun w hSw => ?_⟩; skip; go_simp; (try with_reducible rfl)
                try simp only [Act.put, List.setIfInBounds_toArray, List.set_cons_zero, List.set_cons_succ]
                refine wpAnyH_done (by kernel_rfl) ?_ _
                replace K := Lib.hid (K.below (bl_drew (bl_refl _)))
                clear DA hHeld K'
                go_wp2_with fail
                go_roundw
                case rel => exact ⟨k + 1, m, Aw, cw, W2, V, by omega, by omega, by go_num, rfl, Lib.hid (by omega), K, hok2, hrel2⟩
                case measure => first | (simp [intOf]; done) | (simp [intOf]; omega)
              · have g0 : decide (0 ≤ kd) = true := by simpa using q0
                have g1 : decide (kd ≤ 4) = true := by simpa using q1
                obtain ⟨b, rfl⟩ : ∃ b : Nat, bl = b := ⟨bl.toNat, by omega⟩
                have hbl : b < L1.length := by omega
                have K := K.below (bl_drew (bl_refl _))
                refine wp_region_held_drew (S := (fun w' => DeedAt w' (ad.add (k * 4)) (⟨kd, b, A, n, c, xs, Ad, nd, cd, ds⟩ : Dd))) (by kernel_rfl) (DA.drew0) (fun hHeld => ?_)
                refine wpAnyH_take (i := 0) (oi := { dst := some 55, op := Op.move (Operand.tmp 1), type := 22, pos := "law.go:98", after := #[], guard := none }) (v := ?_) rfl (by kernel_rfl) (by kernel_rfl) (by kernel_rfl) (fun _ _ _ h => h) ?_ hHeld ?_
                rotate_left
                · refine Or.inl ⟨by rfl, fun w hSw => ?_⟩; skip; go_simp; (try with_reducible rfl)
                try simp only [Act.put, List.setIfInBounds_toArray, List.set_cons_zero, List.set_cons_succ]
                refine wpAnyH_take (i := 1) (oi := { dst := some 56, op := Op.move (Operand.tmp 12), type := 3, pos := "law.go:98", after := #[], guard := none }) (v := ?_) rfl (by kernel_rfl) (by kernel_rfl) (by kernel_rfl) (fun _ _ _ h => h) ?_ hHeld ?_
                rotate_left
                · refine Or.inl ⟨by rfl, fun w hSw => ?_⟩; skip; go_simp; (try with_reducible rfl)
                try simp only [Act.put, List.setIfInBounds_toArray, List.set_cons_zero, List.set_cons_succ]
                refine wpAnyH_take (i := 2) (oi := { dst := some 57, op := Op.indexAddr 22 (Operand.tmp 55) (Operand.tmp 56), type := 0, pos := "law.go:98", after := #[{ on := 0, ground := Ground.data }, { on := 1, ground := Ground.data }], guard := none }) (v := ?_) rfl (by kernel_rfl) (by kernel_rfl) (by kernel_rfl) (fun _ _ _ h => h) ?_ hHeld ?_
                rotate_left
                · refine Or.inl ⟨by rfl, fun w hSw => ?_⟩; skip; go_simp; (try with_reducible rfl)
                try simp only [Act.put, List.setIfInBounds_toArray, List.set_cons_zero, List.set_cons_succ]
                refine wpAnyH_take (i := 3) (oi := { dst := some 58, op := Op.fieldAddr 31 (Operand.tmp 57) 0, type := 0, pos := "law.go:98", after := #[{ on := 2, ground := Ground.data }], guard := none }) (v := ?_) rfl (by kernel_rfl) (by kernel_rfl) (by kernel_rfl) (fun _ _ _ h => h) ?_ hHeld ?_
                rotate_left
                · refine Or.inl ⟨by rfl, fun w hSw => ?_⟩; skip; go_simp; (try with_reducible rfl)
                try simp only [Act.put, List.setIfInBounds_toArray, List.set_cons_zero, List.set_cons_succ]
                refine wpAnyH_take (i := 4) (oi := { dst := some 59, op := Op.load 3 (Operand.tmp 58), type := 3, pos := "law.go:98", after := #[{ on := 3, ground := Ground.data }], guard := none }) (v := ?_) rfl (by kernel_rfl) (by kernel_rfl) (by kernel_rfl) (fun _ _ _ h => h) ?_ hHeld ?_
                rotate_left
                · refine Or.inl ⟨by rfl, fun w hSw => ?_⟩; have c0 : w.cell? (ad.add (k * 4)) = some (.int .i64 kd) := hSw.1; go_simp; (try with_reducible rfl)
                try simp only [Act.put, List.setIfInBounds_toArray, List.set_cons_zero, List.set_cons_succ]
                refine wpAnyH_take (i := 5) (oi := { dst := some 60, op := Op.binOp BinOp.geq 3 (Operand.tmp 59) (Operand.const (Value.int IntKind.i64 0)) 3, type := 4, pos := "law.go:98", after := #[{ on := 4, ground := Ground.data }], guard := none }) (v := ?_) rfl (by kernel_rfl) (by kernel_rfl) (by kernel_rfl) (fun _ _ _ h => h) ?_ hHeld ?_
                rotate_left
                · refine Or.inl ⟨by rfl, fun w hSw => ?_⟩; skip; go_simp; (try with_reducible rfl)
                try simp only [Act.put, List.setIfInBounds_toArray, List.set_cons_zero, List.set_cons_succ]
                refine wpAnyH_take (i := 6) (oi := { dst := some 61, op := Op.move (Operand.tmp 60), type := 4, pos := "law.go:98", after := #[{ on := 5, ground := Ground.data }], guard := none }) (v := ?_) rfl (by kernel_rfl) (by kernel_rfl) (by kernel_rfl) (fun _ _ _ h => h) ?_ hHeld ?_
                rotate_left
                · refine Or.inl ⟨by rfl, fun w hSw => ?_⟩; skip; go_simp; (try with_reducible rfl)
                try simp only [Act.put, List.setIfInBounds_toArray, List.set_cons_zero, List.set_cons_succ]
                refine wpAnyH_take (i := 7) (oi := { dst := some 62, op := Op.move (Operand.tmp 1), type := 22, pos := "law.go:98", after := #[{ on := 6, ground := Ground.guard }], guard := some (6, true) }) (v := ?_) rfl (by kernel_rfl) (by kernel_rfl) (by kernel_rfl) (fun _ _ _ h => h) ?_ hHeld ?_
                rotate_left
                · refine Or.inl ⟨by rfl, fun w hSw => ?_⟩; skip; go_simp; (try with_reducible rfl)
                try simp only [Act.put, List.setIfInBounds_toArray, List.set_cons_zero, List.set_cons_succ]
                refine wpAnyH_take (i := 8) (oi := { dst := some 63, op := Op.move (Operand.tmp 12), type := 3, pos := "law.go:98", after := #[{ on := 6, ground := Ground.guard }], guard := some (6, true) }) (v := ?_) rfl (by kernel_rfl) (by kernel_rfl) (by kernel_rfl) (fun _ _ _ h => h) ?_ hHeld ?_
                rotate_left
                · refine Or.inl ⟨by rfl, fun w hSw => ?_⟩; skip; go_simp; (try with_reducible rfl)
                try simp only [Act.put, List.setIfInBounds_toArray, List.set_cons_zero, List.set_cons_succ]
                refine wpAnyH_take (i := 9) (oi := { dst := some 64, op := Op.indexAddr 22 (Operand.tmp 62) (Operand.tmp 63), type := 0, pos := "law.go:98", after := #[{ on := 7, ground := Ground.data }, { on := 8, ground := Ground.data }, { on := 6, ground := Ground.guard }], guard := some (6, true) }) (v := ?_) rfl (by kernel_rfl) (by kernel_rfl) (by kernel_rfl) (fun _ _ _ h => h) ?_ hHeld ?_
                rotate_left
                · refine Or.inl ⟨by rfl, fun w hSw => ?_⟩; skip; go_simp; (try with_reducible rfl)
                try simp only [Act.put, List.setIfInBounds_toArray, List.set_cons_zero, List.set_cons_succ]
                refine wpAnyH_take (i := 10) (oi := { dst := some 65, op := Op.fieldAddr 31 (Operand.tmp 64) 0, type := 0, pos := "law.go:98", after := #[{ on := 9, ground := Ground.data }, { on := 6, ground := Ground.guard }], guard := some (6, true) }) (v := ?_) rfl (by kernel_rfl) (by kernel_rfl) (by kernel_rfl) (fun _ _ _ h => h) ?_ hHeld ?_
                rotate_left
                · refine Or.inl ⟨by rfl, fun w hSw => ?_⟩; skip; go_simp; (try with_reducible rfl)
                try simp only [Act.put, List.setIfInBounds_toArray, List.set_cons_zero, List.set_cons_succ]
                refine wpAnyH_take (i := 11) (oi := { dst := some 66, op := Op.load 3 (Operand.tmp 65), type := 3, pos := "law.go:98", after := #[{ on := 10, ground := Ground.data }, { on := 6, ground := Ground.guard }], guard := some (6, true) }) (v := ?_) rfl (by kernel_rfl) (by kernel_rfl) (by kernel_rfl) (fun _ _ _ h => h) ?_ hHeld ?_
                rotate_left
                · refine Or.inl ⟨by rfl, fun w hSw => ?_⟩; have c0 : w.cell? (ad.add (k * 4)) = some (.int .i64 kd) := hSw.1; go_simp; (try with_reducible rfl)
                try simp only [Act.put, List.setIfInBounds_toArray, List.set_cons_zero, List.set_cons_succ]
                refine wpAnyH_take (i := 12) (oi := { dst := some 67, op := Op.binOp BinOp.leq 3 (Operand.tmp 66) (Operand.const (Value.int IntKind.i64 4)) 3, type := 4, pos := "law.go:98", after := #[{ on := 11, ground := Ground.data }, { on := 6, ground := Ground.guard }], guard := some (6, true) }) (v := ?_) rfl (by kernel_rfl) (by kernel_rfl) (by kernel_rfl) (fun _ _ _ h => h) ?_ hHeld ?_
                rotate_left
                · refine Or.inl ⟨by rfl, fun w hSw => ?_⟩; skip; go_simp; (try with_reducible rfl)
                try simp only [Act.put, List.setIfInBounds_toArray, List.set_cons_zero, List.set_cons_succ]
                refine wpAnyH_take (i := 13) (oi := { dst := some 68, op := Op.pick (Operand.tmp 61) (Operand.tmp 67) (Operand.const (Value.bool false)), type := 4, pos := "law.go:98", after := #[{ on := 6, ground := Ground.data }, { on := 12, ground := Ground.data }], guard := none }) (v := ?_) rfl (by kernel_rfl) (by kernel_rfl) (by kernel_rfl) (fun _ _ _ h => h) ?_ hHeld ?_
                rotate_left
                · refine Or.inl ⟨by rfl, fun w hSw => ?_⟩; skip; go_simp; (try with_reducible rfl)
                try simp only [Act.put, List.setIfInBounds_toArray, List.set_cons_zero, List.set_cons_succ]
                refine wpAnyH_take (i := 14) (oi := { dst := some 69, op := Op.move (Operand.tmp 68), type := 4, pos := "law.go:98", after := #[{ on := 13, ground := Ground.data }, { on := 6, ground := Ground.chain }], guard := none }) (v := ?_) rfl (by kernel_rfl) (by kernel_rfl) (by kernel_rfl) (fun _ _ _ h => h) ?_ hHeld ?_
                rotate_left
                · refine Or.inl ⟨by rfl, fun w hSw => ?_⟩; skip; go_simp; (try with_reducible rfl)
                try simp only [Act.put, List.setIfInBounds_toArray, List.set_cons_zero, List.set_cons_succ]
                refine wpAnyH_take (i := 15) (oi := { dst := some 70, op := Op.move (Operand.tmp 7), type := 23, pos := "law.go:98", after := #[{ on := 14, ground := Ground.guard }], guard := some (14, true) }) (v := ?_) rfl (by kernel_rfl) (by kernel_rfl) (by kernel_rfl) (fun _ _ _ h => h) ?_ hHeld ?_
                rotate_left
                · refine Or.inl ⟨by rfl, fun w hSw => ?_⟩; skip; go_simp; (try with_reducible rfl)
                try simp only [Act.put, List.setIfInBounds_toArray, List.set_cons_zero, List.set_cons_succ]
                refine wpAnyH_take (i := 16) (oi := { dst := some 71, op := Op.move (Operand.tmp 1), type := 22, pos := "law.go:98", after := #[{ on := 14, ground := Ground.guard }], guard := some (14, true) }) (v := ?_) rfl (by kernel_rfl) (by kernel_rfl) (by kernel_rfl) (fun _ _ _ h => h) ?_ hHeld ?_
                rotate_left
                · refine Or.inl ⟨by rfl, fun w hSw => ?_⟩; skip; go_simp; (try with_reducible rfl)
                try simp only [Act.put, List.setIfInBounds_toArray, List.set_cons_zero, List.set_cons_succ]
                refine wpAnyH_take (i := 17) (oi := { dst := some 72, op := Op.move (Operand.tmp 12), type := 3, pos := "law.go:98", after := #[{ on := 14, ground := Ground.guard }], guard := some (14, true) }) (v := ?_) rfl (by kernel_rfl) (by kernel_rfl) (by kernel_rfl) (fun _ _ _ h => h) ?_ hHeld ?_
                rotate_left
                · refine Or.inl ⟨by rfl, fun w hSw => ?_⟩; skip; go_simp; (try with_reducible rfl)
                try simp only [Act.put, List.setIfInBounds_toArray, List.set_cons_zero, List.set_cons_succ]
                refine wpAnyH_take (i := 18) (oi := { dst := some 73, op := Op.indexAddr 22 (Operand.tmp 71) (Operand.tmp 72), type := 0, pos := "law.go:98", after := #[{ on := 16, ground := Ground.data }, { on := 17, ground := Ground.data }, { on := 14, ground := Ground.guard }], guard := some (14, true) }) (v := ?_) rfl (by kernel_rfl) (by kernel_rfl) (by kernel_rfl) (fun _ _ _ h => h) ?_ hHeld ?_
                rotate_left
                · refine Or.inl ⟨by rfl, fun w hSw => ?_⟩; skip; go_simp; (try with_reducible rfl)
                try simp only [Act.put, List.setIfInBounds_toArray, List.set_cons_zero, List.set_cons_succ]
                refine wpAnyH_take (i := 19) (oi := { dst := some 74, op := Op.fieldAddr 31 (Operand.tmp 73) 1, type := 0, pos := "law.go:98", after := #[{ on := 18, ground := Ground.data }, { on := 14, ground := Ground.guard }], guard := some (14, true) }) (v := ?_) rfl (by kernel_rfl) (by kernel_rfl) (by kernel_rfl) (fun _ _ _ h => h) ?_ hHeld ?_
                rotate_left
                · refine Or.inl ⟨by rfl, fun w hSw => ?_⟩; skip; go_simp; (try with_reducible rfl)
                try simp only [Act.put, List.setIfInBounds_toArray, List.set_cons_zero, List.set_cons_succ]
                refine wpAnyH_take (i := 20) (oi := { dst := some 75, op := Op.load 3 (Operand.tmp 74), type := 3, pos := "law.go:98", after := #[{ on := 19, ground := Ground.data }, { on := 14, ground := Ground.guard }], guard := some (14, true) }) (v := ?_) rfl (by kernel_rfl) (by kernel_rfl) (by kernel_rfl) (fun _ _ _ h => h) ?_ hHeld ?_
                rotate_left
                · refine Or.inl ⟨by rfl, fun w hSw => ?_⟩; have c0 : w.cell? ⟨(ad.add (k * 4)).block, (ad.add (k * 4)).off + 1, none⟩ = some (.int .i64 b) := hSw.2.1; go_simp; (try with_reducible rfl)
                try simp only [Act.put, List.setIfInBounds_toArray, List.set_cons_zero, List.set_cons_succ]
                refine wpAnyH_take (i := 21) (oi := { dst := some 76, op := Op.move (Operand.tmp 1), type := 22, pos := "law.go:98", after := #[{ on := 14, ground := Ground.guard }], guard := some (14, true) }) (v := ?_) rfl (by kernel_rfl) (by kernel_rfl) (by kernel_rfl) (fun _ _ _ h => h) ?_ hHeld ?_
                rotate_left
                · refine Or.inl ⟨by rfl, fun w hSw => ?_⟩; skip; go_simp; (try with_reducible rfl)
                try simp only [Act.put, List.setIfInBounds_toArray, List.set_cons_zero, List.set_cons_succ]
                refine wpAnyH_take (i := 22) (oi := { dst := some 77, op := Op.move (Operand.tmp 12), type := 3, pos := "law.go:98", after := #[{ on := 14, ground := Ground.guard }], guard := some (14, true) }) (v := ?_) rfl (by kernel_rfl) (by kernel_rfl) (by kernel_rfl) (fun _ _ _ h => h) ?_ hHeld ?_
                rotate_left
                · refine Or.inl ⟨by rfl, fun w hSw => ?_⟩; skip; go_simp; (try with_reducible rfl)
                try simp only [Act.put, List.setIfInBounds_toArray, List.set_cons_zero, List.set_cons_succ]
                refine wpAnyH_take (i := 23) (oi := { dst := some 78, op := Op.indexAddr 22 (Operand.tmp 76) (Operand.tmp 77), type := 0, pos := "law.go:98", after := #[{ on := 21, ground := Ground.data }, { on := 22, ground := Ground.data }, { on := 14, ground := Ground.guard }], guard := some (14, true) }) (v := ?_) rfl (by kernel_rfl) (by kernel_rfl) (by kernel_rfl) (fun _ _ _ h => h) ?_ hHeld ?_
                rotate_left
                · refine Or.inl ⟨by rfl, fun w hSw => ?_⟩; skip; go_simp; (try with_reducible rfl)
                try simp only [Act.put, List.setIfInBounds_toArray, List.set_cons_zero, List.set_cons_succ]
                refine wpAnyH_take (i := 24) (oi := { dst := some 79, op := Op.fieldAddr 31 (Operand.tmp 78) 2, type := 0, pos := "law.go:98", after := #[{ on := 23, ground := Ground.data }, { on := 14, ground := Ground.guard }], guard := some (14, true) }) (v := ?_) rfl (by kernel_rfl) (by kernel_rfl) (by kernel_rfl) (fun _ _ _ h => h) ?_ hHeld ?_
                rotate_left
                · refine Or.inl ⟨by rfl, fun w hSw => ?_⟩; skip; go_simp; (try with_reducible rfl)
                try simp only [Act.put, List.setIfInBounds_toArray, List.set_cons_zero, List.set_cons_succ]
                refine wpAnyH_take (i := 25) (oi := { dst := some 80, op := Op.load 28 (Operand.tmp 79), type := 28, pos := "law.go:98", after := #[{ on := 24, ground := Ground.data }, { on := 14, ground := Ground.guard }], guard := some (14, true) }) (v := ?_) rfl (by kernel_rfl) (by kernel_rfl) (by kernel_rfl) (fun _ _ _ h => h) ?_ hHeld ?_
                rotate_left
                · refine Or.inl ⟨by rfl, fun w hSw => ?_⟩; have c0 : w.cell? ⟨(ad.add (k * 4)).block, (ad.add (k * 4)).off + 2, none⟩ = some (.slice A n c) := hSw.2.2.1; go_simp; (try with_reducible rfl)
                try simp only [Act.put, List.setIfInBounds_toArray, List.set_cons_zero, List.set_cons_succ]
                refine wpAnyH_ready (rs := [26]) (by kernel_rfl) (by simp) ?_
                refine AllReadyH.cons (o := { dst := some 81, op := Op.call { callee := Callee.value (Operand.func 18), args := #[Operand.tmp 80], argTypes := #[28] }, type := 33, pos := "law.go:98", after := #[{ on := 25, ground := Ground.data }, { on := 14, ground := Ground.chain }, { on := 14, ground := Ground.guard }], guard := some (14, true) }) rfl (fun Kc hKc => ?_) AllReadyH.nil
                go_simp
                refine (of_c A n c xs _ (hdB.out _ K.bl).1).mono ?_
                rintro r wa ⟨rfl, ba⟩
                have K := K.below ba
                refine hKc.out _ _ (hDA.out _ K.bl) (fun hHeld => ?_)
                clear hKc Kc
                try simp only [Act.put, List.setIfInBounds_toArray, List.set_cons_zero, List.set_cons_succ]
                refine wpAnyH_ready (rs := [27]) (by kernel_rfl) (by simp) ?_
                refine AllReadyH.cons (o := { dst := some 82, op := Op.call { callee := Callee.value (Operand.func 17), args := #[Operand.tmp 70, Operand.tmp 75, Operand.tmp 81], argTypes := #[23, 3, 34] }, type := 4, pos := "law.go:98", after := #[{ on := 15, ground := Ground.data }, { on := 20, ground := Ground.data }, { on := 26, ground := Ground.data }, { on := 26, ground := Ground.chain }, { on := 14, ground := Ground.guard }], guard := some (14, true) }) rfl (fun Kc hKc => ?_) AllReadyH.nil
                go_simp
                refine (ks_write K b (ofB xs) hbl (by omega) (by omega)).mono ?_
                rintro r wb ⟨rfl, K⟩
                refine hKc.out _ _ (hDA.out _ K.bl) (fun hHeld => ?_)
                clear hKc Kc
                try simp only [Act.put, List.setIfInBounds_toArray, List.set_cons_zero, List.set_cons_succ]
                refine wpAnyH_take (i := 28) (oi := { dst := some 83, op := Op.pick (Operand.tmp 69) (Operand.tmp 82) (Operand.const (Value.bool false)), type := 4, pos := "law.go:98", after := #[{ on := 14, ground := Ground.data }, { on := 27, ground := Ground.data }], guard := none }) (v := ?_) rfl (by kernel_rfl) (by kernel_rfl) (by kernel_rfl) (fun _ _ _ h => h) ?_ hHeld ?_
                rotate_left
                · refine Or.inl ⟨by rfl, fun w hSw => ?_⟩; skip; go_simp; (try with_reducible rfl)
                try simp only [Act.put, List.setIfInBounds_toArray, List.set_cons_zero, List.set_cons_succ]
                refine wpAnyH_done (by kernel_rfl) ?_ _
                clear K'
                have DA5 := hDA.out _ K.bl
                have e1 : wb.cell? ⟨(ad.add (k * 4)).block, (ad.add (k * 4)).off + 1, none⟩ = some (.int .i64 (b : Nat)) := DA5.2.1
                have hok3 := Lib.hid (hok2.out.push hbl (ofB xs))
                have hm30 : m ≤ 30 := by
                  have h1 := K.rf.len
                  have h2 := hrel2.out.1
                  omega
                have K5' := Lib.hid K
                clear DA DA5 hHeld hdB hDA ba K hok2 hrel2 g0 g1 q0 q1 q2 q3 hkk hkk2 hmm
                go_wp2_with (at_builtin; refine app_one_w (w0 := w) (f := pv) w3.heap.size 2 16 pv_len pv_one (.agg #[.int .i64 0, .int .i64 0]) rfl _ _ 41 44 rfl Try.underlying41 info_a rfl (by decide) (by decide) (.slice Aw m cw) m V rfl K5'.out.own ((b : Int), k) _ rfl wb.heap.size rfl rfl ?d1 ?d2 ?_)
                case d1 => omega
                case d2 => exact K5'.out.le
                intro A5 c5 w5 HO5 G5 s5 hat5
                have K6 := Lib.hid (ks_app K5'.out ((b : Int), k) A5 c5 (by rw [List.flatMap_append, List.flatMap_singleton]; exact HO5) G5 hat5)
                clear HO5 G5 hat5 K5' e1
                go_wp2_with fail
                go_roundw
                case rel => exact ⟨k + 1, m + 1, A5, c5, W2 ++ [⟨b, ofB xs⟩], V ++ [((b : Int), k)], by omega, by omega, by go_num, rfl, Lib.hid (by rw [List.length_append, List.length_singleton]; omega), K6, hok3, Lib.hid (hpush.out b)⟩
                case measure => first | (simp [intOf]; done) | (simp [intOf]; omega)
              · have g0 : decide (0 ≤ kd) = true := by simpa using q0
                have g1 : decide (kd ≤ 4) = true := by simpa using q1
                have hout := Lib.hid q2
                have K := K.below (bl_drew (bl_refl _))
                refine wp_region_held_drew (S := (fun w' => DeedAt w' (ad.add (k * 4)) (⟨kd, bl, A, n, c, xs, Ad, nd, cd, ds⟩ : Dd))) (by kernel_rfl) (DA.drew0) (fun hHeld => ?_)
                refine wpAnyH_take (i := 0) (oi := { dst := some 55, op := Op.move (Operand.tmp 1), type := 22, pos := "law.go:98", after := #[], guard := none }) (v := ?_) rfl (by kernel_rfl) (by kernel_rfl) (by kernel_rfl) (fun _ _ _ h => h) ?_ hHeld ?_
                rotate_left
                · refine Or.inl ⟨by rfl, fun w hSw => ?_⟩; skip; go_simp; (try with_reducible rfl)
                try simp only [Act.put, List.setIfInBounds_toArray, List.set_cons_zero, List.set_cons_succ]
                refine wpAnyH_take (i := 1) (oi := { dst := some 56, op := Op.move (Operand.tmp 12), type := 3, pos := "law.go:98", after := #[], guard := none }) (v := ?_) rfl (by kernel_rfl) (by kernel_rfl) (by kernel_rfl) (fun _ _ _ h => h) ?_ hHeld ?_
                rotate_left
                · refine Or.inl ⟨by rfl, fun w hSw => ?_⟩; skip; go_simp; (try with_reducible rfl)
                try simp only [Act.put, List.setIfInBounds_toArray, List.set_cons_zero, List.set_cons_succ]
                refine wpAnyH_take (i := 2) (oi := { dst := some 57, op := Op.indexAddr 22 (Operand.tmp 55) (Operand.tmp 56), type := 0, pos := "law.go:98", after := #[{ on := 0, ground := Ground.data }, { on := 1, ground := Ground.data }], guard := none }) (v := ?_) rfl (by kernel_rfl) (by kernel_rfl) (by kernel_rfl) (fun _ _ _ h => h) ?_ hHeld ?_
                rotate_left
                · refine Or.inl ⟨by rfl, fun w hSw => ?_⟩; skip; go_simp; (try with_reducible rfl)
                try simp only [Act.put, List.setIfInBounds_toArray, List.set_cons_zero, List.set_cons_succ]
                refine wpAnyH_take (i := 3) (oi := { dst := some 58, op := Op.fieldAddr 31 (Operand.tmp 57) 0, type := 0, pos := "law.go:98", after := #[{ on := 2, ground := Ground.data }], guard := none }) (v := ?_) rfl (by kernel_rfl) (by kernel_rfl) (by kernel_rfl) (fun _ _ _ h => h) ?_ hHeld ?_
                rotate_left
                · refine Or.inl ⟨by rfl, fun w hSw => ?_⟩; skip; go_simp; (try with_reducible rfl)
                try simp only [Act.put, List.setIfInBounds_toArray, List.set_cons_zero, List.set_cons_succ]
                refine wpAnyH_take (i := 4) (oi := { dst := some 59, op := Op.load 3 (Operand.tmp 58), type := 3, pos := "law.go:98", after := #[{ on := 3, ground := Ground.data }], guard := none }) (v := ?_) rfl (by kernel_rfl) (by kernel_rfl) (by kernel_rfl) (fun _ _ _ h => h) ?_ hHeld ?_
                rotate_left
                · refine Or.inl ⟨by rfl, fun w hSw => ?_⟩; have c0 : w.cell? (ad.add (k * 4)) = some (.int .i64 kd) := hSw.1; go_simp; (try with_reducible rfl)
                try simp only [Act.put, List.setIfInBounds_toArray, List.set_cons_zero, List.set_cons_succ]
                refine wpAnyH_take (i := 5) (oi := { dst := some 60, op := Op.binOp BinOp.geq 3 (Operand.tmp 59) (Operand.const (Value.int IntKind.i64 0)) 3, type := 4, pos := "law.go:98", after := #[{ on := 4, ground := Ground.data }], guard := none }) (v := ?_) rfl (by kernel_rfl) (by kernel_rfl) (by kernel_rfl) (fun _ _ _ h => h) ?_ hHeld ?_
                rotate_left
                · refine Or.inl ⟨by rfl, fun w hSw => ?_⟩; skip; go_simp; (try with_reducible rfl)
                try simp only [Act.put, List.setIfInBounds_toArray, List.set_cons_zero, List.set_cons_succ]
                refine wpAnyH_take (i := 6) (oi := { dst := some 61, op := Op.move (Operand.tmp 60), type := 4, pos := "law.go:98", after := #[{ on := 5, ground := Ground.data }], guard := none }) (v := ?_) rfl (by kernel_rfl) (by kernel_rfl) (by kernel_rfl) (fun _ _ _ h => h) ?_ hHeld ?_
                rotate_left
                · refine Or.inl ⟨by rfl, fun w hSw => ?_⟩; skip; go_simp; (try with_reducible rfl)
                try simp only [Act.put, List.setIfInBounds_toArray, List.set_cons_zero, List.set_cons_succ]
                refine wpAnyH_take (i := 7) (oi := { dst := some 62, op := Op.move (Operand.tmp 1), type := 22, pos := "law.go:98", after := #[{ on := 6, ground := Ground.guard }], guard := some (6, true) }) (v := ?_) rfl (by kernel_rfl) (by kernel_rfl) (by kernel_rfl) (fun _ _ _ h => h) ?_ hHeld ?_
                rotate_left
                · refine Or.inl ⟨by rfl, fun w hSw => ?_⟩; skip; go_simp; (try with_reducible rfl)
                try simp only [Act.put, List.setIfInBounds_toArray, List.set_cons_zero, List.set_cons_succ]
                refine wpAnyH_take (i := 8) (oi := { dst := some 63, op := Op.move (Operand.tmp 12), type := 3, pos := "law.go:98", after := #[{ on := 6, ground := Ground.guard }], guard := some (6, true) }) (v := ?_) rfl (by kernel_rfl) (by kernel_rfl) (by kernel_rfl) (fun _ _ _ h => h) ?_ hHeld ?_
                rotate_left
                · refine Or.inl ⟨by rfl, fun w hSw => ?_⟩; skip; go_simp; (try with_reducible rfl)
                try simp only [Act.put, List.setIfInBounds_toArray, List.set_cons_zero, List.set_cons_succ]
                refine wpAnyH_take (i := 9) (oi := { dst := some 64, op := Op.indexAddr 22 (Operand.tmp 62) (Operand.tmp 63), type := 0, pos := "law.go:98", after := #[{ on := 7, ground := Ground.data }, { on := 8, ground := Ground.data }, { on := 6, ground := Ground.guard }], guard := some (6, true) }) (v := ?_) rfl (by kernel_rfl) (by kernel_rfl) (by kernel_rfl) (fun _ _ _ h => h) ?_ hHeld ?_
                rotate_left
                · refine Or.inl ⟨by rfl, fun w hSw => ?_⟩; skip; go_simp; (try with_reducible rfl)
                try simp only [Act.put, List.setIfInBounds_toArray, List.set_cons_zero, List.set_cons_succ]
                refine wpAnyH_take (i := 10) (oi := { dst := some 65, op := Op.fieldAddr 31 (Operand.tmp 64) 0, type := 0, pos := "law.go:98", after := #[{ on := 9, ground := Ground.data }, { on := 6, ground := Ground.guard }], guard := some (6, true) }) (v := ?_) rfl (by kernel_rfl) (by kernel_rfl) (by kernel_rfl) (fun _ _ _ h => h) ?_ hHeld ?_
                rotate_left
                · refine Or.inl ⟨by rfl, fun w hSw => ?_⟩; skip; go_simp; (try with_reducible rfl)
                try simp only [Act.put, List.setIfInBounds_toArray, List.set_cons_zero, List.set_cons_succ]
                refine wpAnyH_take (i := 11) (oi := { dst := some 66, op := Op.load 3 (Operand.tmp 65), type := 3, pos := "law.go:98", after := #[{ on := 10, ground := Ground.data }, { on := 6, ground := Ground.guard }], guard := some (6, true) }) (v := ?_) rfl (by kernel_rfl) (by kernel_rfl) (by kernel_rfl) (fun _ _ _ h => h) ?_ hHeld ?_
                rotate_left
                · refine Or.inl ⟨by rfl, fun w hSw => ?_⟩; have c0 : w.cell? (ad.add (k * 4)) = some (.int .i64 kd) := hSw.1; go_simp; (try with_reducible rfl)
                try simp only [Act.put, List.setIfInBounds_toArray, List.set_cons_zero, List.set_cons_succ]
                refine wpAnyH_take (i := 12) (oi := { dst := some 67, op := Op.binOp BinOp.leq 3 (Operand.tmp 66) (Operand.const (Value.int IntKind.i64 4)) 3, type := 4, pos := "law.go:98", after := #[{ on := 11, ground := Ground.data }, { on := 6, ground := Ground.guard }], guard := some (6, true) }) (v := ?_) rfl (by kernel_rfl) (by kernel_rfl) (by kernel_rfl) (fun _ _ _ h => h) ?_ hHeld ?_
                rotate_left
                · refine Or.inl ⟨by rfl, fun w hSw => ?_⟩; skip; go_simp; (try with_reducible rfl)
                try simp only [Act.put, List.setIfInBounds_toArray, List.set_cons_zero, List.set_cons_succ]
                refine wpAnyH_take (i := 13) (oi := { dst := some 68, op := Op.pick (Operand.tmp 61) (Operand.tmp 67) (Operand.const (Value.bool false)), type := 4, pos := "law.go:98", after := #[{ on := 6, ground := Ground.data }, { on := 12, ground := Ground.data }], guard := none }) (v := ?_) rfl (by kernel_rfl) (by kernel_rfl) (by kernel_rfl) (fun _ _ _ h => h) ?_ hHeld ?_
                rotate_left
                · refine Or.inl ⟨by rfl, fun w hSw => ?_⟩; skip; go_simp; (try with_reducible rfl)
                try simp only [Act.put, List.setIfInBounds_toArray, List.set_cons_zero, List.set_cons_succ]
                refine wpAnyH_take (i := 14) (oi := { dst := some 69, op := Op.move (Operand.tmp 68), type := 4, pos := "law.go:98", after := #[{ on := 13, ground := Ground.data }, { on := 6, ground := Ground.chain }], guard := none }) (v := ?_) rfl (by kernel_rfl) (by kernel_rfl) (by kernel_rfl) (fun _ _ _ h => h) ?_ hHeld ?_
                rotate_left
                · refine Or.inl ⟨by rfl, fun w hSw => ?_⟩; skip; go_simp; (try with_reducible rfl)
                try simp only [Act.put, List.setIfInBounds_toArray, List.set_cons_zero, List.set_cons_succ]
                refine wpAnyH_take (i := 15) (oi := { dst := some 70, op := Op.move (Operand.tmp 7), type := 23, pos := "law.go:98", after := #[{ on := 14, ground := Ground.guard }], guard := some (14, true) }) (v := ?_) rfl (by kernel_rfl) (by kernel_rfl) (by kernel_rfl) (fun _ _ _ h => h) ?_ hHeld ?_
                rotate_left
                · refine Or.inl ⟨by rfl, fun w hSw => ?_⟩; skip; go_simp; (try with_reducible rfl)
                try simp only [Act.put, List.setIfInBounds_toArray, List.set_cons_zero, List.set_cons_succ]
                refine wpAnyH_take (i := 16) (oi := { dst := some 71, op := Op.move (Operand.tmp 1), type := 22, pos := "law.go:98", after := #[{ on := 14, ground := Ground.guard }], guard := some (14, true) }) (v := ?_) rfl (by kernel_rfl) (by kernel_rfl) (by kernel_rfl) (fun _ _ _ h => h) ?_ hHeld ?_
                rotate_left
                · refine Or.inl ⟨by rfl, fun w hSw => ?_⟩; skip; go_simp; (try with_reducible rfl)
                try simp only [Act.put, List.setIfInBounds_toArray, List.set_cons_zero, List.set_cons_succ]
                refine wpAnyH_take (i := 17) (oi := { dst := some 72, op := Op.move (Operand.tmp 12), type := 3, pos := "law.go:98", after := #[{ on := 14, ground := Ground.guard }], guard := some (14, true) }) (v := ?_) rfl (by kernel_rfl) (by kernel_rfl) (by kernel_rfl) (fun _ _ _ h => h) ?_ hHeld ?_
                rotate_left
                · refine Or.inl ⟨by rfl, fun w hSw => ?_⟩; skip; go_simp; (try with_reducible rfl)
                try simp only [Act.put, List.setIfInBounds_toArray, List.set_cons_zero, List.set_cons_succ]
                refine wpAnyH_take (i := 18) (oi := { dst := some 73, op := Op.indexAddr 22 (Operand.tmp 71) (Operand.tmp 72), type := 0, pos := "law.go:98", after := #[{ on := 16, ground := Ground.data }, { on := 17, ground := Ground.data }, { on := 14, ground := Ground.guard }], guard := some (14, true) }) (v := ?_) rfl (by kernel_rfl) (by kernel_rfl) (by kernel_rfl) (fun _ _ _ h => h) ?_ hHeld ?_
                rotate_left
                · refine Or.inl ⟨by rfl, fun w hSw => ?_⟩; skip; go_simp; (try with_reducible rfl)
                try simp only [Act.put, List.setIfInBounds_toArray, List.set_cons_zero, List.set_cons_succ]
                refine wpAnyH_take (i := 19) (oi := { dst := some 74, op := Op.fieldAddr 31 (Operand.tmp 73) 1, type := 0, pos := "law.go:98", after := #[{ on := 18, ground := Ground.data }, { on := 14, ground := Ground.guard }], guard := some (14, true) }) (v := ?_) rfl (by kernel_rfl) (by kernel_rfl) (by kernel_rfl) (fun _ _ _ h => h) ?_ hHeld ?_
                rotate_left
                · refine Or.inl ⟨by rfl, fun w hSw => ?_⟩; skip; go_simp; (try with_reducible rfl)
                try simp only [Act.put, List.setIfInBounds_toArray, List.set_cons_zero, List.set_cons_succ]
                refine wpAnyH_take (i := 20) (oi := { dst := some 75, op := Op.load 3 (Operand.tmp 74), type := 3, pos := "law.go:98", after := #[{ on := 19, ground := Ground.data }, { on := 14, ground := Ground.guard }], guard := some (14, true) }) (v := ?_) rfl (by kernel_rfl) (by kernel_rfl) (by kernel_rfl) (fun _ _ _ h => h) ?_ hHeld ?_
                rotate_left
                · refine Or.inl ⟨by rfl, fun w hSw => ?_⟩; have c0 : w.cell? ⟨(ad.add (k * 4)).block, (ad.add (k * 4)).off + 1, none⟩ = some (.int .i64 bl) := hSw.2.1; go_simp; (try with_reducible rfl)
                try simp only [Act.put, List.setIfInBounds_toArray, List.set_cons_zero, List.set_cons_succ]
                refine wpAnyH_take (i := 21) (oi := { dst := some 76, op := Op.move (Operand.tmp 1), type := 22, pos := "law.go:98", after := #[{ on := 14, ground := Ground.guard }], guard := some (14, true) }) (v := ?_) rfl (by kernel_rfl) (by kernel_rfl) (by kernel_rfl) (fun _ _ _ h => h) ?_ hHeld ?_
                rotate_left
                · refine Or.inl ⟨by rfl, fun w hSw => ?_⟩; skip; go_simp; (try with_reducible rfl)
                try simp only [Act.put, List.setIfInBounds_toArray, List.set_cons_zero, List.set_cons_succ]
                refine wpAnyH_take (i := 22) (oi := { dst := some 77, op := Op.move (Operand.tmp 12), type := 3, pos := "law.go:98", after := #[{ on := 14, ground := Ground.guard }], guard := some (14, true) }) (v := ?_) rfl (by kernel_rfl) (by kernel_rfl) (by kernel_rfl) (fun _ _ _ h => h) ?_ hHeld ?_
                rotate_left
                · refine Or.inl ⟨by rfl, fun w hSw => ?_⟩; skip; go_simp; (try with_reducible rfl)
                try simp only [Act.put, List.setIfInBounds_toArray, List.set_cons_zero, List.set_cons_succ]
                refine wpAnyH_take (i := 23) (oi := { dst := some 78, op := Op.indexAddr 22 (Operand.tmp 76) (Operand.tmp 77), type := 0, pos := "law.go:98", after := #[{ on := 21, ground := Ground.data }, { on := 22, ground := Ground.data }, { on := 14, ground := Ground.guard }], guard := some (14, true) }) (v := ?_) rfl (by kernel_rfl) (by kernel_rfl) (by kernel_rfl) (fun _ _ _ h => h) ?_ hHeld ?_
                rotate_left
                · refine Or.inl ⟨by rfl, fun w hSw => ?_⟩; skip; go_simp; (try with_reducible rfl)
                try simp only [Act.put, List.setIfInBounds_toArray, List.set_cons_zero, List.set_cons_succ]
                refine wpAnyH_take (i := 24) (oi := { dst := some 79, op := Op.fieldAddr 31 (Operand.tmp 78) 2, type := 0, pos := "law.go:98", after := #[{ on := 23, ground := Ground.data }, { on := 14, ground := Ground.guard }], guard := some (14, true) }) (v := ?_) rfl (by kernel_rfl) (by kernel_rfl) (by kernel_rfl) (fun _ _ _ h => h) ?_ hHeld ?_
                rotate_left
                · refine Or.inl ⟨by rfl, fun w hSw => ?_⟩; skip; go_simp; (try with_reducible rfl)
                try simp only [Act.put, List.setIfInBounds_toArray, List.set_cons_zero, List.set_cons_succ]
                refine wpAnyH_take (i := 25) (oi := { dst := some 80, op := Op.load 28 (Operand.tmp 79), type := 28, pos := "law.go:98", after := #[{ on := 24, ground := Ground.data }, { on := 14, ground := Ground.guard }], guard := some (14, true) }) (v := ?_) rfl (by kernel_rfl) (by kernel_rfl) (by kernel_rfl) (fun _ _ _ h => h) ?_ hHeld ?_
                rotate_left
                · refine Or.inl ⟨by rfl, fun w hSw => ?_⟩; have c0 : w.cell? ⟨(ad.add (k * 4)).block, (ad.add (k * 4)).off + 2, none⟩ = some (.slice A n c) := hSw.2.2.1; go_simp; (try with_reducible rfl)
                try simp only [Act.put, List.setIfInBounds_toArray, List.set_cons_zero, List.set_cons_succ]
                refine wpAnyH_ready (rs := [26]) (by kernel_rfl) (by simp) ?_
                refine AllReadyH.cons (o := { dst := some 81, op := Op.call { callee := Callee.value (Operand.func 18), args := #[Operand.tmp 80], argTypes := #[28] }, type := 33, pos := "law.go:98", after := #[{ on := 25, ground := Ground.data }, { on := 14, ground := Ground.chain }, { on := 14, ground := Ground.guard }], guard := some (14, true) }) rfl (fun Kc hKc => ?_) AllReadyH.nil
                go_simp
                refine (of_c A n c xs _ (hdB.out _ K.bl).1).mono ?_
                rintro r wa ⟨rfl, ba⟩
                have K := K.below ba
                refine hKc.out _ _ (hDA.out _ K.bl) (fun hHeld => ?_)
                clear hKc Kc
                try simp only [Act.put, List.setIfInBounds_toArray, List.set_cons_zero, List.set_cons_succ]
                refine wpAnyH_ready (rs := [27]) (by kernel_rfl) (by simp) ?_
                refine AllReadyH.cons (o := { dst := some 82, op := Op.call { callee := Callee.value (Operand.func 17), args := #[Operand.tmp 70, Operand.tmp 75, Operand.tmp 81], argTypes := #[23, 3, 34] }, type := 4, pos := "law.go:98", after := #[{ on := 15, ground := Ground.data }, { on := 20, ground := Ground.data }, { on := 26, ground := Ground.data }, { on := 26, ground := Ground.chain }, { on := 14, ground := Ground.guard }], guard := some (14, true) }) rfl (fun Kc hKc => ?_) AllReadyH.nil
                go_simp
                refine (ks_write_no K bl (ofB xs) hout.out).mono ?_
                rintro r wb ⟨rfl, K⟩
                refine hKc.out _ _ (hDA.out _ K.bl) (fun hHeld => ?_)
                clear hKc Kc
                try simp only [Act.put, List.setIfInBounds_toArray, List.set_cons_zero, List.set_cons_succ]
                refine wpAnyH_take (i := 28) (oi := { dst := some 83, op := Op.pick (Operand.tmp 69) (Operand.tmp 82) (Operand.const (Value.bool false)), type := 4, pos := "law.go:98", after := #[{ on := 14, ground := Ground.data }, { on := 27, ground := Ground.data }], guard := none }) (v := ?_) rfl (by kernel_rfl) (by kernel_rfl) (by kernel_rfl) (fun _ _ _ h => h) ?_ hHeld ?_
                rotate_left
                · refine Or.inl ⟨by rfl, fun w hSw => ?_⟩; skip; go_simp; (try with_reducible rfl)
                try simp only [Act.put, List.setIfInBounds_toArray, List.set_cons_zero, List.set_cons_succ]
                refine wpAnyH_done (by kernel_rfl) ?_ _
                replace K := Lib.hid K
                clear DA hHeld K'
                go_wp2_with fail
                go_roundw
                case rel => exact ⟨k + 1, m, Aw, cw, W2, V, by omega, by omega, by go_num, rfl, Lib.hid (by omega), K, hok2, hrel2⟩
                case measure => first | (simp [intOf]; done) | (simp [intOf]; omega)
            · have hdec : decide (k < n1 ∧ k < 30) = false := by simpa using hlt
              rw [hdec]
              have hW30 : W2.length ≤ 30 := by have := hW2.out; omega
              clear hlt hdec hW2
              have hC := Lib.hid (ks_crash K.out hok2.out (by omega) (by omega) Ak nk ck ks (hkk.out _ K.out.bl) hkk2.out)
              have hL2 : (land W2 (kf ks) L1 W2.length).length = 6 := by rw [land_len]; exact hL1
              have hat := Lib.hid (fun b => land_at (W := W2) (keep := kf ks) (L := L1) b W2.length)
              have hmW : Hid (m = W2.length) := Lib.hid (by
                have h1 := K.out.rf.len
                have h2 := hrel2.out.1
                omega)
              have hm30 : m ≤ 30 := by have := hmW.out; omega
              clear K hok2 hkk hkk2
              generalize land W2 (kf ks) L1 W2.length = L2 at *
              go_wp2_with fail
              refine hC.out.mono ?_
              rintro r w4 ⟨rfl, K4⟩
              have K4' := Lib.hid K4
              clear hC K4
              go_wp2_with fail
              refine (ks_waiting K4'.out).mono ?_
              rintro r w5 ⟨⟨A9, c9, rfl⟩, b5⟩
              have K5 := Lib.hid (K4'.out.below b5)
              clear K4' b5
              go_wp2_with fail
              go_loopw [13] (fun i wr => ∃ b : Nat, b ≤ 6 ∧ i = .int .i64 b ∧ Below w5.heap.size w5 wr) (fun i _ => 6 - (intOf i).toNat)
              case atStart => exact ⟨0, by omega, rfl, bl_refl _⟩
              case round =>
                obtain ⟨b, hb6, rfl, HB⟩ := hrel
                obtain ⟨wo, rfl⟩ : ∃ wo : World, wo = wr := ⟨_, rfl⟩
                have K := Lib.hid (K5.out.below HB)
                by_cases hb : b < 6
                · have hq : decide ((b : Int) < 6) = true := by simp; omega
                  have hR1 := Lib.hid (fun w' (h : Below wo.heap.size wo w') => ks_read (K.out.below h) b (by omega) (by omega))
                  have hR2 := Lib.hid (fun w' (h : Below wo.heap.size wo w') => ks_old (K.out.below h) b (by omega) (by omega))
                  have hfin := Lib.hid (hat.out b)
                  generalize at_ L2 b = x at *
                  generalize at_ L1 b = y at *
                  go_wp2_with fail
                  refine (hR1.out _ (bl_refl wo)).mono ?_
                  rintro r w6 ⟨rfl, b6⟩
                  go_wp2_with (first
                    | ((with_reducible refine wl_alloc rfl 34 rfl (bc zb) DiskR.new_d ?_); intro w7 k7 b7 s7)
                    | ((refine wl_store rfl 34 (.tmp 14) (.tmp 109) rfl w6.heap.size rfl (bc x) rfl 34 (bc zb) k7 (sz_bc x) (by rw [bc_size, bc_size]) (bc_one x) ?_); intro w8 k8 g8 s8))
                  have B8 := bl_then b6 (below_grown b7 b7.size g8 (Nat.le_refl _))
                  have z8 := k8.lt
                  clear b6 k7 b7 g8 s7 s8
                  refine (hR2.out _ B8).mono ?_
                  rintro r w9 ⟨rfl, b9⟩
                  have k9 := k8.below b9
                  have B9 := bl_then B8 b9
                  have z9 := k9.lt
                  clear k8 B8 b9 hR1 hR2
                  obtain ⟨gn, hgn⟩ : ∃ gn, gn = w6.heap.size := ⟨_, rfl⟩
                  rw [← hgn] at k9 z9 ⊢
                  clear hgn
                  go_upto_region 25 with (first
                    | ((with_reducible refine wl_alloc rfl 34 rfl (bc zb) DiskR.new_d ?_); intro w10 k10 b10 s10)
                    | ((refine wl_store rfl 34 (.tmp 16) (.tmp 115) rfl w9.heap.size rfl (bc y) rfl 34 (bc zb) k10 (sz_bc y) (by rw [bc_size, bc_size]) (bc_one y) ?_); intro w11 k11 g11 s11))
                  have BE := below_grown b10 b10.size g11 (Nat.le_refl _)
                  have kn := k9.below BE
                  have B11 := bl_then B9 BE
                  clear k9 B9 BE k10 b10 g11 s10 s11
                  have heq := Lib.hid (fun w' => eq_d x y w')
                  go_wp2_with (first
                    | (refine at_slot 117 rfl ?_; refine wl_load rfl 34 (.tmp 14) rfl gn rfl 34 (bc x) _ kn Try.underlying34 rfl (sz_bc _) ?_)
                    | (refine at_slot 118 rfl ?_; refine wl_load rfl 34 (.tmp 16) rfl w9.heap.size rfl 34 (bc y) _ k11 Try.underlying34 rfl (sz_bc _) ?_)
                    | (refine wl_eql rfl 34 (.tmp 117) (.tmp 118) 34 rfl (bc x) (bc y) rfl rfl (by kernel_rfl) (x.l == y.l) (heq.out _) ?_))
                  clear heq k11
                  have K11 := Lib.hid (K.out.below B11)
                  clear K
                  go_loopw [18, 19] (fun f j wr => ∃ (q : Nat) (fb : Bool), q ≤ m ∧ j = .int .i64 q ∧ f = .bool fb ∧ Hid ((x.l == y.l) = true → fb = true) ∧ Hid (∀ p z, p < q → W2[p]? = some z → z.b = b → x = z.d → fb = true) ∧ Below w11.heap.size w11 wr) (fun _ j _ => m - (intOf j).toNat)
                  case atStart => exact ⟨0, x.l == y.l, by omega, rfl, rfl, Lib.hid (fun h => h), Lib.hid (fun p z hp => by omega), bl_refl _⟩
                  case round =>
                    obtain ⟨q, fb, hqm, rfl, rfl, hf0, hfq, HBd⟩ := hrel
                    obtain ⟨wi, rfl⟩ : ∃ wi : World, wi = wr := ⟨_, rfl⟩
                    by_cases hlt : q < m
                    · have hq2 : decide ((q : Int) < (m : Int)) = true := by simp; omega
                      have hq3 : (q : Int) < (m : Int) := by omega
                      obtain ⟨⟨zb, zd⟩, hz⟩ : ∃ z, W2[q]? = some z := ⟨_, List.getElem?_eq_getElem (by have := hmW.out; omega)⟩
                      obtain ⟨i, d, ad, hV, hin, rfl, DA0, hd, hzd⟩ := hrel2.out.2 q _ hz
                      obtain ⟨gv, ov, pr, rfl, hp, hcl⟩ := (K11.out.below HBd).rf.at_ q hlt
                      have hpr : pr = ((zb : Int), i) := by
                        rw [hp] at hV
                        injection hV
                      subst hpr
                      have v0 : wi.cell? ⟨gv, ov + q * 2, none⟩ = some (.int .i64 (zb : Nat)) := hcl 0 _ rfl
                      have v1 : wi.cell? ⟨gv, ov + q * 2 + 1, none⟩ = some (.int .i64 (i : Nat)) := hcl 1 _ rfl
                      have hin' : (i : Int) < (n1 : Int) := by omega
                      have hdB := Lib.hid (fun w' (hb : Below w.heap.size w w') => hd.below hb)
                      have hDA := Lib.hid (fun w' (hb : Below w.heap.size w w') => DA0.below rfl hb)
                      have KN := kn.below HBd
                      have K := K11.out
                      have DA := hDA.out _ (bl_thenB K.bl K.bl.size HBd)
                      have hz' := Lib.hid hz
                      have hzd' := Lib.hid hzd
                      clear hz hzd hV hp hcl DA0 hd K11 kn hfin hat hrel2 B11 K5 hmW hmm
                      obtain ⟨kd, bl, A, n, c, xs, Ad, nd, cd, ds⟩ := d
                      simp only at hzd'
                      go_upto_region 29 with fail
                      replace HBd := bl_drew HBd
                      cases fb with
                      | true =>
                        refine wp_region_held_drew (S := (fun w' => w'.cell? ⟨gv, ov + q * 2, none⟩ = some (.int .i64 (zb : Nat)) ∧ w'.cell? ⟨gv, ov + q * 2 + 1, none⟩ = some (.int .i64 (i : Nat)) ∧ Blk w' gn 34 (bc x) ∧ DeedAt w' (ad.add (i * 4)) (⟨kd, bl, A, n, c, xs, Ad, nd, cd, ds⟩ : Dd))) (by kernel_rfl) (⟨cell_drew v0, cell_drew v1, KN.drew, DA.drew0⟩) (fun hHeld => ?_)
                        refine wpAnyH_take (i := 0) (oi := { dst := some 126, op := Op.move (Operand.tmp 18), type := 4, pos := "law.go:111", after := #[], guard := none }) (v := ?_) rfl (by kernel_rfl) (by kernel_rfl) (by kernel_rfl) (fun _ _ _ h => h) ?_ hHeld ?_
                        rotate_left
                        · refine Or.inl ⟨by rfl, fun w hSw => ?_⟩; skip; go_simp; (try with_reducible rfl)
                        try simp only [Act.put, List.setIfInBounds_toArray, List.set_cons_zero, List.set_cons_succ]
                        refine wpAnyH_take (i := 1) (oi := { dst := some 127, op := Op.move (Operand.tmp 126), type := 4, pos := "law.go:111", after := #[{ on := 0, ground := Ground.data }], guard := none }) (v := ?_) rfl (by kernel_rfl) (by kernel_rfl) (by kernel_rfl) (fun _ _ _ h => h) ?_ hHeld ?_
                        rotate_left
                        · refine Or.inl ⟨by rfl, fun w hSw => ?_⟩; skip; go_simp; (try with_reducible rfl)
                        try simp only [Act.put, List.setIfInBounds_toArray, List.set_cons_zero, List.set_cons_succ]
                        refine wpAnyH_take (i := 2) (oi := { dst := some 128, op := Op.move (Operand.tmp 11), type := 41, pos := "law.go:111", after := #[{ on := 1, ground := Ground.guard }], guard := some (1, false) }) (v := ?_) rfl (by kernel_rfl) (by kernel_rfl) (by kernel_rfl) (fun _ _ _ h => h) ?_ hHeld ?_
                        rotate_left
                        · refine Or.inr ⟨by rfl, ?_⟩; rfl
                        try simp only [Act.put, List.setIfInBounds_toArray, List.set_cons_zero, List.set_cons_succ]
                        refine wpAnyH_take (i := 3) (oi := { dst := some 129, op := Op.move (Operand.tmp 19), type := 3, pos := "law.go:111", after := #[{ on := 1, ground := Ground.guard }], guard := some (1, false) }) (v := ?_) rfl (by kernel_rfl) (by kernel_rfl) (by kernel_rfl) (fun _ _ _ h => h) ?_ hHeld ?_
                        rotate_left
                        · refine Or.inr ⟨by rfl, ?_⟩; rfl
                        try simp only [Act.put, List.setIfInBounds_toArray, List.set_cons_zero, List.set_cons_succ]
                        refine wpAnyH_take (i := 4) (oi := { dst := some 130, op := Op.indexAddr 41 (Operand.tmp 128) (Operand.tmp 129), type := 0, pos := "law.go:111", after := #[{ on := 2, ground := Ground.data }, { on := 3, ground := Ground.data }, { on := 1, ground := Ground.guard }], guard := some (1, false) }) (v := ?_) rfl (by kernel_rfl) (by kernel_rfl) (by kernel_rfl) (fun _ _ _ h => h) ?_ hHeld ?_
                        rotate_left
                        · refine Or.inr ⟨by rfl, ?_⟩; rfl
                        try simp only [Act.put, List.setIfInBounds_toArray, List.set_cons_zero, List.set_cons_succ]
                        refine wpAnyH_take (i := 5) (oi := { dst := some 131, op := Op.indexAddr 44 (Operand.tmp 130) (Operand.const (Value.int IntKind.i64 0)), type := 0, pos := "law.go:111", after := #[{ on := 4, ground := Ground.data }, { on := 1, ground := Ground.guard }], guard := some (1, false) }) (v := ?_) rfl (by kernel_rfl) (by kernel_rfl) (by kernel_rfl) (fun _ _ _ h => h) ?_ hHeld ?_
                        rotate_left
                        · refine Or.inr ⟨by rfl, ?_⟩; rfl
                        try simp only [Act.put, List.setIfInBounds_toArray, List.set_cons_zero, List.set_cons_succ]
                        refine wpAnyH_take (i := 6) (oi := { dst := some 132, op := Op.load 3 (Operand.tmp 131), type := 3, pos := "law.go:111", after := #[{ on := 5, ground := Ground.data }, { on := 1, ground := Ground.guard }], guard := some (1, false) }) (v := ?_) rfl (by kernel_rfl) (by kernel_rfl) (by kernel_rfl) (fun _ _ _ h => h) ?_ hHeld ?_
                        rotate_left
                        · refine Or.inr ⟨by rfl, ?_⟩; rfl
                        try simp only [Act.put, List.setIfInBounds_toArray, List.set_cons_zero, List.set_cons_succ]
                        refine wpAnyH_take (i := 7) (oi := { dst := some 133, op := Op.move (Operand.tmp 13), type := 3, pos := "law.go:111", after := #[{ on := 1, ground := Ground.guard }], guard := some (1, false) }) (v := ?_) rfl (by kernel_rfl) (by kernel_rfl) (by kernel_rfl) (fun _ _ _ h => h) ?_ hHeld ?_
                        rotate_left
                        · refine Or.inr ⟨by rfl, ?_⟩; rfl
                        try simp only [Act.put, List.setIfInBounds_toArray, List.set_cons_zero, List.set_cons_succ]
                        refine wpAnyH_take (i := 8) (oi := { dst := some 134, op := Op.binOp BinOp.eql 3 (Operand.tmp 132) (Operand.tmp 133) 3, type := 4, pos := "law.go:111", after := #[{ on := 6, ground := Ground.data }, { on := 7, ground := Ground.data }, { on := 1, ground := Ground.guard }], guard := some (1, false) }) (v := ?_) rfl (by kernel_rfl) (by kernel_rfl) (by kernel_rfl) (fun _ _ _ h => h) ?_ hHeld ?_
                        rotate_left
                        · refine Or.inr ⟨by rfl, ?_⟩; rfl
                        try simp only [Act.put, List.setIfInBounds_toArray, List.set_cons_zero, List.set_cons_succ]
                        refine wpAnyH_take (i := 9) (oi := { dst := some 135, op := Op.move (Operand.tmp 134), type := 4, pos := "law.go:111", after := #[{ on := 8, ground := Ground.data }, { on := 1, ground := Ground.chain }, { on := 1, ground := Ground.guard }], guard := some (1, false) }) (v := ?_) rfl (by kernel_rfl) (by kernel_rfl) (by kernel_rfl) (fun _ _ _ h => h) ?_ hHeld ?_
                        rotate_left
                        · refine Or.inr ⟨by rfl, ?_⟩; rfl
                        try simp only [Act.put, List.setIfInBounds_toArray, List.set_cons_zero, List.set_cons_succ]
                        refine wpAnyH_take (i := 10) (oi := { dst := some 136, op := Op.load 34 (Operand.tmp 14), type := 34, pos := "law.go:111", after := #[{ on := 9, ground := Ground.guard }], guard := some (9, true) }) (v := ?_) rfl (by kernel_rfl) (by kernel_rfl) (by kernel_rfl) (fun _ _ _ h => h) ?_ hHeld ?_
                        rotate_left
                        · refine Or.inr ⟨by rfl, ?_⟩; rfl
                        try simp only [Act.put, List.setIfInBounds_toArray, List.set_cons_zero, List.set_cons_succ]
                        refine wpAnyH_take (i := 11) (oi := { dst := some 137, op := Op.move (Operand.tmp 1), type := 22, pos := "law.go:111", after := #[{ on := 9, ground := Ground.guard }], guard := some (9, true) }) (v := ?_) rfl (by kernel_rfl) (by kernel_rfl) (by kernel_rfl) (fun _ _ _ h => h) ?_ hHeld ?_
                        rotate_left
                        · refine Or.inr ⟨by rfl, ?_⟩; rfl
                        try simp only [Act.put, List.setIfInBounds_toArray, List.set_cons_zero, List.set_cons_succ]
                        refine wpAnyH_take (i := 12) (oi := { dst := some 138, op := Op.move (Operand.tmp 11), type := 41, pos := "law.go:111", after := #[{ on := 9, ground := Ground.guard }], guard := some (9, true) }) (v := ?_) rfl (by kernel_rfl) (by kernel_rfl) (by kernel_rfl) (fun _ _ _ h => h) ?_ hHeld ?_
                        rotate_left
                        · refine Or.inr ⟨by rfl, ?_⟩; rfl
                        try simp only [Act.put, List.setIfInBounds_toArray, List.set_cons_zero, List.set_cons_succ]
                        refine wpAnyH_take (i := 13) (oi := { dst := some 139, op := Op.move (Operand.tmp 19), type := 3, pos := "law.go:111", after := #[{ on := 9, ground := Ground.guard }], guard := some (9, true) }) (v := ?_) rfl (by kernel_rfl) (by kernel_rfl) (by kernel_rfl) (fun _ _ _ h => h) ?_ hHeld ?_
                        rotate_left
                        · refine Or.inr ⟨by rfl, ?_⟩; rfl
                        try simp only [Act.put, List.setIfInBounds_toArray, List.set_cons_zero, List.set_cons_succ]
                        refine wpAnyH_take (i := 14) (oi := { dst := some 140, op := Op.indexAddr 41 (Operand.tmp 138) (Operand.tmp 139), type := 0, pos := "law.go:111", after := #[{ on := 12, ground := Ground.data }, { on := 13, ground := Ground.data }, { on := 9, ground := Ground.guard }], guard := some (9, true) }) (v := ?_) rfl (by kernel_rfl) (by kernel_rfl) (by kernel_rfl) (fun _ _ _ h => h) ?_ hHeld ?_
                        rotate_left
                        · refine Or.inr ⟨by rfl, ?_⟩; rfl
                        try simp only [Act.put, List.setIfInBounds_toArray, List.set_cons_zero, List.set_cons_succ]
                        refine wpAnyH_take (i := 15) (oi := { dst := some 141, op := Op.indexAddr 44 (Operand.tmp 140) (Operand.const (Value.int IntKind.i64 1)), type := 0, pos := "law.go:111", after := #[{ on := 14, ground := Ground.data }, { on := 9, ground := Ground.guard }], guard := some (9, true) }) (v := ?_) rfl (by kernel_rfl) (by kernel_rfl) (by kernel_rfl) (fun _ _ _ h => h) ?_ hHeld ?_
                        rotate_left
                        · refine Or.inr ⟨by rfl, ?_⟩; rfl
                        try simp only [Act.put, List.setIfInBounds_toArray, List.set_cons_zero, List.set_cons_succ]
                        refine wpAnyH_take (i := 16) (oi := { dst := some 142, op := Op.load 3 (Operand.tmp 141), type := 3, pos := "law.go:111", after := #[{ on := 15, ground := Ground.data }, { on := 9, ground := Ground.guard }], guard := some (9, true) }) (v := ?_) rfl (by kernel_rfl) (by kernel_rfl) (by kernel_rfl) (fun _ _ _ h => h) ?_ hHeld ?_
                        rotate_left
                        · refine Or.inr ⟨by rfl, ?_⟩; rfl
                        try simp only [Act.put, List.setIfInBounds_toArray, List.set_cons_zero, List.set_cons_succ]
                        refine wpAnyH_take (i := 17) (oi := { dst := some 143, op := Op.indexAddr 22 (Operand.tmp 137) (Operand.tmp 142), type := 0, pos := "law.go:111", after := #[{ on := 11, ground := Ground.data }, { on := 16, ground := Ground.data }, { on := 9, ground := Ground.guard }], guard := some (9, true) }) (v := ?_) rfl (by kernel_rfl) (by kernel_rfl) (by kernel_rfl) (fun _ _ _ h => h) ?_ hHeld ?_
                        rotate_left
                        · refine Or.inr ⟨by rfl, ?_⟩; rfl
                        try simp only [Act.put, List.setIfInBounds_toArray, List.set_cons_zero, List.set_cons_succ]
                        refine wpAnyH_take (i := 18) (oi := { dst := some 144, op := Op.fieldAddr 31 (Operand.tmp 143) 2, type := 0, pos := "law.go:111", after := #[{ on := 17, ground := Ground.data }, { on := 9, ground := Ground.guard }], guard := some (9, true) }) (v := ?_) rfl (by kernel_rfl) (by kernel_rfl) (by kernel_rfl) (fun _ _ _ h => h) ?_ hHeld ?_
                        rotate_left
                        · refine Or.inr ⟨by rfl, ?_⟩; rfl
                        try simp only [Act.put, List.setIfInBounds_toArray, List.set_cons_zero, List.set_cons_succ]
                        refine wpAnyH_take (i := 19) (oi := { dst := some 145, op := Op.load 28 (Operand.tmp 144), type := 28, pos := "law.go:111", after := #[{ on := 18, ground := Ground.data }, { on := 9, ground := Ground.guard }], guard := some (9, true) }) (v := ?_) rfl (by kernel_rfl) (by kernel_rfl) (by kernel_rfl) (fun _ _ _ h => h) ?_ hHeld ?_
                        rotate_left
                        · refine Or.inr ⟨by rfl, ?_⟩; rfl
                        try simp only [Act.put, List.setIfInBounds_toArray, List.set_cons_zero, List.set_cons_succ]
                        refine wpAnyH_take (i := 20) (oi := { dst := some 146, op := Op.call { callee := Callee.value (Operand.func 18), args := #[Operand.tmp 145], argTypes := #[28] }, type := 33, pos := "law.go:111", after := #[{ on := 19, ground := Ground.data }, { on := 9, ground := Ground.chain }, { on := 9, ground := Ground.guard }], guard := some (9, true) }) (v := ?_) rfl (by kernel_rfl) (by kernel_rfl) (by kernel_rfl) (fun _ _ _ h => h) ?_ hHeld ?_
                        rotate_left
                        · refine Or.inr ⟨by rfl, ?_⟩; rfl
                        try simp only [Act.put, List.setIfInBounds_toArray, List.set_cons_zero, List.set_cons_succ]
                        refine wpAnyH_take (i := 21) (oi := { dst := some 147, op := Op.binOp BinOp.eql 34 (Operand.tmp 136) (Operand.tmp 146) 34, type := 4, pos := "law.go:111", after := #[{ on := 10, ground := Ground.data }, { on := 20, ground := Ground.data }, { on := 9, ground := Ground.guard }], guard := some (9, true) }) (v := ?_) rfl (by kernel_rfl) (by kernel_rfl) (by kernel_rfl) (fun _ _ _ h => h) ?_ hHeld ?_
                        rotate_left
                        · refine Or.inr ⟨by rfl, ?_⟩; rfl
                        try simp only [Act.put, List.setIfInBounds_toArray, List.set_cons_zero, List.set_cons_succ]
                        refine wpAnyH_take (i := 22) (oi := { dst := some 148, op := Op.pick (Operand.tmp 135) (Operand.tmp 147) (Operand.const (Value.bool false)), type := 4, pos := "law.go:111", after := #[{ on := 9, ground := Ground.data }, { on := 21, ground := Ground.data }, { on := 1, ground := Ground.guard }], guard := some (1, false) }) (v := ?_) rfl (by kernel_rfl) (by kernel_rfl) (by kernel_rfl) (fun _ _ _ h => h) ?_ hHeld ?_
                        rotate_left
                        · refine Or.inr ⟨by rfl, ?_⟩; rfl
                        try simp only [Act.put, List.setIfInBounds_toArray, List.set_cons_zero, List.set_cons_succ]
                        refine wpAnyH_take (i := 23) (oi := { dst := some 149, op := Op.pick (Operand.tmp 127) (Operand.const (Value.bool true)) (Operand.tmp 148), type := 4, pos := "law.go:111", after := #[{ on := 1, ground := Ground.data }, { on := 22, ground := Ground.data }], guard := none }) (v := ?_) rfl (by kernel_rfl) (by kernel_rfl) (by kernel_rfl) (fun _ _ _ h => h) ?_ hHeld ?_
                        rotate_left
                        · refine Or.inl ⟨by rfl, fun w hSw => ?_⟩; skip; go_simp; (try with_reducible rfl)
                        try simp only [Act.put, List.setIfInBounds_toArray, List.set_cons_zero, List.set_cons_succ]
                        refine wpAnyH_take (i := 24) (oi := { dst := some 18, op := Op.assign (Operand.tmp 149), type := 4, pos := "law.go:111", after := #[{ on := 23, ground := Ground.data }, { on := 20, ground := Ground.chain }, { on := 0, ground := Ground.phase }, { on := 1, ground := Ground.phase }, { on := 2, ground := Ground.phase }, { on := 3, ground := Ground.phase }, { on := 4, ground := Ground.phase }, { on := 5, ground := Ground.phase }, { on := 6, ground := Ground.phase }, { on := 7, ground := Ground.phase }, { on := 8, ground := Ground.phase }, { on := 9, ground := Ground.phase }, { on := 10, ground := Ground.phase }, { on := 11, ground := Ground.phase }, { on := 12, ground := Ground.phase }, { on := 13, ground := Ground.phase }, { on := 14, ground := Ground.phase }, { on := 15, ground := Ground.phase }, { on := 16, ground := Ground.phase }, { on := 17, ground := Ground.phase }, { on := 18, ground := Ground.phase }, { on := 19, ground := Ground.phase }, { on := 20, ground := Ground.phase }, { on := 21, ground := Ground.phase }, { on := 22, ground := Ground.phase }, { on := 23, ground := Ground.phase }], guard := none }) (v := ?_) rfl (by kernel_rfl) (by kernel_rfl) (by kernel_rfl) (fun _ _ _ h => h) ?_ hHeld ?_
                        rotate_left
                        · refine Or.inl ⟨by rfl, fun w hSw => ?_⟩; skip; go_simp; (try with_reducible rfl)
                        try simp only [Act.put, List.setIfInBounds_toArray, List.set_cons_zero, List.set_cons_succ]
                        refine wpAnyH_done (by kernel_rfl) ?_ _
                        clear hHeld DA KN v0 v1 hDA hdB K
                        go_wp2_with fail
                        go_roundw
                        case rel => exact ⟨q + 1, true, by omega, by go_num, rfl, Lib.hid (fun _ => rfl), Lib.hid (fun _ _ _ _ _ _ => rfl), HBd⟩
                        case measure => first | (simp [intOf]; done) | (simp [intOf]; omega)
                      | false =>
                        by_cases hzb : zb = b
                        · subst hzb
                          refine wp_region_held_drew (S := (fun w' => w'.cell? ⟨gv, ov + q * 2, none⟩ = some (.int .i64 (zb : Nat)) ∧ w'.cell? ⟨gv, ov + q * 2 + 1, none⟩ = some (.int .i64 (i : Nat)) ∧ Blk w' gn 34 (bc x) ∧ DeedAt w' (ad.add (i * 4)) (⟨kd, bl, A, n, c, xs, Ad, nd, cd, ds⟩ : Dd))) (by kernel_rfl) (⟨cell_drew v0, cell_drew v1, KN.drew, DA.drew0⟩) (fun hHeld => ?_)
                          refine wpAnyH_take (i := 0) (oi := { dst := some 126, op := Op.move (Operand.tmp 18), type := 4, pos := "law.go:111", after := #[], guard := none }) (v := ?_) rfl (by kernel_rfl) (by kernel_rfl) (by kernel_rfl) (fun _ _ _ h => h) ?_ hHeld ?_
                          rotate_left
                          · refine Or.inl ⟨by rfl, fun w hSw => ?_⟩; skip; go_simp; (try with_reducible rfl)
                          try simp only [Act.put, List.setIfInBounds_toArray, List.set_cons_zero, List.set_cons_succ]
                          refine wpAnyH_take (i := 1) (oi := { dst := some 127, op := Op.move (Operand.tmp 126), type := 4, pos := "law.go:111", after := #[{ on := 0, ground := Ground.data }], guard := none }) (v := ?_) rfl (by kernel_rfl) (by kernel_rfl) (by kernel_rfl) (fun _ _ _ h => h) ?_ hHeld ?_
                          rotate_left
                          · refine Or.inl ⟨by rfl, fun w hSw => ?_⟩; skip; go_simp; (try with_reducible rfl)
                          try simp only [Act.put, List.setIfInBounds_toArray, List.set_cons_zero, List.set_cons_succ]
                          refine wpAnyH_take (i := 2) (oi := { dst := some 128, op := Op.move (Operand.tmp 11), type := 41, pos := "law.go:111", after := #[{ on := 1, ground := Ground.guard }], guard := some (1, false) }) (v := ?_) rfl (by kernel_rfl) (by kernel_rfl) (by kernel_rfl) (fun _ _ _ h => h) ?_ hHeld ?_
                          rotate_left
                          · refine Or.inl ⟨by rfl, fun w hSw => ?_⟩; skip; go_simp; (try with_reducible rfl)
                          try simp only [Act.put, List.setIfInBounds_toArray, List.set_cons_zero, List.set_cons_succ]
                          refine wpAnyH_take (i := 3) (oi := { dst := some 129, op := Op.move (Operand.tmp 19), type := 3, pos := "law.go:111", after := #[{ on := 1, ground := Ground.guard }], guard := some (1, false) }) (v := ?_) rfl (by kernel_rfl) (by kernel_rfl) (by kernel_rfl) (fun _ _ _ h => h) ?_ hHeld ?_
                          rotate_left
                          · refine Or.inl ⟨by rfl, fun w hSw => ?_⟩; skip; go_simp; (try with_reducible rfl)
                          try simp only [Act.put, List.setIfInBounds_toArray, List.set_cons_zero, List.set_cons_succ]
                          refine wpAnyH_take (i := 4) (oi := { dst := some 130, op := Op.indexAddr 41 (Operand.tmp 128) (Operand.tmp 129), type := 0, pos := "law.go:111", after := #[{ on := 2, ground := Ground.data }, { on := 3, ground := Ground.data }, { on := 1, ground := Ground.guard }], guard := some (1, false) }) (v := ?_) rfl (by kernel_rfl) (by kernel_rfl) (by kernel_rfl) (fun _ _ _ h => h) ?_ hHeld ?_
                          rotate_left
                          · refine Or.inl ⟨by rfl, fun w hSw => ?_⟩; skip; go_simp; (try with_reducible rfl)
                          try simp only [Act.put, List.setIfInBounds_toArray, List.set_cons_zero, List.set_cons_succ]
                          refine wpAnyH_take (i := 5) (oi := { dst := some 131, op := Op.indexAddr 44 (Operand.tmp 130) (Operand.const (Value.int IntKind.i64 0)), type := 0, pos := "law.go:111", after := #[{ on := 4, ground := Ground.data }, { on := 1, ground := Ground.guard }], guard := some (1, false) }) (v := ?_) rfl (by kernel_rfl) (by kernel_rfl) (by kernel_rfl) (fun _ _ _ h => h) ?_ hHeld ?_
                          rotate_left
                          · refine Or.inl ⟨by rfl, fun w hSw => ?_⟩; skip; go_simp; (try with_reducible rfl)
                          try simp only [Act.put, List.setIfInBounds_toArray, List.set_cons_zero, List.set_cons_succ]
                          refine wpAnyH_take (i := 6) (oi := { dst := some 132, op := Op.load 3 (Operand.tmp 131), type := 3, pos := "law.go:111", after := #[{ on := 5, ground := Ground.data }, { on := 1, ground := Ground.guard }], guard := some (1, false) }) (v := ?_) rfl (by kernel_rfl) (by kernel_rfl) (by kernel_rfl) (fun _ _ _ h => h) ?_ hHeld ?_
                          rotate_left
                          · refine Or.inl ⟨by rfl, fun w hSw => ?_⟩; have c0 := hSw.1; go_simp; (try with_reducible rfl)
                          try simp only [Act.put, List.setIfInBounds_toArray, List.set_cons_zero, List.set_cons_succ]
                          refine wpAnyH_take (i := 7) (oi := { dst := some 133, op := Op.move (Operand.tmp 13), type := 3, pos := "law.go:111", after := #[{ on := 1, ground := Ground.guard }], guard := some (1, false) }) (v := ?_) rfl (by kernel_rfl) (by kernel_rfl) (by kernel_rfl) (fun _ _ _ h => h) ?_ hHeld ?_
                          rotate_left
                          · refine Or.inl ⟨by rfl, fun w hSw => ?_⟩; skip; go_simp; (try with_reducible rfl)
                          try simp only [Act.put, List.setIfInBounds_toArray, List.set_cons_zero, List.set_cons_succ]
                          refine wpAnyH_take (i := 8) (oi := { dst := some 134, op := Op.binOp BinOp.eql 3 (Operand.tmp 132) (Operand.tmp 133) 3, type := 4, pos := "law.go:111", after := #[{ on := 6, ground := Ground.data }, { on := 7, ground := Ground.data }, { on := 1, ground := Ground.guard }], guard := some (1, false) }) (v := ?_) rfl (by kernel_rfl) (by kernel_rfl) (by kernel_rfl) (fun _ _ _ h => h) ?_ hHeld ?_
                          rotate_left
                          · refine Or.inl ⟨by rfl, fun w hSw => ?_⟩; skip; go_simp; (try with_reducible rfl)
                          try simp only [Act.put, List.setIfInBounds_toArray, List.set_cons_zero, List.set_cons_succ]
                          refine wpAnyH_take (i := 9) (oi := { dst := some 135, op := Op.move (Operand.tmp 134), type := 4, pos := "law.go:111", after := #[{ on := 8, ground := Ground.data }, { on := 1, ground := Ground.chain }, { on := 1, ground := Ground.guard }], guard := some (1, false) }) (v := ?_) rfl (by kernel_rfl) (by kernel_rfl) (by kernel_rfl) (fun _ _ _ h => h) ?_ hHeld ?_
                          rotate_left
                          · refine Or.inl ⟨by rfl, fun w hSw => ?_⟩; skip; go_simp; (try with_reducible rfl)
                          try simp only [Act.put, List.setIfInBounds_toArray, List.set_cons_zero, List.set_cons_succ]
                          refine wpAnyH_take (i := 10) (oi := { dst := some 136, op := Op.load 34 (Operand.tmp 14), type := 34, pos := "law.go:111", after := #[{ on := 9, ground := Ground.guard }], guard := some (9, true) }) (v := ?_) rfl (by kernel_rfl) (by kernel_rfl) (by kernel_rfl) (fun _ _ _ h => h) ?_ hHeld ?_
                          rotate_left
                          · refine yIf_load 34 (.tmp 14) gn 34 (bc x) _ ?_ Try.underlying34 rfl (sz_bc x) ?_ ?_ ?_
                            · exact fun _ h => h.2.2.1
                            · rfl
                            · rfl
                            · rfl
                          try simp only [Act.put, List.setIfInBounds_toArray, List.set_cons_zero, List.set_cons_succ]
                          refine wpAnyH_take (i := 11) (oi := { dst := some 137, op := Op.move (Operand.tmp 1), type := 22, pos := "law.go:111", after := #[{ on := 9, ground := Ground.guard }], guard := some (9, true) }) (v := ?_) rfl (by kernel_rfl) (by kernel_rfl) (by kernel_rfl) (fun _ _ _ h => h) ?_ hHeld ?_
                          rotate_left
                          · refine Or.inl ⟨by rfl, fun w hSw => ?_⟩; skip; go_simp; (try with_reducible rfl)
                          try simp only [Act.put, List.setIfInBounds_toArray, List.set_cons_zero, List.set_cons_succ]
                          refine wpAnyH_take (i := 12) (oi := { dst := some 138, op := Op.move (Operand.tmp 11), type := 41, pos := "law.go:111", after := #[{ on := 9, ground := Ground.guard }], guard := some (9, true) }) (v := ?_) rfl (by kernel_rfl) (by kernel_rfl) (by kernel_rfl) (fun _ _ _ h => h) ?_ hHeld ?_
                          rotate_left
                          · refine Or.inl ⟨by rfl, fun w hSw => ?_⟩; skip; go_simp; (try with_reducible rfl)
                          try simp only [Act.put, List.setIfInBounds_toArray, List.set_cons_zero, List.set_cons_succ]
                          refine wpAnyH_take (i := 13) (oi := { dst := some 139, op := Op.move (Operand.tmp 19), type := 3, pos := "law.go:111", after := #[{ on := 9, ground := Ground.guard }], guard := some (9, true) }) (v := ?_) rfl (by kernel_rfl) (by kernel_rfl) (by kernel_rfl) (fun _ _ _ h => h) ?_ hHeld ?_
                          rotate_left
                          · refine Or.inl ⟨by rfl, fun w hSw => ?_⟩; skip; go_simp; (try with_reducible rfl)
                          try simp only [Act.put, List.setIfInBounds_toArray, List.set_cons_zero, List.set_cons_succ]
                          refine wpAnyH_take (i := 14) (oi := { dst := some 140, op := Op.indexAddr 41 (Operand.tmp 138) (Operand.tmp 139), type := 0, pos := "law.go:111", after := #[{ on := 12, ground := Ground.data }, { on := 13, ground := Ground.data }, { on := 9, ground := Ground.guard }], guard := some (9, true) }) (v := ?_) rfl (by kernel_rfl) (by kernel_rfl) (by kernel_rfl) (fun _ _ _ h => h) ?_ hHeld ?_
                          rotate_left
                          · refine Or.inl ⟨by rfl, fun w hSw => ?_⟩; skip; go_simp; (try with_reducible rfl)
                          try simp only [Act.put, List.setIfInBounds_toArray, List.set_cons_zero, List.set_cons_succ]
                          refine wpAnyH_take (i := 15) (oi := { dst := some 141, op := Op.indexAddr 44 (Operand.tmp 140) (Operand.const (Value.int IntKind.i64 1)), type := 0, pos := "law.go:111", after := #[{ on := 14, ground := Ground.data }, { on := 9, ground := Ground.guard }], guard := some (9, true) }) (v := ?_) rfl (by kernel_rfl) (by kernel_rfl) (by kernel_rfl) (fun _ _ _ h => h) ?_ hHeld ?_
                          rotate_left
                          · refine Or.inl ⟨by rfl, fun w hSw => ?_⟩; skip; go_simp; (try with_reducible rfl)
                          try simp only [Act.put, List.setIfInBounds_toArray, List.set_cons_zero, List.set_cons_succ]
                          refine wpAnyH_take (i := 16) (oi := { dst := some 142, op := Op.load 3 (Operand.tmp 141), type := 3, pos := "law.go:111", after := #[{ on := 15, ground := Ground.data }, { on := 9, ground := Ground.guard }], guard := some (9, true) }) (v := ?_) rfl (by kernel_rfl) (by kernel_rfl) (by kernel_rfl) (fun _ _ _ h => h) ?_ hHeld ?_
                          rotate_left
                          · refine Or.inl ⟨by rfl, fun w hSw => ?_⟩; have c0 := hSw.2.1; go_simp; (try with_reducible rfl)
                          try simp only [Act.put, List.setIfInBounds_toArray, List.set_cons_zero, List.set_cons_succ]
                          refine wpAnyH_take (i := 17) (oi := { dst := some 143, op := Op.indexAddr 22 (Operand.tmp 137) (Operand.tmp 142), type := 0, pos := "law.go:111", after := #[{ on := 11, ground := Ground.data }, { on := 16, ground := Ground.data }, { on := 9, ground := Ground.guard }], guard := some (9, true) }) (v := ?_) rfl (by kernel_rfl) (by kernel_rfl) (by kernel_rfl) (fun _ _ _ h => h) ?_ hHeld ?_
                          rotate_left
                          · refine Or.inl ⟨by rfl, fun w hSw => ?_⟩; skip; go_simp; (try with_reducible rfl)
                          try simp only [Act.put, List.setIfInBounds_toArray, List.set_cons_zero, List.set_cons_succ]
                          refine wpAnyH_take (i := 18) (oi := { dst := some 144, op := Op.fieldAddr 31 (Operand.tmp 143) 2, type := 0, pos := "law.go:111", after := #[{ on := 17, ground := Ground.data }, { on := 9, ground := Ground.guard }], guard := some (9, true) }) (v := ?_) rfl (by kernel_rfl) (by kernel_rfl) (by kernel_rfl) (fun _ _ _ h => h) ?_ hHeld ?_
                          rotate_left
                          · refine Or.inl ⟨by rfl, fun w hSw => ?_⟩; skip; go_simp; (try with_reducible rfl)
                          try simp only [Act.put, List.setIfInBounds_toArray, List.set_cons_zero, List.set_cons_succ]
                          refine wpAnyH_take (i := 19) (oi := { dst := some 145, op := Op.load 28 (Operand.tmp 144), type := 28, pos := "law.go:111", after := #[{ on := 18, ground := Ground.data }, { on := 9, ground := Ground.guard }], guard := some (9, true) }) (v := ?_) rfl (by kernel_rfl) (by kernel_rfl) (by kernel_rfl) (fun _ _ _ h => h) ?_ hHeld ?_
                          rotate_left
                          · refine Or.inl ⟨by rfl, fun w hSw => ?_⟩; have c0 : w.cell? ⟨(ad.add (i * 4)).block, (ad.add (i * 4)).off + 2, none⟩ = some (.slice A n c) := hSw.2.2.2.2.2.1; go_simp; (try with_reducible rfl)
                          try simp only [Act.put, List.setIfInBounds_toArray, List.set_cons_zero, List.set_cons_succ]
                          refine wpAnyH_ready (rs := [20]) (by kernel_rfl) (by simp) ?_
                          refine AllReadyH.cons (o := { dst := some 146, op := Op.call { callee := Callee.value (Operand.func 18), args := #[Operand.tmp 145], argTypes := #[28] }, type := 33, pos := "law.go:111", after := #[{ on := 19, ground := Ground.data }, { on := 9, ground := Ground.chain }, { on := 9, ground := Ground.guard }], guard := some (9, true) }) rfl (fun Kc hKc => ?_) AllReadyH.nil
                          go_simp
                          refine (of_c A n c xs _ (hdB.out _ (bl_thenB K.bl K.bl.size HBd)).1).mono ?_
                          rintro r wa ⟨rfl, ba⟩
                          have HBd := bl_then HBd ba
                          refine hKc.out _ _ (⟨bl_cell ba hHeld.1, bl_cell ba hHeld.2.1, hHeld.2.2.1.below ba, hDA.out _ (bl_thenB K.bl K.bl.size HBd)⟩) (fun hHeld => ?_)
                          clear hKc Kc
                          try simp only [Act.put, List.setIfInBounds_toArray, List.set_cons_zero, List.set_cons_succ]
                          refine wpAnyH_take (i := 21) (oi := { dst := some 147, op := Op.binOp BinOp.eql 34 (Operand.tmp 136) (Operand.tmp 146) 34, type := 4, pos := "law.go:111", after := #[{ on := 10, ground := Ground.data }, { on := 20, ground := Ground.data }, { on := 9, ground := Ground.guard }], guard := some (9, true) }) (v := ?_) rfl (by kernel_rfl) (by kernel_rfl) (by kernel_rfl) (fun _ _ _ h => h) ?_ hHeld ?_
                          rotate_left
                          · refine yIf_eql 34 (.tmp 136) (.tmp 146) 34 (bc x) (bc (ofB xs)) (by kernel_rfl) (x.l == (ofB xs).l) (fun w => eq_d _ _ w) ?_ ?_ ?_ ?_
                            · rfl
                            · rfl
                            · rfl
                            · rfl
                          try simp only [Act.put, List.setIfInBounds_toArray, List.set_cons_zero, List.set_cons_succ]
                          refine wpAnyH_take (i := 22) (oi := { dst := some 148, op := Op.pick (Operand.tmp 135) (Operand.tmp 147) (Operand.const (Value.bool false)), type := 4, pos := "law.go:111", after := #[{ on := 9, ground := Ground.data }, { on := 21, ground := Ground.data }, { on := 1, ground := Ground.guard }], guard := some (1, false) }) (v := ?_) rfl (by kernel_rfl) (by kernel_rfl) (by kernel_rfl) (fun _ _ _ h => h) ?_ hHeld ?_
                          rotate_left
                          · refine Or.inl ⟨by rfl, fun w hSw => ?_⟩; skip; go_simp; (try with_reducible rfl)
                          try simp only [Act.put, List.setIfInBounds_toArray, List.set_cons_zero, List.set_cons_succ]
                          refine wpAnyH_take (i := 23) (oi := { dst := some 149, op := Op.pick (Operand.tmp 127) (Operand.const (Value.bool true)) (Operand.tmp 148), type := 4, pos := "law.go:111", after := #[{ on := 1, ground := Ground.data }, { on := 22, ground := Ground.data }], guard := none }) (v := ?_) rfl (by kernel_rfl) (by kernel_rfl) (by kernel_rfl) (fun _ _ _ h => h) ?_ hHeld ?_
                          rotate_left
                          · refine Or.inl ⟨by rfl, fun w hSw => ?_⟩; skip; go_simp; (try with_reducible rfl)
                          try simp only [Act.put, List.setIfInBounds_toArray, List.set_cons_zero, List.set_cons_succ]
                          refine wpAnyH_take (i := 24) (oi := { dst := some 18, op := Op.assign (Operand.tmp 149), type := 4, pos := "law.go:111", after := #[{ on := 23, ground := Ground.data }, { on := 20, ground := Ground.chain }, { on := 0, ground := Ground.phase }, { on := 1, ground := Ground.phase }, { on := 2, ground := Ground.phase }, { on := 3, ground := Ground.phase }, { on := 4, ground := Ground.phase }, { on := 5, ground := Ground.phase }, { on := 6, ground := Ground.phase }, { on := 7, ground := Ground.phase }, { on := 8, ground := Ground.phase }, { on := 9, ground := Ground.phase }, { on := 10, ground := Ground.phase }, { on := 11, ground := Ground.phase }, { on := 12, ground := Ground.phase }, { on := 13, ground := Ground.phase }, { on := 14, ground := Ground.phase }, { on := 15, ground := Ground.phase }, { on := 16, ground := Ground.phase }, { on := 17, ground := Ground.phase }, { on := 18, ground := Ground.phase }, { on := 19, ground := Ground.phase }, { on := 20, ground := Ground.phase }, { on := 21, ground := Ground.phase }, { on := 22, ground := Ground.phase }, { on := 23, ground := Ground.phase }], guard := none }) (v := ?_) rfl (by kernel_rfl) (by kernel_rfl) (by kernel_rfl) (fun _ _ _ h => h) ?_ hHeld ?_
                          rotate_left
                          · refine Or.inl ⟨by rfl, fun w hSw => ?_⟩; skip; go_simp; (try with_reducible rfl)
                          try simp only [Act.put, List.setIfInBounds_toArray, List.set_cons_zero, List.set_cons_succ]
                          refine wpAnyH_done (by kernel_rfl) ?_ _
                          clear hHeld DA KN v0 v1 hDA hdB K
                          have hz2 := hz'.out
                          have hzd2 := hzd'.out
                          have hnew : Hid ((x.l == y.l) = true → (x.l == (ofB xs).l) = true) := Lib.hid (fun h => by have := hf0.out h; cases this)
                          have hnew2 : Hid (∀ p z, p < q + 1 → W2[p]? = some z → z.b = zb → x = z.d → (x.l == (ofB xs).l) = true) := Lib.hid (fun p z hp hz h1 h2 => by
                            rcases Nat.lt_or_ge p q with h | h
                            · have := hfq.out p z h hz h1 h2; cases this
                            · have e : p = q := by omega
                              rw [e, hz2] at hz
                              injection hz with hz
                              subst hz
                              rw [h2, hzd2]
                              simp)
                          clear hz2 hzd2
                          go_wp2_with fail
                          go_roundw
                          case rel => exact ⟨q + 1, (x.l == (ofB xs).l), by omega, by go_num, rfl, hnew, hnew2, HBd⟩
                          case measure => first | (simp [intOf]; done) | (simp [intOf]; omega)
                        · have he1 : ((zb : Int) == (b : Int)) = false := by simp; omega
                          have he2 : ¬ (zb : Int) = (b : Int) := by omega
                          refine wp_region_held_drew (S := (fun w' => w'.cell? ⟨gv, ov + q * 2, none⟩ = some (.int .i64 (zb : Nat)) ∧ w'.cell? ⟨gv, ov + q * 2 + 1, none⟩ = some (.int .i64 (i : Nat)) ∧ Blk w' gn 34 (bc x) ∧ DeedAt w' (ad.add (i * 4)) (⟨kd, bl, A, n, c, xs, Ad, nd, cd, ds⟩ : Dd))) (by kernel_rfl) (⟨cell_drew v0, cell_drew v1, KN.drew, DA.drew0⟩) (fun hHeld => ?_)
                          refine wpAnyH_take (i := 0) (oi := { dst := some 126, op := Op.move (Operand.tmp 18), type := 4, pos := "law.go:111", after := #[], guard := none }) (v := ?_) rfl (by kernel_rfl) (by kernel_rfl) (by kernel_rfl) (fun _ _ _ h => h) ?_ hHeld ?_
                          rotate_left
                          · refine Or.inl ⟨by rfl, fun w hSw => ?_⟩; skip; go_simp; (try with_reducible rfl)
                          try simp only [Act.put, List.setIfInBounds_toArray, List.set_cons_zero, List.set_cons_succ]
                          refine wpAnyH_take (i := 1) (oi := { dst := some 127, op := Op.move (Operand.tmp 126), type := 4, pos := "law.go:111", after := #[{ on := 0, ground := Ground.data }], guard := none }) (v := ?_) rfl (by kernel_rfl) (by kernel_rfl) (by kernel_rfl) (fun _ _ _ h => h) ?_ hHeld ?_
                          rotate_left
                          · refine Or.inl ⟨by rfl, fun w hSw => ?_⟩; skip; go_simp; (try with_reducible rfl)
                          try simp only [Act.put, List.setIfInBounds_toArray, List.set_cons_zero, List.set_cons_succ]
                          refine wpAnyH_take (i := 2) (oi := { dst := some 128, op := Op.move (Operand.tmp 11), type := 41, pos := "law.go:111", after := #[{ on := 1, ground := Ground.guard }], guard := some (1, false) }) (v := ?_) rfl (by kernel_rfl) (by kernel_rfl) (by kernel_rfl) (fun _ _ _ h => h) ?_ hHeld ?_
                          rotate_left
                          · refine Or.inl ⟨by rfl, fun w hSw => ?_⟩; skip; go_simp; (try with_reducible rfl)
                          try simp only [Act.put, List.setIfInBounds_toArray, List.set_cons_zero, List.set_cons_succ]
                          refine wpAnyH_take (i := 3) (oi := { dst := some 129, op := Op.move (Operand.tmp 19), type := 3, pos := "law.go:111", after := #[{ on := 1, ground := Ground.guard }], guard := some (1, false) }) (v := ?_) rfl (by kernel_rfl) (by kernel_rfl) (by kernel_rfl) (fun _ _ _ h => h) ?_ hHeld ?_
                          rotate_left
                          · refine Or.inl ⟨by rfl, fun w hSw => ?_⟩; skip; go_simp; (try with_reducible rfl)
                          try simp only [Act.put, List.setIfInBounds_toArray, List.set_cons_zero, List.set_cons_succ]
                          refine wpAnyH_take (i := 4) (oi := { dst := some 130, op := Op.indexAddr 41 (Operand.tmp 128) (Operand.tmp 129), type := 0, pos := "law.go:111", after := #[{ on := 2, ground := Ground.data }, { on := 3, ground := Ground.data }, { on := 1, ground := Ground.guard }], guard := some (1, false) }) (v := ?_) rfl (by kernel_rfl) (by kernel_rfl) (by kernel_rfl) (fun _ _ _ h => h) ?_ hHeld ?_
                          rotate_left
                          · refine Or.inl ⟨by rfl, fun w hSw => ?_⟩; skip; go_simp; (try with_reducible rfl)
                          try simp only [Act.put, List.setIfInBounds_toArray, List.set_cons_zero, List.set_cons_succ]
                          refine wpAnyH_take (i := 5) (oi := { dst := some 131, op := Op.indexAddr 44 (Operand.tmp 130) (Operand.const (Value.int IntKind.i64 0)), type := 0, pos := "law.go:111", after := #[{ on := 4, ground := Ground.data }, { on := 1, ground := Ground.guard }], guard := some (1, false) }) (v := ?_) rfl (by kernel_rfl) (by kernel_rfl) (by kernel_rfl) (fun _ _ _ h => h) ?_ hHeld ?_
                          rotate_left
                          · refine Or.inl ⟨by rfl, fun w hSw => ?_⟩; skip; go_simp; (try with_reducible rfl)
                          try simp only [Act.put, List.setIfInBounds_toArray, List.set_cons_zero, List.set_cons_succ]
                          refine wpAnyH_take (i := 6) (oi := { dst := some 132, op := Op.load 3 (Operand.tmp 131), type := 3, pos := "law.go:111", after := #[{ on := 5, ground := Ground.data }, { on := 1, ground := Ground.guard }], guard := some (1, false) }) (v := ?_) rfl (by kernel_rfl) (by kernel_rfl) (by kernel_rfl) (fun _ _ _ h => h) ?_ hHeld ?_
                          rotate_left
                          · refine Or.inl ⟨by rfl, fun w hSw => ?_⟩; have c0 := hSw.1; go_simp; (try with_reducible rfl)
                          try simp only [Act.put, List.setIfInBounds_toArray, List.set_cons_zero, List.set_cons_succ]
                          refine wpAnyH_take (i := 7) (oi := { dst := some 133, op := Op.move (Operand.tmp 13), type := 3, pos := "law.go:111", after := #[{ on := 1, ground := Ground.guard }], guard := some (1, false) }) (v := ?_) rfl (by kernel_rfl) (by kernel_rfl) (by kernel_rfl) (fun _ _ _ h => h) ?_ hHeld ?_
                          rotate_left
                          · refine Or.inl ⟨by rfl, fun w hSw => ?_⟩; skip; go_simp; (try with_reducible rfl)
                          try simp only [Act.put, List.setIfInBounds_toArray, List.set_cons_zero, List.set_cons_succ]
                          refine wpAnyH_take (i := 8) (oi := { dst := some 134, op := Op.binOp BinOp.eql 3 (Operand.tmp 132) (Operand.tmp 133) 3, type := 4, pos := "law.go:111", after := #[{ on := 6, ground := Ground.data }, { on := 7, ground := Ground.data }, { on := 1, ground := Ground.guard }], guard := some (1, false) }) (v := ?_) rfl (by kernel_rfl) (by kernel_rfl) (by kernel_rfl) (fun _ _ _ h => h) ?_ hHeld ?_
                          rotate_left
                          · refine Or.inl ⟨by rfl, fun w hSw => ?_⟩; skip; go_simp; (try with_reducible rfl)
                          try simp only [Act.put, List.setIfInBounds_toArray, List.set_cons_zero, List.set_cons_succ]
                          refine wpAnyH_take (i := 9) (oi := { dst := some 135, op := Op.move (Operand.tmp 134), type := 4, pos := "law.go:111", after := #[{ on := 8, ground := Ground.data }, { on := 1, ground := Ground.chain }, { on := 1, ground := Ground.guard }], guard := some (1, false) }) (v := ?_) rfl (by kernel_rfl) (by kernel_rfl) (by kernel_rfl) (fun _ _ _ h => h) ?_ hHeld ?_
                          rotate_left
                          · refine Or.inl ⟨by rfl, fun w hSw => ?_⟩; skip; go_simp; (try with_reducible rfl)
                          try simp only [Act.put, List.setIfInBounds_toArray, List.set_cons_zero, List.set_cons_succ]
                          refine wpAnyH_take (i := 10) (oi := { dst := some 136, op := Op.load 34 (Operand.tmp 14), type := 34, pos := "law.go:111", after := #[{ on := 9, ground := Ground.guard }], guard := some (9, true) }) (v := ?_) rfl (by kernel_rfl) (by kernel_rfl) (by kernel_rfl) (fun _ _ _ h => h) ?_ hHeld ?_
                          rotate_left
                          · refine Or.inr ⟨by rfl, ?_⟩; rfl
                          try simp only [Act.put, List.setIfInBounds_toArray, List.set_cons_zero, List.set_cons_succ]
                          refine wpAnyH_take (i := 11) (oi := { dst := some 137, op := Op.move (Operand.tmp 1), type := 22, pos := "law.go:111", after := #[{ on := 9, ground := Ground.guard }], guard := some (9, true) }) (v := ?_) rfl (by kernel_rfl) (by kernel_rfl) (by kernel_rfl) (fun _ _ _ h => h) ?_ hHeld ?_
                          rotate_left
                          · refine Or.inr ⟨by rfl, ?_⟩; rfl
                          try simp only [Act.put, List.setIfInBounds_toArray, List.set_cons_zero, List.set_cons_succ]
                          refine wpAnyH_take (i := 12) (oi := { dst := some 138, op := Op.move (Operand.tmp 11), type := 41, pos := "law.go:111", after := #[{ on := 9, ground := Ground.guard }], guard := some (9, true) }) (v := ?_) rfl (by kernel_rfl) (by kernel_rfl) (by kernel_rfl) (fun _ _ _ h => h) ?_ hHeld ?_
                          rotate_left
                          · refine Or.inr ⟨by rfl, ?_⟩; rfl
                          try simp only [Act.put, List.setIfInBounds_toArray, List.set_cons_zero, List.set_cons_succ]
                          refine wpAnyH_take (i := 13) (oi := { dst := some 139, op := Op.move (Operand.tmp 19), type := 3, pos := "law.go:111", after := #[{ on := 9, ground := Ground.guard }], guard := some (9, true) }) (v := ?_) rfl (by kernel_rfl) (by kernel_rfl) (by kernel_rfl) (fun _ _ _ h => h) ?_ hHeld ?_
                          rotate_left
                          · refine Or.inr ⟨by rfl, ?_⟩; rfl
                          try simp only [Act.put, List.setIfInBounds_toArray, List.set_cons_zero, List.set_cons_succ]
                          refine wpAnyH_take (i := 14) (oi := { dst := some 140, op := Op.indexAddr 41 (Operand.tmp 138) (Operand.tmp 139), type := 0, pos := "law.go:111", after := #[{ on := 12, ground := Ground.data }, { on := 13, ground := Ground.data }, { on := 9, ground := Ground.guard }], guard := some (9, true) }) (v := ?_) rfl (by kernel_rfl) (by kernel_rfl) (by kernel_rfl) (fun _ _ _ h => h) ?_ hHeld ?_
                          rotate_left
                          · refine Or.inr ⟨by rfl, ?_⟩; rfl
                          try simp only [Act.put, List.setIfInBounds_toArray, List.set_cons_zero, List.set_cons_succ]
                          refine wpAnyH_take (i := 15) (oi := { dst := some 141, op := Op.indexAddr 44 (Operand.tmp 140) (Operand.const (Value.int IntKind.i64 1)), type := 0, pos := "law.go:111", after := #[{ on := 14, ground := Ground.data }, { on := 9, ground := Ground.guard }], guard := some (9, true) }) (v := ?_) rfl (by kernel_rfl) (by kernel_rfl) (by kernel_rfl) (fun _ _ _ h => h) ?_ hHeld ?_
                          rotate_left
                          · refine Or.inr ⟨by rfl, ?_⟩; rfl
                          try simp only [Act.put, List.setIfInBounds_toArray, List.set_cons_zero, List.set_cons_succ]
                          refine wpAnyH_take (i := 16) (oi := { dst := some 142, op := Op.load 3 (Operand.tmp 141), type := 3, pos := "law.go:111", after := #[{ on := 15, ground := Ground.data }, { on := 9, ground := Ground.guard }], guard := some (9, true) }) (v := ?_) rfl (by kernel_rfl) (by kernel_rfl) (by kernel_rfl) (fun _ _ _ h => h) ?_ hHeld ?_
                          rotate_left
                          · refine Or.inr ⟨by rfl, ?_⟩; rfl
                          try simp only [Act.put, List.setIfInBounds_toArray, List.set_cons_zero, List.set_cons_succ]
                          refine wpAnyH_take (i := 17) (oi := { dst := some 143, op := Op.indexAddr 22 (Operand.tmp 137) (Operand.tmp 142), type := 0, pos := "law.go:111", after := #[{ on := 11, ground := Ground.data }, { on := 16, ground := Ground.data }, { on := 9, ground := Ground.guard }], guard := some (9, true) }) (v := ?_) rfl (by kernel_rfl) (by kernel_rfl) (by kernel_rfl) (fun _ _ _ h => h) ?_ hHeld ?_
                          rotate_left
                          · refine Or.inr ⟨by rfl, ?_⟩; rfl
                          try simp only [Act.put, List.setIfInBounds_toArray, List.set_cons_zero, List.set_cons_succ]
                          refine wpAnyH_take (i := 18) (oi := { dst := some 144, op := Op.fieldAddr 31 (Operand.tmp 143) 2, type := 0, pos := "law.go:111", after := #[{ on := 17, ground := Ground.data }, { on := 9, ground := Ground.guard }], guard := some (9, true) }) (v := ?_) rfl (by kernel_rfl) (by kernel_rfl) (by kernel_rfl) (fun _ _ _ h => h) ?_ hHeld ?_
                          rotate_left
                          · refine Or.inr ⟨by rfl, ?_⟩; rfl
                          try simp only [Act.put, List.setIfInBounds_toArray, List.set_cons_zero, List.set_cons_succ]
                          refine wpAnyH_take (i := 19) (oi := { dst := some 145, op := Op.load 28 (Operand.tmp 144), type := 28, pos := "law.go:111", after := #[{ on := 18, ground := Ground.data }, { on := 9, ground := Ground.guard }], guard := some (9, true) }) (v := ?_) rfl (by kernel_rfl) (by kernel_rfl) (by kernel_rfl) (fun _ _ _ h => h) ?_ hHeld ?_
                          rotate_left
                          · refine Or.inr ⟨by rfl, ?_⟩; rfl
                          try simp only [Act.put, List.setIfInBounds_toArray, List.set_cons_zero, List.set_cons_succ]
                          refine wpAnyH_take (i := 20) (oi := { dst := some 146, op := Op.call { callee := Callee.value (Operand.func 18), args := #[Operand.tmp 145], argTypes := #[28] }, type := 33, pos := "law.go:111", after := #[{ on := 19, ground := Ground.data }, { on := 9, ground := Ground.chain }, { on := 9, ground := Ground.guard }], guard := some (9, true) }) (v := ?_) rfl (by kernel_rfl) (by kernel_rfl) (by kernel_rfl) (fun _ _ _ h => h) ?_ hHeld ?_
                          rotate_left
                          · refine Or.inr ⟨by rfl, ?_⟩; rfl
                          try simp only [Act.put, List.setIfInBounds_toArray, List.set_cons_zero, List.set_cons_succ]
                          refine wpAnyH_take (i := 21) (oi := { dst := some 147, op := Op.binOp BinOp.eql 34 (Operand.tmp 136) (Operand.tmp 146) 34, type := 4, pos := "law.go:111", after := #[{ on := 10, ground := Ground.data }, { on := 20, ground := Ground.data }, { on := 9, ground := Ground.guard }], guard := some (9, true) }) (v := ?_) rfl (by kernel_rfl) (by kernel_rfl) (by kernel_rfl) (fun _ _ _ h => h) ?_ hHeld ?_
                          rotate_left
                          · refine Or.inr ⟨by rfl, ?_⟩; rfl
                          try simp only [Act.put, List.setIfInBounds_toArray, List.set_cons_zero, List.set_cons_succ]
                          refine wpAnyH_take (i := 22) (oi := { dst := some 148, op := Op.pick (Operand.tmp 135) (Operand.tmp 147) (Operand.const (Value.bool false)), type := 4, pos := "law.go:111", after := #[{ on := 9, ground := Ground.data }, { on := 21, ground := Ground.data }, { on := 1, ground := Ground.guard }], guard := some (1, false) }) (v := ?_) rfl (by kernel_rfl) (by kernel_rfl) (by kernel_rfl) (fun _ _ _ h => h) ?_ hHeld ?_
                          rotate_left
                          · refine Or.inl ⟨by rfl, fun w hSw => ?_⟩; skip; go_simp; (try with_reducible rfl)
                          try simp only [Act.put, List.setIfInBounds_toArray, List.set_cons_zero, List.set_cons_succ]
                          refine wpAnyH_take (i := 23) (oi := { dst := some 149, op := Op.pick (Operand.tmp 127) (Operand.const (Value.bool true)) (Operand.tmp 148), type := 4, pos := "law.go:111", after := #[{ on := 1, ground := Ground.data }, { on := 22, ground := Ground.data }], guard := none }) (v := ?_) rfl (by kernel_rfl) (by kernel_rfl) (by kernel_rfl) (fun _ _ _ h => h) ?_ hHeld ?_
                          rotate_left
                          · refine Or.inl ⟨by rfl, fun w hSw => ?_⟩; skip; go_simp; (try with_reducible rfl)
                          try simp only [Act.put, List.setIfInBounds_toArray, List.set_cons_zero, List.set_cons_succ]
                          refine wpAnyH_take (i := 24) (oi := { dst := some 18, op := Op.assign (Operand.tmp 149), type := 4, pos := "law.go:111", after := #[{ on := 23, ground := Ground.data }, { on := 20, ground := Ground.chain }, { on := 0, ground := Ground.phase }, { on := 1, ground := Ground.phase }, { on := 2, ground := Ground.phase }, { on := 3, ground := Ground.phase }, { on := 4, ground := Ground.phase }, { on := 5, ground := Ground.phase }, { on := 6, ground := Ground.phase }, { on := 7, ground := Ground.phase }, { on := 8, ground := Ground.phase }, { on := 9, ground := Ground.phase }, { on := 10, ground := Ground.phase }, { on := 11, ground := Ground.phase }, { on := 12, ground := Ground.phase }, { on := 13, ground := Ground.phase }, { on := 14, ground := Ground.phase }, { on := 15, ground := Ground.phase }, { on := 16, ground := Ground.phase }, { on := 17, ground := Ground.phase }, { on := 18, ground := Ground.phase }, { on := 19, ground := Ground.phase }, { on := 20, ground := Ground.phase }, { on := 21, ground := Ground.phase }, { on := 22, ground := Ground.phase }, { on := 23, ground := Ground.phase }], guard := none }) (v := ?_) rfl (by kernel_rfl) (by kernel_rfl) (by kernel_rfl) (fun _ _ _ h => h) ?_ hHeld ?_
                          rotate_left
                          · refine Or.inl ⟨by rfl, fun w hSw => ?_⟩; skip; go_simp; (try with_reducible rfl)
                          try simp only [Act.put, List.setIfInBounds_toArray, List.set_cons_zero, List.set_cons_succ]
                          refine wpAnyH_done (by kernel_rfl) ?_ _
                          clear hHeld DA KN v0 v1 hDA hdB K he1 he2
                          have hz2 := hz'.out
                          have hnew2 : Hid (∀ p z, p < q + 1 → W2[p]? = some z → z.b = b → x = z.d → false = true) := Lib.hid (fun p z hp hz h1 h2 => by
                            rcases Nat.lt_or_ge p q with h | h
                            · exact hfq.out p z h hz h1 h2
                            · have e : p = q := by omega
                              rw [e, hz2] at hz
                              injection hz with hz
                              subst hz
                              exact absurd h1 hzb)
                          clear hz2 hzb
                          go_wp2_with fail
                          go_roundw
                          case rel => exact ⟨q + 1, false, by omega, by go_num, rfl, hf0, hnew2, HBd⟩
                          case measure => first | (simp [intOf]; done) | (simp [intOf]; omega)
                    · have hq2 : decide ((q : Int) < (m : Int)) = false := by simp; omega
                      have hfb : fb = true := by
                        rcases hfin.out with h | ⟨j, z, h1, h2, h3, h4⟩
                        · exact hf0.out (by rw [h]; simp)
                        · exact hfq.out j z (by have := hmW.out; omega) h2 h3 h4
                      subst hfb
                      have HBn := bl_then HB (bl_then B11 HBd)
                      clear hfin hf0 hfq hat hrel2 K11 kn B11 HBd K5 hmm
                      go_wp2_with fail
                      go_roundw
                      case rel => exact ⟨b + 1, by omega, by go_num, HBn⟩
                      case measure => first | (simp [intOf]; done) | (simp [intOf]; omega)
                · have hq : decide ((b : Int) < 6) = false := by simp; omega
                  have hbl := K.out.bl
                  clear hat hrel2 K K5 hmm
                  go_wp2_with fail
                  refine (DiskA.awake_c _).mono ?_
                  rintro r wz ⟨rfl, bz⟩
                  go_wp2_with fail
                  go_ret
                  exact ⟨rfl, bl_thenB hbl hbl.size bz⟩

def Arg (i : Nat) (w : World) (v : Value) : Prop := if i = 2 then Bools w v else Deeds w v
set_option maxRecDepth 100000 in
theorem arg0 {H : Type} {enc : TypeId × Value → H} {W : World} {base : Nat} {v : Value} {d : DataW H} {p : List MemPlace} (hv : Value.okWide Try.prog W .any base 22 v)
    (h : DataW.Trod enc Try.prog W 0 (fun _ => true) true 22 v d p) : Arg 0 W v := by unfold Arg; rw [if_neg (by decide)]; exact deeds_of hv h
set_option maxRecDepth 100000 in
theorem arg1 {H : Type} {enc : TypeId × Value → H} {W : World} {base : Nat} {v : Value} {d : DataW H} {p : List MemPlace} (hv : Value.okWide Try.prog W .any base 22 v)
    (h : DataW.Trod enc Try.prog W 0 (fun _ => true) true 22 v d p) : Arg 1 W v := by unfold Arg; rw [if_neg (by decide)]; exact deeds_of hv h
set_option maxRecDepth 100000 in
theorem arg2 {H : Type} {enc : TypeId × Value → H} {W : World} {base : Nat} {v : Value} {d : DataW H} {p : List MemPlace} (hv : Value.okWide Try.prog W .any base 29 v)
    (h : DataW.Trod enc Try.prog W 0 (fun _ => true) true 29 v d p) : Arg 2 W v := by unfold Arg; rw [if_pos rfl]; exact boolsl_of hv h
theorem walk (v0 v1 v2 : Value) (w : World) (h0 : Arg 0 w v0) (h1 : Arg 1 w v1) (h2 : Arg 2 w v2) :
    Calls Try.prog 4 #[v0, v1, v2] w fun e w' => e = .returned (.bool true) ∧ Below w.heap.size w w' := by
  unfold Arg at h0 h1 h2
  rw [if_neg (by decide)] at h0 h1
  rw [if_pos rfl] at h2
  obtain ⟨A0, n0, c0, rfl, hf0⟩ := h0
  obtain ⟨A1, n1, c1, rfl, hf1⟩ := h1
  obtain ⟨Ak, nk, ck, ks, rfl, hk, hka⟩ := h2
  exact main A0 n0 c0 A1 n1 c1 Ak nk ck ks w hf0 hf1 hk hka
end Go.Proofs.Ythihpejhhimkaaa.DiskKeeps
