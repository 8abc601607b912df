/- Contract of the reference's Get. -/
import Derived.Test.YthihpejhhimkaaaDoorDir12
import Derived.Test.YthihpejhhimkaaaDoorDir9
set_option linter.unusedVariables false
namespace Go.Proofs.YthihpejhhimkaaaDoor.Dir14
open Go.RowKit Go.Proofs.YthihpejhhimkaaaDoor.Base Go.Proofs.YthihpejhhimkaaaDoor.Row Go.Proofs.YthihpejhhimkaaaDoor.App Go.Proofs.YthihpejhhimkaaaDoor.Multi Go.Proofs.YthihpejhhimkaaaDoor.StEq Go.Proofs.YthihpejhhimkaaaDoor.Held Go.Proofs.YthihpejhhimkaaaDoor.Out Go.Proofs.YthihpejhhimkaaaDoor.HeldW Go.Proofs.YthihpejhhimkaaaDoor.HeldX Go.Proofs.YthihpejhhimkaaaDoor.DiskMath Go.Proofs.YthihpejhhimkaaaDoor.Dir Go.Proofs.YthihpejhhimkaaaDoor.Dir2 Go.Proofs.YthihpejhhimkaaaDoor.Dir3 Go.Proofs.YthihpejhhimkaaaDoor.Dir4 Go.Proofs.YthihpejhhimkaaaDoor.Dir5 Go.Proofs.YthihpejhhimkaaaDoor.Dir9 Go.Proofs.YthihpejhhimkaaaDoor.Dir12

theorem rnew_e : (Tryd.prog.info? 24).map (fun i => i.zero.map (·.cells)) = some (some (ea ⟨⟨#[]⟩, 0⟩)) := by kernel_rfl
theorem rsz_ea (e : En) : (Tryd.prog.info? 24).map (·.size) = some (ea e).size := by kernel_rfl
theorem rzero_e : Tryd.prog.built 24 [] = some (ea ⟨⟨#[]⟩, 0⟩) := by kernel_rfl
theorem rbuilt_e (T : ByteArray) (i : Int) : Tryd.prog.built 24 [(1, .int .i64 i), (0, .string T)] = some (ea ⟨T, i⟩) := by kernel_rfl
theorem cellr (d : Bk) (k g : Nat) (w : World) (hk : k < 64) (T : TypeId) (h : Blk w g T (bc d)) : w.cell? ⟨g, k, none⟩ = some (.int .u8 (d.l[k]?.getD 0)) := by
  have hd := d.h
  have h1 : d.l[k]? = some (d.l[k]'(by omega)) := List.getElem?_eq_getElem _
  rw [h.cell, bc, List.getElem?_toArray]
  unfold bv nums
  rw [List.getElem?_map, h1]
  rfl
set_option maxRecDepth 100000 in
set_option maxHeartbeats 4000000 in
theorem rget_c (d : Bk) (a : Int) (n : Nat) (w : World) (hn : n < 4) (haa : (n : Int) = a) (hd : Okb d) :
    Calls Tryd.prog 16 #[.agg (bc d), .int .i64 a] w fun r w' => r = .returned (.tuple #[.agg (ea (gotE d n)), .bool (rightB (getE d n))]) ∧ Below w.heap.size w w' := by
  have hcv := Lib.hid (fun k (hk : k ≤ 14) OFF cap w' hO h => convk d n k hn hk w.heap.size OFF cap w' hO 25 h)
  have hb0 := Lib.hid (fun OFF w' (hO : OFF = n * 16) (h : Blk w' w.heap.size 25 (bc d)) => (show w'.cell? ⟨w.heap.size, OFF, none⟩ = some (.int .u8 (b0 d n)) by subst hO; exact cellr d _ _ w' (by omega) _ h))
  have hb1 := Lib.hid (fun OFF w' (hO : OFF = n * 16 + 1) (h : Blk w' w.heap.size 25 (bc d)) => (show w'.cell? ⟨w.heap.size, OFF, none⟩ = some (.int .u8 (b1 d n)) by subst hO; exact cellr d _ _ w' (by omega) _ h))
  have htb := Lib.hid (fun k (hk : k < 14) w' (h : Blk w' w.heap.size 25 (bc d)) => (show w'.cell? ⟨w.heap.size, n * 16 + (2 + k), none⟩ = some (.int .u8 (tb d n k)) by rw [← tb_l hk, Nat.add_assoc]; exact cellr d _ _ w' (by omega) _ h))
  have r0 : 0 ≤ b0 d n ∧ b0 d n < 256 := okb_at hd _
  have r1 : 0 ≤ b1 d n ∧ b1 d n < 256 := okb_at hd _
  have hor : Hid (b0 d n + 256 * b1 d n = b0 d n + b1 d n * 256) := Lib.hid (by omega)
  have hw0 : Hid (IntKind.i64.wrap (b0 d n) = b0 d n) := Lib.hid (by simp only [IntKind.wrap, IntKind.signed, IntKind.bits]; simp; omega)
  have hw1 : Hid (IntKind.i64.wrap (b1 d n) = b1 d n) := Lib.hid (by simp only [IntKind.wrap, IntKind.signed, IntKind.bits]; simp; omega)
  have hsl : Hid (IntKind.i64.wrap (256 * b1 d n) = 256 * b1 d n) := Lib.hid (by simp only [IntKind.wrap, IntKind.signed, IntKind.bits]; simp; omega)
  have hsm : Hid (IntKind.i64.wrap (b0 d n + 256 * b1 d n) = b0 d n + 256 * b1 d n) := Lib.hid (by simp only [IntKind.wrap, IntKind.signed, IntKind.bits]; simp; omega)
  have hend := Lib.hid (fun k hk hz hl => getE_end (d := d) (n := n) (k := k) hn hd hk hz hl)
  have hR := Lib.hid (fun w' => rright_c (getE d n) w' (by unfold maxLen; have := nm_size (d := d) hn; omega))
  have hgot : Hid (gotE d n = if rightB (getE d n) then getE d n else ⟨⟨#[]⟩, 0⟩) := Lib.hid rfl
  have hz14 := zs_14 d n
  have hg : Hid (∀ k, k ≤ 14 → Zs d n k → (k = 0 ∨ tb d n (k - 1) ≠ 0) → getE d n = ⟨strOfNums ((tl d n).take k), b0 d n + 256 * b1 d n⟩) := Lib.hid (fun k h1 h2 h3 => by rw [hend.out k h1 h2 h3, hor.out])
  obtain ⟨r00, r01⟩ := r0
  obtain ⟨r10, r11⟩ := r1
  generalize b0 d n = x0 at *
  generalize b1 d n = x1 at *
  clear hend hor
  have hz14' := Lib.hid hz14
  have hzback := Lib.hid (fun k h h0 => Zs.back (d := d) (n := n) (k := k) h h0)
  clear hz14 hd
  generalize Zs d n = Zz at *
  generalize tb d n = tbf at *
  generalize tl d n = TL at *
  have h4 : (a = 0 ∧ n = 0) ∨ (a = 1 ∧ n = 1) ∨ (a = 2 ∧ n = 2) ∨ (a = 3 ∧ n = 3) := by omega
  clear hn haa
  rcases h4 with ⟨rfl, rfl⟩ | ⟨rfl, rfl⟩ | ⟨rfl, rfl⟩ | ⟨rfl, rfl⟩
  all_goals (
    go_enter Tryd.func16, Tryd.ntmps16
    go_wp2_with (first
      | ((with_reducible refine wl_box rfl 25 _ rfl (bc d) rfl ?_); intro w1 k1 b1 s1)
      | ((with_reducible refine wl_alloc rfl 24 rfl (ea ⟨⟨#[]⟩, 0⟩) rnew_e ?_); intro w3 k3 b3 s3; have K1 := k1.below b3))
    have BB := bl_then b1 b3
    have z0 := k1.lt
    have z1 := b1.size
    have z3 := k3.lt
    have K3 := k3
    clear k1 b1 b3 k3
    go_loopw [7] (fun i wr => ∃ p : Nat, 2 ≤ p ∧ p ≤ 16 ∧ i = .int .i64 p ∧ Hid (Zz (p - 2)) ∧ w3 = wr) (fun i _ => (intOf i).toNat)
    case atStart => exact ⟨16, by omega, by omega, rfl, hz14', rfl⟩
    case round =>
      obtain ⟨p, hp2, hp16, rfl, hzz, rfl⟩ := hrel
      have hcase : (2 < p ∧ tbf (p - 2 - 1) = 0) ∨ ((2 < p ∧ tbf (p - 2 - 1) ≠ 0) ∨ p = 2) := by
        by_cases h1 : 2 < p
        · by_cases h2 : tbf (p - 2 - 1) = 0
          · exact .inl ⟨h1, h2⟩
          · exact .inr (.inl ⟨h1, h2⟩)
        · exact .inr (.inr (by omega))
      rcases hcase with ⟨hlt, hx0⟩ | hcase
      · have hq : decide (2 < (p : Int)) = true := by simp; omega
        have hq1 : 2 < (p : Int) := by omega
        obtain ⟨r, hr⟩ : ∃ r, r = p - 1 := ⟨_, rfl⟩
        have hpm : (p : Int) - 1 = (r : Int) := by omega
        have hr16 : r < 16 := by omega
        have hr16' : (r : Int) < 16 := by omega
        have cq := htb.out (p - 2 - 1) (by omega) _ K1
        rw [show 2 + (p - 2 - 1) = r by omega, hx0] at cq
        have hzb := Lib.hid (hzback.out (p - 2 - 1) (by have := hzz.out; rwa [show p - 2 = p - 2 - 1 + 1 by omega] at this) hx0)
        have hr' := Lib.hid hr
        simp only [Nat.zero_mul, Nat.zero_add, Nat.one_mul, show 2 * 16 = 32 from rfl, show 3 * 16 = 48 from rfl] at cq
        clear hr hx0
        go_wp2_with fail
        go_roundw
        case rel => exact ⟨r, by have := hr'.out; omega, by omega, rfl, Lib.hid (by have h := hzb.out; rwa [show p - 2 - 1 = r - 2 by have := hr'.out; omega] at h), trivial⟩
        case measure => have := hr'.out; simp [intOf]; omega
      · have hlast : p - 2 = 0 ∨ tbf (p - 2 - 1) ≠ 0 := by
          rcases hcase with ⟨_, h⟩ | h
          · exact .inr h
          · exact .inl (by omega)
        have hge := hg.out (p - 2) (by omega) hzz.out hlast
        have hcv' := Lib.hid (hcv.out (p - 2) (by omega))
        clear hlast hcv hg
        generalize strOfNums (TL.take (p - 2)) = T at *
        have hge' := Lib.hid hge
        rw [hge] at hR
        clear hge
        obtain ⟨r, hr⟩ : ∃ r, r = p - 1 := ⟨_, rfl⟩
        have hpm : (p : Int) - 1 = (r : Int) := by omega
        have hr16 : r < 16 := by omega
        have hr16' : (r : Int) < 16 := by omega
        have hr' := Lib.hid hr
        have hp2' : 2 ≤ (p : Int) := by omega
        have hp16' : (p : Int) ≤ 16 := by omega
        have hp32' : (p : Int) ≤ 32 := by omega
        have hp48' : (p : Int) ≤ 48 := by omega
        have hp64' : (p : Int) ≤ 64 := by omega
        clear hr
        have K3 := K3.drew
        have BB := bl_drew BB
        rcases hcase with ⟨hlt, hx0⟩ | hlt
        · have cq := htb.out (p - 2 - 1) (by omega) _ K1
          rw [show 2 + (p - 2 - 1) = r by have := hr'.out; omega] at cq
          generalize tbf (p - 2 - 1) = x at *
          simp only [Nat.zero_mul, Nat.zero_add, Nat.one_mul, show 2 * 16 = 32 from rfl, show 3 * 16 = 48 from rfl] at cq
          have hq : decide (2 < (p : Int)) = true := by simp; omega
          have hq1 : 2 < (p : Int) := by omega
          clear htb
          go_upto_region 5 with fail
          clear cq hx0 hq hq1 hlt
          refine wp_region_held_drew (S := (fun w' => Blk w' w.heap.size 25 (bc d))) (by kernel_rfl) (K1.drew) (fun hHeld => ?_)
          refine wpAnyH_take (i := 0) (oi := { dst := some 27, op := Op.move (Operand.tmp 6), type := 22, pos := "ref.go:44", after := #[], guard := none }) (v := ?_) rfl (by kernel_rfl) (by kernel_rfl) (by kernel_rfl) (fun _ _ _ h => h) ?_ hHeld ?_
          rotate_left
          · refine Or.inl ⟨by rfl, fun w hSw => ?_⟩; skip; go_simp; (try with_reducible rfl)
          try simp only [Act.put, List.setIfInBounds_toArray, List.set_cons_zero, List.set_cons_succ]
          refine wpAnyH_take (i := 1) (oi := { dst := some 28, op := Op.indexAddr 22 (Operand.tmp 27) (Operand.const (Value.int IntKind.i64 0)), type := 0, pos := "ref.go:44", after := #[{ on := 0, ground := Ground.data }], guard := none }) (v := ?_) rfl (by kernel_rfl) (by kernel_rfl) (by kernel_rfl) (fun _ _ _ h => h) ?_ hHeld ?_
          rotate_left
          · refine Or.inl ⟨by rfl, fun w hSw => ?_⟩; skip; go_simp; (try with_reducible rfl)
          try simp only [Act.put, List.setIfInBounds_toArray, List.set_cons_zero, List.set_cons_succ]
          refine wpAnyH_take (i := 2) (oi := { dst := some 29, op := Op.load 5 (Operand.tmp 28), type := 5, pos := "ref.go:44", after := #[{ on := 1, ground := Ground.data }], guard := none }) (v := ?_) rfl (by kernel_rfl) (by kernel_rfl) (by kernel_rfl) (fun _ _ _ h => h) ?_ hHeld ?_
          rotate_left
          · refine Or.inl ⟨by rfl, fun w hSw => ?_⟩; (first | have c0 := hb0.out 0 _ rfl hSw | have c0 := hb0.out 16 _ rfl hSw | have c0 := hb0.out 32 _ rfl hSw | have c0 := hb0.out 48 _ rfl hSw); go_simp; (try with_reducible rfl)
          try simp only [Act.put, List.setIfInBounds_toArray, List.set_cons_zero, List.set_cons_succ]
          refine wpAnyH_take (i := 3) (oi := { dst := some 30, op := Op.convert 5 3 (Operand.tmp 29), type := 3, pos := "ref.go:44", after := #[{ on := 2, ground := Ground.data }], guard := none }) (v := ?_) rfl (by kernel_rfl) (by kernel_rfl) (by kernel_rfl) (fun _ _ _ h => h) ?_ hHeld ?_
          rotate_left
          · refine Or.inl ⟨by rfl, fun w hSw => ?_⟩; have c0 := hw0.out; go_simp; (try with_reducible rfl)
          try simp only [Act.put, List.setIfInBounds_toArray, List.set_cons_zero, List.set_cons_succ]
          refine wpAnyH_take (i := 4) (oi := { dst := some 31, op := Op.move (Operand.tmp 6), type := 22, pos := "ref.go:44", after := #[], guard := none }) (v := ?_) rfl (by kernel_rfl) (by kernel_rfl) (by kernel_rfl) (fun _ _ _ h => h) ?_ hHeld ?_
          rotate_left
          · refine Or.inl ⟨by rfl, fun w hSw => ?_⟩; skip; go_simp; (try with_reducible rfl)
          try simp only [Act.put, List.setIfInBounds_toArray, List.set_cons_zero, List.set_cons_succ]
          refine wpAnyH_take (i := 5) (oi := { dst := some 32, op := Op.indexAddr 22 (Operand.tmp 31) (Operand.const (Value.int IntKind.i64 1)), type := 0, pos := "ref.go:44", after := #[{ on := 4, ground := Ground.data }], guard := none }) (v := ?_) rfl (by kernel_rfl) (by kernel_rfl) (by kernel_rfl) (fun _ _ _ h => h) ?_ hHeld ?_
          rotate_left
          · refine Or.inl ⟨by rfl, fun w hSw => ?_⟩; skip; go_simp; (try with_reducible rfl)
          try simp only [Act.put, List.setIfInBounds_toArray, List.set_cons_zero, List.set_cons_succ]
          refine wpAnyH_take (i := 6) (oi := { dst := some 33, op := Op.load 5 (Operand.tmp 32), type := 5, pos := "ref.go:44", after := #[{ on := 5, ground := Ground.data }], guard := none }) (v := ?_) rfl (by kernel_rfl) (by kernel_rfl) (by kernel_rfl) (fun _ _ _ h => h) ?_ hHeld ?_
          rotate_left
          · refine Or.inl ⟨by rfl, fun w hSw => ?_⟩; (first | have c0 := hb1.out 1 _ rfl hSw | have c0 := hb1.out 17 _ rfl hSw | have c0 := hb1.out 33 _ rfl hSw | have c0 := hb1.out 49 _ rfl hSw); go_simp; (try with_reducible rfl)
          try simp only [Act.put, List.setIfInBounds_toArray, List.set_cons_zero, List.set_cons_succ]
          refine wpAnyH_take (i := 7) (oi := { dst := some 34, op := Op.convert 5 3 (Operand.tmp 33), type := 3, pos := "ref.go:44", after := #[{ on := 6, ground := Ground.data }], guard := none }) (v := ?_) rfl (by kernel_rfl) (by kernel_rfl) (by kernel_rfl) (fun _ _ _ h => h) ?_ hHeld ?_
          rotate_left
          · refine Or.inl ⟨by rfl, fun w hSw => ?_⟩; have c0 := hw1.out; go_simp; (try with_reducible rfl)
          try simp only [Act.put, List.setIfInBounds_toArray, List.set_cons_zero, List.set_cons_succ]
          refine wpAnyH_take (i := 8) (oi := { dst := some 35, op := Op.binOp BinOp.mul 3 (Operand.const (Value.int IntKind.i64 256)) (Operand.tmp 34) 3, type := 3, pos := "ref.go:44", after := #[{ on := 7, ground := Ground.data }], guard := none }) (v := ?_) rfl (by kernel_rfl) (by kernel_rfl) (by kernel_rfl) (fun _ _ _ h => h) ?_ hHeld ?_
          rotate_left
          · refine Or.inl ⟨by rfl, fun w hSw => ?_⟩; have c1 := hsl.out; go_simp; (try with_reducible rfl)
          try simp only [Act.put, List.setIfInBounds_toArray, List.set_cons_zero, List.set_cons_succ]
          refine wpAnyH_take (i := 9) (oi := { dst := some 36, op := Op.binOp BinOp.add 3 (Operand.tmp 30) (Operand.tmp 35) 3, type := 3, pos := "ref.go:44", after := #[{ on := 3, ground := Ground.data }, { on := 8, ground := Ground.data }], guard := none }) (v := ?_) rfl (by kernel_rfl) (by kernel_rfl) (by kernel_rfl) (fun _ _ _ h => h) ?_ hHeld ?_
          rotate_left
          · refine Or.inl ⟨by rfl, fun w hSw => ?_⟩; have c1 := hsm.out; go_simp; (try with_reducible rfl)
          try simp only [Act.put, List.setIfInBounds_toArray, List.set_cons_zero, List.set_cons_succ]
          refine wpAnyH_take (i := 10) (oi := { dst := some 37, op := Op.move (Operand.tmp 6), type := 22, pos := "ref.go:44", after := #[], guard := none }) (v := ?_) rfl (by kernel_rfl) (by kernel_rfl) (by kernel_rfl) (fun _ _ _ h => h) ?_ hHeld ?_
          rotate_left
          · refine Or.inl ⟨by rfl, fun w hSw => ?_⟩; skip; go_simp; (try with_reducible rfl)
          try simp only [Act.put, List.setIfInBounds_toArray, List.set_cons_zero, List.set_cons_succ]
          refine wpAnyH_take (i := 11) (oi := { dst := some 38, op := Op.move (Operand.tmp 7), type := 3, pos := "ref.go:44", after := #[], guard := none }) (v := ?_) rfl (by kernel_rfl) (by kernel_rfl) (by kernel_rfl) (fun _ _ _ h => h) ?_ hHeld ?_
          rotate_left
          · refine Or.inl ⟨by rfl, fun w hSw => ?_⟩; skip; go_simp; (try with_reducible rfl)
          try simp only [Act.put, List.setIfInBounds_toArray, List.set_cons_zero, List.set_cons_succ]
          refine wpAnyH_take (i := 12) (oi := { dst := some 39, op := Op.slice 22 (Operand.tmp 37) (some (Operand.const (Value.int IntKind.i64 2))) (some (Operand.tmp 38)) none, type := 22, pos := "ref.go:44", after := #[{ on := 10, ground := Ground.data }, { on := 11, ground := Ground.data }], guard := none }) (v := ?_) rfl (by kernel_rfl) (by kernel_rfl) (by kernel_rfl) (fun _ _ _ h => h) ?_ hHeld ?_
          rotate_left
          · refine Or.inl ⟨by rfl, fun w hSw => ?_⟩; skip; go_simp; (try with_reducible rfl)
          try simp only [Act.put, List.setIfInBounds_toArray, List.set_cons_zero, List.set_cons_succ]
          refine wpAnyH_take (i := 13) (oi := { dst := some 40, op := Op.convert 22 9 (Operand.tmp 39), type := 9, pos := "ref.go:44", after := #[{ on := 12, ground := Ground.data }], guard := none }) (v := ?_) rfl (by kernel_rfl) (by kernel_rfl) (by kernel_rfl) (fun _ _ _ h => h) ?_ hHeld ?_
          rotate_left
          · refine Or.inl ⟨by rfl, fun w hSw => ?_⟩; (first | have c0 := (fun cap => hcv'.out 2 cap _ rfl hSw) | have c0 := (fun cap => hcv'.out 18 cap _ rfl hSw) | have c0 := (fun cap => hcv'.out 34 cap _ rfl hSw) | have c0 := (fun cap => hcv'.out 50 cap _ rfl hSw)); go_simp; (try with_reducible rfl)
          try simp only [Act.put, List.setIfInBounds_toArray, List.set_cons_zero, List.set_cons_succ]
          refine wpAnyH_take (i := 14) (oi := { dst := some 41, op := Op.build 24 #[(1, Operand.tmp 36), (0, Operand.tmp 40)], type := 24, pos := "ref.go:44", after := #[{ on := 9, ground := Ground.data }, { on := 13, ground := Ground.data }], guard := none }) (v := ?_) rfl (by kernel_rfl) (by kernel_rfl) (by kernel_rfl) (fun _ _ _ h => h) ?_ hHeld ?_
          rotate_left
          · refine yIf_build2 24 1 0 (.tmp 36) (.tmp 40) (.int .i64 (x0 + 256 * x1)) (.string T) (ea ⟨T, x0 + 256 * x1⟩) (rbuilt_e _ _) ?_ ?_ ?_ ?_
            · rfl
            · rfl
            · rfl
            · rfl
          try simp only [Act.put, List.setIfInBounds_toArray, List.set_cons_zero, List.set_cons_succ]
          refine wpAnyH_ready (rs := [15]) (by kernel_rfl) (by simp) ?_
          refine AllReadyH.cons (o := { dst := some 8, op := Op.alloc 24, type := 0, pos := "ref.go:44", after := #[], guard := none }) rfl (fun Kc hKc => ?_) AllReadyH.nil
          refine step_of (by rfl) (wp_alloc 24 rfl (ea ⟨⟨#[]⟩, 0⟩) rnew_e ?_)
          intro gN wN zN sN kN bN
          have zg := hHeld.lt
          have zg3 := K3.lt
          have K3 := K3.below bN
          have BB := bl_then BB bN
          refine hKc.out _ _ (Blk.below hHeld bN) (fun hHeld => ?_)
          clear hKc Kc
          try simp only [Act.put, List.setIfInBounds_toArray, List.set_cons_zero, List.set_cons_succ]
          refine wpAnyH_ready (rs := [16]) (by kernel_rfl) (by simp) ?_
          refine AllReadyH.cons (o := { dst := none, op := Op.store 24 (Operand.tmp 8) (Operand.tmp 41), type := 0, pos := "ref.go:44", after := #[{ on := 15, ground := Ground.data }, { on := 14, ground := Ground.data }, { on := 0, ground := Ground.phase }, { on := 1, ground := Ground.phase }, { on := 2, ground := Ground.phase }, { on := 3, ground := Ground.phase }, { on := 4, ground := Ground.phase }, { on := 5, ground := Ground.phase }, { on := 6, ground := Ground.phase }, { on := 7, ground := Ground.phase }, { on := 8, ground := Ground.phase }, { on := 9, ground := Ground.phase }, { on := 10, ground := Ground.phase }, { on := 11, ground := Ground.phase }, { on := 12, ground := Ground.phase }, { on := 13, ground := Ground.phase }, { on := 14, ground := Ground.phase }, { on := 15, ground := Ground.phase }], guard := none }) rfl (fun Kc hKc => ?_) AllReadyH.nil
          refine step_of (by rfl) (wp_whole 24 (.tmp 8) (.tmp 41) (by rfl) gN (by rfl) (ea ⟨T, x0 + 256 * x1⟩) (by rfl) 24 (ea ⟨⟨#[]⟩, 0⟩) kN (rsz_ea _) rfl (ea_one _) ?_)
          intro wS kS gS sS
          have K3 := K3.grown gS (fun e => by injection e with e; omega)
          have BB := below_grown BB BB.size gS (by omega)
          refine hKc.out _ _ (Blk.grown hHeld gS (fun e => by injection e with e; omega)) (fun hHeld => ?_)
          clear hKc Kc
          try simp only [Act.put]
          refine wpAnyH_done (by kernel_rfl) ?_ _
          go_wp2_with (first
            | (refine wl_load rfl 24 (.tmp 8) rfl gN rfl 24 (ea ⟨T, x0 + 256 * x1⟩) _ kS Tryd.underlying24 rfl (rsz_ea _) ?_))
          refine (hR.out _).mono ?_
          rintro r w4 ⟨rfl, b4⟩
          have K3 := K3.below b4
          have kS := kS.below b4
          have BB := bl_then BB b4
          rw [hge'.out] at hgot
          obtain ⟨rb, hrb⟩ : ∃ rb, rb = rightB ⟨T, x0 + 256 * x1⟩ := ⟨_, rfl⟩
          rw [← hrb] at hgot ⊢
          have hpost : Hid (gotE d _ = if rb = true then ⟨T, x0 + 256 * x1⟩ else ⟨⟨#[]⟩, 0⟩) := hgot
          have hpb : Hid (rightB (getE d _) = rb) := Lib.hid (by rw [hge'.out, hrb])
          clear hgot hrb b4
          cases rb
          · go_wp2_with (first
              | (refine wl_build0 rfl 24 rfl (ea ⟨⟨#[]⟩, 0⟩) rzero_e ?_)
              | (refine at_none rfl ?_; refine wl_store rfl 24 (.tmp 4) (.tmp 45) rfl w1.heap.size rfl (ea ⟨⟨#[]⟩, 0⟩) rfl 24 (ea ⟨⟨#[]⟩, 0⟩) K3 (rsz_ea _) rfl (ea_one _) ?_; intro w7 k7 gg7 s7))
            refine bodyPost_ret (res_cell_tmp rfl _ _ _ w1.heap.size 24 (ea ⟨⟨#[]⟩, 0⟩) _ rfl k7 Tryd.underlying24 rfl (rsz_ea _)) rfl ⟨by rw [hpb.out, hpost.out]; rfl, below_grown BB BB.size gg7 (by omega)⟩
          · go_wp2_with (first
              | (refine at_slot 46 rfl ?_; refine wl_load rfl 24 (.tmp 8) rfl gN rfl 24 (ea ⟨T, x0 + 256 * x1⟩) _ kS Tryd.underlying24 rfl (rsz_ea _) ?_)
              | (refine at_none rfl ?_; refine wl_store rfl 24 (.tmp 4) (.tmp 46) rfl w1.heap.size rfl (ea ⟨T, x0 + 256 * x1⟩) rfl 24 (ea ⟨⟨#[]⟩, 0⟩) K3 (rsz_ea _) rfl (ea_one _) ?_; intro w7 k7 gg7 s7))
            refine bodyPost_ret (res_cell_tmp rfl _ _ _ w1.heap.size 24 (ea ⟨T, x0 + 256 * x1⟩) _ rfl k7 Tryd.underlying24 rfl (rsz_ea _)) rfl ⟨by rw [hpb.out, hpost.out]; rfl, below_grown BB BB.size gg7 (by omega)⟩
        · have hq : decide (2 < (p : Int)) = false := by simp; omega
          have hq1 : ¬ 2 < (p : Int) := by omega
          clear htb
          go_upto_region 5 with fail
          clear hq hq1 hlt
          refine wp_region_held_drew (S := (fun w' => Blk w' w.heap.size 25 (bc d))) (by kernel_rfl) (K1.drew) (fun hHeld => ?_)
          refine wpAnyH_take (i := 0) (oi := { dst := some 27, op := Op.move (Operand.tmp 6), type := 22, pos := "ref.go:44", after := #[], guard := none }) (v := ?_) rfl (by kernel_rfl) (by kernel_rfl) (by kernel_rfl) (fun _ _ _ h => h) ?_ hHeld ?_
          rotate_left
          · refine Or.inl ⟨by rfl, fun w hSw => ?_⟩; skip; go_simp; (try with_reducible rfl)
          try simp only [Act.put, List.setIfInBounds_toArray, List.set_cons_zero, List.set_cons_succ]
          refine wpAnyH_take (i := 1) (oi := { dst := some 28, op := Op.indexAddr 22 (Operand.tmp 27) (Operand.const (Value.int IntKind.i64 0)), type := 0, pos := "ref.go:44", after := #[{ on := 0, ground := Ground.data }], guard := none }) (v := ?_) rfl (by kernel_rfl) (by kernel_rfl) (by kernel_rfl) (fun _ _ _ h => h) ?_ hHeld ?_
          rotate_left
          · refine Or.inl ⟨by rfl, fun w hSw => ?_⟩; skip; go_simp; (try with_reducible rfl)
          try simp only [Act.put, List.setIfInBounds_toArray, List.set_cons_zero, List.set_cons_succ]
          refine wpAnyH_take (i := 2) (oi := { dst := some 29, op := Op.load 5 (Operand.tmp 28), type := 5, pos := "ref.go:44", after := #[{ on := 1, ground := Ground.data }], guard := none }) (v := ?_) rfl (by kernel_rfl) (by kernel_rfl) (by kernel_rfl) (fun _ _ _ h => h) ?_ hHeld ?_
          rotate_left
          · refine Or.inl ⟨by rfl, fun w hSw => ?_⟩; (first | have c0 := hb0.out 0 _ rfl hSw | have c0 := hb0.out 16 _ rfl hSw | have c0 := hb0.out 32 _ rfl hSw | have c0 := hb0.out 48 _ rfl hSw); go_simp; (try with_reducible rfl)
          try simp only [Act.put, List.setIfInBounds_toArray, List.set_cons_zero, List.set_cons_succ]
          refine wpAnyH_take (i := 3) (oi := { dst := some 30, op := Op.convert 5 3 (Operand.tmp 29), type := 3, pos := "ref.go:44", after := #[{ on := 2, ground := Ground.data }], guard := none }) (v := ?_) rfl (by kernel_rfl) (by kernel_rfl) (by kernel_rfl) (fun _ _ _ h => h) ?_ hHeld ?_
          rotate_left
          · refine Or.inl ⟨by rfl, fun w hSw => ?_⟩; have c0 := hw0.out; go_simp; (try with_reducible rfl)
          try simp only [Act.put, List.setIfInBounds_toArray, List.set_cons_zero, List.set_cons_succ]
          refine wpAnyH_take (i := 4) (oi := { dst := some 31, op := Op.move (Operand.tmp 6), type := 22, pos := "ref.go:44", after := #[], guard := none }) (v := ?_) rfl (by kernel_rfl) (by kernel_rfl) (by kernel_rfl) (fun _ _ _ h => h) ?_ hHeld ?_
          rotate_left
          · refine Or.inl ⟨by rfl, fun w hSw => ?_⟩; skip; go_simp; (try with_reducible rfl)
          try simp only [Act.put, List.setIfInBounds_toArray, List.set_cons_zero, List.set_cons_succ]
          refine wpAnyH_take (i := 5) (oi := { dst := some 32, op := Op.indexAddr 22 (Operand.tmp 31) (Operand.const (Value.int IntKind.i64 1)), type := 0, pos := "ref.go:44", after := #[{ on := 4, ground := Ground.data }], guard := none }) (v := ?_) rfl (by kernel_rfl) (by kernel_rfl) (by kernel_rfl) (fun _ _ _ h => h) ?_ hHeld ?_
          rotate_left
          · refine Or.inl ⟨by rfl, fun w hSw => ?_⟩; skip; go_simp; (try with_reducible rfl)
          try simp only [Act.put, List.setIfInBounds_toArray, List.set_cons_zero, List.set_cons_succ]
          refine wpAnyH_take (i := 6) (oi := { dst := some 33, op := Op.load 5 (Operand.tmp 32), type := 5, pos := "ref.go:44", after := #[{ on := 5, ground := Ground.data }], guard := none }) (v := ?_) rfl (by kernel_rfl) (by kernel_rfl) (by kernel_rfl) (fun _ _ _ h => h) ?_ hHeld ?_
          rotate_left
          · refine Or.inl ⟨by rfl, fun w hSw => ?_⟩; (first | have c0 := hb1.out 1 _ rfl hSw | have c0 := hb1.out 17 _ rfl hSw | have c0 := hb1.out 33 _ rfl hSw | have c0 := hb1.out 49 _ rfl hSw); go_simp; (try with_reducible rfl)
          try simp only [Act.put, List.setIfInBounds_toArray, List.set_cons_zero, List.set_cons_succ]
          refine wpAnyH_take (i := 7) (oi := { dst := some 34, op := Op.convert 5 3 (Operand.tmp 33), type := 3, pos := "ref.go:44", after := #[{ on := 6, ground := Ground.data }], guard := none }) (v := ?_) rfl (by kernel_rfl) (by kernel_rfl) (by kernel_rfl) (fun _ _ _ h => h) ?_ hHeld ?_
          rotate_left
          · refine Or.inl ⟨by rfl, fun w hSw => ?_⟩; have c0 := hw1.out; go_simp; (try with_reducible rfl)
          try simp only [Act.put, List.setIfInBounds_toArray, List.set_cons_zero, List.set_cons_succ]
          refine wpAnyH_take (i := 8) (oi := { dst := some 35, op := Op.binOp BinOp.mul 3 (Operand.const (Value.int IntKind.i64 256)) (Operand.tmp 34) 3, type := 3, pos := "ref.go:44", after := #[{ on := 7, ground := Ground.data }], guard := none }) (v := ?_) rfl (by kernel_rfl) (by kernel_rfl) (by kernel_rfl) (fun _ _ _ h => h) ?_ hHeld ?_
          rotate_left
          · refine Or.inl ⟨by rfl, fun w hSw => ?_⟩; have c1 := hsl.out; go_simp; (try with_reducible rfl)
          try simp only [Act.put, List.setIfInBounds_toArray, List.set_cons_zero, List.set_cons_succ]
          refine wpAnyH_take (i := 9) (oi := { dst := some 36, op := Op.binOp BinOp.add 3 (Operand.tmp 30) (Operand.tmp 35) 3, type := 3, pos := "ref.go:44", after := #[{ on := 3, ground := Ground.data }, { on := 8, ground := Ground.data }], guard := none }) (v := ?_) rfl (by kernel_rfl) (by kernel_rfl) (by kernel_rfl) (fun _ _ _ h => h) ?_ hHeld ?_
          rotate_left
          · refine Or.inl ⟨by rfl, fun w hSw => ?_⟩; have c1 := hsm.out; go_simp; (try with_reducible rfl)
          try simp only [Act.put, List.setIfInBounds_toArray, List.set_cons_zero, List.set_cons_succ]
          refine wpAnyH_take (i := 10) (oi := { dst := some 37, op := Op.move (Operand.tmp 6), type := 22, pos := "ref.go:44", after := #[], guard := none }) (v := ?_) rfl (by kernel_rfl) (by kernel_rfl) (by kernel_rfl) (fun _ _ _ h => h) ?_ hHeld ?_
          rotate_left
          · refine Or.inl ⟨by rfl, fun w hSw => ?_⟩; skip; go_simp; (try with_reducible rfl)
          try simp only [Act.put, List.setIfInBounds_toArray, List.set_cons_zero, List.set_cons_succ]
          refine wpAnyH_take (i := 11) (oi := { dst := some 38, op := Op.move (Operand.tmp 7), type := 3, pos := "ref.go:44", after := #[], guard := none }) (v := ?_) rfl (by kernel_rfl) (by kernel_rfl) (by kernel_rfl) (fun _ _ _ h => h) ?_ hHeld ?_
          rotate_left
          · refine Or.inl ⟨by rfl, fun w hSw => ?_⟩; skip; go_simp; (try with_reducible rfl)
          try simp only [Act.put, List.setIfInBounds_toArray, List.set_cons_zero, List.set_cons_succ]
          refine wpAnyH_take (i := 12) (oi := { dst := some 39, op := Op.slice 22 (Operand.tmp 37) (some (Operand.const (Value.int IntKind.i64 2))) (some (Operand.tmp 38)) none, type := 22, pos := "ref.go:44", after := #[{ on := 10, ground := Ground.data }, { on := 11, ground := Ground.data }], guard := none }) (v := ?_) rfl (by kernel_rfl) (by kernel_rfl) (by kernel_rfl) (fun _ _ _ h => h) ?_ hHeld ?_
          rotate_left
          · refine Or.inl ⟨by rfl, fun w hSw => ?_⟩; skip; go_simp; (try with_reducible rfl)
          try simp only [Act.put, List.setIfInBounds_toArray, List.set_cons_zero, List.set_cons_succ]
          refine wpAnyH_take (i := 13) (oi := { dst := some 40, op := Op.convert 22 9 (Operand.tmp 39), type := 9, pos := "ref.go:44", after := #[{ on := 12, ground := Ground.data }], guard := none }) (v := ?_) rfl (by kernel_rfl) (by kernel_rfl) (by kernel_rfl) (fun _ _ _ h => h) ?_ hHeld ?_
          rotate_left
          · refine Or.inl ⟨by rfl, fun w hSw => ?_⟩; (first | have c0 := (fun cap => hcv'.out 2 cap _ rfl hSw) | have c0 := (fun cap => hcv'.out 18 cap _ rfl hSw) | have c0 := (fun cap => hcv'.out 34 cap _ rfl hSw) | have c0 := (fun cap => hcv'.out 50 cap _ rfl hSw)); go_simp; (try with_reducible rfl)
          try simp only [Act.put, List.setIfInBounds_toArray, List.set_cons_zero, List.set_cons_succ]
          refine wpAnyH_take (i := 14) (oi := { dst := some 41, op := Op.build 24 #[(1, Operand.tmp 36), (0, Operand.tmp 40)], type := 24, pos := "ref.go:44", after := #[{ on := 9, ground := Ground.data }, { on := 13, ground := Ground.data }], guard := none }) (v := ?_) rfl (by kernel_rfl) (by kernel_rfl) (by kernel_rfl) (fun _ _ _ h => h) ?_ hHeld ?_
          rotate_left
          · refine yIf_build2 24 1 0 (.tmp 36) (.tmp 40) (.int .i64 (x0 + 256 * x1)) (.string T) (ea ⟨T, x0 + 256 * x1⟩) (rbuilt_e _ _) ?_ ?_ ?_ ?_
            · rfl
            · rfl
            · rfl
            · rfl
          try simp only [Act.put, List.setIfInBounds_toArray, List.set_cons_zero, List.set_cons_succ]
          refine wpAnyH_ready (rs := [15]) (by kernel_rfl) (by simp) ?_
          refine AllReadyH.cons (o := { dst := some 8, op := Op.alloc 24, type := 0, pos := "ref.go:44", after := #[], guard := none }) rfl (fun Kc hKc => ?_) AllReadyH.nil
          refine step_of (by rfl) (wp_alloc 24 rfl (ea ⟨⟨#[]⟩, 0⟩) rnew_e ?_)
          intro gN wN zN sN kN bN
          have zg := hHeld.lt
          have zg3 := K3.lt
          have K3 := K3.below bN
          have BB := bl_then BB bN
          refine hKc.out _ _ (Blk.below hHeld bN) (fun hHeld => ?_)
          clear hKc Kc
          try simp only [Act.put, List.setIfInBounds_toArray, List.set_cons_zero, List.set_cons_succ]
          refine wpAnyH_ready (rs := [16]) (by kernel_rfl) (by simp) ?_
          refine AllReadyH.cons (o := { dst := none, op := Op.store 24 (Operand.tmp 8) (Operand.tmp 41), type := 0, pos := "ref.go:44", after := #[{ on := 15, ground := Ground.data }, { on := 14, ground := Ground.data }, { on := 0, ground := Ground.phase }, { on := 1, ground := Ground.phase }, { on := 2, ground := Ground.phase }, { on := 3, ground := Ground.phase }, { on := 4, ground := Ground.phase }, { on := 5, ground := Ground.phase }, { on := 6, ground := Ground.phase }, { on := 7, ground := Ground.phase }, { on := 8, ground := Ground.phase }, { on := 9, ground := Ground.phase }, { on := 10, ground := Ground.phase }, { on := 11, ground := Ground.phase }, { on := 12, ground := Ground.phase }, { on := 13, ground := Ground.phase }, { on := 14, ground := Ground.phase }, { on := 15, ground := Ground.phase }], guard := none }) rfl (fun Kc hKc => ?_) AllReadyH.nil
          refine step_of (by rfl) (wp_whole 24 (.tmp 8) (.tmp 41) (by rfl) gN (by rfl) (ea ⟨T, x0 + 256 * x1⟩) (by rfl) 24 (ea ⟨⟨#[]⟩, 0⟩) kN (rsz_ea _) rfl (ea_one _) ?_)
          intro wS kS gS sS
          have K3 := K3.grown gS (fun e => by injection e with e; omega)
          have BB := below_grown BB BB.size gS (by omega)
          refine hKc.out _ _ (Blk.grown hHeld gS (fun e => by injection e with e; omega)) (fun hHeld => ?_)
          clear hKc Kc
          try simp only [Act.put]
          refine wpAnyH_done (by kernel_rfl) ?_ _
          go_wp2_with (first
            | (refine wl_load rfl 24 (.tmp 8) rfl gN rfl 24 (ea ⟨T, x0 + 256 * x1⟩) _ kS Tryd.underlying24 rfl (rsz_ea _) ?_))
          refine (hR.out _).mono ?_
          rintro r w4 ⟨rfl, b4⟩
          have K3 := K3.below b4
          have kS := kS.below b4
          have BB := bl_then BB b4
          rw [hge'.out] at hgot
          obtain ⟨rb, hrb⟩ : ∃ rb, rb = rightB ⟨T, x0 + 256 * x1⟩ := ⟨_, rfl⟩
          rw [← hrb] at hgot ⊢
          have hpost : Hid (gotE d _ = if rb = true then ⟨T, x0 + 256 * x1⟩ else ⟨⟨#[]⟩, 0⟩) := hgot
          have hpb : Hid (rightB (getE d _) = rb) := Lib.hid (by rw [hge'.out, hrb])
          clear hgot hrb b4
          cases rb
          · go_wp2_with (first
              | (refine wl_build0 rfl 24 rfl (ea ⟨⟨#[]⟩, 0⟩) rzero_e ?_)
              | (refine at_none rfl ?_; refine wl_store rfl 24 (.tmp 4) (.tmp 45) rfl w1.heap.size rfl (ea ⟨⟨#[]⟩, 0⟩) rfl 24 (ea ⟨⟨#[]⟩, 0⟩) K3 (rsz_ea _) rfl (ea_one _) ?_; intro w7 k7 gg7 s7))
            refine bodyPost_ret (res_cell_tmp rfl _ _ _ w1.heap.size 24 (ea ⟨⟨#[]⟩, 0⟩) _ rfl k7 Tryd.underlying24 rfl (rsz_ea _)) rfl ⟨by rw [hpb.out, hpost.out]; rfl, below_grown BB BB.size gg7 (by omega)⟩
          · go_wp2_with (first
              | (refine at_slot 46 rfl ?_; refine wl_load rfl 24 (.tmp 8) rfl gN rfl 24 (ea ⟨T, x0 + 256 * x1⟩) _ kS Tryd.underlying24 rfl (rsz_ea _) ?_)
              | (refine at_none rfl ?_; refine wl_store rfl 24 (.tmp 4) (.tmp 46) rfl w1.heap.size rfl (ea ⟨T, x0 + 256 * x1⟩) rfl 24 (ea ⟨⟨#[]⟩, 0⟩) K3 (rsz_ea _) rfl (ea_one _) ?_; intro w7 k7 gg7 s7))
            refine bodyPost_ret (res_cell_tmp rfl _ _ _ w1.heap.size 24 (ea ⟨T, x0 + 256 * x1⟩) _ rfl k7 Tryd.underlying24 rfl (rsz_ea _)) rfl ⟨by rw [hpb.out, hpost.out]; rfl, below_grown BB BB.size gg7 (by omega)⟩)
end Go.Proofs.YthihpejhhimkaaaDoor.Dir14
