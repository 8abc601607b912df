/- Contract of the reference's Put: the walk. -/
import Derived.Test.YthihpejhhimkaaaDoorDir11
set_option linter.unusedVariables false
namespace Go.Proofs.YthihpejhhimkaaaDoor.Dir13
open Go.RowKit Go.Proofs.YthihpejhhimkaaaDoor.Base Go.Proofs.YthihpejhhimkaaaDoor.Row Go.Proofs.YthihpejhhimkaaaDoor.App Go.Proofs.YthihpejhhimkaaaDoor.Multi Go.Proofs.YthihpejhhimkaaaDoor.StEq Go.Proofs.YthihpejhhimkaaaDoor.Held Go.Proofs.YthihpejhhimkaaaDoor.Out Go.Proofs.YthihpejhhimkaaaDoor.HeldW Go.Proofs.YthihpejhhimkaaaDoor.HeldX Go.Proofs.YthihpejhhimkaaaDoor.DiskMath Go.Proofs.YthihpejhhimkaaaDoor.Dir Go.Proofs.YthihpejhhimkaaaDoor.Dir2 Go.Proofs.YthihpejhhimkaaaDoor.Dir3 Go.Proofs.YthihpejhhimkaaaDoor.Dir4 Go.Proofs.YthihpejhhimkaaaDoor.Dir5 Go.Proofs.YthihpejhhimkaaaDoor.Dir9 Go.Proofs.YthihpejhhimkaaaDoor.Dir10 Go.Proofs.YthihpejhhimkaaaDoor.Dir11

theorem nums_sz (L : List Int) : (nums .u8 L).toArray.size = L.length := by rw [List.size_toArray, nums_length]
theorem ov_put {d : Bk} {n : Nat} {e : En} (hn : n < 4) (h : e.s.size ≤ 14) : ov d.l (16 * n) (ent e) = (putB d n e).l := by
  rw [putB_l hn h]
  unfold ov putL
  rw [ent_len h, List.append_assoc, Nat.mul_comm]
theorem byts_get (s : ByteArray) (k : Nat) (h : k < s.size) : (byts s)[k]?.getD 0 = (s[k].toNat : Int) := by
  unfold byts
  rw [List.getElem?_map, get_data s k h]; rfl
set_option maxRecDepth 100000 in
set_option maxHeartbeats 2000000 in
theorem rput_c (d : Bk) (a : Int) (n : Nat) (e : En) (w : World) (hn : n < 4) (haa : (n : Int) = a) (hr : rightB e = true) :
    Calls Tryd.prog 15 #[.agg (bc d), .int .i64 a, .agg (ea e)] w fun r w' => r = .returned (.agg (bc (putB d n e))) ∧ Below w.heap.size w w' := by
  obtain ⟨h14, hi0, hi32⟩ := right_le hr
  have hcw : Hid (IntKind.u8.wrap e.i = e.i) := Lib.hid (by simp [IntKind.wrap, IntKind.signed, IntKind.bits]; omega)
  obtain ⟨o, ho⟩ : ∃ o, o = 16 * n := ⟨_, rfl⟩
  have hoa : 16 * a = (o : Int) := by omega
  have ho48 : o ≤ 48 := by omega
  have ho48' : (o : Int) ≤ 48 := by omega
  have ha0 : 0 ≤ a := by omega
  have ha4 : a < 4 := by omega
  have hz := Lib.hid (fun k h => z_snoc d o k h)
  have hu0 := Lib.hid (upto_zero e)
  have hus := Lib.hid (fun k h => upto_set e k h h14)
  have hue := Lib.hid (upto_end e)
  have hul := Lib.hid (fun k h => upto_len e k h h14)
  have hov := Lib.hid (ov_put (d := d) hn h14)
  rw [← ho] at hov
  generalize putB d n e = D2 at *
  have hol := Lib.hid (fun xs (h : o + xs.length ≤ 64) => (show (ov d.l o xs).length = 64 by rw [ov_len _ _ _ (by rw [d.h]; exact h)]; exact d.h))
  have hom := Lib.hid (fun k xs x hk (h : o + xs.length ≤ 64) => ov_mid d.l o k xs x hk (by rw [d.h]; exact h))
  have hbn : (nums .u8 (ov d.l o (List.replicate 0 0))).toArray = bc d := by rw [List.replicate_zero, ov_nil]; rfl
  have hbe := Lib.hid (fun k h => byts_get e.s k h)
  clear haa hr hn ho
  go_enter Tryd.func15, Tryd.ntmps15
  go_wp2_with (first
    | ((with_reducible refine wl_box rfl 25 _ rfl (bc d) rfl ?_); intro w1 k1 b1 s1)
    | ((with_reducible refine wl_box rfl 24 _ rfl (ea e) rfl ?_); intro w2 k2 b2 s2; have K1 := k1.below b2)
    | ((with_reducible refine wl_alloc rfl 25 rfl (bc zb) rnew_d ?_); intro w3 k3 b3 s3; have K1 := K1.below b3; have K2 := k2.below b3))
  have HB := bl_then (bl_then b1 b2) b3
  have z1 := b1.size
  have z2 := b2.size
  have z3 := K2.lt
  have z0 := k1.lt
  rw [← hbn] at K1
  clear k1 k2 b1 b2 b3 hbn
  have hne1 := Lib.hid (show some w1.heap.size ≠ some w.heap.size from fun e => by injection e with e; omega)
  have hne2 := Lib.hid (show some w2.heap.size ≠ some w.heap.size from fun e => by injection e with e; omega)
  go_loopw [7] (fun i wr => ∃ k : Nat, k ≤ 16 ∧ i = .int .i64 k ∧ Blk wr w.heap.size 25 (nums .u8 (ov d.l o (List.replicate k 0))).toArray ∧ Blk wr w1.heap.size 24 (ea e) ∧ Blk wr w2.heap.size 25 (bc zb) ∧ Below w.heap.size w wr) (fun i _ => 16 - (intOf i).toNat)
  case atStart => exact ⟨0, by omega, rfl, K1, K2, k3, HB⟩
  case round =>
    clear K1 K2 k3 HB
    obtain ⟨k, hk, rfl, K1, K2, K3, HB⟩ := hrel
    obtain ⟨wo, rfl⟩ : ∃ wo : World, wo = wr := ⟨_, rfl⟩
    by_cases hlt : k < 16
    · have hq : decide ((k : Int) < 16) = true := by simp; omega
      have hq3 : (k : Int) < 16 := by omega
      have hm64 : o + k < 64 := by omega
      have hm64' : (o : Int) + (k : Int) < 64 := by omega
      go_wp2_with (first
        | ((refine wl_set rfl 5 _ _ rfl w.heap.size (o + k) rfl (.int .u8 0) rfl rfl 25 (nums .u8 (ov d.l o (List.replicate k 0))).toArray K1 (by kernel_rfl) (by rw [nums_sz, hol.out _ (by rw [List.length_replicate]; omega)]; exact hm64) ?_); intro w4 k4 g4 s4))
      rw [nums_set, hz.out k (by omega)] at k4
      go_roundw
      case rel => exact ⟨k + 1, by omega, by go_num, k4, K2.grown g4 hne1.out, K3.grown g4 hne2.out, below_grown HB HB.size g4 (by omega)⟩
      case measure => first | (simp [intOf]; done) | (simp [intOf]; omega)
    · obtain rfl : k = 16 := by omega
      have hq : decide ((16 : Int) < 16) = false := by simp
      have c1 : wo.cell? ⟨w1.heap.size, 1, none⟩ = some (.int .i64 e.i) := K2.cellv 1 _ rfl
      clear hz
      have hm64 : o < 64 := by omega
      have hm64' : (o : Int) < 64 := by omega
      have hcw' : IntKind.u8.wrap e.i = e.i := hcw.out
      go_wp2_with (first
        | ((refine wl_set rfl 5 _ _ rfl w.heap.size o rfl (.int .u8 e.i) rfl rfl 25 (nums .u8 (ov d.l o (List.replicate 16 0))).toArray K1 (by kernel_rfl) (by rw [nums_sz, hol.out _ (by rw [List.length_replicate]; omega)]; exact hm64) ?_); intro w4 k4 g4 s4))
      have hst := hom.out 0 (List.replicate 16 0) e.i (by rw [List.length_replicate]; omega) (by rw [List.length_replicate]; omega)
      rw [Nat.add_zero] at hst
      rw [nums_set, hst, hu0.out] at k4
      have K2 := K2.grown g4 hne1.out
      have K3 := K3.grown g4 hne2.out
      have HB := below_grown HB HB.size g4 (by omega)
      clear hst hu0 K1 c1 g4 hcw hcw' hq
      go_loopw [8] (fun i wr => ∃ k : Nat, k ≤ e.s.size ∧ i = .int .i64 k ∧ Blk wr w.heap.size 25 (nums .u8 (ov d.l o (upto e k))).toArray ∧ Blk wr w1.heap.size 24 (ea e) ∧ Blk wr w2.heap.size 25 (bc zb) ∧ Below w.heap.size w wr) (fun i _ => e.s.size - (intOf i).toNat)
      case atStart => exact ⟨0, by omega, rfl, k4, K2, K3, HB⟩
      case round =>
        clear k4 K2 K3 HB
        obtain ⟨k, hk, rfl, K1, K2, K3, HB⟩ := hrel
        obtain ⟨wo, rfl⟩ : ∃ wo : World, wo = wr := ⟨_, rfl⟩
        have c0 : wo.cell? ⟨w1.heap.size, 0, none⟩ = some (.string e.s) := K2.cellv 0 _ rfl
        by_cases hlt : k < e.s.size
        · have hq : decide ((k : Int) < (e.s.size : Int)) = true := by simp; omega
          have hq3 : (k : Int) < (e.s.size : Int) := by omega
          have hm64 : o + 2 + k < 64 := by omega
          have hm64' : (o : Int) + 2 + (k : Int) < 64 := by omega
          have hbk := hbe.out k hlt
          have hus' := hus.out k hlt
          rw [hbk] at hus'
          replace hus' := Lib.hid hus'
          clear hbk
          go_wp2_with (first
            | ((refine wl_set rfl 5 _ _ rfl w.heap.size (o + 2 + k) rfl (.int .u8 (e.s[k].toNat : Int)) rfl rfl 25 (nums .u8 (ov d.l o (upto e k))).toArray K1 (by kernel_rfl) (by rw [nums_sz, hol.out _ (by rw [hul.out k hk]; omega)]; exact hm64) ?_); intro w5 k5 g5 s5))
          rw [nums_set, Nat.add_assoc, hom.out (2 + k) (upto e k) _ (by rw [hul.out k hk]; omega) (by rw [hul.out k hk]; omega), hus'.out] at k5
          go_roundw
          case rel => exact ⟨k + 1, by omega, by go_num, k5, K2.grown g5 hne1.out, K3.grown g5 hne2.out, below_grown HB HB.size g5 (by omega)⟩
          case measure => first | (simp [intOf]; done) | (simp [intOf]; omega)
        · obtain rfl : k = e.s.size := by omega
          have hq : decide ((e.s.size : Int) < (e.s.size : Int)) = false := by simp
          rw [hue.out, hov.out] at K1
          have K1' : Blk wo w.heap.size 25 (bc D2) := K1
          clear K1
          go_wp2_with (first
            | (refine wl_load rfl 25 (.tmp 3) rfl w.heap.size rfl 25 (bc D2) _ K1' Tryd.underlying25 rfl (rsz_bc _) ?_)
            | (refine at_none rfl ?_; refine wl_store rfl 25 (.tmp 6) (.tmp 41) rfl w2.heap.size rfl (bc D2) rfl 25 (bc zb) K3 (rsz_bc _) (by rw [bc_size, bc_size]) (bc_one _) ?_; intro w6 k6 g6 s6))
          refine bodyPost_ret (res_cell rfl _ _ _ w2.heap.size 25 (bc D2) _ rfl k6 Tryd.underlying25 rfl (rsz_bc _)) rfl ⟨rfl, below_grown HB HB.size g6 (by omega)⟩
end Go.Proofs.YthihpejhhimkaaaDoor.Dir13
