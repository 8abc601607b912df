/- The law DirGets. -/
import Derived.Test.YthihpejhhimkaaaDoorDir16
import Derived.Test.YthihpejhhimkaaaDoorDir14
import Derived.Test.YthihpejhhimkaaaDoorDir7
import Derived.BigQuiet
import Derived.Deep.CutRange
set_option linter.unusedVariables false
namespace Go.Proofs.YthihpejhhimkaaaDoor.DirGets
open Go.RowKit Go.Proofs.YthihpejhhimkaaaDoor.Base Go.Proofs.YthihpejhhimkaaaDoor.Row Go.Proofs.YthihpejhhimkaaaDoor.App Go.Proofs.YthihpejhhimkaaaDoor.Multi Go.Proofs.YthihpejhhimkaaaDoor.StEq Go.Proofs.YthihpejhhimkaaaDoor.Held Go.Proofs.YthihpejhhimkaaaDoor.Out Go.Proofs.YthihpejhhimkaaaDoor.HeldW Go.Proofs.YthihpejhhimkaaaDoor.HeldX Go.Proofs.YthihpejhhimkaaaDoor.DiskMath Go.Proofs.YthihpejhhimkaaaDoor.Dir Go.Proofs.YthihpejhhimkaaaDoor.Dir2 Go.Proofs.YthihpejhhimkaaaDoor.Dir3 Go.Proofs.YthihpejhhimkaaaDoor.Dir4 Go.Proofs.YthihpejhhimkaaaDoor.Dir5 Go.Proofs.YthihpejhhimkaaaDoor.Dir6 Go.Proofs.YthihpejhhimkaaaDoor.Dir7 Go.Proofs.YthihpejhhimkaaaDoor.Dir8 Go.Proofs.YthihpejhhimkaaaDoor.Dir9 Go.Proofs.YthihpejhhimkaaaDoor.Dir14 Go.Proofs.YthihpejhhimkaaaDoor.Dir15 Go.Proofs.YthihpejhhimkaaaDoor.Dir16

theorem info_re : (Tryd.prog.info? 24).map (fun i => (i.zero, i.size, i.bytes)) = some (some (.agg (ea ⟨⟨#[]⟩, 0⟩)), 2, 24) := by kernel_rfl
theorem okb_of {xs : List Int} (h : ∀ x ∈ xs, 0 ≤ x ∧ x < 256) : Okb (ofB xs) := by
  intro x hx
  have h1 : (ofB xs).l = pre xs 64 := rfl
  rw [h1] at hx
  unfold pre at hx
  obtain ⟨i, _, rfl⟩ := List.mem_map.1 hx
  by_cases h2 : i < 64
  · rw [if_pos h2]
    exact getD_mem_range h (by omega) i
  · rw [if_neg h2]; omega
set_option maxRecDepth 100000 in
set_option maxHeartbeats 4000000 in
theorem main (A : Option Addr) (m c : Nat) (xs : List Int) (s : ByteArray) (w : World) (hx : Rd w .u8 A m xs) (hok : ∀ x ∈ xs, 0 ≤ x ∧ x < 256) :
    Calls Tryd.prog 5 #[.slice A m c, .string s] w fun r w' => r = .returned (.bool true) ∧ Below w.heap.size w w' := by
  have hd := okb_of hok
  have hOf := Lib.hid (fun w' (hb : Below w.heap.size w w') => of_c A m c xs w' (hx.below hb))
  generalize ofB xs = d at *
  have hG := Lib.hid (fun (n : Nat) (hn : n < 4) w' => get_c d (n : Int) n w' hn rfl hd)
  have hH := Lib.hid (fun (n : Nat) (hn : n < 4) w' => rget_c d (n : Int) n w' hn rfl hd)
  have hF := Lib.hid (fun w' => find_c d s w' hd)
  have hM := Lib.hid (fun w' => room_c d w' hd)
  have hL := Lib.hid (fun w' => all_c d w' hd)
  have hN1 := Lib.hid (fun w' => get_no d (-1) w' (.inl (by omega)))
  have hN4 := Lib.hid (fun w' => get_no d 4 w' (.inr (by omega)))
  have hA := Lib.hid (fun w' => awake_c w')
  clear hx hok hd
  go_enter Tryd.func5, Tryd.ntmps5
  go_wp2_with fail
  refine (hOf.out _ (bl_refl w)).mono ?_
  rintro r w2 ⟨rfl, b2⟩
  clear hOf
  go_wp2_with (first
    | ((with_reducible refine wl_alloc rfl 25 rfl (bc zb) rnew_d ?_); intro w3 k3 b3 s3)
    | ((refine wl_store rfl 25 (.tmp 5) (.tmp 29) rfl w2.heap.size rfl (bc d) rfl 25 (bc zb) k3 (rsz_bc _) (by rw [bc_size, bc_size]) (bc_one _) ?_); intro w4 k4 g4 s4))
  have BB := bl_then b2 (below_grown b3 b3.size g4 (Nat.le_refl _))
  obtain ⟨gd, hgd⟩ : ∃ gd, gd = w2.heap.size := ⟨_, rfl⟩
  rw [← hgd] at k4 ⊢
  have z4 := k4.lt
  clear hgd k3 b2 b3 g4
  go_loopw [6, 7, 8, 9, 10, 11] (fun F I R O B i wr => ∃ (k n : Nat) (A1 : Option Addr) (cp : Nat), k ≤ 4 ∧ n = (lsR d k).length ∧ F = .int .i64 (fo d s k) ∧ I = .int .i64 (ino d s k) ∧ R = .int .i64 (ro d k) ∧ O = .slice A1 n cp ∧ B = .bool (rt d k) ∧ i = .int .i64 k ∧ wr.ownsRow w4.heap.size 24 2 (.slice A1 n cp) n ((lsR d k).flatMap ev) ∧ Below w4.heap.size w4 wr) (fun _ _ _ _ _ i _ => 4 - (intOf i).toNat)
  case atStart => exact ⟨0, 0, none, 0, by omega, rfl, rfl, rfl, rfl, rfl, rfl, rfl, own_nil _ _ _ _, bl_refl _⟩
  case round =>
    obtain ⟨k, n, A1, cp, hk, hn, rfl, rfl, rfl, rfl, rfl, rfl, HO, HB⟩ := hrel
    obtain ⟨wo, rfl⟩ : ∃ wo : World, wo = wr := ⟨_, rfl⟩
    have K := k4.below HB
    have z1 := HB.size
    replace hn := Lib.hid hn
    by_cases hlt : k < 4
    · have hq : decide ((k : Int) < 4) = true := by simp; omega
      have hnl := Lib.hid (lsR_le d k)
      have hw := Lib.hid (Dir16.ways d s k)
      have hrt : Hid (rt d (k + 1) = (rt d k && rightB (getE d k))) := Lib.hid rfl
      have hC := Lib.hid (hG.out k hlt wo)
      have hD := Lib.hid (fun w' => hH.out k hlt w')
      have hge := Lib.hid (gotE_b d k)
      have hnn : (rightB (getE d k) != rightB (getE d k)) = false := by simp
      obtain ⟨F, hF0⟩ : ∃ F, F = fo d s k := ⟨_, rfl⟩
      obtain ⟨I, hI0⟩ : ∃ I, I = ino d s k := ⟨_, rfl⟩
      obtain ⟨R, hR0⟩ : ∃ R, R = ro d k := ⟨_, rfl⟩
      obtain ⟨B, hB0⟩ : ∃ B, B = rt d k := ⟨_, rfl⟩
      obtain ⟨e, he0⟩ : ∃ e, e = gotE d k := ⟨_, rfl⟩
      obtain ⟨rb, hrb⟩ : ∃ rb, rb = rightB (getE d k) := ⟨_, rfl⟩
      rw [← he0, ← hrb] at hC hD
      rw [← hrb] at hnn
      rw [← hF0, ← hR0, ← hI0, ← hrb] at hw
      rw [← hB0, ← hrb] at hrt
      rw [← hF0, ← hI0, ← hR0, ← hB0]
      rw [← hrb, ← he0] at hge
      clear hF0 hI0 hR0 hB0 he0 hrb
      go_wp2_with (first
        | (refine wl_load rfl 25 (.tmp 5) rfl gd rfl 25 (bc d) _ K Tryd.underlying25 rfl (rsz_bc _) ?_))
      refine (hC.out).mono ?_
      rintro r wc ⟨rfl, bc1⟩
      have HB := bl_then HB bc1
      have HO := own_below HO bc1
      have K := K.below bc1
      have zk := K.lt
      clear hC bc1
      go_wp2_with (first
        | ((with_reducible refine wl_alloc rfl 30 rfl (ea ⟨⟨#[]⟩, 0⟩) new_e ?_); intro w5 k5 b5 s5)
        | ((refine wl_store rfl 30 (.tmp 12) (.tmp 38) rfl wc.heap.size rfl (ea e) rfl 30 (ea ⟨⟨#[]⟩, 0⟩) k5 (sz_ea _) rfl (ea_one _) ?_); intro w6 k6 g6 s6; have BE := below_grown b5 b5.size g6 (Nat.le_refl _); have K := K.below BE; have z6 := k6.lt)
        | (refine at_slot 41 rfl ?_; refine wl_load rfl 25 (.tmp 5) rfl gd rfl 25 (bc d) _ K Tryd.underlying25 rfl (rsz_bc _) ?_))
      refine (hD.out _).mono ?_
      rintro r wd ⟨rfl, bd1⟩
      have kx := k6.below bd1
      have zd := bd1.size
      have zd2 := kx.lt
      have HB := bl_then (bl_then HB BE) bd1
      have HO := own_below (own_below HO BE) bd1
      have K := K.below bd1
      have hob := Lib.hid (fun b hb => (World.ownsRow.lt HO b hb).2)
      clear hD bd1 BE k6 b5 k5 g6 s5 s6
      go_upto_region 12 with (first
        | ((with_reducible refine wl_alloc rfl 24 rfl (ea ⟨⟨#[]⟩, 0⟩) rnew_e ?_); intro w7 k7 b7 s7)
        | ((refine wl_store rfl 24 (.tmp 14) (.tmp 44) rfl wd.heap.size rfl (ea e) rfl 24 (ea ⟨⟨#[]⟩, 0⟩) k7 (Dir14.rsz_ea _) rfl (ea_one _) ?_); intro w8 k8 g8 s8; have BE := below_grown b7 b7.size g8 (Nat.le_refl _); have kx := kx.below BE; have cx0 : w8.cell? ⟨wc.heap.size, 0, none⟩ = some (.string e.s) := kx.cellv 0 _ rfl; have cx1 : w8.cell? ⟨wc.heap.size, 1, none⟩ = some (.int .i64 e.i) := kx.cellv 1 _ rfl; have cy0 : w8.cell? ⟨wd.heap.size, 0, none⟩ = some (.string e.s) := k8.cellv 0 _ rfl; have cy1 : w8.cell? ⟨wd.heap.size, 1, none⟩ = some (.int .i64 e.i) := k8.cellv 1 _ rfl))
      have HB := bl_then HB BE
      have HO := own_below HO BE
      have K := K.below BE
      have ky := k8
      clear cx0 cx1 hnn BE k8 k7 b7 g8 kx
      obtain ⟨gy, hgy⟩ : ∃ gy, gy = wd.heap.size := ⟨_, rfl⟩
      rw [← hgy] at cy0 cy1 ky hob ⊢
      clear hgy
      go_cut [10] from 63 to 66 (fun sv wx => sv = .bool (B && rb) ∧ w8 = wx)
      case first =>
        clear HO HB K ky cy0 cy1 hw hge hrt
        cases B
        all_goals (
          go_wp2_with fail
          go_meet
          exact ⟨rfl, rfl⟩)
      case rest =>
        obtain ⟨rfl, rfl⟩ := hcut
        clear k4 s4 z1 hG hH
        have hw' := hw.out
        clear hw
        rcases hw' with ⟨r, f1, f2, f3, f4⟩ | ⟨r, q1, q2, f1, f2, f3, f4⟩ | ⟨r, q1, q2, f1, f2, f3, f4⟩ | ⟨r, q1, q2, f1, f2, f3, f4⟩ | ⟨r, q1, q2, q3, f1, f2, f3, f4⟩ | ⟨r, q1, q2, q3, f1, f2, f3, f4⟩
        case inl => as_aux_lemma =>
          subst r
          replace f1 := Lib.hid f1
          replace f2 := Lib.hid f2
          replace f3 := Lib.hid f3
          replace f4 := Lib.hid f4
          clear hge cy0 cy1
          go_wp2_with fail
          go_roundw
          case rel => exact ⟨k + 1, n, A1, cp, by omega, by rw [f4.out]; exact hn.out, by rw [f1.out], by rw [f2.out], by rw [f3.out], rfl, (by simp only [hrt.out, Bool.and_false, Bool.and_true]), by go_num, by rw [f4.out]; exact HO, HB⟩
          case measure => first | (simp [intOf]; done) | (simp [intOf]; omega)
        case inr.inl => as_aux_lemma =>
          have he := hge.out r
          subst r
          rw [← he] at q1
          clear hge he
          replace f1 := Lib.hid f1
          replace f2 := Lib.hid f2
          replace f3 := Lib.hid f3
          replace f4 := Lib.hid f4
          have q3 : ¬ 0 < e.i := by omega
          go_wp2_with fail
          go_roundw
          case rel => exact ⟨k + 1, n, A1, cp, by omega, by rw [f4.out]; exact hn.out, by rw [f1.out], by rw [f2.out], by rw [f3.out], rfl, (by simp only [hrt.out, Bool.and_false, Bool.and_true]), by go_num, by rw [f4.out]; exact HO, HB⟩
          case measure => first | (simp [intOf]; done) | (simp [intOf]; omega)
        case inr.inr.inl => as_aux_lemma =>
          have he := hge.out r
          subst r
          rw [← he] at q1
          clear hge he
          replace f1 := Lib.hid f1
          replace f2 := Lib.hid f2
          replace f3 := Lib.hid f3
          replace f4 := Lib.hid f4
          have q3 : ¬ 0 < e.i := by omega
          go_wp2_with fail
          go_roundw
          case rel => exact ⟨k + 1, n, A1, cp, by omega, by rw [f4.out]; exact hn.out, by rw [f1.out], by rw [f2.out], by rw [f3.out], rfl, (by simp only [hrt.out, Bool.and_false, Bool.and_true]), by go_num, by rw [f4.out]; exact HO, HB⟩
          case measure => first | (simp [intOf]; done) | (simp [intOf]; omega)
        case inr.inr.inr.inl => as_aux_lemma =>
          have he := hge.out r
          subst r
          rw [← he] at q1 q2 f4
          clear hge he
          replace f1 := Lib.hid f1
          replace f2 := Lib.hid f2
          replace f3 := Lib.hid f3
          replace f4 := Lib.hid f4
          have hes : (ea e).size = 2 := rfl
          have q0 : ¬ e.i = 0 := by omega
          go_upto_region 16 with fail
          go_wp2_with (first
            | (refine at_slot 85 rfl ?_; refine wl_load rfl 24 (.tmp 14) rfl gy rfl 24 (ea e) _ ky Tryd.underlying24 rfl (Dir14.rsz_ea _) ?_)
            | (at_builtin; refine app_onef (w0 := w4) (f := ev) w4.heap.size 2 24 ev_len ev_one (.agg (ea ⟨⟨#[]⟩, 0⟩)) rfl _ _ 38 24 rfl Tryd.underlying38 info_re rfl (by decide) (by decide) (.slice A1 n cp) n (lsR d k) rfl HO e (ea e) rfl w8.heap.size rfl rfl ?d1 ?d2 ?d3 ?_))
          case d1 => have := hnl.out; have := hn.out; omega
          case d2 => exact HB
          case d3 => exact HB.size
          intro A5 c5 w9 HO5 B5 s5 g5
          have ky9 : Blk w9 gy 24 (ea e) := ky.grown g5 (fun h => by have := hob.out gy h.symm; omega)
          have cy0 : w9.cell? ⟨gy, 0, none⟩ = some (.string e.s) := ky9.cellv 0 _ rfl
          have cy1 : w9.cell? ⟨gy, 1, none⟩ = some (.int .i64 e.i) := ky9.cellv 1 _ rfl
          clear ky9
          go_wp2_with fail
          go_roundw
          case rel => exact ⟨k + 1, n + 1, A5, c5, by omega, by rw [f4.out, List.length_append, ← hn.out]; rfl, by rw [f1.out], by rw [f2.out], by rw [f3.out], rfl, (by simp only [hrt.out, Bool.and_true]), by go_num, by (rw [f4.out, List.flatMap_append, List.flatMap_singleton]; exact HO5), B5⟩
          case measure => first | (simp [intOf]; done) | (simp [intOf]; omega)
        case inr.inr.inr.inr.inl => as_aux_lemma =>
          have he := hge.out r
          subst r
          rw [← he] at q1 q2 f4 f2
          clear hge he
          replace f1 := Lib.hid f1
          replace f2 := Lib.hid f2
          replace f3 := Lib.hid f3
          replace f4 := Lib.hid f4
          have hes : (ea e).size = 2 := rfl
          have q0 : ¬ e.i = 0 := by omega
          go_upto_region 16 with fail
          go_wp2_with (first
            | (refine at_slot 85 rfl ?_; refine wl_load rfl 24 (.tmp 14) rfl gy rfl 24 (ea e) _ ky Tryd.underlying24 rfl (Dir14.rsz_ea _) ?_)
            | (at_builtin; refine app_onef (w0 := w4) (f := ev) w4.heap.size 2 24 ev_len ev_one (.agg (ea ⟨⟨#[]⟩, 0⟩)) rfl _ _ 38 24 rfl Tryd.underlying38 info_re rfl (by decide) (by decide) (.slice A1 n cp) n (lsR d k) rfl HO e (ea e) rfl w8.heap.size rfl rfl ?d1 ?d2 ?d3 ?_))
          case d1 => have := hnl.out; have := hn.out; omega
          case d2 => exact HB
          case d3 => exact HB.size
          intro A5 c5 w9 HO5 B5 s5 g5
          have ky9 : Blk w9 gy 24 (ea e) := ky.grown g5 (fun h => by have := hob.out gy h.symm; omega)
          have cy0 : w9.cell? ⟨gy, 0, none⟩ = some (.string e.s) := ky9.cellv 0 _ rfl
          have cy1 : w9.cell? ⟨gy, 1, none⟩ = some (.int .i64 e.i) := ky9.cellv 1 _ rfl
          clear ky9
          go_wp2_with fail
          go_roundw
          case rel => exact ⟨k + 1, n + 1, A5, c5, by omega, by rw [f4.out, List.length_append, ← hn.out]; rfl, by rw [f1.out], by rw [f2.out], by rw [f3.out], rfl, (by simp only [hrt.out, Bool.and_true]), by go_num, by (rw [f4.out, List.flatMap_append, List.flatMap_singleton]; exact HO5), B5⟩
          case measure => first | (simp [intOf]; done) | (simp [intOf]; omega)
        case inr.inr.inr.inr.inr => as_aux_lemma =>
          have he := hge.out r
          subst r
          rw [← he] at q1 q2 f4
          clear hge he
          replace f1 := Lib.hid f1
          replace f2 := Lib.hid f2
          replace f3 := Lib.hid f3
          replace f4 := Lib.hid f4
          have hes : (ea e).size = 2 := rfl
          have q0 : ¬ e.i = 0 := by omega
          go_upto_region 16 with fail
          go_wp2_with (first
            | (refine at_slot 85 rfl ?_; refine wl_load rfl 24 (.tmp 14) rfl gy rfl 24 (ea e) _ ky Tryd.underlying24 rfl (Dir14.rsz_ea _) ?_)
            | (at_builtin; refine app_onef (w0 := w4) (f := ev) w4.heap.size 2 24 ev_len ev_one (.agg (ea ⟨⟨#[]⟩, 0⟩)) rfl _ _ 38 24 rfl Tryd.underlying38 info_re rfl (by decide) (by decide) (.slice A1 n cp) n (lsR d k) rfl HO e (ea e) rfl w8.heap.size rfl rfl ?d1 ?d2 ?d3 ?_))
          case d1 => have := hnl.out; have := hn.out; omega
          case d2 => exact HB
          case d3 => exact HB.size
          intro A5 c5 w9 HO5 B5 s5 g5
          have ky9 : Blk w9 gy 24 (ea e) := ky.grown g5 (fun h => by have := hob.out gy h.symm; omega)
          have cy0 : w9.cell? ⟨gy, 0, none⟩ = some (.string e.s) := ky9.cellv 0 _ rfl
          have cy1 : w9.cell? ⟨gy, 1, none⟩ = some (.int .i64 e.i) := ky9.cellv 1 _ rfl
          clear ky9
          go_wp2_with fail
          go_roundw
          case rel => exact ⟨k + 1, n + 1, A5, c5, by omega, by rw [f4.out, List.length_append, ← hn.out]; rfl, by rw [f1.out], by rw [f2.out], by rw [f3.out], rfl, (by simp only [hrt.out, Bool.and_true]), by go_num, by (rw [f4.out, List.flatMap_append, List.flatMap_singleton]; exact HO5), B5⟩
          case measure => first | (simp [intOf]; done) | (simp [intOf]; omega)
    · as_aux_lemma =>
      have hq : decide ((k : Int) < 4) = false := by simp; omega
      obtain rfl : k = 4 := by omega
      obtain ⟨e1, e2⟩ := fo_eq d s 4 (by omega)
      have e3 := ro_eq d 4 (by omega)
      obtain ⟨F, hF0⟩ : ∃ F, F = fo d s 4 := ⟨_, rfl⟩
      obtain ⟨I, hI0⟩ : ∃ I, I = ino d s 4 := ⟨_, rfl⟩
      obtain ⟨R, hR0⟩ : ∃ R, R = ro d 4 := ⟨_, rfl⟩
      obtain ⟨B, hB0⟩ : ∃ B, B = rt d 4 := ⟨_, rfl⟩
      rw [← hF0] at e1 ⊢
      rw [← hI0] at e2 ⊢
      rw [← hR0] at e3 ⊢
      rw [← hB0]
      have hB1 := Lib.hid hB0
      have hFc := fun w' => hF.out w'
      obtain ⟨x, hx⟩ : ∃ x, x = (if fi d s < 4 then ((fi d s : Nat) : Int) else 0) := ⟨_, rfl⟩
      obtain ⟨y, hy⟩ : ∃ y, y = (if fi d s < 4 then (getE d (fi d s)).i else 0) := ⟨_, rfl⟩
      obtain ⟨b, hb⟩ : ∃ b, b = decide (fi d s < 4) := ⟨_, rfl⟩
      rw [← hx, ← hy, ← hb] at hFc
      have hc1 : Hid ((b = true ∧ 0 ≤ F ∧ x = F ∧ y = I) ∨ (b = false ∧ x = 0 ∧ y = 0 ∧ F = -1)) := Lib.hid (by
        by_cases h4 : fi d s < 4
        · rw [if_pos h4] at hx hy e1 e2
          exact .inl ⟨by rw [hb]; simpa using h4, by omega, by rw [hx, e1], by rw [hy, e2]⟩
        · rw [if_neg h4] at hx hy e1
          exact .inr ⟨by rw [hb]; simpa using h4, hx, hy, e1⟩)
      have hMc := fun w' => hM.out w'
      obtain ⟨u, hu⟩ : ∃ u, u = (if ri d < 4 then ((ri d : Nat) : Int) else 0) := ⟨_, rfl⟩
      obtain ⟨v, hv⟩ : ∃ v, v = decide (ri d < 4) := ⟨_, rfl⟩
      rw [← hu, ← hv] at hMc
      have hc2 : Hid ((v = true ∧ 0 ≤ R ∧ u = R) ∨ (v = false ∧ u = 0 ∧ R = -1)) := Lib.hid (by
        by_cases h4 : ri d < 4
        · rw [if_pos h4] at hu e3
          exact .inl ⟨by rw [hv]; simpa using h4, by omega, by rw [hu, e3]⟩
        · rw [if_neg h4] at hu e3
          exact .inr ⟨by rw [hv]; simpa using h4, hu, e3⟩)
      replace hFc := Lib.hid hFc
      replace hMc := Lib.hid hMc
      clear hF0 hI0 hR0 hB0 hG hH hF hM e1 e2 e3 hx hy hb hu hv
      go_wp2_with (first
        | (refine wl_load rfl 25 (.tmp 5) rfl gd rfl 25 (bc d) _ K Tryd.underlying25 rfl (rsz_bc _) ?_))
      refine (hFc.out _).mono ?_
      rintro r wf ⟨rfl, bf⟩
      have HB := bl_then HB bf
      have HO := own_below HO bf
      have K := K.below bf
      clear bf hFc hq
      go_upto_region 21 with fail
      go_cut [132] from 106 to 132 (fun sv wx => sv = .bool false ∧ wf = wx)
      case first =>
        clear HO HB K hMc hL hN1 hN4 hA hc2 hB1
        rcases hc1.out with ⟨rfl, h0, rfl, rfl⟩ | ⟨rfl, rfl, rfl, rfl⟩
        all_goals (
          clear hc1
          go_wp2_with fail
          go_meet
          exact ⟨rfl, rfl⟩)
      case rest =>
        obtain ⟨rfl, rfl⟩ := hcut
        clear hc1
        go_wp2_with (first
          | (refine wl_load rfl 25 (.tmp 5) rfl gd rfl 25 (bc d) _ K Tryd.underlying25 rfl (rsz_bc _) ?_))
        refine (hMc.out _).mono ?_
        rintro r wg ⟨rfl, bg⟩
        have HB := bl_then HB bg
        have HO := own_below HO bg
        have K := K.below bg
        clear bg hMc
        go_upto_region 24 with fail
        go_cut [157] from 138 to 157 (fun sv wx => sv = .bool false ∧ wg = wx)
        case first =>
          clear HO HB K hL hN1 hN4 hA hB1
          rcases hc2.out with ⟨rfl, h0, rfl⟩ | ⟨rfl, rfl, rfl⟩
          all_goals (
            clear hc2
            go_wp2_with fail
            go_meet
            exact ⟨rfl, rfl⟩)
        case rest =>
          obtain ⟨rfl, rfl⟩ := hcut
          clear hc2
          go_wp2_with (first
            | (refine wl_load rfl 25 (.tmp 5) rfl gd rfl 25 (bc d) _ K Tryd.underlying25 rfl (rsz_bc _) ?_))
          refine (hL.out _).mono ?_
          rintro r wh ⟨hpost, bh⟩
          have HB := bl_then HB bh
          have HO := own_below HO bh
          have K := K.below bh
          clear bh hL
          obtain ⟨A2, n2, c2, L2, rfl, HR2, hc3⟩ := all_use hpost
          rw [← hB1.out] at hc3 ⊢
          have HR1 := RF.of_own ev_len (by decide) HO
          have hll := HR1.len
          have hl2 := HR2.len
          have hn2 : n2 ≤ n := by
            rcases hc3 with ⟨_, h⟩ | ⟨_, h⟩
            · rw [h] at hl2; omega
            · omega
          have hc4 : Hid ((B = true ∧ n2 = n) ∨ (B = false ∧ n2 = 0)) := Lib.hid (by
            rcases hc3 with ⟨h0, h⟩ | h
            · rw [h] at hl2; exact .inl ⟨h0, by omega⟩
            · exact .inr h)
          have hsub : Hid (∀ j, j < n2 → L2[j]? = (lsR d 4)[j]?) := Lib.hid (fun j hj => by
            rcases hc3 with ⟨_, h⟩ | ⟨_, h⟩
            · rw [h]
            · omega)
          have HR1' := Lib.hid HR1
          have HR2' := Lib.hid HR2
          have hmx := HR2.max
          clear HO hpost hB1 hc3 HR1 HR2 hll hl2
          go_upto_region 27 with fail
          go_cut [184] from 163 to 184 (fun sv wx => sv = .bool false ∧ wh = wx)
          case first =>
            clear HB K hN1 hN4 hA hsub HR1' HR2' hn2 hn
            rcases hc4.out with ⟨rfl, rfl⟩ | ⟨rfl, rfl⟩
            all_goals (
              clear hc4
              go_wp2_with fail
              go_meet
              exact ⟨rfl, rfl⟩)
          case rest =>
            obtain ⟨rfl, rfl⟩ := hcut
            clear hc4
            go_wp2_with fail
            go_loopw [23] (fun i wr => ∃ j : Nat, j ≤ n2 ∧ i = .int .i64 j ∧ Below wh.heap.size wh wr) (fun i _ => n2 - (intOf i).toNat)
            case atStart => exact ⟨0, by omega, rfl, bl_refl _⟩
            case round =>
              obtain ⟨j, hj, rfl, HBl⟩ := hrel
              obtain ⟨wo, rfl⟩ : ∃ wo : World, wo = wr := ⟨_, rfl⟩
              by_cases hlt : j < n2
              · have hq : decide ((j : Int) < (n2 : Int)) = true := by simp; omega
                have hq2 : (j : Int) < (n2 : Int) := by omega
                have hq3 : j < n := by omega
                have hq4 : (j : Int) < (n : Int) := by omega
                obtain ⟨g2, o2, e, rfl, hx2, hcl2⟩ := (HR2'.out.below HBl).at_ j hlt
                obtain ⟨g1, o1, e', rfl, hx1, hcl1⟩ := (HR1'.out.below HBl).at_ j hq3
                have hee : e = e' := by
                  have h := hsub.out j hlt
                  rw [hx1, hx2] at h
                  injection h
                subst hee
                have c0 : wo.cell? ⟨g2, o2 + j * 2, none⟩ = some (.string e.s) := hcl2 0 _ rfl
                have c1 : wo.cell? ⟨g2, o2 + j * 2 + 1, none⟩ = some (.int .i64 e.i) := hcl2 1 _ rfl
                have d0 : wo.cell? ⟨g1, o1 + j * 2, none⟩ = some (.string e.s) := hcl1 0 _ rfl
                have d1 : wo.cell? ⟨g1, o1 + j * 2 + 1, none⟩ = some (.int .i64 e.i) := hcl1 1 _ rfl
                clear hx1 hx2 hcl1 hcl2 hsub HR1' HR2' hN1 hN4 hA K HB hn
                go_wp2_with fail
                go_quiet (fail)
                go_wp2_with fail
                go_roundw
                case rel => exact ⟨j + 1, by omega, by go_num, bl_drewN HBl _⟩
                case measure => first | (simp [intOf]; done) | (simp [intOf]; omega)
              · have hq : decide ((j : Int) < (n2 : Int)) = false := by simp; omega
                have hq2 : ¬ (j : Int) < (n2 : Int) := by omega
                have K := K.below HBl
                have HB := bl_then HB HBl
                clear HR1' HR2' hsub hn HBl
                go_wp2_with (first
                  | (refine wl_load rfl 25 (.tmp 5) rfl gd rfl 25 (bc d) _ K Tryd.underlying25 rfl (rsz_bc _) ?_))
                refine (hN1.out _).mono ?_
                rintro r wi ⟨rfl, bi⟩
                have K := K.below bi
                have HB := bl_then HB bi
                clear bi hN1
                go_wp2_with (first
                  | ((with_reducible refine wl_alloc rfl 30 rfl (ea ⟨⟨#[]⟩, 0⟩) new_e ?_); intro w5 k5 b5 s5)
                  | ((refine wl_store rfl 30 (.tmp 24) (.tmp 218) rfl wi.heap.size rfl (ea ⟨⟨#[]⟩, 0⟩) rfl 30 (ea ⟨⟨#[]⟩, 0⟩) k5 (sz_ea _) rfl (ea_one _) ?_); intro w6 k6 g6 s6; have BE := below_grown b5 b5.size g6 (Nat.le_refl _); have K := K.below BE; have HB := bl_then HB BE)
                  | (refine at_slot 221 rfl ?_; refine wl_load rfl 25 (.tmp 5) rfl gd rfl 25 (bc d) _ K Tryd.underlying25 rfl (rsz_bc _) ?_))
                refine (hN4.out _).mono ?_
                rintro r wj ⟨rfl, bj⟩
                have HB := bl_then HB bj
                clear bj hN4 K BE k5 b5 g6 k6 s5 s6
                go_wp2_with (first
                  | ((with_reducible refine wl_alloc rfl 30 rfl (ea ⟨⟨#[]⟩, 0⟩) new_e ?_); intro w7 k7 b7 s7)
                  | ((refine wl_store rfl 30 (.tmp 26) (.tmp 223) rfl wj.heap.size rfl (ea ⟨⟨#[]⟩, 0⟩) rfl 30 (ea ⟨⟨#[]⟩, 0⟩) k7 (sz_ea _) rfl (ea_one _) ?_); intro w8 k8 g8 s8; have HB := bl_then HB (below_grown b7 b7.size g8 (Nat.le_refl _))))
                refine (hA.out _).mono ?_
                rintro r wk ⟨rfl, bk⟩
                have HB := bl_then HB bk
                go_wp2_with fail
                go_ret
                exact ⟨rfl, bl_then BB HB⟩
theorem walk (a0 : Option Addr) (len cap : Nat) (z : List Int) (s : ByteArray) (w : World) (w0 : IsRow .u8 w a0 len cap z) (y0 : len * 1 ≤ 140737488351232) (hs : s.size ≤ 140737488351232) :
    Calls Tryd.prog 5 #[.slice a0 len cap, .string s] w fun e w' => e = .returned (.bool true) ∧ Below w.heap.size w w' := by
  obtain ⟨hr, _, _, hw⟩ := Rd.of_row w0
  exact main a0 len cap _ s w hr (fun x hx => wf_u8_range (hw x hx))
end Go.Proofs.YthihpejhhimkaaaDoor.DirGets
