/- Contract of package abort's Turn. -/
import Derived.Test.YtcomgmgmpmjnkaaAbort3
set_option linter.unusedVariables false
namespace Go.Proofs.Ytcomgmgmpmjnkaa.Abort4
open Go.RowKit Go.Proofs.Ytcomgmgmpmjnkaa.Base Go.Proofs.Ytcomgmgmpmjnkaa.Row Go.Proofs.Ytcomgmgmpmjnkaa.App Go.Proofs.Ytcomgmgmpmjnkaa.Multi Go.Proofs.Ytcomgmgmpmjnkaa.AbortMath Go.Proofs.Ytcomgmgmpmjnkaa.Abort Go.Proofs.Ytcomgmgmpmjnkaa.Abort2 Go.Proofs.Ytcomgmgmpmjnkaa.Abort3

theorem grown_own {w3 w4 w5 : World} {row ob : Option Nat} (h : w3.grownBy w4 row) (g : w4.grownBy w5 ob) (hb : ∀ k, ob = some k → w3.heap.size ≤ k) : w3.grownBy w5 row :=
  ⟨g.os.trans h.os, g.tape.trans h.tape, g.output.trans h.output, Nat.le_trans h.size g.size, fun k hk hne => (g.block k (Nat.lt_of_lt_of_le hk h.size) (fun e => by have := hb k e.symm; omega)).trans (h.block k hk hne)⟩
theorem grown_alloc {w3 w4 : World} {row : Option Nat} (h : w3.grownBy w4 row) (o : Obj) : w3.grownBy (w4.alloc o) row := grown_own h (grown_of_below (bl_alloc (bl_refl w4) o) none) (fun k hk => by cases hk)
theorem size_wants : (Try.prog.info? 65).map (·.size) = some 1 := by kernel_rfl
theorem lt0 (A : Option Addr) (n c : Nat) : 0 < (lv A n c).size := Nat.zero_lt_succ 0
def TurnPost (l : List Wt) (w w' : World) (r : Ending) : Prop := (∃ A1 c1 A2 c2, r = .returned (.tuple #[.agg (lv A1 (outs l).length c1), .slice A2 (dues l).length c2]) ∧ IsL w' A1 (outs l).length c1 (outs l) ∧ IsL w' A2 (dues l).length c2 (dues l)) ∧ Below w.heap.size w w'

set_option maxRecDepth 100000 in
set_option maxHeartbeats 4000000 in
theorem turn_c (A : Option Addr) (n c : Nat) (l : List Wt) (w : World) (hl : IsL w A n c l) (hn : n ≤ 64) (hfit : Fit l) :
    Calls Try.prog 28 #[.agg (lv A n c)] w fun r w' => TurnPost l w w' r := by
  have hlen := Lib.hid hl.1.len
  have hf := Lib.hid hfit.2
  clear hfit
  go_enter Try.func28, Try.ntmps28
  go_wp2_with (first
    | ((with_reducible refine wl_box rfl 67 _ rfl (lv A n c) rfl ?_); intro w1 k1 b1 s1; have f0 := k1.cellv 0 (.slice A n c) rfl)
    | (have _z := k2; (with_reducible refine wl_alloc rfl 67 rfl (lv none 0 0) new_l ?_); intro w3 k3 b3 s3; have f0 := bl_cell b3 f0)
    | ((with_reducible refine wl_alloc rfl 67 rfl (lv none 0 0) new_l ?_); intro w2 k2 b2 s2; have f0 := bl_cell b2 f0))
  have K2 := Lib.hid (k2.below b3)
  have B3 := bl_then (bl_then b1 b2) b3
  have z1 := b1.size
  have z2 := b2.size
  have z3 := b3.size
  clear k1 k2 f0
  go_loopw [5, 11] (fun d i wr => ∃ (k : Nat) (A1 : Option Addr) (c1 m1 : Nat) (A2 : Option Addr) (c2 m2 : Nat), k ≤ n ∧ m1 = (outs (l.take k)).length ∧ m2 = (dues (l.take k)).length ∧ i = .int .i64 k ∧ d = .slice A2 m2 c2 ∧ Blk wr w2.heap.size 67 (lv A1 m1 c1) ∧ wr.ownsRow w3.heap.size 73 4 (.slice A1 m1 c1) m1 ((outs (l.take k)).flatMap wv) ∧ wr.ownsRow w3.heap.size 73 4 (.slice A2 m2 c2) m2 ((dues (l.take k)).flatMap wv) ∧ Apt (.slice A1 m1 c1) (.slice A2 m2 c2) ∧ w3.grownBy wr (some w2.heap.size)) (fun _ i _ => n - (intOf i).toNat)
  case atStart => exact ⟨0, none, 0, 0, none, 0, 0, by omega, by simp [outs], by simp [dues], rfl, rfl, k3, own_nil _ _ _ _, own_nil _ _ _ _, apt_nil _, World.grownBy.refl _ _⟩
  case round =>
    clear k3
    obtain ⟨k, A1, c1, m1, A2, c2, m2, hk, hm1, hm2, rfl, rfl, KO, HO1, HO2, HD, HG⟩ := hrel
    obtain ⟨wo, rfl⟩ : ∃ wo : World, wo = wr := ⟨_, rfl⟩
    have HB := below_grown B3 B3.size HG (by omega)
    have sz := HG.size
    have o0 := KO.cellv 0 (.slice A1 m1 c1) rfl
    by_cases hlt : k < n
    · have hq : decide ((k : Int) < (n : Int)) = true := by simp; omega
      obtain ⟨g, o, x, rfl, hx, hcells⟩ := (hl.1.below HB).at_ k hlt
      obtain ⟨d0, d1, d2, d3⟩ := range4 hcells
      have hxm := may_l (hf.out x (List.mem_of_getElem? hx))
      have hl1 : 1 ≤ x.l := hxm.2.2.2.2.2.2.1
      have hl2 : x.l ≤ 100 := hxm.2.2.2.2.2.2.2
      have hos := Lib.hid (outs_succ hx)
      have hds := Lib.hid (dues_succ hx)
      have hol := Lib.hid (outs_le l k)
      have hdl := Lib.hid (dues_le l k)
      replace hm1 := Lib.hid hm1
      replace hm2 := Lib.hid hm2
      clear hcells hx hxm
      obtain ⟨xe, xk, xn, xl⟩ := x
      simp only at d0 d1 d2 d3 hl1 hl2 hos hds
      have e1 : wrap64 (xl - 1) = xl - 1 := by unfold wrap64; omega
      by_cases hx1 : xl = 1
      · have hq2 : (xl - 1 == 0) = true := by simp; omega
        rw [if_pos hx1] at hos hds
        clear hx1
        have HW := Lib.hid HG
        go_wp2_with (at_builtin; refine app_one_at (w0 := wo) (f := wv) w3.heap.size 4 32 wv_len wv_one (.agg (wa ⟨0, 0, 0, 0⟩)) rfl _ _ 65 73 rfl Try.underlying65 info_want rfl (by decide) (by decide) (.slice A2 m2 c2) m2 (dues (l.take k)) rfl (HO2.alloc _) (⟨xe, xk, xn, xl - 1⟩ : Wt) _ rfl (wo.heap.size + 1) (by simp) rfl ?d1 ?d2 ?d3 ?_)
        case d1 => have := hdl.out; have := hm2.out; omega
        case d2 => exact (Below.refl _ _).alloc sz _
        case d3 => simp; omega
        intro A5 c5 w5 HO5 _ s5 G5 hap
        have HD5 := hap _ _ _ _ _ _ (HO1.alloc _) HD.symm
        have HO6 := own_apt (HO1.alloc _) HD.symm G5
        have K5 := (KO.alloc _).grown G5 (fun e => by have := own_base HO2 _ e.symm; omega)
        have HG5 := grown_own (grown_alloc HW.out _) G5 (own_base HO2)
        clear hap
        go_wp2
        go_roundw
        case rel => exact ⟨k + 1, A1, c1, m1, A5, c5, m2 + 1, by omega, by rw [hos.out, List.append_nil]; exact hm1.out, by rw [hds.out, List.length_append, ← hm2.out]; rfl, by go_num, rfl, K5, by rw [hos.out, List.append_nil]; exact HO6, by rw [hds.out, List.flatMap_append, List.flatMap_singleton]; exact HO5, HD5.symm, HG5⟩
        case measure => first | (simp [intOf]; done) | (simp [intOf]; omega)
      · have hq2 : (xl - 1 == 0) = false := by simp; omega
        rw [if_neg hx1] at hos hds
        clear hx1
        have o1 := bl_cell (bl_alloc (bl_refl wo) (.cells #[.int .i64 xe, .int .i64 xk, .int .i64 xn, .int .i64 (xl - 1)] 73)) o0
        have HW := Lib.hid HG
        go_wp2_with (at_builtin; refine app_one_at (w0 := wo) (f := wv) w3.heap.size 4 32 wv_len wv_one (.agg (wa ⟨0, 0, 0, 0⟩)) rfl _ _ 65 73 rfl Try.underlying65 info_want rfl (by decide) (by decide) (.slice A1 m1 c1) m1 (outs (l.take k)) rfl (HO1.alloc _) (⟨xe, xk, xn, xl - 1⟩ : Wt) _ rfl (wo.heap.size + 1) (by simp) rfl ?d1 ?d2 ?d3 ?_)
        case d1 => have := hol.out; have := hm1.out; omega
        case d2 => exact (Below.refl _ _).alloc sz _
        case d3 => simp; omega
        intro A5 c5 w5 HO5 _ s5 G5 hap
        have HD5 := hap _ _ _ _ _ _ (HO2.alloc _) HD
        have HO6 := own_apt (HO2.alloc _) HD G5
        have K5 := (KO.alloc _).grown G5 (fun e => by have := own_base HO1 _ e.symm; omega)
        have HG5 := grown_own (grown_alloc HW.out _) G5 (own_base HO1)
        clear hap
        go_wp2_with ((with_reducible refine wl_set rfl 65 _ _ rfl w2.heap.size 0 rfl (.slice A5 (m1 + 1) c5) rfl rfl 67 (lv A1 m1 c1) K5 size_wants (lt0 A1 m1 c1) ?_); intro w6 K6' G6 s6; have K6 : Blk w6 w2.heap.size 67 (lv A5 (m1 + 1) c5) := K6')
        have HO7 := own_kept HO5 G6 (by omega)
        have HO8 := own_kept HO6 G6 (by omega)
        have HG6 := World.grownBy.trans HG5 G6
        go_roundw
        case rel => exact ⟨k + 1, A5, c5, m1 + 1, A2, c2, m2, by omega, by rw [hos.out, List.length_append, ← hm1.out]; rfl, by rw [hds.out, List.append_nil]; exact hm2.out, by go_num, rfl, K6, by rw [hos.out, List.flatMap_append, List.flatMap_singleton]; exact HO7, by rw [hds.out, List.append_nil]; exact HO8, HD5, HG6⟩
        case measure => first | (simp [intOf]; done) | (simp [intOf]; omega)
    · obtain rfl : k = n := by omega
      have hq : decide ((k : Int) < (k : Int)) = false := by simp
      rw [List.take_of_length_le (by rw [hlen.out]; omega)] at HO1 HO2 hm1 hm2
      subst hm1 hm2
      have K2' := K2.out.grown HG (fun e => by injection e with e; omega)
      go_wp2_with (first
        | (with_reducible refine wl_load rfl 67 _ rfl w2.heap.size rfl 67 (lv A1 (outs l).length c1) _ KO Try.underlying67 rfl (lv_size _ _ _) ?_)
        | ((with_reducible refine wl_store rfl 67 _ _ rfl w1.heap.size rfl (lv A1 (outs l).length c1) rfl 67 (lv none 0 0) K2' (lv_size _ _ _) rfl (lv_one _ _ _) ?_); intro w5 K5 G5 s5))
      refine bodyPost_ret (res_cell_tmp rfl _ _ _ w1.heap.size 67 (lv A1 (outs l).length c1) _ rfl K5 Try.underlying67 rfl (lv_size _ _ _)) rfl ⟨⟨A1, c1, A2, c2, rfl, IsL.own (own_kept HO1 G5 (by omega)), IsL.own (own_kept HO2 G5 (by omega))⟩, below_grown HB HB.size G5 (by omega)⟩
end Go.Proofs.Ytcomgmgmpmjnkaa.Abort4
