/- Contracts of the reference of package abort: its turn and its asking. -/
import Derived.Test.YtcomgmgmpmjnkaaAbort7
set_option linter.unusedVariables false
namespace Go.Proofs.Ytcomgmgmpmjnkaa.Abort8
open Go.RowKit Go.Proofs.Ytcomgmgmpmjnkaa.Base Go.Proofs.Ytcomgmgmpmjnkaa.Row Go.Proofs.Ytcomgmgmpmjnkaa.App Go.Proofs.Ytcomgmgmpmjnkaa.Multi Go.Proofs.Ytcomgmgmpmjnkaa.AbortMath Go.Proofs.Ytcomgmgmpmjnkaa.Abort Go.Proofs.Ytcomgmgmpmjnkaa.Abort2 Go.Proofs.Ytcomgmgmpmjnkaa.Abort3 Go.Proofs.Ytcomgmgmpmjnkaa.Abort4 Go.Proofs.Ytcomgmgmpmjnkaa.Abort5 Go.Proofs.Ytcomgmgmpmjnkaa.Abort6 Go.Proofs.Ytcomgmgmpmjnkaa.Abort7

def RTurn (l : List Wt) (w w' : World) (r : Ending) : Prop := (∃ A1 c1 A2 c2, r = .returned (.tuple #[.slice A1 (outs l).length c1, .slice A2 (dues l).length c2]) ∧ IsR w' A1 (outs l).length c1 (outs l) ∧ IsR w' A2 (dues l).length c2 (dues l)) ∧ Below w.heap.size w w'
theorem below_own {w wo w5 : World} {B : Nat} {row : Option Nat} (h : Below B w wo) (hB : B ≤ wo.heap.size) (g : wo.grownBy w5 row) (hr : ∀ k, row = some k → B ≤ k) : Below B w w5 := by
  cases row with
  | none => exact below_grown h hB (hg := ⟨g.os, g.tape, g.output, g.size, fun k hk _ => g.block k hk (by simp)⟩) (Nat.le_refl B)
  | some k => exact below_grown h hB g (hr k rfl)
set_option maxRecDepth 100000 in
set_option maxHeartbeats 4000000 in
theorem rturn_c (A : Option Addr) (n c : Nat) (l : List Wt) (w : World) (hl : RF wv 4 w A n l) (hn : n ≤ 64) (hfit : Fit l) :
    Calls Try.prog 34 #[.slice A n c] w fun r w' => RTurn l w w' r := by
  have hlen := Lib.hid hl.len
  have hf := Lib.hid hfit.2
  have hmx := hl.max
  clear hfit
  go_enter Try.func34, Try.ntmps34
  go_wp2_with fail
  go_loopw [4, 5, 6] (fun d1 d2 i wr => ∃ (k : Nat) (A1 : Option Addr) (c1 m1 : Nat) (A2 : Option Addr) (c2 m2 : Nat), k ≤ n ∧ m1 = (outs (l.take k)).length ∧ m2 = (dues (l.take k)).length ∧ i = .int .i64 k ∧ d1 = .slice A1 m1 c1 ∧ d2 = .slice A2 m2 c2 ∧ wr.ownsRow w.heap.size 64 4 (.slice A1 m1 c1) m1 ((outs (l.take k)).flatMap wv) ∧ wr.ownsRow w.heap.size 64 4 (.slice A2 m2 c2) m2 ((dues (l.take k)).flatMap wv) ∧ Apt (.slice A1 m1 c1) (.slice A2 m2 c2) ∧ Below w.heap.size w wr) (fun _ _ i _ => n - (intOf i).toNat)
  case atStart => exact ⟨0, none, 0, 0, none, 0, 0, by omega, by simp [outs], by simp [dues], rfl, rfl, rfl, own_nil _ _ _ _, own_nil _ _ _ _, apt_nil _, bl_refl _⟩
  case round =>
    obtain ⟨k, A1, c1, m1, A2, c2, m2, hk, hm1, hm2, rfl, rfl, rfl, HO1, HO2, HD, HB⟩ := hrel
    obtain ⟨wo, rfl⟩ : ∃ wo : World, wo = wr := ⟨_, rfl⟩
    have sz := HB.size
    by_cases hlt : k < n
    · have hq : decide ((k : Int) < (n : Int)) = true := by simp; omega
      obtain ⟨g, o, x, rfl, hx, hcells⟩ := (hl.below HB).at_ k hlt
      obtain ⟨d0, d1, d2, d3⟩ := range4 hcells
      have hxm := may_l (hf.out x (List.mem_of_getElem? hx))
      have hl1 : 1 ≤ x.l := hxm.2.2.2.2.2.2.1
      have hl2 : x.l ≤ 100 := hxm.2.2.2.2.2.2.2
      have hos := Lib.hid (outs_succ hx)
      have hds := Lib.hid (dues_succ hx)
      have hol := Lib.hid (outs_le l k)
      have hdl := Lib.hid (dues_le l k)
      replace hm1 := Lib.hid hm1
      replace hm2 := Lib.hid hm2
      clear hcells hx hxm
      obtain ⟨xe, xk, xn, xl⟩ := x
      simp only at d0 d1 d2 d3 hl1 hl2 hos hds
      have e1 : wrap64 (xl - 1) = xl - 1 := by unfold wrap64; omega
      by_cases hx1 : xl = 1
      · have hq2 : decide (xl - 1 < 1) = true := by simp; omega
        rw [if_pos hx1] at hos hds
        clear hx1
        go_wp2_with (at_builtin; refine app_one_at (w0 := wo) (f := wv) w.heap.size 4 32 wv_len wv_one (.agg (wa ⟨0, 0, 0, 0⟩)) rfl _ _ 80 64 rfl Try.underlying80 info_rwant rfl (by decide) (by decide) (.slice A2 m2 c2) m2 (dues (l.take k)) rfl (HO2.alloc _) (⟨xe, xk, xn, xl - 1⟩ : Wt) _ rfl (wo.heap.size + 1) (by simp) rfl ?d1 ?d2 ?d3 ?_)
        case d1 => have := hdl.out; have := hm2.out; omega
        case d2 => exact (Below.refl _ _).alloc sz _
        case d3 => simp; omega
        intro A5 c5 w5 HO5 _ s5 G5 hap
        have HD5 := hap _ _ _ _ _ _ (HO1.alloc _) HD.symm
        have HO6 := own_apt (HO1.alloc _) HD.symm G5
        have HB5 := below_own (HB.alloc sz _) (by simp; omega) G5 (own_base HO2)
        clear hap
        go_wp2
        go_roundw
        case rel => exact ⟨k + 1, A1, c1, m1, A5, c5, m2 + 1, by omega, by rw [hos.out, List.append_nil]; exact hm1.out, by rw [hds.out, List.length_append, ← hm2.out]; rfl, by go_num, rfl, rfl, by rw [hos.out, List.append_nil]; exact HO6, by rw [hds.out, List.flatMap_append, List.flatMap_singleton]; exact HO5, HD5.symm, HB5⟩
        case measure => first | (simp [intOf]; done) | (simp [intOf]; omega)
      · have hq2 : decide (xl - 1 < 1) = false := by simp; omega
        rw [if_neg hx1] at hos hds
        clear hx1
        go_wp2_with (at_builtin; refine app_one_at (w0 := wo) (f := wv) w.heap.size 4 32 wv_len wv_one (.agg (wa ⟨0, 0, 0, 0⟩)) rfl _ _ 80 64 rfl Try.underlying80 info_rwant rfl (by decide) (by decide) (.slice A1 m1 c1) m1 (outs (l.take k)) rfl (HO1.alloc _) (⟨xe, xk, xn, xl - 1⟩ : Wt) _ rfl (wo.heap.size + 1) (by simp) rfl ?d1 ?d2 ?d3 ?_)
        case d1 => have := hol.out; have := hm1.out; omega
        case d2 => exact (Below.refl _ _).alloc sz _
        case d3 => simp; omega
        intro A5 c5 w5 HO5 _ s5 G5 hap
        have HD5 := hap _ _ _ _ _ _ (HO2.alloc _) HD
        have HO6 := own_apt (HO2.alloc _) HD G5
        have HB5 := below_own (HB.alloc sz _) (by simp; omega) G5 (own_base HO1)
        clear hap
        go_wp2
        go_roundw
        case rel => exact ⟨k + 1, A5, c5, m1 + 1, A2, c2, m2, by omega, by rw [hos.out, List.length_append, ← hm1.out]; rfl, by rw [hds.out, List.append_nil]; exact hm2.out, by go_num, rfl, rfl, by rw [hos.out, List.flatMap_append, List.flatMap_singleton]; exact HO5, by rw [hds.out, List.append_nil]; exact HO6, HD5, HB5⟩
        case measure => first | (simp [intOf]; done) | (simp [intOf]; omega)
    · obtain rfl : k = n := by omega
      have hq : decide ((k : Int) < (k : Int)) = false := by simp
      rw [List.take_of_length_le (by rw [hlen.out]; omega)] at HO1 HO2 hm1 hm2
      subst hm1 hm2
      go_wp2_with fail
      go_ret2
      exact ⟨⟨A1, c1, A2, c2, rfl, IsR.own HO1, IsR.own HO2⟩, HB⟩

def RAsk (l : List Wt) (x : Wt) (w w' : World) (r : Ending) : Prop := (∃ A1 n1 c1, r = .returned (.tuple #[.slice A1 n1 c1, .int .i64 (pask l x).1]) ∧ IsR w' A1 n1 c1 (pask l x).2) ∧ Below w.heap.size w w'
set_option maxRecDepth 100000 in
set_option maxHeartbeats 4000000 in
theorem rask_c (A : Option Addr) (n c : Nat) (l : List Wt) (x : Wt) (w : World) (hl : IsR w A n c l) (hn : n ≤ 64) :
    Calls Try.prog 30 #[.slice A n c, .agg (wa x)] w fun r w' => RAsk l x w w' r := by
  have hM := Lib.hid (fun w => right_c x w)
  have hH := Lib.hid (fun w' (h : RF wv 4 w' A n l) => has_c A n c l x.e x.k x.n w' h)
  have hll := Lib.hid hl
  have hlen := Lib.hid hl.1.len
  clear hl
  cases hm : may x with
  | false =>
    have hr := Lib.hid (ask_eq1 (l := l) hm)
    rw [hm] at hM
    clear hm
    go_enter Try.func30, Try.ntmps30
    go_wp2_with (first
      | ((with_reducible refine wl_box rfl 64 _ rfl (wa x) rfl ?_); intro w1 k1 b1 s1)
      | (refine wl_load rfl 64 _ rfl w.heap.size rfl 64 (wa x) _ k1 Try.underlying64 rfl (by kernel_rfl) ?_))
    refine (hM.out _).mono ?_
    rintro r w4 ⟨rfl, b4⟩
    have B4 := bl_then b1 b4
    go_wp2
    go_ret2
    refine ⟨⟨A, n, c, ?_, ?_⟩, B4⟩
    · rw [hr.out]; rfl
    · rw [hr.out]; exact hll.out.below B4
  | true =>
    rw [hm] at hM
    have hm' := Lib.hid hm
    clear hm
    cases hh : has l x.e x.k x.n with
    | true =>
      have hr := Lib.hid (ask_eq4 hm'.out hh)
      rw [hh] at hH
      clear hh
      go_enter Try.func30, Try.ntmps30
      go_wp2_with (first
        | ((with_reducible refine wl_box rfl 64 _ rfl (wa x) rfl ?_); intro w1 k1 b1 s1)
        | (refine wl_load rfl 64 _ rfl w.heap.size rfl 64 (wa x) _ k1 Try.underlying64 rfl (by kernel_rfl) ?_))
      refine (hM.out _).mono ?_
      rintro r w4 ⟨rfl, b4⟩
      have K1 := k1.below b4
      have B4 := bl_then b1 b4
      have e0 := K1.cellv 0 (.int .i64 x.e) rfl
      have e1 := K1.cellv 1 (.int .i64 x.k) rfl
      have e2 := K1.cellv 2 (.int .i64 x.n) rfl
      clear k1
      go_wp2_with fail
      refine (hH.out _ (hll.out.1.below B4)).mono ?_
      rintro r w5 ⟨rfl, rfl⟩
      go_wp2
      go_ret2
      refine ⟨⟨A, n, c, ?_, ?_⟩, B4⟩
      · rw [hr.out]; rfl
      · rw [hr.out]; exact hll.out.below B4
    | false =>
      have hh' := Lib.hid hh
      rw [hh] at hH
      clear hh
      by_cases h64 : n = 64
      · have hr := Lib.hid (ask_eq7 hm'.out hh'.out (by rw [hlen.out]; exact h64))
        have q2 : decide ((64 : Int) ≤ (n : Int)) = true := by simp; omega
        have q3 : decide (64 ≤ n) = true := by simp; omega
        clear h64
        go_enter Try.func30, Try.ntmps30
        go_wp2_with (first
          | ((with_reducible refine wl_box rfl 64 _ rfl (wa x) rfl ?_); intro w1 k1 b1 s1)
          | (refine wl_load rfl 64 _ rfl w.heap.size rfl 64 (wa x) _ k1 Try.underlying64 rfl (by kernel_rfl) ?_))
        refine (hM.out _).mono ?_
        rintro r w4 ⟨rfl, b4⟩
        have K1 := k1.below b4
        have B4 := bl_then b1 b4
        have e0 := K1.cellv 0 (.int .i64 x.e) rfl
        have e1 := K1.cellv 1 (.int .i64 x.k) rfl
        have e2 := K1.cellv 2 (.int .i64 x.n) rfl
        clear k1
        go_wp2_with fail
        refine (hH.out _ (hll.out.1.below B4)).mono ?_
        rintro r w5 ⟨rfl, rfl⟩
        go_wp2
        go_ret2
        refine ⟨⟨A, n, c, ?_, ?_⟩, B4⟩
        · rw [hr.out]; rfl
        · rw [hr.out]; exact hll.out.below B4
      · have hr := Lib.hid (ask_eq0 hm'.out hh'.out (by rw [hlen.out]; exact h64))
        have q2 : decide ((64 : Int) ≤ (n : Int)) = false := by simp; omega
        have q3 : decide (64 ≤ n) = false := by simp; omega
        have hn' := Lib.hid hn
        go_enter Try.func30, Try.ntmps30
        go_wp2_with (first
          | ((with_reducible refine wl_box rfl 64 _ rfl (wa x) rfl ?_); intro w1 k1 b1 s1)
          | (refine wl_load rfl 64 _ rfl w.heap.size rfl 64 (wa x) _ k1 Try.underlying64 rfl (by kernel_rfl) ?_))
        refine (hM.out _).mono ?_
        rintro r w4 ⟨rfl, b4⟩
        have K1 := k1.below b4
        have B4 := bl_then b1 b4
        have z1 := b1.size
        have z4 := b4.size
        have e0 := K1.cellv 0 (.int .i64 x.e) rfl
        have e1 := K1.cellv 1 (.int .i64 x.k) rfl
        have e2 := K1.cellv 2 (.int .i64 x.n) rfl
        clear k1
        go_wp2_with fail
        refine (hH.out _ (hll.out.1.below B4)).mono ?_
        rintro r w5 ⟨rfl, rfl⟩
        have hr0 := hll.out.1.below B4
        go_wp2_with (at_builtin; refine app_rf (w0 := w4) (f := wv) w4.heap.size 4 32 wv_len wv_one (.agg (wa ⟨0, 0, 0, 0⟩)) rfl _ _ 80 64 rfl Try.underlying80 info_rwant rfl (by decide) (by decide) (.slice none 0 0) 0 [] rfl (own_nil _ _ _ _) A n c l rfl hr0 hll.out.2.1 ?d1 (bl_refl _) ?d3 ?_)
        case d1 => have := hn'.out; omega
        case d3 => omega
        intro A5 c5 w5 HO5 B5 s5 _
        have K5 := K1.below B5
        try rw [List.nil_append] at HO5
        try simp only [Nat.zero_add]
        have g0 := K5.cellv 0 (.int .i64 x.e) rfl
        have g1 := K5.cellv 1 (.int .i64 x.k) rfl
        have g2 := K5.cellv 2 (.int .i64 x.n) rfl
        have g3 := K5.cellv 3 (.int .i64 x.l) rfl
        clear K1 K5 e0 e1 e2
        go_wp2_with (first
          | (at_builtin; refine app_onef (w0 := w4) (f := wv) w4.heap.size 4 32 wv_len wv_one (.agg (wa ⟨0, 0, 0, 0⟩)) rfl _ _ 80 64 rfl Try.underlying80 info_rwant rfl (by decide) (by decide) (.slice A5 n c5) n l rfl HO5 x _ rfl w5.heap.size rfl rfl ?d4 ?d5 ?d6 ?_))
        case d4 => have := hn'.out; omega
        case d5 => exact B5
        case d6 => exact s5
        intro A6 c6 w6 HO6 B6 s6 _
        go_wp2_with fail
        go_ret2
        refine ⟨⟨A6, n + 1, c6, ?_, ?_⟩, bl_then B4 B6⟩
        · rw [hr.out]; rfl
        · rw [hr.out]; show IsR w6 A6 (n + 1) c6 (l ++ [x]); exact IsR.own (by rw [List.flatMap_append, List.flatMap_singleton]; exact HO6)
end Go.Proofs.Ytcomgmgmpmjnkaa.Abort8
