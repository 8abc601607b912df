/- The law AbiNames. -/
import Derived.Test.YteokofkdfeglnaaAbi4
set_option linter.unusedVariables false
namespace Go.Proofs.Yteokofkdfeglnaa.AbiNames
open Go.RowKit Go.Proofs.Yteokofkdfeglnaa.Base Go.Proofs.Yteokofkdfeglnaa.Row Go.Proofs.Yteokofkdfeglnaa.App Go.Proofs.Yteokofkdfeglnaa.Multi Go.Proofs.Yteokofkdfeglnaa.Abi Go.Proofs.Yteokofkdfeglnaa.Abi2 Go.Proofs.Yteokofkdfeglnaa.Abi3 Go.Proofs.Yteokofkdfeglnaa.Abi4

theorem ow_eq (op : Int) : ow op = (decide (33 ≤ op) && decide (op ≤ 40)) := rfl
set_option maxRecDepth 100000 in
set_option maxHeartbeats 4000000 in
theorem main (op : Int) (w : World) : Calls Try.prog 5 #[.int .i64 op] w fun e w' => e = .returned (.bool true) ∧ Below w.heap.size w w' := by
  have hF := Lib.hid (rform_c op w)
  have hN := Lib.hid (fun w => names_c op w)
  have hO := Lib.hid (fun w => own_c op w)
  have hC := Lib.hid (fun w => changes_c op w)
  have hR := Lib.hid (fun w => rchanges_c op w)
  have hs4 := (F_nice op).1
  generalize F op = s at *
  go_enter Try.func5, Try.ntmps5
  go_wp2_with fail
  refine (hF.out).mono ?_
  rintro r w1 ⟨rfl, B1⟩
  go_wp2_with fail
  clear hF
  go_loopw [4, 5] (fun o i wr => ∃ (k : Nat) (A1 : Option Addr) (c1 m : Nat), k ≤ s.size ∧ m = (nm s k).length ∧ i = .int .i64 k ∧ o = .slice A1 m c1 ∧ wr.ownsRow w.heap.size 39 2 (.slice A1 m c1) m ((nm s k).flatMap nv) ∧ Below w.heap.size w wr) (fun _ i _ => s.size - (intOf i).toNat)
  case atStart => exact ⟨0, none, 0, 0, by omega, by simp [nm], rfl, rfl, own_nil _ _ _ _, B1⟩
  case round =>
    obtain ⟨k, A1, c1, m, hk, hm, rfl, rfl, HO, HB⟩ := hrel
    obtain ⟨wo, rfl⟩ : ∃ wo : World, wo = wr := ⟨_, rfl⟩
    by_cases hlt : k < s.size
    · have hq : decide ((k : Int) < (s.size : Int)) = true := by simp; omega
      have hd : (s.data[k]?.getD 0) = s[k] := by rw [Array.getElem?_eq_getElem (by exact hlt)]; rfl
      have hI0 : ∀ w', Calls Try.prog 15 #[.int .u8 (s[k].toNat : Nat)] w' fun r w'' => r = .returned (.int .i64 (lk (s.data[k]?.getD 0))) ∧ w' = w'' := fun w' => by
        rw [hd]
        exact rkind_c s[k] w'
      have hI := Lib.hid hI0
      clear hI0
      have hml := Lib.hid (nm_le s k)
      replace hm := Lib.hid hm
      by_cases hl : 0 ≤ lk (s.data[k]?.getD 0)
      · have hy := Lib.hid (nm_yes hl)
        have q1 : decide (0 ≤ lk (s.data[k]?.getD 0)) = true := by simpa using hl
        generalize lk (s.data[k]?.getD 0) = v at *
        clear hd
        go_wp2_with fail
        refine (hI.out _).mono ?_
        rintro r w2 ⟨rfl, rfl⟩
        go_wp2_with fail
        refine (hI.out _).mono ?_
        rintro r w2 ⟨rfl, rfl⟩
        go_wp2_with (at_builtin; refine app_onef (w0 := w) (f := nv) w.heap.size 2 16 nv_len nv_one (.agg #[.int .i64 0, .int .i64 0]) rfl _ _ 36 39 rfl Try.underlying36 info_n rfl (by decide) (by decide) (.slice A1 m c1) m (nm s k) rfl HO ((k : Int), v) _ rfl wo.heap.size rfl rfl ?d1 ?d2 ?d3 ?_)
        case d1 => have := hml.out; have := hm.out; omega
        case d2 => exact HB
        case d3 => exact HB.size
        intro A5 c5 w5 HO5 B5 s5 _
        go_wp2_with fail
        go_roundw
        case rel => exact ⟨k + 1, A5, c5, m + 1, by omega, by rw [hy.out, List.length_append, ← hm.out]; rfl, by go_num, rfl, by rw [hy.out, List.flatMap_append, List.flatMap_singleton]; exact HO5, B5⟩
        case measure => first | (simp [intOf]; done) | (simp [intOf]; omega)
      · have hy := Lib.hid (nm_no hl)
        have q1 : decide (0 ≤ lk (s.data[k]?.getD 0)) = false := by simpa using hl
        generalize lk (s.data[k]?.getD 0) = v at *
        clear hd
        go_wp2_with fail
        refine (hI.out _).mono ?_
        rintro r w2 ⟨rfl, rfl⟩
        go_wp2_with fail
        go_roundw
        case rel => exact ⟨k + 1, A1, c1, m, by omega, by rw [hy.out]; exact hm.out, by go_num, rfl, by rw [hy.out]; exact HO, HB⟩
        case measure => first | (simp [intOf]; done) | (simp [intOf]; omega)
    · obtain rfl : k = s.size := by omega
      have hq : decide ((s.size : Int) < (s.size : Int)) = false := by simp
      have hml := nm_le s s.size
      generalize nm s s.size = l at *
      clear hlt hk
      have R1 := RF.of_own nv_len (by omega) HO
      clear HO
      go_wp2_with fail
      refine (hN.out wo).mono ?_
      rintro r w4 ⟨⟨A2, c2, rfl, HO2⟩, b4⟩
      have R2 := RF.of_own nv_len (by omega) HO2
      replace R1 := R1.below b4
      have B4 := bl_then HB b4
      clear HO2 b4 HB hN
      rw [← hm] at R2
      have qn : ((m : Int) != (m : Int)) = false := by simp
      have hmz := Lib.hid (hm ▸ hml : m ≤ s.size)
      rw [← hm]
      clear hm hml
      go_wp2_with fail
      go_loopw [7] (fun i wr => ∃ k : Nat, k ≤ m ∧ i = .int .i64 k ∧ Below w4.heap.size w4 wr) (fun i _ => m - (intOf i).toNat)
      case atStart => exact ⟨0, by omega, rfl, bl_refl _⟩
      case round =>
        obtain ⟨k, hk, rfl, HB⟩ := hrel
        obtain ⟨wo2, rfl⟩ : ∃ wo : World, wo = wr := ⟨_, rfl⟩
        by_cases hlt : k < m
        · have hq : decide ((k : Int) < (m : Int)) = true := by simp; omega
          have hq1 : (k : Int) < (m : Int) := by omega
          have hk9 : k < 4 := by have := hmz.out; omega
          obtain ⟨g1, o1, x, rfl, hx, hc1⟩ := (R1.below HB).at_ k hlt
          obtain ⟨g2, o2, x', rfl, hx', hc2⟩ := (R2.below HB).at_ k hlt
          obtain rfl : x' = x := by
            rw [hx] at hx'
            injection hx' with h
            exact h.symm
          obtain ⟨xa, xk⟩ := x'
          have c0 : wo2.cell? ⟨g1, o1 + k * 2, none⟩ = some (.int .i64 xa) := hc1 0 _ rfl
          have c1 : wo2.cell? ⟨g1, o1 + k * 2 + 1, none⟩ = some (.int .i64 xk) := hc1 1 _ rfl
          have d0 : wo2.cell? ⟨g2, o2 + k * 2, none⟩ = some (.int .i64 xa) := hc2 0 _ rfl
          have d1 : wo2.cell? ⟨g2, o2 + k * 2 + 1, none⟩ = some (.int .i64 xk) := hc2 1 _ rfl
          have HX := bl_drew HB
          clear hx hx' hc1 hc2
          go_wp2_with fail
          go_region
          all_goals (
            go_wp2_with fail
            go_roundw
            case rel => exact ⟨k + 1, by omega, by go_num, HX⟩
            case measure => first | (simp [intOf]; done) | (simp [intOf]; omega))
        · have hq : decide ((k : Int) < (m : Int)) = false := by simp; omega
          have B5 := bl_then B4 HB
          go_wp2_with fail
          refine (hO.out _).mono ?_
          rintro r w5 ⟨rfl, rfl⟩
          rw [ow_eq]
          by_cases h1 : 33 ≤ op
          · have q1 : decide (33 ≤ op) = true := by simpa using h1
            by_cases h2 : op ≤ 40
            · have q2 : decide (op ≤ 40) = true := by simpa using h2
              rw [q1, q2, Bool.true_and]
              generalize chg op = b at *
              go_wp2_with fail
              refine (hC.out _).mono ?_
              rintro r w5 ⟨rfl, rfl⟩
              go_wp2_with fail
              refine (hR.out _).mono ?_
              rintro r w5 ⟨rfl, rfl⟩
              have qb : (b == b) = true := by simp
              go_wp2_with fail
              refine (awake_c _).mono ?_
              rintro r w6 ⟨rfl, b6⟩
              go_wp2_with fail
              go_ret
              exact ⟨rfl, bl_then B5 b6⟩
            · have q2 : decide (op ≤ 40) = false := by simpa using h2
              rw [q1, q2, Bool.true_and]
              generalize chg op = b at *
              go_wp2_with fail
              refine (hC.out _).mono ?_
              rintro r w5 ⟨rfl, rfl⟩
              go_wp2_with fail
              refine (hR.out _).mono ?_
              rintro r w5 ⟨rfl, rfl⟩
              have qb : (b == b) = true := by simp
              go_wp2_with fail
              refine (awake_c _).mono ?_
              rintro r w6 ⟨rfl, b6⟩
              go_wp2_with fail
              go_ret
              exact ⟨rfl, bl_then B5 b6⟩
          · have q1 : decide (33 ≤ op) = false := by simpa using h1
            rw [q1, Bool.false_and]
            generalize chg op = b at *
            go_wp2_with fail
            refine (hC.out _).mono ?_
            rintro r w5 ⟨rfl, rfl⟩
            go_wp2_with fail
            refine (hR.out _).mono ?_
            rintro r w5 ⟨rfl, rfl⟩
            have qb : (b == b) = true := by simp
            go_wp2_with fail
            refine (awake_c _).mono ?_
            rintro r w6 ⟨rfl, b6⟩
            go_wp2_with fail
            go_ret
            exact ⟨rfl, bl_then B5 b6⟩
theorem walk (a0 : Int) (w : World) (w0 : (Lit.int .i64 a0).wf = true) : Calls Try.prog 5 #[.int .i64 a0] w fun e w' => e = .returned (.bool true) ∧ Below w.heap.size w w' := main a0 w
end Go.Proofs.Yteokofkdfeglnaa.AbiNames
