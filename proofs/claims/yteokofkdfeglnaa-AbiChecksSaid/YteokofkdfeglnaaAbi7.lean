/- Contracts of package abi's reference: which calls may be. -/
import Derived.Test.YteokofkdfeglnaaAbi6
import Derived.StillTailTactics
set_option linter.unusedVariables false
namespace Go.Proofs.Yteokofkdfeglnaa.Abi7
open Go.RowKit Go.Proofs.Yteokofkdfeglnaa.Base Go.Proofs.Yteokofkdfeglnaa.Row Go.Proofs.Yteokofkdfeglnaa.App Go.Proofs.Yteokofkdfeglnaa.Multi Go.Proofs.Yteokofkdfeglnaa.Abi Go.Proofs.Yteokofkdfeglnaa.Abi2 Go.Proofs.Yteokofkdfeglnaa.Abi3 Go.Proofs.Yteokofkdfeglnaa.Abi4 Go.Proofs.Yteokofkdfeglnaa.StEq Go.Proofs.Yteokofkdfeglnaa.Abi5 Go.Proofs.Yteokofkdfeglnaa.Abi6

set_option maxRecDepth 100000 in
set_option maxHeartbeats 3000000 in
theorem right_c (op n0 n1 n2 n3 : Int) (ws rs : List Int) (pc : Int) (hw : ws.length = 16) (hr : rs.length = 16) (w : World) :
    Calls Try.prog 10 #[.agg (ca op n0 n1 n2 n3 ws rs pc)] w fun r w' => r = .returned (.bool (okc (F op) op n0 n1 n2 n3 ws rs pc)) ∧ Below w.heap.size w w' := by
  have hF := Lib.hid (fun w => rform_c op w)
  have hM := Lib.hid (fun c n hc w => fits_c c n hc w)
  have hLt := Lib.hid (fun h k hk => F_letters op h k hk)
  have hWq := Lib.hid (fun w => eq_ws ws hw w)
  have hCq := Lib.hid (fun w => eq_cxT rs z16 pc 0 hr rfl w)
  replace hw := Lib.hid hw
  replace hr := Lib.hid hr
  generalize F op = s at *
  have k1 := Blk.new w 29 (ca op n0 n1 n2 n3 ws rs pc)
  have b1 := bl_alloc (bl_refl w) (.cells (ca op n0 n1 n2 n3 ws rs pc) 29)
  cases hK : Kn s with
  | false =>
    have q : (s.toList == [45]) = true := by simpa [Kn] using hK
    have he := Lib.hid (okc_kn (op := op) (n0 := n0) (n1 := n1) (n2 := n2) (n3 := n3) (ws := ws) (rs := rs) (pc := pc) hK)
    rw [he.out]
    clear hK k1 b1
    go_enter Try.func10, Try.ntmps10
    go_wp2_with ((with_reducible refine wl_box rfl 29 _ rfl (ca op n0 n1 n2 n3 ws rs pc) rfl ?_); intro w1 k1 b1 s1; have f0 := k1.cellv 0 (.int .i64 op) rfl; have f1 := k1.cellv 1 (.int .i64 n0) rfl; have f2 := k1.cellv 2 (.int .i64 n1) rfl; have f3 := k1.cellv 3 (.int .i64 n2) rfl; have f4 := k1.cellv 4 (.int .i64 n3) rfl)
    refine (hF.out _).mono ?_
    rintro r w2 ⟨rfl, b2⟩
    go_wp2_with fail
    go_ret
    exact ⟨rfl, bl_then b1 b2⟩
  | true =>
    have q : (s.toList == [45]) = false := by simpa [Kn] using hK
    have hbd := Lib.hid (fun k (hk : k < 4) h => okc_bad (s := s) (op := op) (n0 := n0) (n1 := n1) (n2 := n2) (n3 := n3) (ws := ws) (rs := rs) (pc := pc) (k := k) hk h)
    have hen := Lib.hid (fun h => okc_tail (s := s) (op := op) (n0 := n0) (n1 := n1) (n2 := n2) (n3 := n3) (ws := ws) (rs := rs) (pc := pc) hK h)
    replace hLt := Lib.hid (hLt.out hK)
    clear hK k1 b1
    go_enter Try.func10, Try.ntmps10
    go_wp2_with ((with_reducible refine wl_box rfl 29 _ rfl (ca op n0 n1 n2 n3 ws rs pc) rfl ?_); intro w1 k1 b1 s1; have f0 := k1.cellv 0 (.int .i64 op) rfl; have f1 := k1.cellv 1 (.int .i64 n0) rfl; have f2 := k1.cellv 2 (.int .i64 n1) rfl; have f3 := k1.cellv 3 (.int .i64 n2) rfl; have f4 := k1.cellv 4 (.int .i64 n3) rfl)
    refine (hF.out _).mono ?_
    rintro r w2 ⟨rfl, b2⟩
    have B := bl_then b1 b2
    replace k1 := k1.below b2
    replace f0 := k1.cellv 0 (.int .i64 op) rfl
    replace f1 := k1.cellv 1 (.int .i64 n0) rfl
    replace f2 := k1.cellv 2 (.int .i64 n1) rfl
    replace f3 := k1.cellv 3 (.int .i64 n2) rfl
    replace f4 := k1.cellv 4 (.int .i64 n3) rfl
    clear b2
    clear b1 hF
    go_wp2_with fail
    go_loopw [4] (fun i wr => ∃ k : Nat, k ≤ 4 ∧ i = .int .i64 k ∧ Below w2.heap.size w2 wr ∧ ∀ j, j < k → badn s j (nth n0 n1 n2 n3 j) = false) (fun i _ => 4 - (intOf i).toNat)
    case atStart => exact ⟨0, by omega, rfl, bl_refl _, fun j hj => absurd hj (by omega)⟩
    case round =>
      obtain ⟨k, hk, rfl, HB, hpre⟩ := hrel
      obtain ⟨wo, rfl⟩ : ∃ wo : World, wo = wr := ⟨_, rfl⟩
      replace k1 := k1.below HB
      replace B := bl_then B HB
      replace f0 := k1.cellv 0 (.int .i64 op) rfl
      replace f1 := k1.cellv 1 (.int .i64 n0) rfl
      replace f2 := k1.cellv 2 (.int .i64 n1) rfl
      replace f3 := k1.cellv 3 (.int .i64 n2) rfl
      replace f4 := k1.cellv 4 (.int .i64 n3) rfl
      by_cases hlt : k < 4
      · have ql : decide ((k : Int) < 4) = true := by simp; omega
        have ql2 : (k : Int) < 4 := by omega
        replace hpre := Lib.hid hpre
        have fk := k1.cellv (1 + k) (.int .i64 (nth n0 n1 n2 n3 k)) (ca_nth op n0 n1 n2 n3 ws rs pc k hlt)
        replace hbd := Lib.hid (hbd.out k hlt)
        have hnx := Lib.hid (fun hb : badn s k (nth n0 n1 n2 n3 k) = false => all_succ hpre.out hb)
        by_cases hs : k < s.size
        · have qa : decide ((s.size : Int) ≤ (k : Int)) = false := by simp; omega
          have qb : decide ((k : Int) < (s.size : Int)) = true := by simp; omega
          have qb2 : (k : Int) < (s.size : Int) := by omega
          have qa3 : decide (s.size ≤ k) = false := by simp; omega
          have qb3 : decide (k < s.size) = true := by simp; omega
          have hbn := Lib.hid (badn_in (n := nth n0 n1 n2 n3 k) hs)
          have hl := hLt.out k hs
          have hd : (s.data[k]?.getD 0) = s[k] := by rw [Array.getElem?_eq_getElem (by exact hs)]; rfl
          rw [hd] at hl
          replace hM := Lib.hid (fun w => hM.out ((s[k].toNat : Nat)) (nth n0 n1 n2 n3 k) hl w)
          rw [ft_bad hl] at hbn
          generalize ft ((s[k].toNat : Nat)) (nth n0 n1 n2 n3 k) = v at *
          clear hd hl
          cases v with
          | false =>
            replace hbd := Lib.hid (hbd.out (by rw [hbn.out]; rfl))
            generalize nth n0 n1 n2 n3 k = n at *
            clear hen hWq hCq hbn hnx hpre f0 f1 f2 f3 f4 hw hr s1 k1
            go_wp2_with fail
            go_quiet (exact Calls.quiet_of_same (flip (hM.out _)))
            go_wp2_with fail
            go_ret
            exact ⟨by rw [hbd.out]; rfl, bl_drewN B _⟩
          | true =>
            have hn := Lib.hid (hnx.out (by rw [hbn.out]; rfl))
            generalize nth n0 n1 n2 n3 k = n at *
            clear hen hWq hCq hbn hnx hpre f0 f1 f2 f3 f4 hw hr s1 k1
            go_wp2_with fail
            go_quiet (exact Calls.quiet_of_same (flip (hM.out _)))
            go_wp2_with fail
            go_roundw
            case rel => exact ⟨k + 1, by omega, by go_num, bl_drewN HB _, hn.out⟩
            case measure => first | (simp [intOf]; done) | (simp [intOf]; omega)
        · have qa : decide ((s.size : Int) ≤ (k : Int)) = true := by simp; omega
          have qb : decide ((k : Int) < (s.size : Int)) = false := by simp; omega
          have qa3 : decide (s.size ≤ k) = true := by simp; omega
          have qb3 : decide (k < s.size) = false := by simp; omega
          have hbn := Lib.hid (badn_out (n := nth n0 n1 n2 n3 k) hs)
          generalize nth n0 n1 n2 n3 k = n at *
          by_cases h1 : n = 0
          · have q1 : (n != 0) = false := by simp [h1]
            have hn := Lib.hid (hnx.out (by rw [hbn.out]; simp [h1]))
            clear h1
            clear hen hWq hCq hbn hnx hpre f0 f1 f2 f3 f4 hw hr s1 k1
            go_wp2_with fail
            go_quiet (fail)
            go_wp2_with fail
            go_roundw
            case rel => exact ⟨k + 1, by omega, by go_num, bl_drewN HB _, hn.out⟩
            case measure => first | (simp [intOf]; done) | (simp [intOf]; omega)
          · have q1 : (n != 0) = true := by simpa using h1
            replace hbd := Lib.hid (hbd.out (by rw [hbn.out]; simpa using h1))
            clear h1
            clear hen hWq hCq hbn hnx hpre f0 f1 f2 f3 f4 hw hr s1 k1
            go_wp2_with fail
            go_quiet (fail)
            go_wp2_with fail
            go_ret
            exact ⟨by rw [hbd.out]; rfl, bl_drewN B _⟩
      · obtain rfl : k = 4 := by omega
        replace hen := hen.out hpre
        unfold opOk cxOk at hen
        clear hpre hbd hM hk hlt
        have hcase : (((op == 4) = true ∧ (op != 4) = false ∧ (op == 17) = false ∧ (op != 17) = true) ∨ ((op == 4) = false ∧ (op == 22) = true ∧ (op != 4) = true ∧ (op != 22) = false ∧ (op == 17) = false ∧ (op != 17) = true)) ∨ ((op == 4) = false ∧ (op == 22) = false ∧ (op != 4) = true ∧ (op != 22) = true ∧ (((op == 17) = true ∧ (op != 17) = false) ∨ ((op == 17) = false ∧ (op != 17) = true))) := by
          by_cases h4 : op = 4
          · subst h4; exact .inl (.inl ⟨rfl, rfl, rfl, rfl⟩)
          · by_cases h22 : op = 22
            · subst h22; exact .inl (.inr ⟨rfl, rfl, rfl, rfl, rfl, rfl⟩)
            · refine .inr ⟨by simpa using h4, by simpa using h22, by simpa using h4, by simpa using h22, ?_⟩
              by_cases h17 : op = 17
              · exact .inl ⟨by simpa using h17, by simp [h17]⟩
              · exact .inr ⟨by simpa using h17, by simpa using h17⟩
        have hq2 := hCq.out wo
        have hq1 := hWq.out wo
        generalize (ws == z16) = v at *
        generalize (rs == z16 && pc == 0) = u at *
        clear hCq hWq
        rcases hcase with (⟨o1, o2, o3, o4⟩ | ⟨o1, o5, o2, o6, o3, o4⟩) | ⟨o1, o5, o2, o6, ⟨o3, o4⟩ | ⟨o3, o4⟩⟩
        · rw [o1, o3] at hen
          clear o1
          replace hen := Lib.hid hen
          cases u <;>
          · go_wp2_with (first | (refine wl_load_mid_on (by rfl) 25 _ (by rfl) w.heap.size 5 (by rfl) 29 (ca op n0 n1 n2 n3 ws rs pc) (nums .u32 ws) _ k1 (ca_ws op n0 n1 n2 n3 ws rs pc) Try.underlying25 rfl (sz_ws ws hw.out) (by exact ⟨_, _, rfl, rfl, rfl⟩) ?_) | (refine wl_build0_on (by rfl) 25 (by rfl) zW zero_ws (by exact ⟨_, _, rfl, rfl, rfl⟩) ?_) | (refine wl_load_mid_on (by rfl) 27 _ (by rfl) w.heap.size 21 (by rfl) 29 (ca op n0 n1 n2 n3 ws rs pc) (cxL rs pc) _ k1 (ca_cx op n0 n1 n2 n3 ws rs pc hw.out) Try.underlying27 rfl (sz_cx rs pc hr.out) (by exact ⟨_, _, rfl, rfl, rfl⟩) ?_) | (refine wl_build0_on (by rfl) 27 (by rfl) (cxL z16 0).toArray zero_cx (by exact ⟨_, _, rfl, rfl, rfl⟩) ?_) | (refine wl_neq_on (by rfl) (by exact ⟨_, _, rfl, rfl, rfl⟩) 25 _ _ _ (by rfl) (nums .u32 ws).toArray zW (by rfl) (by rfl) (by kernel_rfl) _ hq1 ?_) | (refine wl_neq_on (by rfl) (by exact ⟨_, _, rfl, rfl, rfl⟩) 27 _ _ _ (by rfl) (cxL rs pc).toArray (cxL z16 0).toArray (by rfl) (by rfl) (by kernel_rfl) _ hq2 ?_) | (refine wl_eql_on (by rfl) (by exact ⟨_, _, rfl, rfl, rfl⟩) 27 _ _ _ (by rfl) (cxL rs pc).toArray (cxL z16 0).toArray (by rfl) (by rfl) (by kernel_rfl) _ hq2 ?_))
            go_ret
            exact ⟨by rw [hen.out]; rfl, B⟩
        · rw [o1, o5, o3] at hen
          clear o1 o5
          replace hen := Lib.hid hen
          cases u <;>
          · go_wp2_with (first | (refine wl_load_mid_on (by rfl) 25 _ (by rfl) w.heap.size 5 (by rfl) 29 (ca op n0 n1 n2 n3 ws rs pc) (nums .u32 ws) _ k1 (ca_ws op n0 n1 n2 n3 ws rs pc) Try.underlying25 rfl (sz_ws ws hw.out) (by exact ⟨_, _, rfl, rfl, rfl⟩) ?_) | (refine wl_build0_on (by rfl) 25 (by rfl) zW zero_ws (by exact ⟨_, _, rfl, rfl, rfl⟩) ?_) | (refine wl_load_mid_on (by rfl) 27 _ (by rfl) w.heap.size 21 (by rfl) 29 (ca op n0 n1 n2 n3 ws rs pc) (cxL rs pc) _ k1 (ca_cx op n0 n1 n2 n3 ws rs pc hw.out) Try.underlying27 rfl (sz_cx rs pc hr.out) (by exact ⟨_, _, rfl, rfl, rfl⟩) ?_) | (refine wl_build0_on (by rfl) 27 (by rfl) (cxL z16 0).toArray zero_cx (by exact ⟨_, _, rfl, rfl, rfl⟩) ?_) | (refine wl_neq_on (by rfl) (by exact ⟨_, _, rfl, rfl, rfl⟩) 25 _ _ _ (by rfl) (nums .u32 ws).toArray zW (by rfl) (by rfl) (by kernel_rfl) _ hq1 ?_) | (refine wl_neq_on (by rfl) (by exact ⟨_, _, rfl, rfl, rfl⟩) 27 _ _ _ (by rfl) (cxL rs pc).toArray (cxL z16 0).toArray (by rfl) (by rfl) (by kernel_rfl) _ hq2 ?_) | (refine wl_eql_on (by rfl) (by exact ⟨_, _, rfl, rfl, rfl⟩) 27 _ _ _ (by rfl) (cxL rs pc).toArray (cxL z16 0).toArray (by rfl) (by rfl) (by kernel_rfl) _ hq2 ?_))
            go_ret
            exact ⟨by rw [hen.out]; rfl, B⟩
        · rw [o1, o5, o3] at hen
          clear o1 o5
          replace hen := Lib.hid hen
          cases v <;>
          · go_wp2_with (first | (refine wl_load_mid_on (by rfl) 25 _ (by rfl) w.heap.size 5 (by rfl) 29 (ca op n0 n1 n2 n3 ws rs pc) (nums .u32 ws) _ k1 (ca_ws op n0 n1 n2 n3 ws rs pc) Try.underlying25 rfl (sz_ws ws hw.out) (by exact ⟨_, _, rfl, rfl, rfl⟩) ?_) | (refine wl_build0_on (by rfl) 25 (by rfl) zW zero_ws (by exact ⟨_, _, rfl, rfl, rfl⟩) ?_) | (refine wl_load_mid_on (by rfl) 27 _ (by rfl) w.heap.size 21 (by rfl) 29 (ca op n0 n1 n2 n3 ws rs pc) (cxL rs pc) _ k1 (ca_cx op n0 n1 n2 n3 ws rs pc hw.out) Try.underlying27 rfl (sz_cx rs pc hr.out) (by exact ⟨_, _, rfl, rfl, rfl⟩) ?_) | (refine wl_build0_on (by rfl) 27 (by rfl) (cxL z16 0).toArray zero_cx (by exact ⟨_, _, rfl, rfl, rfl⟩) ?_) | (refine wl_neq_on (by rfl) (by exact ⟨_, _, rfl, rfl, rfl⟩) 25 _ _ _ (by rfl) (nums .u32 ws).toArray zW (by rfl) (by rfl) (by kernel_rfl) _ hq1 ?_) | (refine wl_neq_on (by rfl) (by exact ⟨_, _, rfl, rfl, rfl⟩) 27 _ _ _ (by rfl) (cxL rs pc).toArray (cxL z16 0).toArray (by rfl) (by rfl) (by kernel_rfl) _ hq2 ?_) | (refine wl_eql_on (by rfl) (by exact ⟨_, _, rfl, rfl, rfl⟩) 27 _ _ _ (by rfl) (cxL rs pc).toArray (cxL z16 0).toArray (by rfl) (by rfl) (by kernel_rfl) _ hq2 ?_))
            go_ret
            exact ⟨by rw [hen.out]; rfl, B⟩
        · rw [o1, o5, o3] at hen
          clear o1 o5
          replace hen := Lib.hid hen
          cases v <;> cases u <;>
          · go_wp2_with (first | (refine wl_load_mid_on (by rfl) 25 _ (by rfl) w.heap.size 5 (by rfl) 29 (ca op n0 n1 n2 n3 ws rs pc) (nums .u32 ws) _ k1 (ca_ws op n0 n1 n2 n3 ws rs pc) Try.underlying25 rfl (sz_ws ws hw.out) (by exact ⟨_, _, rfl, rfl, rfl⟩) ?_) | (refine wl_build0_on (by rfl) 25 (by rfl) zW zero_ws (by exact ⟨_, _, rfl, rfl, rfl⟩) ?_) | (refine wl_load_mid_on (by rfl) 27 _ (by rfl) w.heap.size 21 (by rfl) 29 (ca op n0 n1 n2 n3 ws rs pc) (cxL rs pc) _ k1 (ca_cx op n0 n1 n2 n3 ws rs pc hw.out) Try.underlying27 rfl (sz_cx rs pc hr.out) (by exact ⟨_, _, rfl, rfl, rfl⟩) ?_) | (refine wl_build0_on (by rfl) 27 (by rfl) (cxL z16 0).toArray zero_cx (by exact ⟨_, _, rfl, rfl, rfl⟩) ?_) | (refine wl_neq_on (by rfl) (by exact ⟨_, _, rfl, rfl, rfl⟩) 25 _ _ _ (by rfl) (nums .u32 ws).toArray zW (by rfl) (by rfl) (by kernel_rfl) _ hq1 ?_) | (refine wl_neq_on (by rfl) (by exact ⟨_, _, rfl, rfl, rfl⟩) 27 _ _ _ (by rfl) (cxL rs pc).toArray (cxL z16 0).toArray (by rfl) (by rfl) (by kernel_rfl) _ hq2 ?_) | (refine wl_eql_on (by rfl) (by exact ⟨_, _, rfl, rfl, rfl⟩) 27 _ _ _ (by rfl) (cxL rs pc).toArray (cxL z16 0).toArray (by rfl) (by rfl) (by kernel_rfl) _ hq2 ?_))
            go_ret
            exact ⟨by rw [hen.out]; rfl, B⟩
end Go.Proofs.Yteokofkdfeglnaa.Abi7
