/- Contracts of package abi and its reference: which calls may be. -/
import Derived.Test.YteokofkdfeglnaaAbi5
set_option linter.unusedVariables false
namespace Go.Proofs.Yteokofkdfeglnaa.Abi6
open Go.RowKit Go.Proofs.Yteokofkdfeglnaa.Base Go.Proofs.Yteokofkdfeglnaa.Row Go.Proofs.Yteokofkdfeglnaa.App Go.Proofs.Yteokofkdfeglnaa.Multi Go.Proofs.Yteokofkdfeglnaa.Abi Go.Proofs.Yteokofkdfeglnaa.Abi2 Go.Proofs.Yteokofkdfeglnaa.Abi3 Go.Proofs.Yteokofkdfeglnaa.Abi4 Go.Proofs.Yteokofkdfeglnaa.StEq Go.Proofs.Yteokofkdfeglnaa.Abi5

theorem flip {P : Program} {f : FuncId} {args : Array Value} {w : World} {v : Value} (h : Calls P f args w fun e w' => e = .returned v ∧ w = w') : Calls P f args w fun e w' => e = .returned v ∧ w' = w :=
  h.mono fun _ _ ⟨h1, h2⟩ => ⟨h1, h2.symm⟩
theorem ca_nth (op n0 n1 n2 n3 : Int) (ws rs : List Int) (pc : Int) (k : Nat) (h : k < 4) : (ca op n0 n1 n2 n3 ws rs pc)[1 + k]? = some (.int .i64 (nth n0 n1 n2 n3 k)) := by
  match k, h with
  | 0, _ => rfl
  | 1, _ => rfl
  | 2, _ => rfl
  | 3, _ => rfl
def ckv (b : Bool) : Int := if b then 0 else 1
theorem badn_in {s : ByteArray} {k : Nat} {n : Int} (h : k < s.size) : badn s k n = (decide (n < 0) || decide (mo ((s[k].toNat : Nat)) < n) || (decide (((s[k].toNat : Nat) : Int) = 117) && decide (n = 0))) := by
  unfold badn
  rw [if_pos h]
  have hd : (s.data[k]?.getD 0) = s[k] := by rw [Array.getElem?_eq_getElem (by exact h)]; rfl
  rw [hd]
theorem badn_out {s : ByteArray} {k : Nat} {n : Int} (h : ¬ k < s.size) : badn s k n = decide (n ≠ 0) := by
  unfold badn
  rw [if_neg h]
theorem nth_get (n0 n1 n2 n3 : Int) (k : Nat) (h : k < 4) : (#[.int .i64 n0, .int .i64 n1, .int .i64 n2, .int .i64 n3] : Array Value)[k]? = some (.int .i64 (nth n0 n1 n2 n3 k)) := by
  match k, h with
  | 0, _ => rfl
  | 1, _ => rfl
  | 2, _ => rfl
  | 3, _ => rfl
theorem sz_ws (ws : List Int) (hw : ws.length = 16) : (Try.prog.info? 25).map (·.size) = some (nums .u32 ws).length := by rw [nums_length, hw]; kernel_rfl
theorem sz_cx (rs : List Int) (pc : Int) (hr : rs.length = 16) : (Try.prog.info? 27).map (·.size) = some (cxL rs pc).length := by rw [cxL, List.length_append, nums_length, hr]; kernel_rfl
theorem zero_ws : Try.prog.built 25 [] = some zW := by kernel_rfl
theorem zero_cx : Try.prog.built 27 [] = some (cxL z16 0).toArray := by kernel_rfl
theorem idx4 (n0 n1 n2 n3 : Int) (k : Nat) (h : k < 4) (w : World) : (Instr.index 22 (.agg #[.int .i64 n0, .int .i64 n1, .int .i64 n2, .int .i64 n3]) (.int .i64 k)).run Try.prog w = .ok (.int .i64 (nth n0 n1 n2 n3 k)) w :=
  run_idx (P := Try.prog) (w := w) 22 4 3 .i64 .i64 rfl rfl rfl _ k h _ (nth_get n0 n1 n2 n3 k h)
/-- How the tests behind the numbers go. -/
def opOk (op : Int) (ws : List Int) : Bool := op == 4 || op == 22 || ws == z16
def cxOk (op : Int) (rs : List Int) (pc : Int) : Bool := op == 17 || (rs == z16 && pc == 0)

theorem okc_tail {s : ByteArray} {op n0 n1 n2 n3 : Int} {ws rs : List Int} {pc : Int} (hK : Kn s = true) (h : ∀ k, k < 4 → badn s k (nth n0 n1 n2 n3 k) = false) : okc s op n0 n1 n2 n3 ws rs pc = (opOk op ws && cxOk op rs pc) := okc_end hK h

set_option maxRecDepth 100000 in
set_option maxHeartbeats 8000000 in
theorem check_c (op n0 n1 n2 n3 : Int) (ws rs : List Int) (pc : Int) (hw : ws.length = 16) (hr : rs.length = 16) (w : World) :
    Calls Try.prog 11 #[.agg (ca op n0 n1 n2 n3 ws rs pc)] w fun r w' => r = .returned (.int .i64 (ckv (okc (F op) op n0 n1 n2 n3 ws rs pc))) ∧ Below w.heap.size w w' := by
  have hF := Lib.hid (fun w => form_c op w)
  have hM := Lib.hid (fun c w => most_c c w)
  have hWq := Lib.hid (fun w => eq_ws ws hw w)
  have hCq := Lib.hid (fun w => eq_cxT rs z16 pc 0 hr rfl w)
  replace hw := Lib.hid hw
  replace hr := Lib.hid hr
  generalize F op = s at *
  have k1 := Blk.new w 29 (ca op n0 n1 n2 n3 ws rs pc)
  have b1 := bl_alloc (bl_refl w) (.cells (ca op n0 n1 n2 n3 ws rs pc) 29)
  cases hK : Kn s with
  | false =>
    have q : (s.toList == [45]) = true := by simpa [Kn] using hK
    have he := Lib.hid (okc_kn (op := op) (n0 := n0) (n1 := n1) (n2 := n2) (n3 := n3) (ws := ws) (rs := rs) (pc := pc) hK)
    rw [he.out]
    clear hK k1 b1
    go_enter Try.func11, Try.ntmps11
    go_wp2_with ((with_reducible refine wl_box rfl 29 _ rfl (ca op n0 n1 n2 n3 ws rs pc) rfl ?_); intro w1 k1 b1 s1; have f0 := k1.cellv 0 (.int .i64 op) rfl; have f1 := k1.cellv 1 (.int .i64 n0) rfl; have f2 := k1.cellv 2 (.int .i64 n1) rfl; have f3 := k1.cellv 3 (.int .i64 n2) rfl; have f4 := k1.cellv 4 (.int .i64 n3) rfl)
    refine (hF.out _).mono ?_
    rintro r w2 ⟨rfl, rfl⟩
    go_wp2_with fail
    go_ret
    exact ⟨rfl, b1⟩
  | true =>
    have q : (s.toList == [45]) = false := by simpa [Kn] using hK
    have hbd := Lib.hid (fun k (hk : k < 4) h => okc_bad (s := s) (op := op) (n0 := n0) (n1 := n1) (n2 := n2) (n3 := n3) (ws := ws) (rs := rs) (pc := pc) (k := k) hk h)
    have hen := Lib.hid (fun h => okc_tail (s := s) (op := op) (n0 := n0) (n1 := n1) (n2 := n2) (n3 := n3) (ws := ws) (rs := rs) (pc := pc) hK h)
    clear hK k1 b1
    go_enter Try.func11, Try.ntmps11
    go_wp2_with ((with_reducible refine wl_box rfl 29 _ rfl (ca op n0 n1 n2 n3 ws rs pc) rfl ?_); intro w1 k1 b1 s1; have f0 := k1.cellv 0 (.int .i64 op) rfl; have f1 := k1.cellv 1 (.int .i64 n0) rfl; have f2 := k1.cellv 2 (.int .i64 n1) rfl; have f3 := k1.cellv 3 (.int .i64 n2) rfl; have f4 := k1.cellv 4 (.int .i64 n3) rfl)
    refine (hF.out _).mono ?_
    rintro r w2 ⟨rfl, rfl⟩
    have B := b1
    clear b1 hF
    go_wp2_with fail
    go_loopw [13] (fun i wr => ∃ k : Nat, k ≤ 4 ∧ i = .int .i64 k ∧ w1 = wr ∧ ∀ j, j < k → badn s j (nth n0 n1 n2 n3 j) = false) (fun i _ => 4 - (intOf i).toNat)
    case atStart => exact ⟨0, by omega, rfl, rfl, fun j hj => absurd hj (by omega)⟩
    case round =>
      obtain ⟨k, hk, rfl, rfl, hpre⟩ := hrel
      by_cases hlt : k < 4
      · have ql : decide ((k : Int) < 4) = true := by simp; omega
        have ql2 : (k : Int) < 4 := by omega
        replace hpre := Lib.hid hpre
        have e := Lib.hid (idx4 n0 n1 n2 n3 k hlt w1)
        replace hbd := Lib.hid (hbd.out k hlt)
        have hnx := Lib.hid (fun hb : badn s k (nth n0 n1 n2 n3 k) = false => all_succ hpre.out hb)
        by_cases hs : k < s.size
        · have qa : decide ((s.size : Int) ≤ (k : Int)) = false := by simp; omega
          have qb : decide ((k : Int) < (s.size : Int)) = true := by simp; omega
          have qb2 : (k : Int) < (s.size : Int) := by omega
          have hbn := Lib.hid (badn_in (n := nth n0 n1 n2 n3 k) hs)
          replace hM := Lib.hid (fun w => hM.out ((s[k].toNat : Nat)) w)
          generalize nth n0 n1 n2 n3 k = n at *
          generalize hmo : mo ((s[k].toNat : Nat)) = m at *
          clear hmo
          by_cases h1 : n < 0
          · have q1 : decide (n < 0) = true := by simpa using h1
            replace hbd := Lib.hid (hbd.out (by rw [hbn.out, q1]; rfl))
            clear h1
            go_wp2_with fail
            rw [e.out]
            go_wp2_with fail
            go_ret
            exact ⟨by rw [hbd.out]; rfl, B⟩
          · have q1 : decide (n < 0) = false := by simpa using h1
            clear h1
            by_cases h2 : m < n
            · have q2 : decide (m < n) = true := by simpa using h2
              replace hbd := Lib.hid (hbd.out (by rw [hbn.out, q1, q2]; rfl))
              clear h2
              go_wp2_with fail
              rw [e.out]
              go_wp2_with fail
              refine (hM.out _).mono ?_
              rintro r w2 ⟨rfl, rfl⟩
              go_wp2_with fail
              go_ret
              exact ⟨by rw [hbd.out]; rfl, B⟩
            · have q2 : decide (m < n) = false := by simpa using h2
              clear h2
              by_cases h3 : ((s[k].toNat : Nat) : Int) = 117
              · have q3 : (((s[k].toNat : Nat) : Int) == 117) = true := by simpa using h3
                by_cases h4 : n = 0
                · have q4 : (n == 0) = true := by simpa using h4
                  replace hbd := Lib.hid (hbd.out (by rw [hbn.out, q1, q2, decide_eq_true h3, decide_eq_true h4]; rfl))
                  clear h3 h4
                  go_wp2_with fail
                  rw [e.out]
                  go_wp2_with fail
                  refine (hM.out _).mono ?_
                  rintro r w2 ⟨rfl, rfl⟩
                  go_wp2_with fail
                  go_ret
                  exact ⟨by rw [hbd.out]; rfl, B⟩
                · have q4 : (n == 0) = false := by simpa using h4
                  have hn := Lib.hid (hnx.out (by rw [hbn.out, q1, q2, decide_eq_false h4]; simp))
                  clear h3 h4
                  go_wp2_with fail
                  rw [e.out]
                  go_wp2_with fail
                  refine (hM.out _).mono ?_
                  rintro r w2 ⟨rfl, rfl⟩
                  go_wp2_with fail
                  go_roundw
                  case rel => exact ⟨k + 1, by omega, by go_num, by first | rfl | trivial, hn.out⟩
                  case measure => first | (simp [intOf]; done) | (simp [intOf]; omega)
              · have q3 : (((s[k].toNat : Nat) : Int) == 117) = false := by simpa using h3
                have hn := Lib.hid (hnx.out (by rw [hbn.out, q1, q2, decide_eq_false h3]; simp))
                clear h3
                go_wp2_with fail
                rw [e.out]
                go_wp2_with fail
                refine (hM.out _).mono ?_
                rintro r w2 ⟨rfl, rfl⟩
                go_wp2_with fail
                go_roundw
                case rel => exact ⟨k + 1, by omega, by go_num, by first | rfl | trivial, hn.out⟩
                case measure => first | (simp [intOf]; done) | (simp [intOf]; omega)
        · have qa : decide ((s.size : Int) ≤ (k : Int)) = true := by simp; omega
          have qb : decide ((k : Int) < (s.size : Int)) = false := by simp; omega
          have hbn := Lib.hid (badn_out (n := nth n0 n1 n2 n3 k) hs)
          generalize nth n0 n1 n2 n3 k = n at *
          by_cases h1 : n = 0
          · have q1 : (n != 0) = false := by simp [h1]
            have q2 : decide (n < 0) = false := by simp; omega
            have hn := Lib.hid (hnx.out (by rw [hbn.out]; simp [h1]))
            clear h1
            go_wp2_with fail
            rw [e.out]
            go_wp2_with fail
            go_roundw
            case rel => exact ⟨k + 1, by omega, by go_num, by first | rfl | trivial, hn.out⟩
            case measure => first | (simp [intOf]; done) | (simp [intOf]; omega)
          · have q1 : (n != 0) = true := by simpa using h1
            replace hbd := Lib.hid (hbd.out (by rw [hbn.out]; simpa using h1))
            clear h1
            go_wp2_with fail
            rw [e.out]
            go_wp2_with fail
            go_ret
            exact ⟨by rw [hbd.out]; rfl, B⟩
      · obtain rfl : k = 4 := by omega
        replace hen := hen.out hpre
        unfold opOk cxOk at hen
        clear hpre hbd hM hk hlt
        have hcase : (((op == 4) = true ∧ (op != 4) = false ∧ (op == 17) = false ∧ (op != 17) = true) ∨ ((op == 4) = false ∧ (op == 22) = true ∧ (op != 4) = true ∧ (op != 22) = false ∧ (op == 17) = false ∧ (op != 17) = true)) ∨ ((op == 4) = false ∧ (op == 22) = false ∧ (op != 4) = true ∧ (op != 22) = true ∧ (((op == 17) = true ∧ (op != 17) = false) ∨ ((op == 17) = false ∧ (op != 17) = true))) := by
          by_cases h4 : op = 4
          · subst h4; exact .inl (.inl ⟨rfl, rfl, rfl, rfl⟩)
          · by_cases h22 : op = 22
            · subst h22; exact .inl (.inr ⟨rfl, rfl, rfl, rfl, rfl, rfl⟩)
            · refine .inr ⟨by simpa using h4, by simpa using h22, by simpa using h4, by simpa using h22, ?_⟩
              by_cases h17 : op = 17
              · exact .inl ⟨by simpa using h17, by simp [h17]⟩
              · exact .inr ⟨by simpa using h17, by simpa using h17⟩
        have hq2 := hCq.out w1
        have hq1 := hWq.out w1
        generalize (ws == z16) = v at *
        generalize (rs == z16 && pc == 0) = u at *
        clear hCq hWq
        rcases hcase with (⟨o1, o2, o3, o4⟩ | ⟨o1, o5, o2, o6, o3, o4⟩) | ⟨o1, o5, o2, o6, ⟨o3, o4⟩ | ⟨o3, o4⟩⟩
        · rw [o1, o3] at hen
          clear o1 o3
          replace hen := Lib.hid hen
          cases u <;>
          · go_wp2_with (first | (refine wl_load_mid_on (by rfl) 25 _ (by rfl) w.heap.size 5 (by rfl) 29 (ca op n0 n1 n2 n3 ws rs pc) (nums .u32 ws) _ k1 (ca_ws op n0 n1 n2 n3 ws rs pc) Try.underlying25 rfl (sz_ws ws hw.out) (by exact ⟨_, _, rfl, rfl, rfl⟩) ?_) | (refine wl_build0_on (by rfl) 25 (by rfl) zW zero_ws (by exact ⟨_, _, rfl, rfl, rfl⟩) ?_) | (refine wl_load_mid_on (by rfl) 27 _ (by rfl) w.heap.size 21 (by rfl) 29 (ca op n0 n1 n2 n3 ws rs pc) (cxL rs pc) _ k1 (ca_cx op n0 n1 n2 n3 ws rs pc hw.out) Try.underlying27 rfl (sz_cx rs pc hr.out) (by exact ⟨_, _, rfl, rfl, rfl⟩) ?_) | (refine wl_build0_on (by rfl) 27 (by rfl) (cxL z16 0).toArray zero_cx (by exact ⟨_, _, rfl, rfl, rfl⟩) ?_) | (refine wl_neq_on (by rfl) (by exact ⟨_, _, rfl, rfl, rfl⟩) 25 _ _ _ (by rfl) (nums .u32 ws).toArray zW (by rfl) (by rfl) (by kernel_rfl) _ hq1 ?_) | (refine wl_neq_on (by rfl) (by exact ⟨_, _, rfl, rfl, rfl⟩) 27 _ _ _ (by rfl) (cxL rs pc).toArray (cxL z16 0).toArray (by rfl) (by rfl) (by kernel_rfl) _ hq2 ?_) | (refine wl_eql_on (by rfl) (by exact ⟨_, _, rfl, rfl, rfl⟩) 27 _ _ _ (by rfl) (cxL rs pc).toArray (cxL z16 0).toArray (by rfl) (by rfl) (by kernel_rfl) _ hq2 ?_))
            go_ret
            exact ⟨by rw [hen.out]; rfl, B⟩
        · rw [o1, o5, o3] at hen
          clear o1 o3 o5
          replace hen := Lib.hid hen
          cases u <;>
          · go_wp2_with (first | (refine wl_load_mid_on (by rfl) 25 _ (by rfl) w.heap.size 5 (by rfl) 29 (ca op n0 n1 n2 n3 ws rs pc) (nums .u32 ws) _ k1 (ca_ws op n0 n1 n2 n3 ws rs pc) Try.underlying25 rfl (sz_ws ws hw.out) (by exact ⟨_, _, rfl, rfl, rfl⟩) ?_) | (refine wl_build0_on (by rfl) 25 (by rfl) zW zero_ws (by exact ⟨_, _, rfl, rfl, rfl⟩) ?_) | (refine wl_load_mid_on (by rfl) 27 _ (by rfl) w.heap.size 21 (by rfl) 29 (ca op n0 n1 n2 n3 ws rs pc) (cxL rs pc) _ k1 (ca_cx op n0 n1 n2 n3 ws rs pc hw.out) Try.underlying27 rfl (sz_cx rs pc hr.out) (by exact ⟨_, _, rfl, rfl, rfl⟩) ?_) | (refine wl_build0_on (by rfl) 27 (by rfl) (cxL z16 0).toArray zero_cx (by exact ⟨_, _, rfl, rfl, rfl⟩) ?_) | (refine wl_neq_on (by rfl) (by exact ⟨_, _, rfl, rfl, rfl⟩) 25 _ _ _ (by rfl) (nums .u32 ws).toArray zW (by rfl) (by rfl) (by kernel_rfl) _ hq1 ?_) | (refine wl_neq_on (by rfl) (by exact ⟨_, _, rfl, rfl, rfl⟩) 27 _ _ _ (by rfl) (cxL rs pc).toArray (cxL z16 0).toArray (by rfl) (by rfl) (by kernel_rfl) _ hq2 ?_) | (refine wl_eql_on (by rfl) (by exact ⟨_, _, rfl, rfl, rfl⟩) 27 _ _ _ (by rfl) (cxL rs pc).toArray (cxL z16 0).toArray (by rfl) (by rfl) (by kernel_rfl) _ hq2 ?_))
            go_ret
            exact ⟨by rw [hen.out]; rfl, B⟩
        · rw [o1, o5, o3] at hen
          clear o1 o3 o5
          replace hen := Lib.hid hen
          cases v <;>
          · go_wp2_with (first | (refine wl_load_mid_on (by rfl) 25 _ (by rfl) w.heap.size 5 (by rfl) 29 (ca op n0 n1 n2 n3 ws rs pc) (nums .u32 ws) _ k1 (ca_ws op n0 n1 n2 n3 ws rs pc) Try.underlying25 rfl (sz_ws ws hw.out) (by exact ⟨_, _, rfl, rfl, rfl⟩) ?_) | (refine wl_build0_on (by rfl) 25 (by rfl) zW zero_ws (by exact ⟨_, _, rfl, rfl, rfl⟩) ?_) | (refine wl_load_mid_on (by rfl) 27 _ (by rfl) w.heap.size 21 (by rfl) 29 (ca op n0 n1 n2 n3 ws rs pc) (cxL rs pc) _ k1 (ca_cx op n0 n1 n2 n3 ws rs pc hw.out) Try.underlying27 rfl (sz_cx rs pc hr.out) (by exact ⟨_, _, rfl, rfl, rfl⟩) ?_) | (refine wl_build0_on (by rfl) 27 (by rfl) (cxL z16 0).toArray zero_cx (by exact ⟨_, _, rfl, rfl, rfl⟩) ?_) | (refine wl_neq_on (by rfl) (by exact ⟨_, _, rfl, rfl, rfl⟩) 25 _ _ _ (by rfl) (nums .u32 ws).toArray zW (by rfl) (by rfl) (by kernel_rfl) _ hq1 ?_) | (refine wl_neq_on (by rfl) (by exact ⟨_, _, rfl, rfl, rfl⟩) 27 _ _ _ (by rfl) (cxL rs pc).toArray (cxL z16 0).toArray (by rfl) (by rfl) (by kernel_rfl) _ hq2 ?_) | (refine wl_eql_on (by rfl) (by exact ⟨_, _, rfl, rfl, rfl⟩) 27 _ _ _ (by rfl) (cxL rs pc).toArray (cxL z16 0).toArray (by rfl) (by rfl) (by kernel_rfl) _ hq2 ?_))
            go_ret
            exact ⟨by rw [hen.out]; rfl, B⟩
        · rw [o1, o5, o3] at hen
          clear o1 o3 o5
          replace hen := Lib.hid hen
          cases v <;> cases u <;>
          · go_wp2_with (first | (refine wl_load_mid_on (by rfl) 25 _ (by rfl) w.heap.size 5 (by rfl) 29 (ca op n0 n1 n2 n3 ws rs pc) (nums .u32 ws) _ k1 (ca_ws op n0 n1 n2 n3 ws rs pc) Try.underlying25 rfl (sz_ws ws hw.out) (by exact ⟨_, _, rfl, rfl, rfl⟩) ?_) | (refine wl_build0_on (by rfl) 25 (by rfl) zW zero_ws (by exact ⟨_, _, rfl, rfl, rfl⟩) ?_) | (refine wl_load_mid_on (by rfl) 27 _ (by rfl) w.heap.size 21 (by rfl) 29 (ca op n0 n1 n2 n3 ws rs pc) (cxL rs pc) _ k1 (ca_cx op n0 n1 n2 n3 ws rs pc hw.out) Try.underlying27 rfl (sz_cx rs pc hr.out) (by exact ⟨_, _, rfl, rfl, rfl⟩) ?_) | (refine wl_build0_on (by rfl) 27 (by rfl) (cxL z16 0).toArray zero_cx (by exact ⟨_, _, rfl, rfl, rfl⟩) ?_) | (refine wl_neq_on (by rfl) (by exact ⟨_, _, rfl, rfl, rfl⟩) 25 _ _ _ (by rfl) (nums .u32 ws).toArray zW (by rfl) (by rfl) (by kernel_rfl) _ hq1 ?_) | (refine wl_neq_on (by rfl) (by exact ⟨_, _, rfl, rfl, rfl⟩) 27 _ _ _ (by rfl) (cxL rs pc).toArray (cxL z16 0).toArray (by rfl) (by rfl) (by kernel_rfl) _ hq2 ?_) | (refine wl_eql_on (by rfl) (by exact ⟨_, _, rfl, rfl, rfl⟩) 27 _ _ _ (by rfl) (cxL rs pc).toArray (cxL z16 0).toArray (by rfl) (by rfl) (by kernel_rfl) _ hq2 ?_))
            go_ret
            exact ⟨by rw [hen.out]; rfl, B⟩
end Go.Proofs.Yteokofkdfeglnaa.Abi6
