/- The law AbiRenames. -/
import Derived.Test.YteokofkdfeglnaaAbi9
import Derived.Test.YteokofkdfeglnaaAbiArg
set_option linter.unusedVariables false
namespace Go.Proofs.Yteokofkdfeglnaa.AbiRenames
open Go.RowKit Go.ChangeShapes Go.WideShapes Go.Deep Go.Proofs.Yteokofkdfeglnaa.Base Go.Proofs.Yteokofkdfeglnaa.Row Go.Proofs.Yteokofkdfeglnaa.App Go.Proofs.Yteokofkdfeglnaa.Multi Go.Proofs.Yteokofkdfeglnaa.Abi Go.Proofs.Yteokofkdfeglnaa.Abi2 Go.Proofs.Yteokofkdfeglnaa.Abi3 Go.Proofs.Yteokofkdfeglnaa.Abi4 Go.Proofs.Yteokofkdfeglnaa.StEq Go.Proofs.Yteokofkdfeglnaa.Held Go.Proofs.Yteokofkdfeglnaa.Abi5 Go.Proofs.Yteokofkdfeglnaa.Abi8 Go.Proofs.Yteokofkdfeglnaa.Abi9 Go.Proofs.Yteokofkdfeglnaa.AbiArg

theorem mean_snd (b hole : Int) : ∀ k n, (mean b hole k n).2 = (n != hole) := fun _ _ => rfl
set_option maxRecDepth 100000 in
set_option maxHeartbeats 4000000 in
theorem main (op : Int) (ns ws rs : List Int) (pc by_ hole : Int) (hn : ns.length = 4) (hw : ws.length = 16) (hr : rs.length = 16) (w : World) :
    Calls Try.prog 6 #[.agg (cl op ns ws rs pc), .int .i64 by_, .int .i64 hole] w fun e w' => e = .returned (.bool true) ∧ Below w.heap.size w w' := by
  obtain ⟨byy, hbyy⟩ : ∃ b, b = bits .and .i64 by_ 255 := ⟨_, rfl⟩
  have hR1 := Lib.hid (fun b1 b2 w h1 h2 => renamed1_c op ns ws rs pc hn hw hr byy hole b1 b2 w h1 h2)
  have hR2 := Lib.hid (fun w => renamed2_c op ns ws rs pc hn hw hr w)
  have hF := Lib.hid (fun w => rform_c op w)
  have hs4 := (F_nice op).1
  have hA := Lib.hid (fun w => awake_c w)
  have hz := Lib.hid (sz_cl op ns ws rs pc hn hw hr)
  have hzz := Lib.hid (sz_cl 0 z4 z16 z16 0 rfl rfl rfl)
  have h38 := Lib.hid (fun (l : List Int) (h : l.length = 4) => cl_size op l ws rs pc h hw hr)
  have hszl := Lib.hid (fun (l : List Int) (h : l.length = 4) => sz_cl op l ws rs pc h hw hr)
  have hE1 := Lib.hid (fun w => eq_call op op ns ns ws ws rs rs pc pc hn hw hr hn hw hr w)
  have hE2 := Lib.hid (fun (l : List Int) (h : l.length = 4) w => eq_call op op l l ws ws rs rs pc pc h hw hr h hw hr w)
  have hE3 := Lib.hid (fun w => eq_call 0 0 z4 z4 z16 z16 z16 z16 0 0 rfl rfl rfl rfl rfl rfl w)
  rw [run_nm, (rn_same _ ns _ (by rw [hn]; exact hs4)).1, (rn_same _ ns _ (by rw [hn]; exact hs4)).2] at hR2
  rw [run_nm, ok_ho (mean byy hole) hole (mean_snd byy hole)] at hR1
  have hrl := Lib.hid (fun k => (rn_len (mean byy hole) (F op) ns k).trans hn)
  have hmv := Lib.hid (fun k n => show (mean byy hole k n).1 = bits .and .i64 (wrap64 (wrap64 (bits .and .i64 n 511 + byy) + wrap64 (7 * k))) 511 from rfl)
  have hmw := Lib.hid (fun k n => show (mean byy hole k n).1 = bits .and .i64 (IntKind.i64.wrap (IntKind.i64.wrap (bits .and .i64 n 511 + byy) + IntKind.i64.wrap (7 * k))) 511 by simp only [IntWalk.i64_left]; rfl)
  generalize mean byy hole = f at *
  generalize F op = s at *
  replace hw := Lib.hid hw
  replace hr := Lib.hid hr
  go_enter Try.func6, Try.ntmps6
  go_wp2_with (first
    | ((with_reducible refine wl_box rfl 29 (.tmp 0) rfl (cl op ns ws rs pc) rfl ?_); intro w1 k1 b1 s1)
    | ((refine wl_box rfl 3 (.tmp 1) rfl #[.int .i64 by_] rfl ?_); intro w2 k2 b2 s2)
    | ((refine wl_box rfl 3 (.tmp 2) rfl #[.int .i64 hole] rfl ?_); intro w3 k3 b3 s3; have K2 := k2.below b3; have e2 := K2.cellv 0 (.int .i64 by_) rfl)
    | ((refine wl_set rfl 3 (.tmp 4) (.tmp 17) rfl w1.heap.size 0 rfl (.int .i64 (bits .and .i64 by_ 255)) rfl rfl 3 #[.int .i64 by_] K2 (by kernel_rfl) (by simp) ?_); intro w4 k4 g4 s4; have KC := ((k1.below b2).below b3).grown g4 (fun e => by injection e with e; omega))
    | (refine wl_load rfl 29 (.tmp 3) rfl w.heap.size rfl 29 (cl op ns ws rs pc) _ KC Try.underlying29 rfl hz.out ?_))
  have B4 := below_grown (bl_then (bl_then b1 b2) b3) (by have := b1.size; have := b2.size; have := b3.size; omega) g4 b1.size
  have KB : Blk w4 w1.heap.size 3 #[.int .i64 byy] := by rw [hbyy]; exact k4
  have KH := k3.grown g4 (fun e => by injection e with e; omega)
  have zb : w.heap.size < w1.heap.size := s1
  have zh : w1.heap.size < w2.heap.size := s2
  clear k1 k2 k3 k4 K2 e2 b1 b2 b3 g4
  rw [← hbyy] at *
  refine (hR1.out w1.heap.size w2.heap.size w4 (KB.cellv 0 _ rfl) (KH.cellv 0 _ rfl)).mono ?_
  rintro r w5 ⟨rfl, b5⟩
  replace KC := KC.below b5
  replace KB := KB.below b5
  replace KH := KH.below b5
  replace B4 := bl_then B4 b5
  have z5 : w2.heap.size < w5.heap.size := KH.lt
  clear b5 hR1
  have hDz := Lib.hid (show (cl 0 z4 z16 z16 0).size = (rv op ws rs pc (rn f s ns s.size, !ho s ns hole s.size)).size by
    unfold rv
    split
    · rw [h38.out _ (hrl.out _)]; rfl
    · rfl)
  have hDs := Lib.hid (show (Try.prog.info? 29).map (·.size) = some (rv op ws rs pc (rn f s ns s.size, !ho s ns hole s.size)).size by rw [← hDz.out]; exact hzz.out)
  have hD1 := Lib.hid (show ∀ v ∈ rv op ws rs pc (rn f s ns s.size, !ho s ns hole s.size), v.oneCell' = true by
    unfold rv
    split
    · exact cl_one _ _ _ _ _
    · exact cl_one _ _ _ _ _)
  have hD := Lib.hid (show rv op ws rs pc (rn f s ns s.size, !ho s ns hole s.size) = if !ho s ns hole s.size then cl op (rn f s ns s.size) ws rs pc else cl 0 z4 z16 z16 0 from rfl)
  generalize rv op ws rs pc (rn f s ns s.size, !ho s ns hole s.size) = D at *
  go_wp2_with (first
    | ((with_reducible refine wl_alloc rfl 29 rfl (cl 0 z4 z16 z16 0) new_call ?_); intro w6 k6 b6 s6)
    | ((refine wl_store rfl 29 (.tmp 7) (.tmp 22) rfl w5.heap.size rfl D rfl 29 (cl 0 z4 z16 z16 0) k6 hDs.out hDz.out hD1.out ?_); intro w7 k7 g7 s7; have KC7 := (KC.below b6).grown g7 (fun e => by injection e with e; have := KC.lt; omega))
    | (refine wl_load rfl 29 (.tmp 3) rfl w.heap.size rfl 29 (cl op ns ws rs pc) _ KC7 Try.underlying29 rfl hz.out ?_))
  replace KB := (KB.below b6).grown g7 (fun e => by injection e with e; have := KB.lt; omega)
  replace KH := (KH.below b6).grown g7 (fun e => by injection e with e; have := KH.lt; omega)
  have B7 := below_grown (bl_then B4 b6) (by have := B4.size; have := b6.size; omega) g7 B4.size
  clear k6 b6 g7 B4 KC
  refine (hR2.out w7).mono ?_
  rintro r w8 ⟨rfl, b8⟩
  rw [show rv op ws rs pc (ns, true) = cl op ns ws rs pc from rfl]
  replace KC7 := KC7.below b8
  replace KB := KB.below b8
  replace KH := KH.below b8
  have KD := k7.below b8
  replace B7 := bl_then B7 b8
  have z8 : w5.heap.size < w8.heap.size := KD.lt
  clear b8 hR2 k7
  go_wp2_with (first
    | ((with_reducible refine wl_alloc rfl 29 rfl (cl 0 z4 z16 z16 0) new_call ?_); intro w9 k9 b9 s9)
    | ((refine wl_store rfl 29 (.tmp 9) (.tmp 27) rfl w8.heap.size rfl (cl op ns ws rs pc) rfl 29 (cl 0 z4 z16 z16 0) k9 hz.out (by rw [h38.out ns hn]; rfl) (cl_one _ _ _ _ _) ?_); intro w10 k10 g10 s10; have KC10 := (KC7.below b9).grown g10 (fun e => by injection e with e; have := KC7.lt; omega); have f0 := KC10.cellv 0 (.int .i64 op) rfl))
  replace KB := (KB.below b9).grown g10 (fun e => by injection e with e; have := KB.lt; omega)
  replace KH := (KH.below b9).grown g10 (fun e => by injection e with e; have := KH.lt; omega)
  replace KD := (KD.below b9).grown g10 (fun e => by injection e with e; have := KD.lt; omega)
  have B10 := below_grown (bl_then B7 b9) (by have := B7.size; have := b9.size; omega) g10 B7.size
  have KE := k10
  clear k9 k10 b9 g10 B7 KC7
  refine (hF.out w10).mono ?_
  rintro r w11 ⟨rfl, b11⟩
  have KC := KC10.below b11
  replace KB := KB.below b11
  replace KH := KH.below b11
  replace KD := KD.below b11
  replace KE := KE.below b11
  replace B10 := bl_then B10 b11
  have z11 : w8.heap.size < w11.heap.size := KE.lt
  clear b11 KC10 f0 hF
  go_wp2_with (first
    | (with_reducible refine wl_load rfl 29 (.tmp 3) rfl w.heap.size rfl 29 (cl op ns ws rs pc) _ KC Try.underlying29 rfl hz.out ?_)
    | ((with_reducible refine wl_alloc rfl 29 rfl (cl 0 z4 z16 z16 0) new_call ?_); intro w12 k12 b12 s12)
    | ((refine wl_store rfl 29 (.tmp 12) (.tmp 32) rfl w11.heap.size rfl (cl op ns ws rs pc) rfl 29 (cl 0 z4 z16 z16 0) k12 hz.out (by rw [h38.out ns hn]; rfl) (cl_one _ _ _ _ _) ?_); intro w13 k13 g13 s13))
  replace KB := (KB.below b12).grown g13 (fun e => by injection e with e; omega)
  replace KH := (KH.below b12).grown g13 (fun e => by injection e with e; omega)
  replace KD := (KD.below b12).grown g13 (fun e => by injection e with e; omega)
  replace KE := (KE.below b12).grown g13 (fun e => by injection e with e; omega)
  replace KC := (KC.below b12).grown g13 (fun e => by injection e with e; omega)
  have B13 := below_grown (bl_then B10 b12) (by have := B10.size; have := b12.size; omega) g13 B10.size
  clear k12 b12 g13 B10 s1 s2 s3 s4 s6 s7 s9 s10 s12 s13 hbyy
  generalize w1.heap.size = gB at *
  generalize w2.heap.size = gH at *
  generalize w5.heap.size = gD at *
  generalize w8.heap.size = gE at *
  generalize w11.heap.size = gW at *
  go_loopw [13, 14] (fun h i wr => ∃ j : Nat, j ≤ s.size ∧ h = .bool (ho s ns hole j) ∧ i = .int .i64 j ∧ Blk wr w.heap.size 29 (cl op ns ws rs pc) ∧ Blk wr gB 3 #[.int .i64 byy] ∧ Blk wr gH 3 #[.int .i64 hole] ∧ Blk wr gD 29 D ∧ Blk wr gE 29 (cl op ns ws rs pc) ∧ Blk wr gW 29 (cl op (rn f s ns j) ws rs pc) ∧ Below w.heap.size w wr) (fun _ i _ => s.size - (intOf i).toNat)
  case atStart => exact ⟨0, by omega, rfl, rfl, KC, KB, KH, KD, KE, k13, B13⟩
  case round =>
    clear KC KB KH KD KE k13 B13
    obtain ⟨j, hj, rfl, rfl, KC, KB, KH, KD, KE, KW, HB⟩ := hrel
    obtain ⟨wo, rfl⟩ : ∃ wo : World, wo = wr := ⟨_, rfl⟩
    by_cases hlt : j < s.size
    · have hq : decide ((j : Int) < (s.size : Int)) = true := by simp; omega
      have hj4 : j < 4 := by omega
      have hj4' : (j : Int) < 4 := by omega
      have hd : (s.data[j]?.getD 0) = s[j] := by rw [Array.getElem?_eq_getElem (by exact hlt)]; rfl
      have hI0 : ∀ w', Calls Try.prog 15 #[.int .u8 (s[j].toNat : Nat)] w' fun r w'' => r = .returned (.int .i64 (lk (s.data[j]?.getD 0))) ∧ w' = w'' := fun w' => by
        rw [hd]
        exact rkind_c s[j] w'
      have hI := Lib.hid hI0
      clear hI0
      by_cases hl : 0 ≤ lk (s.data[j]?.getD 0)
      · have hy := Lib.hid (rn_yes (f := f) (ns := ns) hl)
        have hy2 := Lib.hid (ho_yes (ns := ns) (hole := hole) hl)
        have q1 : decide (0 ≤ lk (s.data[j]?.getD 0)) = true := by simpa using hl
        have hmk := Lib.hid (hmw.out (lk (s.data[j]?.getD 0)) (ns[j]?.getD 0))
        have hmj := Lib.hid (hmv.out (lk (s.data[j]?.getD 0)) (ns[j]?.getD 0))
        have hsj := Lib.hid (fun v => cl_set op (rn f s ns j) ws rs pc j v (by rw [hrl.out]; omega))
        have hfit := Lib.hid (show 1 + j < (cl op (rn f s ns j) ws rs pc).size by rw [h38.out _ (hrl.out _)]; omega)
        have fj : wo.cell? ⟨w.heap.size, 1 + j, none⟩ = some (.int .i64 (ns[j]?.getD 0)) := KC.cellv (1 + j) _ (cl_get op ns ws rs pc j (by omega))
        have fb := KB.cellv 0 (.int .i64 byy) rfl
        have hfj := Lib.hid (cl_get op ns ws rs pc j (by omega))
        generalize lk (s.data[j]?.getD 0) = v at *
        generalize ns[j]?.getD 0 = n at *
        generalize ho s ns hole j = H at *
        clear hd hl
        go_wp2_with fail
        refine (hI.out _).mono ?_
        rintro r w2 ⟨rfl, rfl⟩
        go_wp2_with fail
        refine wp_region_still_tail 14 (by kernel_rfl) (by kernel_rfl) ?_
        simp only [List.take_succ_cons, List.take_zero, List.drop_succ_cons, List.drop_zero]
        repeat still_step
        refine wpStill_nil ?_
        change wpList _ _ _ _ _ wo.drew
        replace KW := KW.drew
        go_wp2_with (first
          | ((refine wl_set rfl 3 (.tmp 58) (.tmp 56) rfl gW (1 + j) rfl (.int .i64 (f v n).1) (by first | (rw [hmj.out]; rfl) | (rw [hmk.out]; rfl)) rfl 29 (cl op (rn f s ns j) ws rs pc) KW (by kernel_rfl) hfit.out ?_); intro w3 k3 g3 s3))
        rw [hsj.out, ← hy.out] at k3
        replace KC := KC.drew.grown g3 (fun e => by injection e with e; omega)
        replace KB := KB.drew.grown g3 (fun e => by injection e with e; omega)
        replace KH := KH.drew.grown g3 (fun e => by injection e with e; omega)
        replace KD := KD.drew.grown g3 (fun e => by injection e with e; omega)
        replace KE := KE.drew.grown g3 (fun e => by injection e with e; omega)
        replace HB := below_grown (bl_drew HB) (bl_drew HB).size g3 (by omega)
        have fj := KC.cellv (1 + j) _ (hfj.out)
        have fh := KH.cellv 0 (.int .i64 hole) rfl
        clear fb KW g3
        cases H with
        | true =>
          go_wp2_with fail
          go_quiet (fail)
          go_wp2_with fail
          go_roundw
          case rel => exact ⟨j + 1, by omega, by rw [hy2.out]; rfl, by go_num, KC.drewN _, KB.drewN _, KH.drewN _, KD.drewN _, KE.drewN _, k3.drewN _, bl_drewN HB _⟩
          case measure => first | (simp [intOf]; done) | (simp [intOf]; omega)
        | false =>
          go_wp2_with fail
          go_quiet (fail)
          go_wp2_with fail
          go_roundw
          case rel => exact ⟨j + 1, by omega, by rw [hy2.out]; rfl, by go_num, KC.drewN _, KB.drewN _, KH.drewN _, KD.drewN _, KE.drewN _, k3.drewN _, bl_drewN HB _⟩
          case measure => first | (simp [intOf]; done) | (simp [intOf]; omega)
      · have hy := Lib.hid (rn_no (f := f) (ns := ns) hl)
        have hy2 := Lib.hid (ho_no (ns := ns) (hole := hole) hl)
        have q1 : decide (0 ≤ lk (s.data[j]?.getD 0)) = false := by simpa using hl
        generalize lk (s.data[j]?.getD 0) = v at *
        clear hd
        go_wp2_with fail
        refine (hI.out _).mono ?_
        rintro r w2 ⟨rfl, rfl⟩
        go_wp2_with fail
        go_roundw
        case rel => exact ⟨j + 1, by omega, by rw [hy2.out], by go_num, KC, KB, KH, KD, KE, by rw [hy.out]; exact KW, HB⟩
        case measure => first | (simp [intOf]; done) | (simp [intOf]; omega)
    · obtain rfl : j = s.size := by omega
      have hq : decide ((s.size : Int) < (s.size : Int)) = false := by simp
      have hzW := Lib.hid (hszl.out _ (hrl.out s.size))
      have h1 := hE1.out wo
      have h2 := hE2.out _ (hrl.out s.size)
      have h3 := hE3.out
      simp only [BEq.rfl, Bool.and_self] at h1 h2 h3
      replace h1 := Lib.hid h1
      replace h2 := Lib.hid h2
      replace h3 := Lib.hid h3
      generalize rn f s ns s.size = R at *
      clear hE1 hE2 hE3 hmv hlt hj
      cases hH : ho s ns hole s.size with
      | false =>
        rw [hH] at hD
        replace hD : D = cl op R ws rs pc := hD.out
        subst hD
        clear hH
        go_wp2_with (first
          | (refine wl_load rfl 29 (.tmp 9) rfl gE rfl 29 (cl op ns ws rs pc) _ KE Try.underlying29 rfl hz.out ?_)
          | (refine wl_load rfl 29 (.tmp 3) rfl w.heap.size rfl 29 (cl op ns ws rs pc) _ KC Try.underlying29 rfl hz.out ?_)
          | (refine wl_neq rfl 29 (.tmp 68) (.tmp 69) _ rfl (cl op ns ws rs pc) (cl op ns ws rs pc) rfl rfl (by kernel_rfl) true h1.out ?_)
          | (refine wl_load_on (by rfl) 29 (.tmp 7) (by rfl) gD (by rfl) 29 (cl op R ws rs pc) _ KD Try.underlying29 rfl hzW.out (by exact ⟨_, _, rfl, rfl, rfl⟩) ?_)
          | (refine wl_load_on (by rfl) 29 (.tmp 12) (by rfl) gW (by rfl) 29 (cl op R ws rs pc) _ KW Try.underlying29 rfl hzW.out (by exact ⟨_, _, rfl, rfl, rfl⟩) ?_)
          | (refine wl_eql_on (by rfl) (by exact ⟨_, _, rfl, rfl, rfl⟩) 29 (.tmp 82) (.tmp 83) _ (by rfl) (cl op R ws rs pc) (cl op R ws rs pc) (by rfl) (by rfl) (by kernel_rfl) true (h2.out _) ?_))
        refine (hA.out _).mono ?_
        rintro r w2 ⟨rfl, b2⟩
        go_wp2_with fail
        go_ret
        exact ⟨rfl, bl_then HB b2⟩
      | true =>
        rw [hH] at hD
        replace hD : D = cl 0 z4 z16 z16 0 := hD.out
        subst hD
        clear hH
        go_wp2_with (first
          | (refine wl_load rfl 29 (.tmp 9) rfl gE rfl 29 (cl op ns ws rs pc) _ KE Try.underlying29 rfl hz.out ?_)
          | (refine wl_load rfl 29 (.tmp 3) rfl w.heap.size rfl 29 (cl op ns ws rs pc) _ KC Try.underlying29 rfl hz.out ?_)
          | (refine wl_neq rfl 29 (.tmp 68) (.tmp 69) _ rfl (cl op ns ws rs pc) (cl op ns ws rs pc) rfl rfl (by kernel_rfl) true h1.out ?_)
          | (refine wl_load_on (by rfl) 29 (.tmp 7) (by rfl) gD (by rfl) 29 (cl 0 z4 z16 z16 0) _ KD Try.underlying29 rfl hzz.out (by exact ⟨_, _, rfl, rfl, rfl⟩) ?_)
          | (refine wl_build0_on (by rfl) 29 (by rfl) (cl 0 z4 z16 z16 0) zero_call (by exact ⟨_, _, rfl, rfl, rfl⟩) ?_)
          | (refine wl_eql_on (by rfl) (by exact ⟨_, _, rfl, rfl, rfl⟩) 29 (.tmp 90) (.tmp 91) _ (by rfl) (cl 0 z4 z16 z16 0) (cl 0 z4 z16 z16 0) (by rfl) (by rfl) (by kernel_rfl) true (h3.out _) ?_))
        refine (hA.out _).mono ?_
        rintro r w2 ⟨rfl, b2⟩
        go_wp2_with fail
        go_ret
        exact ⟨rfl, bl_then HB b2⟩
/-- What the argument is. -/
def Arg (i : Nat) (w : World) (v : Value) : Prop := Call1 v
theorem arg0 {H : Type} {enc : TypeId × Value → H} {W : World} {base : Nat} {v : Value} {d : DataW H} {p : List MemPlace} (hv : Value.okWide Try.prog W .any base 29 v)
    (h : DataW.Trod enc Try.prog W 0 (fun _ => true) true 29 v d p) : Arg 0 W v := call_of hv h
theorem walk (v : Value) (by_ hole : Int) (w : World) (h0 : Arg 0 w v) (_ : (Lit.int .i64 by_).wf = true) (_ : (Lit.int .i64 hole).wf = true) :
    Calls Try.prog 6 #[v, .int .i64 by_, .int .i64 hole] w fun e w' => e = .returned (.bool true) ∧ Below w.heap.size w w' := by
  obtain ⟨op, n0, n1, n2, n3, ws, rs, pc, hw, hr, rfl⟩ := h0
  exact main op [n0, n1, n2, n3] ws rs pc by_ hole rfl hw hr w
end Go.Proofs.Yteokofkdfeglnaa.AbiRenames
