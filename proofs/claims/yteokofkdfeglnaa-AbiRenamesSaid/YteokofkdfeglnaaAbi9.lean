/- Contracts of package abi: Renamed. -/
import Derived.Test.YteokofkdfeglnaaAbi8
set_option linter.unusedVariables false
namespace Go.Proofs.Yteokofkdfeglnaa.Abi9
open Go.RowKit Go.Proofs.Yteokofkdfeglnaa.Base Go.Proofs.Yteokofkdfeglnaa.Row Go.Proofs.Yteokofkdfeglnaa.App Go.Proofs.Yteokofkdfeglnaa.Multi Go.Proofs.Yteokofkdfeglnaa.Abi Go.Proofs.Yteokofkdfeglnaa.Abi2 Go.Proofs.Yteokofkdfeglnaa.Abi3 Go.Proofs.Yteokofkdfeglnaa.Abi4 Go.Proofs.Yteokofkdfeglnaa.StEq Go.Proofs.Yteokofkdfeglnaa.Held Go.Proofs.Yteokofkdfeglnaa.Abi5 Go.Proofs.Yteokofkdfeglnaa.Abi8

/-- What Renamed tells. -/
def rv (op : Int) (ws rs : List Int) (pc : Int) (p : List Int × Bool) : Array Value := if p.2 then cl op p.1 ws rs pc else cl 0 z4 z16 z16 0
theorem rv_no {op : Int} {ws rs : List Int} {pc : Int} {p : List Int × Bool} (h : p.2 = false) : rv op ws rs pc p = cl 0 z4 z16 z16 0 := by simp [rv, h]
def RenPost (op : Int) (ws rs : List Int) (pc : Int) (p : List Int × Bool) (w w' : World) (r : Ending) : Prop := r = .returned (.tuple #[.agg (rv op ws rs pc p), .bool p.2]) ∧ Below w.heap.size w w'
set_option maxRecDepth 100000 in
set_option maxHeartbeats 2000000 in
theorem renamed1_c (op : Int) (ns ws rs : List Int) (pc : Int) (hn : ns.length = 4) (hw : ws.length = 16) (hr : rs.length = 16) (by_ hole : Int) (b1 b2 : Nat) (w : World) (h1 : w.cell? ⟨b1, 0, none⟩ = some (.int .i64 by_)) (h2 : w.cell? ⟨b2, 0, none⟩ = some (.int .i64 hole)) :
    Calls Try.prog 20 #[.agg (cl op ns ws rs pc), .func (.func 21) #[] #[.pointer (some ⟨b1, 0, none⟩), .pointer (some ⟨b2, 0, none⟩)]] w fun r w' => RenPost op ws rs pc (run (mean by_ hole) (nm (F op) (F op).size) ns) w w' r := by
  have hN := Lib.hid (fun w => names_c op w)
  have hs4 := (F_nice op).1
  have hM := Lib.hid (fun k n W (hb : Below w.heap.size w W) => mean_c by_ hole k n b1 b2 W (bl_cell hb h1) (bl_cell hb h2))
  clear h1 h2
  have hmem := Lib.hid (fun x (h : x ∈ nm (F op) (F op).size) => nm_mem h)
  have hml := nm_le (F op) (F op).size
  have hz0 := Lib.hid (sz_cl 0 z4 z16 z16 0 rfl rfl rfl)
  replace hw := Lib.hid hw
  replace hr := Lib.hid hr
  generalize hff : (mean by_ hole) = f at *
  clear hff
  generalize (F op).size = sz at *
  generalize nm (F op) sz = l at *
  go_enter Try.func20, Try.ntmps20
  go_wp2_with (first
    | ((with_reducible refine wl_box rfl 29 _ rfl (cl op ns ws rs pc) rfl ?_); intro w1 k1 b1 s1)
    | ((with_reducible refine wl_alloc rfl 29 rfl (cl 0 z4 z16 z16 0) new_call ?_); intro w2 k2 b2 s2; have f0 := (k1.below b2).cellv 0 (.int .i64 op) rfl))
  refine (hN.out _).mono ?_
  rintro r w3 ⟨⟨A1, c1, rfl, HO⟩, b3⟩
  have K1 := (k1.below b2).below b3
  have K2 := k2.below b3
  have B3 := bl_then (bl_then b1 b2) b3
  have R := RF.of_own nv_len (by omega) HO
  have hmx := R.max
  have hz1 := b1.size
  have hne : w.heap.size ≠ w1.heap.size := by omega
  have hgne := Lib.hid (fun g' o' (e : A1 = some ⟨g', o', none⟩) => show g' ≠ w.heap.size from by have h1 := own_base HO g' (by rw [e]; rfl); have h2 := b2.size; omega)
  have hlen := R.len
  generalize l.length = m at *
  clear hlen
  clear k1 k2 b1 b2 b3 HO f0 hN
  go_wp2_with fail
  go_loopw [14] (fun i wr => ∃ (j : Nat) (ns' : List Int), j ≤ m ∧ i = .int .i64 j ∧ run f (l.take j) ns = (ns', true) ∧ ns'.length = 4 ∧ Blk wr w.heap.size 29 (cl op ns' ws rs pc) ∧ Blk wr w1.heap.size 29 (cl 0 z4 z16 z16 0) ∧ RF nv 2 wr A1 m l ∧ Below w.heap.size w wr) (fun i _ => m - (intOf i).toNat)
  case atStart => exact ⟨0, ns, by omega, rfl, run_zero f l ns, hn, K1, K2, R, B3⟩
  case round =>
    clear K1 K2 R B3
    obtain ⟨j, ns', hj, rfl, hrun, hn', K1, K2, R, HB⟩ := hrel
    obtain ⟨wo, rfl⟩ : ∃ wo : World, wo = wr := ⟨_, rfl⟩
    by_cases hlt : j < m
    · have hq : decide ((j : Int) < (m : Int)) = true := by simp; omega
      have hq2 : (j : Int) < (m : Int) := by omega
      obtain ⟨g, o, ⟨xa, xk⟩, hA1, hx, hcells⟩ := R.at_ j hlt
      have hR := Lib.hid R
      subst hA1
      obtain ⟨i, hi, hxa⟩ := hmem.out (xa, xk) (List.mem_of_getElem? hx)
      have hxa : xa = (i : Int) := hxa
      subst hxa
      have hi4 : i < 4 := by omega
      have hi4' : (i : Int) < 4 := by omega
      have hxk := Lib.hid hx
      have c0 : wo.cell? ⟨g, o + j * 2, none⟩ = some (.int .i64 (i : Int)) := hcells 0 _ rfl
      have c1 : wo.cell? ⟨g, o + j * 2 + 1, none⟩ = some (.int .i64 xk) := hcells 1 _ rfl
      have zl := K1.lt
      have zl2 := K2.lt
      have ba : Below wo.heap.size wo (wo.alloc (.cells #[.int .i64 (i : Int), .int .i64 xk] 39)) := bl_alloc (bl_refl wo) _
      have kd : Blk (wo.alloc (.cells #[.int .i64 (i : Int), .int .i64 xk] 39)) wo.heap.size 39 #[.int .i64 (i : Int), .int .i64 xk] := Blk.new wo _ _
      replace K1 := K1.below ba
      replace K2 := K2.below ba
      replace HB := bl_then HB ba
      have hst := Lib.hid (run_succ (f := f) (ns := ns) hx)
      rw [hrun] at hst
      have hfs := Lib.hid (fun h => run_false (f := f) (l := l) (ns := ns) (k := j + 1) h)
      have hbound := Lib.hid (show 1 + i < (cl op ns' ws rs pc).size by rw [cl_size _ _ _ _ _ hn' hw.out hr.out]; omega)
      have hset := Lib.hid (fun v => cl_set op ns' ws rs pc i v (by omega))
      have fk : (wo.alloc (.cells #[.int .i64 (i : Int), .int .i64 xk] 39)).cell? ⟨w.heap.size, 1 + i, none⟩ = some (.int .i64 (ns'[i]?.getD 0)) := K1.cellv (1 + i) _ (cl_get op ns' ws rs pc i (by omega))
      clear hx hcells hrun hmem
      replace hn' := Lib.hid hn'
      go_wp2_with fail
      generalize wo.alloc (.cells #[.int .i64 (i : Int), .int .i64 xk] 39) = w7 at *
      have d0 := kd.cellv 0 (.int .i64 (i : Int)) rfl
      have d1 := kd.cellv 1 (.int .i64 xk) rfl
      clear c0 c1
      go_quiet (exact Calls.quiet_of (hM.out _ _ _ (bl_drewN HB _)))
      obtain ⟨W8, hW8⟩ : ∃ W8, W8 = w7.drewN nq := ⟨_, rfl⟩
      replace K1 : Blk W8 w.heap.size 29 (cl op ns' ws rs pc) := by rw [hW8]; exact K1.drewN _
      replace K2 : Blk W8 w1.heap.size 29 (cl 0 z4 z16 z16 0) := by rw [hW8]; exact K2.drewN _
      replace kd : Blk W8 wo.heap.size 39 #[.int .i64 (i : Int), .int .i64 xk] := by rw [hW8]; exact kd.drewN _
      replace HB : Below w.heap.size w W8 := by rw [hW8]; exact bl_drewN HB _
      replace ba : Below wo.heap.size wo W8 := by rw [hW8]; exact bl_drewN ba _
      rw [← hW8]
      clear hW8 fk d0 d1
      have d0 := kd.cellv 0 (.int .i64 (i : Int)) rfl
      have hst' : run f (l.take (j + 1)) ns = (ns'.set i (f xk (ns'[i]?.getD 0)).1, (f xk (ns'[i]?.getD 0)).2) := by rw [hst.out]; simp [stp]
      replace hst := Lib.hid hst'
      clear hst'
      generalize (f xk (ns'[i]?.getD 0)).1 = v at *
      generalize (f xk (ns'[i]?.getD 0)).2 = u at *
      cases u with
      | false =>
        replace hfs := Lib.hid (hfs.out (by rw [hst.out]))
        go_wp2_with (first
          | (with_reducible refine wl_build0 rfl 29 rfl (cl 0 z4 z16 z16 0) zero_call ?_)
          | ((refine wl_store rfl 29 _ _ rfl w1.heap.size rfl (cl 0 z4 z16 z16 0) rfl 29 (cl 0 z4 z16 z16 0) K2 hz0.out rfl (cl_one _ _ _ _ _) ?_); intro w9 k9 g9 s9))
        refine bodyPost_ret (res_cell_tmp rfl _ _ _ w1.heap.size 29 (cl 0 z4 z16 z16 0) _ rfl k9 Try.underlying29 rfl hz0.out) rfl ?_
        exact ⟨by rw [rv_no hfs.out, hfs.out]; rfl, below_grown HB HB.size g9 (by omega)⟩
      | true =>
        go_wp2_with (first
          | ((refine wl_set rfl 3 _ _ rfl w.heap.size (1 + i) rfl (.int .i64 v) rfl rfl 29 (cl op ns' ws rs pc) K1 (by kernel_rfl) hbound.out ?_); intro w9 k9 g9 s9))
        rw [hset.out] at k9
        have R9 : RF nv 2 w9 (some ⟨g, o, none⟩) m l := by
          refine ⟨hR.out.len, hR.out.max, fun hp => ?_⟩
          obtain ⟨g', o', e', hc'⟩ := hR.out.cells hp
          refine ⟨g', o', e', fun q y hy jj vv hvv => ?_⟩
          have h1 := bl_cell ba (hc' q y hy jj vv hvv)
          exact g9.cell h1 (fun e => by injection e with e; exact hgne.out g' o' e' e)
        go_roundw
        case rel => exact ⟨j + 1, ns'.set i v, by omega, by go_num, hst.out, by rw [List.length_set]; exact hn'.out, k9, K2.grown g9 (fun e => by injection e with e; omega), R9, below_grown HB HB.size g9 (Nat.le_refl _)⟩
        case measure => first | (simp [intOf]; done) | (simp [intOf]; omega)
    · obtain rfl : j = m := by omega
      have hq : decide ((j : Int) < (j : Int)) = false := by simp
      have hz1 := Lib.hid (sz_cl op ns' ws rs pc hn' hw.out hr.out)
      have hzs := Lib.hid (show (cl 0 z4 z16 z16 0).size = (cl op ns' ws rs pc).size by rw [cl_size _ _ _ _ _ hn' hw.out hr.out]; rfl)
      rw [List.take_of_length_le (by rw [R.len]; omega)] at hrun
      replace hrun := Lib.hid hrun
      go_wp2_with (first
        | (with_reducible refine wl_load rfl 29 _ rfl w.heap.size rfl 29 (cl op ns' ws rs pc) _ K1 Try.underlying29 rfl hz1.out ?_)
        | ((refine wl_store rfl 29 _ _ rfl w1.heap.size rfl (cl op ns' ws rs pc) rfl 29 (cl 0 z4 z16 z16 0) K2 hz1.out hzs.out (cl_one _ _ _ _ _) ?_); intro w9 k9 g9 s9))
      refine bodyPost_ret (res_cell_tmp rfl _ _ _ w1.heap.size 29 (cl op ns' ws rs pc) _ rfl k9 Try.underlying29 rfl hz1.out) rfl ?_
      exact ⟨by rw [hrun.out]; rfl, below_grown HB HB.size g9 (by omega)⟩
set_option maxRecDepth 100000 in
set_option maxHeartbeats 2000000 in
theorem renamed2_c (op : Int) (ns ws rs : List Int) (pc : Int) (hn : ns.length = 4) (hw : ws.length = 16) (hr : rs.length = 16) (w : World) :
    Calls Try.prog 20 #[.agg (cl op ns ws rs pc), .func (.func 22) #[] #[]] w fun r w' => RenPost op ws rs pc (run same (nm (F op) (F op).size) ns) w w' r := by
  have hN := Lib.hid (fun w => names_c op w)
  have hs4 := (F_nice op).1
  have hM := Lib.hid (fun k n W (hb : Below w.heap.size w W) => same_c k n W)
  have hmem := Lib.hid (fun x (h : x ∈ nm (F op) (F op).size) => nm_mem h)
  have hml := nm_le (F op) (F op).size
  have hz0 := Lib.hid (sz_cl 0 z4 z16 z16 0 rfl rfl rfl)
  replace hw := Lib.hid hw
  replace hr := Lib.hid hr
  generalize hff : same = f at *
  clear hff
  generalize (F op).size = sz at *
  generalize nm (F op) sz = l at *
  go_enter Try.func20, Try.ntmps20
  go_wp2_with (first
    | ((with_reducible refine wl_box rfl 29 _ rfl (cl op ns ws rs pc) rfl ?_); intro w1 k1 b1 s1)
    | ((with_reducible refine wl_alloc rfl 29 rfl (cl 0 z4 z16 z16 0) new_call ?_); intro w2 k2 b2 s2; have f0 := (k1.below b2).cellv 0 (.int .i64 op) rfl))
  refine (hN.out _).mono ?_
  rintro r w3 ⟨⟨A1, c1, rfl, HO⟩, b3⟩
  have K1 := (k1.below b2).below b3
  have K2 := k2.below b3
  have B3 := bl_then (bl_then b1 b2) b3
  have R := RF.of_own nv_len (by omega) HO
  have hmx := R.max
  have hz1 := b1.size
  have hne : w.heap.size ≠ w1.heap.size := by omega
  have hgne := Lib.hid (fun g' o' (e : A1 = some ⟨g', o', none⟩) => show g' ≠ w.heap.size from by have h1 := own_base HO g' (by rw [e]; rfl); have h2 := b2.size; omega)
  have hlen := R.len
  generalize l.length = m at *
  clear hlen
  clear k1 k2 b1 b2 b3 HO f0 hN
  go_wp2_with fail
  go_loopw [14] (fun i wr => ∃ (j : Nat) (ns' : List Int), j ≤ m ∧ i = .int .i64 j ∧ run f (l.take j) ns = (ns', true) ∧ ns'.length = 4 ∧ Blk wr w.heap.size 29 (cl op ns' ws rs pc) ∧ Blk wr w1.heap.size 29 (cl 0 z4 z16 z16 0) ∧ RF nv 2 wr A1 m l ∧ Below w.heap.size w wr) (fun i _ => m - (intOf i).toNat)
  case atStart => exact ⟨0, ns, by omega, rfl, run_zero f l ns, hn, K1, K2, R, B3⟩
  case round =>
    clear K1 K2 R B3
    obtain ⟨j, ns', hj, rfl, hrun, hn', K1, K2, R, HB⟩ := hrel
    obtain ⟨wo, rfl⟩ : ∃ wo : World, wo = wr := ⟨_, rfl⟩
    by_cases hlt : j < m
    · have hq : decide ((j : Int) < (m : Int)) = true := by simp; omega
      have hq2 : (j : Int) < (m : Int) := by omega
      obtain ⟨g, o, ⟨xa, xk⟩, hA1, hx, hcells⟩ := R.at_ j hlt
      have hR := Lib.hid R
      subst hA1
      obtain ⟨i, hi, hxa⟩ := hmem.out (xa, xk) (List.mem_of_getElem? hx)
      have hxa : xa = (i : Int) := hxa
      subst hxa
      have hi4 : i < 4 := by omega
      have hi4' : (i : Int) < 4 := by omega
      have hxk := Lib.hid hx
      have c0 : wo.cell? ⟨g, o + j * 2, none⟩ = some (.int .i64 (i : Int)) := hcells 0 _ rfl
      have c1 : wo.cell? ⟨g, o + j * 2 + 1, none⟩ = some (.int .i64 xk) := hcells 1 _ rfl
      have zl := K1.lt
      have zl2 := K2.lt
      have ba : Below wo.heap.size wo (wo.alloc (.cells #[.int .i64 (i : Int), .int .i64 xk] 39)) := bl_alloc (bl_refl wo) _
      have kd : Blk (wo.alloc (.cells #[.int .i64 (i : Int), .int .i64 xk] 39)) wo.heap.size 39 #[.int .i64 (i : Int), .int .i64 xk] := Blk.new wo _ _
      replace K1 := K1.below ba
      replace K2 := K2.below ba
      replace HB := bl_then HB ba
      have hst := Lib.hid (run_succ (f := f) (ns := ns) hx)
      rw [hrun] at hst
      have hfs := Lib.hid (fun h => run_false (f := f) (l := l) (ns := ns) (k := j + 1) h)
      have hbound := Lib.hid (show 1 + i < (cl op ns' ws rs pc).size by rw [cl_size _ _ _ _ _ hn' hw.out hr.out]; omega)
      have hset := Lib.hid (fun v => cl_set op ns' ws rs pc i v (by omega))
      have fk : (wo.alloc (.cells #[.int .i64 (i : Int), .int .i64 xk] 39)).cell? ⟨w.heap.size, 1 + i, none⟩ = some (.int .i64 (ns'[i]?.getD 0)) := K1.cellv (1 + i) _ (cl_get op ns' ws rs pc i (by omega))
      clear hx hcells hrun hmem
      replace hn' := Lib.hid hn'
      go_wp2_with fail
      generalize wo.alloc (.cells #[.int .i64 (i : Int), .int .i64 xk] 39) = w7 at *
      have d0 := kd.cellv 0 (.int .i64 (i : Int)) rfl
      have d1 := kd.cellv 1 (.int .i64 xk) rfl
      clear c0 c1
      go_quiet (exact Calls.quiet_of (hM.out _ _ _ (bl_drewN HB _)))
      obtain ⟨W8, hW8⟩ : ∃ W8, W8 = w7.drewN nq := ⟨_, rfl⟩
      replace K1 : Blk W8 w.heap.size 29 (cl op ns' ws rs pc) := by rw [hW8]; exact K1.drewN _
      replace K2 : Blk W8 w1.heap.size 29 (cl 0 z4 z16 z16 0) := by rw [hW8]; exact K2.drewN _
      replace kd : Blk W8 wo.heap.size 39 #[.int .i64 (i : Int), .int .i64 xk] := by rw [hW8]; exact kd.drewN _
      replace HB : Below w.heap.size w W8 := by rw [hW8]; exact bl_drewN HB _
      replace ba : Below wo.heap.size wo W8 := by rw [hW8]; exact bl_drewN ba _
      rw [← hW8]
      clear hW8 fk d0 d1
      have d0 := kd.cellv 0 (.int .i64 (i : Int)) rfl
      have hst' : run f (l.take (j + 1)) ns = (ns'.set i (f xk (ns'[i]?.getD 0)).1, (f xk (ns'[i]?.getD 0)).2) := by rw [hst.out]; simp [stp]
      replace hst := Lib.hid hst'
      clear hst'
      generalize (f xk (ns'[i]?.getD 0)).1 = v at *
      generalize (f xk (ns'[i]?.getD 0)).2 = u at *
      cases u with
      | false =>
        replace hfs := Lib.hid (hfs.out (by rw [hst.out]))
        go_wp2_with (first
          | (with_reducible refine wl_build0 rfl 29 rfl (cl 0 z4 z16 z16 0) zero_call ?_)
          | ((refine wl_store rfl 29 _ _ rfl w1.heap.size rfl (cl 0 z4 z16 z16 0) rfl 29 (cl 0 z4 z16 z16 0) K2 hz0.out rfl (cl_one _ _ _ _ _) ?_); intro w9 k9 g9 s9))
        refine bodyPost_ret (res_cell_tmp rfl _ _ _ w1.heap.size 29 (cl 0 z4 z16 z16 0) _ rfl k9 Try.underlying29 rfl hz0.out) rfl ?_
        exact ⟨by rw [rv_no hfs.out, hfs.out]; rfl, below_grown HB HB.size g9 (by omega)⟩
      | true =>
        go_wp2_with (first
          | ((refine wl_set rfl 3 _ _ rfl w.heap.size (1 + i) rfl (.int .i64 v) rfl rfl 29 (cl op ns' ws rs pc) K1 (by kernel_rfl) hbound.out ?_); intro w9 k9 g9 s9))
        rw [hset.out] at k9
        have R9 : RF nv 2 w9 (some ⟨g, o, none⟩) m l := by
          refine ⟨hR.out.len, hR.out.max, fun hp => ?_⟩
          obtain ⟨g', o', e', hc'⟩ := hR.out.cells hp
          refine ⟨g', o', e', fun q y hy jj vv hvv => ?_⟩
          have h1 := bl_cell ba (hc' q y hy jj vv hvv)
          exact g9.cell h1 (fun e => by injection e with e; exact hgne.out g' o' e' e)
        go_roundw
        case rel => exact ⟨j + 1, ns'.set i v, by omega, by go_num, hst.out, by rw [List.length_set]; exact hn'.out, k9, K2.grown g9 (fun e => by injection e with e; omega), R9, below_grown HB HB.size g9 (Nat.le_refl _)⟩
        case measure => first | (simp [intOf]; done) | (simp [intOf]; omega)
    · obtain rfl : j = m := by omega
      have hq : decide ((j : Int) < (j : Int)) = false := by simp
      have hz1 := Lib.hid (sz_cl op ns' ws rs pc hn' hw.out hr.out)
      have hzs := Lib.hid (show (cl 0 z4 z16 z16 0).size = (cl op ns' ws rs pc).size by rw [cl_size _ _ _ _ _ hn' hw.out hr.out]; rfl)
      rw [List.take_of_length_le (by rw [R.len]; omega)] at hrun
      replace hrun := Lib.hid hrun
      go_wp2_with (first
        | (with_reducible refine wl_load rfl 29 _ rfl w.heap.size rfl 29 (cl op ns' ws rs pc) _ K1 Try.underlying29 rfl hz1.out ?_)
        | ((refine wl_store rfl 29 _ _ rfl w1.heap.size rfl (cl op ns' ws rs pc) rfl 29 (cl 0 z4 z16 z16 0) K2 hz1.out hzs.out (cl_one _ _ _ _ _) ?_); intro w9 k9 g9 s9))
      refine bodyPost_ret (res_cell_tmp rfl _ _ _ w1.heap.size 29 (cl op ns' ws rs pc) _ rfl k9 Try.underlying29 rfl hz1.out) rfl ?_
      exact ⟨by rw [hrun.out]; rfl, below_grown HB HB.size g9 (by omega)⟩
end Go.Proofs.Yteokofkdfeglnaa.Abi9
