/- Contract of package dir's Room. -/
import Derived.Test.YthihpejhhimkaaaDoorDir7
import Derived.BigQuiet
set_option linter.unusedVariables false
namespace Go.Proofs.YthihpejhhimkaaaDoor.Dir8
open Go.RowKit Go.Proofs.YthihpejhhimkaaaDoor.Base Go.Proofs.YthihpejhhimkaaaDoor.Row Go.Proofs.YthihpejhhimkaaaDoor.App Go.Proofs.YthihpejhhimkaaaDoor.Multi Go.Proofs.YthihpejhhimkaaaDoor.StEq Go.Proofs.YthihpejhhimkaaaDoor.Held Go.Proofs.YthihpejhhimkaaaDoor.Out Go.Proofs.YthihpejhhimkaaaDoor.HeldW Go.Proofs.YthihpejhhimkaaaDoor.HeldX Go.Proofs.YthihpejhhimkaaaDoor.DiskMath Go.Proofs.YthihpejhhimkaaaDoor.Dir Go.Proofs.YthihpejhhimkaaaDoor.Dir2 Go.Proofs.YthihpejhhimkaaaDoor.Dir3 Go.Proofs.YthihpejhhimkaaaDoor.Dir4 Go.Proofs.YthihpejhhimkaaaDoor.Dir5 Go.Proofs.YthihpejhhimkaaaDoor.Dir6

/-- Whether a place is free. -/
def free (d : Bk) (n : Nat) : Bool := rightB (getE d n) && (getE d n).i == 0
/-- The first free place, or 4. -/
def ri (d : Bk) : Nat := (List.range 4).findIdx (free d)
theorem ri_le (d : Bk) : ri d ≤ 4 := by
  have := List.findIdx_le_length (p := free d) (xs := List.range 4)
  simpa [ri] using this
theorem ri_no {d : Bk} (j : Nat) (hj : j < ri d) : free d j = false := by
  have h1 := List.not_of_lt_findIdx hj
  simpa using h1
theorem ri_yes {d : Bk} (h : ri d < 4) : free d (ri d) = true := by
  have h1 := List.findIdx_getElem (xs := List.range 4) (p := free d) (w := by simpa [ri] using h)
  simpa [ri] using h1
theorem chainA2 : ∀ a b : Bool, a = false ∨ (a = true ∧ b = false) ∨ (a = true ∧ b = true) := by decide
set_option maxRecDepth 100000 in
set_option maxHeartbeats 2000000 in
theorem room_c (d : Bk) (w : World) (hd : Okb d) :
    Calls Tryd.prog 18 #[.agg (bc d)] w fun r w' => r = .returned (.tuple #[.int .i64 (if ri d < 4 then ((ri d : Nat) : Int) else 0), .bool (decide (ri d < 4))]) ∧ Below w.heap.size w w' := by
  have hG := Lib.hid (fun (n : Nat) (hn : n < 4) w' => get_c d (n : Int) n w' hn rfl hd)
  have hle := Lib.hid (ri_le d)
  go_enter Tryd.func18, Tryd.ntmps18
  go_wp2_with (first
    | ((with_reducible refine wl_box rfl 27 _ rfl (bc d) rfl ?_); intro w1 k1 b1 s1))
  go_loopw [7] (fun i wr => ∃ j : Nat, j ≤ ri d ∧ i = .int .i64 j ∧ Blk wr w.heap.size 27 (bc d) ∧ Below w.heap.size w wr) (fun i _ => 4 - (intOf i).toNat)
  case atStart => exact ⟨0, by omega, rfl, k1, b1⟩
  case round =>
    obtain ⟨j, hj, rfl, K1, HB⟩ := hrel
    obtain ⟨wo, rfl⟩ : ∃ wo : World, wo = wr := ⟨_, rfl⟩
    by_cases hlt : j < 4
    · have hq : decide ((j : Int) < 4) = true := by simp; omega
      have hhit : Hid (free d j = (rightB (getE d j) && (getE d j).i == 0)) := Lib.hid rfl
      have hge := Lib.hid (gotE_b d j)
      have hC := Lib.hid (hG.out j hlt)
      rcases chainA2 (rightB (getE d j)) ((getE d j).i == 0) with r | ⟨r0, r⟩ | ⟨r0, r⟩
      case inl =>
        have hfin : Hid (j + 1 ≤ ri d) := Lib.hid (by
          rcases Nat.lt_or_ge j (ri d) with h | h
          · exact h
          · have e1 : j = ri d := by omega
            have := ri_yes (d := d) (by omega)
            rw [← e1, hhit.out, r] at this; simp at this)
        have hP := Lib.hid (hC.out wo)
        rw [r] at hP
        generalize gotE d j = e at *
        clear hC hge hhit r
        go_wp2_with (first
          | (refine wl_load rfl 27 (.tmp 1) rfl w.heap.size rfl 27 (bc d) _ K1 Tryd.underlying27 rfl (sz_bc _) ?_))
        refine (hP.out).mono ?_
        rintro r wc ⟨rfl, bc1⟩
        have K1 := K1.below bc1
        have HB := bl_then HB bc1
        have zk1 := K1.lt
        clear bc1 hP
        go_wp2_with (first
          | ((with_reducible refine wl_alloc rfl 30 rfl (ea ⟨⟨#[]⟩, 0⟩) new_e ?_); intro w5 k5 b5 s5; have K1 := K1.below b5; have HB := bl_then HB b5)
          | ((refine wl_store rfl 30 (.tmp 5) (.tmp 14) rfl wc.heap.size rfl (ea e) rfl 30 (ea ⟨⟨#[]⟩, 0⟩) k5 (sz_ea _) rfl (ea_one _) ?_); intro w6 k6 g6 s6; have K1 := K1.grown g6 (fun e => by injection e with e; omega); have HB := below_grown HB HB.size g6 (by omega); have c0 : w6.cell? ⟨wc.heap.size, 0, none⟩ = some (.string e.s) := k6.cellv 0 _ rfl; have c1 : w6.cell? ⟨wc.heap.size, 1, none⟩ = some (.int .i64 e.i) := k6.cellv 1 _ rfl))
        go_roundw
        case rel => exact ⟨j + 1, hfin.out, by go_num, K1, HB⟩
        case measure => first | (simp [intOf]; done) | (simp [intOf]; omega)
      case inr.inl =>
        have hfin : Hid (j + 1 ≤ ri d) := Lib.hid (by
          rcases Nat.lt_or_ge j (ri d) with h | h
          · exact h
          · have e1 : j = ri d := by omega
            have := ri_yes (d := d) (by omega)
            rw [← e1, hhit.out, r0, r] at this; simp at this)
        have hP := Lib.hid (hC.out wo)
        rw [r0, hge.out r0] at hP
        generalize getE d j = e at *
        clear hC hge hhit r0
        have p1 : ¬ e.i = 0 := by simpa using r
        go_wp2_with (first
          | (refine wl_load rfl 27 (.tmp 1) rfl w.heap.size rfl 27 (bc d) _ K1 Tryd.underlying27 rfl (sz_bc _) ?_))
        refine (hP.out).mono ?_
        rintro r wc ⟨rfl, bc1⟩
        have K1 := K1.below bc1
        have HB := bl_then HB bc1
        have zk1 := K1.lt
        clear bc1 hP
        go_wp2_with (first
          | ((with_reducible refine wl_alloc rfl 30 rfl (ea ⟨⟨#[]⟩, 0⟩) new_e ?_); intro w5 k5 b5 s5; have K1 := K1.below b5; have HB := bl_then HB b5)
          | ((refine wl_store rfl 30 (.tmp 5) (.tmp 14) rfl wc.heap.size rfl (ea e) rfl 30 (ea ⟨⟨#[]⟩, 0⟩) k5 (sz_ea _) rfl (ea_one _) ?_); intro w6 k6 g6 s6; have K1 := K1.grown g6 (fun e => by injection e with e; omega); have HB := below_grown HB HB.size g6 (by omega); have c0 : w6.cell? ⟨wc.heap.size, 0, none⟩ = some (.string e.s) := k6.cellv 0 _ rfl; have c1 : w6.cell? ⟨wc.heap.size, 1, none⟩ = some (.int .i64 e.i) := k6.cellv 1 _ rfl))
        go_roundw
        case rel => exact ⟨j + 1, hfin.out, by go_num, K1, HB⟩
        case measure => first | (simp [intOf]; done) | (simp [intOf]; omega)
      case inr.inr =>
        have hfin : Hid (j = ri d) := Lib.hid (by
          rcases Nat.lt_or_ge j (ri d) with h | h
          · have := ri_no j h
            rw [hhit.out, r0, r] at this; simp at this
          · omega)
        have hP := Lib.hid (hC.out wo)
        rw [r0, hge.out r0] at hP
        have hf4 : ri d < 4 := by have := hfin.out; omega
        generalize getE d j = e at *
        clear hC hge hhit r0
        have p1 : e.i = 0 := by simpa using r
        go_wp2_with (first
          | (refine wl_load rfl 27 (.tmp 1) rfl w.heap.size rfl 27 (bc d) _ K1 Tryd.underlying27 rfl (sz_bc _) ?_))
        refine (hP.out).mono ?_
        rintro r wc ⟨rfl, bc1⟩
        have K1 := K1.below bc1
        have HB := bl_then HB bc1
        have zk1 := K1.lt
        clear bc1 hP
        go_wp2_with (first
          | ((with_reducible refine wl_alloc rfl 30 rfl (ea ⟨⟨#[]⟩, 0⟩) new_e ?_); intro w5 k5 b5 s5; have K1 := K1.below b5; have HB := bl_then HB b5)
          | ((refine wl_store rfl 30 (.tmp 5) (.tmp 14) rfl wc.heap.size rfl (ea e) rfl 30 (ea ⟨⟨#[]⟩, 0⟩) k5 (sz_ea _) rfl (ea_one _) ?_); intro w6 k6 g6 s6; have K1 := K1.grown g6 (fun e => by injection e with e; omega); have HB := below_grown HB HB.size g6 (by omega); have c0 : w6.cell? ⟨wc.heap.size, 0, none⟩ = some (.string e.s) := k6.cellv 0 _ rfl; have c1 : w6.cell? ⟨wc.heap.size, 1, none⟩ = some (.int .i64 e.i) := k6.cellv 1 _ rfl))
        try go_quiet (fail)
        try go_wp2_with fail
        refine bodyPost_ret (results_tmp2 rfl _ _ _) rfl ⟨?_, HB⟩
        rw [← hfin.out]
        rfl
    · have hq : decide ((j : Int) < 4) = false := by simp; omega
      have hfin : Hid (¬ ri d < 4) := Lib.hid (by omega)
      go_wp2_with fail
      refine bodyPost_ret (results_tmp2 rfl _ _ _) rfl ⟨?_, HB⟩
      simp
end Go.Proofs.YthihpejhhimkaaaDoor.Dir8
