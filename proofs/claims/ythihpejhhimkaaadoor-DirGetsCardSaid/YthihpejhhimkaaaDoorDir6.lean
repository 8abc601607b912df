/- Contract of package dir's Find. -/
import Derived.Test.YthihpejhhimkaaaDoorDir5
import Derived.BigQuiet
set_option linter.unusedVariables false
namespace Go.Proofs.YthihpejhhimkaaaDoor.Dir6
open Go.RowKit Go.Proofs.YthihpejhhimkaaaDoor.Base Go.Proofs.YthihpejhhimkaaaDoor.Row Go.Proofs.YthihpejhhimkaaaDoor.App Go.Proofs.YthihpejhhimkaaaDoor.Multi Go.Proofs.YthihpejhhimkaaaDoor.StEq Go.Proofs.YthihpejhhimkaaaDoor.Held Go.Proofs.YthihpejhhimkaaaDoor.Out Go.Proofs.YthihpejhhimkaaaDoor.HeldW Go.Proofs.YthihpejhhimkaaaDoor.HeldX Go.Proofs.YthihpejhhimkaaaDoor.DiskMath Go.Proofs.YthihpejhhimkaaaDoor.Dir Go.Proofs.YthihpejhhimkaaaDoor.Dir2 Go.Proofs.YthihpejhhimkaaaDoor.Dir3 Go.Proofs.YthihpejhhimkaaaDoor.Dir4 Go.Proofs.YthihpejhhimkaaaDoor.Dir5

/-- Whether the entry at a place is the named file's. -/
def hit (d : Bk) (s : ByteArray) (n : Nat) : Bool := rightB (getE d n) && (decide (0 < (getE d n).i) && (getE d n).s.toList == s.toList)
/-- The first place of the named file, or 4. -/
def fi (d : Bk) (s : ByteArray) : Nat := (List.range 4).findIdx (hit d s)
theorem fi_le (d : Bk) (s : ByteArray) : fi d s ≤ 4 := by
  have := List.findIdx_le_length (p := hit d s) (xs := List.range 4)
  simpa [fi] using this
theorem fi_no {d : Bk} {s : ByteArray} (j : Nat) (hj : j < fi d s) : hit d s j = false := by
  have h1 := List.not_of_lt_findIdx hj
  simpa using h1
theorem fi_yes {d : Bk} {s : ByteArray} (h : fi d s < 4) : hit d s (fi d s) = true := by
  have h1 := List.findIdx_getElem (xs := List.range 4) (p := hit d s) (w := by simpa [fi] using h)
  simpa [fi] using h1
theorem gotE_b (d : Bk) (n : Nat) (h : rightB (getE d n) = true) : gotE d n = getE d n := by unfold gotE; rw [if_pos h]
theorem chainA3 : ∀ a b c : Bool, a = false ∨ (a = true ∧ b = false) ∨ (a = true ∧ b = true ∧ c = false) ∨ (a = true ∧ b = true ∧ c = true) := by decide
set_option maxRecDepth 100000 in
set_option maxHeartbeats 2000000 in
theorem find_c (d : Bk) (s : ByteArray) (w : World) (hd : Okb d) :
    Calls Tryd.prog 17 #[.agg (bc d), .string s] w fun r w' => r = .returned (.tuple #[.int .i64 (if fi d s < 4 then ((fi d s : Nat) : Int) else 0), .int .i64 (if fi d s < 4 then (getE d (fi d s)).i else 0), .bool (decide (fi d s < 4))]) ∧ Below w.heap.size w w' := by
  have hG := Lib.hid (fun (n : Nat) (hn : n < 4) w' => get_c d (n : Int) n w' hn rfl hd)
  have hle := Lib.hid (fi_le d s)
  go_enter Tryd.func17, Tryd.ntmps17
  go_wp2_with (first
    | ((with_reducible refine wl_box rfl 27 _ rfl (bc d) rfl ?_); intro w1 k1 b1 s1))
  go_loopw [10] (fun i wr => ∃ j : Nat, j ≤ fi d s ∧ i = .int .i64 j ∧ Blk wr w.heap.size 27 (bc d) ∧ Below w.heap.size w wr) (fun i _ => 4 - (intOf i).toNat)
  case atStart => exact ⟨0, by omega, rfl, k1, b1⟩
  case round =>
    obtain ⟨j, hj, rfl, K1, HB⟩ := hrel
    obtain ⟨wo, rfl⟩ : ∃ wo : World, wo = wr := ⟨_, rfl⟩
    by_cases hlt : j < 4
    · have hq : decide ((j : Int) < 4) = true := by simp; omega
      have hhit : Hid (hit d s j = (rightB (getE d j) && (decide (0 < (getE d j).i) && (getE d j).s.toList == s.toList))) := Lib.hid rfl
      have hge := Lib.hid (gotE_b d j)
      have hC := Lib.hid (hG.out j hlt)
      rcases chainA3 (rightB (getE d j)) (decide (0 < (getE d j).i)) ((getE d j).s.toList == s.toList) with r | ⟨r0, r⟩ | ⟨r0, r1, r⟩ | ⟨r0, r1, r⟩
      case inl =>
        have hfin : Hid (j + 1 ≤ fi d s) := Lib.hid (by
          rcases Nat.lt_or_ge j (fi d s) with h | h
          · exact h
          · have e1 : j = fi d s := by omega
            have := fi_yes (d := d) (s := s) (by omega)
            rw [← e1, hhit.out, r] at this; cases this)
        have hP := Lib.hid (hC.out wo)
        rw [r] at hP
        generalize gotE d j = e at *
        clear hC hge hhit r
        go_wp2_with (first
          | (refine wl_load rfl 27 (.tmp 2) rfl w.heap.size rfl 27 (bc d) _ K1 Tryd.underlying27 rfl (sz_bc _) ?_))
        refine (hP.out).mono ?_
        rintro r wc ⟨rfl, bc1⟩
        have K1 := K1.below bc1
        have HB := bl_then HB bc1
        have zk1 := K1.lt
        clear bc1 hP
        go_wp2_with (first
          | ((with_reducible refine wl_alloc rfl 30 rfl (ea ⟨⟨#[]⟩, 0⟩) new_e ?_); intro w5 k5 b5 s5; have K1 := K1.below b5; have HB := bl_then HB b5)
          | ((refine wl_store rfl 30 (.tmp 8) (.tmp 17) rfl wc.heap.size rfl (ea e) rfl 30 (ea ⟨⟨#[]⟩, 0⟩) k5 (sz_ea _) rfl (ea_one _) ?_); intro w6 k6 g6 s6; have K1 := K1.grown g6 (fun e => by injection e with e; omega); have HB := below_grown HB HB.size g6 (by omega); have c0 : w6.cell? ⟨wc.heap.size, 0, none⟩ = some (.string e.s) := k6.cellv 0 _ rfl; have c1 : w6.cell? ⟨wc.heap.size, 1, none⟩ = some (.int .i64 e.i) := k6.cellv 1 _ rfl))
        go_roundw
        case rel => exact ⟨j + 1, hfin.out, by go_num, K1, HB⟩
        case measure => first | (simp [intOf]; done) | (simp [intOf]; omega)
      case inr.inl =>
        have hfin : Hid (j + 1 ≤ fi d s) := Lib.hid (by
          rcases Nat.lt_or_ge j (fi d s) with h | h
          · exact h
          · have e1 : j = fi d s := by omega
            have := fi_yes (d := d) (s := s) (by omega)
            rw [← e1, hhit.out, r0, r] at this; simp at this)
        have hP := Lib.hid (hC.out wo)
        rw [r0, hge.out r0] at hP
        generalize getE d j = e at *
        clear hC hge hhit r0
        have p1 : ¬ 0 < e.i := by simpa using r
        go_wp2_with (first
          | (refine wl_load rfl 27 (.tmp 2) rfl w.heap.size rfl 27 (bc d) _ K1 Tryd.underlying27 rfl (sz_bc _) ?_))
        refine (hP.out).mono ?_
        rintro r wc ⟨rfl, bc1⟩
        have K1 := K1.below bc1
        have HB := bl_then HB bc1
        have zk1 := K1.lt
        clear bc1 hP
        go_wp2_with (first
          | ((with_reducible refine wl_alloc rfl 30 rfl (ea ⟨⟨#[]⟩, 0⟩) new_e ?_); intro w5 k5 b5 s5; have K1 := K1.below b5; have HB := bl_then HB b5)
          | ((refine wl_store rfl 30 (.tmp 8) (.tmp 17) rfl wc.heap.size rfl (ea e) rfl 30 (ea ⟨⟨#[]⟩, 0⟩) k5 (sz_ea _) rfl (ea_one _) ?_); intro w6 k6 g6 s6; have K1 := K1.grown g6 (fun e => by injection e with e; omega); have HB := below_grown HB HB.size g6 (by omega); have c0 : w6.cell? ⟨wc.heap.size, 0, none⟩ = some (.string e.s) := k6.cellv 0 _ rfl; have c1 : w6.cell? ⟨wc.heap.size, 1, none⟩ = some (.int .i64 e.i) := k6.cellv 1 _ rfl))
        go_roundw
        case rel => exact ⟨j + 1, hfin.out, by go_num, K1, HB⟩
        case measure => first | (simp [intOf]; done) | (simp [intOf]; omega)
      case inr.inr.inl =>
        have hfin : Hid (j + 1 ≤ fi d s) := Lib.hid (by
          rcases Nat.lt_or_ge j (fi d s) with h | h
          · exact h
          · have e1 : j = fi d s := by omega
            have := fi_yes (d := d) (s := s) (by omega)
            rw [← e1, hhit.out, r0, r1, r] at this; simp at this)
        have hP := Lib.hid (hC.out wo)
        rw [r0, hge.out r0] at hP
        generalize getE d j = e at *
        clear hC hge hhit r0
        have p1 : 0 < e.i := by simpa using r1
        have p2 : ¬ e.s.toList = s.toList := by simpa using r
        go_wp2_with (first
          | (refine wl_load rfl 27 (.tmp 2) rfl w.heap.size rfl 27 (bc d) _ K1 Tryd.underlying27 rfl (sz_bc _) ?_))
        refine (hP.out).mono ?_
        rintro r wc ⟨rfl, bc1⟩
        have K1 := K1.below bc1
        have HB := bl_then HB bc1
        have zk1 := K1.lt
        clear bc1 hP
        go_wp2_with (first
          | ((with_reducible refine wl_alloc rfl 30 rfl (ea ⟨⟨#[]⟩, 0⟩) new_e ?_); intro w5 k5 b5 s5; have K1 := K1.below b5; have HB := bl_then HB b5)
          | ((refine wl_store rfl 30 (.tmp 8) (.tmp 17) rfl wc.heap.size rfl (ea e) rfl 30 (ea ⟨⟨#[]⟩, 0⟩) k5 (sz_ea _) rfl (ea_one _) ?_); intro w6 k6 g6 s6; have K1 := K1.grown g6 (fun e => by injection e with e; omega); have HB := below_grown HB HB.size g6 (by omega); have c0 : w6.cell? ⟨wc.heap.size, 0, none⟩ = some (.string e.s) := k6.cellv 0 _ rfl; have c1 : w6.cell? ⟨wc.heap.size, 1, none⟩ = some (.int .i64 e.i) := k6.cellv 1 _ rfl))
        go_roundw
        case rel => exact ⟨j + 1, hfin.out, by go_num, K1, HB⟩
        case measure => first | (simp [intOf]; done) | (simp [intOf]; omega)
      case inr.inr.inr =>
        have hfin : Hid (j = fi d s) := Lib.hid (by
          rcases Nat.lt_or_ge j (fi d s) with h | h
          · have := fi_no j h
            rw [hhit.out, r0, r1, r] at this; simp at this
          · omega)
        have hP := Lib.hid (hC.out wo)
        rw [r0, hge.out r0] at hP
        have hf4 : fi d s < 4 := by have := hfin.out; omega
        have hgo : Hid (getE d (fi d s) = getE d j) := Lib.hid (by rw [← hfin.out])
        generalize getE d j = e at *
        clear hC hge hhit r0
        have p1 : 0 < e.i := by simpa using r1
        have p2 : e.s.toList = s.toList := by simpa using r
        go_wp2_with (first
          | (refine wl_load rfl 27 (.tmp 2) rfl w.heap.size rfl 27 (bc d) _ K1 Tryd.underlying27 rfl (sz_bc _) ?_))
        refine (hP.out).mono ?_
        rintro r wc ⟨rfl, bc1⟩
        have K1 := K1.below bc1
        have HB := bl_then HB bc1
        have zk1 := K1.lt
        clear bc1 hP
        go_wp2_with (first
          | ((with_reducible refine wl_alloc rfl 30 rfl (ea ⟨⟨#[]⟩, 0⟩) new_e ?_); intro w5 k5 b5 s5; have K1 := K1.below b5; have HB := bl_then HB b5)
          | ((refine wl_store rfl 30 (.tmp 8) (.tmp 17) rfl wc.heap.size rfl (ea e) rfl 30 (ea ⟨⟨#[]⟩, 0⟩) k5 (sz_ea _) rfl (ea_one _) ?_); intro w6 k6 g6 s6; have K1 := K1.grown g6 (fun e => by injection e with e; omega); have HB := below_grown HB HB.size g6 (by omega); have c0 : w6.cell? ⟨wc.heap.size, 0, none⟩ = some (.string e.s) := k6.cellv 0 _ rfl; have c1 : w6.cell? ⟨wc.heap.size, 1, none⟩ = some (.int .i64 e.i) := k6.cellv 1 _ rfl))
        go_quiet (fail)
        try go_wp2_with fail
        refine bodyPost_ret (results_tmp3 rfl _ _ _) rfl ⟨?_, bl_drewN HB _⟩
        simp only [hgo.out]
        rw [← hfin.out]
        rfl
    · have hq : decide ((j : Int) < 4) = false := by simp; omega
      have hfin : Hid (¬ fi d s < 4) := Lib.hid (by omega)
      go_wp2_with fail
      refine bodyPost_ret (results_tmp3 rfl _ _ _) rfl ⟨?_, HB⟩
      simp
end Go.Proofs.YthihpejhhimkaaaDoor.Dir6
