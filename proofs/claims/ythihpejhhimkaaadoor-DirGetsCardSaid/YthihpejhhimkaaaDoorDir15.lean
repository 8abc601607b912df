/- Contract of package dir's All. -/
import Derived.Test.YthihpejhhimkaaaDoorDir6
set_option linter.unusedVariables false
namespace Go.Proofs.YthihpejhhimkaaaDoor.Dir15
open Go.RowKit Go.Proofs.YthihpejhhimkaaaDoor.Base Go.Proofs.YthihpejhhimkaaaDoor.Row Go.Proofs.YthihpejhhimkaaaDoor.App Go.Proofs.YthihpejhhimkaaaDoor.Multi Go.Proofs.YthihpejhhimkaaaDoor.StEq Go.Proofs.YthihpejhhimkaaaDoor.Held Go.Proofs.YthihpejhhimkaaaDoor.Out Go.Proofs.YthihpejhhimkaaaDoor.HeldW Go.Proofs.YthihpejhhimkaaaDoor.HeldX Go.Proofs.YthihpejhhimkaaaDoor.DiskMath Go.Proofs.YthihpejhhimkaaaDoor.Dir Go.Proofs.YthihpejhhimkaaaDoor.Dir2 Go.Proofs.YthihpejhhimkaaaDoor.Dir3 Go.Proofs.YthihpejhhimkaaaDoor.Dir4 Go.Proofs.YthihpejhhimkaaaDoor.Dir5 Go.Proofs.YthihpejhhimkaaaDoor.Dir6

/-- The cells of an entry. -/
def ev (e : En) : List Value := [.string e.s, .int .i64 e.i]
theorem ev_len (e : En) : (ev e).length = 2 := rfl
theorem ev_one (e : En) : ∀ v ∈ ev e, v.oneCell' = true := by
  intro v hv
  simp [ev] at hv
  rcases hv with rfl | rfl <;> rfl
theorem ev_ea (e : En) : (ea e).toList = ev e := rfl
/-- The entries of the first places that there are. -/
def lst (d : Bk) : Nat → List En
  | 0 => []
  | k + 1 => if 0 < (getE d k).i then lst d k ++ [getE d k] else lst d k
theorem lst_yes {d : Bk} {k : Nat} (h : 0 < (getE d k).i) : lst d (k + 1) = lst d k ++ [getE d k] := by simp [lst, h]
theorem lst_no {d : Bk} {k : Nat} (h : ¬ 0 < (getE d k).i) : lst d (k + 1) = lst d k := by simp [lst, h]
theorem lst_le (d : Bk) : ∀ k, (lst d k).length ≤ k
  | 0 => Nat.le_refl _
  | k + 1 => by
    have := lst_le d k
    by_cases h : 0 < (getE d k).i
    · rw [lst_yes h, List.length_append, List.length_singleton]; omega
    · rw [lst_no h]; omega
theorem info_e : (Tryd.prog.info? 30).map (fun i => (i.zero, i.size, i.bytes)) = some (some (.agg (ea ⟨⟨#[]⟩, 0⟩)), 2, 24) := by kernel_rfl
/-- What All tells. -/
def AllPost (d : Bk) (w' : World) (r : Ending) : Prop :=
  ((∀ j, j < 4 → rightB (getE d j) = true) ∧ ∃ A n c, r = .returned (.tuple #[.slice A n c, .bool true]) ∧ RF ev 2 w' A n (lst d 4)) ∨
  ((∃ j, j < 4 ∧ rightB (getE d j) = false) ∧ r = .returned (.tuple #[.slice none 0 0, .bool false]))
set_option maxRecDepth 100000 in
set_option maxHeartbeats 2000000 in
theorem all_c (d : Bk) (w : World) (hd : Okb d) :
    Calls Tryd.prog 19 #[.agg (bc d)] w fun r w' => AllPost d w' r ∧ Below w.heap.size w w' := by
  have hG := Lib.hid (fun (n : Nat) (hn : n < 4) w' => get_c d (n : Int) n w' hn rfl hd)
  go_enter Tryd.func19, Tryd.ntmps19
  go_wp2_with (first
    | ((with_reducible refine wl_box rfl 27 _ rfl (bc d) rfl ?_); intro w1 k1 b1 s1))
  have z0 := k1.lt
  go_loopw [4, 8] (fun o i wr => ∃ (j m : Nat) (A1 : Option Addr) (cp : Nat), j ≤ 4 ∧ m = (lst d j).length ∧ i = .int .i64 j ∧ o = .slice A1 m cp ∧ wr.ownsRow w1.heap.size 30 2 (.slice A1 m cp) m ((lst d j).flatMap ev) ∧ Hid (∀ i, i < j → rightB (getE d i) = true) ∧ Below w1.heap.size w1 wr) (fun _ i _ => 4 - (intOf i).toNat)
  case atStart => exact ⟨0, 0, none, 0, by omega, rfl, rfl, rfl, own_nil _ _ _ _, Lib.hid (fun i h => by omega), bl_refl _⟩
  case round =>
    obtain ⟨j, m, A1, cp, hj, hm, rfl, rfl, HO, hall, HB⟩ := hrel
    obtain ⟨wo, rfl⟩ : ∃ wo : World, wo = wr := ⟨_, rfl⟩
    have K1 := k1.below HB
    have z1 := HB.size
    have hml := Lib.hid (lst_le d j)
    replace hm := Lib.hid hm
    by_cases hlt : j < 4
    · have hq : decide ((j : Int) < 4) = true := by simp; omega
      have hge := Lib.hid (gotE_b d j)
      have hC := Lib.hid (hG.out j hlt)
      have hno := Lib.hid (fun h => lst_no (d := d) (k := j) h)
      have hyes := Lib.hid (fun h => lst_yes (d := d) (k := j) h)
      have hcase : rightB (getE d j) = false ∨ (rightB (getE d j) = true ∧ ¬ 0 < (getE d j).i) ∨ (rightB (getE d j) = true ∧ 0 < (getE d j).i) := by
        cases rightB (getE d j)
        · exact .inl rfl
        · by_cases h : 0 < (getE d j).i
          · exact .inr (.inr ⟨rfl, h⟩)
          · exact .inr (.inl ⟨rfl, h⟩)
      rcases hcase with r | ⟨r0, r⟩ | ⟨r0, r⟩
      case inl =>
        have hbad : Hid (∃ j, j < 4 ∧ rightB (getE d j) = false) := Lib.hid ⟨j, hlt, r⟩
        have hP := Lib.hid (hC.out wo)
        rw [r] at hP
        generalize gotE d j = e at *
        clear hC hge r hno hyes HO
        go_wp2_with (first
          | (refine wl_load rfl 27 (.tmp 1) rfl w.heap.size rfl 27 (bc d) _ K1 Tryd.underlying27 rfl (sz_bc _) ?_))
        refine (hP.out).mono ?_
        rintro r wc ⟨rfl, bc1⟩
        have z2 := bc1.size
        clear hP K1
        go_wp2_with (first
          | ((with_reducible refine wl_alloc rfl 30 rfl (ea ⟨⟨#[]⟩, 0⟩) new_e ?_); intro w5 k5 b5 s5)
          | ((refine wl_store rfl 30 (.tmp 6) (.tmp 15) rfl wc.heap.size rfl (ea e) rfl 30 (ea ⟨⟨#[]⟩, 0⟩) k5 (sz_ea _) rfl (ea_one _) ?_); intro w6 k6 g6 s6; have BE := below_grown b5 b5.size g6 (Nat.le_refl _); have ce1 : w6.cell? ⟨wc.heap.size, 1, none⟩ = some (.int .i64 e.i) := k6.cellv 1 _ rfl))
        refine bodyPost_ret (results_tmp2 rfl _ _ _) rfl ⟨Or.inr ⟨hbad.out, rfl⟩, bl_then b1 (bl_then (bl_then HB bc1) BE)⟩
      case inr.inl =>
        have hall2 : Hid (∀ i, i < j + 1 → rightB (getE d i) = true) := Lib.hid (fun i hi => by
          rcases Nat.lt_or_ge i j with h | h
          · exact hall.out i h
          · rw [show i = j by omega]; exact r0)
        have hl2 := Lib.hid (hno.out r)
        have hP := Lib.hid (hC.out wo)
        rw [r0, hge.out r0] at hP
        generalize getE d j = e at *
        clear hC hge r0 hno hyes
        go_wp2_with (first
          | (refine wl_load rfl 27 (.tmp 1) rfl w.heap.size rfl 27 (bc d) _ K1 Tryd.underlying27 rfl (sz_bc _) ?_))
        refine (hP.out).mono ?_
        rintro r wc ⟨rfl, bc1⟩
        have z2 := bc1.size
        clear hP K1
        go_wp2_with (first
          | ((with_reducible refine wl_alloc rfl 30 rfl (ea ⟨⟨#[]⟩, 0⟩) new_e ?_); intro w5 k5 b5 s5)
          | ((refine wl_store rfl 30 (.tmp 6) (.tmp 15) rfl wc.heap.size rfl (ea e) rfl 30 (ea ⟨⟨#[]⟩, 0⟩) k5 (sz_ea _) rfl (ea_one _) ?_); intro w6 k6 g6 s6; have BE := below_grown b5 b5.size g6 (Nat.le_refl _); have ce1 : w6.cell? ⟨wc.heap.size, 1, none⟩ = some (.int .i64 e.i) := k6.cellv 1 _ rfl))
        go_roundw
        case rel => exact ⟨j + 1, m, A1, cp, by omega, by rw [hl2.out]; exact hm.out, by go_num, rfl, by rw [hl2.out]; exact own_below (own_below HO bc1) BE, hall2, bl_then (bl_then HB bc1) BE⟩
        case measure => first | (simp [intOf]; done) | (simp [intOf]; omega)
      case inr.inr =>
        have hall2 : Hid (∀ i, i < j + 1 → rightB (getE d i) = true) := Lib.hid (fun i hi => by
          rcases Nat.lt_or_ge i j with h | h
          · exact hall.out i h
          · rw [show i = j by omega]; exact r0)
        have hl2 := Lib.hid (hyes.out r)
        have hP := Lib.hid (hC.out wo)
        rw [r0, hge.out r0] at hP
        generalize getE d j = e at *
        clear hC hge r0 hno hyes
        go_wp2_with (first
          | (refine wl_load rfl 27 (.tmp 1) rfl w.heap.size rfl 27 (bc d) _ K1 Tryd.underlying27 rfl (sz_bc _) ?_))
        refine (hP.out).mono ?_
        rintro r wc ⟨rfl, bc1⟩
        have z2 := bc1.size
        clear hP K1
        go_upto_region 9 with (first
          | ((with_reducible refine wl_alloc rfl 30 rfl (ea ⟨⟨#[]⟩, 0⟩) new_e ?_); intro w5 k5 b5 s5)
          | ((refine wl_store rfl 30 (.tmp 6) (.tmp 15) rfl wc.heap.size rfl (ea e) rfl 30 (ea ⟨⟨#[]⟩, 0⟩) k5 (sz_ea _) rfl (ea_one _) ?_); intro w6 k6 g6 s6; have BE := below_grown b5 b5.size g6 (Nat.le_refl _); have ce1 : w6.cell? ⟨wc.heap.size, 1, none⟩ = some (.int .i64 e.i) := k6.cellv 1 _ rfl))
        have HO := own_below (own_below HO bc1) BE
        have HB6 := bl_then (bl_then HB bc1) BE
        have hes : (ea e).size = 2 := rfl
        go_wp2_with (first
          | (refine at_slot 23 rfl ?_; refine wl_load rfl 30 (.tmp 6) rfl wc.heap.size rfl 30 (ea e) _ k6 Tryd.underlying30 rfl (sz_ea _) ?_)
          | (at_builtin; refine app_onef (w0 := w1) (f := ev) w1.heap.size 2 24 ev_len ev_one (.agg (ea ⟨⟨#[]⟩, 0⟩)) rfl _ _ 45 30 rfl Tryd.underlying45 info_e rfl (by decide) (by decide) (.slice A1 m cp) m (lst d j) rfl HO e (ea e) rfl w6.heap.size rfl rfl ?d1 ?d2 ?d3 ?_))
        case d1 => have := hml.out; have := hm.out; omega
        case d2 => exact HB6
        case d3 => exact HB6.size
        intro A5 c5 w7 HO5 B5 s5 _
        go_wp2_with fail
        go_roundw
        case rel => exact ⟨j + 1, m + 1, A5, c5, by omega, by rw [hl2.out, List.length_append, ← hm.out]; rfl, by go_num, rfl, by rw [hl2.out, List.flatMap_append, List.flatMap_singleton]; exact HO5, hall2, B5⟩
        case measure => first | (simp [intOf]; done) | (simp [intOf]; omega)
    · have hq : decide ((j : Int) < 4) = false := by simp; omega
      obtain rfl : j = 4 := by omega
      go_wp2_with fail
      have hm' := hm.out
      refine bodyPost_ret (results_tmp2 rfl _ _ _) rfl ⟨Or.inl ⟨hall.out, A1, m, cp, rfl, RF.of_own ev_len (by decide) HO⟩, bl_then b1 HB⟩
end Go.Proofs.YthihpejhhimkaaaDoor.Dir15
