/- Contract of the Dir laws' awake. -/
import Derived.Test.YthihpejhhimkaaaDoorDir6
set_option linter.unusedVariables false
namespace Go.Proofs.YthihpejhhimkaaaDoor.Dir7
open Go.RowKit Go.Proofs.YthihpejhhimkaaaDoor.Base Go.Proofs.YthihpejhhimkaaaDoor.Row Go.Proofs.YthihpejhhimkaaaDoor.App Go.Proofs.YthihpejhhimkaaaDoor.Multi Go.Proofs.YthihpejhhimkaaaDoor.StEq Go.Proofs.YthihpejhhimkaaaDoor.Held Go.Proofs.YthihpejhhimkaaaDoor.Out Go.Proofs.YthihpejhhimkaaaDoor.HeldW Go.Proofs.YthihpejhhimkaaaDoor.HeldX Go.Proofs.YthihpejhhimkaaaDoor.DiskMath Go.Proofs.YthihpejhhimkaaaDoor.Dir Go.Proofs.YthihpejhhimkaaaDoor.Dir2 Go.Proofs.YthihpejhhimkaaaDoor.Dir3 Go.Proofs.YthihpejhhimkaaaDoor.Dir4 Go.Proofs.YthihpejhhimkaaaDoor.Dir5 Go.Proofs.YthihpejhhimkaaaDoor.Dir6

theorem zero_d : Tryd.prog.built 27 [] = some (bc zb) := by kernel_rfl
def sa : ByteArray := ⟨#[97]⟩
def e5 : En := ⟨sa, 5⟩
def d5 : Bk := putB zb 1 e5
theorem sa_list : sa.toList = [97] := by rw [ByteArray.toList_eq]; rfl
theorem right5 : rightB e5 = true := by
  have h1 : nameB sa = true := by
    unfold nameB
    rw [sa_list]
    decide
  unfold rightB
  rw [show e5.s = sa from rfl, h1, sa_list]
  decide
theorem d5_l : d5.l = putL zb.l 1 e5 := putB_l (by decide) (by decide)
theorem ok5 : Okb d5 := by
  unfold Okb
  rw [d5_l]
  decide
theorem get51 : getE d5 1 = e5 := get_put (by decide) right5 (by decide)
theorem hit1 : hit d5 sa 1 = true := by
  unfold hit
  rw [get51, right5]
  simp [e5]
theorem i50 : (getE d5 0).i = 0 := by
  show b0 d5 0 + b1 d5 0 * 256 = 0
  unfold b0 b1
  rw [d5_l]
  decide
theorem hit0 : hit d5 sa 0 = false := by
  unfold hit
  rw [i50]
  simp
theorem fi5 : fi d5 sa = 1 := by
  unfold fi
  rw [show List.range 4 = [0, 1, 2, 3] from rfl, List.findIdx_cons, List.findIdx_cons, hit0, hit1]
  rfl
theorem c16 : d5.l[16]?.getD 0 = 5 := by rw [d5_l]; decide
theorem c18 : d5.l[18]?.getD 0 = 97 := by rw [d5_l]; decide
set_option maxRecDepth 100000 in
set_option maxHeartbeats 2000000 in
theorem awake_c (w : World) : Calls Tryd.prog 13 #[] w fun r w' => r = .returned (.bool true) ∧ Below w.heap.size w w' := by
  have hP : Hid (∀ w', Calls Tryd.prog 9 #[.agg (bc zb), .int .i64 1, .agg #[.string ⟨#[97]⟩, .int .i64 5]] w' fun r w'' => r = .returned (.tuple #[.agg (bc d5), .bool true]) ∧ Below w'.heap.size w' w'') := Lib.hid (fun w' => put_yes zb 1 1 e5 w' (by decide) rfl right5)
  have hF : Hid (∀ w', Calls Tryd.prog 17 #[.agg (bc d5), .string ⟨#[97]⟩] w' fun r w'' => r = .returned (.tuple #[.int .i64 1, .int .i64 5, .bool true]) ∧ Below w'.heap.size w' w'') := Lib.hid (fun w' => by
    have h := find_c d5 sa w' ok5
    rw [fi5, get51] at h
    exact h)
  have h16 := Lib.hid (fun g w' (h : Blk w' g 27 (bc d5)) => c16 ▸ cellb d5 16 g w' (by decide) h)
  have h18 := Lib.hid (fun g w' (h : Blk w' g 27 (bc d5)) => c18 ▸ cellb d5 18 g w' (by decide) h)
  generalize d5 = dd at *
  go_enter Tryd.func13, Tryd.ntmps13
  go_wp2_with (first
    | (refine wl_build0 rfl 27 rfl (bc zb) zero_d ?_))
  refine (hP.out _).mono ?_
  rintro r w1 ⟨rfl, b1⟩
  go_wp2_with (first
    | ((with_reducible refine wl_alloc rfl 27 rfl (bc zb) new_d ?_); intro w2 k2 b2 s2)
    | ((refine wl_store rfl 27 (.tmp 1) (.tmp 10) rfl w1.heap.size rfl (bc dd) rfl 27 (bc zb) k2 (sz_bc _) (by rw [bc_size, bc_size]) (bc_one _) ?_); intro w3 k3 g3 s3; have b3 := bl_then b1 (below_grown b2 b2.size g3 (Nat.le_refl _)))
    | (refine wl_load rfl 27 (.tmp 1) rfl w1.heap.size rfl 27 (bc dd) _ k3 Tryd.underlying27 rfl (sz_bc _) ?_))
  refine (hF.out _).mono ?_
  rintro r w4 ⟨rfl, b4⟩
  have k4 := k3.below b4
  have BB := bl_then b3 b4
  have c16 := h16.out _ _ k4
  have c18 := h18.out _ _ k4
  clear h16 h18 hP hF
  go_wp2_with fail
  go_ret
  exact ⟨rfl, BB⟩
end Go.Proofs.YthihpejhhimkaaaDoor.Dir7
