/- Contract of package dir's Put. -/
import Derived.Test.YthihpejhhimkaaaDoorDir2
import Derived.Test.YthihpejhhimkaaaDoorDiskMath
import Derived.Lib.LazyBuf
import Derived.Deep.DeepCutAuto
import Derived.Deep.CutBlock
set_option linter.unusedVariables false
namespace Go.Proofs.YthihpejhhimkaaaDoor.Dir3
open Go.RowKit Go.Proofs.YthihpejhhimkaaaDoor.Base Go.Proofs.YthihpejhhimkaaaDoor.Row Go.Proofs.YthihpejhhimkaaaDoor.App Go.Proofs.YthihpejhhimkaaaDoor.Multi Go.Proofs.YthihpejhhimkaaaDoor.StEq Go.Proofs.YthihpejhhimkaaaDoor.Held Go.Proofs.YthihpejhhimkaaaDoor.Out Go.Proofs.YthihpejhhimkaaaDoor.HeldW Go.Proofs.YthihpejhhimkaaaDoor.HeldX Go.Proofs.YthihpejhhimkaaaDoor.DiskMath Go.Proofs.YthihpejhhimkaaaDoor.Dir Go.Proofs.YthihpejhhimkaaaDoor.Dir2

def byts (s : ByteArray) : List Int := s.data.toList.map (fun c => (c.toNat : Int))
theorem byts_len (s : ByteArray) : (byts s).length = s.size := by unfold byts; rw [List.length_map, Array.length_toList]; rfl
/-- The bytes of an entry. -/
def ent (e : En) : List Int := e.i :: 0 :: (byts e.s ++ List.replicate (14 - e.s.size) 0)
theorem ent_len {e : En} (h : e.s.size ≤ 14) : (ent e).length = 16 := by
  unfold ent
  rw [List.length_cons, List.length_cons, List.length_append, byts_len, List.length_replicate]
  omega
theorem right_le {e : En} (h : rightB e = true) : e.s.size ≤ 14 ∧ 0 ≤ e.i ∧ e.i < 32 := by
  by_cases hz : e.s.toList = [] ∧ e.i = 0
  · have h1 : e.s.size = 0 := by
      have h2 : e.s.toList.length = e.s.size := by rw [ByteArray.toList_eq, Array.length_toList]; rfl
      rw [hz.1] at h2
      simpa using h2.symm
    omega
  · rw [right_else hz, Bool.and_eq_true, Bool.and_eq_true, decide_eq_true_eq, decide_eq_true_eq] at h
    refine ⟨?_, by omega, by omega⟩
    have h1 := h.1
    rw [nameB'] at h1
    simp only [Bool.and_eq_true, decide_eq_true_eq] at h1
    omega
def putL (l : List Int) (at_ : Nat) (e : En) : List Int := l.take (at_ * 16) ++ ent e ++ l.drop (at_ * 16 + 16)
theorem putL_len {l : List Int} {at_ : Nat} {e : En} (hl : l.length = 64) (ha : at_ < 4) (h : e.s.size ≤ 14) : (putL l at_ e).length = 64 := by
  unfold putL
  rw [List.length_append, List.length_append, ent_len h, List.length_take, List.length_drop]
  omega
/-- The block in which an entry stands at a place. -/
def putB (d : Bk) (at_ : Nat) (e : En) : Bk := if h : (putL d.l at_ e).length = 64 then ⟨putL d.l at_ e, h⟩ else d
theorem putB_l {d : Bk} {at_ : Nat} {e : En} (ha : at_ < 4) (h : e.s.size ≤ 14) : (putB d at_ e).l = putL d.l at_ e := by
  unfold putB
  rw [dif_pos (putL_len d.h ha h)]
def z16 : Array Value := (nums .u8 (List.replicate 16 0)).toArray
theorem new_b16 : (Tryd.prog.info? 59).map (fun i => i.zero.map (·.cells)) = some (some z16) := by kernel_rfl
theorem new_d : (Tryd.prog.info? 27).map (fun i => i.zero.map (·.cells)) = some (some (bc zb)) := by kernel_rfl
theorem size_d : (Tryd.prog.info? 27).map (·.size) = some 64 := by kernel_rfl
theorem sz_bc (x : Bk) : (Tryd.prog.info? 27).map (·.size) = some (bc x).size := by rw [bc_size]; exact size_d
theorem ent_cells (e : En) (h : e.s.size ≤ 14) : lay ((z16.setIfInBounds 0 (.int .u8 e.i)).setIfInBounds 1 (.int .u8 0)) 2 (e.s.data.toList.map fun x => Value.int .u8 (x.toNat : Int)) = (nums .u8 (ent e)).toArray := by
  have hz : z16.size = 16 := rfl
  have hl : (e.s.data.toList.map fun x => Value.int .u8 (x.toNat : Int)).length = e.s.size := by rw [List.length_map, Array.length_toList]; rfl
  apply Array.ext_getElem?
  intro i
  have hr : ((nums .u8 (ent e)).toArray)[i]? = (ent e)[i]?.map (Value.int .u8) := by rw [List.getElem?_toArray]; unfold nums; rw [List.getElem?_map]
  rw [lay_get _ _ _ _ (by rw [hl]; simp [hz]; omega), hr, hl]
  unfold ent
  rcases i with _ | _ | i
  · simp [hz]
  · simp [hz]
  · rw [List.getElem?_cons_succ, List.getElem?_cons_succ]
    by_cases hi : i < e.s.size
    · rw [if_pos (by omega), List.getElem?_append_left (by rw [byts_len]; exact hi), show i + 1 + 1 - 2 = i by omega]
      unfold byts
      rw [List.getElem?_map, List.getElem?_map]
      cases e.s.data.toList[i]? <;> rfl
    · rw [if_neg (by omega), List.getElem?_append_right (by rw [byts_len]; omega), byts_len, List.getElem?_replicate, Array.getElem?_setIfInBounds_ne (by omega), Array.getElem?_setIfInBounds_ne (by omega)]
      unfold z16 nums
      rw [List.getElem?_toArray, List.getElem?_map, List.getElem?_replicate]
      by_cases h2 : i + 1 + 1 < 16
      · rw [if_pos h2, if_pos (by omega)]
      · rw [if_neg h2, if_neg (by omega)]
theorem put_cells (d : Bk) (at_ : Nat) (e : En) (ha : at_ < 4) (h : e.s.size ≤ 14) : bc (putB d at_ e) = (splice (bc d).toList (at_ * 16) (nums .u8 (ent e))).toArray := by
  have h1 : bc (putB d at_ e) = (nums .u8 (putL d.l at_ e)).toArray := by
    show (nums .u8 (putB d at_ e).l).toArray = _
    rw [putB_l ha h]
  rw [h1, bc_list]
  congr 1
  unfold splice putL
  rw [nums_append, nums_append, nums_length, ent_len h]
  have e1 : nums .u8 (d.l.take (at_ * 16)) = (bv d).take (at_ * 16) := by unfold bv nums; rw [List.map_take]
  have e2 : nums .u8 (d.l.drop (at_ * 16 + 16)) = (bv d).drop (at_ * 16 + 16) := by unfold bv nums; rw [List.map_drop]
  rw [e1, e2, List.append_assoc]
set_option maxRecDepth 100000 in
set_option maxHeartbeats 4000000 in
theorem put_no (d : Bk) (at_ : Int) (e : En) (w : World) (hs : e.s.size ≤ maxLen) (h : at_ < 0 ∨ 4 ≤ at_ ∨ rightB e = false) :
    Calls Tryd.prog 9 #[.agg (bc d), .int .i64 at_, .agg (ea e)] w fun r w' => r = .returned (.tuple #[.agg (bc d), .bool false]) ∧ Below w.heap.size w w' := by
  have hR := Lib.hid (fun w' => right_c e w' hs)
  have hcase : (at_ < 0) ∨ (¬ at_ < 0 ∧ 4 ≤ at_) ∨ (¬ at_ < 0 ∧ ¬ 4 ≤ at_ ∧ rightB e = false) := by
    by_cases h1 : at_ < 0
    · exact .inl h1
    · by_cases h2 : 4 ≤ at_
      · exact .inr (.inl ⟨h1, h2⟩)
      · exact .inr (.inr ⟨h1, h2, by rcases h with h | h | h; exact absurd h h1; exact absurd h h2; exact h⟩)
  clear h
  rcases hcase with q | ⟨q, q1⟩ | ⟨q, q1, q2⟩
  case inr.inr =>
    rw [q2] at hR
    clear q2
    go_enter Tryd.func9, Tryd.ntmps9
    go_wp2_with (first
      | ((with_reducible refine wl_box rfl 27 _ rfl (bc d) rfl ?_); intro w1 k1 b1 s1)
      | ((with_reducible refine wl_box rfl 30 _ rfl (ea e) rfl ?_); intro w2 k2 b2 s2; have K1 := k1.below b2)
      | ((with_reducible refine wl_alloc rfl 27 rfl (bc zb) new_d ?_); intro w3 k3 b3 s3; have K1 := K1.below b3; have K2 := k2.below b3)
      | (refine wl_load_on rfl 30 (.tmp 5) rfl w1.heap.size rfl 30 (ea e) _ K2 Tryd.underlying30 rfl (by kernel_rfl) ?hop ?_; case hop => exact ⟨_, _, rfl, rfl, rfl⟩))
    refine (hR.out _).mono ?_
    rintro r w4 ⟨rfl, b4⟩
    have K1 := K1.below b4
    have K3 := k3.below b4
    have B4 := bl_then (bl_then (bl_then b1 b2) b3) b4
    have z1 := b1.size
    have z2 := b2.size
    clear k1 k2 k3 K2 b1 b2 b3 b4
    go_wp2_with (first
      | (refine wl_load rfl 27 (.tmp 3) rfl w.heap.size rfl 27 (bc d) _ K1 Tryd.underlying27 rfl (sz_bc _) ?_)
      | ((refine wl_store rfl 27 (.tmp 6) (.tmp 20) rfl w2.heap.size rfl (bc d) rfl 27 (bc zb) K3 (sz_bc _) (by rw [bc_size, bc_size]) (bc_one _) ?_); intro w5 k5 g5 s5))
    refine bodyPost_ret (res_cell_tmp rfl _ _ _ w2.heap.size 27 (bc d) _ rfl k5 Tryd.underlying27 rfl (sz_bc _)) rfl ⟨rfl, below_grown B4 B4.size g5 (by omega)⟩
  all_goals (
    go_enter Tryd.func9, Tryd.ntmps9
    go_wp2_with (first
      | ((with_reducible refine wl_box rfl 27 _ rfl (bc d) rfl ?_); intro w1 k1 b1 s1)
      | ((with_reducible refine wl_box rfl 30 _ rfl (ea e) rfl ?_); intro w2 k2 b2 s2; have K1 := k1.below b2)
      | ((with_reducible refine wl_alloc rfl 27 rfl (bc zb) new_d ?_); intro w3 k3 b3 s3; have K1 := K1.below b3)
      | (refine wl_load rfl 27 (.tmp 3) rfl w.heap.size rfl 27 (bc d) _ K1 Tryd.underlying27 rfl (sz_bc _) ?_)
      | ((refine wl_store rfl 27 (.tmp 6) (.tmp 20) rfl w2.heap.size rfl (bc d) rfl 27 (bc zb) k3 (sz_bc _) (by rw [bc_size, bc_size]) (bc_one _) ?_); intro w5 k5 g5 s5))
    have z1 := b1.size
    have z2 := b2.size
    have B4 := bl_then (bl_then b1 b2) b3
    refine bodyPost_ret (res_cell_tmp rfl _ _ _ w2.heap.size 27 (bc d) _ rfl k5 Tryd.underlying27 rfl (sz_bc _)) rfl ⟨rfl, below_grown B4 B4.size g5 (by omega)⟩)
set_option maxRecDepth 100000 in
set_option maxHeartbeats 4000000 in
theorem put_yes (d : Bk) (a : Int) (at_ : Nat) (e : En) (w : World) (ha : at_ < 4) (haa : (at_ : Int) = a) (hr : rightB e = true) :
    Calls Tryd.prog 9 #[.agg (bc d), .int .i64 a, .agg (ea e)] w fun r w' => r = .returned (.tuple #[.agg (bc (putB d at_ e)), .bool true]) ∧ Below w.heap.size w w' := by
  obtain ⟨hs14, hi0, hi32⟩ := right_le hr
  have hR := fun w' => right_c e w' (by unfold maxLen; omega)
  rw [hr] at hR
  have hR := Lib.hid hR
  have hcw : Hid (IntKind.u8.wrap e.i = e.i) := Lib.hid (by simp [IntKind.wrap, IntKind.signed, IntKind.bits]; omega)
  clear hr
  have h4 : (a = 0 ∧ at_ = 0) ∨ (a = 1 ∧ at_ = 1) ∨ (a = 2 ∧ at_ = 2) ∨ (a = 3 ∧ at_ = 3) := by omega
  have hpc := Lib.hid (put_cells d at_ e ha hs14)
  obtain ⟨D2, hD2⟩ : ∃ D2, D2 = putB d at_ e := ⟨_, rfl⟩
  rw [← hD2] at hpc ⊢
  clear ha haa hD2
  rcases h4 with ⟨rfl, rfl⟩ | ⟨rfl, rfl⟩ | ⟨rfl, rfl⟩ | ⟨rfl, rfl⟩
  all_goals (
    go_enter Tryd.func9, Tryd.ntmps9
    go_wp2_with (first
      | ((with_reducible refine wl_box rfl 27 _ rfl (bc d) rfl ?_); intro w1 k1 b1 s1)
      | ((with_reducible refine wl_box rfl 30 _ rfl (ea e) rfl ?_); intro w2 k2 b2 s2; have K1 := k1.below b2)
      | ((with_reducible refine wl_alloc rfl 27 rfl (bc zb) new_d ?_); intro w3 k3 b3 s3; have K1 := K1.below b3; have K2 := k2.below b3)
      | (refine wl_load_on rfl 30 (.tmp 5) rfl w1.heap.size rfl 30 (ea e) _ K2 Tryd.underlying30 rfl (by kernel_rfl) ?hop ?_; case hop => exact ⟨_, _, rfl, rfl, rfl⟩))
    refine (hR.out _).mono ?_
    rintro r w4 ⟨rfl, b4⟩
    have K1 := K1.below b4
    have K2 := K2.below b4
    have K3 := k3.below b4
    have B4 := bl_then (bl_then (bl_then b1 b2) b3) b4
    have z1 := b1.size
    have z2 := b2.size
    have z3 := K3.lt
    clear k1 k2 k3 b1 b2 b3 b4
    go_upto_region 4 with ((with_reducible refine wl_alloc rfl 59 rfl z16 new_b16 ?_); intro w5 k5 b5 s5)
    have K1 := K1.below b5
    have K2 := K2.below b5
    have K3 := K3.below b5
    have B5 := bl_then B4 b5
    obtain ⟨gb, hgb⟩ : ∃ gb, gb = w4.heap.size := ⟨_, rfl⟩
    rw [← hgb] at k5 ⊢
    have z5 : w2.heap.size < gb := by omega
    clear b5 hgb B4
    obtain ⟨s, i⟩ := e
    simp only [ea] at K2 hs14 hi0 hi32 hcw
    have K5 := k5.drew
    have hdz : Hid (i / 256 = 0) := Lib.hid (by omega)
    have hne0 := Lib.hid (show some w.heap.size ≠ some gb from fun e => by injection e with e; omega)
    have hne1 := Lib.hid (show some w1.heap.size ≠ some gb from fun e => by injection e with e; omega)
    have hne2 := Lib.hid (show some w2.heap.size ≠ some gb from fun e => by injection e with e; omega)
    have hne3 := Lib.hid (show some w2.heap.size ≠ some w.heap.size from fun e => by injection e with e; omega)
    have hbg := Lib.hid (show w.heap.size ≤ gb by omega)
    have hcs : Hid (∀ (wB : World), Blk wB gb 59 ((z16.setIfInBounds 0 (.int .u8 i)).setIfInBounds 1 (.int .u8 0)) → ∀ j, j < s.size → (wB.cell? ⟨gb, 2 + j, none⟩).isSome = true) := Lib.hid (fun wB h j hj => by
      rw [h.cellv _ _ (Array.getElem?_eq_getElem (by simp [z16, nums]; omega))]; rfl)
    refine wp_region_held_drew (S := (fun w' => Blk w' w1.heap.size 30 #[.string s, .int .i64 i])) (by kernel_rfl) (K2.drew) (fun hHeld => ?_)
    refine wpAnyH_take (i := 0) (oi := { dst := some 21, op := Op.fieldAddr 30 (Operand.tmp 5) 1, type := 0, pos := "dir.go:53", after := #[], guard := none }) (v := ?_) rfl (by kernel_rfl) (by kernel_rfl) (by kernel_rfl) (fun _ _ _ h => h) ?_ hHeld ?_
    rotate_left
    · refine Or.inl ⟨by rfl, fun w hSw => ?_⟩; skip; go_simp; (try with_reducible rfl)
    try simp only [Act.put, List.setIfInBounds_toArray, List.set_cons_zero, List.set_cons_succ]
    refine wpAnyH_take (i := 1) (oi := { dst := some 22, op := Op.load 3 (Operand.tmp 21), type := 3, pos := "dir.go:53", after := #[{ on := 0, ground := Ground.data }], guard := none }) (v := ?_) rfl (by kernel_rfl) (by kernel_rfl) (by kernel_rfl) (fun _ _ _ h => h) ?_ hHeld ?_
    rotate_left
    · refine Or.inl ⟨by rfl, fun w hSw => ?_⟩; have c0 := Blk.cellv hSw 1 (.int .i64 i) rfl; go_simp; (try with_reducible rfl)
    try simp only [Act.put, List.setIfInBounds_toArray, List.set_cons_zero, List.set_cons_succ]
    refine wpAnyH_take (i := 2) (oi := { dst := some 23, op := Op.convert 3 5 (Operand.tmp 22), type := 5, pos := "dir.go:53", after := #[{ on := 1, ground := Ground.data }], guard := none }) (v := ?_) rfl (by kernel_rfl) (by kernel_rfl) (by kernel_rfl) (fun _ _ _ h => h) ?_ hHeld ?_
    rotate_left
    · refine Or.inl ⟨by rfl, fun w hSw => ?_⟩; have hcw2 := hcw.out; go_simp; (try with_reducible rfl)
    try simp only [Act.put, List.setIfInBounds_toArray, List.set_cons_zero, List.set_cons_succ]
    refine wpAnyH_take (i := 3) (oi := { dst := some 24, op := Op.fieldAddr 30 (Operand.tmp 5) 1, type := 0, pos := "dir.go:53", after := #[{ on := 8, ground := Ground.gcOnly Departure.lateStores }], guard := none }) (v := ?_) rfl (by kernel_rfl) (by kernel_rfl) (by kernel_rfl) (fun _ _ _ h => h) ?_ hHeld ?_
    rotate_left
    · refine Or.inl ⟨by rfl, fun w hSw => ?_⟩; skip; go_simp; (try with_reducible rfl)
    try simp only [Act.put, List.setIfInBounds_toArray, List.set_cons_zero, List.set_cons_succ]
    refine wpAnyH_take (i := 4) (oi := { dst := some 25, op := Op.load 3 (Operand.tmp 24), type := 3, pos := "dir.go:53", after := #[{ on := 3, ground := Ground.data }, { on := 8, ground := Ground.gcOnly Departure.lateStores }], guard := none }) (v := ?_) rfl (by kernel_rfl) (by kernel_rfl) (by kernel_rfl) (fun _ _ _ h => h) ?_ hHeld ?_
    rotate_left
    · refine Or.inl ⟨by rfl, fun w hSw => ?_⟩; have c0 := Blk.cellv hSw 1 (.int .i64 i) rfl; go_simp; (try with_reducible rfl)
    try simp only [Act.put, List.setIfInBounds_toArray, List.set_cons_zero, List.set_cons_succ]
    refine wpAnyH_take (i := 5) (oi := { dst := some 26, op := Op.binOp BinOp.shr 3 (Operand.tmp 25) (Operand.const (Value.int IntKind.u64 8)) 60, type := 3, pos := "dir.go:53", after := #[{ on := 4, ground := Ground.data }, { on := 8, ground := Ground.gcOnly Departure.lateStores }], guard := none }) (v := ?_) rfl (by kernel_rfl) (by kernel_rfl) (by kernel_rfl) (fun _ _ _ h => h) ?_ hHeld ?_
    rotate_left
    · refine Or.inl ⟨by rfl, fun w hSw => ?_⟩; have hsh := hdz.out; go_simp; (try with_reducible rfl)
    try simp only [Act.put, List.setIfInBounds_toArray, List.set_cons_zero, List.set_cons_succ]
    refine wpAnyH_take (i := 6) (oi := { dst := some 27, op := Op.convert 3 5 (Operand.tmp 26), type := 5, pos := "dir.go:53", after := #[{ on := 5, ground := Ground.data }, { on := 8, ground := Ground.gcOnly Departure.lateStores }], guard := none }) (v := ?_) rfl (by kernel_rfl) (by kernel_rfl) (by kernel_rfl) (fun _ _ _ h => h) ?_ hHeld ?_
    rotate_left
    · refine Or.inl ⟨by rfl, fun w hSw => ?_⟩; have hw0 : IntKind.u8.wrap 0 = 0 := (by rfl); go_simp; (try with_reducible rfl)
    try simp only [Act.put, List.setIfInBounds_toArray, List.set_cons_zero, List.set_cons_succ]
    refine wpAnyH_take (i := 7) (oi := { dst := some 28, op := Op.indexAddr 59 (Operand.tmp 8) (Operand.const (Value.int IntKind.i64 0)), type := 0, pos := "dir.go:53", after := #[{ on := 0, ground := Ground.phase }, { on := 1, ground := Ground.phase }, { on := 2, ground := Ground.phase }, { on := 3, ground := Ground.textOnly Departure.lateStores }, { on := 4, ground := Ground.textOnly Departure.lateStores }, { on := 5, ground := Ground.textOnly Departure.lateStores }, { on := 6, ground := Ground.textOnly Departure.lateStores }], guard := none }) (v := ?_) rfl (by kernel_rfl) (by kernel_rfl) (by kernel_rfl) (fun _ _ _ h => h) ?_ hHeld ?_
    rotate_left
    · refine Or.inl ⟨by rfl, fun w hSw => ?_⟩; skip; go_simp; (try with_reducible rfl)
    try simp only [Act.put, List.setIfInBounds_toArray, List.set_cons_zero, List.set_cons_succ]
    refine wpAnyH_ready (rs := [8]) (by kernel_rfl) (by simp) ?_
    refine AllReadyH.cons (o := { dst := none, op := Op.store 5 (Operand.tmp 28) (Operand.tmp 23), type := 0, pos := "dir.go:53", after := #[{ on := 7, ground := Ground.data }, { on := 2, ground := Ground.data }, { on := 0, ground := Ground.phase }, { on := 1, ground := Ground.phase }, { on := 2, ground := Ground.phase }, { on := 3, ground := Ground.textOnly Departure.lateStores }, { on := 4, ground := Ground.textOnly Departure.lateStores }, { on := 5, ground := Ground.textOnly Departure.lateStores }, { on := 6, ground := Ground.textOnly Departure.lateStores }], guard := none }) rfl (fun Kc hKc => ?_) AllReadyH.nil
    refine step_of (by rfl) (wp_set 5 (.tmp 28) (.tmp 23) (by rfl) gb 0 (by rfl) (.int .u8 i) (by rfl) rfl 59 z16 K5 (by kernel_rfl) (by decide) ?_)
    intro wA kA gA sA
    refine hKc.out _ _ (Blk.grown hHeld gA hne1.out) (fun hHeld => ?_)
    clear hKc Kc
    try simp only [Act.put]
    refine wpAnyH_take (i := 9) (oi := { dst := some 29, op := Op.indexAddr 59 (Operand.tmp 8) (Operand.const (Value.int IntKind.i64 1)), type := 0, pos := "dir.go:53", after := #[{ on := 0, ground := Ground.phase }, { on := 1, ground := Ground.phase }, { on := 2, ground := Ground.phase }, { on := 3, ground := Ground.phase }, { on := 4, ground := Ground.phase }, { on := 5, ground := Ground.phase }, { on := 6, ground := Ground.phase }, { on := 7, ground := Ground.phase }, { on := 8, ground := Ground.phase }], guard := none }) (v := ?_) rfl (by kernel_rfl) (by kernel_rfl) (by kernel_rfl) (fun _ _ _ h => h) ?_ hHeld ?_
    rotate_left
    · refine Or.inl ⟨by rfl, fun w hSw => ?_⟩; skip; go_simp; (try with_reducible rfl)
    try simp only [Act.put, List.setIfInBounds_toArray, List.set_cons_zero, List.set_cons_succ]
    refine wpAnyH_ready (rs := [10]) (by kernel_rfl) (by simp) ?_
    refine AllReadyH.cons (o := { dst := none, op := Op.store 5 (Operand.tmp 29) (Operand.tmp 27), type := 0, pos := "dir.go:53", after := #[{ on := 9, ground := Ground.data }, { on := 6, ground := Ground.data }, { on := 8, ground := Ground.chain }, { on := 0, ground := Ground.phase }, { on := 1, ground := Ground.phase }, { on := 2, ground := Ground.phase }, { on := 3, ground := Ground.phase }, { on := 4, ground := Ground.phase }, { on := 5, ground := Ground.phase }, { on := 6, ground := Ground.phase }, { on := 7, ground := Ground.phase }, { on := 8, ground := Ground.phase }], guard := none }) rfl (fun Kc hKc => ?_) AllReadyH.nil
    refine step_of (by rfl) (wp_set 5 (.tmp 29) (.tmp 27) (by rfl) gb 1 (by rfl) (.int .u8 0) (by rfl) rfl 59 (z16.setIfInBounds 0 (.int .u8 i)) kA (by kernel_rfl) (by simp [z16, nums]) ?_)
    intro wB kB gB sB
    refine hKc.out _ _ (Blk.grown hHeld gB hne1.out) (fun hHeld => ?_)
    clear hKc Kc
    try simp only [Act.put]
    refine wpAnyH_done (by kernel_rfl) ?_ _
    have K2 := hHeld
    have K1 := ((K1.drew).grown gA hne0.out).grown gB hne0.out
    have K3 := ((K3.drew).grown gA hne2.out).grown gB hne2.out
    have BB := below_grown (below_grown (bl_drew B5) (bl_drew B5).size gA hbg.out) (by have h1 := B5.size; have h2 : w5.heap.size ≤ wA.heap.size := sA; omega) gB hbg.out
    clear K5 kA gA gB hHeld B5
    go_upto_region 5 with fail
    have K5 := kB.drew
    have K2 := K2.drew
    refine wp_region_held_drew (S := (fun w' => Blk w' w1.heap.size 30 #[.string s, .int .i64 i])) (by kernel_rfl) (K2) (fun hHeld => ?_)
    refine wpAnyH_take (i := 0) (oi := { dst := some 30, op := Op.slice 59 (Operand.tmp 8) (some (Operand.const (Value.int IntKind.i64 2))) none none, type := 22, pos := "dir.go:54", after := #[], guard := none }) (v := ?_) rfl (by kernel_rfl) (by kernel_rfl) (by kernel_rfl) (fun _ _ _ h => h) ?_ hHeld ?_
    rotate_left
    · refine Or.inl ⟨by rfl, fun w hSw => ?_⟩; skip; go_simp; (try with_reducible rfl)
    try simp only [Act.put, List.setIfInBounds_toArray, List.set_cons_zero, List.set_cons_succ]
    refine wpAnyH_take (i := 1) (oi := { dst := some 31, op := Op.fieldAddr 30 (Operand.tmp 5) 0, type := 0, pos := "dir.go:54", after := #[], guard := none }) (v := ?_) rfl (by kernel_rfl) (by kernel_rfl) (by kernel_rfl) (fun _ _ _ h => h) ?_ hHeld ?_
    rotate_left
    · refine Or.inl ⟨by rfl, fun w hSw => ?_⟩; skip; go_simp; (try with_reducible rfl)
    try simp only [Act.put, List.setIfInBounds_toArray, List.set_cons_zero, List.set_cons_succ]
    refine wpAnyH_take (i := 2) (oi := { dst := some 32, op := Op.load 9 (Operand.tmp 31), type := 9, pos := "dir.go:54", after := #[{ on := 1, ground := Ground.data }], guard := none }) (v := ?_) rfl (by kernel_rfl) (by kernel_rfl) (by kernel_rfl) (fun _ _ _ h => h) ?_ hHeld ?_
    rotate_left
    · refine Or.inl ⟨by rfl, fun w hSw => ?_⟩; have c0 := Blk.cellv hSw 0 (.string s) rfl; go_simp; (try with_reducible rfl)
    try simp only [Act.put, List.setIfInBounds_toArray, List.set_cons_zero, List.set_cons_succ]
    refine wpAnyH_ready (rs := [3]) (by kernel_rfl) (by simp) ?_
    refine AllReadyH.cons (o := { dst := some 33, op := Op.call { callee := Callee.builtin Builtin.copy, args := #[Operand.tmp 30, Operand.tmp 32], argTypes := #[22, 9] }, type := 3, pos := "dir.go:54", after := #[{ on := 0, ground := Ground.data }, { on := 2, ground := Ground.data }], guard := none }) rfl (fun Kc hKc => ?_) AllReadyH.nil
    refine step_copy_string rfl (.tmp 30) (.tmp 32) 22 9 rfl 5 Tryd.underlying22 (fun w => by kernel_rfl) gb 2 14 14 (by rfl) s (by rfl) (by omega) (hcs.out _ K5) (fun j _ => K5.frozen _) ?_
    have kC := Blk.setCells (s.data.toList.map fun x => Value.int .u8 (x.toNat : Int)) 2 K5
    have gC := grownBy_setCells gb (s.data.toList.map fun x => Value.int .u8 (x.toNat : Int)) 2 wB.drew
    rw [ent_cells ⟨s, i⟩ hs14] at kC
    generalize wB.drew.setCells gb 2 (s.data.toList.map fun x => Value.int .u8 (x.toNat : Int)) = wC at *
    refine hKc.out _ _ (Blk.grown hHeld gC hne1.out) (fun hHeld => ?_)
    clear hKc Kc
    try simp only [Act.put, List.setIfInBounds_toArray, List.set_cons_zero, List.set_cons_succ]
    refine wpAnyH_done (by kernel_rfl) ?_ _
    have K1 := (K1.drew).grown gC hne0.out
    have K3 := (K3.drew).grown gC hne2.out
    have hsC := gC.size
    have BB := below_grown (bl_drew BB) (bl_drew BB).size gC hbg.out
    clear K5 K2 hHeld kB gC
    go_upto_region 6 with fail
    have K5 := kC.drew
    have K1 := K1.drew
    have BB := bl_drew BB
    refine wp_region_held_drew (S := (fun w' => True)) (by kernel_rfl) (trivial) (fun hHeld => ?_)
    refine wpAnyH_take (i := 0) (oi := { dst := some 34, op := Op.move (Operand.tmp 1), type := 3, pos := "dir.go:55", after := #[], guard := none }) (v := ?_) rfl (by kernel_rfl) (by kernel_rfl) (by kernel_rfl) (fun _ _ _ h => h) ?_ hHeld ?_
    rotate_left
    · refine Or.inl ⟨by rfl, fun w hSw => ?_⟩; skip; go_simp; (try with_reducible rfl)
    try simp only [Act.put, List.setIfInBounds_toArray, List.set_cons_zero, List.set_cons_succ]
    refine wpAnyH_take (i := 1) (oi := { dst := some 35, op := Op.binOp BinOp.mul 3 (Operand.tmp 34) (Operand.const (Value.int IntKind.i64 16)) 3, type := 3, pos := "dir.go:55", after := #[{ on := 0, ground := Ground.data }], guard := none }) (v := ?_) rfl (by kernel_rfl) (by kernel_rfl) (by kernel_rfl) (fun _ _ _ h => h) ?_ hHeld ?_
    rotate_left
    · refine Or.inl ⟨by rfl, fun w hSw => ?_⟩; skip; go_simp; (try with_reducible rfl)
    try simp only [Act.put, List.setIfInBounds_toArray, List.set_cons_zero, List.set_cons_succ]
    refine wpAnyH_take (i := 2) (oi := { dst := some 36, op := Op.slice 27 (Operand.tmp 3) (some (Operand.tmp 35)) none none, type := 22, pos := "dir.go:55", after := #[{ on := 1, ground := Ground.data }], guard := none }) (v := ?_) rfl (by kernel_rfl) (by kernel_rfl) (by kernel_rfl) (fun _ _ _ h => h) ?_ hHeld ?_
    rotate_left
    · refine Or.inl ⟨by rfl, fun w hSw => ?_⟩; have hw0 : IntKind.i64.wrap 0 = 0 := (by rfl); have hw1 : IntKind.i64.wrap 16 = 16 := (by rfl); have hw2 : IntKind.i64.wrap 32 = 32 := (by rfl); have hw3 : IntKind.i64.wrap 48 = 48 := (by rfl); go_simp; (try with_reducible rfl)
    try simp only [Act.put, List.setIfInBounds_toArray, List.set_cons_zero, List.set_cons_succ]
    refine wpAnyH_take (i := 3) (oi := { dst := some 37, op := Op.slice 59 (Operand.tmp 8) none none none, type := 22, pos := "dir.go:55", after := #[], guard := none }) (v := ?_) rfl (by kernel_rfl) (by kernel_rfl) (by kernel_rfl) (fun _ _ _ h => h) ?_ hHeld ?_
    rotate_left
    · refine Or.inl ⟨by rfl, fun w hSw => ?_⟩; skip; go_simp; (try with_reducible rfl)
    try simp only [Act.put, List.setIfInBounds_toArray, List.set_cons_zero, List.set_cons_succ]
    refine wpAnyH_ready (rs := [4]) (by kernel_rfl) (by simp) ?_
    refine AllReadyH.cons (o := { dst := some 38, op := Op.call { callee := Callee.builtin Builtin.copy, args := #[Operand.tmp 36, Operand.tmp 37], argTypes := #[22, 22] }, type := 3, pos := "dir.go:55", after := #[{ on := 2, ground := Ground.data }, { on := 3, ground := Ground.data }], guard := none }) rfl (fun Kc hKc => ?_) AllReadyH.nil
    refine step_of (by rfl) (wp_copy_blk (.tmp 36) (.tmp 37) 22 22 (by rfl) 5 Tryd.underlying22 (by kernel_rfl) w.heap.size _ _ _ (by rfl) 27 (bc d) K1 (some ⟨gb, 0, none⟩) 16 16 (by rfl) (nums .u8 (ent ⟨s, i⟩)) ?_ ?_ ?_ (nums_one _ _) ?_)
    · rw [nums_length, ent_len hs14]; rfl
    · intro _; exact ⟨_, rfl, fun j v hv => by rw [add_plain]; exact (K5.cell j).trans (by rw [List.getElem?_toArray]; exact hv)⟩
    · rw [nums_length, ent_len hs14, bc_size]; decide
    intro wD kD gD sD
    refine hKc.out _ _ (trivial) (fun hHeld => ?_)
    clear hKc Kc
    try simp only [Act.put, List.setIfInBounds_toArray, List.set_cons_zero, List.set_cons_succ]
    refine wpAnyH_done (by kernel_rfl) ?_ _
    have K3 := (K3.drew).grown gD hne3.out
    have BB := below_grown BB BB.size gD (Nat.le_refl _)
    clear K5 K1 kC
    have kD : Blk wD w.heap.size 27 (bc D2) := by rw [hpc.out]; exact kD
    go_wp2_with (first
      | (refine wl_load rfl 27 (.tmp 3) rfl w.heap.size rfl 27 (bc D2) _ kD Tryd.underlying27 rfl (sz_bc _) ?_)
      | ((refine wl_store rfl 27 (.tmp 6) (.tmp 39) rfl w2.heap.size rfl (bc D2) rfl 27 (bc zb) K3 (sz_bc _) (by rw [bc_size, bc_size]) (bc_one _) ?_); intro wE kE gE sE))
    refine bodyPost_ret (res_cell_tmp rfl _ _ _ w2.heap.size 27 (bc D2) _ rfl kE Tryd.underlying27 rfl (sz_bc _)) rfl ⟨rfl, below_grown BB BB.size gE (by omega)⟩)
end Go.Proofs.YthihpejhhimkaaaDoor.Dir3
