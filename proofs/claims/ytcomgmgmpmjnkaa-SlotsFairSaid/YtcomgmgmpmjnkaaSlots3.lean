/- Contracts of package slots (all slots in turn). -/
import Derived.Test.YtcomgmgmpmjnkaaSlots2
import Derived.Deep.RegionHeld3
set_option linter.unusedVariables false
namespace Go.Proofs.Ytcomgmgmpmjnkaa.Slots3
open Go.RowKit Go.Proofs.Ytcomgmgmpmjnkaa.Base Go.Proofs.Ytcomgmgmpmjnkaa.Row Go.Proofs.Ytcomgmgmpmjnkaa.App Go.Proofs.Ytcomgmgmpmjnkaa.Slots Go.Proofs.Ytcomgmgmpmjnkaa.Slots2

/-- The slots from the t-th on, round. -/
def rot (l : List Int) (t : Nat) : List Int := l.drop t ++ l.take t
def AllPost (l : List Int) (n t : Nat) (w w' : World) (r : Ending) : Prop := (∃ A1 c1, r = .returned (.slice A1 n c1) ∧ w'.ownsRow w.heap.size 3 1 (.slice A1 n c1) n (nums .i64 (rot l t))) ∧ Below w.heap.size w w'
set_option maxRecDepth 100000 in
set_option maxHeartbeats 4000000 in
theorem all_some (ad : Addr) (n c t : Nat) (l : List Int) (w : World) (hr : Rd w .i64 (some ad) n l) (ht : t ≤ n) (hnc : n ≤ c) (hn : n ≤ 1000) :
    Calls Try.prog 41 #[.agg #[.slice (some ad) n c, .int .i64 t]] w fun r w' => AllPost l n t w w' r := by
  have B1 := bl_alloc (bl_refl w) (.cells #[.slice (some ad) n c, .int .i64 t] 96)
  have hr1 := (hr.below B1).drewN 1
  have f0 := (Blk.new w 96 #[.slice (some ad) n c, .int .i64 t]).cellv 0 (.slice (some ad) n c) rfl
  have f1 := (Blk.new w 96 #[.slice (some ad) n c, .int .i64 t]).cellv 1 (.int .i64 t) rfl
  have q1 : (t : Int) ≤ (n : Int) := by omega
  have q2 : (n : Int) ≤ (c : Int) := by omega
  have q3 : (t : Int) ≤ (c : Int) := by omega
  have hcut := hr1.cut ht hnc
  have htake := hr1.take ht
  obtain ⟨A2, hA2⟩ : ∃ A2, (if c = t then some ad else some (ad.add t)) = A2 := ⟨_, rfl⟩
  have hcut' : Rd (w.alloc (.cells #[.slice (some ad) n c, .int .i64 t] 96)).drew .i64 A2 (n - t) (l.drop t) := by rw [← hA2]; exact hcut
  have hA2n : Hid (A2 = none → c - t = 0) := Lib.hid (by rw [← hA2]; split <;> intro h <;> cases h)
  have HT := Lib.hid htake
  have h8 : 0 < 8 := by omega
  have hsn : some ad = none → c = 0 := fun h => by cases h
  have hby : (n - t + t) * 8 ≤ 140737488355328 := by omega
  clear hr hr1 hcut htake
  go_enter Try.func41, Try.ntmps41
  go_wp2
  have bd := bl_refl (w.alloc (.cells #[.slice (some ad) n c, .int .i64 t] 96)).drew
  go_region_held3 (fun w' => w'.cell? ⟨w.heap.size, 0, none⟩ = some (.slice (some ad) n c) ∧ w'.cell? ⟨w.heap.size, 1, none⟩ = some (.int .i64 t))
    (first
      | go_keep
      | exact ⟨bl_cell bx f0, bl_cell bx f1⟩
      | exact ⟨bl_cell B9 f0, bl_cell B9 f1⟩)
    (first
      | (go_at_call 70; refine (clone_c A2 (n - t) (c - t) (l.drop t) _ hcut' hA2n.out (by omega)).mono ?_; rintro r wx ⟨⟨Ax, cx, rfl, HOx⟩, bx⟩; have HTx := HT.out.below bx)
      | (refine step_app (w0 := (w.alloc (.cells #[.slice (some ad) n c, .int .i64 t] 96)).drew) _ 8 .i64 (.int .i64 0) (by rfl) (.tmp 8) (.tmp 13) 94 3 (by rfl) Try.underlying94 info_int rfl h8 (.slice Ax (n - t) cx) (n - t) (nums .i64 (l.drop t)) (by rfl) HOx (some ad) t c (l.take t) (by rfl) HTx hsn hby bx bx.size ?_; intro A9 c9 w9 HO9 B9 s9))
  all_goals (
    rw [show n - t + t = n by omega] at HO9
    rw [← nums_append] at HO9
    go_wp2
    go_ret
    refine ⟨⟨A9, c9, rfl, own_mono HO9 (by simp)⟩, bl_then (bl_drew B1) B9⟩)

set_option maxRecDepth 100000 in
theorem all_none (w : World) :
    Calls Try.prog 41 #[.agg #[.slice none 0 0, .int .i64 0]] w fun r w' => AllPost [] 0 0 w w' r := by
  have B1 := bl_alloc (bl_refl w) (.cells #[.slice none 0 0, .int .i64 0] 96)
  have f0 : (w.alloc (.cells #[.slice none 0 0, .int .i64 0] 96)).cell? ⟨w.heap.size, 0, none⟩ = some (.slice none 0 0) := (Blk.new w 96 #[.slice none 0 0, .int .i64 0]).cellv 0 (.slice none 0 0) rfl
  have f1 : (w.alloc (.cells #[.slice none 0 0, .int .i64 0] 96)).cell? ⟨w.heap.size, 1, none⟩ = some (.int .i64 0) := (Blk.new w 96 #[.slice none 0 0, .int .i64 0]).cellv 1 (.int .i64 0) rfl
  have hcl : ∀ w : World, Calls Try.prog 70 #[.slice none 0 0] w fun r w' => ClonePost [] 0 w w' r := fun w => clone_c none 0 0 [] w (Rd.nil _ _ _) (fun _ => rfl) (by omega)
  have hcl := Lib.hid hcl
  have h8 : 0 < 8 := by omega
  have hby : (0 + 0) * 8 ≤ 140737488355328 := by omega
  go_enter Try.func41, Try.ntmps41
  go_wp2
  go_region_held3 (fun w' => w'.cell? ⟨w.heap.size, 0, none⟩ = some (.slice none 0 0) ∧ w'.cell? ⟨w.heap.size, 1, none⟩ = some (.int .i64 0))
    (first
      | go_keep
      | exact ⟨bl_cell bx f0, bl_cell bx f1⟩
      | exact ⟨bl_cell B9 f0, bl_cell B9 f1⟩)
    (first
      | (go_at_call 70; refine (hcl.out _).mono ?_; rintro r wx ⟨⟨Ax, cx, rfl, HOx⟩, bx⟩; have HTx := Rd.nil wx .i64 none)
      | (refine step_app (w0 := (w.alloc (.cells #[.slice none 0 0, .int .i64 0] 96)).drew) _ 8 .i64 (.int .i64 0) (by rfl) (.tmp 8) (.tmp 13) 94 3 (by rfl) Try.underlying94 info_int rfl h8 (.slice Ax 0 cx) 0 (nums .i64 []) (by rfl) HOx none 0 0 [] (by rfl) HTx (fun _ => rfl) hby bx bx.size ?_; intro A9 c9 w9 HO9 B9 s9))
  all_goals (
    go_wp2
    go_ret
    refine ⟨⟨A9, c9, rfl, own_mono HO9 (by simp)⟩, bl_then (bl_drew B1) B9⟩)
/-- The slots in turn, whatever they are. -/
theorem all_c (A : Option Addr) (n c t : Nat) (l : List Int) (w : World) (hr : Rd w .i64 A n l) (hA : A = none → c = 0) (ht : t ≤ n) (hnc : n ≤ c) (hn : n ≤ 1000) :
    Calls Try.prog 41 #[.agg (rv A n c t)] w fun r w' => AllPost l n t w w' r := by
  cases A with
  | some ad => exact all_some ad n c t l w hr ht hnc hn
  | none =>
    obtain rfl : c = 0 := hA rfl
    obtain rfl : n = 0 := by omega
    obtain rfl : t = 0 := by omega
    obtain rfl : l = [] := List.length_eq_zero_iff.1 hr.len
    exact all_none w
end Go.Proofs.Ytcomgmgmpmjnkaa.Slots3
