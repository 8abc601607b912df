/- sync.Once in one goroutine, over a block that is known whole: (done word, lock word, semaphore, ..). Lines turned from the kit's worked text on a lazy value. -/
import Derived.Test.YtdokmnpkihmkpaaRow
import Derived.Test.YtdokmnpkihmkpaaLocks
import Derived.Tactics
import Derived.Tactics2
import Derived.Defers
import Derived.Laws.Pointers
import Derived.Laws.LoneSync
import Derived.RegionTactic
import Derived.RegionCalls
import Derived.ChangeAlike
set_option linter.unusedVariables false
namespace Go.Proofs.Ytdokmnpkihmkpaa.Once
open Go.RowKit Go.Proofs.Ytdokmnpkihmkpaa.Base Go.Proofs.Ytdokmnpkihmkpaa.Row

theorem grown_drew (w : World) (g : Nat) : w.grownBy w.drew (some g) := grown_of_below (bl_drew (bl_refl w)) _

/-- The cells of a table behind its Once: done, the lock's two, and what follows. -/
def oc (d m : Int) (r : List Value) : Array Value := (Value.int .u32 d :: .int .i32 m :: .int .u32 0 :: r).toArray

/-- (*sync/atomic.Bool).Store(true), entered as a deferred call. -/
theorem store_deferred (a : Addr) (x : Value) (u : FrameMode) (w : World) (hc : w.cell? a = some x) (hz : w.frozen? a = false) :
    CallsD Try.prog 90 #[.pointer (some a), .bool true] u w fun e u' w' => u' = u ∧ (e = .returned (.tuple #[]) ∧ w' = w.drew.setCell a (.int .u32 1)) := by
  have hc' : w.drew.cell? a = some x := by go_simp
  have hz' : w.drew.frozen? a = false := by go_simp
  have hst := run_call_store (P := Try.prog) Try.func95 (by kernel_rfl) (by kernel_rfl) (by kernel_rfl) (by kernel_rfl) (k := .u32) (y := 1) hc' hz'
  go_enter_d Try.func90, Try.ntmps90
  go_wp2
  go_region_calls
  all_goals (go_end0; exact ⟨rfl, rfl⟩)

theorem load1 (g : Nat) (w : World) (x : Int) (hc : w.cell? ⟨g, 0, none⟩ = some (.int .u32 x)) :
    Calls Try.prog 81 #[.pointer (some ⟨g, 0, none⟩)] w fun e w' => e = .returned (.bool (x != 0)) ∧ w = w' := by
  have hl := run_call_load (P := Try.prog) Try.func87 (by kernel_rfl) (by kernel_rfl) (by kernel_rfl) .u32 (by kernel_rfl) hc
  go_enter Try.func81, Try.ntmps81
  go_wp2
  go_ret
  exact ⟨rfl, rfl⟩

set_option maxRecDepth 100000 in
set_option maxHeartbeats 1600000 in
/-- The slow road, not done yet: the function is called with the lock held. -/
theorem slow_c (g ff : Nat) (T : TypeId) (r r' : List Value) (w : World) (h : Blk w g T (oc 0 0 r))
    (hf : ff = 76) (hfill : ∀ w1, Blk w1 g T (oc 0 1 r) → Calls Try.prog 76 #[.pointer (some ⟨g, 0, none⟩)] w1 fun e w2 => e = .returned (.tuple #[]) ∧ Blk w2 g T (oc 0 1 r') ∧ w1.grownBy w2 (some g)) :
    Calls Try.prog 82 #[.pointer (some ⟨g, 0, none⟩), .func (.func 76) #[.pointer (some ⟨g, 0, none⟩)] #[]] w fun e w' => e = .returned (.tuple #[]) ∧ Blk w' g T (oc 1 0 r') ∧ w.grownBy w' (some g) := by
  have hnot : ∀ (x : Bool) (w : World), (Op.unary .not (.bool x)).run Try.prog w = .ok (.bool (!x)) w := fun _ _ => rfl
  have c1 := h.cellv 1 (.int .i32 0) rfl
  have z1 := h.frozen 1
  have hh := Lib.hid h
  have hfill' := Lib.hid hfill
  clear h hfill
  go_enter_defers Try.func82, Try.ntmps82
  go_wp2_with fail
  refine (Go.MuLone.lock_free muLib ⟨g, 1, none⟩ w c1 z1).mono ?_
  rintro e w1 ⟨rfl, rfl⟩
  have k1 : Blk (w.setCell ⟨g, 1, none⟩ (.int .i32 1)) g T (oc 0 1 r) := hh.out.set_ 1 _
  have g1 := grownBy_set w g 1 (.int .i32 1)
  generalize w.setCell ⟨g, 1, none⟩ (.int .i32 1) = w1 at *
  have d1 := k1.cellv 0 (.int .u32 0) rfl
  clear c1 z1
  go_wp2_with fail
  refine (load1 g w1 0 d1).mono ?_
  rintro e w2 ⟨rfl, rfl⟩
  go_wp2_with fail
  refine (hfill'.out w1 k1).mono ?_
  rintro e w2 ⟨rfl, k2, g2⟩
  go_wp2
  refine leaves_cons (f := 90) (args := #[.pointer (some ⟨g, 0, none⟩), .bool true]) (by simp) (by simp [go_sem]) ?_
  refine (store_deferred ⟨g, 0, none⟩ (.int .u32 0) .returning _ (k2.cellv 0 _ rfl) (k2.frozen 0)).mono ?_
  rintro e u' w'' ⟨rfl, rfl, rfl⟩
  have k3 : Blk (w2.drew.setCell ⟨g, 0, none⟩ (.int .u32 1)) g T (oc 1 1 r') := (k2.drew).set_ 0 _
  refine leaves_cons (f := 89) (args := #[.pointer (some ⟨g, 1, none⟩)]) (by simp [settle]) (by simp [go_sem]) ?_
  refine (Go.MuLone.unlock_deferred muLib ⟨g, 1, none⟩ _ _ (k3.cellv 1 _ rfl) (k3.frozen 1)).mono ?_
  rintro e u' w'' ⟨rfl, rfl, rfl⟩
  exact ⟨_, results_none rfl _ _ _, rfl, k3.set_ 1 _, World.grownBy.trans g1 (World.grownBy.trans g2 (World.grownBy.trans (grown_drew _ _) (World.grownBy.trans (grownBy_set _ _ _ _) (grownBy_set _ _ _ _))))⟩

set_option maxRecDepth 100000 in
set_option maxHeartbeats 1600000 in
theorem do_first (g : Nat) (T : TypeId) (r r' : List Value) (w : World) (h : Blk w g T (oc 0 0 r))
    (hfill : ∀ w1, Blk w1 g T (oc 0 1 r) → Calls Try.prog 76 #[.pointer (some ⟨g, 0, none⟩)] w1 fun e w2 => e = .returned (.tuple #[]) ∧ Blk w2 g T (oc 0 1 r') ∧ w1.grownBy w2 (some g)) :
    Calls Try.prog 75 #[.pointer (some ⟨g, 0, none⟩), .func (.func 76) #[.pointer (some ⟨g, 0, none⟩)] #[]] w fun e w' => e = .returned (.tuple #[]) ∧ Blk w' g T (oc 1 0 r') ∧ w.grownBy w' (some g) := by
  have hnot : ∀ (x : Bool) (w : World), (Op.unary .not (.bool x)).run Try.prog w = .ok (.bool (!x)) w := fun _ _ => rfl
  have d1 := h.cellv 0 (.int .u32 0) rfl
  have hh := Lib.hid h
  have hfill' := Lib.hid hfill
  clear h hfill
  go_enter Try.func75, Try.ntmps75
  go_wp2_with fail
  refine (load1 g w 0 d1).mono ?_
  rintro e w2 ⟨rfl, rfl⟩
  go_wp2_with fail
  refine (slow_c g _ T r r' w hh.out rfl hfill'.out).mono ?_
  rintro e w2 ⟨rfl, k2, g2⟩
  go_wp2
  go_end0
  exact ⟨rfl, k2, g2⟩

theorem do_done (g : Nat) (w : World) (fv : Value) (h : w.cell? ⟨g, 0, none⟩ = some (.int .u32 1)) :
    Calls Try.prog 75 #[.pointer (some ⟨g, 0, none⟩), fv] w fun e w' => e = .returned (.tuple #[]) ∧ w = w' := by
  have hnot : ∀ (x : Bool) (w : World), (Op.unary .not (.bool x)).run Try.prog w = .ok (.bool (!x)) w := fun _ _ => rfl
  go_enter Try.func75, Try.ntmps75
  go_wp2_with fail
  refine (load1 g w 1 h).mono ?_
  rintro e w2 ⟨rfl, rfl⟩
  go_wp2
  go_end0
  exact ⟨rfl, rfl⟩
end Go.Proofs.Ytdokmnpkihmkpaa.Once
