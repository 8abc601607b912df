/- Contracts of package clock's alarm. -/
import Derived.Test.YtcomgmgmpmjnkaaRow
import Derived.Test.YtcomgmgmpmjnkaaProg
import Derived.Laws.LoneSync
import Derived.RegionCalls
set_option linter.unusedVariables false
namespace Go.Proofs.Ytcomgmgmpmjnkaa.Clock
open Go.RowKit Go.Proofs.Ytcomgmgmpmjnkaa.Base Go.Proofs.Ytcomgmgmpmjnkaa.Row

/-- sync/atomic.SwapT: what was there is handed back, the new number stored. -/
theorem run_call_swap {P : Program} {f : FuncId} {fn : Func} (hf : P.funcs[f]? = some fn) (hname : (fn.name == "runtime.NumGoroutine") = false) (hb : fn.body.isNone = true) (hn : Extern.findNext fn = none) (k : IntKind)
    (he : Extern.find fn = some (Extern.Atomic.swapT (.int k))) {a : Addr} {x y : Int} {w : World} (hc : w.cell? a = some (.int k x)) (hz : w.frozen? a = false) :
    (callFunc f #[.pointer (some a), .int k y]).run P w = .ok (.value (.int k x)) (w.setCell a (.int k y)) := by
  rw [run_callFunc_extern hf hname hb hn he]
  change (Sem.run P (do
    let a' ← asAddr (.pointer (some a))
    let old ← Extern.Atomic.read (.int k) a'
    store a' (.int k y) .atomic
    pure old) w).andThen _ = _
  simp [Extern.Atomic.read, asAddr, hc, hz, run_store P w a (.int k y) .atomic rfl, Result.andThen]

section
variable (g i : Nat) (w : World)
theorem store64 (x y : Int) (hc : w.cell? ⟨g, i, none⟩ = some (.int .u64 x)) (hz : w.frozen? ⟨g, i, none⟩ = false) :
    Calls Try.prog 51 #[.pointer (some ⟨g, i, none⟩), .int .u64 y] w fun e w' => e = .returned (.tuple #[]) ∧ w' = w.setCell ⟨g, i, none⟩ (.int .u64 y) := by
  have h := run_call_store (P := Try.prog) Try.func71 (by kernel_rfl) (by kernel_rfl) (by kernel_rfl) (by kernel_rfl) (k := .u64) (y := y) hc hz
  go_enter Try.func51, Try.ntmps51
  go_wp2
  go_end0
  exact ⟨rfl, rfl⟩
theorem load64 (x : Int) (hc : w.cell? ⟨g, i, none⟩ = some (.int .u64 x)) :
    Calls Try.prog 54 #[.pointer (some ⟨g, i, none⟩)] w fun e w' => e = .returned (.int .u64 x) ∧ w = w' := by
  have h := run_call_load (P := Try.prog) Try.func75 (by kernel_rfl) (by kernel_rfl) (by kernel_rfl) .u64 (by kernel_rfl) hc
  go_enter Try.func54, Try.ntmps54
  go_wp2
  go_ret
  exact ⟨rfl, rfl⟩
theorem b32_c (b : Bool) : Calls Try.prog 73 #[.bool b] w fun e w' => e = .returned (.int .u32 (if b then 1 else 0)) ∧ w = w' := by
  cases b <;> (go_enter Try.func73, Try.ntmps73; go_wp2; go_ret; exact ⟨rfl, rfl⟩)
def bit (b : Bool) : Int := if b then 1 else 0
theorem load1 (b : Bool) (hc : w.cell? ⟨g, i, none⟩ = some (.int .u32 (bit b))) :
    Calls Try.prog 53 #[.pointer (some ⟨g, i, none⟩)] w fun e w' => e = .returned (.bool b) ∧ w = w' := by
  cases b
  · have h := run_call_load (P := Try.prog) Try.func74 (by kernel_rfl) (by kernel_rfl) (by kernel_rfl) .u32 (by kernel_rfl) hc
    simp only [bit, Bool.false_eq_true, if_false] at h
    clear hc
    go_enter Try.func53, Try.ntmps53
    go_wp2
    go_ret
    exact ⟨rfl, rfl⟩
  · have h := run_call_load (P := Try.prog) Try.func74 (by kernel_rfl) (by kernel_rfl) (by kernel_rfl) .u32 (by kernel_rfl) hc
    simp only [bit, if_true] at h
    clear hc
    go_enter Try.func53, Try.ntmps53
    go_wp2
    go_ret
    exact ⟨rfl, rfl⟩
theorem store1 (b : Bool) (x : Int) (hc : w.cell? ⟨g, i, none⟩ = some (.int .u32 x)) (hz : w.frozen? ⟨g, i, none⟩ = false) :
    Calls Try.prog 52 #[.pointer (some ⟨g, i, none⟩), .bool b] w fun e w' => e = .returned (.tuple #[]) ∧ w' = (w.setCell ⟨g, i, none⟩ (.int .u32 (bit b))).drew := by
  have h := run_call_store (P := Try.prog) Try.func72 (by kernel_rfl) (by kernel_rfl) (by kernel_rfl) (by kernel_rfl) (k := .u32) (y := bit b) (w := w.drew) hc hz
  cases b
  all_goals (
    simp only [bit, Bool.false_eq_true, if_false, if_true] at h
    go_enter Try.func52, Try.ntmps52
    go_wp2
    go_region_calls
    go_end0
    exact ⟨rfl, rfl⟩)
set_option maxHeartbeats 2000000 in
theorem swap1 (b c : Bool) (hc : w.cell? ⟨g, i, none⟩ = some (.int .u32 (bit b))) (hz : w.frozen? ⟨g, i, none⟩ = false) :
    Calls Try.prog 56 #[.pointer (some ⟨g, i, none⟩), .bool c] w fun e w' => e = .returned (.bool b) ∧ w' = (w.setCell ⟨g, i, none⟩ (.int .u32 (bit c))).drew := by
  have h := run_call_swap (P := Try.prog) Try.func77 (by kernel_rfl) (by kernel_rfl) (by kernel_rfl) .u32 (by kernel_rfl) (y := bit c) (w := w.drew) hc hz
  clear hc
  cases b <;> cases c
  all_goals (
    simp only [bit, Bool.false_eq_true, if_false, if_true] at h
    go_enter Try.func56, Try.ntmps56
    go_wp2
    go_region_calls
    go_wp2
    go_ret
    exact ⟨rfl, rfl⟩)
theorem cas1 (hc : w.cell? ⟨g, i, none⟩ = some (.int .u32 1)) (hz : w.frozen? ⟨g, i, none⟩ = false) :
    Calls Try.prog 55 #[.pointer (some ⟨g, i, none⟩), .bool true, .bool false] w fun e w' => e = .returned (.bool true) ∧ w' = (w.setCell ⟨g, i, none⟩ (.int .u32 0)).drew := by
  have h := run_call_cas_hit (P := Try.prog) Try.func76 (by kernel_rfl) (by kernel_rfl) (by kernel_rfl) .u32 (by kernel_rfl) (y := 0) (w := w.drew) hc hz
  clear hc
  go_enter Try.func55, Try.ntmps55
  go_wp2
  go_region_calls
  all_goals (
    go_wp2
    go_ret
    exact ⟨rfl, rfl⟩)
end

/-- An alarm in memory. -/
def Al (w : World) (g : Nat) (at_ : Int) (b : Bool) : Prop := Blk w g 34 #[.int .u64 at_, .int .u32 (bit b)]
theorem grown_drew (w : World) (g : Nat) : w.grownBy w.drew (some g) := grown_of_below (bl_drew (bl_refl w)) _
theorem set_c (g : Nat) (w : World) (x y : Int) (b : Bool) (h : Al w g x b) :
    Calls Try.prog 12 #[.pointer (some ⟨g, 0, none⟩), .int .u64 y] w fun e w' => e = .returned (.tuple #[]) ∧ Al w' g y true ∧ w.grownBy w' (some g) := by
  have h' : Blk (w.setCell ⟨g, 0, none⟩ (.int .u64 y)) g 34 #[.int .u64 y, .int .u32 (bit b)] := Blk.set_ h 0 (.int .u64 y)
  have c0 := Lib.hid (Blk.cellv h 0 (.int .u64 x) rfl)
  have z0 := Lib.hid (Blk.frozen h 0)
  have c1 := Lib.hid (h'.cellv 1 (.int .u32 (bit b)) rfl)
  have z1 := Lib.hid (h'.frozen 1)
  have hh := Lib.hid h'
  clear h h'
  go_enter Try.func12, Try.ntmps12
  go_wp2_with fail
  refine (store64 g 0 w x y c0.out z0.out).mono ?_
  rintro e w1 ⟨rfl, rfl⟩
  go_wp2_with fail
  refine (store1 g 1 _ true _ c1.out z1.out).mono ?_
  rintro e w2 ⟨rfl, rfl⟩
  go_wp2
  go_end0
  refine ⟨rfl, ?_, ?_⟩
  · exact (hh.out.set_ 1 (.int .u32 (bit true))).drew
  · exact World.grownBy.trans (grownBy_set _ _ _ _) (World.grownBy.trans (grownBy_set _ _ _ _) (grown_drew _ _))
theorem off_c (g : Nat) (w : World) (x : Int) (b : Bool) (h : Al w g x b) :
    Calls Try.prog 14 #[.pointer (some ⟨g, 0, none⟩)] w fun e w' => e = .returned (.bool b) ∧ Al w' g x false ∧ w.grownBy w' (some g) := by
  have c1 := Lib.hid (Blk.cellv h 1 (.int .u32 (bit b)) rfl)
  have z1 := Lib.hid (Blk.frozen h 1)
  have hh := Lib.hid h
  clear h
  go_enter Try.func14, Try.ntmps14
  go_wp2_with fail
  refine (swap1 g 1 w b false c1.out z1.out).mono ?_
  rintro e w1 ⟨rfl, rfl⟩
  go_wp2
  go_ret
  refine ⟨by cases b <;> rfl, (Blk.set_ hh.out 1 (.int .u32 (bit false))).drew, ?_⟩
  exact World.grownBy.trans (grownBy_set _ _ _ _) (grown_drew _ _)
/-- Whether an alarm goes off. -/
def goes (b : Bool) (x y : Int) : Bool := b && decide (x ≤ y)
theorem due_c (g : Nat) (w : World) (x y : Int) (b : Bool) (h : Al w g x b) :
    Calls Try.prog 13 #[.pointer (some ⟨g, 0, none⟩), .int .u64 y] w fun e w' => e = .returned (.bool (goes b x y)) ∧ Al w' g x (b && !goes b x y) ∧ w.grownBy w' (some g) := by
  have c0 := Lib.hid (Blk.cellv h 0 (.int .u64 x) rfl)
  have c1 := Lib.hid (Blk.cellv h 1 (.int .u32 (bit b)) rfl)
  have z1 := Lib.hid (Blk.frozen h 1)
  have hh := Lib.hid h
  clear h
  cases b with
  | false =>
    go_enter Try.func13, Try.ntmps13
    go_wp2_with fail
    refine (load1 g 1 w false c1.out).mono ?_
    rintro e w1 ⟨rfl, rfl⟩
    go_wp2
    go_ret
    exact ⟨rfl, hh.out, World.grownBy.refl _ _⟩
  | true =>
    by_cases hxy : x ≤ y
    · have q : decide (x ≤ y) = true := by simpa using hxy
      have hg := Lib.hid (show goes true x y = true by simp [goes, hxy])
      clear hxy
      go_enter Try.func13, Try.ntmps13
      go_wp2_with fail
      refine (load1 g 1 w true c1.out).mono ?_
      rintro e w1 ⟨rfl, rfl⟩
      go_wp2_with fail
      refine (load64 g 0 w x c0.out).mono ?_
      rintro e w1 ⟨rfl, rfl⟩
      go_wp2_with fail
      refine (cas1 g 1 w c1.out z1.out).mono ?_
      rintro e w1 ⟨rfl, rfl⟩
      go_wp2
      go_ret
      refine ⟨by rw [hg.out]; rfl, ?_, World.grownBy.trans (grownBy_set _ _ _ _) (grown_drew _ _)⟩
      rw [hg.out]
      exact (Blk.set_ hh.out 1 (.int .u32 (bit false))).drew
    · have q : decide (x ≤ y) = false := by simpa using hxy
      have hg := Lib.hid (show goes true x y = false by simp [goes, hxy])
      clear hxy
      go_enter Try.func13, Try.ntmps13
      go_wp2_with fail
      refine (load1 g 1 w true c1.out).mono ?_
      rintro e w1 ⟨rfl, rfl⟩
      go_wp2_with fail
      refine (load64 g 0 w x c0.out).mono ?_
      rintro e w1 ⟨rfl, rfl⟩
      go_wp2
      go_ret
      refine ⟨by rw [hg.out]; rfl, ?_, World.grownBy.refl _ _⟩
      rw [hg.out]
      exact hh.out

theorem add64 (g i : Nat) (w : World) (x y : Int) (hc : w.cell? ⟨g, i, none⟩ = some (.int .u64 x)) (hz : w.frozen? ⟨g, i, none⟩ = false) :
    Calls Try.prog 57 #[.pointer (some ⟨g, i, none⟩), .int .u64 y] w fun e w' => e = .returned (.int .u64 (IntKind.u64.wrap (x + y))) ∧ w' = w.setCell ⟨g, i, none⟩ (.int .u64 (IntKind.u64.wrap (x + y))) := by
  have h := run_call_add (P := Try.prog) Try.func78 (by kernel_rfl) (by kernel_rfl) (by kernel_rfl) .u64 (by kernel_rfl) hc hz (y := y) (s := IntKind.u64.wrap (x + y)) rfl
  go_enter Try.func57, Try.ntmps57
  go_wp2
  go_ret
  exact ⟨rfl, rfl⟩
/-- A clock in memory. -/
def Cl (w : World) (g : Nat) (x : Int) : Prop := Blk w g 42 #[.int .u64 x]
theorem go_c (g : Nat) (w : World) (x y : Int) (h : Cl w g x) :
    Calls Try.prog 16 #[.pointer (some ⟨g, 0, none⟩), .int .u64 y] w fun e w' => e = .returned (.int .u64 (IntKind.u64.wrap (x + y))) ∧ Cl w' g (IntKind.u64.wrap (x + y)) ∧ w.grownBy w' (some g) := by
  have c0 := Lib.hid (Blk.cellv h 0 (.int .u64 x) rfl)
  have z0 := Lib.hid (Blk.frozen h 0)
  have hh := Lib.hid h
  clear h
  go_enter Try.func16, Try.ntmps16
  go_wp2_with fail
  refine (add64 g 0 w x y c0.out z0.out).mono ?_
  rintro e w1 ⟨rfl, rfl⟩
  go_wp2
  go_ret
  exact ⟨rfl, Blk.set_ hh.out 0 _, grownBy_set _ _ _ _⟩
set_option maxHeartbeats 1000000 in
theorem awake_c (w : World) : Calls Try.prog 15 #[] w fun e w' => e = .returned (.bool true) ∧ Below w.heap.size w w' := by
  go_enter Try.func15, Try.ntmps15
  go_wp2_with (first
    | ((with_reducible refine wl_box rfl 42 _ rfl (#[.int .u64 0]) rfl ?_); intro w1 k1 b1 s1)
    | ((with_reducible refine wl_box rfl 34 _ rfl (#[.int .u64 0, .int .u32 0]) rfl ?_); intro w2 k2 b2 s2; have k1' := k1.below b2))
  have B2 := bl_then b1 b2
  have s2' := b2.size
  refine (go_c w.heap.size w2 0 5 k1').mono ?_
  rintro e w3 ⟨rfl, k3, g3⟩
  have B3 := below_grown B2 B2.size g3 (Nat.le_refl _)
  have k3' : Al w3 w1.heap.size 0 false := Blk.grown (show Blk w2 w1.heap.size _ _ from k2) g3 (fun e => by injection e with e; omega)
  have s3 := g3.size
  clear k1 k1' k2 b1 b2 B2 g3
  go_wp2_with fail
  refine (set_c w1.heap.size w3 0 3 false k3').mono ?_
  rintro e w4 ⟨rfl, k4, g4⟩
  have B4 := below_grown B3 B3.size g4 (by omega)
  have k4' : Cl w4 w.heap.size 5 := Blk.grown k3 g4 (fun e => by injection e with e; omega)
  have s4 := g4.size
  clear k3 k3' B3 g4
  go_wp2_with fail
  refine (go_c w.heap.size w4 5 2 k4').mono ?_
  rintro e w5 ⟨rfl, k5, g5⟩
  have B5 := below_grown B4 B4.size g5 (Nat.le_refl _)
  have k5' : Al w5 w1.heap.size 3 true := Blk.grown k4 g5 (fun e => by injection e with e; omega)
  clear k4 k4' B4 g5 k5
  go_wp2_with fail
  refine (due_c w1.heap.size w5 3 2 true k5').mono ?_
  rintro e w6 ⟨rfl, k6, g6⟩
  have B6 := below_grown B5 B5.size g6 (by omega)
  have k6' : Al w6 w1.heap.size 3 true := k6
  rw [show goes true 3 2 = false from rfl]
  clear k5' B5 g6 k6
  go_wp2_with fail
  refine (due_c w1.heap.size w6 3 4 true k6').mono ?_
  rintro e w7 ⟨rfl, k7, g7⟩
  have B7 := below_grown B6 B6.size g7 (by omega)
  have k7' : Al w7 w1.heap.size 3 false := k7
  rw [show goes true 3 4 = true from rfl]
  clear k6' B6 g7 k7
  go_wp2_with fail
  refine (due_c w1.heap.size w7 3 5 false k7').mono ?_
  rintro e w8 ⟨rfl, k8, g8⟩
  have B8 := below_grown B7 B7.size g8 (by omega)
  rw [show goes false 3 5 = false from rfl]
  clear k7' B7 g8 k8
  go_wp2
  go_ret
  exact ⟨rfl, B8⟩
end Go.Proofs.Ytcomgmgmpmjnkaa.Clock
