/- ClockNone: with nil clocks, meters and alarms the law's text returns true. -/
import Derived.Test.YtcomgmgmpmjnkaaClock
import Derived.Lib.SmallJoins
import Derived.ChangeArms
import Derived.StillTailTactics
set_option linter.unusedVariables false
namespace Go.Proofs.Ytcomgmgmpmjnkaa.ClockNone
open Go.RowKit Go.Proofs.Ytcomgmgmpmjnkaa.Base Go.Proofs.Ytcomgmgmpmjnkaa.Row Go.Proofs.Ytcomgmgmpmjnkaa.Clock
open Go.Joins Go.ChangeShapes Go.WideShapes

theorem setN (x : Int) (w : World) : Calls Try.prog 12 #[.pointer none, .int .u64 x] w fun e w' => e = .returned (.tuple #[]) ∧ w = w' := by
  go_enter Try.func12, Try.ntmps12
  go_wp2
  go_end0
  exact ⟨rfl, rfl⟩
theorem goN (x : Int) (w : World) : Calls Try.prog 16 #[.pointer none, .int .u64 x] w fun e w' => e = .returned (.int .u64 0) ∧ w = w' := by
  go_enter Try.func16, Try.ntmps16
  go_wp2
  go_ret
  exact ⟨rfl, rfl⟩
theorem nowN (w : World) : Calls Try.prog 22 #[.pointer none] w fun e w' => e = .returned (.int .u64 0) ∧ w = w' := by
  go_enter Try.func22, Try.ntmps22
  go_wp2
  go_ret
  exact ⟨rfl, rfl⟩
theorem spendN (a b : Int) (w : World) : Calls Try.prog 17 #[.pointer none, .int .i64 a, .int .i64 b] w fun e w' => e = .returned (.bool false) ∧ w = w' := by
  go_enter Try.func17, Try.ntmps17
  go_wp2
  go_ret
  exact ⟨rfl, rfl⟩
theorem spentN (a : Int) (w : World) : Calls Try.prog 23 #[.pointer none, .int .i64 a] w fun e w' => e = .returned (.int .i64 0) ∧ w = w' := by
  go_enter Try.func23, Try.ntmps23
  go_wp2
  go_ret
  exact ⟨rfl, rfl⟩
theorem clearN (a : Int) (w : World) : Calls Try.prog 19 #[.pointer none, .int .i64 a] w fun e w' => e = .returned (.int .i64 0) ∧ w = w' := by
  go_enter Try.func19, Try.ntmps19
  go_wp2
  go_ret
  exact ⟨rfl, rfl⟩
theorem dueN (x : Int) (w : World) : Calls Try.prog 13 #[.pointer none, .int .u64 x] w fun e w' => e = .returned (.bool false) ∧ w = w' := by
  go_enter Try.func13, Try.ntmps13
  go_wp2
  go_ret
  exact ⟨rfl, rfl⟩
theorem offN (w : World) : Calls Try.prog 14 #[.pointer none] w fun e w' => e = .returned (.bool false) ∧ w = w' := by
  go_enter Try.func14, Try.ntmps14
  go_wp2
  go_ret
  exact ⟨rfl, rfl⟩
theorem allN (w : World) : Calls Try.prog 24 #[.pointer none] w fun e w' => e = .returned (.int .i64 0) ∧ w = w' := by
  go_enter Try.func24, Try.ntmps24
  go_wp2
  go_loopw [3, 5] (fun n i wr => ∃ k : Nat, k ≤ 16 ∧ n = .int .i64 0 ∧ i = .int .i64 k ∧ w = wr) (fun _ i _ => 16 - (intOf i).toNat)
  case atStart => exact ⟨0, by omega, rfl, rfl, rfl⟩
  case round =>
    obtain ⟨k, hk, rfl, rfl, rfl⟩ := hrel
    by_cases hlt : k < 16
    · have hq : decide ((k : Int) < 16) = true := by simp; omega
      go_wp2_with fail
      refine (spentN k _).mono ?_
      rintro e w1 ⟨rfl, rfl⟩
      go_wp2_with fail
      go_roundw
      case rel => exact ⟨k + 1, by omega, by simp, by go_num, trivial⟩
      case measure => first | (simp [intOf]; done) | (simp [intOf]; omega)
    · have hq : decide ((k : Int) < 16) = false := by simp; omega
      go_wp2
      go_ret
      exact ⟨rfl, rfl⟩

/-- What the argument is. -/
def Arg (i : Nat) (w : World) (v : Value) : Prop := ∃ a b c x, v = .agg #[.int .i64 a, .int .i64 b, .int .i64 c, .int .u64 x]
set_option maxRecDepth 100000 in
theorem arg0 {H : Type} {enc : TypeId × Value → H} {W : World} {base : Nat} {v : Value} {d : DataW H} {p : List MemPlace} (hv : Value.okWide Try.prog W .any base 54 v)
    (h : DataW.Trod enc Try.prog W 0 (fun _ => true) true 54 v d p) : Arg 0 W v := by
  obtain ⟨v0, v1, v2, v3, y0, y1, y2, y3, n, rfl, _, _, h0, h1, h2, h3⟩ := open_agg4 Try.underlying54 (by kernel_rfl) (by kernel_rfl) hv h
  obtain ⟨a, ha, _, _⟩ := DataW.trod_int Try.underlying3 h0
  obtain ⟨b, hb, _, _⟩ := DataW.trod_int Try.underlying3 h1
  obtain ⟨c, hc, _, _⟩ := DataW.trod_int Try.underlying3 h2
  obtain ⟨x, hx, _, _⟩ := DataW.trod_int Try.underlying22 h3
  injection ha with ha
  injection hb with hb
  injection hc with hc
  injection hx with hx
  subst ha hb hc hx
  exact ⟨a, b, c, x, rfl⟩

theorem flip {P : Program} {f : FuncId} {args : Array Value} {w : World} {v : Value} (h : Calls P f args w fun e w' => e = .returned v ∧ w = w') : Calls P f args w fun e w' => e = .returned v ∧ w' = w :=
  h.mono fun _ _ h => ⟨h.1, h.2.symm⟩

set_option maxRecDepth 100000 in
set_option maxHeartbeats 4000000 in
theorem walk (v0 : Value) (w : World) (h0 : Arg 0 w v0) :
    Calls Try.prog 5 #[v0] w fun e w' => e = .returned (.bool true) ∧ Below w.heap.size w w' := by
  obtain ⟨a, b, c, x, rfl⟩ := h0
  go_enter Try.func5, Try.ntmps5
  go_wp2_with (first
    | ((with_reducible refine wl_box rfl 54 _ rfl (#[.int .i64 a, .int .i64 b, .int .i64 c, .int .u64 x]) rfl ?_); intro w1 k1 b1 s1; have f1 := k1.cellv 1 (.int .i64 b) rfl; have f2 := k1.cellv 2 (.int .i64 c) rfl; have f3 := k1.cellv 3 (.int .u64 x) rfl))
  refine (setN x _).mono ?_
  rintro e w2 ⟨rfl, rfl⟩
  clear k1
  have hw0 : IntKind.i64.wrap 0 = 0 := by decide
  go_wp2_with fail
  refine wp_region_still_tail 47 (by kernel_rfl) (by kernel_rfl) ?_
  simp only [List.take_succ_cons, List.take_zero, List.drop_succ_cons, List.drop_zero]
  repeat (first
    | still_step
    | still_call (flip (goN x _))
    | still_call (flip (nowN _))
    | still_call (flip (spendN b c _))
    | still_call (flip (spentN b _))
    | still_call (flip (clearN b _))
    | still_call (flip (allN _))
    | still_call (flip (dueN x _))
    | still_call (flip (offN _)))
  refine wpStill_nil ?_
  change wpList _ _ _ _ _ w1.drew
  go_wp2_with fail
  refine (awake_c _).mono ?_
  rintro e w3 ⟨rfl, b3⟩
  go_wp2
  go_ret
  exact ⟨rfl, bl_then (bl_drew b1) b3⟩
end Go.Proofs.Ytcomgmgmpmjnkaa.ClockNone
