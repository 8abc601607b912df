/- LedgerNone: with a nil ledger the law's text returns true. -/
import Derived.Test.YteokofkdfeglnaaLedger4
import Derived.Test.YteokofkdfeglnaaLedgerArg
set_option linter.unusedVariables false
namespace Go.Proofs.Yteokofkdfeglnaa.LedgerNone
open Go.RowKit Go.Proofs.Yteokofkdfeglnaa.Base Go.Proofs.Yteokofkdfeglnaa.Row Go.Proofs.Yteokofkdfeglnaa.Ledger Go.Proofs.Yteokofkdfeglnaa.Ledger2 Go.Proofs.Yteokofkdfeglnaa.Ledger3 Go.Proofs.Yteokofkdfeglnaa.Ledger4 Go.Proofs.Yteokofkdfeglnaa.LedgerArg

def Arg (i : Nat) (w : World) (v : Value) : Prop := Five v
theorem arg0 {H : Type} {enc : TypeId × Value → H} {W : World} {base : Nat} {v : Value} {d : DataW H} {p : List MemPlace} (hv : Value.okWide Try.prog W .any base 52 v)
    (h : DataW.Trod enc Try.prog W 0 (fun _ => true) true 52 v d p) : Arg 0 W v := five_of hv h

set_option maxRecDepth 100000 in
set_option maxHeartbeats 4000000 in
theorem walk (v0 : Value) (w : World) (h0 : Arg 0 w v0) :
    Calls Try.prog 9 #[v0] w fun e w' => e = .returned (.bool true) ∧ Below w.heap.size w w' := by
  obtain ⟨k0, en, to, k, n, rfl⟩ := h0
  go_enter Try.func9, Try.ntmps9
  go_wp2_with (first
    | ((with_reducible refine wl_box rfl 52 _ rfl (#[.int .i64 k0, .int .i64 en, .int .i64 to, .int .i64 k, .int .i64 n]) rfl ?_); intro w1 k1 b1 s1; have f1 := k1.cellv 1 (.int .i64 en) rfl; have f2 := k1.cellv 2 (.int .i64 to) rfl; have f3 := k1.cellv 3 (.int .i64 k) rfl; have f4 := k1.cellv 4 (.int .i64 n) rfl))
  refine (quota_nil en k _).mono ?_
  rintro r w2 ⟨rfl, rfl⟩
  have hw0 : IntKind.i64.wrap 0 = 0 := by decide
  go_wp2_with fail
  refine (left_nil en k _).mono ?_
  rintro r w2 ⟨rfl, rfl⟩
  go_wp2_with fail
  refine (take_nil en k n _).mono ?_
  rintro r w2 ⟨rfl, rfl⟩
  go_wp2_with fail
  refine (free_nil en k n _).mono ?_
  rintro r w2 ⟨rfl, rfl⟩
  go_wp2_with fail
  refine (move_nil en to k n _).mono ?_
  rintro r w2 ⟨rfl, rfl⟩
  go_wp2_with fail
  refine (close_nil en to _).mono ?_
  rintro r w2 ⟨rfl, rfl⟩
  go_wp2_with fail
  refine (awake_c _).mono ?_
  rintro r w3 ⟨rfl, b3⟩
  go_wp2
  go_ret
  exact ⟨rfl, bl_then b1 b3⟩
end Go.Proofs.Yteokofkdfeglnaa.LedgerNone
