/- Loads of whole variables in a region that draws its order. No program in sight. -/
import Derived.Test.YtdokmnpkihmkpaaStEq
import Derived.Deep.RegionHeld3
set_option linter.unusedVariables false
namespace Go.Proofs.Ytdokmnpkihmkpaa.Held
open Go.RowKit Go.Proofs.Ytdokmnpkihmkpaa.Base Go.Proofs.Ytdokmnpkihmkpaa.Row Go.Proofs.Ytdokmnpkihmkpaa.StEq
section
variable {P : Program} {ops : Array Oper} {S : World → Prop} {op : Oper} {a : Act}
theorem yIf_load (T : TypeId) (x : Operand) (g : Nat) (t : TypeId) (cs : Array Value) (d : TypeDesc) (hS : ∀ w, S w → Blk w g t cs) (hu : P.underlying T = some d) (hd : d.isRow = true) (hi : (P.info? T).map (·.size) = some cs.size)
    (hw : Region.wanted op (yielded ops a.tmps) = true) (ho : op.op = .load T x) (hx : a.eval x = .pointer (some ⟨g, 0, none⟩)) : YieldsIf P ops S op (.agg cs) a := by
  have := yieldsIf_load_mid (P := P) (ops := ops) (S := S) (op := op) (a := a) hw T x ho g 0 hx cs.toList d (fun w h => Blk.rangeL (hS w h) 0 _ (fun j v hj => by rw [Nat.zero_add, ← Array.getElem?_toList]; exact hj)) hu hd (by rw [hi, Array.length_toList])
  simpa using this
/-- '==' of structs and arrays whose outcome is known. -/
theorem yIf_eql (t : TypeId) (x y : Operand) (yt : TypeId) (xs ys : Array Value) (hm : P.eqGuardType P.depth t = false) (b : Bool) (he : ∀ w, (Op.equalIn 10000 t (.agg xs) (.agg ys)).run P w = .ok b w)
    (hw : Region.wanted op (yielded ops a.tmps) = true) (ho : op.op = .binOp .eql t x y yt) (hx : a.eval x = .agg xs) (hy : a.eval y = .agg ys) : YieldsIf P ops S op (.bool b) a :=
  .inl ⟨hw, fun w hw' => by
    unfold execOp
    simp only [ho, hx, hy, Sem.run_bind, run_eqGuard_agg, hm, run_eql_struct, he w, Result.andThen_ok]
    rfl⟩
theorem yIf_neq (t : TypeId) (x y : Operand) (yt : TypeId) (xs ys : Array Value) (hm : P.eqGuardType P.depth t = false) (b : Bool) (he : ∀ w, (Op.equalIn 10000 t (.agg xs) (.agg ys)).run P w = .ok b w)
    (hw : Region.wanted op (yielded ops a.tmps) = true) (ho : op.op = .binOp .neq t x y yt) (hx : a.eval x = .agg xs) (hy : a.eval y = .agg ys) : YieldsIf P ops S op (.bool (!b)) a :=
  .inl ⟨hw, fun w hw' => by
    unfold execOp
    simp only [ho, hx, hy, Sem.run_bind, run_eqGuard_agg, hm, run_neq_struct, he w, Result.andThen_ok]
    rfl⟩
end
end Go.Proofs.Ytdokmnpkihmkpaa.Held
