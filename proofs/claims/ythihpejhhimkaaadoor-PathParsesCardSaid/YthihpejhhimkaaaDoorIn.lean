/- Laws of the walk inside a fence, for arrays and structs that lie in a block known whole. No program in sight. -/
import Derived.RangeFuncNested
import Derived.RangeFuncBound
import Derived.RangeFuncCalls
import Derived.RangeFuncLeaves
import Derived.Shelf.Abstract
import Derived.Shelf.RegionOpen
import Derived.OwnWalkIn
import Derived.TacticsInMore
import Derived.LoopNIn
import Derived.LoopIn
import Derived.Test.YthihpejhhimkaaaDoorHeldW
set_option linter.unusedVariables false
namespace Go.Proofs.YthihpejhhimkaaaDoor.In
open Go.RowKit Go.Shelf Go.Proofs.YthihpejhhimkaaaDoor.Base Go.Proofs.YthihpejhhimkaaaDoor.Row Go.Proofs.YthihpejhhimkaaaDoor.Out
section
variable {F : Fence} {n : Nat} {P : Program} {ops : Array Oper} {Q : Exit → Act → World → Prop} {rest : List Oper} {o : Oper} {a : Act} {W : World}
theorem about_none (hc : ∀ c, o.op ≠ .call c) : o.about P W a.eval = none := by
  unfold Oper.about
  cases ho : o.op <;> first | rfl | exact absurd ho (hc _)
theorem wlin_of (hg : o.guard = none) (hc : ∀ c, o.op ≠ .call c) (hd : ∀ c, o.op ≠ .defer c) {v : Value} {W' : World} (hrun : (execOp a.eval o).run P W = .ok (.value v) W')
    (h : wpListIn F n P ops Q rest (a.put o.dst v) W') : wpListIn F n P ops Q (o :: rest) a W := by
  refine wpListIn_plain hg fun K hK => ?_
  unfold Oper.wpIn
  refine ⟨fun f hf => (by rw [about_none hc] at hf; cases hf), ?_⟩
  rw [Oper.semAt_eq _ _ _ hd, hrun]
  exact hK _ _ h
theorem wlin_skip (hg : o.guard = none) (hc : ∀ c, o.op ≠ .call c) (hd : ∀ c, o.op ≠ .defer c) {W' : World} (hrun : (execOp a.eval o).run P W = .ok .skip W')
    (h : wpListIn F n P ops Q rest (a.put o.dst undef) W') : wpListIn F n P ops Q (o :: rest) a W := by
  refine wpListIn_plain hg fun K hK => ?_
  unfold Oper.wpIn
  refine ⟨fun f hf => (by rw [about_none hc] at hf; cases hf), ?_⟩
  rw [Oper.semAt_eq _ _ _ hd, hrun]
  exact hK _ _ h
/-- A part of a block read. -/
theorem wlin_load (hgd : o.guard = none) (T : TypeId) (x : Operand) (ho : o.op = .load T x) (g off : Nat) (hx : a.eval x = .pointer (some ⟨g, off, none⟩)) (t : TypeId) (cs : Array Value) (l : List Value) (d : TypeDesc)
    (hg : Blk W g t cs) (hl : ∀ j v, l[j]? = some v → cs[off + j]? = some v) (hu : P.underlying T = some d) (hd : d.isRow = true) (hi : (P.info? T).map (·.size) = some l.length)
    (h : wpListIn F n P ops Q rest (a.put o.dst (.agg l.toArray)) W) : wpListIn F n P ops Q (o :: rest) a W := by
  refine wlin_of hgd (by rw [ho]; intro c e; cases e) (by rw [ho]; intro c e; cases e) ?_ h
  unfold execOp
  simp only [ho, hx, Instr.loadAt, Instr.sureAddr, Sem.run_bind, Sem.run_pure, Result.andThen_ok, run_loadVar_mid W g off T l d (hg.rangeL off l hl) hu hd hi]
/-- A new variable. -/
theorem wlin_alloc (hgd : o.guard = none) (T : TypeId) (ho : o.op = .alloc T) (cs : Array Value) (hz : (P.info? T).map (fun i => i.zero.map (·.cells)) = some (some cs))
    (h : ∀ w', Blk w' W.heap.size T cs → Below W.heap.size W w' → W.heap.size < w'.heap.size → w' = W.alloc (.cells cs T) → wpListIn F n P ops Q rest (a.put o.dst (.pointer (some ⟨W.heap.size, 0, none⟩))) w') : wpListIn F n P ops Q (o :: rest) a W := by
  refine wlin_of hgd (by rw [ho]; intro c e; cases e) (by rw [ho]; intro c e; cases e) ?_ (h _ (Blk.new W T cs) (bl_alloc (bl_refl W) _) (by simp) rfl)
  unfold execOp
  simp only [ho, Sem.run_bind, Sem.run_pure, run_alloc_zero T cs hz, Result.andThen_ok]
/-- A part of a block written. -/
theorem wlin_store (hgd : o.guard = none) (T : TypeId) (x y : Operand) (ho : o.op = .store T x y) (g off : Nat) (hx : a.eval x = .pointer (some ⟨g, off, none⟩)) (cells : Array Value) (hy : a.eval y = .agg cells)
    (t : TypeId) (old : Array Value) (hg : Blk W g t old) (hi : (P.info? T).map (·.size) = some cells.size) (hold : off + cells.size ≤ old.size) (h1 : ∀ v ∈ cells, v.oneCell' = true)
    (h : ∀ w', Blk w' g t (lay old off cells.toList) → W.grownBy w' (some g) → W.heap.size ≤ w'.heap.size → wpListIn F n P ops Q rest (a.put o.dst undef) w') : wpListIn F n P ops Q (o :: rest) a W := by
  refine wlin_skip hgd (by rw [ho]; intro c e; cases e) (by rw [ho]; intro c e; cases e) ?_ (h _ (hg.setCells cells.toList off) (grownBy_setCells g cells.toList off W) (Nat.le_of_eq (size_setCells g cells.toList off W).symm))
  unfold execOp
  simp only [ho, hx, hy, Instr.storeAt, Instr.sureAddr, Sem.run_bind, Sem.run_pure, Result.andThen_ok, run_storeVar_mid W g off T cells (hg.there off _ hold) hi (Array.all_eq_true_iff_forall_mem.2 h1)]
end
/-- A block of cells is no block of the loop's own. -/
theorem blk_own {α : Type} (g : Nat) (t : TypeId) (f : List α → Array Value) : Own (fun (pre : List α) W => Blk W g t (f pre)) := fun s A B row hs hg hr =>
  Blk.grown hs hg (fun e => by
    obtain ⟨o, ho, hc⟩ := hr g e.symm
    unfold Blk at hs
    rw [hs] at ho
    injection ho with ho
    subst ho
    cases hc)
end Go.Proofs.YthihpejhhimkaaaDoor.In
